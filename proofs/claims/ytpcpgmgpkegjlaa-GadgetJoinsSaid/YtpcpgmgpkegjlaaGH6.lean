/- Walks: the reference's products of elements. -/
import Derived.Test.YtpcpgmgpkegjlaaGH3b
namespace Go.Proofs.Ytpcpgmgpkegjlaa
open Go.RowKit Go.Shelf Go.BigFrame
set_option maxRecDepth 100000 in
set_option maxHeartbeats 40000000 in
theorem rmul_any (N pr pw wt er : Int) (cv : Value) (chain : List Nat) (sp : Nat) (la lb : Int) (sa sb : Bool) (av bv : Value) (xs ys : List (List Nat)) (w : World) (hr : w.reads w.heap.size cv (chain.map u32V)) (ha : w.rows u32V w.heap.size av xs) (hb : w.rows u32V w.heap.size bv ys) :
    Calls Try.prog 25 #[.agg #[.int .i64 N, .int .u32 pr, .int .i64 pw, cv, .int .u32 (sp : Int), .int .i64 wt, .int .u32 er], .agg #[.int .i64 la, .bool sa, av], .agg #[.int .i64 lb, .bool sb, bv]] w (EltPost (twoB N chain sp la lb sa sb xs ys) la sa (zipRows (prodRow N.toNat) (modl chain sp la.toNat sa) xs ys (modl chain sp la.toNat sa).length) w) := by
  obtain ⟨r, hrr⟩ : ∃ r, r = twoB N chain sp la lb sa sb xs ys := ⟨_, rfl⟩
  rw [← hrr]
  obtain ⟨mr, hmr⟩ : ∃ mr, mr = zipRows (prodRow N.toNat) (modl chain sp la.toNat sa) xs ys (modl chain sp la.toNat sa).length := ⟨_, rfl⟩
  rw [← hmr]
  obtain ⟨a, cap, rfl, hcap, hmx, -⟩ := reads_u32 hr
  obtain ⟨aa, ac, rfl, hac, ham, has⟩ := ha.shape
  obtain ⟨ba, bc, rfl, hbc, hbm, hbs⟩ := hb.shape
  obtain ⟨W0, hW0⟩ : ∃ W0, W0 = (((w.alloc (.cells #[.int .i64 N, .int .u32 pr, .int .i64 pw, .slice a chain.length cap, .int .u32 (sp : Int), .int .i64 wt, .int .u32 er] 25)).alloc (.cells #[.int .i64 la, .bool sa, .slice aa xs.length ac] 28)).alloc (.cells #[.int .i64 lb, .bool sb, .slice ba ys.length bc] 28)).alloc (.cells #[.int .i64 0, .bool false, .slice none 0 0] 28) := ⟨_, rfl⟩
  have hB0 : Below w.heap.size w W0 := by rw [hW0]; exact ((((Below.refl _ w).alloc (Nat.le_refl _) _).alloc (by simp) _).alloc (by first | (simp; done) | (simp; omega)) _).alloc (by first | (simp; done) | (simp; omega)) _
  have g0 : W0.heap[w.heap.size]? = some (.cells #[.int .i64 N, .int .u32 pr, .int .i64 pw, .slice a chain.length cap, .int .u32 (sp : Int), .int .i64 wt, .int .u32 er] 25) := by rw [hW0, Below.heap_alloc _ _ _ (by first | (simp; done) | (simp; omega)), Below.heap_alloc _ _ _ (by first | (simp; done) | (simp; omega)), Below.heap_alloc _ _ _ (by simp)]; exact alloc_last _ _ rfl
  have e0 : W0.heap[w.heap.size + 1]? = some (.cells #[.int .i64 la, .bool sa, .slice aa xs.length ac] 28) := by rw [hW0, Below.heap_alloc _ _ _ (by first | (simp; done) | (simp; omega)), Below.heap_alloc _ _ _ (by simp)]; exact alloc_last _ _ (by simp)
  have e1 : W0.heap[w.heap.size + 1 + 1]? = some (.cells #[.int .i64 lb, .bool sb, .slice ba ys.length bc] 28) := by rw [hW0, Below.heap_alloc _ _ _ (by simp)]; exact alloc_last _ _ (by simp)
  have e2 : W0.heap[w.heap.size + 1 + 1 + 1]? = some (.cells #[.int .i64 0, .bool false, .slice none 0 0] 28) := by rw [hW0]; exact alloc_last _ _ (by simp)
  have hz0 := lt_of_heap e2
  have HR0 := Lib.hid ((hr.below hB0).mono hB0.size)
  have HA0 := Lib.hid ((ha.below hB0).mono hB0.size)
  have HB0 := Lib.hid ((hb.below hB0).mono hB0.size)
  have HT := Lib.hid (two_any N pr pw wt er _ chain sp la lb sa sb _ _ xs ys W0 HR0.out HA0.out HB0.out)
  rw [← hrr] at HT
  unfold OkPost at HT
  obtain ⟨c0, c1, c2, c3, c4, c5, c6⟩ := par_cells g0
  obtain ⟨k0, k1, k2, -, -, -⟩ := elem_cells e0
  obtain ⟨j0, j1, j2, -, -, -⟩ := elem_cells e1
  have HG0 := Lib.hid g0
  have HE0 := Lib.hid e0
  have HE1 := Lib.hid e1
  have HE2 := Lib.hid e2
  have HW0 := Lib.hid hW0
  have HRR := Lib.hid hrr
  have HMR := Lib.hid hmr
  have HAS := Lib.hid has
  have HBS := Lib.hid hbs
  clear hr ha hb g0 e0 e1 e2 hW0 hrr hmr has hbs
  cases r
  · go_enter Try.func25, Try.ntmps25
    go_upto_region 1 with (fail)
    rw [← HW0.out]
    go_wp2_with fail
    refine HT.out.mono ?_
    rintro e w1 ⟨rfl, hb1⟩
    have he1 := (hb1.block _ hz0).trans HE2.out
    obtain ⟨q0, q1, q2, f0, f1, f2⟩ := elem_cells he1
    have hBw := hB0.trans (hb1.mono hB0.size)
    clear he1
    go_wp2
    refine bodyPost_ret (v := .tuple #[.agg #[.int .i64 0, .bool false, .slice none 0 0], .int .i64 2]) ?_ rfl (EltPost.no_ ?_)
    · simp [results, Try.results25, go_sem, q0, q1, q2]
    · exact ((hBw.setCell (by simp; omega) _).setCell (by simp; omega) _).setCell (by simp; omega) _
  obtain ⟨rfl, rfl, n, lv, rfl, rfl, i1, i2, i3, i4, i5, i6, i7, i8⟩ := twoB_elt HRR.out.symm
  have HMR2 : Hid (mr = zipRows (prodRow n) (modl chain sp lv sa) xs ys (modl chain sp lv sa).length) := by show _ = _; rw [HMR.out]; simp only [Int.toNat_natCast]
  have HMO := Lib.hid (fun W hb => rmoduli_any (n : Int) pr pw wt er _ chain sp lv sa W ((HR0.out.below hb).mono (Below.size hb)) i3 i4 i5)
  unfold ModPost at HMO
  have hml := modl_length chain sp lv sa i4
  obtain ⟨ml, hmlE⟩ : ∃ ml, ml = modl chain sp lv sa := ⟨_, rfl⟩
  rw [← hmlE] at HMO HMR2 i6 i7 i8 hml
  have hRb : ml.length ≤ 25 := by rw [hml]; split <;> omega
  obtain ⟨R, hR⟩ : ∃ R, R = ml.length := ⟨_, rfl⟩
  rw [i7.1, ← hR] at hac
  rw [i8.1, ← hR] at hbc
  have HI1 := Lib.hid i7.1
  have HI2 := Lib.hid i8.1
  rw [HI1.out, HI2.out, ← hR] at HW0
  rw [HI1.out, ← hR] at HE0 k2
  rw [HI2.out, ← hR] at HE1 j2
  rw [HI1.out, HI2.out, ← hR] at HT
  rw [HI1.out, HI2.out, ← hR]
  rw [← hR] at hRb
  have HRN := Lib.hid hR
  have HAE := Lib.hid i7
  have HBE := Lib.hid i8
  have HMOK := Lib.hid i6
  clear i6 i7 i8 HMR HRR hmlE hml hR i3 i4 i5
  go_enter Try.func25, Try.ntmps25
  go_upto_region 1 with (fail)
  rw [← HW0.out]
  go_wp2_with fail
  refine HT.out.mono ?_
  rintro e w2 ⟨rfl, hb1⟩
  have hs2 := hb1.size
  have he1 := (hb1.block (w.heap.size + 1) (by omega)).trans HE0.out
  clear c0 c1 c2 c3 c4 c5 c6 k0 k1 k2 j0 j1 j2
  obtain ⟨k0, k1, k2, -, -, -⟩ := elem_cells he1
  clear he1
  obtain ⟨W3, hW3⟩ : ∃ W3, W3 = w2.alloc (.cells #[.int .i64 (lv : Int), .bool sa, .slice none 0 0] 28) := ⟨_, rfl⟩
  have hb3 : Below w2.heap.size w2 W3 := by rw [hW3]; exact (Below.refl _ _).alloc (Nat.le_refl _) _
  have g3 : W3.heap[w2.heap.size]? = some (.cells #[.int .i64 (lv : Int), .bool sa, .slice none 0 0] 28) := by rw [hW3]; exact alloc_last _ _ rfl
  have hz3 := lt_of_heap g3
  have hB3 := hb1.trans (hb3.mono hs2)
  have HM3 := HMO.out W3 hB3
  have HG3 := Lib.hid ((hB3.block w.heap.size (by omega)).trans HG0.out)
  have HK3 := Lib.hid ((hB3.block (w.heap.size + 1) (by omega)).trans HE0.out)
  have HW3 := Lib.hid hW3
  clear hW3
  go_upto_region 4 with (fail)
  rw [← HW3.out]
  clear k0 k1 k2
  obtain ⟨c0, c1, c2, c3, c4, c5, c6⟩ := par_cells HG3.out
  obtain ⟨k0, k1, k2, -, -, -⟩ := elem_cells HK3.out
  go_wp2_with fail
  refine HM3.mono ?_
  rintro e W4 ⟨⟨v, rfl, hv⟩, hb4⟩
  have hB4 := hB3.trans (hb4.mono hB3.size)
  have hs4 := hb4.size
  have hBw4 := hB0.trans (hB4.mono hB0.size)
  have hg4 := (hb4.block _ hz3).trans g3
  have hb34 : w2.heap.size < W4.heap.size := by omega
  obtain ⟨va, vc, rfl, hvc, hvm, hvs⟩ := reads_u32 hv
  have HVS : Hid (∀ (j x : Nat), ml[j]? = some x → ∃ b off, va = some ⟨b, off, none⟩ ∧ b < W4.heap.size ∧ b ≠ w2.heap.size ∧ W4.cell? ⟨b, off + j, none⟩ = some (.int .u32 (x : Int))) := by
    intro j x hj
    obtain ⟨b, off, q1, q2, q3⟩ := hvs j x hj
    exact ⟨b, off, q1, q2, u32_not_elem hg4 q3, q3⟩
  have HA4 : Hid (∀ (j : Nat) (r : List Nat), xs[j]? = some r → ∃ b off b2 c2, aa = some ⟨b, off, none⟩ ∧ b < w.heap.size ∧ W4.cell? ⟨b, off + j, none⟩ = some (.slice b2 r.length c2) ∧ W4.reads w.heap.size (.slice b2 r.length c2) (r.map u32V)) := by
    intro j x hj
    obtain ⟨b, off, b2, c2, q1, q2, q3, q4⟩ := HAS.out j x hj
    exact ⟨b, off, b2, c2, q1, q2, (hBw4.cell (p := ⟨b, off + j, none⟩) q2).trans q3, q4.below hBw4⟩
  have HB4 : Hid (∀ (j : Nat) (r : List Nat), ys[j]? = some r → ∃ b off b2 c2, ba = some ⟨b, off, none⟩ ∧ b < w.heap.size ∧ W4.cell? ⟨b, off + j, none⟩ = some (.slice b2 r.length c2) ∧ W4.reads w.heap.size (.slice b2 r.length c2) (r.map u32V)) := by
    intro j x hj
    obtain ⟨b, off, b2, c2, q1, q2, q3, q4⟩ := HBS.out j x hj
    exact ⟨b, off, b2, c2, q1, q2, (hBw4.cell (p := ⟨b, off + j, none⟩) q2).trans q3, q4.below hBw4⟩
  rw [← HRN.out] at hvc ⊢
  have hO0' : Hid (OutE w W4 w2.heap.size (lv : Int) sa (zipRows (prodRow n) ml xs ys 0) W4) := OutE.start (w := w) hg4 hBw4
  have HAC := Lib.hid ((hB4.block (w.heap.size + 1) (by omega)).trans HE0.out)
  have HBC := Lib.hid ((hB4.block (w.heap.size + 1 + 1) (by omega)).trans HE1.out)
  have HRC := Lib.hid ((hB4.block (w.heap.size + 1 + 1 + 1) (by omega)).trans HE2.out)
  obtain ⟨i1', hi1, hi1z, hi1z1, hi1b⟩ := info_parts infoU32r
  clear c0 c1 c2 c3 c4 c5 c6 k0 k1 k2 g3 hv hvs hg4 HM3 hBw4 hb3 hb4 hB3 hB4 hB0 HMO hb1
  go_wp2_with fail
  go_loopw [10] (fun ii wr => ∃ k : Nat, k ≤ R ∧ ii = .int .i64 (k : Int) ∧ Hid (OutE w W4 w2.heap.size (lv : Int) sa (zipRows (prodRow n) ml xs ys k) wr)) (fun ii _ => R - (intOf ii).toNat)
  case atStart => exact ⟨0, Nat.zero_le _, rfl, hO0'⟩
  case round =>
    obtain ⟨wo, rfl⟩ : ∃ x, x = wr := ⟨_, rfl⟩
    clear hO0'
    obtain ⟨k, hk, rfl, hO⟩ := hrel
    obtain ⟨hsr, hsb⟩ := hO.out.size
    by_cases hlt : k < R
    · obtain ⟨q, hq⟩ : ∃ x, ml[k]? = some x := ⟨ml[k]'(by rw [← HRN.out]; exact hlt), List.getElem?_eq_getElem _⟩
      obtain ⟨ra, hra⟩ : ∃ x, xs[k]? = some x := ⟨xs[k]'(by rw [HAE.out.1, ← HRN.out]; exact hlt), List.getElem?_eq_getElem _⟩
      obtain ⟨rb, hrb⟩ : ∃ x, ys[k]? = some x := ⟨ys[k]'(by rw [HBE.out.1, ← HRN.out]; exact hlt), List.getElem?_eq_getElem _⟩
      obtain ⟨vb, vo, rfl, hvb1, hvb2, hcq⟩ := HVS.out k q hq
      obtain ⟨ab, ao, axb, axc, rfl, hab, hcx, hxr⟩ := HA4.out k ra hra
      obtain ⟨bb, bo, bxb, bxc, rfl, hbb, hcy, hyr⟩ := HB4.out k rb hrb
      obtain ⟨hran, q', hq', hraq⟩ := HAE.out.2 k ra hra
      obtain rfl : q = q' := by rw [hq] at hq'; injection hq'
      obtain ⟨hrbn, q', hq'2, hrbq⟩ := HBE.out.2 k rb hrb
      obtain rfl : q = q' := by rw [hq] at hq'2; injection hq'2
      have hqr := HMOK.out q (List.mem_of_getElem? hq)
      have s1 : wo.cell? ⟨vb, vo + k, none⟩ = some (.int .u32 (q : Int)) := (hO.out.cell hvb1 hvb2).trans hcq
      have s2 : wo.cell? ⟨ab, ao + k, none⟩ = some (.slice axb n axc) := by rw [hO.out.cell (by omega) (by omega), hcx, hran]
      have s3 : wo.cell? ⟨bb, bo + k, none⟩ = some (.slice bxb n bxc) := by rw [hO.out.cell (by omega) (by omega), hcy, hrbn]
      obtain ⟨-, -, s4, -, -, -⟩ := elem_cells ((hO.out.block (b := w.heap.size + 1) (by omega) (by omega)).trans HAC.out)
      obtain ⟨-, -, s5, -, -, -⟩ := elem_cells ((hO.out.block (b := w.heap.size + 1 + 1) (by omega) (by omega)).trans HBC.out)
      obtain ⟨oa, oc, o1, o2⟩ := hO.out.open_
      have hol := zipRows_length (prodRow n) ml xs ys k
      rw [hol] at o1 o2
      obtain ⟨-, -, s6, -, -, -⟩ := elem_cells o1
      have hxr2 : wo.reads wo.heap.size (.slice axb n axc) (ra.map u32V) := by
        have := (hO.out.reads (B := w.heap.size) (by omega) (by omega) hxr).mono (show w.heap.size ≤ wo.heap.size by omega)
        rw [hran] at this; exact this
      have hyr2 : wo.reads wo.heap.size (.slice bxb n bxc) (rb.map u32V) := by
        have := (hO.out.reads (B := w.heap.size) (by omega) (by omega) hyr).mono (show w.heap.size ≤ wo.heap.size by omega)
        rw [hrbn] at this; exact this
      have HPR := Lib.hid (product_any q (by omega) (by omega) n i2 _ _ ra rb wo.drew hxr2.drew hyr2.drew hran hrbn hraq hrbq)
      have HQ := Lib.hid hq
      have HRA := Lib.hid hra
      have HRB := Lib.hid hrb
      have HO1 := Lib.hid o1
      have HO2 := Lib.hid o2
      have hl6 : (zipRows (prodRow n) ml xs ys k ++ [prodRow n q ra rb]).length = k + 1 := by rw [List.length_append, hol]; rfl
      have n1 : ¬ vb = w2.heap.size := hvb2
      have n2 : ¬ ab = w2.heap.size := by omega
      have n3 : ¬ bb = w2.heap.size := by omega
      have n4 : ¬ w.heap.size + 1 = w2.heap.size := by omega
      have n5 : ¬ w.heap.size + 1 + 1 = w2.heap.size := by omega
      have u1 : w.heap.size + 1 < wo.heap.size := by omega
      have u2 : w.heap.size + 1 + 1 < wo.heap.size := by omega
      have u3 : vb < wo.heap.size := by omega
      have u4 : ab < wo.heap.size := by omega
      have u5 : bb < wo.heap.size := by omega
      have z0 : (0 : Int) ≤ (k : Int) := by omega
      have z1 : (k : Int) < (R : Int) := by omega
      clear hq hra hrb hcq hcx hcy hxr hyr hraq hrbq hq' hq'2 o1 o2 hxr2 hyr2 hran hrbn
      go_wp2_with fail
      refine wp_region_line (fun w' => w'.cell? ⟨w2.heap.size, 2, none⟩ = some (.slice oa k oc) ∧ w'.cell? ⟨vb, vo + k, none⟩ = some (.int .u32 (q : Int)) ∧ w'.cell? ⟨w.heap.size + 1, 2, none⟩ = some (.slice (some ⟨ab, ao, none⟩) R ac) ∧ w'.cell? ⟨ab, ao + k, none⟩ = some (.slice axb n axc) ∧ w'.cell? ⟨w.heap.size + 1 + 1, 2, none⟩ = some (.slice (some ⟨bb, bo, none⟩) R bc) ∧ w'.cell? ⟨bb, bo + k, none⟩ = some (.slice bxb n bxc)) 20 (by kernel_rfl) ⟨s6, s1, s4, s2, s5, s3⟩ (fun hHeld => ?_)
      refine wpAnyT_take 0 (v := ?_) (by kernel_rfl) rfl (by kernel_rfl) (by decide) rfl (by kernel_rfl) (by kernel_rfl) (fun _ _ _ h => h) (Or.inl ⟨by rfl, ?_⟩) (by assumption) ?_
      rotate_left
      · (intro wq hSq; (try dsimp only at hSq); go_simp; try with_reducible rfl)
      try simp only [Act.put, List.setIfInBounds_toArray, List.set_cons_zero, List.set_cons_succ]
      refine wpAnyT_take 1 (v := ?_) (by kernel_rfl) rfl (by kernel_rfl) (by decide) rfl (by kernel_rfl) (by kernel_rfl) (fun _ _ _ h => h) (Or.inl ⟨by rfl, ?_⟩) (by assumption) ?_
      rotate_left
      · (intro wq hSq; (try dsimp only at hSq); go_simp; try with_reducible rfl)
      try simp only [Act.put, List.setIfInBounds_toArray, List.set_cons_zero, List.set_cons_succ]
      refine wpAnyT_take 2 (v := ?_) (by kernel_rfl) rfl (by kernel_rfl) (by decide) rfl (by kernel_rfl) (by kernel_rfl) (fun _ _ _ h => h) (Or.inl ⟨by rfl, ?_⟩) (by assumption) ?_
      rotate_left
      · (intro wq hSq; (try dsimp only at hSq); go_simp; try with_reducible rfl)
      try simp only [Act.put, List.setIfInBounds_toArray, List.set_cons_zero, List.set_cons_succ]
      refine wpAnyT_take 3 (v := ?_) (by kernel_rfl) rfl (by kernel_rfl) (by decide) rfl (by kernel_rfl) (by kernel_rfl) (fun _ _ _ h => h) (Or.inl ⟨by rfl, ?_⟩) (by assumption) ?_
      rotate_left
      · (intro wq hSq; (try dsimp only at hSq); go_simp; try with_reducible rfl)
      try simp only [Act.put, List.setIfInBounds_toArray, List.set_cons_zero, List.set_cons_succ]
      refine wpAnyT_take 4 (v := ?_) (by kernel_rfl) rfl (by kernel_rfl) (by decide) rfl (by kernel_rfl) (by kernel_rfl) (fun _ _ _ h => h) (Or.inl ⟨by rfl, ?_⟩) (by assumption) ?_
      rotate_left
      · (intro wq hSq; (try dsimp only at hSq); go_simp; try with_reducible rfl)
      try simp only [Act.put, List.setIfInBounds_toArray, List.set_cons_zero, List.set_cons_succ]
      refine wpAnyT_take 5 (v := ?_) (by kernel_rfl) rfl (by kernel_rfl) (by decide) rfl (by kernel_rfl) (by kernel_rfl) (fun _ _ _ h => h) (Or.inl ⟨by rfl, ?_⟩) (by assumption) ?_
      rotate_left
      · (intro wq hSq; (try dsimp only at hSq); go_simp; try with_reducible rfl)
      try simp only [Act.put, List.setIfInBounds_toArray, List.set_cons_zero, List.set_cons_succ]
      refine wpAnyT_take 6 (v := ?_) (by kernel_rfl) rfl (by kernel_rfl) (by decide) rfl (by kernel_rfl) (by kernel_rfl) (fun _ _ _ h => h) (Or.inl ⟨by rfl, ?_⟩) (by assumption) ?_
      rotate_left
      · (intro wq hSq; (try dsimp only at hSq); go_simp; try with_reducible rfl)
      try simp only [Act.put, List.setIfInBounds_toArray, List.set_cons_zero, List.set_cons_succ]
      refine wpAnyT_take 7 (v := ?_) (by kernel_rfl) rfl (by kernel_rfl) (by decide) rfl (by kernel_rfl) (by kernel_rfl) (fun _ _ _ h => h) (Or.inl ⟨by rfl, ?_⟩) (by assumption) ?_
      rotate_left
      · (intro wq hSq; (try dsimp only at hSq); go_simp; try with_reducible rfl)
      try simp only [Act.put, List.setIfInBounds_toArray, List.set_cons_zero, List.set_cons_succ]
      refine wpAnyT_take 8 (v := ?_) (by kernel_rfl) rfl (by kernel_rfl) (by decide) rfl (by kernel_rfl) (by kernel_rfl) (fun _ _ _ h => h) (Or.inl ⟨by rfl, ?_⟩) (by assumption) ?_
      rotate_left
      · (intro wq hSq; (try dsimp only at hSq); go_simp; try with_reducible rfl)
      try simp only [Act.put, List.setIfInBounds_toArray, List.set_cons_zero, List.set_cons_succ]
      refine wpAnyT_take 9 (v := ?_) (by kernel_rfl) rfl (by kernel_rfl) (by decide) rfl (by kernel_rfl) (by kernel_rfl) (fun _ _ _ h => h) (Or.inl ⟨by rfl, ?_⟩) (by assumption) ?_
      rotate_left
      · (intro wq hSq; (try dsimp only at hSq); go_simp; try with_reducible rfl)
      try simp only [Act.put, List.setIfInBounds_toArray, List.set_cons_zero, List.set_cons_succ]
      refine wpAnyT_take 10 (v := ?_) (by kernel_rfl) rfl (by kernel_rfl) (by decide) rfl (by kernel_rfl) (by kernel_rfl) (fun _ _ _ h => h) (Or.inl ⟨by rfl, ?_⟩) (by assumption) ?_
      rotate_left
      · (intro wq hSq; (try dsimp only at hSq); go_simp; try with_reducible rfl)
      try simp only [Act.put, List.setIfInBounds_toArray, List.set_cons_zero, List.set_cons_succ]
      refine wpAnyT_take 11 (v := ?_) (by kernel_rfl) rfl (by kernel_rfl) (by decide) rfl (by kernel_rfl) (by kernel_rfl) (fun _ _ _ h => h) (Or.inl ⟨by rfl, ?_⟩) (by assumption) ?_
      rotate_left
      · (intro wq hSq; (try dsimp only at hSq); go_simp; try with_reducible rfl)
      try simp only [Act.put, List.setIfInBounds_toArray, List.set_cons_zero, List.set_cons_succ]
      refine wpAnyT_take 12 (v := ?_) (by kernel_rfl) rfl (by kernel_rfl) (by decide) rfl (by kernel_rfl) (by kernel_rfl) (fun _ _ _ h => h) (Or.inl ⟨by rfl, ?_⟩) (by assumption) ?_
      rotate_left
      · (intro wq hSq; (try dsimp only at hSq); go_simp; try with_reducible rfl)
      try simp only [Act.put, List.setIfInBounds_toArray, List.set_cons_zero, List.set_cons_succ]
      refine wpAnyT_take 13 (v := ?_) (by kernel_rfl) rfl (by kernel_rfl) (by decide) rfl (by kernel_rfl) (by kernel_rfl) (fun _ _ _ h => h) (Or.inl ⟨by rfl, ?_⟩) (by assumption) ?_
      rotate_left
      · (intro wq hSq; (try dsimp only at hSq); go_simp; try with_reducible rfl)
      try simp only [Act.put, List.setIfInBounds_toArray, List.set_cons_zero, List.set_cons_succ]
      refine wpAnyT_take 14 (v := ?_) (by kernel_rfl) rfl (by kernel_rfl) (by decide) rfl (by kernel_rfl) (by kernel_rfl) (fun _ _ _ h => h) (Or.inl ⟨by rfl, ?_⟩) (by assumption) ?_
      rotate_left
      · (intro wq hSq; (try dsimp only at hSq); go_simp; try with_reducible rfl)
      try simp only [Act.put, List.setIfInBounds_toArray, List.set_cons_zero, List.set_cons_succ]
      refine wpAnyT_take 15 (v := ?_) (by kernel_rfl) rfl (by kernel_rfl) (by decide) rfl (by kernel_rfl) (by kernel_rfl) (fun _ _ _ h => h) (Or.inl ⟨by rfl, ?_⟩) (by assumption) ?_
      rotate_left
      · (intro wq hSq; (try dsimp only at hSq); go_simp; try with_reducible rfl)
      try simp only [Act.put, List.setIfInBounds_toArray, List.set_cons_zero, List.set_cons_succ]
      refine wpAnyT_step 16 (by kernel_rfl) rfl (fun K hK => ?_)
      go_simp
      go_at_call 45
      refine HPR.out.mono ?_
      rintro e w5 ⟨⟨u, rfl, hu⟩, hb5d⟩
      have hb5 : Below wo.heap.size wo w5 := ((Below.refl wo.heap.size wo).drew).trans hb5d
      have hs5 := hb5.size
      obtain ⟨ua, uc, rfl, -, -, -⟩ := hu.at_
      have hO5 := hO.out.below hb5
      have p6 : w5.cell? ⟨w2.heap.size, 2, none⟩ = some (.slice oa k oc) := (hb5.cell (p := ⟨w2.heap.size, 2, none⟩) hsb).trans s6
      have p1 : w5.cell? ⟨vb, vo + k, none⟩ = some (.int .u32 (q : Int)) := (hb5.cell (p := ⟨vb, vo + k, none⟩) u3).trans s1
      have p4 : w5.cell? ⟨w.heap.size + 1, 2, none⟩ = some (.slice (some ⟨ab, ao, none⟩) R ac) := (hb5.cell (p := ⟨w.heap.size + 1, 2, none⟩) u1).trans s4
      have p2 : w5.cell? ⟨ab, ao + k, none⟩ = some (.slice axb n axc) := (hb5.cell (p := ⟨ab, ao + k, none⟩) u4).trans s2
      have p5 : w5.cell? ⟨w.heap.size + 1 + 1, 2, none⟩ = some (.slice (some ⟨bb, bo, none⟩) R bc) := (hb5.cell (p := ⟨w.heap.size + 1 + 1, 2, none⟩) u2).trans s5
      have p3 : w5.cell? ⟨bb, bo + k, none⟩ = some (.slice bxb n bxc) := (hb5.cell (p := ⟨bb, bo + k, none⟩) u5).trans s3
      have HU : Hid (w5.owns W4.heap.size 22 1 (.slice ua n uc) (prodRow n q ra rb).length ((prodRow n q ra rb).map u32V)) := by
        show World.owns _ _ _ _ _ _ _
        have : (prodRow n q ra rb).length = n := by simp [prodRow]
        rw [this]; exact hu.mono hsr
      have p7 : (w5.alloc (.cells #[.slice ua n uc] 23)).cell? ⟨w2.heap.size, 2, none⟩ = some (.slice oa k oc) := (World.cell?_alloc_lt w5 _ ⟨w2.heap.size, 2, none⟩ (show w2.heap.size < w5.heap.size by omega)).trans p6
      have HO5 := Lib.hid hO5
      have HR5 := Lib.hid (HO2.out.below hb5)
      have HG5 := Lib.hid ((hb5.block _ hsb).trans HO1.out)
      clear hu hO5
      refine hK.out _ _ ⟨p6, p1, p4, p2, p5, p3⟩ (fun hHeld3 => ?_)
      clear hK K hHeld
      try simp only [Act.put, List.setIfInBounds_toArray, List.set_cons_zero, List.set_cons_succ]
      refine wpAnyT_step 17 (by kernel_rfl) rfl (fun K hK => ?_)
      go_simp
      refine hK.out _ _ ⟨p7, (World.cell?_alloc_lt w5 _ ⟨vb, vo + k, none⟩ (show vb < w5.heap.size by omega)).trans p1, (World.cell?_alloc_lt w5 _ ⟨w.heap.size + 1, 2, none⟩ (show w.heap.size + 1 < w5.heap.size by omega)).trans p4, (World.cell?_alloc_lt w5 _ ⟨ab, ao + k, none⟩ (show ab < w5.heap.size by omega)).trans p2, (World.cell?_alloc_lt w5 _ ⟨w.heap.size + 1 + 1, 2, none⟩ (show w.heap.size + 1 + 1 < w5.heap.size by omega)).trans p5, (World.cell?_alloc_lt w5 _ ⟨bb, bo + k, none⟩ (show bb < w5.heap.size by omega)).trans p3⟩ (fun hHeld4 => ?_)
      clear hK K hHeld3
      try simp only [Act.put, List.setIfInBounds_toArray, List.set_cons_zero, List.set_cons_succ]
      refine wpAnyT_step 18 (by kernel_rfl) rfl (fun K hK => ?_)
      refine step_pushRow (by rfl) (.tmp 35) (.tmp 51) 26 (by rfl) W4.heap.size 23 22 (by decide) i1' (.slice none 0 0) 24 Try.underlying26 hi1 hi1z hi1z1 hi1b rfl (.slice oa k oc) _ (by rfl) HR5.out _ (prodRow n q ra rb) HU.out w5.heap.size rfl (by rfl) (by rfl) (by rw [hol]; unfold maxLen; omega) (by rw [hol]; omega) (by omega) ?_
      intro v6 w6 hr6 hz6 hBB6 hKK6
      obtain ⟨va6, vc6, rfl⟩ := hr6.open_
      rw [hl6] at hr6 ⊢
      obtain ⟨h16, hO6⟩ := HO5.out.push (by omega) (by omega) hr6 hBB6
      obtain ⟨-, -, e26, -, -, f26⟩ := elem_cells (h16 _ HG5.out)
      have hb6 := hBB6 W4.heap.size w5 (Below.refl _ _) (Nat.le_refl _)
      have o1 : w6.cell? ⟨vb, vo + k, none⟩ = some (.int .u32 (q : Int)) := (hb6.cell (p := ⟨vb, vo + k, none⟩) hvb1).trans p1
      have o4 : w6.cell? ⟨w.heap.size + 1, 2, none⟩ = some (.slice (some ⟨ab, ao, none⟩) R ac) := (hb6.cell (p := ⟨w.heap.size + 1, 2, none⟩) (show w.heap.size + 1 < _ by omega)).trans p4
      have o2 : w6.cell? ⟨ab, ao + k, none⟩ = some (.slice axb n axc) := (hb6.cell (p := ⟨ab, ao + k, none⟩) (show ab < _ by omega)).trans p2
      have o5 : w6.cell? ⟨w.heap.size + 1 + 1, 2, none⟩ = some (.slice (some ⟨bb, bo, none⟩) R bc) := (hb6.cell (p := ⟨w.heap.size + 1 + 1, 2, none⟩) (show w.heap.size + 1 + 1 < _ by omega)).trans p5
      have o3 : w6.cell? ⟨bb, bo + k, none⟩ = some (.slice bxb n bxc) := (hb6.cell (p := ⟨bb, bo + k, none⟩) (show bb < _ by omega)).trans p3
      have HO6 := Lib.hid hO6
      clear hr6 hBB6 hKK6 hO6 h16 hb6
      refine hK.out _ _ ⟨e26, o1, o4, o2, o5, o3⟩ (fun hHeld5 => ?_)
      clear hK K hHeld4
      try simp only [Act.put, List.setIfInBounds_toArray, List.set_cons_zero, List.set_cons_succ]
      refine wpAnyT_take 19 (v := ?_) (by kernel_rfl) rfl (by kernel_rfl) (by decide) rfl (by kernel_rfl) (by kernel_rfl) (fun _ _ _ h => h) (Or.inl ⟨by rfl, ?_⟩) (by assumption) ?_
      rotate_left
      · (intro wq hSq; (try dsimp only at hSq); go_simp; try with_reducible rfl)
      try simp only [Act.put, List.setIfInBounds_toArray, List.set_cons_zero, List.set_cons_succ]
      refine wpAnyT_last (by kernel_rfl) (by kernel_rfl) rfl (fun K hK => ?_)
      go_simp
      refine hK.out _ _ ?_
      clear hK K hHeld5
      go_wp2
      go_roundw
      case rel =>
        refine ⟨k + 1, by omega, by go_num, ?_⟩
        show OutE _ _ _ _ _ _ _
        rw [zipRows_succ _ _ _ _ _ _ _ _ HQ.out HRA.out HRB.out]
        exact HO6.out
      case measure => simp [intOf]; omega
    · obtain rfl : k = R := by omega
      obtain ⟨oa, oc, o1, o2⟩ := hO.out.open_
      rw [zipRows_length] at o1
      obtain ⟨e0', e1', e2', -, -, -⟩ := elem_cells o1
      have he6 := (hO.out.block (b := w.heap.size + 1 + 1 + 1) (by omega) (by omega)).trans HRC.out
      obtain ⟨k0, k1, k2, f0, f1, f2⟩ := elem_cells he6
      have hlz := lt_of_heap he6
      have HO1 := Lib.hid o1
      have HE6 := Lib.hid he6
      have HMR3 : Hid (mr = zipRows (prodRow n) ml xs ys k) := by show _ = _; rw [HMR2.out, HRN.out]
      clear o1 o2 he6
      go_wp2
      obtain ⟨W6, hW6⟩ : ∃ W6, W6 = ((wo.setCell ⟨w.heap.size + 1 + 1 + 1, 0, none⟩ (.int .i64 (lv : Int))).setCell ⟨w.heap.size + 1 + 1 + 1, 1, none⟩ (.bool sa)).setCell ⟨w.heap.size + 1 + 1 + 1, 2, none⟩ (.slice oa k oc) := ⟨_, rfl⟩
      obtain ⟨h6, hr6, hB6⟩ := hO.out.store HO1.out (by omega) (by omega) HE6.out hW6
      obtain ⟨j0, j1, j2, -, -, -⟩ := elem_cells h6
      rw [← hW6]
      refine bodyPost_ret (v := .tuple #[.agg #[.int .i64 (lv : Int), .bool sa, .slice oa k oc], .int .i64 0]) ?_ rfl (EltPost.ok_ (by rw [HMR3.out]; exact hr6.mono (by have := hO.out.size; omega)) hB6)
      simp [results, Try.results25, go_sem, j0, j1, j2]
end Go.Proofs.Ytpcpgmgpkegjlaa
