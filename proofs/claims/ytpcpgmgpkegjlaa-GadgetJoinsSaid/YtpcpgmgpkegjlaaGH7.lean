/- Walks: the reference's restriction of an element to fewer moduli of the chain. -/
import Derived.Test.YtpcpgmgpkegjlaaGH3b
namespace Go.Proofs.Ytpcpgmgpkegjlaa
open Go.RowKit Go.Shelf Go.BigFrame
def resB (N : Int) (chain : List Nat) (sp : Nat) (la : Int) (sa : Bool) (xs : List (List Nat)) (level : Int) : Bool := checkB N chain sp la sa xs && decide (1 ≤ level) && decide (level ≤ la)
set_option maxRecDepth 100000 in
set_option maxHeartbeats 40000000 in
theorem restrict_any (N pr pw wt er : Int) (cv : Value) (chain : List Nat) (sp : Nat) (la : Int) (sa : Bool) (av : Value) (xs : List (List Nat)) (level : Int) (w : World) (hr : w.reads w.heap.size cv (chain.map u32V)) (ha : w.rows u32V w.heap.size av xs) :
    Calls Try.prog 26 #[.agg #[.int .i64 N, .int .u32 pr, .int .i64 pw, cv, .int .u32 (sp : Int), .int .i64 wt, .int .u32 er], .agg #[.int .i64 la, .bool sa, av], .int .i64 level, .bool false] w (EltPost (resB N chain sp la sa xs level) level false (xs.take level.toNat) w) := by
  obtain ⟨r, hrr⟩ : ∃ r, r = resB N chain sp la sa xs level := ⟨_, rfl⟩
  rw [← hrr]
  obtain ⟨mr, hmr⟩ : ∃ mr, mr = xs.take level.toNat := ⟨_, rfl⟩
  rw [← hmr]
  unfold resB at hrr
  obtain ⟨a, cap, rfl, hcap, hmx, -⟩ := reads_u32 hr
  obtain ⟨aa, ac, rfl, hac, ham, has⟩ := ha.shape
  obtain ⟨W0, hW0⟩ : ∃ W0, W0 = ((w.alloc (.cells #[.int .i64 N, .int .u32 pr, .int .i64 pw, .slice a chain.length cap, .int .u32 (sp : Int), .int .i64 wt, .int .u32 er] 25)).alloc (.cells #[.int .i64 la, .bool sa, .slice aa xs.length ac] 28)).alloc (.cells #[.int .i64 0, .bool false, .slice none 0 0] 28) := ⟨_, rfl⟩
  have hB0 : Below w.heap.size w W0 := by rw [hW0]; exact (((Below.refl _ w).alloc (Nat.le_refl _) _).alloc (by simp) _).alloc (by first | (simp; done) | (simp; omega)) _
  have g0 : W0.heap[w.heap.size]? = some (.cells #[.int .i64 N, .int .u32 pr, .int .i64 pw, .slice a chain.length cap, .int .u32 (sp : Int), .int .i64 wt, .int .u32 er] 25) := by rw [hW0, Below.heap_alloc _ _ _ (by first | (simp; done) | (simp; omega)), Below.heap_alloc _ _ _ (by simp)]; exact alloc_last _ _ rfl
  have e0 : W0.heap[w.heap.size + 1]? = some (.cells #[.int .i64 la, .bool sa, .slice aa xs.length ac] 28) := by rw [hW0, Below.heap_alloc _ _ _ (by simp)]; exact alloc_last _ _ (by simp)
  have e2 : W0.heap[w.heap.size + 1 + 1]? = some (.cells #[.int .i64 0, .bool false, .slice none 0 0] 28) := by rw [hW0]; exact alloc_last _ _ (by simp)
  have hz0 := lt_of_heap e2
  have HR0 := Lib.hid ((hr.below hB0).mono hB0.size)
  have HA0 := Lib.hid ((ha.below hB0).mono hB0.size)
  have HT := Lib.hid (rcheck_any N pr pw wt er _ chain sp la sa _ xs W0 HR0.out HA0.out)
  obtain ⟨ck, hck⟩ : ∃ ck, ck = checkB N chain sp la sa xs := ⟨_, rfl⟩
  rw [← hck] at HT hrr
  unfold ErrPost at HT
  obtain ⟨c0, c1, c2, c3, c4, c5, c6⟩ := par_cells g0
  obtain ⟨k0, k1, k2, -, -, -⟩ := elem_cells e0
  have HE0 := Lib.hid e0
  have HE2 := Lib.hid e2
  have HW0 := Lib.hid hW0
  have HRR := Lib.hid hrr
  have HMR := Lib.hid hmr
  have HAS := Lib.hid has
  have HCK := Lib.hid hck
  clear hr ha g0 e0 e2 hW0 hrr hmr has hck
  cases ck
  · obtain rfl : r = false := by rw [HRR.out]; rfl
    go_enter Try.func26, Try.ntmps26
    go_upto_region 1 with (fail)
    rw [← HW0.out]
    go_wp2_with fail
    refine HT.out.mono ?_
    rintro e w1 ⟨rfl, hb1⟩
    have he1 := (hb1.block _ hz0).trans HE2.out
    obtain ⟨q0, q1, q2, f0, f1, f2⟩ := elem_cells he1
    have hBw := hB0.trans (hb1.mono hB0.size)
    clear he1
    go_wp2
    refine bodyPost_ret (v := .tuple #[.agg #[.int .i64 0, .bool false, .slice none 0 0], .int .i64 2]) ?_ rfl (EltPost.no_ ?_)
    · simp [results, Try.results26, go_sem, q0, q1, q2]
    · exact ((hBw.setCell (by simp; omega) _).setCell (by simp; omega) _).setCell (by simp; omega) _
  have hrr2 : r = (decide (1 ≤ level) && decide (level ≤ la)) := by rw [HRR.out]; rfl
  obtain ⟨n, lv, rfl, rfl, i1, i2, i3, i4, i5, i6, i7⟩ := checkB_elt HCK.out.symm
  have HEK := Lib.hid i7
  have HML := Lib.hid (modl_length chain sp lv sa i4)
  have HRR2 := Lib.hid hrr2
  clear i6 i7 hrr2 HRR HCK
  go_enter Try.func26, Try.ntmps26
  go_upto_region 1 with (fail)
  rw [← HW0.out]
  go_wp2_with fail
  refine HT.out.mono ?_
  rintro e w1 ⟨rfl, hb1⟩
  have hs1 := hb1.size
  have he1 := (hb1.block (w.heap.size + 1) (by omega)).trans HE0.out
  have hf1 := (hb1.block _ hz0).trans HE2.out
  clear c0 c1 c2 c3 c4 c5 c6 k0 k1 k2
  obtain ⟨k0, k1, k2, -, -, -⟩ := elem_cells he1
  obtain ⟨q0, q1, q2, f0, f1, f2⟩ := elem_cells hf1
  have hBw := hB0.trans (hb1.mono hB0.size)
  have l2 : w.heap.size + 1 + 1 < w1.heap.size := by omega
  by_cases h1 : 1 ≤ level
  case neg =>
    obtain rfl : r = false := by rw [HRR2.out]; simp [h1]
    have t1 : level < 1 := by omega
    clear he1 hf1 h1
    go_wp2
    refine bodyPost_ret (v := .tuple #[.agg #[.int .i64 0, .bool false, .slice none 0 0], .int .i64 2]) ?_ rfl (EltPost.no_ ?_)
    · simp [results, Try.results26, go_sem, q0, q1, q2]
    · exact ((hBw.setCell (by simp; omega) _).setCell (by simp; omega) _).setCell (by simp; omega) _
  by_cases h2 : level ≤ (lv : Int)
  case neg =>
    obtain rfl : r = false := by rw [HRR2.out]; simp [h2]
    have t1 : (lv : Int) < level := by omega
    clear he1 hf1 h2
    go_wp2
    refine bodyPost_ret (v := .tuple #[.agg #[.int .i64 0, .bool false, .slice none 0 0], .int .i64 2]) ?_ rfl (EltPost.no_ ?_)
    · simp [results, Try.results26, go_sem, q0, q1, q2]
    · exact ((hBw.setCell (by simp; omega) _).setCell (by simp; omega) _).setCell (by simp; omega) _
  obtain rfl : r = true := by rw [HRR2.out]; simp [h1, h2]
  obtain ⟨L, rfl⟩ : ∃ L : Nat, level = (L : Int) := ⟨level.toNat, by omega⟩
  have hLl : L ≤ lv := by omega
  have t9 : ¬ lv < L := by omega
  have HMR2 : Hid (mr = xs.take L) := by show _ = _; rw [HMR.out, Int.toNat_natCast]
  obtain ⟨xl, hxl⟩ : ∃ m, m = xs.length := ⟨_, rfl⟩
  have hxlL : lv ≤ xl := by
    have := HEK.out.1
    rw [hxl, this, HML.out]; omega
  rw [← hxl] at k2 hac he1
  have HXL := Lib.hid hxl
  obtain ⟨W3, hW3⟩ : ∃ W3, W3 = w1.alloc (.cells #[.int .i64 (L : Int), .bool false, .slice none 0 0] 28) := ⟨_, rfl⟩
  have hb3 : Below w1.heap.size w1 W3 := by rw [hW3]; exact (Below.refl _ _).alloc (Nat.le_refl _) _
  have g3 : W3.heap[w1.heap.size]? = some (.cells #[.int .i64 (L : Int), .bool false, .slice none 0 0] 28) := by rw [hW3]; exact alloc_last _ _ rfl
  have hz3 := lt_of_heap g3
  have hBw3 := hBw.trans (hb3.mono hBw.size)
  have HAC := Lib.hid ((hb3.block (w.heap.size + 1) (by omega)).trans he1)
  have HRC := Lib.hid ((hb3.block (w.heap.size + 1 + 1) (by omega)).trans hf1)
  have hO0 : Hid (OutE w W3 w1.heap.size (L : Int) false (xs.take 0) W3) := OutE.start (w := w) g3 hBw3
  have HA4 : Hid (∀ (j : Nat) (r : List Nat), xs[j]? = some r → ∃ b off b2 c2, aa = some ⟨b, off, none⟩ ∧ b < w.heap.size ∧ W3.cell? ⟨b, off + j, none⟩ = some (.slice b2 r.length c2) ∧ W3.reads w.heap.size (.slice b2 r.length c2) (r.map u32V)) := by
    intro j x hj
    obtain ⟨b, off, b2, c2, q1, q2, q3, q4⟩ := HAS.out j x hj
    exact ⟨b, off, b2, c2, q1, q2, (hBw3.cell (p := ⟨b, off + j, none⟩) q2).trans q3, q4.below hBw3⟩
  have HW3 := Lib.hid hW3
  obtain ⟨i0, hi0, hiz, hiz1, hizb⟩ := info_parts info32
  obtain ⟨i1', hi1, hi1z, hi1z1, hi1b⟩ := info_parts infoU32r
  clear g3 hW3 he1 hf1 hxl hb3 hb1 hB0 hBw3
  go_upto_region 4 with (fail)
  rw [← HW3.out]
  clear k0 k1 k2 q0 q1 q2 f0 f1 f2
  go_wp2_with fail
  go_loopw [11] (fun ii wr => ∃ k : Nat, k ≤ L ∧ ii = .int .i64 (k : Int) ∧ Hid (OutE w W3 w1.heap.size (L : Int) false (xs.take k) wr)) (fun ii _ => L - (intOf ii).toNat)
  case atStart => exact ⟨0, Nat.zero_le _, rfl, hO0⟩
  case round =>
    obtain ⟨wo, rfl⟩ : ∃ x, x = wr := ⟨_, rfl⟩
    clear hO0
    obtain ⟨k, hk, rfl, hO⟩ := hrel
    obtain ⟨hsr, hsb⟩ := hO.out.size
    have hol : (xs.take k).length = k := by rw [List.length_take, ← HXL.out]; omega
    by_cases hlt : k < L
    · obtain ⟨x, hx⟩ : ∃ x, xs[k]? = some x := ⟨xs[k]'(by rw [← HXL.out]; omega), List.getElem?_eq_getElem _⟩
      obtain ⟨ab, ao, axb, axc, rfl, hab, hcx, hxr⟩ := HA4.out k x hx
      have hx32 := (HEK.out.2 k x hx).1
      have HX32 := Lib.hid hx32
      have s2 : wo.cell? ⟨ab, ao + k, none⟩ = some (.slice axb n axc) := by rw [hO.out.cell (by omega) (by omega), hcx, hx32]
      obtain ⟨-, -, s4, -, -, -⟩ := elem_cells ((hO.out.block (b := w.heap.size + 1) (by omega) (by omega)).trans HAC.out)
      obtain ⟨oa, oc, o1, o2⟩ := hO.out.open_
      rw [hol] at o1 o2
      obtain ⟨-, -, s6, -, -, -⟩ := elem_cells o1
      have hxr2 : wo.reads wo.heap.size (.slice axb n axc) (x.map u32V) := by
        have := (hO.out.reads (B := w.heap.size) (by omega) (by omega) hxr).mono (show w.heap.size ≤ wo.heap.size by omega)
        rw [hx32] at this; exact this
      have HX := Lib.hid hx
      have HO1 := Lib.hid o1
      have HO2 := Lib.hid o2
      have HXR := Lib.hid hxr2
      have hl6 : (xs.take k ++ [x]).length = k + 1 := by rw [List.length_append, hol]; rfl
      have n2 : ¬ ab = w1.heap.size := by omega
      have n4 : ¬ w.heap.size + 1 = w1.heap.size := by omega
      have p0 : (wo.alloc (.cells #[] 22)).cell? ⟨w1.heap.size, 2, none⟩ = some (.slice oa k oc) := (World.cell?_alloc_lt wo _ ⟨w1.heap.size, 2, none⟩ hsb).trans s6
      have u1 : w.heap.size + 1 < wo.heap.size := by omega
      have u4 : ab < wo.heap.size := by omega
      have z0 : (0 : Int) ≤ (k : Int) := by omega
      have z1 : (k : Int) < (xl : Int) := by omega
      clear hx hcx hxr o1 o2 hxr2 hx32
      go_wp2_with fail
      refine wp_region_line (fun w' => w'.cell? ⟨w1.heap.size, 2, none⟩ = some (.slice oa k oc) ∧ w'.cell? ⟨w.heap.size + 1, 2, none⟩ = some (.slice (some ⟨ab, ao, none⟩) xl ac) ∧ w'.cell? ⟨ab, ao + k, none⟩ = some (.slice axb n axc)) 12 (by kernel_rfl) ⟨s6, s4, s2⟩ (fun hHeld => ?_)
      refine wpAnyT_take 0 (v := ?_) (by kernel_rfl) rfl (by kernel_rfl) (by decide) rfl (by kernel_rfl) (by kernel_rfl) (fun _ _ _ h => h) (Or.inl ⟨by rfl, ?_⟩) (by assumption) ?_
      rotate_left
      · (intro wq hSq; (try dsimp only at hSq); go_simp; try with_reducible rfl)
      try simp only [Act.put, List.setIfInBounds_toArray, List.set_cons_zero, List.set_cons_succ]
      refine wpAnyT_take 1 (v := ?_) (by kernel_rfl) rfl (by kernel_rfl) (by decide) rfl (by kernel_rfl) (by kernel_rfl) (fun _ _ _ h => h) (Or.inl ⟨by rfl, ?_⟩) (by assumption) ?_
      rotate_left
      · (intro wq hSq; (try dsimp only at hSq); go_simp; try with_reducible rfl)
      try simp only [Act.put, List.setIfInBounds_toArray, List.set_cons_zero, List.set_cons_succ]
      refine wpAnyT_take 3 (v := ?_) (by kernel_rfl) rfl (by kernel_rfl) (by decide) rfl (by kernel_rfl) (by kernel_rfl) (fun _ _ _ h => h) (Or.inl ⟨by rfl, ?_⟩) (by assumption) ?_
      rotate_left
      · (intro wq hSq; (try dsimp only at hSq); go_simp; try with_reducible rfl)
      try simp only [Act.put, List.setIfInBounds_toArray, List.set_cons_zero, List.set_cons_succ]
      refine wpAnyT_take 4 (v := ?_) (by kernel_rfl) rfl (by kernel_rfl) (by decide) rfl (by kernel_rfl) (by kernel_rfl) (fun _ _ _ h => h) (Or.inl ⟨by rfl, ?_⟩) (by assumption) ?_
      rotate_left
      · (intro wq hSq; (try dsimp only at hSq); go_simp; try with_reducible rfl)
      try simp only [Act.put, List.setIfInBounds_toArray, List.set_cons_zero, List.set_cons_succ]
      refine wpAnyT_take 5 (v := ?_) (by kernel_rfl) rfl (by kernel_rfl) (by decide) rfl (by kernel_rfl) (by kernel_rfl) (fun _ _ _ h => h) (Or.inl ⟨by rfl, ?_⟩) (by assumption) ?_
      rotate_left
      · (intro wq hSq; (try dsimp only at hSq); go_simp; try with_reducible rfl)
      try simp only [Act.put, List.setIfInBounds_toArray, List.set_cons_zero, List.set_cons_succ]
      refine wpAnyT_take 6 (v := ?_) (by kernel_rfl) rfl (by kernel_rfl) (by decide) rfl (by kernel_rfl) (by kernel_rfl) (fun _ _ _ h => h) (Or.inl ⟨by rfl, ?_⟩) (by assumption) ?_
      rotate_left
      · (intro wq hSq; (try dsimp only at hSq); go_simp; try with_reducible rfl)
      try simp only [Act.put, List.setIfInBounds_toArray, List.set_cons_zero, List.set_cons_succ]
      refine wpAnyT_take 7 (v := ?_) (by kernel_rfl) rfl (by kernel_rfl) (by decide) rfl (by kernel_rfl) (by kernel_rfl) (fun _ _ _ h => h) (Or.inl ⟨by rfl, ?_⟩) (by assumption) ?_
      rotate_left
      · (intro wq hSq; (try dsimp only at hSq); go_simp; try with_reducible rfl)
      try simp only [Act.put, List.setIfInBounds_toArray, List.set_cons_zero, List.set_cons_succ]
      refine wpAnyT_step 2 (by kernel_rfl) rfl (fun K hK => ?_)
      go_simp
      refine hK.out _ _ ⟨p0, (World.cell?_alloc_lt wo _ ⟨w.heap.size + 1, 2, none⟩ u1).trans s4, (World.cell?_alloc_lt wo _ ⟨ab, ao + k, none⟩ u4).trans s2⟩ (fun hHeld2 => ?_)
      clear hK K hHeld
      try simp only [Act.put, List.setIfInBounds_toArray, List.set_cons_zero, List.set_cons_succ]
      refine wpAnyT_step 8 (by kernel_rfl) rfl (fun K hK => ?_)
      refine step_append_reads (by rfl) (.tmp 45) (.tmp 50) 23 (by rfl) wo.heap.size 22 i0 (.int .u32 0) 4 Try.underlying23 hi0 hiz hiz1 hizb rfl (.slice (some ⟨wo.heap.size, 0, none⟩) 0 0) 0 [] (by rfl) ((owns_empty wo _).drew) wo.heap.size (.slice axb n axc) (x.map u32V) (by rfl) ((HXR.out.alloc (Nat.le_refl _) _).drew) (one_u32 x) (by rw [List.length_map, HX32.out]; unfold maxLen; omega) (by rw [List.length_map, HX32.out]; omega) (by simp) ?_
      intro v4 w4 hown4 hg4
      have hb4 : Below wo.heap.size wo w4 := (((Below.refl _ wo).alloc (Nat.le_refl _) _).drew).grown hg4 (by simp) (fun k hk => by simp [Value.ownBlock] at hk; omega)
      have p6 : w4.cell? ⟨w1.heap.size, 2, none⟩ = some (.slice oa k oc) := (hb4.cell (p := ⟨w1.heap.size, 2, none⟩) hsb).trans s6
      have p4 : w4.cell? ⟨w.heap.size + 1, 2, none⟩ = some (.slice (some ⟨ab, ao, none⟩) xl ac) := (hb4.cell (p := ⟨w.heap.size + 1, 2, none⟩) u1).trans s4
      have p2 : w4.cell? ⟨ab, ao + k, none⟩ = some (.slice axb n axc) := (hb4.cell (p := ⟨ab, ao + k, none⟩) u4).trans s2
      have hz4 := hb4.size
      have HU : Hid (w4.owns W3.heap.size 22 1 v4 x.length (x.map u32V)) := by
        have h4 := hown4
        rw [List.nil_append, Nat.zero_add, List.length_map] at h4
        exact h4.mono (by omega)
      obtain ⟨va4, vc4, rfl, -, -, -⟩ := HU.out.at_
      have p7 : (w4.alloc (.cells #[.slice va4 x.length vc4] 23)).cell? ⟨w1.heap.size, 2, none⟩ = some (.slice oa k oc) := (World.cell?_alloc_lt w4 _ ⟨w1.heap.size, 2, none⟩ (show w1.heap.size < w4.heap.size by omega)).trans p6
      have HO5 := Lib.hid (hO.out.below hb4)
      have HR5 := Lib.hid (HO2.out.below hb4)
      have HG5 := Lib.hid ((hb4.block _ hsb).trans HO1.out)
      clear hown4 hg4
      refine hK.out _ _ ⟨p6, p4, p2⟩ (fun hHeld3 => ?_)
      clear hK K hHeld2
      try simp only [Act.put, List.setIfInBounds_toArray, List.set_cons_zero, List.set_cons_succ]
      refine wpAnyT_step 9 (by kernel_rfl) rfl (fun K hK => ?_)
      go_simp
      refine hK.out _ _ ⟨p7, (World.cell?_alloc_lt w4 _ ⟨w.heap.size + 1, 2, none⟩ (show w.heap.size + 1 < w4.heap.size by omega)).trans p4, (World.cell?_alloc_lt w4 _ ⟨ab, ao + k, none⟩ (show ab < w4.heap.size by omega)).trans p2⟩ (fun hHeld4 => ?_)
      clear hK K hHeld3
      try simp only [Act.put, List.setIfInBounds_toArray, List.set_cons_zero, List.set_cons_succ]
      refine wpAnyT_step 10 (by kernel_rfl) rfl (fun K hK => ?_)
      refine step_pushRow (by rfl) (.tmp 44) (.tmp 52) 26 (by rfl) W3.heap.size 23 22 (by decide) i1' (.slice none 0 0) 24 Try.underlying26 hi1 hi1z hi1z1 hi1b rfl (.slice oa k oc) _ (by rfl) HR5.out _ x HU.out w4.heap.size rfl (by rfl) (by rfl) (by rw [hol]; unfold maxLen; omega) (by rw [hol]; omega) (by omega) ?_
      intro v6 w6 hr6 hz6 hBB6 hKK6
      obtain ⟨va6, vc6, rfl⟩ := hr6.open_
      rw [hl6] at hr6 ⊢
      obtain ⟨h16, hO6⟩ := HO5.out.push (by omega) (by omega) hr6 hBB6
      obtain ⟨-, -, e26, -, -, f26⟩ := elem_cells (h16 _ HG5.out)
      have hb6 := hBB6 W3.heap.size w4 (Below.refl _ _) (Nat.le_refl _)
      have o4 : w6.cell? ⟨w.heap.size + 1, 2, none⟩ = some (.slice (some ⟨ab, ao, none⟩) xl ac) := (hb6.cell (p := ⟨w.heap.size + 1, 2, none⟩) (show w.heap.size + 1 < _ by omega)).trans p4
      have o2 : w6.cell? ⟨ab, ao + k, none⟩ = some (.slice axb n axc) := (hb6.cell (p := ⟨ab, ao + k, none⟩) (show ab < _ by omega)).trans p2
      have HO6 := Lib.hid hO6
      clear hr6 hBB6 hKK6 hO6 h16 hb6
      refine hK.out _ _ ⟨e26, o4, o2⟩ (fun hHeld5 => ?_)
      clear hK K hHeld4
      try simp only [Act.put, List.setIfInBounds_toArray, List.set_cons_zero, List.set_cons_succ]
      refine wpAnyT_take 11 (v := ?_) (by kernel_rfl) rfl (by kernel_rfl) (by decide) rfl (by kernel_rfl) (by kernel_rfl) (fun _ _ _ h => h) (Or.inl ⟨by rfl, ?_⟩) (by assumption) ?_
      rotate_left
      · (intro wq hSq; (try dsimp only at hSq); go_simp; try with_reducible rfl)
      try simp only [Act.put, List.setIfInBounds_toArray, List.set_cons_zero, List.set_cons_succ]
      refine wpAnyT_last (by kernel_rfl) (by kernel_rfl) rfl (fun K hK => ?_)
      go_simp
      refine hK.out _ _ ?_
      clear hK K hHeld5
      go_wp2
      go_roundw
      case rel =>
        refine ⟨k + 1, by omega, by go_num, ?_⟩
        show OutE _ _ _ _ _ _ _
        have ht : xs.take (k + 1) = xs.take k ++ [x] := by rw [List.take_add_one, HX.out]; rfl
        rw [ht]
        exact HO6.out
      case measure => simp [intOf]; omega
    · obtain rfl : k = L := by omega
      obtain ⟨oa, oc, o1, o2⟩ := hO.out.open_
      rw [hol] at o1
      obtain ⟨e0', e1', e2', -, -, -⟩ := elem_cells o1
      have he6 := (hO.out.block (b := w.heap.size + 1 + 1) (by omega) (by omega)).trans HRC.out
      obtain ⟨k0, k1, k2, f0, f1, f2⟩ := elem_cells he6
      have hlz := lt_of_heap he6
      have HO1 := Lib.hid o1
      have HE6 := Lib.hid he6
      clear o1 o2 he6
      go_wp2
      obtain ⟨W6, hW6⟩ : ∃ W6, W6 = ((wo.setCell ⟨w.heap.size + 1 + 1, 0, none⟩ (.int .i64 (k : Int))).setCell ⟨w.heap.size + 1 + 1, 1, none⟩ (.bool false)).setCell ⟨w.heap.size + 1 + 1, 2, none⟩ (.slice oa k oc) := ⟨_, rfl⟩
      obtain ⟨h6, hr6, hB6⟩ := hO.out.store HO1.out (by omega) (by omega) HE6.out hW6
      obtain ⟨j0, j1, j2, -, -, -⟩ := elem_cells h6
      rw [← hW6]
      refine bodyPost_ret (v := .tuple #[.agg #[.int .i64 (k : Int), .bool false, .slice oa k oc], .int .i64 0]) ?_ rfl (EltPost.ok_ (by rw [HMR2.out]; exact hr6.mono (by have := hO.out.size; omega)) hB6)
      simp [results, Try.results26, go_sem, j0, j1, j2]
end Go.Proofs.Ytpcpgmgpkegjlaa
