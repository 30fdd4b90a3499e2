/- Walks: GadgetDigits. -/
import Derived.Test.YtpcpgmgpkegjlaaGE2
import Derived.Test.YtpcpgmgpkegjlaaGG0
import Derived.Test.YtpcpgmgpkegjlaaGF5
import Derived.Test.YtpcpgmgpkegjlaaLine
namespace Go.Proofs.Ytpcpgmgpkegjlaa
open Go.RowKit Go.Shelf Go.BigFrame
theorem case_cells {w : World} {p : Nat} {c : Case} {t : TypeId} {fz : Nat × Nat} (h : w.heap[p]? = some (.cells c.cells t fz)) :
    (w.cell? ⟨p, 0, none⟩ = some (.int .i64 c.N) ∧ w.cell? ⟨p, 1, none⟩ = some (.int .u32 c.pr) ∧ w.cell? ⟨p, 2, none⟩ = some (.int .i64 c.pw) ∧ w.cell? ⟨p, 3, none⟩ = some c.cv ∧ w.cell? ⟨p, 4, none⟩ = some (.int .u32 (c.sp : Int)) ∧ w.cell? ⟨p, 5, none⟩ = some (.int .i64 c.wt) ∧ w.cell? ⟨p, 6, none⟩ = some (.int .u32 c.er) ∧ w.cell? ⟨p, 7, none⟩ = some (.int .i64 c.width)) ∧
    (w.cell? ⟨p, 8, none⟩ = some (.int .i64 c.la) ∧ w.cell? ⟨p, 9, none⟩ = some (.bool c.sa) ∧ w.cell? ⟨p, 10, none⟩ = some c.av) ∧ (w.cell? ⟨p, 11, none⟩ = some (.int .i64 c.lb) ∧ w.cell? ⟨p, 12, none⟩ = some (.bool c.sb) ∧ w.cell? ⟨p, 13, none⟩ = some c.bv) ∧
    w.cell? ⟨p, 14, none⟩ = some (.int .i64 c.i) ∧ w.cell? ⟨p, 15, none⟩ = some (.int .i64 c.level) ∧ w.cell? ⟨p, 16, none⟩ = some c.lw := by
  simp [World.cell?, h, Case.cells]
theorem large_not {c : Case} (h : largeB c = false) : c.chain.length ≤ 100 ∧ c.xs.length ≤ 60 ∧ c.ls.length ≤ 500 := by
  unfold largeB hugeB at h
  simp only [Bool.or_eq_false_iff, decide_eq_false_iff_not] at h
  omega
theorem large_rows {c : Case} (h : largeB c = false) : ∀ r ∈ c.xs, r.length ≤ 100 := by
  have hl := (large_not h).2.1
  unfold largeB hugeB at h
  simp only [Bool.or_eq_false_iff, Bool.not_eq_false'] at h
  have hs : smallRows c.xs 60 = true := h.1.1.1.2.1
  unfold smallRows at hs
  rw [List.take_of_length_le hl, List.all_eq_true] at hs
  intro r hr
  simpa using hs r hr
theorem owns_empty (w : World) (e : TypeId) : (w.alloc (.cells #[] e)).owns w.heap.size e 1 (.slice (some ⟨w.heap.size, 0, none⟩) 0 0) 0 [] :=
  ⟨rfl, .inr ⟨w.heap.size, 0, #[], (0, 0), rfl, Nat.le_refl _, heap_alloc_new w _, okFz_zero _, Nat.le_refl _, Nat.zero_le _, rfl, rfl⟩⟩
theorem rows_nil {α : Type} (enc : α → Value) (w : World) (B : Nat) : w.rows enc B (.slice none 0 0) [] := ⟨[], rfl, reads_nil _ _, fun i r h => by simp at h⟩
/-- The digits, or the error, in one form. -/
def digLs (N : Int) (chain : List Nat) (sp : Nat) (width level : Int) (special : Bool) (rows : List (List Nat)) : List (List Int) := if digB N chain sp width level special rows then digRows N chain width level rows else []
theorem DigPost.one {N : Int} {chain : List Nat} {sp : Nat} {width level : Int} {special : Bool} {rows : List (List Nat)} {w w' : World} {e : Ending} (h : DigPost N chain sp width level special rows w e w') :
    (∃ v, e = .returned (.tuple #[v, .int .i64 (errI (digB N chain sp width level special rows))]) ∧ w'.rows i64V w'.heap.size v (digLs N chain sp width level special rows)) ∧ Below w.heap.size w w' := by
  unfold DigPost at h
  refine ⟨?_, h.2⟩
  unfold digLs
  by_cases hb : digB N chain sp width level special rows = true
  · rw [hb, if_pos rfl] at h
    rw [hb, if_pos rfl]
    exact h.1
  · have hb2 : digB N chain sp width level special rows = false := by simpa using hb
    rw [hb2, if_neg (by decide)] at h
    rw [hb2, if_neg (by decide)]
    exact ⟨_, h.1, rows_nil _ _ _⟩
set_option maxRecDepth 100000 in
set_option maxHeartbeats 40000000 in
theorem gdigits_law (c : Case) (w : World) (h : c.reads w.heap.size w) (hcb : ∀ q ∈ c.chain, q < 4294967296) : Calls Try.prog 4 #[.agg c.cells] w fun e w' => e = .returned (.bool true) ∧ Below w.heap.size w w' := by
  obtain ⟨W0, hW0⟩ : ∃ W0, W0 = w.alloc (.cells c.cells 31) := ⟨_, rfl⟩
  have hB0 : Below w.heap.size w W0 := by rw [hW0]; exact (Below.refl _ w).alloc (Nat.le_refl _) _
  have g0 : W0.heap[w.heap.size]? = some (.cells c.cells 31) := by rw [hW0]; exact alloc_last _ _ rfl
  have hz0 := lt_of_heap g0
  have hR0 := Lib.hid ((h.below hB0).mono hB0.size)
  have HL := Lib.hid (large_any c W0 hR0.out)
  have HD := Lib.hid (fun W hb rv hrow => (Digits_any c.N c.pr c.pw c.wt c.er c.cv c.chain c.sp c.width c.la c.sa rv c.xs W ((hR0.out.below hb).mono (Below.size hb)).1 hrow hcb).mono fun _ _ h => h.one)
  have HRD := Lib.hid (fun W hb => (rdigits_any c.N c.pr c.pw c.wt c.er c.cv c.chain c.sp c.width c.la c.sa c.av c.xs W ((hR0.out.below hb).mono (Below.size hb)).1 ((hR0.out.below hb).mono (Below.size hb)).2.1 hcb).mono fun _ _ h => h.one)
  have HC := Lib.hid (fun W hb => Count_any c.N c.pr c.pw c.wt c.er c.cv c.chain c.sp c.width c.level W ((hR0.out.below hb).mono (Below.size hb)).1 hcb)
  have HRC := Lib.hid (fun W hb => rcount_any c.N c.pr c.pw c.wt c.er c.cv c.chain c.sp c.width c.level W ((hR0.out.below hb).mono (Below.size hb)).1 hcb)
  have HBO := Lib.hid (fun W hb => Bound_any c.N c.pr c.pw c.wt c.er c.cv c.chain c.sp c.width W ((hR0.out.below hb).mono (Below.size hb)).1 hcb)
  have HRB := Lib.hid (fun W hb => rbound_any c.N c.pr c.pw c.wt c.er c.cv c.chain c.sp c.width W ((hR0.out.below hb).mono (Below.size hb)).1 hcb)
  have HSA := Lib.hid (fun W v1 h1 hb => same09_any c.la c.la c.sa c.sa v1 c.av c.xs c.xs W.heap.size W.heap.size W h1 ((hR0.out.below hb).mono (Below.size hb)).2.1 (Nat.le_refl _) (Nat.le_refl _))
  simp only [decide_true, Bool.and_self] at HSA
  unfold LargePost at HL
  obtain ⟨dls, hdls⟩ : ∃ x, x = digLs c.N c.chain c.sp c.width c.la c.sa c.xs := ⟨_, rfl⟩
  obtain ⟨de, hde⟩ : ∃ x, x = errI (digB c.N c.chain c.sp c.width c.la c.sa c.xs) := ⟨_, rfl⟩
  rw [← hdls, ← hde] at HD HRD
  obtain ⟨cn, hcn⟩ : ∃ cn, cn = countI c.width c.level (countB c.N c.chain c.sp c.width c.level) := ⟨_, rfl⟩
  obtain ⟨ce, hce⟩ : ∃ ce, ce = errI (countB c.N c.chain c.sp c.width c.level) := ⟨_, rfl⟩
  obtain ⟨bn, hbn⟩ : ∃ bn, bn = boundR c.chain c.width (madeB c.N c.chain c.sp c.width) := ⟨_, rfl⟩
  obtain ⟨be, hbe⟩ : ∃ be, be = errI (madeB c.N c.chain c.sp c.width) := ⟨_, rfl⟩
  rw [← hcn, ← hce] at HC HRC
  rw [← hbn, ← hbe] at HBO HRB
  have HG0 := Lib.hid g0
  have HW0 := Lib.hid hW0
  obtain ⟨k, ka, kb, ki, klev, kl⟩ := case_cells g0
  obtain ⟨k0, k1, k2, k3, k4, k5, k6, k7⟩ := k
  obtain ⟨ka0, ka1, ka2⟩ := ka
  obtain ⟨kb0, kb1, kb2⟩ := kb
  clear h g0 hW0 hcb hcn hce hbn hbe hdls hde
  unfold Case.cells at HW0
  unfold Case.cells
  obtain ⟨lg, hlg⟩ : ∃ b, b = largeB c := ⟨_, rfl⟩
  rw [← hlg] at HL
  have HLG := Lib.hid hlg
  clear hlg
  have hl0 : w.heap.size < W0.heap.size := hz0
  cases lg
  case true =>
    go_enter Try.func4, Try.ntmps4
    go_upto_region 1 with (fail)
    rw [← HW0.out]
    go_wp2_with fail
    refine HL.out.mono ?_
    rintro e w1 ⟨rfl, hb1⟩
    go_wp2_with fail
    refine (awake_any w1).mono ?_
    rintro e w2 ⟨rfl, hb2⟩
    go_wp2
    go_ret
    exact ⟨rfl, hB0.trans ((hb1.trans (hb2.mono hb1.size)).mono hB0.size)⟩
  obtain ⟨hcl, hxl, -⟩ := large_not HLG.out.symm
  have HRL := Lib.hid (large_rows HLG.out.symm)
  go_enter Try.func4, Try.ntmps4
  go_upto_region 1 with (fail)
  rw [← HW0.out]
  go_wp2_with fail
  refine HL.out.mono ?_
  rintro e w1 ⟨rfl, hb1⟩
  have hs1 := hb1.size
  have hg1 := (hb1.block _ hz0).trans HG0.out
  have HG1 := Lib.hid hg1
  have hR1 := (hR0.out.below hb1).mono hs1
  have HR1 := Lib.hid hR1
  obtain ⟨ra, rc, hav, hrc1, hrc2, hrs⟩ := hR1.2.1.shape
  have HRS := Lib.hid hrs
  have HAV := Lib.hid hav
  obtain ⟨l, hl⟩ : ∃ l, l = c.xs.length := ⟨_, rfl⟩
  have HLL := Lib.hid hl
  have HAV2 : Hid (c.av = .slice ra l rc) := by show _ = _; rw [hav, hl]
  rw [← hl] at hrc1 hxl
  clear k0 k1 k2 k3 k4 k5 k6 k7 ka0 ka1 ka2 kb0 kb1 kb2 ki klev kl hR1 hav hrs hl HAV
  obtain ⟨-, ka, -, -, -, -⟩ := case_cells hg1
  obtain ⟨ka0, ka1, ka2⟩ := ka
  rw [HAV2.out] at ka2
  have l1 : w.heap.size < w1.heap.size := by omega
  clear hg1
  go_wp2
  obtain ⟨W2, hW2⟩ : ∃ W2, W2 = w1.alloc (.cells #[.int .i64 c.la, .bool c.sa, .slice none 0 0] 28) := ⟨_, rfl⟩
  have hB2 : Below w1.heap.size w1 W2 := by rw [hW2]; exact (Below.refl _ _).alloc (Nat.le_refl _) _
  have g2 : W2.heap[w1.heap.size]? = some (.cells #[.int .i64 c.la, .bool c.sa, .slice none 0 0] 28) := by rw [hW2]; exact alloc_last _ _ rfl
  have hO2 : W2.rowsO u32V (w1.heap.size + 1) 23 22 (.slice none 0 0) (c.xs.take 0) := World.rowsO_nil _ _ _ _
  rw [← hW2]
  clear hW2
  obtain ⟨i0, hi0, hiz, hiz1, hizb⟩ := info_parts info32
  obtain ⟨i1, hi1, hi1z, hi1z1, hi1b⟩ := info_parts infoRow
  go_loopw [4] (fun ii wr => ∃ (k : Nat) (sv : Value), k ≤ l ∧ ii = .int .i64 (k : Int) ∧ Hid (wr.heap[w1.heap.size]? = some (.cells #[.int .i64 c.la, .bool c.sa, sv] 28)) ∧ Hid (wr.rowsO u32V (w1.heap.size + 1) 23 22 sv (c.xs.take k)) ∧ Below w1.heap.size w1 wr) (fun ii _ => l - (intOf ii).toNat)
  case atStart => exact ⟨0, _, Nat.zero_le _, rfl, g2, hO2, hB2⟩
  case round =>
    obtain ⟨k, sv, hk, rfl, hgw, hO, hBr⟩ := hrel
    have hsr := hBr.size
    obtain ⟨hcr, hfr⟩ := bcell hBr
    have hgr := (hBr.block _ l1).trans HG1.out
    clear ka0 ka1 ka2 g2 hO2 hB2
    obtain ⟨-, ka, -, -, -, -⟩ := case_cells hgr
    obtain ⟨-, -, ka2⟩ := ka
    rw [HAV2.out] at ka2
    have hlk : (c.xs.take k).length = k := by rw [List.length_take, ← HLL.out]; omega
    obtain ⟨sa, sc, rfl⟩ := hO.out.open_
    rw [hlk] at hgw hO
    have hbz := lt_of_heap hgw.out
    by_cases hlt : k < l
    · obtain ⟨x, hx⟩ : ∃ x, c.xs[k]? = some x := ⟨c.xs[k]'(by rw [← HLL.out]; exact hlt), List.getElem?_eq_getElem _⟩
      obtain ⟨rb, ro, xb, xc, rfl, hrb, hrcell, hxr⟩ := HRS.out k x hx
      have hx100 := HRL.out x (List.mem_of_getElem? hx)
      have q3 : wr.cell? ⟨rb, ro + k, none⟩ = some (.slice xb x.length xc) := (hcr _ _ hrb).trans hrcell
      have hxr2 := (hxr.below hBr).mono hsr
      obtain ⟨-, -, q1, -, -, -⟩ := elem_cells hgw.out
      have HX := Lib.hid hx
      have HXR := Lib.hid hxr2
      have z0 : (0 : Int) ≤ (k : Int) := by omega
      have z1 : (k : Int) < (l : Int) := by omega
      have n2 : ¬ rb = w1.heap.size := by omega
      have n4 : ¬ w.heap.size = w1.heap.size := by omega
      have p0 : (wr.alloc (.cells #[] 22)).cell? ⟨w1.heap.size, 2, none⟩ = some (.slice sa k sc) := (World.cell?_alloc_lt wr _ ⟨w1.heap.size, 2, none⟩ hbz).trans q1
      have hl5 : (c.xs.take k ++ [x]).length = k + 1 := by rw [List.length_append, hlk]; rfl
      have hsz1 : rb < wr.heap.size := by omega
      have hsz2 : w.heap.size < wr.heap.size := by omega
      clear hx hrcell hxr hxr2 hcr hfr hgr
      go_wp2_with fail
      refine wp_region_line (fun w' => w'.cell? ⟨w1.heap.size, 2, none⟩ = some (.slice sa k sc) ∧ w'.cell? ⟨w.heap.size, 10, none⟩ = some (.slice (some ⟨rb, ro, none⟩) l rc) ∧ w'.cell? ⟨rb, ro + k, none⟩ = some (.slice xb x.length xc)) 13 (by kernel_rfl) ⟨q1, ka2, q3⟩ (fun hHeld => ?_)
      refine wpAnyT_take 0 (v := ?_) (by kernel_rfl) rfl (by kernel_rfl) (by decide) rfl (by kernel_rfl) (by kernel_rfl) (fun _ _ _ h => h) (Or.inl ⟨by rfl, ?_⟩) (by assumption) ?_
      rotate_left
      · (intro wq hSq; (try dsimp only at hSq); go_simp; try with_reducible rfl)
      try simp only [Act.put, List.setIfInBounds_toArray, List.set_cons_zero, List.set_cons_succ]
      refine wpAnyT_take 1 (v := ?_) (by kernel_rfl) rfl (by kernel_rfl) (by decide) rfl (by kernel_rfl) (by kernel_rfl) (fun _ _ _ h => h) (Or.inl ⟨by rfl, ?_⟩) (by assumption) ?_
      rotate_left
      · (intro wq hSq; (try dsimp only at hSq); go_simp; try with_reducible rfl)
      try simp only [Act.put, List.setIfInBounds_toArray, List.set_cons_zero, List.set_cons_succ]
      refine wpAnyT_take 3 (v := ?_) (by kernel_rfl) rfl (by kernel_rfl) (by decide) rfl (by kernel_rfl) (by kernel_rfl) (fun _ _ _ h => h) (Or.inl ⟨by rfl, ?_⟩) (by assumption) ?_
      rotate_left
      · (intro wq hSq; (try dsimp only at hSq); go_simp; try with_reducible rfl)
      try simp only [Act.put, List.setIfInBounds_toArray, List.set_cons_zero, List.set_cons_succ]
      refine wpAnyT_take 4 (v := ?_) (by kernel_rfl) rfl (by kernel_rfl) (by decide) rfl (by kernel_rfl) (by kernel_rfl) (fun _ _ _ h => h) (Or.inl ⟨by rfl, ?_⟩) (by assumption) ?_
      rotate_left
      · (intro wq hSq; (try dsimp only at hSq); go_simp; try with_reducible rfl)
      try simp only [Act.put, List.setIfInBounds_toArray, List.set_cons_zero, List.set_cons_succ]
      refine wpAnyT_take 5 (v := ?_) (by kernel_rfl) rfl (by kernel_rfl) (by decide) rfl (by kernel_rfl) (by kernel_rfl) (fun _ _ _ h => h) (Or.inl ⟨by rfl, ?_⟩) (by assumption) ?_
      rotate_left
      · (intro wq hSq; (try dsimp only at hSq); go_simp; try with_reducible rfl)
      try simp only [Act.put, List.setIfInBounds_toArray, List.set_cons_zero, List.set_cons_succ]
      refine wpAnyT_take 6 (v := ?_) (by kernel_rfl) rfl (by kernel_rfl) (by decide) rfl (by kernel_rfl) (by kernel_rfl) (fun _ _ _ h => h) (Or.inl ⟨by rfl, ?_⟩) (by assumption) ?_
      rotate_left
      · (intro wq hSq; (try dsimp only at hSq); go_simp; try with_reducible rfl)
      try simp only [Act.put, List.setIfInBounds_toArray, List.set_cons_zero, List.set_cons_succ]
      refine wpAnyT_take 7 (v := ?_) (by kernel_rfl) rfl (by kernel_rfl) (by decide) rfl (by kernel_rfl) (by kernel_rfl) (fun _ _ _ h => h) (Or.inl ⟨by rfl, ?_⟩) (by assumption) ?_
      rotate_left
      · (intro wq hSq; (try dsimp only at hSq); go_simp; try with_reducible rfl)
      try simp only [Act.put, List.setIfInBounds_toArray, List.set_cons_zero, List.set_cons_succ]
      refine wpAnyT_take 8 (v := ?_) (by kernel_rfl) rfl (by kernel_rfl) (by decide) rfl (by kernel_rfl) (by kernel_rfl) (fun _ _ _ h => h) (Or.inl ⟨by rfl, ?_⟩) (by assumption) ?_
      rotate_left
      · (intro wq hSq; (try dsimp only at hSq); go_simp; try with_reducible rfl)
      try simp only [Act.put, List.setIfInBounds_toArray, List.set_cons_zero, List.set_cons_succ]
      refine wpAnyT_step 2 (by kernel_rfl) rfl (fun K hK => ?_)
      go_simp
      refine hK.out _ _ ⟨p0, (World.cell?_alloc_lt wr _ ⟨w.heap.size, 10, none⟩ hsz2).trans ka2, (World.cell?_alloc_lt wr _ ⟨rb, ro + k, none⟩ hsz1).trans q3⟩ (fun hHeld2 => ?_)
      clear hK K hHeld
      try simp only [Act.put, List.setIfInBounds_toArray, List.set_cons_zero, List.set_cons_succ]
      refine wpAnyT_step 9 (by kernel_rfl) rfl (fun K hK => ?_)
      refine step_append_reads (by rfl) (.tmp 37) (.tmp 43) 23 (by rfl) wr.heap.size 22 i0 (.int .u32 0) 4 Try.underlying23 hi0 hiz hiz1 hizb rfl (.slice (some ⟨wr.heap.size, 0, none⟩) 0 0) 0 [] (by rfl) ((owns_empty wr _).drew) wr.heap.size (.slice xb x.length xc) (x.map u32V) (by rfl) ((HXR.out.alloc (Nat.le_refl _) _).drew) (one_u32 x) (by rw [List.length_map]; unfold maxLen; omega) (by rw [List.length_map]; omega) (by simp) ?_
      intro v4 w4 hown4 hg4
      have hb4 : Below wr.heap.size wr w4 := (((Below.refl _ wr).alloc (Nat.le_refl _) _).drew).grown hg4 (by simp) (fun k hk => by simp [Value.ownBlock] at hk; omega)
      have p1 : w4.cell? ⟨w1.heap.size, 2, none⟩ = some (.slice sa k sc) := (hb4.cell (p := ⟨w1.heap.size, 2, none⟩) hbz).trans q1
      have p2 : w4.cell? ⟨w.heap.size, 10, none⟩ = some (.slice (some ⟨rb, ro, none⟩) l rc) := (hb4.cell (p := ⟨w.heap.size, 10, none⟩) hsz2).trans ka2
      have p3 : w4.cell? ⟨rb, ro + k, none⟩ = some (.slice xb x.length xc) := (hb4.cell (p := ⟨rb, ro + k, none⟩) hsz1).trans q3
      have hz4 := hb4.size
      have HO4 : Hid (w4.owns (w1.heap.size + 1) 22 1 v4 x.length (x.map u32V)) := by
        have h4 := hown4
        rw [List.nil_append, Nat.zero_add, List.length_map] at h4
        exact h4.mono (by omega)
      obtain ⟨va4, vc4, rfl, -, -, -⟩ := HO4.out.at_
      have HG4 := Lib.hid ((hb4.block _ hbz).trans hgw.out)
      have HR4 := Lib.hid (hO.out.below hb4)
      clear hown4 hg4
      refine hK.out _ _ ⟨p1, p2, p3⟩ (fun hHeld3 => ?_)
      clear hK K hHeld2
      try simp only [Act.put, List.setIfInBounds_toArray, List.set_cons_zero, List.set_cons_succ]
      refine wpAnyT_step 10 (by kernel_rfl) rfl (fun K hK => ?_)
      go_simp
      refine hK.out _ _ ⟨(World.cell?_alloc_lt w4 _ ⟨w1.heap.size, 2, none⟩ (show w1.heap.size < w4.heap.size by omega)).trans p1, (World.cell?_alloc_lt w4 _ ⟨w.heap.size, 10, none⟩ (show w.heap.size < w4.heap.size by omega)).trans p2, (World.cell?_alloc_lt w4 _ ⟨rb, ro + k, none⟩ (show rb < w4.heap.size by omega)).trans p3⟩ (fun hHeld4 => ?_)
      clear hK K hHeld3
      try simp only [Act.put, List.setIfInBounds_toArray, List.set_cons_zero, List.set_cons_succ]
      refine wpAnyT_step 11 (by kernel_rfl) rfl (fun K hK => ?_)
      refine step_pushRow (by rfl) (.tmp 36) (.tmp 45) 26 (by rfl) (w1.heap.size + 1) 23 22 (by decide) i1 (.slice none 0 0) 24 Try.underlying26 hi1 hi1z hi1z1 hi1b rfl (.slice sa k sc) _ (by rfl) HR4.out _ x HO4.out w4.heap.size rfl (by rfl) (by rfl) (by rw [hlk]; unfold maxLen; omega) (by rw [hlk]; omega) (by omega) ?_
      intro v5 w5 hr5 hz5 hBB5 hKK5
      obtain ⟨va5, vc5, rfl⟩ := hr5.open_
      rw [hl5] at hr5 ⊢
      have hb5 := hBB5 (w1.heap.size + 1) w4 (Below.refl _ _) (Nat.le_refl _)
      have HG5 := Lib.hid ((hb5.block w1.heap.size (by omega)).trans HG4.out)
      obtain ⟨-, -, q5, -, -, f5⟩ := elem_cells HG5.out
      have o2 : w5.cell? ⟨w.heap.size, 10, none⟩ = some (.slice (some ⟨rb, ro, none⟩) l rc) := (hb5.cell (p := ⟨w.heap.size, 10, none⟩) (show w.heap.size < _ by omega)).trans p2
      have o3 : w5.cell? ⟨rb, ro + k, none⟩ = some (.slice xb x.length xc) := (hb5.cell (p := ⟨rb, ro + k, none⟩) (show rb < _ by omega)).trans p3
      have HR5 := Lib.hid hr5
      have HBB5 := Lib.hid hBB5
      clear hr5 hBB5 hKK5 hb5
      refine hK.out _ _ ⟨q5, o2, o3⟩ (fun hHeld5 => ?_)
      clear hK K hHeld4
      try simp only [Act.put, List.setIfInBounds_toArray, List.set_cons_zero, List.set_cons_succ]
      refine wpAnyT_take 12 (v := ?_) (by kernel_rfl) rfl (by kernel_rfl) (by decide) rfl (by kernel_rfl) (by kernel_rfl) (fun _ _ _ h => h) (Or.inl ⟨by rfl, ?_⟩) (by assumption) ?_
      rotate_left
      · (intro wq hSq; (try dsimp only at hSq); go_simp; try with_reducible rfl)
      try simp only [Act.put, List.setIfInBounds_toArray, List.set_cons_zero, List.set_cons_succ]
      refine wpAnyT_last (by kernel_rfl) (by kernel_rfl) rfl (fun K hK => ?_)
      go_simp
      refine hK.out _ _ ?_
      clear hK K hHeld5
      go_wp2
      go_roundw
      case rel =>
        have htk : c.xs.take (k + 1) = c.xs.take k ++ [x] := by rw [List.take_add_one, HX.out]; rfl
        refine ⟨k + 1, .slice va5 (k + 1) vc5, by omega, by go_num, ?_, ?_, ?_⟩
        · show _ = _
          simp [World.setCell, Array.getElem?_modify, HG5.out]
        · show World.rowsO _ _ _ _ _ _ _
          rw [htk]
          exact HR5.out.setCell (by simp) _
        · exact (HBB5.out w1.heap.size w1 (hBr.trans (hb4.mono hsr)) (by omega)).setCell (by simp) _
      case measure => simp [intOf]; omega
    · obtain rfl : k = l := by omega
      have hOx := hO.out
      rw [List.take_of_length_le (by rw [← HLL.out]; exact Nat.le_refl _)] at hOx
      have HOX := Lib.hid hOx
      have hBr0 : Below W0.heap.size W0 wr := hb1.trans (hBr.mono hs1)
      have hC := HC.out wr hBr0
      clear hO hOx hcr hfr hlk
      obtain ⟨h1, h2, -, -, h5, -⟩ := case_cells hgr
      obtain ⟨k0, k1, k2, k3, k4, k5, k6, k7⟩ := h1
      go_wp2_with fail
      refine hC.mono ?_
      rintro e w3 ⟨rfl, hb3⟩
      clear k0 k1 k2 k3 k4 k5 k6 k7 h2 h5 hC hgr
      have hr3 : Below wr.heap.size wr w3 := hb3
      have hB3 : Below W0.heap.size W0 w3 := hBr0.trans (hr3.mono hBr0.size)
      have hC := HBO.out w3 hB3
      have hg3 := (hB3.block _ hz0).trans HG0.out
      have l3 : w.heap.size < w3.heap.size := by have := hr3.size; omega
      obtain ⟨h1, -, -, -, -, -⟩ := case_cells hg3
      obtain ⟨k0, k1, k2, k3, k4, k5, k6, k7⟩ := h1
      go_wp2_with fail
      refine hC.mono ?_
      rintro e w4 ⟨rfl, hb4⟩
      clear k0 k1 k2 k3 k4 k5 k6 k7 hC hg3
      have hr4 : Below wr.heap.size wr w4 := hr3.trans (hb4.mono hr3.size)
      have hB4 : Below W0.heap.size W0 w4 := hBr0.trans (hr4.mono hBr0.size)
      have hg4 := (hB4.block _ hz0).trans HG0.out
      have hw4 := (hr4.block _ hbz).trans hgw.out
      have l4 : w.heap.size < w4.heap.size := by have := hr4.size; omega
      have b4 : w1.heap.size < w4.heap.size := by have := hr4.size; omega
      have hD := HD.out w4 hB4 _ (HOX.out.below hr4).rows
      obtain ⟨h1, -, -, -, -, -⟩ := case_cells hg4
      obtain ⟨k0, k1, k2, k3, k4, k5, k6, k7⟩ := h1
      obtain ⟨o0, o1, o2, -, -, -⟩ := elem_cells hw4
      go_wp2_with fail
      refine hD.mono ?_
      rintro e w5 ⟨⟨v5, rfl, hv5⟩, hb5⟩
      obtain ⟨va5, vc5, rfl, -⟩ := hv5.shape
      clear k0 k1 k2 k3 k4 k5 k6 k7 o0 o1 o2 hD hg4 hw4
      have hr5 : Below wr.heap.size wr w5 := hr4.trans (hb5.mono hr4.size)
      have hB5 : Below W0.heap.size W0 w5 := hBr0.trans (hr5.mono hBr0.size)
      have hg5 := (hB5.block _ hz0).trans HG0.out
      have hw5 := (hr5.block _ hbz).trans hgw.out
      have l5 : w.heap.size < w5.heap.size := by have := hr5.size; omega
      have b5 : w1.heap.size < w5.heap.size := by have := hr5.size; omega
      have hS := HSA.out w5 _ (HOX.out.below hr5).rows hB5
      obtain ⟨-, h2, -, -, -, -⟩ := case_cells hg5
      obtain ⟨ka0, ka1, ka2⟩ := h2
      obtain ⟨o0, o1, o2, -, -, -⟩ := elem_cells hw5
      have HV5 := Lib.hid hv5
      clear hv5
      go_wp2_with fail
      refine hS.mono ?_
      rintro e w6 ⟨rfl, hb6⟩
      clear ka0 ka1 ka2 o0 o1 o2 hS hg5 hw5
      have hr6 : Below wr.heap.size wr w6 := hr5.trans (hb6.mono hr5.size)
      have hB6 : Below W0.heap.size W0 w6 := hBr0.trans (hr6.mono hBr0.size)
      have hg6 := (hB6.block _ hz0).trans HG0.out
      have l6 : w.heap.size < w6.heap.size := by have := hr6.size; omega
      have hC := HRC.out w6 hB6
      obtain ⟨h1, -, -, -, h5, -⟩ := case_cells hg6
      obtain ⟨k0, k1, k2, k3, k4, k5, k6, k7⟩ := h1
      go_wp2_with fail
      refine hC.mono ?_
      rintro e w7 ⟨rfl, hb7⟩
      clear k0 k1 k2 k3 k4 k5 k6 k7 h5 hC hg6
      have hb67 := hb6.trans (hb7.mono hb6.size)
      have hr7 : Below wr.heap.size wr w7 := hr6.trans (hb7.mono hr6.size)
      have hB7 : Below W0.heap.size W0 w7 := hBr0.trans (hr7.mono hBr0.size)
      have hg7 := (hB7.block _ hz0).trans HG0.out
      have l7 : w.heap.size < w7.heap.size := by have := hr7.size; omega
      have hC := HRB.out w7 hB7
      obtain ⟨h1, -, -, -, -, -⟩ := case_cells hg7
      obtain ⟨k0, k1, k2, k3, k4, k5, k6, k7⟩ := h1
      go_wp2_with fail
      refine hC.mono ?_
      rintro e w8 ⟨rfl, hb8⟩
      clear k0 k1 k2 k3 k4 k5 k6 k7 hC hg7
      have hb68 := hb67.trans (hb8.mono hb67.size)
      have hr8 : Below wr.heap.size wr w8 := hr7.trans (hb8.mono hr7.size)
      have hB8 : Below W0.heap.size W0 w8 := hBr0.trans (hr8.mono hBr0.size)
      have hg8 := (hB8.block _ hz0).trans HG0.out
      have l8 : w.heap.size < w8.heap.size := by have := hr8.size; omega
      have hC := HRD.out w8 hB8
      obtain ⟨h1, h2, -, -, -, -⟩ := case_cells hg8
      obtain ⟨k0, k1, k2, k3, k4, k5, k6, k7⟩ := h1
      obtain ⟨ka0, ka1, ka2⟩ := h2
      go_wp2_with fail
      refine hC.mono ?_
      rintro e w9 ⟨⟨v9, rfl, hv9⟩, hb9⟩
      obtain ⟨va9, vc9, rfl, -⟩ := hv9.shape
      clear k0 k1 k2 k3 k4 k5 k6 k7 ka0 ka1 ka2 hC hg8
      have hb69 := hb68.trans (hb9.mono hb68.size)
      have hB9 : Below W0.heap.size W0 w9 := hB8.trans (hb9.mono hB8.size)
      have hS := same17_any _ _ _ _ _ _ w9 ((HV5.out.below hb69).mono hb69.size) hv9
      simp only [decide_true] at hS
      clear hv9
      go_wp2_with fail
      refine hS.mono ?_
      rintro e w10 ⟨rfl, hn10⟩
      have hb10 : Below w9.heap.size w9 w10 := below_of_drewN hn10
      clear hS hn10
      go_wp2_with fail
      refine (awake_any w10).mono ?_
      rintro e w11 ⟨rfl, hb11⟩
      have hB11 := hB9.trans ((hb10.trans (hb11.mono hb10.size)).mono hB9.size)
      go_wp2
      go_ret
      exact ⟨rfl, hB0.trans (hB11.mono hB0.size)⟩
end Go.Proofs.Ytpcpgmgpkegjlaa
