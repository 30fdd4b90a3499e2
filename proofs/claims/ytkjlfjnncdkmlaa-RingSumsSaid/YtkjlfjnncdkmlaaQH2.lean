/- Walks: the law RingSums. -/
import Derived.Test.YtkjlfjnncdkmlaaPE5
namespace Go.Proofs.Ytkjlfjnncdkmlaa.G
set_option linter.all false
open Go.RowKit Go.Shelf Go.BigFrame
attribute [local go_sem] Oper.semAt_some
theorem large_spec {c : RCase} (h : false = largeB c) : hugeB c.xs = false ∧ hugeB c.ys = false ∧ c.chain.length ≤ 100 ∧ c.ls.length ≤ 100 := by
  have h := h.symm
  unfold largeB at h
  simp only [Bool.or_eq_false_iff, decide_eq_false_iff_not] at h
  exact ⟨h.1.1.1, h.1.1.2, by omega, by omega⟩
set_option maxRecDepth 100000 in
set_option maxHeartbeats 16000000 in
theorem sums_law (c : RCase) (w : World) (h : c.reads w.heap.size w) : Calls Try.prog 7 #[.agg c.cells] w fun e w' => e = .returned (.bool true) ∧ Below w.heap.size w w' := by
  obtain ⟨HPOST, hpost⟩ : ∃ R : Ending → World → Prop, R = fun e w' => e = .returned (.bool true) ∧ Below w.heap.size w w' := ⟨_, rfl⟩
  rw [← hpost]
  have HP := Lib.hid hpost
  have HAW := Lib.hid awake_any
  obtain ⟨N, pr, pw, wt, er, la, lb, num, kk, level, cv, av, bv, lw, sa, sb, special, chain, sp, xs, ys, ls⟩ := c
  have h1 : w.reads w.heap.size cv (chain.map u32V) := h.1
  have h2 : w.rows u32V w.heap.size av xs := h.2.1
  have h3 : w.rows u32V w.heap.size bv ys := h.2.2.1
  have h4 : w.reads w.heap.size lw (ls.map i64V) := h.2.2.2
  obtain ⟨W0, hW0⟩ : ∃ W0, W0 = w.alloc (.cells #[.int .i64 N, .int .u32 pr, .int .i64 pw, cv, .int .u32 (sp : Int), .int .i64 wt, .int .u32 er, .int .i64 la, .bool sa, av, .int .i64 lb, .bool sb, bv, .int .i64 num, .int .i64 kk, .int .i64 level, .bool special, lw] 31) := ⟨_, rfl⟩
  have hb : Below w.heap.size w W0 := by rw [hW0]; exact below_new w _
  have G : Hid (W0.heap[w.heap.size]? = some (.cells #[.int .i64 N, .int .u32 pr, .int .i64 pw, cv, .int .u32 (sp : Int), .int .i64 wt, .int .u32 er, .int .i64 la, .bool sa, av, .int .i64 lb, .bool sb, bv, .int .i64 num, .int .i64 kk, .int .i64 level, .bool special, lw] 31)) := by rw [hW0]; exact heap_alloc_new w _
  have RP := hR (Lib.hid h1) hb
  have RA := hRow (Lib.hid h2) hb
  have RB := hRow (Lib.hid h3) hb
  have RL := hR (Lib.hid h4) hb
  have B := Lib.hid hb
  have hlg := large_any ⟨N, pr, pw, wt, er, la, lb, num, kk, level, cv, av, bv, lw, sa, sb, special, chain, sp, xs, ys, ls⟩ W0 ⟨RP.out, RA.out, RB.out, RL.out⟩
  obtain ⟨lg, hlgd⟩ : ∃ b, b = largeB ⟨N, pr, pw, wt, er, la, lb, num, kk, level, cv, av, bv, lw, sa, sb, special, chain, sp, xs, ys, ls⟩ := ⟨_, rfl⟩
  rw [← hlgd] at hlg
  simp only [RCase.cells] at hlg ⊢
  have HLG := Lib.hid hlg
  have LG := Lib.hid hlgd
  have HW0 := Lib.hid hW0
  obtain ⟨p0, p1, p2, p3, p4, p5, p6, p7, p8, p9, p10, p11, p12, p13, p14, p15, p16, p17⟩ := case_cells G.out
  have H1 := Lib.hid h1
  have H2 := Lib.hid h2
  have H3 := Lib.hid h3
  have H4 := Lib.hid h4
  clear hpost hb h h1 h2 h3 h4 hlg hlgd hW0
  go_enter Try.func7, Try.ntmps7
  go_upto_region 1 with (fail)
  rw [← HW0.out]
  obtain ⟨pc, hpc⟩ : ∃ z, z = w.heap.size := ⟨_, rfl⟩
  rw [← hpc] at G p0 p1 p2 p3 p4 p5 p6 p7 p8 p9 p10 p11 p12 p13 p14 p15 p16 p17 ⊢
  clear hpc HW0
  go_wp2_with fail
  (with_reducible refine HLG.out.mono ?_)
  rintro e v0 ⟨rfl, hb⟩
  replace B := hB B hb
  replace G := hG G hb
  replace RP := hR RP hb
  replace RA := hRow RA hb
  replace RB := hRow RB hb
  replace RL := hR RL hb
  clear hb HLG p0 p1 p2 p3 p4 p5 p6 p7 p8 p9 p10 p11 p12 p13 p14 p15 p16 p17
  cases lg with
  | true =>
    go_wp2_with fail
    (with_reducible refine (HAW.out _).mono ?_)
    rintro e wz ⟨rfl, hb⟩
    go_wp2
    rw [HP.out]
    exact ⟨rfl, below_via B.out hb⟩
  | false =>
  obtain ⟨hgx, hgy, -, -⟩ := large_spec LG.out
  have HLA := Lib.hid (fun W h => lent_any la sa av xs hgx W h)
  have HLB := Lib.hid (fun W h => lent_any lb sb bv ys hgy W h)
  obtain ⟨hxl, hxr⟩ := hugeB_spec hgx
  obtain ⟨hyl, hyr⟩ := hugeB_spec hgy
  have HSX := Lib.hid (And.intro hxl hxr)
  have HSY := Lib.hid (And.intro hyl hyr)
  clear hgx hgy hxl hxr hyl hyr
  unfold MadeElt at HLA HLB
  obtain ⟨p0, p1, p2, p3, p4, p5, p6, p7, p8, p9, p10, p11, p12, p13, p14, p15, p16, p17⟩ := case_cells G.out
  go_upto_region 3 with (fail)
  clear p0 p1 p2 p3 p4 p5 p6 p7 p8 p9 p10 p11 p12 p13 p14 p15 p16 p17
  have hS0 : ∀ W, Below v0.heap.size v0 W → W.cell? ⟨pc, 7, none⟩ = some (.int .i64 la) ∧ W.cell? ⟨pc, 8, none⟩ = some (.bool sa) ∧ W.cell? ⟨pc, 9, none⟩ = some (av) ∧ W.cell? ⟨pc, 10, none⟩ = some (.int .i64 lb) ∧ W.cell? ⟨pc, 11, none⟩ = some (.bool sb) ∧ W.cell? ⟨pc, 12, none⟩ = some (bv) := fun W hb => by
    obtain ⟨p0, p1, p2, p3, p4, p5, p6, p7, p8, p9, p10, p11, p12, p13, p14, p15, p16, p17⟩ := case_cells (hG G hb).out
    exact ⟨p7, p8, p9, p10, p11, p12⟩
  refine wp_region_AT2 8 5 4 4 3 v0.heap.size (fun W => W.cell? ⟨pc, 7, none⟩ = some (.int .i64 la) ∧ W.cell? ⟨pc, 8, none⟩ = some (.bool sa) ∧ W.cell? ⟨pc, 9, none⟩ = some (av) ∧ W.cell? ⟨pc, 10, none⟩ = some (.int .i64 lb) ∧ W.cell? ⟨pc, 11, none⟩ = some (.bool sb) ∧ W.cell? ⟨pc, 12, none⟩ = some (bv)) (fun W => Below v0.heap.size v0 W) (fun j => decide (8 ≤ j)) (by kernel_rfl) (by kernel_rfl) (by kernel_rfl) (by kernel_rfl) (by kernel_rfl) (by kernel_rfl) (fact_below (Nat.le_refl _) hS0) ((Below.refl _ _).drew) (fun hF => ?_)
  refine wpAnyA_alloc2 6 7 (.cells #[.int .i64 0, .bool false, .slice none 0 0] 28) (.cells #[.int .i64 0, .bool false, .slice none 0 0] 28) (by kernel_rfl) (by kernel_rfl) (by decide) rfl rfl rfl rfl (by kernel_rfl) (by kernel_rfl) (by kernel_rfl) (by kernel_rfl) (by kernel_rfl) (fun _ => rfl) (fun _ => rfl) (fun _ _ => rfl) (fun _ _ => rfl) (fun _ _ _ _ h => h) (fun _ _ _ _ h => h) hF ?_
  try simp only [Act.put, List.setIfInBounds_toArray, List.set_cons_zero, List.set_cons_succ]
  refine wpAnyA_take 0 (v := ?_) (by kernel_rfl) rfl rfl (by kernel_rfl) (by kernel_rfl) (fun _ _ _ h => h) (Or.inl ⟨by rfl, ?_⟩) (by assumption) ?_
  rotate_left
  · (intro wq hSq; (try dsimp only at hSq); go_simp; try with_reducible rfl)
  try simp only [Act.put, List.setIfInBounds_toArray, List.set_cons_zero, List.set_cons_succ]
  refine wpAnyA_take 1 (v := ?_) (by kernel_rfl) rfl rfl (by kernel_rfl) (by kernel_rfl) (fun _ _ _ h => h) (Or.inl ⟨by rfl, ?_⟩) (by assumption) ?_
  rotate_left
  · (intro wq hSq; (try dsimp only at hSq); go_simp; try with_reducible rfl)
  try simp only [Act.put, List.setIfInBounds_toArray, List.set_cons_zero, List.set_cons_succ]
  refine wpAnyA_take 3 (v := ?_) (by kernel_rfl) rfl rfl (by kernel_rfl) (by kernel_rfl) (fun _ _ _ h => h) (Or.inl ⟨by rfl, ?_⟩) (by assumption) ?_
  rotate_left
  · (intro wq hSq; (try dsimp only at hSq); go_simp; try with_reducible rfl)
  try simp only [Act.put, List.setIfInBounds_toArray, List.set_cons_zero, List.set_cons_succ]
  refine wpAnyA_take 4 (v := ?_) (by kernel_rfl) rfl rfl (by kernel_rfl) (by kernel_rfl) (fun _ _ _ h => h) (Or.inl ⟨by rfl, ?_⟩) (by assumption) ?_
  rotate_left
  · (intro wq hSq; (try dsimp only at hSq); go_simp; try with_reducible rfl)
  try simp only [Act.put, List.setIfInBounds_toArray, List.set_cons_zero, List.set_cons_succ]
  refine wpAnyA_step 2 (by kernel_rfl) rfl rfl (fun wq (hFq : Below v0.heap.size v0 wq) K hK => ?_)
  have hX : Below v0.heap.size v0 wq := hFq
  go_simp
  (with_reducible refine (HLA.out wq (hRow RA hX).out).mono ?_)
  rintro e v1 ⟨⟨rv, rfl, hrv⟩, hb⟩
  have hdv1 : Below v0.heap.size v0 v1 := below_via hX hb
  obtain ⟨au, cu, rfl, hu1, hu2, hu3⟩ := rowsO_spI hrv
  obtain ⟨nu, hnu⟩ : ∃ z, z = xs.length := ⟨_, rfl⟩
  rw [← hnu] at hu1 hrv ⊢
  obtain ⟨bu, hbu⟩ : ∃ z, z = wq.heap.size := ⟨_, rfl⟩
  obtain ⟨tu, htu⟩ : ∃ z, z = v1.heap.size := ⟨_, rfl⟩
  have HNu := Lib.hid hnu
  have HCu := Lib.hid (And.intro hu1 hu2)
  have Ou : Hid (v1.rowsO u32V bu 23 22 (.slice au nu cu) xs) := by rw [hbu]; exact hrv
  have Su : Hid (SpI bu tu au xs v1 ∧ tu ≤ v1.heap.size) := ⟨by rw [hbu, htu]; exact hu3, by rw [htu]; exact Nat.le_refl _⟩
  have BBu : Hid (v0.heap.size ≤ bu ∧ bu ≤ tu) := ⟨by rw [hbu]; exact hX.size, by rw [hbu, htu]; exact hb.size⟩
  clear hnu hbu hu1 hu2 hu3 hrv
  have HTU := Lib.hid htu
  clear htu
  have hF2 : Fact v0.heap.size (fun W => W.cell? ⟨pc, 7, none⟩ = some (.int .i64 la) ∧ W.cell? ⟨pc, 8, none⟩ = some (.bool sa) ∧ W.cell? ⟨pc, 9, none⟩ = some (av) ∧ W.cell? ⟨pc, 10, none⟩ = some (.int .i64 lb) ∧ W.cell? ⟨pc, 11, none⟩ = some (.bool sb) ∧ W.cell? ⟨pc, 12, none⟩ = some (bv)) (fun W => Below v1.heap.size v1 W) := fact_below hdv1.size (fun W hb => hS0 W (below_via hdv1 hb))
  refine hK.out _ _ hb (fun W => Below v1.heap.size v1 W) hF2 (Below.refl _ _) ?_
  clear hK K hFq hX hb hF
  have hF := hF2
  clear hF2
  try simp only [Act.put, List.setIfInBounds_toArray, List.set_cons_zero, List.set_cons_succ]
  refine wpAnyA_step 5 (by kernel_rfl) rfl rfl (fun wq (hFq : Below v1.heap.size v1 wq) K hK => ?_)
  have hX : Below v0.heap.size v0 wq := below_via hdv1 hFq
  go_simp
  (with_reducible refine (HLB.out wq (hRow RB hX).out).mono ?_)
  rintro e v2 ⟨⟨rv, rfl, hrv⟩, hb⟩
  have hdv2 : Below v0.heap.size v0 v2 := below_via hX hb
  have Ou2 : Hid (v2.rowsO u32V bu 23 22 (.slice au nu cu) xs) := (Ou.out.below hFq).below hb
  replace Ou := Ou2
  clear Ou2
  replace Su := hSp Su hFq
  replace Su := hSp Su hb
  obtain ⟨aw, cw, rfl, hw1, hw2, hw3⟩ := rowsO_spI hrv
  obtain ⟨nw, hnw⟩ : ∃ z, z = ys.length := ⟨_, rfl⟩
  rw [← hnw] at hw1 hrv ⊢
  obtain ⟨bw, hbw⟩ : ∃ z, z = wq.heap.size := ⟨_, rfl⟩
  obtain ⟨tw, htw⟩ : ∃ z, z = v2.heap.size := ⟨_, rfl⟩
  have HNw := Lib.hid hnw
  have HCw := Lib.hid (And.intro hw1 hw2)
  have Ow : Hid (v2.rowsO u32V bw 23 22 (.slice aw nw cw) ys) := by rw [hbw]; exact hrv
  have Sw : Hid (SpI bw tw aw ys v2 ∧ tw ≤ v2.heap.size) := ⟨by rw [hbw, htw]; exact hw3, by rw [htw]; exact Nat.le_refl _⟩
  have BBw : Hid (tu ≤ bw ∧ bw ≤ tw) := ⟨by rw [hbw]; exact (by rw [HTU.out]; exact hFq.size), by rw [hbw, htw]; exact hb.size⟩
  clear hnw hbw hw1 hw2 hw3 hrv
  clear htw HTU
  have hF2 : Fact v0.heap.size (fun W => W.cell? ⟨pc, 7, none⟩ = some (.int .i64 la) ∧ W.cell? ⟨pc, 8, none⟩ = some (.bool sa) ∧ W.cell? ⟨pc, 9, none⟩ = some (av) ∧ W.cell? ⟨pc, 10, none⟩ = some (.int .i64 lb) ∧ W.cell? ⟨pc, 11, none⟩ = some (.bool sb) ∧ W.cell? ⟨pc, 12, none⟩ = some (bv)) (fun W => Below v2.heap.size v2 W) := fact_below hdv2.size (fun W hb => hS0 W (below_via hdv2 hb))
  refine hK.out _ _ hb (fun W => Below v2.heap.size v2 W) hF2 (Below.refl _ _) ?_
  clear hK K hFq hX hb hF
  have hF := hF2
  clear hF2
  try simp only [Act.put, List.setIfInBounds_toArray, List.set_cons_zero, List.set_cons_succ]
  refine wpAnyA_end (by kernel_rfl) (fun x0 (hFx : Below v2.heap.size v2 x0) => ?_)
  intro p q hp hq hpq h7 h8
  have hd0 : Below v0.heap.size v0 x0 := below_via hdv2 hFx
  have hOu := Ou.out.below hFx
  have hOw := Ow.out.below hFx
  replace Su := hSp Su hFx
  replace Sw := hSp Sw hFx
  have hpq2 : q ≠ p := Ne.symm hpq
  clear hF hS0 hFx Ou Ow hdv1 hdv2
  obtain ⟨e0, e1, e2, y0, y1, y2⟩ := elem_cells h7
  refine wpAny_of_D (S := fun _ => True) (late := fun _ => true) _ _ _ _ ?_
  refine wpAnyD_step 8 (by kernel_rfl) rfl rfl (fun K hK => ?_)
  simp only [moreAfter]
  go_simp
  refine hK.out _ _ ?_
  clear hK K e0 e1 e2 y0 y1 y2
  try simp only [Act.put, List.setIfInBounds_toArray, List.set_cons_zero, List.set_cons_succ]
  have hd1 : Below v0.heap.size v0 (((x0.setCell ⟨p, 0, none⟩ (.int .i64 la)).setCell ⟨p, 1, none⟩ (.bool sa)).setCell ⟨p, 2, none⟩ (.slice au nu cu)) := ((hd0.setCell (show _ ≤ p from hp) _).setCell (show _ ≤ p from hp) _).setCell (show _ ≤ p from hp) _
  have m0 : (((x0.setCell ⟨p, 0, none⟩ (.int .i64 la)).setCell ⟨p, 1, none⟩ (.bool sa)).setCell ⟨p, 2, none⟩ (.slice au nu cu)).heap[p]? = some (.cells #[.int .i64 la, .bool sa, .slice au nu cu] 28) := by simp [World.setCell, Array.getElem?_modify, h7]
  have m1 : (((x0.setCell ⟨p, 0, none⟩ (.int .i64 la)).setCell ⟨p, 1, none⟩ (.bool sa)).setCell ⟨p, 2, none⟩ (.slice au nu cu)).heap[q]? = _ := ((Below.heap_setCell _ _ _ _ (by exact hpq2)).trans ((Below.heap_setCell _ _ _ _ (by exact hpq2)).trans (Below.heap_setCell _ _ _ _ (by exact hpq2)))).trans h8
  have o1 := rowsO_elem (.int .i64 la) (.bool sa) (.slice au nu cu) hOu h7
  have o2 := rowsO_elem (.int .i64 la) (.bool sa) (.slice au nu cu) hOw h7
  have s1 : Hid (SpI bu tu au xs (((x0.setCell ⟨p, 0, none⟩ (.int .i64 la)).setCell ⟨p, 1, none⟩ (.bool sa)).setCell ⟨p, 2, none⟩ (.slice au nu cu)) ∧ tu ≤ (((x0.setCell ⟨p, 0, none⟩ (.int .i64 la)).setCell ⟨p, 1, none⟩ (.bool sa)).setCell ⟨p, 2, none⟩ (.slice au nu cu)).heap.size) := ⟨sp3 Su.out.1 h7, by simp; exact Su.out.2⟩
  have s2 : Hid (SpI bw tw aw ys (((x0.setCell ⟨p, 0, none⟩ (.int .i64 la)).setCell ⟨p, 1, none⟩ (.bool sa)).setCell ⟨p, 2, none⟩ (.slice au nu cu)) ∧ tw ≤ (((x0.setCell ⟨p, 0, none⟩ (.int .i64 la)).setCell ⟨p, 1, none⟩ (.bool sa)).setCell ⟨p, 2, none⟩ (.slice au nu cu)).heap.size) := ⟨sp3 Sw.out.1 h7, by simp; exact Sw.out.2⟩
  clear h7 h8 hd0 hOu hOw Su Sw
  generalize ((x0.setCell ⟨p, 0, none⟩ (.int .i64 la)).setCell ⟨p, 1, none⟩ (.bool sa)).setCell ⟨p, 2, none⟩ (.slice au nu cu) = x1 at hd1 m0 m1 o1 o2 s1 s2 ⊢
  obtain ⟨e0, e1, e2, y0, y1, y2⟩ := elem_cells m1
  refine wpAnyD_step 9 (by kernel_rfl) rfl rfl (fun K hK => ?_)
  go_simp
  refine hK.out _ _ ?_
  clear hK K e0 e1 e2 y0 y1 y2
  try simp only [Act.put, List.setIfInBounds_toArray, List.set_cons_zero, List.set_cons_succ]
  have hd0 := hd1
  have hOu := o1
  have hOw := o2
  have Su := s1
  have Sw := s2
  have h7 := m0
  have h8 := m1
  clear hd1 o1 o2 s1 s2 m0 m1
  have hd1 : Below v0.heap.size v0 (((x1.setCell ⟨q, 0, none⟩ (.int .i64 lb)).setCell ⟨q, 1, none⟩ (.bool sb)).setCell ⟨q, 2, none⟩ (.slice aw nw cw)) := ((hd0.setCell (show _ ≤ q from hq) _).setCell (show _ ≤ q from hq) _).setCell (show _ ≤ q from hq) _
  have m0 : (((x1.setCell ⟨q, 0, none⟩ (.int .i64 lb)).setCell ⟨q, 1, none⟩ (.bool sb)).setCell ⟨q, 2, none⟩ (.slice aw nw cw)).heap[q]? = some (.cells #[.int .i64 lb, .bool sb, .slice aw nw cw] 28) := by simp [World.setCell, Array.getElem?_modify, h8]
  have m1 : (((x1.setCell ⟨q, 0, none⟩ (.int .i64 lb)).setCell ⟨q, 1, none⟩ (.bool sb)).setCell ⟨q, 2, none⟩ (.slice aw nw cw)).heap[p]? = _ := ((Below.heap_setCell _ _ _ _ (by exact hpq)).trans ((Below.heap_setCell _ _ _ _ (by exact hpq)).trans (Below.heap_setCell _ _ _ _ (by exact hpq)))).trans h7
  have o1 := rowsO_elem (.int .i64 lb) (.bool sb) (.slice aw nw cw) hOu h8
  have o2 := rowsO_elem (.int .i64 lb) (.bool sb) (.slice aw nw cw) hOw h8
  have s1 : Hid (SpI bu tu au xs (((x1.setCell ⟨q, 0, none⟩ (.int .i64 lb)).setCell ⟨q, 1, none⟩ (.bool sb)).setCell ⟨q, 2, none⟩ (.slice aw nw cw)) ∧ tu ≤ (((x1.setCell ⟨q, 0, none⟩ (.int .i64 lb)).setCell ⟨q, 1, none⟩ (.bool sb)).setCell ⟨q, 2, none⟩ (.slice aw nw cw)).heap.size) := ⟨sp3 Su.out.1 h8, by simp; exact Su.out.2⟩
  have s2 : Hid (SpI bw tw aw ys (((x1.setCell ⟨q, 0, none⟩ (.int .i64 lb)).setCell ⟨q, 1, none⟩ (.bool sb)).setCell ⟨q, 2, none⟩ (.slice aw nw cw)) ∧ tw ≤ (((x1.setCell ⟨q, 0, none⟩ (.int .i64 lb)).setCell ⟨q, 1, none⟩ (.bool sb)).setCell ⟨q, 2, none⟩ (.slice aw nw cw)).heap.size) := ⟨sp3 Sw.out.1 h8, by simp; exact Sw.out.2⟩
  clear h8 h7 hd0 hOu hOw Su Sw
  generalize ((x1.setCell ⟨q, 0, none⟩ (.int .i64 lb)).setCell ⟨q, 1, none⟩ (.bool sb)).setCell ⟨q, 2, none⟩ (.slice aw nw cw) = x2 at hd1 m0 m1 o1 o2 s1 s2 ⊢
  refine wpAnyD_end (by kernel_rfl) ?_
  have RU : Hid (ResAt x2 p bu la sa (.slice au nu cu) xs) := ⟨m1, o1⟩
  have RW : Hid (ResAt x2 q bw lb sb (.slice aw nw cw) ys) := ⟨m0, o2⟩
  have SU := s1
  have SW := s2
  have TB : Hid (tw ≤ x2.heap.size) := s2.out.2
  have PB : Hid (pc < bu ∧ w.heap.size ≤ bu) := ⟨Nat.lt_of_lt_of_le (lt_of_heap G.out) BBu.out.1, Nat.le_trans B.out.size BBu.out.1⟩
  have hb := hd1
  clear hd1 m0 m1 o1 o2 s1 s2 hp hq hpq hpq2
  replace B := hB B hb
  replace G := hG G hb
  replace RP := hR RP hb
  replace RA := hRow RA hb
  replace RB := hRow RB hb
  clear hb HLA HLB
  obtain ⟨o3, O3⟩ : ∃ o, Hid (o = twoB N chain sp la lb sa sb xs ys) := ⟨_, Lib.hid rfl⟩
  obtain ⟨p0, p1, p2, p3, p4, p5, p6, p7, p8, p9, p10, p11, p12, p13, p14, p15, p16, p17⟩ := case_cells G.out
  obtain ⟨ru0, ru1, ru2, -, -, -⟩ := elem_cells RU.out.heap
  obtain ⟨rw0, rw1, rw2, -, -, -⟩ := elem_cells RW.out.heap
  have HTL := TB
  go_wp2_with fail
  (with_reducible refine (add_o RP.out RU.out.rows RW.out.rows _ rfl _ rfl o3 O3.out).mono ?_)
  rintro e v4 ⟨la4, sa4, ra4, nn4, rc4, rs4, er4, rfl, hrow, hk, hk2, hb⟩
  have K4 := Lib.hid hk
  have J4 := Lib.hid hk2
  clear hk hk2
  replace B := hB B hb
  replace G := hG G hb
  replace RP := hR RP hb
  replace RA := hRow RA hb
  replace RB := hRow RB hb
  replace RU := ResAt.below RU hb
  replace RW := ResAt.below RW hb
  replace SU := hSp SU hb
  replace SW := hSp SW hb
  replace TB := hLe TB hb
  clear p0 p1 p2 p3 p4 p5 p6 p7 p8 p9 p10 p11 p12 p13 p14 p15 p16 p17 ru0 ru1 ru2 rw0 rw1 rw2
  clear hb
  go_upto_region 5 with (fail)
  have R4 := ResAt.new (la := la4) (sa := sa4) (lo := tw) hrow HTL.out
  have hb := below_new v4 (.cells #[.int .i64 la4, .bool sa4, .slice ra4 nn4 rc4] 28)
  obtain ⟨b4, hbd⟩ : ∃ z, z = v4.heap.size := ⟨_, rfl⟩
  rw [← hbd] at R4 ⊢
  generalize v4.alloc (.cells #[.int .i64 la4, .bool sa4, .slice ra4 nn4 rc4] 28) = v5 at hb R4 ⊢
  replace B := hB B hb
  replace G := hG G hb
  replace RP := hR RP hb
  replace RA := hRow RA hb
  replace RB := hRow RB hb
  replace RU := ResAt.below RU hb
  replace RW := ResAt.below RW hb
  replace SU := hSp SU hb
  replace SW := hSp SW hb
  replace TB := hLe TB hb
  clear hrow hb hbd HTL
  obtain ⟨p0, p1, p2, p3, p4, p5, p6, p7, p8, p9, p10, p11, p12, p13, p14, p15, p16, p17⟩ := case_cells G.out
  obtain ⟨ru0, ru1, ru2, -, -, -⟩ := elem_cells RU.out.heap
  obtain ⟨rw0, rw1, rw2, -, -, -⟩ := elem_cells RW.out.heap
  have HTL := TB
  go_wp2_with fail
  (with_reducible refine (sub_o RP.out RU.out.rows RW.out.rows _ rfl _ rfl o3 O3.out).mono ?_)
  rintro e v6 ⟨la5, sa5, ra5, nn5, rc5, rs5, er5, rfl, hrow, hk, hk2, hb⟩
  have K5 := Lib.hid hk
  have J5 := Lib.hid hk2
  clear hk hk2
  replace B := hB B hb
  replace G := hG G hb
  replace RP := hR RP hb
  replace RA := hRow RA hb
  replace RB := hRow RB hb
  replace RU := ResAt.below RU hb
  replace RW := ResAt.below RW hb
  replace SU := hSp SU hb
  replace SW := hSp SW hb
  replace TB := hLe TB hb
  replace R4 := ResAt.below R4 hb
  clear p0 p1 p2 p3 p4 p5 p6 p7 p8 p9 p10 p11 p12 p13 p14 p15 p16 p17 ru0 ru1 ru2 rw0 rw1 rw2
  clear hb
  go_upto_region 6 with (fail)
  have R5 := ResAt.new (la := la5) (sa := sa5) (lo := tw) hrow HTL.out
  have hb := below_new v6 (.cells #[.int .i64 la5, .bool sa5, .slice ra5 nn5 rc5] 28)
  obtain ⟨b5, hbd⟩ : ∃ z, z = v6.heap.size := ⟨_, rfl⟩
  rw [← hbd] at R5 ⊢
  generalize v6.alloc (.cells #[.int .i64 la5, .bool sa5, .slice ra5 nn5 rc5] 28) = v7 at hb R5 ⊢
  replace B := hB B hb
  replace G := hG G hb
  replace RP := hR RP hb
  replace RA := hRow RA hb
  replace RB := hRow RB hb
  replace RU := ResAt.below RU hb
  replace RW := ResAt.below RW hb
  replace SU := hSp SU hb
  replace SW := hSp SW hb
  replace TB := hLe TB hb
  replace R4 := ResAt.below R4 hb
  clear hrow hb hbd HTL
  obtain ⟨p0, p1, p2, p3, p4, p5, p6, p7, p8, p9, p10, p11, p12, p13, p14, p15, p16, p17⟩ := case_cells G.out
  obtain ⟨ru0, ru1, ru2, -, -, -⟩ := elem_cells RU.out.heap
  obtain ⟨rw0, rw1, rw2, -, -, -⟩ := elem_cells RW.out.heap
  have HTL := TB
  go_wp2_with fail
  (with_reducible refine (mul_o RP.out RU.out.rows RW.out.rows _ rfl _ rfl o3 O3.out).mono ?_)
  rintro e v8 ⟨la6, sa6, ra6, nn6, rc6, rs6, er6, rfl, hrow, hk, hk2, hb⟩
  have K6 := Lib.hid hk
  have J6 := Lib.hid hk2
  clear hk hk2
  replace B := hB B hb
  replace G := hG G hb
  replace RP := hR RP hb
  replace RA := hRow RA hb
  replace RB := hRow RB hb
  replace RU := ResAt.below RU hb
  replace RW := ResAt.below RW hb
  replace SU := hSp SU hb
  replace SW := hSp SW hb
  replace TB := hLe TB hb
  replace R4 := ResAt.below R4 hb
  replace R5 := ResAt.below R5 hb
  clear p0 p1 p2 p3 p4 p5 p6 p7 p8 p9 p10 p11 p12 p13 p14 p15 p16 p17 ru0 ru1 ru2 rw0 rw1 rw2
  clear hb
  go_upto_region 7 with (fail)
  have R6 := ResAt.new (la := la6) (sa := sa6) (lo := tw) hrow HTL.out
  have hb := below_new v8 (.cells #[.int .i64 la6, .bool sa6, .slice ra6 nn6 rc6] 28)
  obtain ⟨b6, hbd⟩ : ∃ z, z = v8.heap.size := ⟨_, rfl⟩
  rw [← hbd] at R6 ⊢
  generalize v8.alloc (.cells #[.int .i64 la6, .bool sa6, .slice ra6 nn6 rc6] 28) = v9 at hb R6 ⊢
  replace B := hB B hb
  replace G := hG G hb
  replace RP := hR RP hb
  replace RA := hRow RA hb
  replace RB := hRow RB hb
  replace RU := ResAt.below RU hb
  replace RW := ResAt.below RW hb
  replace SU := hSp SU hb
  replace SW := hSp SW hb
  replace TB := hLe TB hb
  replace R4 := ResAt.below R4 hb
  replace R5 := ResAt.below R5 hb
  clear hrow hb hbd HTL
  as_aux_lemma =>
    obtain ⟨sb0, hsb0⟩ : ∃ z, z = sameB la lb sa sb xs ys := ⟨_, rfl⟩
    have HSB := Lib.hid hsb0
    have HSB2 : Hid (sb0 = (decide (la = lb) && decide (sa = sb) && decide (xs = ys))) := hsb0
    clear hsb0
    have hS0 : ∀ W, Below v9.heap.size v9 W → W.cell? ⟨pc, 7, none⟩ = some (.int .i64 la) ∧ W.cell? ⟨pc, 8, none⟩ = some (.bool sa) ∧ W.cell? ⟨pc, 9, none⟩ = some (av) ∧ W.cell? ⟨pc, 10, none⟩ = some (.int .i64 lb) ∧ W.cell? ⟨pc, 11, none⟩ = some (.bool sb) ∧ W.cell? ⟨pc, 12, none⟩ = some (bv) ∧ W.cell? ⟨p, 0, none⟩ = some (.int .i64 la) ∧ W.cell? ⟨p, 1, none⟩ = some (.bool sa) ∧ W.cell? ⟨p, 2, none⟩ = some (.slice au nu cu) ∧ W.cell? ⟨q, 0, none⟩ = some (.int .i64 lb) ∧ W.cell? ⟨q, 1, none⟩ = some (.bool sb) ∧ W.cell? ⟨q, 2, none⟩ = some (.slice aw nw cw) := fun W hb => by
      obtain ⟨p0, p1, p2, p3, p4, p5, p6, p7, p8, p9, p10, p11, p12, p13, p14, p15, p16, p17⟩ := case_cells (hG G hb).out
      obtain ⟨x0, x1, x2, -, -, -⟩ := elem_cells (ResAt.below RU hb).out.heap
      obtain ⟨y0, y1, y2, -, -, -⟩ := elem_cells (ResAt.below RW hb).out.heap
      exact ⟨p7, p8, p9, p10, p11, p12, x0, x1, x2, y0, y1, y2⟩
    refine wp_region_A v9.heap.size (fun W => W.cell? ⟨pc, 7, none⟩ = some (.int .i64 la) ∧ W.cell? ⟨pc, 8, none⟩ = some (.bool sa) ∧ W.cell? ⟨pc, 9, none⟩ = some (av) ∧ W.cell? ⟨pc, 10, none⟩ = some (.int .i64 lb) ∧ W.cell? ⟨pc, 11, none⟩ = some (.bool sb) ∧ W.cell? ⟨pc, 12, none⟩ = some (bv) ∧ W.cell? ⟨p, 0, none⟩ = some (.int .i64 la) ∧ W.cell? ⟨p, 1, none⟩ = some (.bool sa) ∧ W.cell? ⟨p, 2, none⟩ = some (.slice au nu cu) ∧ W.cell? ⟨q, 0, none⟩ = some (.int .i64 lb) ∧ W.cell? ⟨q, 1, none⟩ = some (.bool sb) ∧ W.cell? ⟨q, 2, none⟩ = some (.slice aw nw cw)) (fun W => Below v9.heap.size v9 W) (fun _ => false) (by kernel_rfl) (by kernel_rfl) (fact_below (Nat.le_refl _) hS0) ((Below.refl _ _).drew) (fun hF => ?_)
    refine wpAnyA_take 0 (v := ?_) (by kernel_rfl) rfl rfl (by kernel_rfl) (by kernel_rfl) (fun _ _ _ h => h) (Or.inl ⟨by rfl, ?_⟩) (by assumption) ?_
    rotate_left
    · (intro wq hSq; (try dsimp only at hSq); go_simp; try with_reducible rfl)
    try simp only [Act.put, List.setIfInBounds_toArray, List.set_cons_zero, List.set_cons_succ]
    refine wpAnyA_take 1 (v := ?_) (by kernel_rfl) rfl rfl (by kernel_rfl) (by kernel_rfl) (fun _ _ _ h => h) (Or.inl ⟨by rfl, ?_⟩) (by assumption) ?_
    rotate_left
    · (intro wq hSq; (try dsimp only at hSq); go_simp; try with_reducible rfl)
    try simp only [Act.put, List.setIfInBounds_toArray, List.set_cons_zero, List.set_cons_succ]
    refine wpAnyA_take 2 (v := ?_) (by kernel_rfl) rfl rfl (by kernel_rfl) (by kernel_rfl) (fun _ _ _ h => h) (Or.inl ⟨by rfl, ?_⟩) (by assumption) ?_
    rotate_left
    · (intro wq hSq; (try dsimp only at hSq); go_simp; try with_reducible rfl)
    try simp only [Act.put, List.setIfInBounds_toArray, List.set_cons_zero, List.set_cons_succ]
    refine wpAnyA_step 3 (by kernel_rfl) rfl rfl (fun wq (hFq : Below v9.heap.size v9 wq) K hK => ?_)
    have hX : Below v9.heap.size v9 wq := hFq
    go_simp
    (with_reducible refine (lsame_any (ResAt.below RU hX).out.rows (hRow RA hX).out true (by simp)).mono ?_)
    rintro e v10 ⟨rfl, hb⟩
    have hdv10 : Below v9.heap.size v9 v10 := below_via hX hb
    have hF2 : Fact v9.heap.size (fun W => W.cell? ⟨pc, 7, none⟩ = some (.int .i64 la) ∧ W.cell? ⟨pc, 8, none⟩ = some (.bool sa) ∧ W.cell? ⟨pc, 9, none⟩ = some (av) ∧ W.cell? ⟨pc, 10, none⟩ = some (.int .i64 lb) ∧ W.cell? ⟨pc, 11, none⟩ = some (.bool sb) ∧ W.cell? ⟨pc, 12, none⟩ = some (bv) ∧ W.cell? ⟨p, 0, none⟩ = some (.int .i64 la) ∧ W.cell? ⟨p, 1, none⟩ = some (.bool sa) ∧ W.cell? ⟨p, 2, none⟩ = some (.slice au nu cu) ∧ W.cell? ⟨q, 0, none⟩ = some (.int .i64 lb) ∧ W.cell? ⟨q, 1, none⟩ = some (.bool sb) ∧ W.cell? ⟨q, 2, none⟩ = some (.slice aw nw cw)) (fun W => Below v10.heap.size v10 W) := fact_below hdv10.size (fun W hb => hS0 W (below_via hdv10 hb))
    refine hK.out _ _ hb (fun W => Below v10.heap.size v10 W) hF2 (Below.refl _ _) ?_
    clear hK K hFq hX hb hF
    have hF := hF2
    clear hF2
    try simp only [Act.put, List.setIfInBounds_toArray, List.set_cons_zero, List.set_cons_succ]
    refine wpAnyA_take 4 (v := ?_) (by kernel_rfl) rfl rfl (by kernel_rfl) (by kernel_rfl) (fun _ _ _ h => h) (Or.inl ⟨by rfl, ?_⟩) (by assumption) ?_
    rotate_left
    · (intro wq hSq; (try dsimp only at hSq); go_simp; try with_reducible rfl)
    try simp only [Act.put, List.setIfInBounds_toArray, List.set_cons_zero, List.set_cons_succ]
    refine wpAnyA_take 5 (v := ?_) (by kernel_rfl) rfl rfl (by kernel_rfl) (by kernel_rfl) (fun _ _ _ h => h) (Or.inl ⟨by rfl, ?_⟩) (by assumption) ?_
    rotate_left
    · (intro wq hSq; (try dsimp only at hSq); go_simp; try with_reducible rfl)
    try simp only [Act.put, List.setIfInBounds_toArray, List.set_cons_zero, List.set_cons_succ]
    refine wpAnyA_take 6 (v := ?_) (by kernel_rfl) rfl rfl (by kernel_rfl) (by kernel_rfl) (fun _ _ _ h => h) (Or.inl ⟨by rfl, ?_⟩) (by assumption) ?_
    rotate_left
    · (intro wq hSq; (try dsimp only at hSq); go_simp; try with_reducible rfl)
    try simp only [Act.put, List.setIfInBounds_toArray, List.set_cons_zero, List.set_cons_succ]
    refine wpAnyA_take 7 (v := ?_) (by kernel_rfl) rfl rfl (by kernel_rfl) (by kernel_rfl) (fun _ _ _ h => h) (Or.inl ⟨by rfl, ?_⟩) (by assumption) ?_
    rotate_left
    · (intro wq hSq; (try dsimp only at hSq); go_simp; try with_reducible rfl)
    try simp only [Act.put, List.setIfInBounds_toArray, List.set_cons_zero, List.set_cons_succ]
    refine wpAnyA_take 8 (v := ?_) (by kernel_rfl) rfl rfl (by kernel_rfl) (by kernel_rfl) (fun _ _ _ h => h) (Or.inl ⟨by rfl, ?_⟩) (by assumption) ?_
    rotate_left
    · (intro wq hSq; (try dsimp only at hSq); go_simp; try with_reducible rfl)
    try simp only [Act.put, List.setIfInBounds_toArray, List.set_cons_zero, List.set_cons_succ]
    refine wpAnyA_step 9 (by kernel_rfl) rfl rfl (fun wq (hFq : Below v10.heap.size v10 wq) K hK => ?_)
    have hX : Below v9.heap.size v9 wq := below_via hdv10 hFq
    rw [if_pos (by rfl)]
    go_simp
    (with_reducible refine (lsame_any (ResAt.below RW hX).out.rows (hRow RB hX).out true (by simp)).mono ?_)
    rintro e v11 ⟨rfl, hb⟩
    have hdv11 : Below v9.heap.size v9 v11 := below_via hX hb
    have hF2 : Fact v9.heap.size (fun W => W.cell? ⟨pc, 7, none⟩ = some (.int .i64 la) ∧ W.cell? ⟨pc, 8, none⟩ = some (.bool sa) ∧ W.cell? ⟨pc, 9, none⟩ = some (av) ∧ W.cell? ⟨pc, 10, none⟩ = some (.int .i64 lb) ∧ W.cell? ⟨pc, 11, none⟩ = some (.bool sb) ∧ W.cell? ⟨pc, 12, none⟩ = some (bv) ∧ W.cell? ⟨p, 0, none⟩ = some (.int .i64 la) ∧ W.cell? ⟨p, 1, none⟩ = some (.bool sa) ∧ W.cell? ⟨p, 2, none⟩ = some (.slice au nu cu) ∧ W.cell? ⟨q, 0, none⟩ = some (.int .i64 lb) ∧ W.cell? ⟨q, 1, none⟩ = some (.bool sb) ∧ W.cell? ⟨q, 2, none⟩ = some (.slice aw nw cw)) (fun W => Below v11.heap.size v11 W) := fact_below hdv11.size (fun W hb => hS0 W (below_via hdv11 hb))
    refine hK.out _ _ hb (fun W => Below v11.heap.size v11 W) hF2 (Below.refl _ _) ?_
    clear hK K hFq hX hb hF
    have hF := hF2
    clear hF2
    try simp only [Act.put, List.setIfInBounds_toArray, List.set_cons_zero, List.set_cons_succ]
    refine wpAnyA_take 10 (v := ?_) (by kernel_rfl) rfl rfl (by kernel_rfl) (by kernel_rfl) (fun _ _ _ h => h) (Or.inl ⟨by rfl, ?_⟩) (by assumption) ?_
    rotate_left
    · (intro wq hSq; (try dsimp only at hSq); go_simp; try with_reducible rfl)
    try simp only [Act.put, List.setIfInBounds_toArray, List.set_cons_zero, List.set_cons_succ]
    refine wpAnyA_take 11 (v := ?_) (by kernel_rfl) rfl rfl (by kernel_rfl) (by kernel_rfl) (fun _ _ _ h => h) (Or.inl ⟨by rfl, ?_⟩) (by assumption) ?_
    rotate_left
    · (intro wq hSq; (try dsimp only at hSq); go_simp; try with_reducible rfl)
    try simp only [Act.put, List.setIfInBounds_toArray, List.set_cons_zero, List.set_cons_succ]
    refine wpAnyA_take 12 (v := ?_) (by kernel_rfl) rfl rfl (by kernel_rfl) (by kernel_rfl) (fun _ _ _ h => h) (Or.inl ⟨by rfl, ?_⟩) (by assumption) ?_
    rotate_left
    · (intro wq hSq; (try dsimp only at hSq); go_simp; try with_reducible rfl)
    try simp only [Act.put, List.setIfInBounds_toArray, List.set_cons_zero, List.set_cons_succ]
    refine wpAnyA_take 13 (v := ?_) (by kernel_rfl) rfl rfl (by kernel_rfl) (by kernel_rfl) (fun _ _ _ h => h) (Or.inl ⟨by rfl, ?_⟩) (by assumption) ?_
    rotate_left
    · (intro wq hSq; (try dsimp only at hSq); go_simp; try with_reducible rfl)
    try simp only [Act.put, List.setIfInBounds_toArray, List.set_cons_zero, List.set_cons_succ]
    refine wpAnyA_take 14 (v := ?_) (by kernel_rfl) rfl rfl (by kernel_rfl) (by kernel_rfl) (fun _ _ _ h => h) (Or.inl ⟨by rfl, ?_⟩) (by assumption) ?_
    rotate_left
    · (intro wq hSq; (try dsimp only at hSq); go_simp; try with_reducible rfl)
    try simp only [Act.put, List.setIfInBounds_toArray, List.set_cons_zero, List.set_cons_succ]
    refine wpAnyA_take 16 (v := ?_) (by kernel_rfl) rfl rfl (by kernel_rfl) (by kernel_rfl) (fun _ _ _ h => h) (Or.inl ⟨by rfl, ?_⟩) (by assumption) ?_
    rotate_left
    · (intro wq hSq; (try dsimp only at hSq); go_simp; try with_reducible rfl)
    try simp only [Act.put, List.setIfInBounds_toArray, List.set_cons_zero, List.set_cons_succ]
    refine wpAnyA_take 17 (v := ?_) (by kernel_rfl) rfl rfl (by kernel_rfl) (by kernel_rfl) (fun _ _ _ h => h) (Or.inl ⟨by rfl, ?_⟩) (by assumption) ?_
    rotate_left
    · (intro wq hSq; (try dsimp only at hSq); go_simp; try with_reducible rfl)
    try simp only [Act.put, List.setIfInBounds_toArray, List.set_cons_zero, List.set_cons_succ]
    refine wpAnyA_step 15 (by kernel_rfl) rfl rfl (fun wq (hFq : Below v11.heap.size v11 wq) K hK => ?_)
    have hX : Below v9.heap.size v9 wq := below_via hdv11 hFq
    rw [if_pos (by rfl)]
    go_simp
    (with_reducible refine (same_any la lb sa sb _ _ xs ys wq (ResAt.below RU hX).out.rows (ResAt.below RW hX).out.rows).mono ?_)
    rintro e v12 ⟨he, hb⟩
    have hdv12 : Below v9.heap.size v9 v12 := below_via hX hb
    rw [← HSB.out] at he
    subst he
    have hF2 : Fact v9.heap.size (fun W => W.cell? ⟨pc, 7, none⟩ = some (.int .i64 la) ∧ W.cell? ⟨pc, 8, none⟩ = some (.bool sa) ∧ W.cell? ⟨pc, 9, none⟩ = some (av) ∧ W.cell? ⟨pc, 10, none⟩ = some (.int .i64 lb) ∧ W.cell? ⟨pc, 11, none⟩ = some (.bool sb) ∧ W.cell? ⟨pc, 12, none⟩ = some (bv) ∧ W.cell? ⟨p, 0, none⟩ = some (.int .i64 la) ∧ W.cell? ⟨p, 1, none⟩ = some (.bool sa) ∧ W.cell? ⟨p, 2, none⟩ = some (.slice au nu cu) ∧ W.cell? ⟨q, 0, none⟩ = some (.int .i64 lb) ∧ W.cell? ⟨q, 1, none⟩ = some (.bool sb) ∧ W.cell? ⟨q, 2, none⟩ = some (.slice aw nw cw)) (fun W => Below v12.heap.size v12 W) := fact_below hdv12.size (fun W hb => hS0 W (below_via hdv12 hb))
    refine hK.out _ _ hb (fun W => Below v12.heap.size v12 W) hF2 (Below.refl _ _) ?_
    clear hK K hFq hX hb hF
    have hF := hF2
    clear hF2
    try simp only [Act.put, List.setIfInBounds_toArray, List.set_cons_zero, List.set_cons_succ]
    refine wpAnyA_step 18 (by kernel_rfl) rfl rfl (fun wq (hFq : Below v12.heap.size v12 wq) K hK => ?_)
    have hX : Below v9.heap.size v9 wq := below_via hdv12 hFq
    rw [if_pos (by rfl)]
    go_simp
    (with_reducible refine (lsame_any (ResAt.below RU hX).out.rows (ResAt.below RW hX).out.rows sb0 HSB2.out).mono ?_)
    rintro e v13 ⟨rfl, hb⟩
    have hdv13 : Below v9.heap.size v9 v13 := below_via hX hb
    have hF2 : Fact v9.heap.size (fun W => W.cell? ⟨pc, 7, none⟩ = some (.int .i64 la) ∧ W.cell? ⟨pc, 8, none⟩ = some (.bool sa) ∧ W.cell? ⟨pc, 9, none⟩ = some (av) ∧ W.cell? ⟨pc, 10, none⟩ = some (.int .i64 lb) ∧ W.cell? ⟨pc, 11, none⟩ = some (.bool sb) ∧ W.cell? ⟨pc, 12, none⟩ = some (bv) ∧ W.cell? ⟨p, 0, none⟩ = some (.int .i64 la) ∧ W.cell? ⟨p, 1, none⟩ = some (.bool sa) ∧ W.cell? ⟨p, 2, none⟩ = some (.slice au nu cu) ∧ W.cell? ⟨q, 0, none⟩ = some (.int .i64 lb) ∧ W.cell? ⟨q, 1, none⟩ = some (.bool sb) ∧ W.cell? ⟨q, 2, none⟩ = some (.slice aw nw cw)) (fun W => Below v13.heap.size v13 W) := fact_below hdv13.size (fun W hb => hS0 W (below_via hdv13 hb))
    refine hK.out _ _ hb (fun W => Below v13.heap.size v13 W) hF2 (Below.refl _ _) ?_
    clear hK K hFq hX hb hF
    have hF := hF2
    clear hF2
    try simp only [Act.put, List.setIfInBounds_toArray, List.set_cons_zero, List.set_cons_succ]
    refine wpAnyA_take 19 (v := .bool false) (by kernel_rfl) rfl rfl (by kernel_rfl) (by kernel_rfl) (fun _ _ _ h => h) (Or.inl ⟨by rfl, ?_⟩) (by assumption) ?_
    · (intro wq hSq; (try dsimp only at hSq); go_simp; all_goals (first | rfl | (simp; done)))
    try simp only [Act.put, List.setIfInBounds_toArray, List.set_cons_zero, List.set_cons_succ]
    refine wpAnyA_take 20 (v := ?_) (by kernel_rfl) rfl rfl (by kernel_rfl) (by kernel_rfl) (fun _ _ _ h => h) (Or.inl ⟨by rfl, ?_⟩) (by assumption) ?_
    rotate_left
    · (intro wq hSq; (try dsimp only at hSq); go_simp; try with_reducible rfl)
    try simp only [Act.put, List.setIfInBounds_toArray, List.set_cons_zero, List.set_cons_succ]
    refine wpAnyA_take 21 (v := ?_) (by kernel_rfl) rfl rfl (by kernel_rfl) (by kernel_rfl) (fun _ _ _ h => h) (Or.inl ⟨by rfl, ?_⟩) (by assumption) ?_
    rotate_left
    · (intro wq hSq; (try dsimp only at hSq); go_simp; try with_reducible rfl)
    try simp only [Act.put, List.setIfInBounds_toArray, List.set_cons_zero, List.set_cons_succ]
    refine wpAnyA_take 22 (v := ?_) (by kernel_rfl) rfl rfl (by kernel_rfl) (by kernel_rfl) (fun _ _ _ h => h) (Or.inl ⟨by rfl, ?_⟩) (by assumption) ?_
    rotate_left
    · (intro wq hSq; (try dsimp only at hSq); go_simp; try with_reducible rfl)
    try simp only [Act.put, List.setIfInBounds_toArray, List.set_cons_zero, List.set_cons_succ]
    refine wpAnyA_take 23 (v := ?_) (by kernel_rfl) rfl rfl (by kernel_rfl) (by kernel_rfl) (fun _ _ _ h => h) (Or.inl ⟨by rfl, ?_⟩) (by assumption) ?_
    rotate_left
    · (intro wq hSq; (try dsimp only at hSq); go_simp; try with_reducible rfl)
    try simp only [Act.put, List.setIfInBounds_toArray, List.set_cons_zero, List.set_cons_succ]
    refine wpAnyA_take 24 (v := ?_) (by kernel_rfl) rfl rfl (by kernel_rfl) (by kernel_rfl) (fun _ _ _ h => h) (Or.inl ⟨by rfl, ?_⟩) (by assumption) ?_
    rotate_left
    · (intro wq hSq; (try dsimp only at hSq); go_simp; try with_reducible rfl)
    try simp only [Act.put, List.setIfInBounds_toArray, List.set_cons_zero, List.set_cons_succ]
    refine wpAnyA_step 25 (by kernel_rfl) rfl rfl (fun wq (hFq : Below v13.heap.size v13 wq) K hK => ?_)
    have hX : Below v9.heap.size v9 wq := below_via hdv13 hFq
    rw [if_pos (by rfl)]
    go_simp
    (with_reducible refine (same_any la la sa sa _ _ xs xs wq (ResAt.below RU hX).out.rows (hRow RA hX).out).mono ?_)
    rintro e v14 ⟨he, hb⟩
    have hdv14 : Below v9.heap.size v9 v14 := below_via hX hb
    rw [show sameB la la sa sa xs xs = true by unfold sameB; simp] at he
    subst he
    have hF2 : Fact v9.heap.size (fun W => W.cell? ⟨pc, 7, none⟩ = some (.int .i64 la) ∧ W.cell? ⟨pc, 8, none⟩ = some (.bool sa) ∧ W.cell? ⟨pc, 9, none⟩ = some (av) ∧ W.cell? ⟨pc, 10, none⟩ = some (.int .i64 lb) ∧ W.cell? ⟨pc, 11, none⟩ = some (.bool sb) ∧ W.cell? ⟨pc, 12, none⟩ = some (bv) ∧ W.cell? ⟨p, 0, none⟩ = some (.int .i64 la) ∧ W.cell? ⟨p, 1, none⟩ = some (.bool sa) ∧ W.cell? ⟨p, 2, none⟩ = some (.slice au nu cu) ∧ W.cell? ⟨q, 0, none⟩ = some (.int .i64 lb) ∧ W.cell? ⟨q, 1, none⟩ = some (.bool sb) ∧ W.cell? ⟨q, 2, none⟩ = some (.slice aw nw cw)) (fun W => Below v14.heap.size v14 W) := fact_below hdv14.size (fun W hb => hS0 W (below_via hdv14 hb))
    refine hK.out _ _ hb (fun W => Below v14.heap.size v14 W) hF2 (Below.refl _ _) ?_
    clear hK K hFq hX hb hF
    have hF := hF2
    clear hF2
    try simp only [Act.put, List.setIfInBounds_toArray, List.set_cons_zero, List.set_cons_succ]
    refine wpAnyA_take 26 (v := ?_) (by kernel_rfl) rfl rfl (by kernel_rfl) (by kernel_rfl) (fun _ _ _ h => h) (Or.inl ⟨by rfl, ?_⟩) (by assumption) ?_
    rotate_left
    · (intro wq hSq; (try dsimp only at hSq); go_simp; try with_reducible rfl)
    try simp only [Act.put, List.setIfInBounds_toArray, List.set_cons_zero, List.set_cons_succ]
    refine wpAnyA_take 27 (v := ?_) (by kernel_rfl) rfl rfl (by kernel_rfl) (by kernel_rfl) (fun _ _ _ h => h) (Or.inl ⟨by rfl, ?_⟩) (by assumption) ?_
    rotate_left
    · (intro wq hSq; (try dsimp only at hSq); go_simp; try with_reducible rfl)
    try simp only [Act.put, List.setIfInBounds_toArray, List.set_cons_zero, List.set_cons_succ]
    refine wpAnyA_done (by kernel_rfl) (fun x9 (hFx : Below v14.heap.size v14 x9) => ?_)
    have hb : Below v9.heap.size v9 x9 := below_via hdv14 hFx
    clear hF hS0 hFx hdv10 hdv11 hdv12 hdv13 hdv14 HSB
    refine wpAny_of_D (S := fun _ => True) (late := fun _ => true) _ _ _ _ ?_
    refine wpAnyD_end (by kernel_rfl) ?_
    replace B := hB B hb
    replace G := hG G hb
    replace RP := hR RP hb
    replace RA := hRow RA hb
    replace RB := hRow RB hb
    replace RU := ResAt.below RU hb
    replace RW := ResAt.below RW hb
    replace SU := hSp SU hb
    replace SW := hSp SW hb
    replace TB := hLe TB hb
    replace R4 := ResAt.below R4 hb
    replace R5 := ResAt.below R5 hb
    replace R6 := ResAt.below R6 hb
    clear hb
    have HSP : Hid (∀ W, SpI bu tu au xs W ∧ tu ≤ W.heap.size → Calls Try.prog 25 #[.agg #[.int .i64 la, .bool sa, .slice au nu cu]] W (SpPost bu tu W)) := fun W h => by
      rw [HNu.out]
      exact spoil_any la sa au cu bu tu xs HSX.out.1 (by rw [← HNu.out]; exact HCu.out.1) HCu.out.2 W (Nat.le_trans BBu.out.2 h.2) h.2 h.1 HSX.out.2
    unfold SpPost at HSP
    obtain ⟨ru0, ru1, ru2, -, -, -⟩ := elem_cells RU.out.heap
    go_wp2_with fail
    (with_reducible refine (HSP.out _ SU.out).mono ?_)
    rintro e v15 ⟨rfl, hkp, hsz, hbb⟩
    have HK := Lib.hid hkp
    clear ru0 ru1 ru2
    clear RU SU HSP hkp
    replace B : Hid (Below w.heap.size w v15) := Lib.hid (hbb _ _ B.out PB.out.2)
    replace G := sp_low HK G PB.out.1
    replace RP := hR_at H1 B
    replace RA := hRow_at H2 B
    replace RB := hRow_at H3 B
    replace R4 := ResAt.spoil HK R4 (Nat.le_trans BBw.out.1 BBw.out.2)
    replace R5 := ResAt.spoil HK R5 (Nat.le_trans BBw.out.1 BBw.out.2)
    replace R6 := ResAt.spoil HK R6 (Nat.le_trans BBw.out.1 BBw.out.2)
    replace RW := ResAt.spoil HK RW BBw.out.1
    replace SW := sp_sp HK SW BBw.out.1 hsz
    replace TB : Hid (tw ≤ v15.heap.size) := Nat.le_trans TB.out hsz
    clear HK hsz hbb
    have HSP : Hid (∀ W, SpI bw tw aw ys W ∧ tw ≤ W.heap.size → Calls Try.prog 25 #[.agg #[.int .i64 lb, .bool sb, .slice aw nw cw]] W (SpPost bw tw W)) := fun W h => by
      rw [HNw.out]
      exact spoil_any lb sb aw cw bw tw ys HSY.out.1 (by rw [← HNw.out]; exact HCw.out.1) HCw.out.2 W (Nat.le_trans BBw.out.2 h.2) h.2 h.1 HSY.out.2
    unfold SpPost at HSP
    obtain ⟨rw0, rw1, rw2, -, -, -⟩ := elem_cells RW.out.heap
    go_wp2_with fail
    (with_reducible refine (HSP.out _ SW.out).mono ?_)
    rintro e v16 ⟨rfl, hkp, hsz, hbb⟩
    have HK := Lib.hid hkp
    clear rw0 rw1 rw2
    clear RW SW HSP hkp
    replace B : Hid (Below w.heap.size w v16) := Lib.hid (hbb _ _ B.out (Nat.le_trans PB.out.2 (Nat.le_trans BBu.out.2 BBw.out.1)))
    replace G := sp_low HK G (Nat.lt_of_lt_of_le PB.out.1 (Nat.le_trans BBu.out.2 BBw.out.1))
    replace RP := hR_at H1 B
    replace RA := hRow_at H2 B
    replace RB := hRow_at H3 B
    replace R4 := ResAt.spoil HK R4 (Nat.le_refl _)
    replace R5 := ResAt.spoil HK R5 (Nat.le_refl _)
    replace R6 := ResAt.spoil HK R6 (Nat.le_refl _)
    replace TB : Hid (tw ≤ v16.heap.size) := Nat.le_trans TB.out hsz
    clear HK hsz hbb
    clear TB
    as_aux_lemma =>
      obtain ⟨p0, p1, p2, p3, p4, p5, p6, p7, p8, p9, p10, p11, p12, p13, p14, p15, p16, p17⟩ := case_cells G.out
      go_wp2_with fail
      (with_reducible refine (radd_e RP.out RA.out RB.out _ rfl _ rfl o3 O3.out).mono ?_)
      rintro e v17 ⟨laa, saa, raa, nna, rca, rsa, era, rfl, hrow, hk, hk2, hb⟩
      have Ka := Lib.hid hk
      have Ja := Lib.hid hk2
      clear hk hk2
      replace B := hB B hb
      replace G := hG G hb
      replace RP := hR RP hb
      replace RA := hRow RA hb
      replace RB := hRow RB hb
      replace R4 := ResAt.below R4 hb
      replace R5 := ResAt.below R5 hb
      replace R6 := ResAt.below R6 hb
      clear p0 p1 p2 p3 p4 p5 p6 p7 p8 p9 p10 p11 p12 p13 p14 p15 p16 p17
      clear hb
      go_upto_region 12 with (fail)
      have Ea := ElAt.new (la := laa) (sa := saa) hrow
      have hb := below_new v17 (.cells #[.int .i64 laa, .bool saa, .slice raa nna rca] 28)
      obtain ⟨ba, hbd⟩ : ∃ z, z = v17.heap.size := ⟨_, rfl⟩
      rw [← hbd] at Ea ⊢
      generalize v17.alloc (.cells #[.int .i64 laa, .bool saa, .slice raa nna rca] 28) = v18 at hb Ea ⊢
      replace B := hB B hb
      replace G := hG G hb
      replace RP := hR RP hb
      replace RA := hRow RA hb
      replace RB := hRow RB hb
      replace R4 := ResAt.below R4 hb
      replace R5 := ResAt.below R5 hb
      replace R6 := ResAt.below R6 hb
      clear hrow hb hbd
      obtain ⟨p0, p1, p2, p3, p4, p5, p6, p7, p8, p9, p10, p11, p12, p13, p14, p15, p16, p17⟩ := case_cells G.out
      go_wp2_with fail
      (with_reducible refine (rsub_e RP.out RA.out RB.out _ rfl _ rfl o3 O3.out).mono ?_)
      rintro e v19 ⟨lab, sab, rab, nnb, rcb, rsb, erb, rfl, hrow, hk, hk2, hb⟩
      have Kb := Lib.hid hk
      have Jb := Lib.hid hk2
      clear hk hk2
      replace B := hB B hb
      replace G := hG G hb
      replace RP := hR RP hb
      replace RA := hRow RA hb
      replace RB := hRow RB hb
      replace R4 := ResAt.below R4 hb
      replace R5 := ResAt.below R5 hb
      replace R6 := ResAt.below R6 hb
      replace Ea := ElAt.below Ea hb
      clear p0 p1 p2 p3 p4 p5 p6 p7 p8 p9 p10 p11 p12 p13 p14 p15 p16 p17
      clear hb
      go_upto_region 13 with (fail)
      have Eb := ElAt.new (la := lab) (sa := sab) hrow
      have hb := below_new v19 (.cells #[.int .i64 lab, .bool sab, .slice rab nnb rcb] 28)
      obtain ⟨bb, hbd⟩ : ∃ z, z = v19.heap.size := ⟨_, rfl⟩
      rw [← hbd] at Eb ⊢
      generalize v19.alloc (.cells #[.int .i64 lab, .bool sab, .slice rab nnb rcb] 28) = v20 at hb Eb ⊢
      replace B := hB B hb
      replace G := hG G hb
      replace RP := hR RP hb
      replace RA := hRow RA hb
      replace RB := hRow RB hb
      replace R4 := ResAt.below R4 hb
      replace R5 := ResAt.below R5 hb
      replace R6 := ResAt.below R6 hb
      replace Ea := ElAt.below Ea hb
      clear hrow hb hbd
      obtain ⟨p0, p1, p2, p3, p4, p5, p6, p7, p8, p9, p10, p11, p12, p13, p14, p15, p16, p17⟩ := case_cells G.out
      go_wp2_with fail
      (with_reducible refine (rmul_e RP.out RA.out RB.out _ rfl _ rfl o3 O3.out).mono ?_)
      rintro e v21 ⟨lac, sac, rac, nnc, rcc, rsc, erc, rfl, hrow, hk, hk2, hb⟩
      have Kc := Lib.hid hk
      have Jc := Lib.hid hk2
      clear hk hk2
      replace B := hB B hb
      replace G := hG G hb
      replace RP := hR RP hb
      replace RA := hRow RA hb
      replace RB := hRow RB hb
      replace R4 := ResAt.below R4 hb
      replace R5 := ResAt.below R5 hb
      replace R6 := ResAt.below R6 hb
      replace Ea := ElAt.below Ea hb
      replace Eb := ElAt.below Eb hb
      clear p0 p1 p2 p3 p4 p5 p6 p7 p8 p9 p10 p11 p12 p13 p14 p15 p16 p17
      clear hb
      go_upto_region 14 with (fail)
      have Ec := ElAt.new (la := lac) (sa := sac) hrow
      have hb := below_new v21 (.cells #[.int .i64 lac, .bool sac, .slice rac nnc rcc] 28)
      obtain ⟨bc, hbd⟩ : ∃ z, z = v21.heap.size := ⟨_, rfl⟩
      rw [← hbd] at Ec ⊢
      generalize v21.alloc (.cells #[.int .i64 lac, .bool sac, .slice rac nnc rcc] 28) = v22 at hb Ec ⊢
      replace B := hB B hb
      replace G := hG G hb
      replace RP := hR RP hb
      replace RA := hRow RA hb
      replace RB := hRow RB hb
      replace R4 := ResAt.below R4 hb
      replace R5 := ResAt.below R5 hb
      replace R6 := ResAt.below R6 hb
      replace Ea := ElAt.below Ea hb
      replace Eb := ElAt.below Eb hb
      clear hrow hb hbd
      obtain ⟨e1, e2, e3, e4⟩ := el_eq K4 J4 Ka Ja
      subst e1 e2 e3 e4
      clear K4 J4 Ka Ja
      obtain ⟨e1, e2, e3, e4⟩ := el_eq K5 J5 Kb Jb
      subst e1 e2 e3 e4
      clear K5 J5 Kb Jb
      obtain ⟨e1, e2, e3, e4⟩ := el_eq K6 J6 Kc Jc
      subst e1 e2 e3 e4
      clear K6 J6 Kc Jc
      obtain ⟨r40, r41, r42, -, -, -⟩ := elem_cells R4.out.heap
      obtain ⟨ea0, ea1, ea2, -, -, -⟩ := elem_cells Ea.out.heap
      go_wp2_with fail
      (with_reducible refine (lsame_any R4.out.rows Ea.out.rows true (by simp)).mono ?_)
      rintro e v23 ⟨rfl, hb⟩
      replace B := hB B hb
      replace G := hG G hb
      replace RP := hR RP hb
      replace RA := hRow RA hb
      replace RB := hRow RB hb
      replace R4 := ResAt.below R4 hb
      replace R5 := ResAt.below R5 hb
      replace R6 := ResAt.below R6 hb
      replace Ea := ElAt.below Ea hb
      replace Eb := ElAt.below Eb hb
      replace Ec := ElAt.below Ec hb
      clear r40 r41 r42 ea0 ea1 ea2
      clear hb
      obtain ⟨r50, r51, r52, -, -, -⟩ := elem_cells R5.out.heap
      obtain ⟨eb0, eb1, eb2, -, -, -⟩ := elem_cells Eb.out.heap
      go_wp2_with fail
      (with_reducible refine (lsame_any R5.out.rows Eb.out.rows true (by simp)).mono ?_)
      rintro e v24 ⟨rfl, hb⟩
      replace B := hB B hb
      replace G := hG G hb
      replace RP := hR RP hb
      replace RA := hRow RA hb
      replace RB := hRow RB hb
      replace R4 := ResAt.below R4 hb
      replace R5 := ResAt.below R5 hb
      replace R6 := ResAt.below R6 hb
      replace Ea := ElAt.below Ea hb
      replace Eb := ElAt.below Eb hb
      replace Ec := ElAt.below Ec hb
      clear r50 r51 r52 eb0 eb1 eb2
      clear hb
      obtain ⟨r60, r61, r62, -, -, -⟩ := elem_cells R6.out.heap
      obtain ⟨ec0, ec1, ec2, -, -, -⟩ := elem_cells Ec.out.heap
      go_wp2_with fail
      (with_reducible refine (lsame_any R6.out.rows Ec.out.rows true (by simp)).mono ?_)
      rintro e v25 ⟨rfl, hb⟩
      replace B := hB B hb
      replace G := hG G hb
      replace RP := hR RP hb
      replace RA := hRow RA hb
      replace RB := hRow RB hb
      replace R4 := ResAt.below R4 hb
      replace R5 := ResAt.below R5 hb
      replace R6 := ResAt.below R6 hb
      replace Ea := ElAt.below Ea hb
      replace Eb := ElAt.below Eb hb
      replace Ec := ElAt.below Ec hb
      clear r60 r61 r62 ec0 ec1 ec2
      clear hb
      go_wp2_with fail
      (with_reducible refine (HAW.out _).mono ?_)
      rintro e wz ⟨rfl, hb⟩
      go_wp2
      rw [HP.out]
      exact ⟨rfl, below_via B.out hb⟩
end Go.Proofs.Ytkjlfjnncdkmlaa.G
