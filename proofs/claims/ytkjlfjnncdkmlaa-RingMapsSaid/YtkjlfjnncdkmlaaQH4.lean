/- Walks: the law RingMaps. -/
import Derived.Test.YtkjlfjnncdkmlaaPF6
namespace Go.Proofs.Ytkjlfjnncdkmlaa.G
set_option linter.all false
open Go.RowKit Go.Shelf Go.BigFrame
attribute [local go_sem] Oper.semAt_some
theorem one_i64s (l : List Int) : ∀ u ∈ l.map i64V, u.oneCell' = true := by
  intro u hu
  obtain ⟨x, -, rfl⟩ := List.mem_map.1 hu
  rfl
set_option maxRecDepth 100000 in
set_option maxHeartbeats 16000000 in
theorem maps_law (c : RCase) (w : World) (h : c.reads w.heap.size w) (hnum : -9223372036854775808 ≤ c.num ∧ c.num ≤ 9223372036854775807) (hkk : -9223372036854775808 ≤ c.kk ∧ c.kk ≤ 9223372036854775807) (hls : ∀ z ∈ c.ls, -9223372036854775808 ≤ z ∧ z ≤ 9223372036854775807) : Calls Try.prog 6 #[.agg c.cells] w fun e w' => e = .returned (.bool true) ∧ Below w.heap.size w w' := by
  obtain ⟨HPOST, hpost⟩ : ∃ R : Ending → World → Prop, R = fun e w' => e = .returned (.bool true) ∧ Below w.heap.size w w' := ⟨_, rfl⟩
  rw [← hpost]
  have HP := Lib.hid hpost
  have HAW := Lib.hid awake_any
  obtain ⟨N, pr, pw, wt, er, la, lb, num, kk, level, cv, av, bv, lw, sa, sb, special, chain, sp, xs, ys, ls⟩ := c
  have h1 : w.reads w.heap.size cv (chain.map u32V) := h.1
  have h2 : w.rows u32V w.heap.size av xs := h.2.1
  have h3 : w.rows u32V w.heap.size bv ys := h.2.2.1
  have h4 : w.reads w.heap.size lw (ls.map i64V) := h.2.2.2
  obtain ⟨W0, hW0⟩ : ∃ W0, W0 = w.alloc (.cells #[.int .i64 N, .int .u32 pr, .int .i64 pw, cv, .int .u32 (sp : Int), .int .i64 wt, .int .u32 er, .int .i64 la, .bool sa, av, .int .i64 lb, .bool sb, bv, .int .i64 num, .int .i64 kk, .int .i64 level, .bool special, lw] 31) := ⟨_, rfl⟩
  have hb : Below w.heap.size w W0 := by rw [hW0]; exact below_new w _
  have G : Hid (W0.heap[w.heap.size]? = some (.cells #[.int .i64 N, .int .u32 pr, .int .i64 pw, cv, .int .u32 (sp : Int), .int .i64 wt, .int .u32 er, .int .i64 la, .bool sa, av, .int .i64 lb, .bool sb, bv, .int .i64 num, .int .i64 kk, .int .i64 level, .bool special, lw] 31)) := by rw [hW0]; exact heap_alloc_new w _
  have RP := hR (Lib.hid h1) hb
  have RA := hRow (Lib.hid h2) hb
  have RB := hRow (Lib.hid h3) hb
  have RL := hR (Lib.hid h4) hb
  have B := Lib.hid hb
  have hlg := large_any ⟨N, pr, pw, wt, er, la, lb, num, kk, level, cv, av, bv, lw, sa, sb, special, chain, sp, xs, ys, ls⟩ W0 ⟨RP.out, RA.out, RB.out, RL.out⟩
  obtain ⟨lg, hlgd⟩ : ∃ b, b = largeB ⟨N, pr, pw, wt, er, la, lb, num, kk, level, cv, av, bv, lw, sa, sb, special, chain, sp, xs, ys, ls⟩ := ⟨_, rfl⟩
  rw [← hlgd] at hlg
  simp only [RCase.cells] at hlg ⊢
  have HLG := Lib.hid hlg
  have LG := Lib.hid hlgd
  have HW0 := Lib.hid hW0
  obtain ⟨p0, p1, p2, p3, p4, p5, p6, p7, p8, p9, p10, p11, p12, p13, p14, p15, p16, p17⟩ := case_cells G.out
  have H1 := Lib.hid h1
  have H2 := Lib.hid h2
  have H4 := Lib.hid h4
  have HNUM : Hid (-9223372036854775808 ≤ num ∧ num ≤ 9223372036854775807) := hnum
  have HKK : Hid (-9223372036854775808 ≤ kk ∧ kk ≤ 9223372036854775807) := hkk
  have HLS := Lib.hid hls
  clear hnum hkk hls
  clear hpost hb h h1 h2 h3 h4 hlg hlgd hW0
  go_enter Try.func6, Try.ntmps6
  go_upto_region 1 with (fail)
  rw [← HW0.out]
  obtain ⟨pc, hpc⟩ : ∃ z, z = w.heap.size := ⟨_, rfl⟩
  rw [← hpc] at G p0 p1 p2 p3 p4 p5 p6 p7 p8 p9 p10 p11 p12 p13 p14 p15 p16 p17 ⊢
  clear hpc HW0
  go_wp2_with fail
  (with_reducible refine HLG.out.mono ?_)
  rintro e v0 ⟨rfl, hb⟩
  replace B := hB B hb
  replace G := hG G hb
  replace RP := hR RP hb
  replace RA := hRow RA hb
  replace RB := hRow RB hb
  replace RL := hR RL hb
  clear hb HLG p0 p1 p2 p3 p4 p5 p6 p7 p8 p9 p10 p11 p12 p13 p14 p15 p16 p17
  cases lg with
  | true =>
    go_wp2_with fail
    (with_reducible refine (HAW.out _).mono ?_)
    rintro e wz ⟨rfl, hb⟩
    go_wp2
    rw [HP.out]
    exact ⟨rfl, below_via B.out hb⟩
  | false =>
  clear RB
  obtain ⟨hgx, -, -, hgl⟩ := large_spec LG.out
  have HLA := Lib.hid (fun W h => lent_any la sa av xs hgx W h)
  have HSX := Lib.hid (hugeB_spec hgx)
  have HGL : Hid (ls.length ≤ 100) := hgl
  clear hgx hgl
  unfold MadeElt at HLA
  obtain ⟨i0, hi0, hiz, hiz1, hizb⟩ := info_parts infoI64
  obtain ⟨p0, p1, p2, p3, p4, p5, p6, p7, p8, p9, p10, p11, p12, p13, p14, p15, p16, p17⟩ := case_cells G.out
  go_wp2_with fail
  (with_reducible refine (HLA.out _ RA.out).mono ?_)
  rintro e v1 ⟨⟨rv, rfl, hrv⟩, hb⟩
  obtain ⟨aw, cw, rfl, hw1, hw2, hw3⟩ := rowsO_spI hrv
  obtain ⟨nw, hnw⟩ : ∃ z, z = xs.length := ⟨_, rfl⟩
  rw [← hnw] at hw1 hrv ⊢
  obtain ⟨bw, hbw⟩ : ∃ z, z = v0.heap.size := ⟨_, rfl⟩
  obtain ⟨tw, htw⟩ : ∃ z, z = v1.heap.size := ⟨_, rfl⟩
  have HNw := Lib.hid hnw
  have HCw := Lib.hid (And.intro hw1 hw2)
  have Ow : Hid (v1.rowsO u32V bw 23 22 (.slice aw nw cw) xs) := by rw [hbw]; exact hrv
  have Sw : Hid (SpI bw tw aw xs v1 ∧ tw ≤ v1.heap.size) := ⟨by rw [hbw, htw]; exact hw3, by rw [htw]; exact Nat.le_refl _⟩
  have BBw : Hid (v0.heap.size ≤ bw ∧ bw ≤ tw) := ⟨by rw [hbw]; exact Nat.le_refl _, by rw [hbw, htw]; exact hb.size⟩
  clear hnw hbw hw1 hw2 hw3 hrv
  clear htw
  have PB : Hid (pc < bw ∧ w.heap.size ≤ bw) := ⟨Nat.lt_of_lt_of_le (lt_of_heap G.out) BBw.out.1, Nat.le_trans B.out.size BBw.out.1⟩
  replace B := hB B hb
  replace G := hG G hb
  replace RP := hR RP hb
  replace RA := hRow RA hb
  replace RL := hR RL hb
  clear p0 p1 p2 p3 p4 p5 p6 p7 p8 p9 p10 p11 p12 p13 p14 p15 p16 p17
  clear hb HLA
  go_upto_region 4 with (fail)
  have RU : Hid (ResAt (v1.alloc (.cells #[.int .i64 la, .bool sa, .slice aw nw cw] 28)) v1.heap.size bw la sa (.slice aw nw cw) xs) := ⟨heap_alloc_new v1 _, Ow.out.below (below_new v1 _)⟩
  have hb := below_new v1 (.cells #[.int .i64 la, .bool sa, .slice aw nw cw] 28)
  have SU := Sw
  obtain ⟨p, hpd⟩ : ∃ z, z = v1.heap.size := ⟨_, rfl⟩
  rw [← hpd] at RU ⊢
  replace SU := hSp SU hb
  generalize v1.alloc (.cells #[.int .i64 la, .bool sa, .slice aw nw cw] 28) = v2 at hb RU SU ⊢
  replace B := hB B hb
  replace G := hG G hb
  replace RP := hR RP hb
  replace RA := hRow RA hb
  replace RL := hR RL hb
  clear hb hpd Ow Sw
  have TB : Hid (tw ≤ v2.heap.size) := SU.out.2
  obtain ⟨ec, hec⟩ : ∃ z, z = errI (checkB N chain sp la sa xs) := ⟨_, rfl⟩
  have HEC := Lib.hid hec
  clear hec
  obtain ⟨p0, p1, p2, p3, p4, p5, p6, p7, p8, p9, p10, p11, p12, p13, p14, p15, p16, p17⟩ := case_cells G.out
  obtain ⟨ru0, ru1, ru2, -, -, -⟩ := elem_cells RU.out.heap
  go_wp2_with fail
  (with_reducible refine (check_e RP.out RU.out.rows ec HEC.out).mono ?_)
  rintro e v3 ⟨rfl, hb⟩
  replace B := hB B hb
  replace G := hG G hb
  replace RP := hR RP hb
  replace RA := hRow RA hb
  replace RL := hR RL hb
  replace RU := ResAt.below RU hb
  replace SU := hSp SU hb
  replace TB := hLe TB hb
  clear p0 p1 p2 p3 p4 p5 p6 p7 p8 p9 p10 p11 p12 p13 p14 p15 p16 p17 ru0 ru1 ru2
  clear hb
  obtain ⟨o1, O1⟩ : ∃ o, Hid (o = intsB N chain sp level special ls) := ⟨_, Lib.hid rfl⟩
  obtain ⟨o2, O2⟩ : ∃ o, Hid (o = checkB N chain sp la sa xs) := ⟨_, Lib.hid rfl⟩
  obtain ⟨o3, O3⟩ : ∃ o, Hid (o = (checkB N chain sp la sa xs && autB N kk)) := ⟨_, Lib.hid rfl⟩
  obtain ⟨o4, O4⟩ : ∃ o, Hid (o = (checkB N chain sp la sa xs && resB2 la sa level special)) := ⟨_, Lib.hid rfl⟩
  obtain ⟨p0, p1, p2, p3, p4, p5, p6, p7, p8, p9, p10, p11, p12, p13, p14, p15, p16, p17⟩ := case_cells G.out
  go_upto_region 5 with (fail)
  clear p0 p1 p2 p3 p4 p5 p6 p7 p8 p9 p10 p11 p12 p13 p14 p15 p16 p17
  have hS0 : ∀ W, Below v3.heap.size v3 W → W.cell? ⟨pc, 0, none⟩ = some (.int .i64 N) ∧ W.cell? ⟨pc, 1, none⟩ = some (.int .u32 pr) ∧ W.cell? ⟨pc, 2, none⟩ = some (.int .i64 pw) ∧ W.cell? ⟨pc, 3, none⟩ = some (cv) ∧ W.cell? ⟨pc, 4, none⟩ = some (.int .u32 (sp : Int)) ∧ W.cell? ⟨pc, 5, none⟩ = some (.int .i64 wt) ∧ W.cell? ⟨pc, 6, none⟩ = some (.int .u32 er) ∧ W.cell? ⟨pc, 15, none⟩ = some (.int .i64 level) ∧ W.cell? ⟨pc, 16, none⟩ = some (.bool special) ∧ W.cell? ⟨pc, 17, none⟩ = some (lw) := fun W hb => by
    obtain ⟨p0, p1, p2, p3, p4, p5, p6, p7, p8, p9, p10, p11, p12, p13, p14, p15, p16, p17⟩ := case_cells (hG G hb).out
    exact ⟨p0, p1, p2, p3, p4, p5, p6, p15, p16, p17⟩
  refine wp_region_AE 15 13 v3.heap.size (fun W => W.cell? ⟨pc, 0, none⟩ = some (.int .i64 N) ∧ W.cell? ⟨pc, 1, none⟩ = some (.int .u32 pr) ∧ W.cell? ⟨pc, 2, none⟩ = some (.int .i64 pw) ∧ W.cell? ⟨pc, 3, none⟩ = some (cv) ∧ W.cell? ⟨pc, 4, none⟩ = some (.int .u32 (sp : Int)) ∧ W.cell? ⟨pc, 5, none⟩ = some (.int .i64 wt) ∧ W.cell? ⟨pc, 6, none⟩ = some (.int .u32 er) ∧ W.cell? ⟨pc, 15, none⟩ = some (.int .i64 level) ∧ W.cell? ⟨pc, 16, none⟩ = some (.bool special) ∧ W.cell? ⟨pc, 17, none⟩ = some (lw)) (fun W => Below v3.heap.size v3 W) (fun j => decide (15 ≤ j)) (by kernel_rfl) rfl (by kernel_rfl) (fun _ _ _ _ h => h) (by kernel_rfl) (fact_below (Nat.le_refl _) hS0) ((Below.refl _ _).drew) (fun hF => ?_)
  refine wpAnyA_alloc 14 (.cells #[.int .i64 0, .bool false, .slice none 0 0] 28) (by kernel_rfl) rfl rfl (by kernel_rfl) (by kernel_rfl) (fun _ => rfl) (fun _ _ => rfl) (fun _ _ _ _ h => h) hF ?_
  try simp only [Act.put, List.setIfInBounds_toArray, List.set_cons_zero, List.set_cons_succ]
  refine wpAnyA_take 0 (v := ?_) (by kernel_rfl) rfl rfl (by kernel_rfl) (by kernel_rfl) (fun _ _ _ h => h) (Or.inl ⟨by rfl, ?_⟩) (by assumption) ?_
  rotate_left
  · (intro wq hSq; (try dsimp only at hSq); go_simp; try with_reducible rfl)
  try simp only [Act.put, List.setIfInBounds_toArray, List.set_cons_zero, List.set_cons_succ]
  refine wpAnyA_take 1 (v := ?_) (by kernel_rfl) rfl rfl (by kernel_rfl) (by kernel_rfl) (fun _ _ _ h => h) (Or.inl ⟨by rfl, ?_⟩) (by assumption) ?_
  rotate_left
  · (intro wq hSq; (try dsimp only at hSq); go_simp; try with_reducible rfl)
  try simp only [Act.put, List.setIfInBounds_toArray, List.set_cons_zero, List.set_cons_succ]
  refine wpAnyA_take 2 (v := ?_) (by kernel_rfl) rfl rfl (by kernel_rfl) (by kernel_rfl) (fun _ _ _ h => h) (Or.inl ⟨by rfl, ?_⟩) (by assumption) ?_
  rotate_left
  · (intro wq hSq; (try dsimp only at hSq); go_simp; try with_reducible rfl)
  try simp only [Act.put, List.setIfInBounds_toArray, List.set_cons_zero, List.set_cons_succ]
  refine wpAnyA_take 3 (v := ?_) (by kernel_rfl) rfl rfl (by kernel_rfl) (by kernel_rfl) (fun _ _ _ h => h) (Or.inl ⟨by rfl, ?_⟩) (by assumption) ?_
  rotate_left
  · (intro wq hSq; (try dsimp only at hSq); go_simp; try with_reducible rfl)
  try simp only [Act.put, List.setIfInBounds_toArray, List.set_cons_zero, List.set_cons_succ]
  refine wpAnyA_take 4 (v := ?_) (by kernel_rfl) rfl rfl (by kernel_rfl) (by kernel_rfl) (fun _ _ _ h => h) (Or.inl ⟨by rfl, ?_⟩) (by assumption) ?_
  rotate_left
  · (intro wq hSq; (try dsimp only at hSq); go_simp; try with_reducible rfl)
  try simp only [Act.put, List.setIfInBounds_toArray, List.set_cons_zero, List.set_cons_succ]
  refine wpAnyA_take 5 (v := ?_) (by kernel_rfl) rfl rfl (by kernel_rfl) (by kernel_rfl) (fun _ _ _ h => h) (Or.inl ⟨by rfl, ?_⟩) (by assumption) ?_
  rotate_left
  · (intro wq hSq; (try dsimp only at hSq); go_simp; try with_reducible rfl)
  try simp only [Act.put, List.setIfInBounds_toArray, List.set_cons_zero, List.set_cons_succ]
  refine wpAnyA_take 7 (v := ?_) (by kernel_rfl) rfl rfl (by kernel_rfl) (by kernel_rfl) (fun _ _ _ h => h) (Or.inl ⟨by rfl, ?_⟩) (by assumption) ?_
  rotate_left
  · (intro wq hSq; (try dsimp only at hSq); go_simp; try with_reducible rfl)
  try simp only [Act.put, List.setIfInBounds_toArray, List.set_cons_zero, List.set_cons_succ]
  refine wpAnyA_take 8 (v := ?_) (by kernel_rfl) rfl rfl (by kernel_rfl) (by kernel_rfl) (fun _ _ _ h => h) (Or.inl ⟨by rfl, ?_⟩) (by assumption) ?_
  rotate_left
  · (intro wq hSq; (try dsimp only at hSq); go_simp; try with_reducible rfl)
  try simp only [Act.put, List.setIfInBounds_toArray, List.set_cons_zero, List.set_cons_succ]
  refine wpAnyA_step 6 (by kernel_rfl) rfl rfl (fun wq (hFq : Below v3.heap.size v3 wq) K hK => ?_)
  go_simp
  have hb := below_new wq (.cells #[] 2)
  have hdv4 : Below v3.heap.size v3 (wq.alloc (.cells #[] 2)) := below_via hFq hb
  obtain ⟨g6, hg6⟩ : ∃ z, z = wq.heap.size := ⟨_, rfl⟩
  refine hK.out _ _ hb (fun W => Below (wq.alloc (.cells #[] 2)).heap.size (wq.alloc (.cells #[] 2)) W) (fact_below hdv4.size (fun W hb => hS0 W (below_via hdv4 hb))) (Below.refl _ _) ?_
  rw [← hg6]
  generalize wq.alloc (.cells #[] 2) = v4 at hdv4 ⊢
  have hF2 : Fact v3.heap.size (fun W => W.cell? ⟨pc, 0, none⟩ = some (.int .i64 N) ∧ W.cell? ⟨pc, 1, none⟩ = some (.int .u32 pr) ∧ W.cell? ⟨pc, 2, none⟩ = some (.int .i64 pw) ∧ W.cell? ⟨pc, 3, none⟩ = some (cv) ∧ W.cell? ⟨pc, 4, none⟩ = some (.int .u32 (sp : Int)) ∧ W.cell? ⟨pc, 5, none⟩ = some (.int .i64 wt) ∧ W.cell? ⟨pc, 6, none⟩ = some (.int .u32 er) ∧ W.cell? ⟨pc, 15, none⟩ = some (.int .i64 level) ∧ W.cell? ⟨pc, 16, none⟩ = some (.bool special) ∧ W.cell? ⟨pc, 17, none⟩ = some (lw)) (fun W => Below v4.heap.size v4 W) := fact_below hdv4.size (fun W hb => hS0 W (below_via hdv4 hb))
  clear hK K hFq hb hF hg6
  have hF := hF2
  clear hF2
  try simp only [Act.put, List.setIfInBounds_toArray, List.set_cons_zero, List.set_cons_succ]
  refine wpAnyA_step 9 (by kernel_rfl) rfl rfl (fun wq (hFq : Below v4.heap.size v4 wq) K hK => ?_)
  have hX : Below v3.heap.size v3 wq := below_via hdv4 hFq
  rw [if_pos (by rfl)]
  refine step_append_copy (.tmp 42) (.tmp 44) 29 (by rfl) 2 i0 (.int .i64 0) 8 Try.underlying29 hi0 hiz hiz1 hizb rfl g6 (by rfl) _ lw (ls.map i64V) (by rfl) (hR RL hX).out (one_i64s ls) (by rw [List.length_map]; have := HGL.out; unfold maxLen; omega) (by rw [List.length_map]; have := HGL.out; omega) ?_
  intro lv v5 hb hr9
  have R9 := Lib.hid hr9
  have hdv5 : Below v3.heap.size v3 v5 := below_via hX hb
  have hF2 : Fact v3.heap.size (fun W => W.cell? ⟨pc, 0, none⟩ = some (.int .i64 N) ∧ W.cell? ⟨pc, 1, none⟩ = some (.int .u32 pr) ∧ W.cell? ⟨pc, 2, none⟩ = some (.int .i64 pw) ∧ W.cell? ⟨pc, 3, none⟩ = some (cv) ∧ W.cell? ⟨pc, 4, none⟩ = some (.int .u32 (sp : Int)) ∧ W.cell? ⟨pc, 5, none⟩ = some (.int .i64 wt) ∧ W.cell? ⟨pc, 6, none⟩ = some (.int .u32 er) ∧ W.cell? ⟨pc, 15, none⟩ = some (.int .i64 level) ∧ W.cell? ⟨pc, 16, none⟩ = some (.bool special) ∧ W.cell? ⟨pc, 17, none⟩ = some (lw)) (fun W => Below v5.heap.size v5 W) := fact_below hdv5.size (fun W hb => hS0 W (below_via hdv5 hb))
  refine hK.out _ _ hb (fun W => Below v5.heap.size v5 W) hF2 (Below.refl _ _) ?_
  clear hK K hFq hX hb hF hr9
  have hF := hF2
  clear hF2
  try simp only [Act.put, List.setIfInBounds_toArray, List.set_cons_zero, List.set_cons_succ]
  refine wpAnyA_step 10 (by kernel_rfl) rfl rfl (fun wq (hFq : Below v5.heap.size v5 wq) K hK => ?_)
  have hX : Below v3.heap.size v3 wq := below_via hdv5 hFq
  go_simp
  (with_reducible refine (ints_o (hR RP hX).out level special _ ls (hR R9 hFq).out o1 O1.out).mono ?_)
  rintro e v6 ⟨la4, sa4, ra4, nn4, rc4, rs4, er4, rfl, hrow, hk, hk2, hb⟩
  have hdv6 : Below v3.heap.size v3 v6 := below_via hX hb
  have K4 := Lib.hid hk
  have J4 := Lib.hid hk2
  have hrow2 := hrow.mono (Nat.le_trans TB.out hX.size)
  clear hk hk2 hrow
  have hF2 : Fact v3.heap.size (fun W => W.cell? ⟨pc, 0, none⟩ = some (.int .i64 N) ∧ W.cell? ⟨pc, 1, none⟩ = some (.int .u32 pr) ∧ W.cell? ⟨pc, 2, none⟩ = some (.int .i64 pw) ∧ W.cell? ⟨pc, 3, none⟩ = some (cv) ∧ W.cell? ⟨pc, 4, none⟩ = some (.int .u32 (sp : Int)) ∧ W.cell? ⟨pc, 5, none⟩ = some (.int .i64 wt) ∧ W.cell? ⟨pc, 6, none⟩ = some (.int .u32 er) ∧ W.cell? ⟨pc, 15, none⟩ = some (.int .i64 level) ∧ W.cell? ⟨pc, 16, none⟩ = some (.bool special) ∧ W.cell? ⟨pc, 17, none⟩ = some (lw)) (fun W => Below v6.heap.size v6 W) := fact_below hdv6.size (fun W hb => hS0 W (below_via hdv6 hb))
  refine hK.out _ _ hb (fun W => Below v6.heap.size v6 W) hF2 (Below.refl _ _) ?_
  clear hK K hFq hX hb hF
  have hF := hF2
  clear hF2
  try simp only [Act.put, List.setIfInBounds_toArray, List.set_cons_zero, List.set_cons_succ]
  refine wpAnyA_take 11 (v := ?_) (by kernel_rfl) rfl rfl (by kernel_rfl) (by kernel_rfl) (fun _ _ _ h => h) (Or.inl ⟨by rfl, ?_⟩) (by assumption) ?_
  rotate_left
  · (intro wq hSq; (try dsimp only at hSq); go_simp; try with_reducible rfl)
  try simp only [Act.put, List.setIfInBounds_toArray, List.set_cons_zero, List.set_cons_succ]
  refine wpAnyA_take 12 (v := ?_) (by kernel_rfl) rfl rfl (by kernel_rfl) (by kernel_rfl) (fun _ _ _ h => h) (Or.inl ⟨by rfl, ?_⟩) (by assumption) ?_
  rotate_left
  · (intro wq hSq; (try dsimp only at hSq); go_simp; try with_reducible rfl)
  try simp only [Act.put, List.setIfInBounds_toArray, List.set_cons_zero, List.set_cons_succ]
  refine wpAnyA_take 13 (v := ?_) (by kernel_rfl) rfl rfl (by kernel_rfl) (by kernel_rfl) (fun _ _ _ h => h) (Or.inl ⟨by rfl, ?_⟩) (by assumption) ?_
  rotate_left
  · (intro wq hSq; (try dsimp only at hSq); go_simp; try with_reducible rfl)
  try simp only [Act.put, List.setIfInBounds_toArray, List.set_cons_zero, List.set_cons_succ]
  refine wpAnyA_end (by kernel_rfl) (fun x0 (hFx : Below v6.heap.size v6 x0) => ?_)
  intro q hq h7
  have hrow0 := hrow2.below hFx
  have hd0 : Below v3.heap.size v3 x0 := below_via hdv6 hFx
  clear hF hS0 hFx hrow2 R9 hdv4 hdv5 hdv6
  obtain ⟨e0, e1, e2, y0, y1, y2⟩ := elem_cells h7
  refine wpAny_of_D (S := fun _ => True) (late := fun _ => true) _ _ _ _ ?_
  refine wpAnyD_step 15 (by kernel_rfl) rfl rfl (fun K hK => ?_)
  simp only [moreAfter]
  go_simp
  refine hK.out _ _ ?_
  clear hK K e0 e1 e2 y0 y1 y2
  try simp only [Act.put, List.setIfInBounds_toArray, List.set_cons_zero, List.set_cons_succ]
  have hb : Below v3.heap.size v3 (((x0.setCell ⟨q, 0, none⟩ (.int .i64 la4)).setCell ⟨q, 1, none⟩ (.bool sa4)).setCell ⟨q, 2, none⟩ (.slice ra4 nn4 rc4)) := ((hd0.setCell (show _ ≤ q from hq) _).setCell (show _ ≤ q from hq) _).setCell (show _ ≤ q from hq) _
  have m0 : (((x0.setCell ⟨q, 0, none⟩ (.int .i64 la4)).setCell ⟨q, 1, none⟩ (.bool sa4)).setCell ⟨q, 2, none⟩ (.slice ra4 nn4 rc4)).heap[q]? = some (.cells #[.int .i64 la4, .bool sa4, .slice ra4 nn4 rc4] 28) := by simp [World.setCell, Array.getElem?_modify, h7]
  have m1 := rowsO_elem (.int .i64 la4) (.bool sa4) (.slice ra4 nn4 rc4) hrow0 h7
  clear h7 hd0 hq hrow0
  generalize ((x0.setCell ⟨q, 0, none⟩ (.int .i64 la4)).setCell ⟨q, 1, none⟩ (.bool sa4)).setCell ⟨q, 2, none⟩ (.slice ra4 nn4 rc4) = x1 at hb m0 m1 ⊢
  refine wpAnyD_step 16 (by kernel_rfl) rfl rfl (fun K hK => ?_)
  go_simp
  refine hK.out _ _ ?_
  clear hK K
  try simp only [Act.put, List.setIfInBounds_toArray, List.set_cons_zero, List.set_cons_succ]
  refine wpAnyD_end (by kernel_rfl) ?_
  have R4 : Hid (ResAt x1 q tw la4 sa4 (.slice ra4 nn4 rc4) rs4) := ⟨m0, m1⟩
  clear m0 m1
  replace B := hB B hb
  replace G := hG G hb
  replace RP := hR RP hb
  replace RA := hRow RA hb
  replace RL := hR RL hb
  replace RU := ResAt.below RU hb
  replace SU := hSp SU hb
  replace TB := hLe TB hb
  clear hb i0 hi0 hiz hiz1 hizb
  as_aux_lemma =>
    obtain ⟨p0, p1, p2, p3, p4, p5, p6, p7, p8, p9, p10, p11, p12, p13, p14, p15, p16, p17⟩ := case_cells G.out
    obtain ⟨ru0, ru1, ru2, -, -, -⟩ := elem_cells RU.out.heap
    have HTL := TB
    go_wp2_with fail
    (with_reducible refine (neg_o RP.out RU.out.rows _ rfl _ rfl o2 O2.out).mono ?_)
    rintro e v7 ⟨la5, sa5, ra5, nn5, rc5, rs5, er5, rfl, hrow, hk, hk2, hb⟩
    have K5 := Lib.hid hk
    have J5 := Lib.hid hk2
    clear hk hk2
    replace B := hB B hb
    replace G := hG G hb
    replace RP := hR RP hb
    replace RA := hRow RA hb
    replace RL := hR RL hb
    replace RU := ResAt.below RU hb
    replace SU := hSp SU hb
    replace TB := hLe TB hb
    replace R4 := ResAt.below R4 hb
    clear p0 p1 p2 p3 p4 p5 p6 p7 p8 p9 p10 p11 p12 p13 p14 p15 p16 p17 ru0 ru1 ru2
    clear hb
    go_upto_region 7 with (fail)
    have R5 := ResAt.new (la := la5) (sa := sa5) (lo := tw) hrow HTL.out
    have hb := below_new v7 (.cells #[.int .i64 la5, .bool sa5, .slice ra5 nn5 rc5] 28)
    obtain ⟨b5, hbd⟩ : ∃ z, z = v7.heap.size := ⟨_, rfl⟩
    rw [← hbd] at R5 ⊢
    generalize v7.alloc (.cells #[.int .i64 la5, .bool sa5, .slice ra5 nn5 rc5] 28) = v8 at hb R5 ⊢
    replace B := hB B hb
    replace G := hG G hb
    replace RP := hR RP hb
    replace RA := hRow RA hb
    replace RL := hR RL hb
    replace RU := ResAt.below RU hb
    replace SU := hSp SU hb
    replace TB := hLe TB hb
    replace R4 := ResAt.below R4 hb
    clear hrow hb hbd HTL
    obtain ⟨p0, p1, p2, p3, p4, p5, p6, p7, p8, p9, p10, p11, p12, p13, p14, p15, p16, p17⟩ := case_cells G.out
    obtain ⟨ru0, ru1, ru2, -, -, -⟩ := elem_cells RU.out.heap
    have HTL := TB
    go_wp2_with fail
    (with_reducible refine (mulint_o RP.out RU.out.rows num HNUM.out _ rfl _ rfl o2 O2.out).mono ?_)
    rintro e v9 ⟨la6, sa6, ra6, nn6, rc6, rs6, er6, rfl, hrow, hk, hk2, hb⟩
    have K6 := Lib.hid hk
    have J6 := Lib.hid hk2
    clear hk hk2
    replace B := hB B hb
    replace G := hG G hb
    replace RP := hR RP hb
    replace RA := hRow RA hb
    replace RL := hR RL hb
    replace RU := ResAt.below RU hb
    replace SU := hSp SU hb
    replace TB := hLe TB hb
    replace R4 := ResAt.below R4 hb
    replace R5 := ResAt.below R5 hb
    clear p0 p1 p2 p3 p4 p5 p6 p7 p8 p9 p10 p11 p12 p13 p14 p15 p16 p17 ru0 ru1 ru2
    clear hb
    go_upto_region 8 with (fail)
    have R6 := ResAt.new (la := la6) (sa := sa6) (lo := tw) hrow HTL.out
    have hb := below_new v9 (.cells #[.int .i64 la6, .bool sa6, .slice ra6 nn6 rc6] 28)
    obtain ⟨b6, hbd⟩ : ∃ z, z = v9.heap.size := ⟨_, rfl⟩
    rw [← hbd] at R6 ⊢
    generalize v9.alloc (.cells #[.int .i64 la6, .bool sa6, .slice ra6 nn6 rc6] 28) = v10 at hb R6 ⊢
    replace B := hB B hb
    replace G := hG G hb
    replace RP := hR RP hb
    replace RA := hRow RA hb
    replace RL := hR RL hb
    replace RU := ResAt.below RU hb
    replace SU := hSp SU hb
    replace TB := hLe TB hb
    replace R4 := ResAt.below R4 hb
    replace R5 := ResAt.below R5 hb
    clear hrow hb hbd HTL
    obtain ⟨p0, p1, p2, p3, p4, p5, p6, p7, p8, p9, p10, p11, p12, p13, p14, p15, p16, p17⟩ := case_cells G.out
    obtain ⟨ru0, ru1, ru2, -, -, -⟩ := elem_cells RU.out.heap
    have HTL := TB
    go_wp2_with fail
    (with_reducible refine (auto_o RP.out RU.out.rows kk HKK.out _ rfl _ rfl o3 O3.out).mono ?_)
    rintro e v11 ⟨la7, sa7, ra7, nn7, rc7, rs7, er7, rfl, hrow, hk, hk2, hb⟩
    have K7 := Lib.hid hk
    have J7 := Lib.hid hk2
    clear hk hk2
    replace B := hB B hb
    replace G := hG G hb
    replace RP := hR RP hb
    replace RA := hRow RA hb
    replace RL := hR RL hb
    replace RU := ResAt.below RU hb
    replace SU := hSp SU hb
    replace TB := hLe TB hb
    replace R4 := ResAt.below R4 hb
    replace R5 := ResAt.below R5 hb
    replace R6 := ResAt.below R6 hb
    clear p0 p1 p2 p3 p4 p5 p6 p7 p8 p9 p10 p11 p12 p13 p14 p15 p16 p17 ru0 ru1 ru2
    clear hb
    go_upto_region 9 with (fail)
    have R7 := ResAt.new (la := la7) (sa := sa7) (lo := tw) hrow HTL.out
    have hb := below_new v11 (.cells #[.int .i64 la7, .bool sa7, .slice ra7 nn7 rc7] 28)
    obtain ⟨b7, hbd⟩ : ∃ z, z = v11.heap.size := ⟨_, rfl⟩
    rw [← hbd] at R7 ⊢
    generalize v11.alloc (.cells #[.int .i64 la7, .bool sa7, .slice ra7 nn7 rc7] 28) = v12 at hb R7 ⊢
    replace B := hB B hb
    replace G := hG G hb
    replace RP := hR RP hb
    replace RA := hRow RA hb
    replace RL := hR RL hb
    replace RU := ResAt.below RU hb
    replace SU := hSp SU hb
    replace TB := hLe TB hb
    replace R4 := ResAt.below R4 hb
    replace R5 := ResAt.below R5 hb
    replace R6 := ResAt.below R6 hb
    clear hrow hb hbd HTL
    obtain ⟨p0, p1, p2, p3, p4, p5, p6, p7, p8, p9, p10, p11, p12, p13, p14, p15, p16, p17⟩ := case_cells G.out
    obtain ⟨ru0, ru1, ru2, -, -, -⟩ := elem_cells RU.out.heap
    have HTL := TB
    go_wp2_with fail
    (with_reducible refine (restr_o RP.out RU.out.rows level special o4 O4.out).mono ?_)
    rintro e v13 ⟨la8, sa8, ra8, nn8, rc8, rs8, er8, rfl, hrow, hk, hk2, hb⟩
    have K8 := Lib.hid hk
    have J8 := Lib.hid hk2
    clear hk hk2
    replace B := hB B hb
    replace G := hG G hb
    replace RP := hR RP hb
    replace RA := hRow RA hb
    replace RL := hR RL hb
    replace RU := ResAt.below RU hb
    replace SU := hSp SU hb
    replace TB := hLe TB hb
    replace R4 := ResAt.below R4 hb
    replace R5 := ResAt.below R5 hb
    replace R6 := ResAt.below R6 hb
    replace R7 := ResAt.below R7 hb
    clear p0 p1 p2 p3 p4 p5 p6 p7 p8 p9 p10 p11 p12 p13 p14 p15 p16 p17 ru0 ru1 ru2
    clear hb
    go_upto_region 10 with (fail)
    have R8 := ResAt.new (la := la8) (sa := sa8) (lo := tw) hrow HTL.out
    have hb := below_new v13 (.cells #[.int .i64 la8, .bool sa8, .slice ra8 nn8 rc8] 28)
    obtain ⟨b8, hbd⟩ : ∃ z, z = v13.heap.size := ⟨_, rfl⟩
    rw [← hbd] at R8 ⊢
    generalize v13.alloc (.cells #[.int .i64 la8, .bool sa8, .slice ra8 nn8 rc8] 28) = v14 at hb R8 ⊢
    replace B := hB B hb
    replace G := hG G hb
    replace RP := hR RP hb
    replace RA := hRow RA hb
    replace RL := hR RL hb
    replace RU := ResAt.below RU hb
    replace SU := hSp SU hb
    replace TB := hLe TB hb
    replace R4 := ResAt.below R4 hb
    replace R5 := ResAt.below R5 hb
    replace R6 := ResAt.below R6 hb
    replace R7 := ResAt.below R7 hb
    clear hrow hb hbd HTL
    obtain ⟨p0, p1, p2, p3, p4, p5, p6, p7, p8, p9, p10, p11, p12, p13, p14, p15, p16, p17⟩ := case_cells G.out
    obtain ⟨ru0, ru1, ru2, -, -, -⟩ := elem_cells RU.out.heap
    go_wp2_with fail
    (with_reducible refine (lsame_any RU.out.rows RA.out true (by simp)).mono ?_)
    rintro e v15 ⟨rfl, hb⟩
    replace B := hB B hb
    replace G := hG G hb
    replace RP := hR RP hb
    replace RA := hRow RA hb
    replace RL := hR RL hb
    replace RU := ResAt.below RU hb
    replace SU := hSp SU hb
    replace TB := hLe TB hb
    replace R4 := ResAt.below R4 hb
    replace R5 := ResAt.below R5 hb
    replace R6 := ResAt.below R6 hb
    replace R7 := ResAt.below R7 hb
    replace R8 := ResAt.below R8 hb
    clear p0 p1 p2 p3 p4 p5 p6 p7 p8 p9 p10 p11 p12 p13 p14 p15 p16 p17 ru0 ru1 ru2
    clear hb
    as_aux_lemma =>
      have HSP : Hid (∀ W, SpI bw tw aw xs W ∧ tw ≤ W.heap.size → Calls Try.prog 25 #[.agg #[.int .i64 la, .bool sa, .slice aw nw cw]] W (SpPost bw tw W)) := fun W h => by
        rw [HNw.out]
        exact spoil_any la sa aw cw bw tw xs HSX.out.1 (by rw [← HNw.out]; exact HCw.out.1) HCw.out.2 W (Nat.le_trans BBw.out.2 h.2) h.2 h.1 HSX.out.2
      unfold SpPost at HSP
      obtain ⟨ru0, ru1, ru2, -, -, -⟩ := elem_cells RU.out.heap
      go_wp2_with fail
      (with_reducible refine (HSP.out _ SU.out).mono ?_)
      rintro e v16 ⟨rfl, hkp, hsz, hbb⟩
      have HK := Lib.hid hkp
      clear ru0 ru1 ru2
      clear RU SU HSP hkp TB
      replace B : Hid (Below w.heap.size w v16) := Lib.hid (hbb _ _ B.out PB.out.2)
      replace G := sp_low HK G PB.out.1
      replace RP := hR_at H1 B
      replace RA := hRow_at H2 B
      replace RL := hR_at H4 B
      replace R4 := ResAt.spoil HK R4 (Nat.le_refl _)
      replace R5 := ResAt.spoil HK R5 (Nat.le_refl _)
      replace R6 := ResAt.spoil HK R6 (Nat.le_refl _)
      replace R7 := ResAt.spoil HK R7 (Nat.le_refl _)
      replace R8 := ResAt.spoil HK R8 (Nat.le_refl _)
      clear HK hsz hbb
      obtain ⟨p0, p1, p2, p3, p4, p5, p6, p7, p8, p9, p10, p11, p12, p13, p14, p15, p16, p17⟩ := case_cells G.out
      go_wp2_with fail
      (with_reducible refine (rints_e RP.out level special _ ls RL.out HLS.out o1 O1.out).mono ?_)
      rintro e v17 ⟨laa, saa, raa, nna, rca, rsa, era, rfl, hrow, hk, hk2, hb⟩
      have Ka := Lib.hid hk
      have Ja := Lib.hid hk2
      clear hk hk2
      replace B := hB B hb
      replace G := hG G hb
      replace RP := hR RP hb
      replace RA := hRow RA hb
      replace RL := hR RL hb
      replace R4 := ResAt.below R4 hb
      replace R5 := ResAt.below R5 hb
      replace R6 := ResAt.below R6 hb
      replace R7 := ResAt.below R7 hb
      replace R8 := ResAt.below R8 hb
      clear p0 p1 p2 p3 p4 p5 p6 p7 p8 p9 p10 p11 p12 p13 p14 p15 p16 p17
      clear hb
      go_upto_region 14 with (fail)
      have Ea := ElAt.new (la := laa) (sa := saa) hrow
      have hb := below_new v17 (.cells #[.int .i64 laa, .bool saa, .slice raa nna rca] 28)
      obtain ⟨ba, hbd⟩ : ∃ z, z = v17.heap.size := ⟨_, rfl⟩
      rw [← hbd] at Ea ⊢
      generalize v17.alloc (.cells #[.int .i64 laa, .bool saa, .slice raa nna rca] 28) = v18 at hb Ea ⊢
      replace B := hB B hb
      replace G := hG G hb
      replace RP := hR RP hb
      replace RA := hRow RA hb
      replace RL := hR RL hb
      replace R4 := ResAt.below R4 hb
      replace R5 := ResAt.below R5 hb
      replace R6 := ResAt.below R6 hb
      replace R7 := ResAt.below R7 hb
      replace R8 := ResAt.below R8 hb
      clear hrow hb hbd
      obtain ⟨p0, p1, p2, p3, p4, p5, p6, p7, p8, p9, p10, p11, p12, p13, p14, p15, p16, p17⟩ := case_cells G.out
      go_wp2_with fail
      (with_reducible refine (rneg_e RP.out RA.out _ rfl _ rfl o2 O2.out).mono ?_)
      rintro e v19 ⟨lab, sab, rab, nnb, rcb, rsb, erb, rfl, hrow, hk, hk2, hb⟩
      have Kb := Lib.hid hk
      have Jb := Lib.hid hk2
      clear hk hk2
      replace B := hB B hb
      replace G := hG G hb
      replace RP := hR RP hb
      replace RA := hRow RA hb
      replace RL := hR RL hb
      replace R4 := ResAt.below R4 hb
      replace R5 := ResAt.below R5 hb
      replace R6 := ResAt.below R6 hb
      replace R7 := ResAt.below R7 hb
      replace R8 := ResAt.below R8 hb
      replace Ea := ElAt.below Ea hb
      clear p0 p1 p2 p3 p4 p5 p6 p7 p8 p9 p10 p11 p12 p13 p14 p15 p16 p17
      clear hb
      go_upto_region 15 with (fail)
      have Eb := ElAt.new (la := lab) (sa := sab) hrow
      have hb := below_new v19 (.cells #[.int .i64 lab, .bool sab, .slice rab nnb rcb] 28)
      obtain ⟨bb, hbd⟩ : ∃ z, z = v19.heap.size := ⟨_, rfl⟩
      rw [← hbd] at Eb ⊢
      generalize v19.alloc (.cells #[.int .i64 lab, .bool sab, .slice rab nnb rcb] 28) = v20 at hb Eb ⊢
      replace B := hB B hb
      replace G := hG G hb
      replace RP := hR RP hb
      replace RA := hRow RA hb
      replace RL := hR RL hb
      replace R4 := ResAt.below R4 hb
      replace R5 := ResAt.below R5 hb
      replace R6 := ResAt.below R6 hb
      replace R7 := ResAt.below R7 hb
      replace R8 := ResAt.below R8 hb
      replace Ea := ElAt.below Ea hb
      clear hrow hb hbd
      obtain ⟨p0, p1, p2, p3, p4, p5, p6, p7, p8, p9, p10, p11, p12, p13, p14, p15, p16, p17⟩ := case_cells G.out
      go_wp2_with fail
      (with_reducible refine (rmulint_e RP.out RA.out num HNUM.out _ rfl _ rfl o2 O2.out).mono ?_)
      rintro e v21 ⟨lac, sac, rac, nnc, rcc, rsc, erc, rfl, hrow, hk, hk2, hb⟩
      have Kc := Lib.hid hk
      have Jc := Lib.hid hk2
      clear hk hk2
      replace B := hB B hb
      replace G := hG G hb
      replace RP := hR RP hb
      replace RA := hRow RA hb
      replace RL := hR RL hb
      replace R4 := ResAt.below R4 hb
      replace R5 := ResAt.below R5 hb
      replace R6 := ResAt.below R6 hb
      replace R7 := ResAt.below R7 hb
      replace R8 := ResAt.below R8 hb
      replace Ea := ElAt.below Ea hb
      replace Eb := ElAt.below Eb hb
      clear p0 p1 p2 p3 p4 p5 p6 p7 p8 p9 p10 p11 p12 p13 p14 p15 p16 p17
      clear hb
      go_upto_region 16 with (fail)
      have Ec := ElAt.new (la := lac) (sa := sac) hrow
      have hb := below_new v21 (.cells #[.int .i64 lac, .bool sac, .slice rac nnc rcc] 28)
      obtain ⟨bc, hbd⟩ : ∃ z, z = v21.heap.size := ⟨_, rfl⟩
      rw [← hbd] at Ec ⊢
      generalize v21.alloc (.cells #[.int .i64 lac, .bool sac, .slice rac nnc rcc] 28) = v22 at hb Ec ⊢
      replace B := hB B hb
      replace G := hG G hb
      replace RP := hR RP hb
      replace RA := hRow RA hb
      replace RL := hR RL hb
      replace R4 := ResAt.below R4 hb
      replace R5 := ResAt.below R5 hb
      replace R6 := ResAt.below R6 hb
      replace R7 := ResAt.below R7 hb
      replace R8 := ResAt.below R8 hb
      replace Ea := ElAt.below Ea hb
      replace Eb := ElAt.below Eb hb
      clear hrow hb hbd
      obtain ⟨p0, p1, p2, p3, p4, p5, p6, p7, p8, p9, p10, p11, p12, p13, p14, p15, p16, p17⟩ := case_cells G.out
      go_wp2_with fail
      (with_reducible refine (rauto_e RP.out RA.out kk HKK.out _ rfl _ rfl o3 O3.out).mono ?_)
      rintro e v23 ⟨lad, sad, rad, nnd, rcd, rsd, erd, rfl, hrow, hk, hk2, hb⟩
      have Kd := Lib.hid hk
      have Jd := Lib.hid hk2
      clear hk hk2
      replace B := hB B hb
      replace G := hG G hb
      replace RP := hR RP hb
      replace RA := hRow RA hb
      replace RL := hR RL hb
      replace R4 := ResAt.below R4 hb
      replace R5 := ResAt.below R5 hb
      replace R6 := ResAt.below R6 hb
      replace R7 := ResAt.below R7 hb
      replace R8 := ResAt.below R8 hb
      replace Ea := ElAt.below Ea hb
      replace Eb := ElAt.below Eb hb
      replace Ec := ElAt.below Ec hb
      clear p0 p1 p2 p3 p4 p5 p6 p7 p8 p9 p10 p11 p12 p13 p14 p15 p16 p17
      clear hb
      go_upto_region 17 with (fail)
      have Ed := ElAt.new (la := lad) (sa := sad) hrow
      have hb := below_new v23 (.cells #[.int .i64 lad, .bool sad, .slice rad nnd rcd] 28)
      obtain ⟨bd, hbd⟩ : ∃ z, z = v23.heap.size := ⟨_, rfl⟩
      rw [← hbd] at Ed ⊢
      generalize v23.alloc (.cells #[.int .i64 lad, .bool sad, .slice rad nnd rcd] 28) = v24 at hb Ed ⊢
      replace B := hB B hb
      replace G := hG G hb
      replace RP := hR RP hb
      replace RA := hRow RA hb
      replace RL := hR RL hb
      replace R4 := ResAt.below R4 hb
      replace R5 := ResAt.below R5 hb
      replace R6 := ResAt.below R6 hb
      replace R7 := ResAt.below R7 hb
      replace R8 := ResAt.below R8 hb
      replace Ea := ElAt.below Ea hb
      replace Eb := ElAt.below Eb hb
      replace Ec := ElAt.below Ec hb
      clear hrow hb hbd
      obtain ⟨p0, p1, p2, p3, p4, p5, p6, p7, p8, p9, p10, p11, p12, p13, p14, p15, p16, p17⟩ := case_cells G.out
      go_wp2_with fail
      (with_reducible refine (rrestr_e RP.out RA.out level special o4 O4.out).mono ?_)
      rintro e v25 ⟨laf, saf, raf, nnf, rcf, rsf, erf, rfl, hrow, hk, hk2, hb⟩
      have Kf := Lib.hid hk
      have Jf := Lib.hid hk2
      clear hk hk2
      replace B := hB B hb
      replace G := hG G hb
      replace RP := hR RP hb
      replace RA := hRow RA hb
      replace RL := hR RL hb
      replace R4 := ResAt.below R4 hb
      replace R5 := ResAt.below R5 hb
      replace R6 := ResAt.below R6 hb
      replace R7 := ResAt.below R7 hb
      replace R8 := ResAt.below R8 hb
      replace Ea := ElAt.below Ea hb
      replace Eb := ElAt.below Eb hb
      replace Ec := ElAt.below Ec hb
      replace Ed := ElAt.below Ed hb
      clear p0 p1 p2 p3 p4 p5 p6 p7 p8 p9 p10 p11 p12 p13 p14 p15 p16 p17
      clear hb
      go_upto_region 18 with (fail)
      have Ef := ElAt.new (la := laf) (sa := saf) hrow
      have hb := below_new v25 (.cells #[.int .i64 laf, .bool saf, .slice raf nnf rcf] 28)
      obtain ⟨bf, hbd⟩ : ∃ z, z = v25.heap.size := ⟨_, rfl⟩
      rw [← hbd] at Ef ⊢
      generalize v25.alloc (.cells #[.int .i64 laf, .bool saf, .slice raf nnf rcf] 28) = v26 at hb Ef ⊢
      replace B := hB B hb
      replace G := hG G hb
      replace RP := hR RP hb
      replace RA := hRow RA hb
      replace RL := hR RL hb
      replace R4 := ResAt.below R4 hb
      replace R5 := ResAt.below R5 hb
      replace R6 := ResAt.below R6 hb
      replace R7 := ResAt.below R7 hb
      replace R8 := ResAt.below R8 hb
      replace Ea := ElAt.below Ea hb
      replace Eb := ElAt.below Eb hb
      replace Ec := ElAt.below Ec hb
      replace Ed := ElAt.below Ed hb
      clear hrow hb hbd
      as_aux_lemma =>
        obtain ⟨e1, e2, e3, e4⟩ := el_eq K4 J4 Ka Ja
        subst e1 e2 e3 e4
        clear K4 J4 Ka Ja
        obtain ⟨e1, e2, e3, e4⟩ := el_eq K5 J5 Kb Jb
        subst e1 e2 e3 e4
        clear K5 J5 Kb Jb
        obtain ⟨e1, e2, e3, e4⟩ := el_eq K6 J6 Kc Jc
        subst e1 e2 e3 e4
        clear K6 J6 Kc Jc
        obtain ⟨e1, e2, e3, e4⟩ := el_eq K7 J7 Kd Jd
        subst e1 e2 e3 e4
        clear K7 J7 Kd Jd
        obtain ⟨e1, e2, e3, e4⟩ := el_eq K8 J8 Kf Jf
        subst e1 e2 e3 e4
        clear K8 J8 Kf Jf
        obtain ⟨p0, p1, p2, p3, p4, p5, p6, p7, p8, p9, p10, p11, p12, p13, p14, p15, p16, p17⟩ := case_cells G.out
        go_wp2_with fail
        (with_reducible refine (rcheck_e RP.out RA.out ec HEC.out).mono ?_)
        rintro e v27 ⟨rfl, hb⟩
        replace B := hB B hb
        replace G := hG G hb
        replace RP := hR RP hb
        replace RA := hRow RA hb
        replace RL := hR RL hb
        replace R4 := ResAt.below R4 hb
        replace R5 := ResAt.below R5 hb
        replace R6 := ResAt.below R6 hb
        replace R7 := ResAt.below R7 hb
        replace R8 := ResAt.below R8 hb
        replace Ea := ElAt.below Ea hb
        replace Eb := ElAt.below Eb hb
        replace Ec := ElAt.below Ec hb
        replace Ed := ElAt.below Ed hb
        replace Ef := ElAt.below Ef hb
        clear p0 p1 p2 p3 p4 p5 p6 p7 p8 p9 p10 p11 p12 p13 p14 p15 p16 p17
        clear hb
        obtain ⟨r40, r41, r42, -, -, -⟩ := elem_cells R4.out.heap
        obtain ⟨ea0, ea1, ea2, -, -, -⟩ := elem_cells Ea.out.heap
        go_wp2_with fail
        (with_reducible refine (lsame_any R4.out.rows Ea.out.rows true (by simp)).mono ?_)
        rintro e v28 ⟨rfl, hb⟩
        replace B := hB B hb
        replace G := hG G hb
        replace RP := hR RP hb
        replace RA := hRow RA hb
        replace RL := hR RL hb
        replace R4 := ResAt.below R4 hb
        replace R5 := ResAt.below R5 hb
        replace R6 := ResAt.below R6 hb
        replace R7 := ResAt.below R7 hb
        replace R8 := ResAt.below R8 hb
        replace Ea := ElAt.below Ea hb
        replace Eb := ElAt.below Eb hb
        replace Ec := ElAt.below Ec hb
        replace Ed := ElAt.below Ed hb
        replace Ef := ElAt.below Ef hb
        clear r40 r41 r42 ea0 ea1 ea2
        clear hb
        obtain ⟨r50, r51, r52, -, -, -⟩ := elem_cells R5.out.heap
        obtain ⟨eb0, eb1, eb2, -, -, -⟩ := elem_cells Eb.out.heap
        go_wp2_with fail
        (with_reducible refine (lsame_any R5.out.rows Eb.out.rows true (by simp)).mono ?_)
        rintro e v29 ⟨rfl, hb⟩
        replace B := hB B hb
        replace G := hG G hb
        replace RP := hR RP hb
        replace RA := hRow RA hb
        replace RL := hR RL hb
        replace R4 := ResAt.below R4 hb
        replace R5 := ResAt.below R5 hb
        replace R6 := ResAt.below R6 hb
        replace R7 := ResAt.below R7 hb
        replace R8 := ResAt.below R8 hb
        replace Ea := ElAt.below Ea hb
        replace Eb := ElAt.below Eb hb
        replace Ec := ElAt.below Ec hb
        replace Ed := ElAt.below Ed hb
        replace Ef := ElAt.below Ef hb
        clear r50 r51 r52 eb0 eb1 eb2
        clear hb
        obtain ⟨r60, r61, r62, -, -, -⟩ := elem_cells R6.out.heap
        obtain ⟨ec0, ec1, ec2, -, -, -⟩ := elem_cells Ec.out.heap
        go_wp2_with fail
        (with_reducible refine (lsame_any R6.out.rows Ec.out.rows true (by simp)).mono ?_)
        rintro e v30 ⟨rfl, hb⟩
        replace B := hB B hb
        replace G := hG G hb
        replace RP := hR RP hb
        replace RA := hRow RA hb
        replace RL := hR RL hb
        replace R4 := ResAt.below R4 hb
        replace R5 := ResAt.below R5 hb
        replace R6 := ResAt.below R6 hb
        replace R7 := ResAt.below R7 hb
        replace R8 := ResAt.below R8 hb
        replace Ea := ElAt.below Ea hb
        replace Eb := ElAt.below Eb hb
        replace Ec := ElAt.below Ec hb
        replace Ed := ElAt.below Ed hb
        replace Ef := ElAt.below Ef hb
        clear r60 r61 r62 ec0 ec1 ec2
        clear hb
        obtain ⟨r70, r71, r72, -, -, -⟩ := elem_cells R7.out.heap
        obtain ⟨ed0, ed1, ed2, -, -, -⟩ := elem_cells Ed.out.heap
        go_wp2_with fail
        (with_reducible refine (lsame_any R7.out.rows Ed.out.rows true (by simp)).mono ?_)
        rintro e v31 ⟨rfl, hb⟩
        replace B := hB B hb
        replace G := hG G hb
        replace RP := hR RP hb
        replace RA := hRow RA hb
        replace RL := hR RL hb
        replace R4 := ResAt.below R4 hb
        replace R5 := ResAt.below R5 hb
        replace R6 := ResAt.below R6 hb
        replace R7 := ResAt.below R7 hb
        replace R8 := ResAt.below R8 hb
        replace Ea := ElAt.below Ea hb
        replace Eb := ElAt.below Eb hb
        replace Ec := ElAt.below Ec hb
        replace Ed := ElAt.below Ed hb
        replace Ef := ElAt.below Ef hb
        clear r70 r71 r72 ed0 ed1 ed2
        clear hb
        obtain ⟨r80, r81, r82, -, -, -⟩ := elem_cells R8.out.heap
        obtain ⟨ef0, ef1, ef2, -, -, -⟩ := elem_cells Ef.out.heap
        go_wp2_with fail
        (with_reducible refine (lsame_any R8.out.rows Ef.out.rows true (by simp)).mono ?_)
        rintro e v32 ⟨rfl, hb⟩
        replace B := hB B hb
        replace G := hG G hb
        replace RP := hR RP hb
        replace RA := hRow RA hb
        replace RL := hR RL hb
        replace R4 := ResAt.below R4 hb
        replace R5 := ResAt.below R5 hb
        replace R6 := ResAt.below R6 hb
        replace R7 := ResAt.below R7 hb
        replace R8 := ResAt.below R8 hb
        replace Ea := ElAt.below Ea hb
        replace Eb := ElAt.below Eb hb
        replace Ec := ElAt.below Ec hb
        replace Ed := ElAt.below Ed hb
        replace Ef := ElAt.below Ef hb
        clear r80 r81 r82 ef0 ef1 ef2
        clear hb
        go_wp2_with fail
        (with_reducible refine (HAW.out _).mono ?_)
        rintro e wz ⟨rfl, hb⟩
        go_wp2
        rw [HP.out]
        exact ⟨rfl, below_via B.out hb⟩
end Go.Proofs.Ytkjlfjnncdkmlaa.G
