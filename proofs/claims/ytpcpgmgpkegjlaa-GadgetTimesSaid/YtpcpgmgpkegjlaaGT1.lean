/- Walks: GadgetTimes. -/
import Derived.Test.YtpcpgmgpkegjlaaGE2
import Derived.Test.YtpcpgmgpkegjlaaGG0
import Derived.Test.YtpcpgmgpkegjlaaGJ4
import Derived.Test.YtpcpgmgpkegjlaaGH1
import Derived.Test.YtpcpgmgpkegjlaaGH5
import Derived.Test.YtpcpgmgpkegjlaaGH6
import Derived.Test.YtpcpgmgpkegjlaaGH7
namespace Go.Proofs.Ytpcpgmgpkegjlaa
open Go.RowKit Go.Shelf Go.BigFrame
theorem case17 {w : World} {p : Nat} {v0 v1 v2 v3 v4 v5 v6 v7 v8 v9 v10 v11 v12 v13 v14 v15 v16 : Value} {t : TypeId} {fz : Nat × Nat} (h : w.heap[p]? = some (.cells #[v0, v1, v2, v3, v4, v5, v6, v7, v8, v9, v10, v11, v12, v13, v14, v15, v16] t fz)) :
    (w.cell? ⟨p, 0, none⟩ = some v0 ∧ w.cell? ⟨p, 1, none⟩ = some v1 ∧ w.cell? ⟨p, 2, none⟩ = some v2 ∧ w.cell? ⟨p, 3, none⟩ = some v3 ∧ w.cell? ⟨p, 4, none⟩ = some v4 ∧ w.cell? ⟨p, 5, none⟩ = some v5 ∧ w.cell? ⟨p, 6, none⟩ = some v6 ∧ w.cell? ⟨p, 7, none⟩ = some v7) ∧
    (w.cell? ⟨p, 8, none⟩ = some v8 ∧ w.cell? ⟨p, 9, none⟩ = some v9 ∧ w.cell? ⟨p, 10, none⟩ = some v10) ∧ (w.cell? ⟨p, 11, none⟩ = some v11 ∧ w.cell? ⟨p, 12, none⟩ = some v12 ∧ w.cell? ⟨p, 13, none⟩ = some v13) ∧
    w.cell? ⟨p, 14, none⟩ = some v14 ∧ w.cell? ⟨p, 15, none⟩ = some v15 ∧ w.cell? ⟨p, 16, none⟩ = some v16 := by
  simp [World.cell?, h]
theorem weight_yes {N : Int} {chain : List Nat} {sp : Nat} {width i : Int} {w w' : World} {e : Ending} {rs : List (List Nat)} (h : WeightPost N chain sp width i w e w') (h1 : weightB N chain sp width i = true) (h2 : weightRows chain N.toNat ((width * (i % partsI width)).toNat) ((i / partsI width).toNat) chain.length = rs) :
    ∃ rv, e = .returned (.tuple #[.agg #[.int .i64 (chain.length : Int), .bool false, rv], .int .i64 0]) ∧ w'.rows u32V w'.heap.size rv rs ∧ Below w.heap.size w w' := by
  subst h2
  obtain ⟨h3, h4⟩ := h
  rw [h1, if_pos rfl] at h3
  obtain ⟨rv, h5, h6⟩ := h3
  exact ⟨rv, h5, h6, h4⟩
theorem elem_store_rows {W W6 : World} {b base : Nat} {u0 u1 u2 v : Value} {T e : TypeId} {rs : List (List Nat)} (hW : W6 = ((W.setCell ⟨b, 0, none⟩ u0).setCell ⟨b, 1, none⟩ u1).setCell ⟨b, 2, none⟩ u2) (hO : W.rowsO u32V base T e v rs) (h : b < base) : W6.rowsO u32V base T e v rs := by
  subst hW
  exact ((hO.setCell h _).setCell h _).setCell h _
theorem stored_elem {W w4 : World} {b B : Nat} {u0 u1 u2 v0 v1 v2 : Value} (hg : W.heap[b]? = some (.cells #[u0, u1, u2] 28)) (hb : Below B W w4) (hbB : b < B) : (((w4.setCell ⟨b, 0, none⟩ v0).setCell ⟨b, 1, none⟩ v1).setCell ⟨b, 2, none⟩ v2).heap[b]? = some (.cells #[v0, v1, v2] 28) := (elem_store ((hb.block _ hbB).trans hg) rfl).1
theorem elem_store_size {W W6 : World} {b : Nat} {u0 u1 u2 : Value} (hW : W6 = ((W.setCell ⟨b, 0, none⟩ u0).setCell ⟨b, 1, none⟩ u1).setCell ⟨b, 2, none⟩ u2) : W6.heap.size = W.heap.size := by
  subst hW; simp
set_option maxRecDepth 100000 in
set_option maxHeartbeats 40000000 in
theorem times_law (c : Case) (w : World) (h : c.reads w.heap.size w) (hcb : ∀ q ∈ c.chain, q < 4294967296) : Calls Try.prog 7 #[.agg c.cells] w fun e w' => e = .returned (.bool true) ∧ Below w.heap.size w w' := by
  obtain ⟨N, pr, pw, wt, er, width, la, lb, ix, level, cv, av, bv, lw, sa, sb, chain, sp, xs, ys, ls⟩ := c
  have hr0 : w.reads w.heap.size cv (chain.map u32V) := h.1
  have ha0 : w.rows u32V w.heap.size av xs := h.2.1
  have hb0 : w.rows u32V w.heap.size bv ys := h.2.2.1
  have hcb0 : ∀ q ∈ chain, q < 4294967296 := hcb
  obtain ⟨a, cap, rfl, -, -, -⟩ := reads_u32 hr0
  obtain ⟨W0, hW0⟩ : ∃ W0, W0 = w.alloc (.cells #[.int .i64 N, .int .u32 pr, .int .i64 pw, .slice a chain.length cap, .int .u32 (sp : Int), .int .i64 wt, .int .u32 er, .int .i64 width, .int .i64 la, .bool sa, av, .int .i64 lb, .bool sb, bv, .int .i64 ix, .int .i64 level, lw] 31) := ⟨_, rfl⟩
  have hB0 : Below w.heap.size w W0 := by rw [hW0]; exact (Below.refl _ w).alloc (Nat.le_refl _) _
  have g0 : W0.heap[w.heap.size]? = some (.cells #[.int .i64 N, .int .u32 pr, .int .i64 pw, .slice a chain.length cap, .int .u32 (sp : Int), .int .i64 wt, .int .u32 er, .int .i64 width, .int .i64 la, .bool sa, av, .int .i64 lb, .bool sb, bv, .int .i64 ix, .int .i64 level, lw] 31) := by rw [hW0]; exact alloc_last _ _ rfl
  have hz0 := lt_of_heap g0
  have HL := large_any ⟨N, pr, pw, wt, er, width, la, lb, ix, level, .slice a chain.length cap, av, bv, lw, sa, sb, chain, sp, xs, ys, ls⟩ W0 ((h.below hB0).mono hB0.size)
  unfold LargePost at HL
  obtain ⟨lg, hlg⟩ : ∃ b, b = largeB ⟨N, pr, pw, wt, er, width, la, lb, ix, level, .slice a chain.length cap, av, bv, lw, sa, sb, chain, sp, xs, ys, ls⟩ := ⟨_, rfl⟩
  rw [← hlg] at HL
  clear hlg
  simp only [Case.cells] at HL ⊢
  have HRD : Hid (∀ W, Below W0.heap.size W0 W → W.reads W.heap.size (.slice a chain.length cap) (chain.map u32V)) := Lib.hid (fun W hb => (((hr0.below hB0).mono hB0.size).below hb).mono hb.size)
  have HRA : Hid (∀ W, Below W0.heap.size W0 W → W.rows u32V W.heap.size av xs) := Lib.hid (fun W hb => (((ha0.below hB0).mono hB0.size).below hb).mono hb.size)
  have HRB : Hid (∀ W, Below W0.heap.size W0 W → W.rows u32V W.heap.size bv ys) := Lib.hid (fun W hb => (((hb0.below hB0).mono hB0.size).below hb).mono hb.size)
  have HCB := Lib.hid hcb0
  have HG0 := Lib.hid g0
  have HW0 := Lib.hid hW0
  have HLL := Lib.hid HL
  clear h hcb hr0 ha0 hb0 hcb0 g0 hW0 HL
  cases lg
  case true =>
    go_enter Try.func7, Try.ntmps7
    go_upto_region 1 with (fail)
    rw [← HW0.out]
    obtain ⟨⟨k0, k1, k2, k3, k4, k5, k6, k7⟩, ⟨ka0, ka1, ka2⟩, ⟨kb0, kb1, kb2⟩, ki, klev, kl⟩ := case17 HG0.out
    go_wp2_with fail
    refine HLL.out.mono ?_
    rintro e w1 ⟨rfl, hb1⟩
    go_wp2_with fail
    refine (awake_any w1).mono ?_
    rintro e wz ⟨rfl, hbz⟩
    go_wp2
    go_ret
    exact ⟨rfl, hB0.trans ((hb1.trans (hbz.mono hb1.size)).mono hB0.size)⟩
  have HD := Digits_any N pr pw wt er (.slice a chain.length cap) chain sp width la sa av xs
  unfold DigPost at HD
  obtain ⟨dg, hdg⟩ : ∃ b, b = digB N chain sp width la sa xs := ⟨_, rfl⟩
  rw [← hdg] at HD
  have HDD : Hid (_) := Lib.hid HD
  clear HD
  go_enter Try.func7, Try.ntmps7
  go_upto_region 1 with (fail)
  rw [← HW0.out]
  obtain ⟨⟨k0, k1, k2, k3, k4, k5, k6, k7⟩, ⟨ka0, ka1, ka2⟩, ⟨kb0, kb1, kb2⟩, ki, klev, kl⟩ := case17 HG0.out
  have HDG := Lib.hid hdg
  clear hdg
  go_wp2_with fail
  refine HLL.out.mono ?_
  rintro e w1 ⟨rfl, hb1⟩
  clear k0 k1 k2 k3 k4 k5 k6 k7 ka0 ka1 ka2 kb0 kb1 kb2 ki klev kl
  have hs1 := hb1.size
  have g1 := (hb1.block _ hz0).trans HG0.out
  have l1 : w.heap.size < w1.heap.size := by omega
  obtain ⟨⟨k0, k1, k2, k3, k4, k5, k6, k7⟩, ⟨ka0, ka1, ka2⟩, ⟨kb0, kb1, kb2⟩, -, -, -⟩ := case17 g1
  have HG1 := Lib.hid g1
  clear g1
  have HD1 := HDD.out w1 (HRD.out w1 hb1) (HRA.out w1 hb1) HCB.out
  cases dg
  case false =>
    simp only [Bool.false_eq_true, if_false] at HD1
    go_wp2_with fail
    refine HD1.mono ?_
    rintro e w2 ⟨rfl, hb2⟩
    clear HD1
    have hb12 := hb1.trans (hb2.mono hb1.size)
    go_wp2_with fail
    refine (awake_any w2).mono ?_
    rintro e wz ⟨rfl, hbz⟩
    go_wp2
    go_ret
    exact ⟨rfl, hB0.trans ((hb12.trans (hbz.mono hb12.size)).mono hB0.size)⟩
  simp only [if_true] at HD1
  go_wp2_with fail
  refine HD1.mono ?_
  rintro e w2 ⟨⟨v, rfl, hv⟩, hb2⟩
  clear HD1 k0 k1 k2 k3 k4 k5 k6 k7 ka0 ka1 ka2 kb0 kb1 kb2
  have hB2 := hb1.trans (hb2.mono hb1.size)
  have hs2 := hB2.size
  have g2 := (hB2.block _ hz0).trans HG0.out
  have l2 : w.heap.size < w2.heap.size := by omega
  obtain ⟨⟨k0, k1, k2, k3, k4, k5, k6, k7⟩, ⟨ka0, ka1, ka2⟩, ⟨kb0, kb1, kb2⟩, -, -, -⟩ := case17 g2
  have HG2 := Lib.hid g2
  clear g2
  obtain ⟨va, vc, rfl, hvc1, hvc2, -⟩ := hv.shape
  obtain ⟨dl, hdl⟩ : ∃ x, x = digRows N chain width la xs := ⟨_, rfl⟩
  rw [← hdl] at hv hvc1
  rw [← hdl]
  have HDL := Lib.hid hdl
  obtain ⟨m, hm⟩ : ∃ m, m = dl.length := ⟨_, rfl⟩
  rw [← hm] at hvc1 hv
  rw [← hm]
  have HM := Lib.hid hm
  have HV := Lib.hid hv
  clear hdl hm hv
  by_cases h64 : 64 < m
  · have t64 : (64 : Int) < (m : Int) := by omega
    go_wp2_with fail
    refine (awake_any w2).mono ?_
    rintro e wz ⟨rfl, hbz⟩
    go_wp2
    go_ret
    exact ⟨rfl, hB0.trans ((hB2.trans (hbz.mono hB2.size)).mono hB0.size)⟩
  have h64i : ¬ (64 : Int) < (m : Int) := by omega
  have HC := rcheck_any N pr pw wt er (.slice a chain.length cap) chain sp lb sb bv ys w2 (HRD.out w2 hB2) (HRB.out w2 hB2)
  unfold ErrPost at HC
  obtain ⟨cb, hcb⟩ : ∃ b, b = checkB N chain sp lb sb ys := ⟨_, rfl⟩
  rw [← hcb] at HC
  have HCK := Lib.hid hcb
  clear hcb
  cases cb
  case false =>
    rw [show errI false = 2 from rfl] at HC
    go_wp2_with fail
    refine HC.mono ?_
    rintro e w3 ⟨rfl, hb3⟩
    clear HC
    have hB3 := hB2.trans (hb3.mono hB2.size)
    go_wp2_with fail
    refine (awake_any w3).mono ?_
    rintro e wz ⟨rfl, hbz⟩
    go_wp2
    go_ret
    exact ⟨rfl, hB0.trans ((hB3.trans (hbz.mono hB3.size)).mono hB0.size)⟩
  rw [show errI true = 0 from rfl] at HC
  go_wp2_with fail
  refine HC.mono ?_
  rintro e w3 ⟨rfl, hb3⟩
  clear HC k0 k1 k2 k3 k4 k5 k6 k7 ka0 ka1 ka2 kb0 kb1 kb2
  have hB3 := hB2.trans (hb3.mono hB2.size)
  have hs3 := hB3.size
  have g3 := (hB3.block _ hz0).trans HG0.out
  have l3 : w.heap.size < w3.heap.size := by omega
  obtain ⟨⟨k0, k1, k2, k3, k4, k5, k6, k7⟩, ⟨ka0, ka1, ka2⟩, ⟨kb0, kb1, kb2⟩, -, -, -⟩ := case17 g3
  have HV3 := Lib.hid ((HV.out.below hb3).mono hb3.size)
  clear g3 HG1 HG2
  cases sb
  case true =>
    go_wp2_with fail
    refine (awake_any w3).mono ?_
    rintro e wz ⟨rfl, hbz⟩
    go_wp2
    go_ret
    exact ⟨rfl, hB0.trans ((hB3.trans (hbz.mono hB3.size)).mono hB0.size)⟩
  by_cases hlb : lb = (chain.length : Int)
  case neg =>
    have tlb : (lb != (chain.length : Int)) = true := by simpa using hlb
    go_wp2_with fail
    refine (awake_any w3).mono ?_
    rintro e wz ⟨rfl, hbz⟩
    go_wp2
    go_ret
    exact ⟨rfl, hB0.trans ((hB3.trans (hbz.mono hB3.size)).mono hB0.size)⟩
  subst hlb
  obtain ⟨n, lv, m', Wt, K0, I, T, S, rfl, rfl, rfl, hn4, hn32, hm', hi1, hi2, hth, hf1, hf2, hf3⟩ := times_plan HDG.out.symm HCK.out.symm rfl rfl
  rw [← HDL.out, ← HM.out] at hm'
  subst hm'
  rw [← HDL.out] at hth
  have hsm : ∀ (i : Nat) (l : List Int), dl[i]? = some l → ∀ x ∈ l, -9223372036854775808 ≤ x ∧ x ≤ 9223372036854775807 := by rw [HDL.out]; exact digRows_small HDG.out.symm
  obtain ⟨R, hR⟩ : ∃ R : Nat → List (List Nat), ∀ i, (K0 i).take (lv : Int).toNat = R i := ⟨_, fun _ => rfl⟩
  obtain ⟨Y, hY⟩ : ∃ Y, ys.take (lv : Int).toNat = Y := ⟨_, rfl⟩
  rw [hY] at hf2 hf3
  have HF0 := Lib.hid (fun W (hb : Below W0.heap.size W0 W) lw (hl : W.reads W.heap.size lw ((List.replicate n 0).map i64V)) => (rfromInts_any (n : Int) pr pw wt er (.slice a chain.length cap) chain sp (lv : Int) false lw (List.replicate n 0) W (HRD.out W hb) hl (fun x hx => by rw [List.mem_replicate] at hx; omega)).mono fun e w' h => h.yes hi1 hi2)
  have HWT := Lib.hid (fun W (hb : Below W0.heap.size W0 W) (i : Nat) (hi : i < m') => (Weight_any (n : Int) pr pw wt er (.slice a chain.length cap) chain sp width (i : Int) W (HRD.out W hb) HCB.out).mono fun e w' h => weight_yes h (hth i hi).w1 (hth i hi).w2)
  have HM1 := Lib.hid (fun W (hb : Below W0.heap.size W0 W) (i : Nat) (hi : i < m') v hv => (rmul_any (n : Int) pr pw wt er (.slice a chain.length cap) chain sp (chain.length : Int) (chain.length : Int) false false v bv (Wt i) ys W (HRD.out W hb) hv (HRB.out W hb)).mono fun e w' h => h.yes (hth i hi).k1 (hth i hi).k2)
  have HRS := Lib.hid (fun W (hb : Below W0.heap.size W0 W) (i : Nat) (hi : i < m') v hv => (restrict_any (n : Int) pr pw wt er (.slice a chain.length cap) chain sp (chain.length : Int) false v (K0 i) (lv : Int) W (HRD.out W hb) hv).mono fun e w' h => h.yes (hth i hi).r1 (hR i))
  have HFI := Lib.hid (fun W (hb : Below W0.heap.size W0 W) (i : Nat) (hi : i < m') l (hl : dl[i]? = some l) v hv => (rfromInts_any (n : Int) pr pw wt er (.slice a chain.length cap) chain sp (lv : Int) false v l W (HRD.out W hb) hv (hsm i l hl)).mono fun e w' h => h.yes ((hth i hi).d1 l hl).1 ((hth i hi).d1 l hl).2)
  have HM2 := Lib.hid (fun W (hb : Below W0.heap.size W0 W) (i : Nat) (hi : i < m') v u hv hu => (rmul_any (n : Int) pr pw wt er (.slice a chain.length cap) chain sp (lv : Int) (lv : Int) false false v u (R i) (I i) W (HRD.out W hb) hv hu).mono fun e w' h => h.yes (rs := T i) (by rw [← hR]; exact (hth i hi).p1) (by rw [← hR]; exact (hth i hi).p2))
  have HAD := Lib.hid (fun W (hb : Below W0.heap.size W0 W) (i : Nat) (hi : i < m') v u hv hu => (radd_any (n : Int) pr pw wt er (.slice a chain.length cap) chain sp (lv : Int) (lv : Int) false false v u (S i) (T i) W (HRD.out W hb) hv hu).mono fun e w' h => h.yes (hth i hi).s1 (hth i hi).s2)
  have HRE := Lib.hid (fun W (hb : Below W0.heap.size W0 W) => (restrict_any (n : Int) pr pw wt er (.slice a chain.length cap) chain sp (chain.length : Int) false bv ys (lv : Int) W (HRD.out W hb) (HRB.out W hb)).mono fun e w' h => h.yes hf1 hY)
  have HM3 := Lib.hid (fun W (hb : Below W0.heap.size W0 W) v hv => (rmul_any (n : Int) pr pw wt er (.slice a chain.length cap) chain sp (lv : Int) (lv : Int) false false av v xs Y W (HRD.out W hb) (HRA.out W hb) hv).mono fun e w' h => h.yes hf2 hf3)
  have HSM := Lib.hid (fun (W : World) v u hv hu => same09_any (lv : Int) (lv : Int) false false v u (S m') (S m') W.heap.size W.heap.size W hv hu (Nat.le_refl _) (Nat.le_refl _))
  simp only [decide_true, Bool.and_self] at HSM
  have HGG : Hid (∀ W, Below W0.heap.size W0 W → W.heap[w.heap.size]? = some (.cells #[.int .i64 (n : Int), .int .u32 pr, .int .i64 pw, .slice a chain.length cap, .int .u32 (sp : Int), .int .i64 wt, .int .u32 er, .int .i64 width, .int .i64 (lv : Int), .bool false, av, .int .i64 (chain.length : Int), .bool false, bv, .int .i64 ix, .int .i64 level, lw] 31)) := Lib.hid (fun W hb => (hb.block _ hz0).trans HG0.out)
  have hmk := make_i64 n (by omega)
  clear hi1 hi2 hth hf1 hf2 hf3 hsm hR hY
  go_upto_region 6 with (fail)
  have hp1 : w.heap.size < w3.heap.size + 1 := by omega
  have hp2 : w.heap.size < w3.heap.size + 1 + 1 := by omega
  have hpn0 : ¬ w.heap.size = w3.heap.size := by omega
  have hpn1 : ¬ w.heap.size = w3.heap.size + 1 := by omega
  have hpm0 : ¬ w3.heap.size = w.heap.size := by omega
  have hpm1 : ¬ w3.heap.size + 1 = w.heap.size := by omega
  have HZ3 := Lib.hid (show ((w3.alloc (.cells #[.int .i64 0, .bool false, .slice none 0 0] 28)).alloc (.cells (zrow64 n) 2)).reads ((w3.alloc (.cells #[.int .i64 0, .bool false, .slice none 0 0] 28)).alloc (.cells (zrow64 n) 2)).heap.size (.slice (some ⟨w3.heap.size + 1, 0, none⟩) n n) ((List.replicate n 0).map i64V) by have h := z_reads n (by omega) (w3.alloc (.cells #[.int .i64 0, .bool false, .slice none 0 0] 28)); rw [World.size_alloc w3] at h; exact h)
  go_cut [5, 6] (fun p5 e6 wx => ∃ (b5 : Nat) (sv : Value), p5 = .pointer (some ⟨b5, 0, none⟩) ∧ w3.heap.size ≤ b5 ∧ Hid (wx.heap[b5]? = some (.cells #[.int .i64 (lv : Int), .bool false, sv] 28)) ∧ Hid (wx.rows u32V wx.heap.size sv (S 0)) ∧ Below w3.heap.size w3 wx)
  case first =>
    go_region_held3 (fun w' => w'.cell? ⟨w.heap.size, 0, none⟩ = some (.int .i64 (n : Int)) ∧ w'.cell? ⟨w.heap.size, 1, none⟩ = some (.int .u32 pr) ∧ w'.cell? ⟨w.heap.size, 2, none⟩ = some (.int .i64 pw) ∧ w'.cell? ⟨w.heap.size, 3, none⟩ = some (.slice a chain.length cap) ∧ w'.cell? ⟨w.heap.size, 4, none⟩ = some (.int .u32 (sp : Int)) ∧ w'.cell? ⟨w.heap.size, 5, none⟩ = some (.int .i64 wt) ∧ w'.cell? ⟨w.heap.size, 6, none⟩ = some (.int .u32 er) ∧ w'.cell? ⟨w.heap.size, 8, none⟩ = some (.int .i64 (lv : Int)))
      (first | go_keep | exact ⟨k0, k1, k2, k3, k4, k5, k6, ka0⟩)
      (first
        | (go_simp; go_at_call 24; refine (HF0.out _ (by repeat (with_reducible first | apply below_drewN | apply Below.drew | refine Below.setCell ?_ (by first | (simp; done) | omega | (simp; omega)) _ | refine Below.alloc ?_ (by first | omega | (simp; done) | (simp; omega)) _ | assumption | exact Below.refl _ _)) _ (by first | exact z_reads n (by omega) _ | exact ((z_reads n (by omega) w3).alloc (Nat.le_refl _) _).mono (by simp) | exact HZ3.out)).mono ?_; rintro e w4 ⟨sv, rfl, hO4, hb4⟩; obtain ⟨sa4, sc4, rfl⟩ := hO4.open_; obtain ⟨hc1, hf1⟩ := bcell hb4; have hbW : Below w3.heap.size w3 w4 := (by first | exact (((Below.refl _ w3).alloc (Nat.le_refl _) _).drew).trans (hb4.mono (by simp; done)) | exact ((((Below.refl _ w3).alloc (Nat.le_refl _) _).alloc (by simp) _).drew).trans (hb4.mono (by simp; omega))); have hs4 := hbW.size; have HO4 := Lib.hid hO4; have HB4 := Lib.hid hb4; clear hO4 hb4))
    all_goals
      go_wp2
      go_meet
      case rel =>
        refine ⟨_, .slice sa4 (S 0).length sc4, rfl, by omega, ?_, ?_, ?_⟩
        · first
            | exact alloc_last _ _ rfl
            | exact stored_elem (by first | exact alloc_last _ _ rfl | exact alloc_last _ _ (by simp) | exact (Below.heap_alloc _ _ _ (by simp)).trans (alloc_last _ _ rfl)) HB4.out (by first | (simp; done) | (simp; omega))
        · first
            | exact (HO4.out.rows.below ((Below.refl _ _).alloc (Nat.le_refl _) _)).mono (by simp)
            | exact (elem_store_rows rfl HO4.out (by first | (simp; done) | (simp; omega))).rows
        · repeat (with_reducible first | apply below_drewN | apply Below.drew | refine Below.setCell ?_ (by first | (simp; done) | omega | (simp; omega)) _ | refine Below.alloc ?_ (by first | omega | (simp; done) | (simp; omega)) _ | assumption | exact Below.refl _ _)
  case rest =>
    obtain ⟨b5, sv0, rfl, hb5, hE0, hS0, hB35⟩ := hcut
    obtain ⟨wv, hwv⟩ : ∃ x, x = va := ⟨_, rfl⟩
    obtain ⟨va3, vc3, hve, -, -, hvs⟩ := HV3.out.shape
    clear wv hwv
    injection hve with hve1 hve2 hve3
    subst hve1 hve3
    have HVS := Lib.hid hvs
    clear hvs hve2 k0 k1 k2 k3 k4 k5 k6 k7 ka0 ka1 ka2 kb0 kb1 kb2 hpm0 hpm1 hpn0 hpn1 hp1 hp2
    go_wp2_with fail
    go_loopw [7] (fun ii wr => ∃ (k : Nat) (sv : Value), k ≤ m' ∧ ii = .int .i64 (k : Int) ∧ Hid (wr.heap[b5]? = some (.cells #[.int .i64 (lv : Int), .bool false, sv] 28)) ∧ Hid (wr.rows u32V wr.heap.size sv (S k)) ∧ Below w3.heap.size w3 wr) (fun ii _ => m' - (intOf ii).toNat)
    case atStart => exact ⟨0, sv0, Nat.zero_le _, rfl, hE0, hS0, hB35⟩
    case round =>
      obtain ⟨k, sv, hk, rfl, hgs, hrs, hBr⟩ := hrel
      clear hE0 hS0 hB35
      have hBX : Below W0.heap.size W0 wr := hB3.trans (hBr.mono hs3)
      have gX := HGG.out wr hBX
      have lX : w.heap.size < wr.heap.size := by have := hBr.size; omega
      have zs : b5 < wr.heap.size := lt_of_heap hgs
      obtain ⟨⟨k0, k1, k2, k3, k4, k5, k6, k7⟩, ⟨ka0, -, -⟩, ⟨-, -, -⟩, -, -, -⟩ := case17 gX
      by_cases hlt : k < m'
      · obtain ⟨l, hl⟩ : ∃ l, dl[k]? = some l := ⟨dl[k]'(by rw [← HM.out]; exact hlt), List.getElem?_eq_getElem _⟩
        obtain ⟨vb, vo, b2, c2, rfl, hvb, hvcell, hvrow⟩ := HVS.out k l hl
        have HLK := Lib.hid hl
        have hvbr : vb < wr.heap.size := by have := hBr.size; omega
        have HVC := Lib.hid ((hBr.cell (p := ⟨vb, vo + k, none⟩) hvb).trans hvcell)
        have HVR := Lib.hid ((hvrow.below hBr).mono hBr.size)
        clear hl hvcell hvrow gX
        -- the weight
        have hC := HWT.out wr hBX k hlt
        go_wp2_with fail
        refine hC.mono ?_
        rintro e w4 ⟨rv4, rfl, hv4, hb4⟩
        obtain ⟨ra4, rc4, rfl, -⟩ := hv4.shape
        clear hC k0 k1 k2 k3 k4 k5 k6 k7 ka0
        go_upto_region 11 with (fail)
        obtain ⟨W4, hW4⟩ : ∃ W, W = w4.alloc (.cells #[.int .i64 (chain.length : Int), .bool false, .slice ra4 (Wt k).length rc4] 28) := ⟨_, rfl⟩
        have g4 : W4.heap[w4.heap.size]? = some (.cells #[.int .i64 (chain.length : Int), .bool false, .slice ra4 (Wt k).length rc4] 28) := by rw [hW4]; exact alloc_last _ _ rfl
        have hr4 : Below wr.heap.size wr W4 := by rw [hW4]; exact hb4.alloc hb4.size _
        have hv4' : W4.rows u32V W4.heap.size (.slice ra4 (Wt k).length rc4) (Wt k) := by rw [hW4]; exact (hv4.below ((Below.refl _ _).alloc (Nat.le_refl _) _)).mono (by simp)
        rw [← hW4]
        have z4 := lt_of_heap g4
        have hBX4 : Below W0.heap.size W0 W4 := hBX.trans (hr4.mono hBX.size)
        have hC := HM1.out W4 hBX4 k hlt _ hv4'
        have gX := HGG.out W4 hBX4
        have lX4 : w.heap.size < W4.heap.size := by have := hr4.size; omega
        obtain ⟨⟨k0, k1, k2, k3, k4, k5, k6, -⟩, ⟨-, -, -⟩, ⟨kb0, kb1, kb2⟩, -, -, -⟩ := case17 gX
        obtain ⟨o0, o1, o2, -, -, -⟩ := elem_cells g4
        clear hW4 gX hv4 hb4 g4 hv4'
        -- times the second element
        go_wp2_with fail
        refine hC.mono ?_
        rintro e w5 ⟨rv5, rfl, hO5, hb5'⟩
        obtain ⟨ra5, rc5, rfl⟩ := hO5.open_
        clear hC o0 o1 o2 k0 k1 k2 k3 k4 k5 k6 kb0 kb1 kb2
        go_upto_region 14 with (fail)
        obtain ⟨W5, hW5⟩ : ∃ W, W = w5.alloc (.cells #[.int .i64 (chain.length : Int), .bool false, .slice ra5 (K0 k).length rc5] 28) := ⟨_, rfl⟩
        have g5 : W5.heap[w5.heap.size]? = some (.cells #[.int .i64 (chain.length : Int), .bool false, .slice ra5 (K0 k).length rc5] 28) := by rw [hW5]; exact alloc_last _ _ rfl
        have hr5 : Below wr.heap.size wr W5 := by rw [hW5]; exact (hr4.trans (hb5'.mono hr4.size)).alloc ((hr4.trans (hb5'.mono hr4.size)).size) _
        have hv5' : W5.rows u32V W5.heap.size (.slice ra5 (K0 k).length rc5) (K0 k) := by rw [hW5]; exact (hO5.rows.below ((Below.refl _ _).alloc (Nat.le_refl _) _)).mono (by simp)
        rw [← hW5]
        have z5 := lt_of_heap g5
        have hn5 : wr.heap.size ≤ w5.heap.size := (hr4.trans (hb5'.mono hr4.size)).size
        have hBX5 : Below W0.heap.size W0 W5 := hBX.trans (hr5.mono hBX.size)
        have hC := HRS.out W5 hBX5 k hlt _ hv5'
        have gX := HGG.out W5 hBX5
        have lX5 : w.heap.size < W5.heap.size := by have := hr5.size; omega
        obtain ⟨⟨k0, k1, k2, k3, k4, k5, k6, -⟩, ⟨ka0, -, -⟩, ⟨-, -, -⟩, -, -, -⟩ := case17 gX
        obtain ⟨o0, o1, o2, -, -, -⟩ := elem_cells g5
        have HG5 := Lib.hid g5
        clear hW5 gX hO5 hb5' g5 hv5' z4 lX4 hr4 hBX4
        -- restricted
        go_wp2_with fail
        refine hC.mono ?_
        rintro e w6 ⟨rv6, rfl, hO6, hb6⟩
        obtain ⟨ra6, rc6, rfl⟩ := hO6.open_
        have g6 := (hb6.block _ z5).trans HG5.out
        clear hC o0 o1 o2 k0 k1 k2 k3 k4 k5 k6 ka0
        obtain ⟨o0, o1, o2, f0, f1, f2⟩ := elem_cells g6
        go_upto_region 17 with (fail)
        obtain ⟨W6, hW6⟩ : ∃ W, W = ((w6.setCell ⟨w5.heap.size, 0, none⟩ (.int .i64 (lv : Int))).setCell ⟨w5.heap.size, 1, none⟩ (.bool false)).setCell ⟨w5.heap.size, 2, none⟩ (.slice ra6 (R k).length rc6) := ⟨_, rfl⟩
        obtain ⟨g6', -, hbs6⟩ := elem_store g6 hW6
        have hr6 : Below wr.heap.size wr W6 := hbs6 _ _ (hr5.trans (hb6.mono hr5.size)) hn5
        have hv6 := (elem_store_rows hW6 hO6 z5).rows
        rw [← hW6]
        have z6 := lt_of_heap g6'
        have hBX6 : Below W0.heap.size W0 W6 := hBX.trans (hr6.mono hBX.size)
        have gX := HGG.out W6 hBX6
        have lX6 : w.heap.size < W6.heap.size := by have := hr6.size; omega
        have hs6 := hr6.size
        obtain ⟨⟨k0, k1, k2, k3, k4, k5, k6, -⟩, ⟨ka0, -, -⟩, ⟨-, -, -⟩, -, -, -⟩ := case17 gX
        have q0 : W6.cell? ⟨vb, vo + k, none⟩ = some (.slice b2 l.length c2) := (hr6.cell (p := ⟨vb, vo + k, none⟩) hvbr).trans HVC.out
        have HRW := Lib.hid ((HVR.out.below hr6).mono hr6.size)
        have HG6 := Lib.hid g6'
        have HV6 := Lib.hid hv6
        clear hW6 gX hO6 hb6 g6 g6' hv6 hbs6 o0 o1 o2 f0 f1 f2 HG5 z5 lX5 hr5 hBX5
        have hvb6 : vb < W6.heap.size := by omega
        have hp1 : w.heap.size < W6.heap.size + 1 := by omega
        have hpn0 : ¬ w.heap.size = W6.heap.size := by omega
        have hpm0 : ¬ W6.heap.size = w.heap.size := by omega
        have hq1 : vb < W6.heap.size + 1 := by omega
        have hqn0 : ¬ vb = W6.heap.size := by omega
        have hqm0 : ¬ W6.heap.size = vb := by omega
        go_cut [12, 13] (fun p12 e13 wx => ∃ (b12 : Nat) (dv : Value), p12 = .pointer (some ⟨b12, 0, none⟩) ∧ e13 = .int .i64 0 ∧ Hid (wx.heap[b12]? = some (.cells #[.int .i64 (lv : Int), .bool false, dv] 28)) ∧ Hid (wx.rows u32V wx.heap.size dv (I k)) ∧ Below W6.heap.size W6 wx)
        case first =>
          go_region_held3 (fun w' => w'.cell? ⟨w.heap.size, 0, none⟩ = some (.int .i64 (n : Int)) ∧ w'.cell? ⟨w.heap.size, 1, none⟩ = some (.int .u32 pr) ∧ w'.cell? ⟨w.heap.size, 2, none⟩ = some (.int .i64 pw) ∧ w'.cell? ⟨w.heap.size, 3, none⟩ = some (.slice a chain.length cap) ∧ w'.cell? ⟨w.heap.size, 4, none⟩ = some (.int .u32 (sp : Int)) ∧ w'.cell? ⟨w.heap.size, 5, none⟩ = some (.int .i64 wt) ∧ w'.cell? ⟨w.heap.size, 6, none⟩ = some (.int .u32 er) ∧ w'.cell? ⟨w.heap.size, 8, none⟩ = some (.int .i64 (lv : Int)) ∧ w'.cell? ⟨vb, vo + k, none⟩ = some (.slice b2 l.length c2))
            (first | go_keep | exact ⟨k0, k1, k2, k3, k4, k5, k6, ka0, q0⟩ | (refine ⟨?_, ?_, ?_, ?_, ?_, ?_, ?_, ?_, ?_⟩ <;> assumption))
            (first
              | (go_simp; go_at_call 24; refine (HFI.out _ (by repeat (with_reducible first | apply below_drewN | apply Below.drew | refine Below.setCell ?_ (by first | (simp; done) | omega | (simp; omega)) _ | refine Below.alloc ?_ (by first | omega | (simp; done) | (simp; omega)) _ | assumption | exact Below.refl _ _)) k hlt l HLK.out _ (by first | exact HRW.out | exact (HRW.out.alloc (Nat.le_refl _) _).mono (by simp))).mono ?_; rintro e w7 ⟨dv, rfl, hO7, hb7⟩; obtain ⟨da, dc, rfl⟩ := hO7.open_; obtain ⟨hc1, hf1⟩ := bcell hb7; have hbW : Below W6.heap.size W6 w7 := (by first | exact ((Below.refl _ W6).drew).trans (hb7.mono (by simp; done)) | exact (((Below.refl _ W6).alloc (Nat.le_refl _) _).drew).trans (hb7.mono (by simp; done))); have hs7 := hbW.size; have j0 := (hbW.cell (p := ⟨w.heap.size, 0, none⟩) lX6).trans k0; have j1 := (hbW.cell (p := ⟨w.heap.size, 1, none⟩) lX6).trans k1; have j2 := (hbW.cell (p := ⟨w.heap.size, 2, none⟩) lX6).trans k2; have j3 := (hbW.cell (p := ⟨w.heap.size, 3, none⟩) lX6).trans k3; have j4 := (hbW.cell (p := ⟨w.heap.size, 4, none⟩) lX6).trans k4; have j5 := (hbW.cell (p := ⟨w.heap.size, 5, none⟩) lX6).trans k5; have j6 := (hbW.cell (p := ⟨w.heap.size, 6, none⟩) lX6).trans k6; have ja := (hbW.cell (p := ⟨w.heap.size, 8, none⟩) lX6).trans ka0; have jq := (hbW.cell (p := ⟨vb, vo + k, none⟩) hvb6).trans q0; have hp7 : w.heap.size < w7.heap.size := (by omega); have hvb7 : vb < w7.heap.size := (by omega); have HO7 := Lib.hid hO7; have HB7 := Lib.hid hb7; clear hO7 hb7))
          all_goals
            go_wp2
            go_meet
            case rel =>
              refine ⟨_, .slice da (I k).length dc, rfl, rfl, ?_, ?_, ?_⟩
              · first
                  | exact alloc_last _ _ rfl
                  | exact stored_elem (by first | exact alloc_last _ _ rfl | exact alloc_last _ _ (by simp)) HB7.out (by first | (simp; done) | (simp; omega))
              · first
                  | exact (HO7.out.rows.below ((Below.refl _ _).alloc (Nat.le_refl _) _)).mono (by simp)
                  | exact (elem_store_rows rfl HO7.out (by first | (simp; done) | (simp; omega))).rows
              · repeat (with_reducible first | apply below_drewN | apply Below.drew | refine Below.setCell ?_ (by first | (simp; done) | omega | (simp; omega)) _ | refine Below.alloc ?_ (by first | omega | (simp; done) | (simp; omega)) _ | assumption | exact Below.refl _ _)
        case rest =>
          obtain ⟨b12, dv, rfl, rfl, hE7, hR7, hB67⟩ := hcut
          clear k0 k1 k2 k3 k4 k5 k6 ka0 q0 hp1 hpn0 hpm0 hq1 hqn0 hqm0
          have hr7 := hr6.trans (hB67.mono hs6)
          have hBX7 := hBX.trans (hr7.mono hBX.size)
          have hC := HM2.out _ hBX7 k hlt _ _ ((HV6.out.below hB67).mono hB67.size) hR7
          have gX := HGG.out _ hBX7
          have g10 := (hB67.block _ z6).trans HG6.out
          have lX7 := lt_of_heap gX
          have z7 := lt_of_heap hE7
          have z10 := lt_of_heap g10
          obtain ⟨⟨k0, k1, k2, k3, k4, k5, k6, -⟩, ⟨-, -, -⟩, ⟨-, -, -⟩, -, -, -⟩ := case17 gX
          obtain ⟨o0, o1, o2, -, -, -⟩ := elem_cells g10
          obtain ⟨d0, d1, d2, -, -, -⟩ := elem_cells hE7
          clear gX g10
          -- times the digit
          go_wp2_with fail
          refine hC.mono ?_
          rintro e w8 ⟨rv8, rfl, hO8, hb8⟩
          obtain ⟨ra8, rc8, rfl⟩ := hO8.open_
          clear hC o0 o1 o2 d0 d1 d2 k0 k1 k2 k3 k4 k5 k6
          go_upto_region 21 with (fail)
          obtain ⟨W8, hW8⟩ : ∃ W, W = w8.alloc (.cells #[.int .i64 (lv : Int), .bool false, .slice ra8 (T k).length rc8] 28) := ⟨_, rfl⟩
          have g8 : W8.heap[w8.heap.size]? = some (.cells #[.int .i64 (lv : Int), .bool false, .slice ra8 (T k).length rc8] 28) := by rw [hW8]; exact alloc_last _ _ rfl
          have hr8 : Below wr.heap.size wr W8 := by rw [hW8]; exact (hr7.trans (hb8.mono hr7.size)).alloc ((hr7.trans (hb8.mono hr7.size)).size) _
          have hv8 : W8.rows u32V W8.heap.size (.slice ra8 (T k).length rc8) (T k) := by rw [hW8]; exact (hO8.rows.below ((Below.refl _ _).alloc (Nat.le_refl _) _)).mono (by simp)
          rw [← hW8]
          have z8 := lt_of_heap g8
          have hBX8 := hBX.trans (hr8.mono hBX.size)
          have hC := HAD.out W8 hBX8 k hlt _ _ ((hrs.out.below hr8).mono hr8.size) hv8
          have gX := HGG.out W8 hBX8
          have g5 := (hr8.block _ zs).trans hgs.out
          have z58 := lt_of_heap g5
          have lX8 := lt_of_heap gX
          obtain ⟨⟨k0, k1, k2, k3, k4, k5, k6, -⟩, ⟨-, -, -⟩, ⟨-, -, -⟩, -, -, -⟩ := case17 gX
          obtain ⟨o0, o1, o2, -, -, -⟩ := elem_cells g5
          obtain ⟨d0, d1, d2, -, -, -⟩ := elem_cells g8
          have HG5 := Lib.hid g5
          clear hW8 gX g8 g5 hO8 hb8 hv8
          -- into the sum
          go_wp2_with fail
          refine hC.mono ?_
          rintro e w9 ⟨rv9, rfl, hO9, hb9⟩
          obtain ⟨ra9, rc9, rfl⟩ := hO9.open_
          have g9 := (hb9.block _ z58).trans HG5.out
          clear hC o0 o1 o2 d0 d1 d2 k0 k1 k2 k3 k4 k5 k6
          obtain ⟨o0, o1, o2, f0, f1, f2⟩ := elem_cells g9
          go_upto_region 9 with (fail)
          obtain ⟨W9, hW9⟩ : ∃ W, W = ((w9.setCell ⟨b5, 0, none⟩ (.int .i64 (lv : Int))).setCell ⟨b5, 1, none⟩ (.bool false)).setCell ⟨b5, 2, none⟩ (.slice ra9 (S (k + 1)).length rc9) := ⟨_, rfl⟩
          obtain ⟨g9', -, hbs9⟩ := elem_store g9 hW9
          have hr9 : Below w3.heap.size w3 W9 := hbs9 _ _ (hBr.trans ((hr8.trans (hb9.mono hr8.size)).mono hBr.size)) hb5
          have hv9 := (elem_store_rows hW9 hO9 z58).rows
          rw [← hW9]
          have HG9 := Lib.hid g9'
          have HV9 := Lib.hid hv9
          clear hW9 g9 g9' hbs9 hv9 hO9 hb9 o0 o1 o2 f0 f1 f2
          go_wp2
          go_roundw
          case rel => exact ⟨k + 1, _, by omega, by go_num, HG9.out, HV9.out, hr9⟩
          case measure => simp [intOf]; omega
      · obtain rfl : k = m' := by omega
        clear k0 k1 k2 k3 k4 k5 k6 k7 ka0
        obtain ⟨⟨k0, k1, k2, k3, k4, k5, k6, -⟩, ⟨ka0, -, -⟩, ⟨kb0, kb1, kb2⟩, -, -, -⟩ := case17 gX
        have hC := HRE.out wr hBX
        clear gX
        go_wp2_with fail
        refine hC.mono ?_
        rintro e w4 ⟨rv4, rfl, hO4, hb4⟩
        obtain ⟨ra4, rc4, rfl⟩ := hO4.open_
        clear hC k0 k1 k2 k3 k4 k5 k6 ka0 kb0 kb1 kb2
        go_upto_region 23 with (fail)
        obtain ⟨W4, hW4⟩ : ∃ W, W = w4.alloc (.cells #[.int .i64 (lv : Int), .bool false, .slice ra4 Y.length rc4] 28) := ⟨_, rfl⟩
        have g4 : W4.heap[w4.heap.size]? = some (.cells #[.int .i64 (lv : Int), .bool false, .slice ra4 Y.length rc4] 28) := by rw [hW4]; exact alloc_last _ _ rfl
        have hr4 : Below wr.heap.size wr W4 := by rw [hW4]; exact hb4.alloc hb4.size _
        have hv4' : W4.rows u32V W4.heap.size (.slice ra4 Y.length rc4) Y := by rw [hW4]; exact (hO4.rows.below ((Below.refl _ _).alloc (Nat.le_refl _) _)).mono (by simp)
        rw [← hW4]
        have z4 := lt_of_heap g4
        have hBX4 : Below W0.heap.size W0 W4 := hBX.trans (hr4.mono hBX.size)
        have hC := HM3.out W4 hBX4 _ hv4'
        have gX := HGG.out W4 hBX4
        have lX4 : w.heap.size < W4.heap.size := by have := hr4.size; omega
        obtain ⟨⟨k0, k1, k2, k3, k4, k5, k6, -⟩, ⟨ka0, ka1, ka2⟩, ⟨-, -, -⟩, -, -, -⟩ := case17 gX
        obtain ⟨o0, o1, o2, -, -, -⟩ := elem_cells g4
        clear hW4 gX g4 hv4' hO4 hb4
        go_wp2_with fail
        refine hC.mono ?_
        rintro e w5 ⟨rv5, rfl, hO5, hb5'⟩
        obtain ⟨ra5, rc5, rfl⟩ := hO5.open_
        clear hC o0 o1 o2 k0 k1 k2 k3 k4 k5 k6 ka0 ka1 ka2
        go_upto_region 24 with (fail)
        obtain ⟨W5, hW5⟩ : ∃ W, W = w5.alloc (.cells #[.int .i64 (lv : Int), .bool false, .slice ra5 (S k).length rc5] 28) := ⟨_, rfl⟩
        have g5 : W5.heap[w5.heap.size]? = some (.cells #[.int .i64 (lv : Int), .bool false, .slice ra5 (S k).length rc5] 28) := by rw [hW5]; exact alloc_last _ _ rfl
        have hr5 : Below wr.heap.size wr W5 := by rw [hW5]; exact (hr4.trans (hb5'.mono hr4.size)).alloc ((hr4.trans (hb5'.mono hr4.size)).size) _
        have hv5' : W5.rows u32V W5.heap.size (.slice ra5 (S k).length rc5) (S k) := by rw [hW5]; exact (hO5.rows.below ((Below.refl _ _).alloc (Nat.le_refl _) _)).mono (by simp)
        rw [← hW5]
        have z5 := lt_of_heap g5
        have hBX5 : Below W0.heap.size W0 W5 := hBX.trans (hr5.mono hBX.size)
        have hC := HSM.out W5 _ _ ((hrs.out.below hr5).mono hr5.size) hv5'
        have gs := (hr5.block _ zs).trans hgs.out
        have zs5 := lt_of_heap gs
        obtain ⟨o0, o1, o2, -, -, -⟩ := elem_cells g5
        obtain ⟨d0, d1, d2, -, -, -⟩ := elem_cells gs
        clear hW5 gs g5 hv5' hO5 hb5'
        go_wp2_with fail
        refine hC.mono ?_
        rintro e w6 ⟨rfl, hb6⟩
        clear hC o0 o1 o2 d0 d1 d2
        have hBX6 := hBX5.trans (hb6.mono hBX5.size)
        go_wp2_with fail
        refine (awake_any w6).mono ?_
        rintro e wz ⟨rfl, hbz⟩
        go_wp2
        go_ret
        exact ⟨rfl, hB0.trans ((hBX6.trans (hbz.mono hBX6.size)).mono hB0.size)⟩
end Go.Proofs.Ytpcpgmgpkegjlaa
