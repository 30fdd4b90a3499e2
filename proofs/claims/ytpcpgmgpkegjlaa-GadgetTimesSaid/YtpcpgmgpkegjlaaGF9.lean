/- Walks: the reference's digits of an element. -/
import Derived.Test.YtpcpgmgpkegjlaaGF6
import Derived.Test.YtpcpgmgpkegjlaaGF8
import Derived.Test.YtpcpgmgpkegjlaaGE3
namespace Go.Proofs.Ytpcpgmgpkegjlaa
open Go.RowKit Go.Shelf Go.BigFrame
theorem infoI64r : (Try.prog.info? 45).map (fun i => (i.zero, i.size, i.bytes)) = some (some (.slice none 0 0), 1, 24) := by kernel_rfl
/-- One row of digits. -/
def digRow (h : Int) (P n : Nat) (chain : List Nat) (rows : List (List Nat)) (r : Nat) : List Int := (List.range n).map (digT h P chain rows r)
theorem digL_row (h : Int) (P n : Nat) (chain : List Nat) (rows : List (List Nat)) (R : Nat) : digL h P n chain rows R = (List.range R).map (digRow h P n chain rows) := rfl
theorem cent_dbl (q y : Nat) : ((q : Int) < 2 * (y : Int) → cent q y = (y : Int) - (q : Int)) ∧ (¬ (q : Int) < 2 * (y : Int) → cent q y = (y : Int)) := by
  unfold cent
  constructor <;> intro h
  · rw [if_pos (by omega)]
  · rw [if_neg (by omega)]
set_option maxRecDepth 100000 in
set_option maxHeartbeats 40000000 in
theorem rdigits_ok (n lv P : Nat) (pr pw wt er : Int) (cv : Value) (chain : List Nat) (sp : Nat) (width : Int) (rv : Value) (rows : List (List Nat)) (w : World) (hr : w.reads w.heap.size cv (chain.map u32V)) (hrow : w.rows u32V w.heap.size rv rows) (hcb : ∀ q ∈ chain, q < 4294967296)
    (hmade : madeB (n : Int) chain sp width = true) (hPe : P = (partsI width).toNat) (hlv2 : lv ≤ chain.length) (hck : checkB (n : Int) chain sp (lv : Int) false rows = true) (hn : n ≤ 32) (hrl : rows.length = lv) (hok : RowsOk n chain rows) :
    Calls Try.prog 18 #[.agg #[.int .i64 (n : Int), .int .u32 pr, .int .i64 pw, cv, .int .u32 (sp : Int), .int .i64 wt, .int .u32 er], .int .i64 width, .agg #[.int .i64 (lv : Int), .bool false, rv]] w
      fun e w' => (∃ v, e = .returned (.tuple #[v, .int .i64 0]) ∧ w'.rows i64V w'.heap.size v (digL (2 ^ (width - 1).toNat) P n chain rows (lv * P))) ∧ Below w.heap.size w w' := by
  obtain ⟨hw1, hw2, hv, -⟩ := madeB_parts hmade
  have h24 := (validB_len hv).2
  have hpb := parts_bound hw1 hw2
  have hPI : partsI width = (P : Int) := by omega
  have HCG := Lib.hid (chain_ge hv)
  have HPA := Lib.hid (fun W => parts_any width hw1 hw2 W)
  rw [hPI] at HPA hpb
  have HCUT := Lib.hid (fun x h1 h2 W => cut_any width hw1 hw2 x h1 h2 W)
  rw [← hPe] at HCUT
  obtain ⟨h, hh⟩ : ∃ h : Int, h = 2 ^ (width - 1).toNat := ⟨_, rfl⟩
  rw [← hh] at HCUT ⊢
  obtain ⟨a, cap, rfl, hcap, hmx, hcs⟩ := reads_u32 hr
  obtain ⟨ra, rcap, rfl, hrc, hrm, hrs⟩ := hrow.shape
  obtain ⟨W0, hW0⟩ : ∃ W0, W0 = (w.alloc (.cells #[.int .i64 (n : Int), .int .u32 pr, .int .i64 pw, .slice a chain.length cap, .int .u32 (sp : Int), .int .i64 wt, .int .u32 er] 25)).alloc (.cells #[.int .i64 (lv : Int), .bool false, .slice ra rows.length rcap] 28) := ⟨_, rfl⟩
  have hB0 : Below w.heap.size w W0 := by rw [hW0]; exact ((Below.refl _ w).alloc (Nat.le_refl _) _).alloc (by simp) _
  have g0 : W0.heap[w.heap.size]? = some (.cells #[.int .i64 (n : Int), .int .u32 pr, .int .i64 pw, .slice a chain.length cap, .int .u32 (sp : Int), .int .i64 wt, .int .u32 er] 25) := by rw [hW0, Below.heap_alloc _ _ _ (by simp)]; exact alloc_last _ _ rfl
  have e0 : W0.heap[w.heap.size + 1]? = some (.cells #[.int .i64 (lv : Int), .bool false, .slice ra rows.length rcap] 28) := by rw [hW0]; exact alloc_last _ _ (by simp)
  have hz0 := lt_of_heap e0
  have hz1 : w.heap.size < W0.heap.size := by omega
  have HR0 := Lib.hid ((hr.below hB0).mono hB0.size)
  have HROW := Lib.hid ((hrow.below hB0).mono hB0.size)
  have HV := Lib.hid (valid17_any (n : Int) pr pw wt er _ chain sp width W0 HR0.out hcb)
  rw [hmade] at HV
  have HC := Lib.hid (fun W hb => rcheck_any (n : Int) pr pw wt er _ chain sp (lv : Int) false _ rows W ((HR0.out.below hb).mono (Below.size hb)) ((HROW.out.below hb).mono (Below.size hb)))
  rw [hck] at HC
  unfold OkPost at HV
  unfold ErrPost at HC
  rw [hrl] at hW0 e0 HC hrc ⊢
  obtain ⟨m, hm⟩ : ∃ m, m = chain.length := ⟨_, rfl⟩
  rw [← hm] at hW0 g0 HV HC hcap hlv2 h24 ⊢
  have HM := Lib.hid hm
  obtain ⟨c0, c1, c2, c3, c4, c5, c6⟩ := par_cells g0
  obtain ⟨k0, k1, k2, -, -, -⟩ := elem_cells e0
  have HG0 := Lib.hid g0
  have HE0 := Lib.hid e0
  have HW0 := Lib.hid hW0
  have HCS := Lib.hid hcs
  have HRS := Lib.hid hrs
  have HOK := Lib.hid hok
  have HRL := Lib.hid hrl
  obtain ⟨i0, hi0, hiz, hiz1, hizb⟩ := info_parts infoI64e
  obtain ⟨i1, hi1, hi1z, hi1z1, hi1b⟩ := info_parts infoI64r
  clear hr hrow g0 e0 hW0 hm hcs hrs hok hrl hmade hck hv hcb hPe hh hPI
  go_enter Try.func18, Try.ntmps18
  go_upto_region 1 with (fail)
  rw [← HW0.out]
  go_wp2_with fail
  refine HV.out.mono ?_
  rintro e w1 ⟨rfl, hb1⟩
  have hg1 := (hb1.block _ hz1).trans HG0.out
  have he1 := (hb1.block _ hz0).trans HE0.out
  have HC1 := HC.out w1 hb1
  have hs1 := hb1.size
  clear c0 c1 c2 c3 c4 c5 c6 k0 k1 k2
  obtain ⟨c0, c1, c2, c3, c4, c5, c6⟩ := par_cells hg1
  obtain ⟨k0, k1, k2, -, -, -⟩ := elem_cells he1
  clear hg1 he1
  go_wp2_with fail
  refine HC1.mono ?_
  rintro e w2 ⟨rfl, hb2⟩
  have hB2 := hb1.trans (hb2.mono hs1)
  have hBw := hB0.trans (hB2.mono hB0.size)
  have hs2 := hB2.size
  have hg2 := (hB2.block _ hz1).trans HG0.out
  have he2 := (hB2.block _ hz0).trans HE0.out
  have l1 : w.heap.size < w2.heap.size := by omega
  have l2 : w.heap.size + 1 < w2.heap.size := by omega
  have HG2 := Lib.hid hg2
  have HE2 := Lib.hid he2
  clear c0 c1 c2 c3 c4 c5 c6 k0 k1 k2 HC1
  obtain ⟨-, k1, -, -, -, -⟩ := elem_cells he2
  have HCS2 : Hid (∀ (j x : Nat), chain[j]? = some x → ∃ b off, a = some ⟨b, off, none⟩ ∧ b < w2.heap.size ∧ w2.cell? ⟨b, off + j, none⟩ = some (.int .u32 (x : Int))) := by
    intro j x hj
    obtain ⟨b, off, q1, q2, q3⟩ := HCS.out j x hj
    exact ⟨b, off, q1, by have := hBw.size; omega, by rw [hBw.cell (p := ⟨b, off + j, none⟩) q2]; exact q3⟩
  have HRS2 : Hid (∀ (j : Nat) (x : List Nat), rows[j]? = some x → ∃ b off b2 c2, ra = some ⟨b, off, none⟩ ∧ b < w2.heap.size ∧ w2.cell? ⟨b, off + j, none⟩ = some (.slice b2 x.length c2) ∧ w2.reads w2.heap.size (.slice b2 x.length c2) (x.map u32V)) := by
    intro j x hj
    obtain ⟨b, off, b2, c2, q1, q2, q3, q4⟩ := HRS.out j x hj
    exact ⟨b, off, b2, c2, q1, by have := hBw.size; omega, by rw [hBw.cell (p := ⟨b, off + j, none⟩) q2]; exact q3, (q4.below hBw).mono hBw.size⟩
  have HBW := Lib.hid hBw
  clear hg2 he2 hb1 hb2 hB2 hBw hB0 HC HV
  go_wp2_with fail
  have hT0 : w2.rowsO i64V w2.heap.size 45 2 (.slice none 0 0) ((List.range (0 * P)).map (digRow h P n chain rows)) := by rw [Nat.zero_mul]; exact World.rowsO_nil _ _ _ _
  go_loopw [8, 9] (fun ov ii wr => ∃ i : Nat, i ≤ lv ∧ ii = .int .i64 (i : Int) ∧ wr.rowsO i64V w2.heap.size 45 2 ov ((List.range (i * P)).map (digRow h P n chain rows)) ∧ Below w2.heap.size w2 wr) (fun _ ii _ => lv - (intOf ii).toNat)
  case atStart => exact ⟨0, Nat.zero_le _, rfl, hT0, Below.refl _ _⟩
  case round =>
    obtain ⟨wo, rfl⟩ : ∃ x, x = wr := ⟨_, rfl⟩
    clear hT0
    obtain ⟨i, hi, rfl, hO, hBr⟩ := hrel
    have hsr := hBr.size
    have HCRW := Lib.hid (bcell hBr).1
    have hgr := (hBr.block _ l1).trans HG2.out
    have her := (hBr.block _ l2).trans HE2.out
    obtain ⟨c0, -, -, c3, -, -, -⟩ := par_cells hgr
    obtain ⟨k0, -, k2, -, -, -⟩ := elem_cells her
    obtain ⟨oa, oc, rfl⟩ := hO.open_
    have hol : ((List.range (i * P)).map (digRow h P n chain rows)).length = i * P := by simp
    rw [hol] at hO ⊢
    have HO := Lib.hid hO
    clear hol
    clear hgr her hO
    by_cases hlt : i < lv
    case neg =>
      obtain rfl : i = lv := by omega
      clear k1 k2 c0 c3
      go_wp2
      go_ret2
      refine ⟨⟨_, rfl, ?_⟩, HBW.out.trans (hBr.mono HBW.out.size)⟩
      rw [digL_row]
      exact HO.out.rows
    obtain ⟨q, hq⟩ : ∃ x, chain[i]? = some x := ⟨chain[i]'(by rw [← HM.out]; omega), List.getElem?_eq_getElem _⟩
    obtain ⟨x, hx⟩ : ∃ x, rows[i]? = some x := ⟨rows[i]'(by rw [HRL.out]; omega), List.getElem?_eq_getElem _⟩
    obtain ⟨hxn, q', hq', hxq⟩ := HOK.out i x hx
    obtain rfl : q = q' := by rw [hq] at hq'; injection hq'
    have hqr := HCG.out q (List.mem_of_getElem? hq)
    obtain ⟨qb, qo, rfl, hqb, hqc⟩ := HCS2.out i q hq
    obtain ⟨b, off, xb, xc, rfl, hbb, hxc, hxr⟩ := HRS2.out i x hx
    have hqc1 : wo.cell? ⟨qb, qo + i, none⟩ = some (.int .u32 (q : Int)) := (HCRW.out _ _ hqb).trans hqc
    have hxc1 : wo.cell? ⟨b, off + i, none⟩ = some (.slice xb x.length xc) := (HCRW.out _ _ hbb).trans hxc
    obtain ⟨xb', xc', hxe, hxcc, hxm, hxs⟩ := reads_u32 hxr
    injection hxe with hxe _ hxe2
    subst hxe hxe2
    rw [hxn] at hxc1 hxcc
    have HXS := Lib.hid hxs
    have HX := Lib.hid hx
    have HXN := Lib.hid hxn
    have HXQ := Lib.hid hxq
    have HQ := Lib.hid hq
    have HCX := Lib.hid hxc1
    have hxl : x.length = n := hxn
    clear hx hq hq' hqc hxc hxr hxs hxn hxq k1
    have z0 : (0 : Int) ≤ (i : Int) := by omega
    have z1 : (i : Int) < (m : Int) := by omega
    have z2 : (i : Int) < (lv : Int) := by omega
    go_wp2_with fail
    have hcu0 : wo.rowsO i64V wo.heap.size 45 2 (.slice none 0 0) ((List.range 0).map (fun c => cutL h P (cent q (x.getD c 0)))) := World.rowsO_nil _ _ _ _
    go_loopw [11, 12] (fun cu jj ws => ∃ j : Nat, j ≤ n ∧ jj = .int .i64 (j : Int) ∧ ws.rowsO i64V wo.heap.size 45 2 cu ((List.range j).map (fun c => cutL h P (cent q (x.getD c 0)))) ∧ Below wo.heap.size wo ws) (fun _ jj _ => n - (intOf jj).toNat)
    case atStart => exact ⟨0, Nat.zero_le _, rfl, hcu0, Below.refl _ _⟩
    case round =>
      obtain ⟨ws, rfl⟩ : ∃ x, x = wr := ⟨_, rfl⟩
      clear hcu0
      obtain ⟨j, hj, rfl, hcu, hbs⟩ := hrel
      have hss := hbs.size
      have HCS2W := Lib.hid (bcell hbs).1
      obtain ⟨ca, cc, rfl⟩ := hcu.open_
      have hcl : ((List.range j).map (fun c => cutL h P (cent q (x.getD c 0)))).length = j := by simp
      rw [hcl] at hcu ⊢
      have HCU := Lib.hid hcu
      clear hcu
      by_cases hltj : j < n
      · obtain ⟨y, hy⟩ : ∃ y, x[j]? = some y := ⟨x[j]'(by rw [HXN.out]; exact hltj), List.getElem?_eq_getElem _⟩
        obtain ⟨yb, yo, rfl, hyb, hyc⟩ := HXS.out j y hy
        have hyq := HXQ.out y (List.mem_of_getElem? hy)
        have hyD : x.getD j 0 = y := by rw [List.getD_eq_getElem?_getD, hy]; rfl
        have c0s : ws.cell? ⟨w.heap.size, 0, none⟩ = some (.int .i64 (n : Int)) := (HCS2W.out _ _ (by omega)).trans c0
        have k2s : ws.cell? ⟨w.heap.size + 1, 2, none⟩ = some (.slice (some ⟨b, off, none⟩) lv rcap) := (HCS2W.out _ _ (by omega)).trans k2
        have hxcs : ws.cell? ⟨b, off + i, none⟩ = some (.slice (some ⟨yb, yo, none⟩) n xc) := (HCS2W.out _ _ (by omega)).trans HCX.out
        have hycs : ws.cell? ⟨yb, yo + j, none⟩ = some (.int .u32 (y : Int)) := ((HCS2W.out _ _ (by omega)).trans (HCRW.out _ _ hyb)).trans hyc
        obtain ⟨s1, s2⟩ := cent_dbl q y
        obtain ⟨ce, hce⟩ : ∃ ce, ce = cent q y := ⟨_, rfl⟩
        rw [← hce] at s1 s2
        have hceb : -2147483648 ≤ ce ∧ ce ≤ 2147483648 := by
          by_cases hc : (q : Int) < 2 * (y : Int)
          · rw [s1 hc]; omega
          · rw [s2 hc]; omega
        have HCT := Lib.hid (HCUT.out ce hceb.1 hceb.2 ws)
        have HYD := Lib.hid hyD
        have HCE := Lib.hid hce
        have j0 : (0 : Int) ≤ (j : Int) := by omega
        have j1 : (j : Int) < (n : Int) := by omega
        clear hy hyD hce k0 k2 c3 hyc hxc1 c0 hceb
        have hdis : ((q : Int) < 2 * (y : Int) ∧ ce = (y : Int) - (q : Int)) ∨ (¬ (q : Int) < 2 * (y : Int) ∧ ce = (y : Int)) := by
          by_cases hc : (q : Int) < 2 * (y : Int)
          · exact .inl ⟨hc, s1 hc⟩
          · exact .inr ⟨hc, s2 hc⟩
        clear s1 s2
        rcases hdis with ⟨hc, rfl⟩ | ⟨hc, rfl⟩
        all_goals
          go_wp2_with fail
          refine HCT.out.mono ?_
          rintro e w5 ⟨⟨u, rfl, hu⟩, hb5⟩
          have hB5 := hbs.trans (hb5.mono hss)
          have hs5 := hB5.size
          have hcu5 := HCU.out.below hb5
          obtain ⟨ua, uc, rfl⟩ := reads_len hu.reads
          have hul : ∀ z, ((cutL h P z).map i64V).length = P := fun z => by simp [cutL]
          rw [hul] at hu ⊢
          rw [HCE.out] at hu
          have HU : Hid (w5.owns wo.heap.size 2 1 (.slice ua P uc) (cutL h P (cent q y)).length ((cutL h P (cent q y)).map i64V)) := by
            have : (cutL h P (cent q y)).length = P := by simp [cutL]
            rw [this]; exact hu.mono hss
          have HC5 := Lib.hid hcu5
          have HB5 := Lib.hid hB5
          clear hu hcu5 hul hB5 hb5 HCT c0s k2s hxcs hycs
          go_wp2_with (at_builtin; refine wpList_pushRow rfl (.tmp 65) (.tmp 69) 29 rfl wo.heap.size 45 2 (by decide) i1 (.slice none 0 0) 24 Try.underlying29 hi1 hi1z hi1z1 hi1b rfl (.slice ca j cc) _ rfl HC5.out (.slice ua P uc) _ HU.out w5.heap.size rfl rfl rfl (by simp; unfold maxLen; omega) (by simp; omega) hs5 ?_; intro v4 W4 hr4 hz4 hBB hKK)
          have HR4 := Lib.hid hr4
          have HBB := Lib.hid hBB
          clear hr4 hBB hKK
          go_wp2
          go_roundw
          case rel => exact ⟨j + 1, by omega, by go_num, by rw [map_range_succ, HYD.out]; exact HR4.out, HBB.out _ _ HB5.out (Nat.le_refl _)⟩
          case measure => simp [intOf]; omega
      · obtain rfl : j = n := by omega
        obtain ⟨ca', cc', hce, hcc1, hcm1, hcsh⟩ := HCU.out.shape
        injection hce with hce1 hcex hce2
        subst hce1 hce2
        clear hcex
        rw [hcl] at hcc1
        have c0s : ws.cell? ⟨w.heap.size, 0, none⟩ = some (.int .i64 (j : Int)) := (HCS2W.out _ _ (by omega)).trans c0
        have HCSH := Lib.hid hcsh
        have hO2 := HO.out.below hbs
        have HBS := Lib.hid hbs
        -- the blocks that hold the cuts
        obtain ⟨S, hS⟩ : ∃ S : Nat → Prop, S = fun g => (g < w2.heap.size ∨ (wo.heap.size ≤ g ∧ g < ws.heap.size)) := ⟨_, rfl⟩
        have HSdef := Lib.hid hS
        have hfree : (Value.slice oa (i * P) oc).freeOf S := by
          rw [hS]
          intro g hg hs
          obtain ⟨vs, -, hvs, -⟩ := HO.out
          have := hvs.lt g hg
          omega
        have HFR := Lib.hid hfree
        have HO2 := Lib.hid hO2
        clear k0 k2 c0 c3 hfree hO2 hbs hS hqc1 hxc1 hcsh hxl hcl
        go_wp2_with fail
        go_loopw [8, 14] (fun ov kk wt => ∃ k : Nat, k ≤ P ∧ kk = .int .i64 (k : Int) ∧ Hid (wt.rowsO i64V w2.heap.size 45 2 ov ((List.range (i * P + k)).map (digRow h P j chain rows))) ∧ Hid (Below w2.heap.size w2 wt) ∧ Hid (KeepP S ws wt) ∧ Hid (ov.freeOf S) ∧ ws.heap.size ≤ wt.heap.size) (fun _ kk _ => P - (intOf kk).toNat)
        case atStart => exact ⟨0, Nat.zero_le _, rfl, (by show World.rowsO _ _ _ _ _ _ _; rw [Nat.add_zero]; exact HO2.out), hBr.trans (HBS.out.mono hsr), KeepP.refl _, HFR.out, Nat.le_refl _⟩
        case round =>
          obtain ⟨wt, rfl⟩ : ∃ x, x = wr := ⟨_, rfl⟩
          obtain ⟨k, hk, rfl, hOt, hBt, hKt, hFt, hst⟩ := hrel
          obtain ⟨ta, tc, rfl⟩ := hOt.out.open_
          have hll : ((List.range (i * P + k)).map (digRow h P j chain rows)).length = i * P + k := by simp
          obtain ⟨T, hT⟩ : ∃ T, T = i * P + k := ⟨_, rfl⟩
          have hTb : T ≤ 24 * 16 + 16 := by
            rw [hT]
            have : i * P ≤ 24 * 16 := Nat.mul_le_mul (by omega) (by omega)
            omega
          rw [hll, ← hT] at hOt hFt ⊢
          have HT := Lib.hid hT
          clear hT hll
          go_wp2_with fail
          refine (HPA.out _).mono ?_
          rintro e w6 ⟨rfl, rfl⟩
          by_cases hltk : k < P
          · have hg6 := (hBt.out.block _ l1).trans HG2.out
            obtain ⟨c0t, -, -, -, -, -, -⟩ := par_cells hg6
            have hs6 := hBt.out.size
            clear hg6
            go_wp2_with fail
            have hl0 : wt.owns wt.heap.size 2 1 (.slice none 0 0) 0 (((List.range 0).map (digT h P chain rows T)).map i64V) := World.owns_nil _ _ _ _
            go_loopw [15, 16] (fun lw jj wu => ∃ c : Nat, c ≤ j ∧ jj = .int .i64 (c : Int) ∧ wu.owns wt.heap.size 2 1 lw c (((List.range c).map (digT h P chain rows T)).map i64V) ∧ Below wt.heap.size wt wu) (fun _ jj _ => j - (intOf jj).toNat)
            case atStart => exact ⟨0, Nat.zero_le _, rfl, hl0, Below.refl _ _⟩
            case round =>
              obtain ⟨wu, rfl⟩ : ∃ x, x = wr := ⟨_, rfl⟩
              clear hl0
              obtain ⟨c, hc, rfl, how, hbu⟩ := hrel
              have hsu := hbu.size
              have HCU6 := Lib.hid (bcell hbu).1
              obtain ⟨la, lc, rfl⟩ := reads_len how.reads
              have hll : (((List.range c).map (digT h P chain rows T)).map i64V).length = c := by simp
              rw [hll] at how ⊢
              have HOW := Lib.hid how
              have c0u : wu.cell? ⟨w.heap.size, 0, none⟩ = some (.int .i64 (j : Int)) := (HCU6.out _ _ (by omega)).trans c0t
              clear how hll
              by_cases hltc : c < j
              · obtain ⟨hb', hb2, hc2, rfl, hbz1, hbz2, hcc, hrc2, hrm2, hrs2⟩ := HCSH.out c (cutL h P (cent q (x.getD c 0))) (by simp [hltc])
                have hsS : S hb' := by rw [HSdef.out]; exact .inr ⟨hbz1, hbz2⟩
                have hPl : (cutL h P (cent q (x.getD c 0))).length = P := by simp [cutL]
                have hcc6 : wu.cell? ⟨hb', c, none⟩ = some (.slice hb2 P hc2) := by
                  rw [HCU6.out _ _ (by omega), hKt.out.cell hsS, hcc, hPl]
                have hel : (cutL h P (cent q (x.getD c 0)))[k]? = some (digI h P (cent q (x.getD c 0)) k) := by simp [cutL, hltk]
                have hdT : digT h P chain rows T c = digI h P (cent q (x.getD c 0)) k := by
                  unfold digT
                  have d1 : T / P = i := by rw [HT.out, Nat.mul_comm, Nat.mul_add_div (by omega), Nat.div_eq_of_lt hltk]; omega
                  have d2 : T % P = k := by rw [HT.out, Nat.mul_comm, Nat.mul_add_mod, Nat.mod_eq_of_lt hltk]
                  rw [d1, d2]
                  simp only [List.getD_eq_getElem?_getD, HQ.out, HX.out, Option.getD_some]
                obtain ⟨d, hd⟩ : ∃ d, d = digI h P (cent q (x.getD c 0)) k := ⟨_, rfl⟩
                rw [← hd] at hel hdT
                rw [hPl] at hrc2
                obtain ⟨eb, rfl, heb1, heb2, hec⟩ := hrs2 k d hel
                have hsS2 : S eb := by rw [HSdef.out]; exact .inr ⟨heb1, heb2⟩
                have hec6 : wu.cell? ⟨eb, k, none⟩ = some (.int .i64 d) := by
                  rw [HCU6.out _ _ (by omega), hKt.out.cell hsS2, hec]; rfl
                have HDT := Lib.hid hdT
                clear hcc hPl hel hdT hd hrs2 hec c0t
                have y0 : (0 : Int) ≤ (c : Int) := by omega
                have y1 : (c : Int) < (j : Int) := by omega
                have y2 : (0 : Int) ≤ (k : Int) := by omega
                have y3 : (k : Int) < (P : Int) := by omega
                go_wp2_with (at_builtin; refine wpList_push1 rfl (.tmp 83) (.tmp 91) 45 rfl wt.heap.size 2 i0 (.int .i64 0) 8 Try.underlying45 hi0 hiz hiz1 hizb rfl (.slice la c lc) c _ rfl HOW.out (.int .i64 d) wu.heap.size rfl rfl rfl (by unfold maxLen; omega) (by omega) hsu ?_; intro v4 W4 hown4 hz4 hBB)
                have HO4 := Lib.hid hown4
                have HBB := Lib.hid hBB
                clear hown4 hBB
                go_wp2
                go_roundw
                case rel => exact ⟨c + 1, by omega, by go_num, by rw [map_range_map_succ, HDT.out]; exact HO4.out, HBB.out _ _ hbu (Nat.le_refl _)⟩
                case measure => simp [intOf]; omega
              · obtain rfl : c = j := by omega
                have hOu := hOt.out.below hbu
                have HOU := Lib.hid hOu
                have HUU : Hid (wu.owns w2.heap.size 2 1 (.slice la c lc) (digRow h P c chain rows T).length ((digRow h P c chain rows T).map i64V)) := by
                  have : (digRow h P c chain rows T).length = c := by simp [digRow]
                  rw [this]; exact HOW.out.mono hs6
                have hSb : ∀ g, S g → g < wt.heap.size := by
                  intro g hg
                  rw [HSdef.out] at hg
                  omega
                have HSB := Lib.hid hSb
                have HBU := Lib.hid hbu
                clear hOu hSb c0t
                go_wp2_with (at_builtin; refine wpList_pushRow rfl (.tmp 93) (.tmp 95) 29 rfl w2.heap.size 45 2 (by decide) i1 (.slice none 0 0) 24 Try.underlying29 hi1 hi1z hi1z1 hi1b rfl (.slice ta T tc) _ rfl HOU.out (.slice la c lc) (digRow h P c chain rows T) HUU.out wu.heap.size rfl rfl rfl (by simp; unfold maxLen; omega) (by simp; omega) (by omega) ?_; intro v4 W4 hr4 hz4 hBB hKK)
                have HR4 := Lib.hid hr4
                have HBB := Lib.hid hBB
                have HKK := Lib.hid hKK
                clear hr4 hBB hKK
                go_wp2
                go_roundw
                case rel =>
                  obtain ⟨x1, x2⟩ := HKK.out S ws (hKt.out.trans (KeepP.below HBU.out HSB.out)) (fun g hg => by have := HSB.out g hg; omega) hFt.out
                  refine ⟨k + 1, by omega, by go_num, ?_, HBB.out _ _ (hBt.out.trans (HBU.out.mono hs6)) (Nat.le_refl _), x1, x2, by omega⟩
                  show World.rowsO _ _ _ _ _ _ _
                  rw [show i * P + (k + 1) = T + 1 by rw [HT.out]; omega, map_range_succ]
                  exact HR4.out
                case measure => simp [intOf]; omega
          · obtain rfl : k = P := by omega
            go_wp2
            go_roundw
            case rel => exact ⟨i + 1, by omega, by go_num, by rw [Nat.succ_mul, ← HT.out]; exact hOt.out, hBt.out⟩
            case measure => simp [intOf]; omega
end Go.Proofs.Ytpcpgmgpkegjlaa
