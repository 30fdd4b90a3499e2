/- Walks: the law RingInts. -/
import Derived.Test.YtkjlfjnncdkmlaaPC5
namespace Go.Proofs.Ytkjlfjnncdkmlaa.G
set_option linter.all false
open Go.RowKit Go.Shelf Go.BigFrame Go.WideNum
attribute [local go_sem] Oper.semAt_some
set_option maxRecDepth 100000 in
set_option maxHeartbeats 16000000 in
theorem ints_law (c : RCase) (w : World) (h : c.reads w.heap.size w) (hls : ∀ z ∈ c.ls, -9223372036854775808 ≤ z ∧ z ≤ 9223372036854775807) : Calls Try.prog 3 #[.agg c.cells] w fun e w' => e = .returned (.bool true) ∧ Below w.heap.size w w' := by
  obtain ⟨HPOST, hpost⟩ : ∃ R : Ending → World → Prop, R = fun e w' => e = .returned (.bool true) ∧ Below w.heap.size w w' := ⟨_, rfl⟩
  rw [← hpost]
  have HP := Lib.hid hpost
  have HAW := Lib.hid awake_any
  obtain ⟨N, pr, pw, wt, er, la, lb, num, kk, level, cv, av, bv, lw, sa, sb, special, chain, sp, xs, ys, ls⟩ := c
  have h1 : w.reads w.heap.size cv (chain.map u32V) := h.1
  have h2 : w.rows u32V w.heap.size av xs := h.2.1
  have h3 : w.rows u32V w.heap.size bv ys := h.2.2.1
  have h4 : w.reads w.heap.size lw (ls.map i64V) := h.2.2.2
  obtain ⟨W0, hW0⟩ : ∃ W0, W0 = w.alloc (.cells #[.int .i64 N, .int .u32 pr, .int .i64 pw, cv, .int .u32 (sp : Int), .int .i64 wt, .int .u32 er, .int .i64 la, .bool sa, av, .int .i64 lb, .bool sb, bv, .int .i64 num, .int .i64 kk, .int .i64 level, .bool special, lw] 31) := ⟨_, rfl⟩
  have hb : Below w.heap.size w W0 := by rw [hW0]; exact below_new w _
  have G : Hid (W0.heap[w.heap.size]? = some (.cells #[.int .i64 N, .int .u32 pr, .int .i64 pw, cv, .int .u32 (sp : Int), .int .i64 wt, .int .u32 er, .int .i64 la, .bool sa, av, .int .i64 lb, .bool sb, bv, .int .i64 num, .int .i64 kk, .int .i64 level, .bool special, lw] 31)) := by rw [hW0]; exact heap_alloc_new w _
  have RP := hR (Lib.hid h1) hb
  have RA := hRow (Lib.hid h2) hb
  have RB := hRow (Lib.hid h3) hb
  have RL := hR (Lib.hid h4) hb
  have B := Lib.hid hb
  have hlg := large_any ⟨N, pr, pw, wt, er, la, lb, num, kk, level, cv, av, bv, lw, sa, sb, special, chain, sp, xs, ys, ls⟩ W0 ⟨RP.out, RA.out, RB.out, RL.out⟩
  obtain ⟨lg, hlgd⟩ : ∃ b, b = largeB ⟨N, pr, pw, wt, er, la, lb, num, kk, level, cv, av, bv, lw, sa, sb, special, chain, sp, xs, ys, ls⟩ := ⟨_, rfl⟩
  rw [← hlgd] at hlg
  simp only [RCase.cells] at hlg ⊢
  have HLG := Lib.hid hlg
  have LG := Lib.hid hlgd
  have HW0 := Lib.hid hW0
  obtain ⟨p0, p1, p2, p3, p4, p5, p6, p7, p8, p9, p10, p11, p12, p13, p14, p15, p16, p17⟩ := case_cells G.out
  obtain ⟨lwa, lwc, hlw, -⟩ := reads_i64 h4
  subst hlw
  obtain ⟨ca, cc, hcw, -⟩ := reads_u32 h1
  subst hcw
  obtain ⟨L, hL⟩ : ∃ L, L = ls.length := ⟨_, rfl⟩
  obtain ⟨m, hm⟩ : ∃ m, m = chain.length := ⟨_, rfl⟩
  rw [← hL, ← hm] at G HLG HW0 ⊢
  rw [← hL] at RL p17
  rw [← hm] at RP p3
  have HL := Lib.hid hL
  have HM := Lib.hid hm
  have HLS := Lib.hid hls
  obtain ⟨o1, O1⟩ : ∃ o, Hid (o = intsB N chain sp level special ls) := ⟨_, Lib.hid rfl⟩
  clear hL hm hls
  clear hpost hb h h1 h2 h3 h4 hlg hlgd hW0
  go_enter Try.func3, Try.ntmps3
  go_upto_region 1 with (fail)
  rw [← HW0.out]
  obtain ⟨pc, hpc⟩ : ∃ z, z = w.heap.size := ⟨_, rfl⟩
  rw [← hpc] at G p0 p1 p2 p3 p4 p5 p6 p7 p8 p9 p10 p11 p12 p13 p14 p15 p16 p17 ⊢
  clear hpc HW0
  go_wp2_with fail
  (with_reducible refine HLG.out.mono ?_)
  rintro e v0 ⟨rfl, hb⟩
  replace B := hB B hb
  replace G := hG G hb
  replace RP := hR RP hb
  replace RA := hRow RA hb
  replace RB := hRow RB hb
  replace RL := hR RL hb
  clear hb HLG p0 p1 p2 p3 p4 p5 p6 p7 p8 p9 p10 p11 p12 p13 p14 p15 p16 p17
  cases lg with
  | true =>
    go_wp2_with fail
    (with_reducible refine (HAW.out _).mono ?_)
    rintro e wz ⟨rfl, hb⟩
    go_wp2
    rw [HP.out]
    exact ⟨rfl, below_via B.out hb⟩
  | false =>
  obtain ⟨p0, p1, p2, p3, p4, p5, p6, p7, p8, p9, p10, p11, p12, p13, p14, p15, p16, p17⟩ := case_cells G.out
  go_wp2_with fail
  (with_reducible refine (ints_e RP.out level special _ ls RL.out o1 O1.out).mono ?_)
  rintro e v1 ⟨la1, sa1, ra1, nn1, rc1, rs1, er1, rfl, hrow, hk, hk2, hb⟩
  have K1 := Lib.hid hk
  have J1 := Lib.hid hk2
  clear hk hk2
  replace B := hB B hb
  replace G := hG G hb
  replace RP := hR RP hb
  replace RL := hR RL hb
  clear p0 p1 p2 p3 p4 p5 p6 p7 p8 p9 p10 p11 p12 p13 p14 p15 p16 p17
  clear hb
  go_upto_region 4 with (fail)
  have E1 := ElAt.new (la := la1) (sa := sa1) hrow
  have hb := below_new v1 (.cells #[.int .i64 la1, .bool sa1, .slice ra1 nn1 rc1] 28)
  obtain ⟨b1, hbd⟩ : ∃ z, z = v1.heap.size := ⟨_, rfl⟩
  rw [← hbd] at E1 ⊢
  generalize v1.alloc (.cells #[.int .i64 la1, .bool sa1, .slice ra1 nn1 rc1] 28) = v2 at hb E1 ⊢
  replace B := hB B hb
  replace G := hG G hb
  replace RP := hR RP hb
  replace RL := hR RL hb
  clear hrow hb hbd
  obtain ⟨e10, e11, e12, -, -, -⟩ := elem_cells E1.out.heap
  cases o1 with
  | false =>
    obtain rfl : 2 = er1 := by first | exact (J1.out rfl).2.2.2 | exact (J1.out trivial).2.2.2
    have h3 := (by first | exact (J1.out rfl).2.2.1 | exact (J1.out trivial).2.2.1 : [] = rs1)
    subst h3
    obtain rfl : nn1 = 0 := rows_len E1.out.rows
    go_wp2_with fail
    (with_reducible refine (HAW.out _).mono ?_)
    rintro e wz ⟨rfl, hb⟩
    go_wp2
    rw [HP.out]
    exact ⟨rfl, below_via B.out hb⟩
  | true =>
  obtain ⟨rfl, rfl, rfl, rfl⟩ := (by first | exact K1.out rfl | exact K1.out trivial : _ = la1 ∧ _ = sa1 ∧ _ = rs1 ∧ _ = er1)
  clear K1 J1
  clear e10 e11 e12
  as_aux_lemma =>
    obtain ⟨c1, c2, c3, c4⟩ := intsB_spec O1.out
    have C1 := Lib.hid c1
    have C3 := Lib.hid c3
    have C4 := Lib.hid c4
    have hnl : N.toNat = L := by rw [c2, HL.out]
    have HNL := Lib.hid hnl
    obtain ⟨ml, hml⟩ : ∃ ml, ml = modl chain sp level.toNat special := ⟨_, rfl⟩
    rw [← hml] at E1 c1
    have HML := Lib.hid hml
    obtain ⟨F, hF⟩ : ∃ F, F = wC ml (intRows ml ls) := ⟨_, rfl⟩
    have HF := Lib.hid hF
    obtain ⟨o2, ho2⟩ := em_bool (AllP ml)
    have HO2 := Lib.hid ho2
    have HWI : Hid (∀ W v, W.reads W.heap.size (.slice ca m cc) (chain.map u32V) → W.rows u32V W.heap.size v (intRows ml ls) → Calls Try.prog 14 #[.agg #[.int .i64 N, .int .u32 pr, .int .i64 pw, .slice ca m cc, .int .u32 (sp : Int), .int .i64 wt, .int .u32 er], .agg #[.int .i64 level, .bool special, v]] W (WidesPost o2 L F W)) := fun W v hr hv => by
      have h := Wides_any N pr pw wt er (.slice ca m cc) chain sp level special v (intRows ml ls) W hr hv o2 ⟨fun h => ⟨c1, by rw [← hml]; exact ho2.1 h⟩, fun h => ho2.2 (by rw [hml]; exact h.2)⟩
      rw [← hml, hnl, ← hF] at h
      exact h
    clear c1 c2 c3 c4 hnl hml hF ho2
    obtain ⟨p0, p1, p2, p3, p4, p5, p6, p7, p8, p9, p10, p11, p12, p13, p14, p15, p16, p17⟩ := case_cells G.out
    obtain ⟨e10, e11, e12, -, -, -⟩ := elem_cells E1.out.heap
    go_wp2_with fail
    (with_reducible refine (HWI.out _ _ RP.out E1.out.rows).mono ?_)
    rintro e v3 ⟨he, hb⟩
    replace B := hB B hb
    replace G := hG G hb
    replace RP := hR RP hb
    replace RL := hR RL hb
    replace E1 := ElAt.below E1 hb
    clear p0 p1 p2 p3 p4 p5 p6 p7 p8 p9 p10 p11 p12 p13 p14 p15 p16 p17 e10 e11 e12
    clear hb HWI
    clear E1
    cases o2 with
    | false =>
      rw [if_neg (by decide)] at he
      subst he
      obtain ⟨p0, p1, p2, p3, p4, p5, p6, p7, p8, p9, p10, p11, p12, p13, p14, p15, p16, p17⟩ := case_cells G.out
      obtain ⟨z1, z2⟩ := valid_small C3.out
      have HAP := Lib.hid (fun W h => allPrime_any N pr pw wt er (.slice ca m cc) chain sp W h (fun q hq => (z1 q hq).2) z2 false (not_all C4.out (by rw [← HML.out]; intro h; have := HO2.out.2 h; cases this)))
      clear z1 z2
      go_wp2_with fail
      (with_reducible refine (HAP.out _ RP.out).mono ?_)
      rintro e v4 ⟨rfl, hb⟩
      replace B := hB B hb
      replace G := hG G hb
      replace RP := hR RP hb
      replace RL := hR RL hb
      clear p0 p1 p2 p3 p4 p5 p6 p7 p8 p9 p10 p11 p12 p13 p14 p15 p16 p17
      clear hb
      go_wp2_with fail
      (with_reducible refine (HAW.out _).mono ?_)
      rintro e wz ⟨rfl, hb⟩
      go_wp2
      rw [HP.out]
      exact ⟨rfl, below_via B.out hb⟩
    | true =>
    as_aux_lemma =>
      rw [if_pos rfl] at he
      obtain ⟨g, rfl, -, hg⟩ := he
      have GW := Lib.hid hg
      clear hg
      obtain ⟨p0, p1, p2, p3, p4, p5, p6, p7, p8, p9, p10, p11, p12, p13, p14, p15, p16, p17⟩ := case_cells G.out
      obtain ⟨p, hp, hpm⟩ := head_modl C4.out
      have hp3 := (valid_small C3.out).1 p (List.mem_of_getElem? hp)
      obtain ⟨ha, hc, hca, -, -, hrd⟩ := reads_u32 RP.out
      injection hca with hca1 hca2 hca3
      subst hca1 hca3
      obtain ⟨cb, co, rfl, hcb, hcell⟩ := hrd 0 p hp
      obtain ⟨la', lc', hla, -, -, hrl⟩ := reads_i64 RL.out
      injection hla with hla1 hla2 hla3
      subst hla1 hla3
      clear hca2 hla2
      have HRL := Lib.hid hrl
      have HCC := Lib.hid hcell
      have HPM := Lib.hid hpm
      have HSY := Lib.hid (show SysP ml from ints_sys C3.out C4.out HML.out (HO2.out.1 rfl))
      have hm0 : 0 < m := by rw [HM.out]; have := (List.getElem?_eq_some_iff.1 hp).1; omega
      clear hp hpm hrd hrl hcell
      have hL32 : L ≤ 32 := by rw [← HNL.out]; exact (checkB_spec C1.out).2.1
      go_upto_region 11 with (fail)
      clear p0 p1 p2 p4 p5 p6 p7 p8 p9 p10 p11 p12 p13 p14 p15 p16
      have BV := Lib.hid (Below.refl v3.heap.size v3)
      go_wp2_with fail
      go_loopw [7] (fun iv wr => ∃ i : Nat, i ≤ L ∧ iv = .int .i64 (i : Int) ∧ Hid (Below v3.heap.size v3 wr)) (fun iv _ => L - (intOf iv).toNat)
      case atStart => exact ⟨0, Nat.zero_le _, rfl, BV.out⟩
      case round =>
        obtain ⟨i, hi, rfl, HBr⟩ := hrel
        obtain ⟨wo, rfl⟩ : ∃ x, x = wr := ⟨_, rfl⟩
        by_cases hlt : i < L
        · obtain ⟨x, hx⟩ : ∃ x, ls[i]? = some x := ⟨ls[i]'(by rw [← HL.out]; exact hlt), List.getElem?_eq_getElem _⟩
          obtain ⟨lb', lo, rfl, hlb, hlc⟩ := HRL.out i x hx
          obtain ⟨nb, hnb⟩ : ∃ z, z = zN (F i) := ⟨_, rfl⟩
          obtain ⟨nt, hnt⟩ : ∃ z, z = zT (F i) := ⟨_, rfl⟩
          have HKK : Hid (∀ W, Below v3.heap.size v3 W → W.cell? ⟨pc, 3, none⟩ = some (.slice (some ⟨cb, co, none⟩) m cc) ∧ W.cell? ⟨pc, 17, none⟩ = some (.slice (some ⟨lb', lo, none⟩) L lwc) ∧ W.cell? ⟨cb, co, none⟩ = some (.int .u32 (p : Int)) ∧ W.cell? ⟨lb', lo + i, none⟩ = some (.int .i64 x) ∧ W.cell? ⟨g, i * 2, none⟩ = some (.bool nb) ∧ W.cell? ⟨g, i * 2 + 1, none⟩ = some (.string nt)) := fun W hb => by
            have hg := (hG G hb).out
            have hw := (hG GW hb).out
            refine ⟨by simp [World.cell?, hg], by simp [World.cell?, hg], ?_, ?_, ?_, ?_⟩
            · exact (hb.cell (p := ⟨cb, co, none⟩) hcb).trans HCC.out
            · exact (hb.cell (p := ⟨lb', lo + i, none⟩) hlb).trans hlc
            · rw [cell_of_row W g (i * 2) _ _ (0, 0) hw]
              unfold wArr
              rw [wPart_get (by omega), if_pos (by omega), if_pos (by omega), show i * 2 / 2 = i by omega, hnb]
            · rw [cell_of_row W g (i * 2 + 1) _ _ (0, 0) hw]
              unfold wArr
              rw [wPart_get (by omega), if_pos (by omega), if_neg (by omega), show (i * 2 + 1) / 2 = i by omega, hnt]
          obtain ⟨s3, s17, sc, sl, sw0, sw1⟩ := HKK.out wo HBr.out
          have hxr := HLS.out x (List.mem_of_getElem? hx)
          obtain ⟨hh, hhd⟩ : ∃ hh : Nat, hh = (p - 1) / 2 := ⟨_, rfl⟩
          have f1 : IntKind.u32.wrap ((p : Int) - 1) = ((p - 1 : Nat) : Int) := by rw [IntWalk.u32_in _ ⟨by omega, by omega⟩]; omega
          have f2 : IntKind.u32.wrap (((p - 1 : Nat) : Int).tdiv 2) = (hh : Int) := by
            rw [show ((p - 1 : Nat) : Int).tdiv 2 = (hh : Int) from by rw [hhd, Int.tdiv_eq_ediv_of_nonneg (by omega)]; omega]
            exact IntWalk.u32_in _ ⟨by omega, by omega⟩
          have f3 : IntKind.i64.wrap (hh : Int) = (hh : Int) := IntWalk.i64_in _ ⟨by omega, by omega⟩
          have f4 : IntKind.i64.wrap (-(hh : Int)) = -(hh : Int) := IntWalk.i64_in _ ⟨by omega, by omega⟩
          have i1 : (i : Int) < (L : Int) := by omega
          have i2 : (0 : Int) ≤ (i : Int) := by omega
          have i3 : (0 : Int) < (m : Int) := by omega
          have FW2 : Hid (IntKind.i64.wrap (IntKind.u32.wrap (((p - 1 : Nat) : Int) / 2)) = (hh : Int)) := by
            have e : (((p - 1 : Nat) : Int) / 2) = (hh : Int) := by omega
            show _ = _
            rw [e, IntWalk.u32_in _ ⟨by omega, by omega⟩]
            exact IntWalk.i64_in _ ⟨by omega, by omega⟩
          have FW : Hid (IntKind.i64.wrap (-IntKind.i64.wrap (IntKind.u32.wrap (((p - 1 : Nat) : Int) / 2))) = -(hh : Int)) := by
            show _ = _
            rw [FW2.out]
            exact IntWalk.i64_in _ ⟨by omega, by omega⟩
          have HX := Lib.hid hx
          have HXR := Lib.hid hxr
          have HHD := Lib.hid hhd
          have HNB := Lib.hid hnb
          have HNT := Lib.hid hnt
          clear hx hxr hhd hnb hnt hlb hlc
          go_upto_region 14 with (fail)
          as_aux_lemma =>
            have hS0 : ∀ W, Below wo.heap.size wo W → W.cell? ⟨pc, 3, none⟩ = some (.slice (some ⟨cb, co, none⟩) m cc) ∧ W.cell? ⟨pc, 17, none⟩ = some (.slice (some ⟨lb', lo, none⟩) L lwc) ∧ W.cell? ⟨cb, co, none⟩ = some (.int .u32 (p : Int)) ∧ W.cell? ⟨lb', lo + i, none⟩ = some (.int .i64 x) ∧ W.cell? ⟨g, i * 2, none⟩ = some (.bool nb) ∧ W.cell? ⟨g, i * 2 + 1, none⟩ = some (.string nt) := fun W hb => HKK.out W (below_via HBr.out hb)
            refine wp_region_A wo.heap.size (fun W => W.cell? ⟨pc, 3, none⟩ = some (.slice (some ⟨cb, co, none⟩) m cc) ∧ W.cell? ⟨pc, 17, none⟩ = some (.slice (some ⟨lb', lo, none⟩) L lwc) ∧ W.cell? ⟨cb, co, none⟩ = some (.int .u32 (p : Int)) ∧ W.cell? ⟨lb', lo + i, none⟩ = some (.int .i64 x) ∧ W.cell? ⟨g, i * 2, none⟩ = some (.bool nb) ∧ W.cell? ⟨g, i * 2 + 1, none⟩ = some (.string nt)) (fun W => Below wo.heap.size wo W) (fun _ => false) (by kernel_rfl) (by kernel_rfl) (fact_below (Nat.le_refl _) hS0) ((Below.refl _ _).drew) (fun hF => ?_)
            refine wpAnyA_take 0 (v := ?_) (by kernel_rfl) rfl rfl (by kernel_rfl) (by kernel_rfl) (fun _ _ _ h => h) (Or.inl ⟨by rfl, ?_⟩) (by assumption) ?_
            rotate_left
            · (intro wq hSq; (try dsimp only at hSq); go_simp; try with_reducible rfl)
            try simp only [Act.put, List.setIfInBounds_toArray, List.set_cons_zero, List.set_cons_succ]
            refine wpAnyA_take 1 (v := ?_) (by kernel_rfl) rfl rfl (by kernel_rfl) (by kernel_rfl) (fun _ _ _ h => h) (Or.inl ⟨by rfl, ?_⟩) (by assumption) ?_
            rotate_left
            · (intro wq hSq; (try dsimp only at hSq); go_simp; try with_reducible rfl)
            try simp only [Act.put, List.setIfInBounds_toArray, List.set_cons_zero, List.set_cons_succ]
            refine wpAnyA_take 2 (v := ?_) (by kernel_rfl) rfl rfl (by kernel_rfl) (by kernel_rfl) (fun _ _ _ h => h) (Or.inl ⟨by rfl, ?_⟩) (by assumption) ?_
            rotate_left
            · (intro wq hSq; (try dsimp only at hSq); go_simp; try with_reducible rfl)
            try simp only [Act.put, List.setIfInBounds_toArray, List.set_cons_zero, List.set_cons_succ]
            refine wpAnyA_take 3 (v := ?_) (by kernel_rfl) rfl rfl (by kernel_rfl) (by kernel_rfl) (fun _ _ _ h => h) (Or.inl ⟨by rfl, ?_⟩) (by assumption) ?_
            rotate_left
            · (intro wq hSq; (try dsimp only at hSq); go_simp; try with_reducible rfl)
            try simp only [Act.put, List.setIfInBounds_toArray, List.set_cons_zero, List.set_cons_succ]
            refine wpAnyA_take 4 (v := ?_) (by kernel_rfl) rfl rfl (by kernel_rfl) (by kernel_rfl) (fun _ _ _ h => h) (Or.inl ⟨by rfl, ?_⟩) (by assumption) ?_
            rotate_left
            · (intro wq hSq; (try dsimp only at hSq); go_simp; try with_reducible rfl)
            try simp only [Act.put, List.setIfInBounds_toArray, List.set_cons_zero, List.set_cons_succ]
            refine wpAnyA_take 5 (v := ?_) (by kernel_rfl) rfl rfl (by kernel_rfl) (by kernel_rfl) (fun _ _ _ h => h) (Or.inl ⟨by rfl, ?_⟩) (by assumption) ?_
            rotate_left
            · (intro wq hSq; (try dsimp only at hSq); go_simp; try with_reducible rfl)
            try simp only [Act.put, List.setIfInBounds_toArray, List.set_cons_zero, List.set_cons_succ]
            refine wpAnyA_take 6 (v := ?_) (by kernel_rfl) rfl rfl (by kernel_rfl) (by kernel_rfl) (fun _ _ _ h => h) (Or.inl ⟨by rfl, ?_⟩) (by assumption) ?_
            rotate_left
            · (intro wq hSq; (try dsimp only at hSq); go_simp; try with_reducible rfl)
            try simp only [Act.put, List.setIfInBounds_toArray, List.set_cons_zero, List.set_cons_succ]
            refine wpAnyA_take 7 (v := ?_) (by kernel_rfl) rfl rfl (by kernel_rfl) (by kernel_rfl) (fun _ _ _ h => h) (Or.inl ⟨by rfl, ?_⟩) (by assumption) ?_
            rotate_left
            · (intro wq hSq; (try dsimp only at hSq); go_simp; try with_reducible rfl)
            try simp only [Act.put, List.setIfInBounds_toArray, List.set_cons_zero, List.set_cons_succ]
            refine wpAnyA_take 8 (v := ?_) (by kernel_rfl) rfl rfl (by kernel_rfl) (by kernel_rfl) (fun _ _ _ h => h) (Or.inl ⟨by rfl, ?_⟩) (by assumption) ?_
            rotate_left
            · (intro wq hSq; (try dsimp only at hSq); go_simp; try with_reducible rfl)
            try simp only [Act.put, List.setIfInBounds_toArray, List.set_cons_zero, List.set_cons_succ]
            refine wpAnyA_take 9 (v := ?_) (by kernel_rfl) rfl rfl (by kernel_rfl) (by kernel_rfl) (fun _ _ _ h => h) (Or.inl ⟨by rfl, ?_⟩) (by assumption) ?_
            rotate_left
            · (intro wq hSq; (try dsimp only at hSq); go_simp; try with_reducible rfl)
            try simp only [Act.put, List.setIfInBounds_toArray, List.set_cons_zero, List.set_cons_succ]
            refine wpAnyA_take 10 (v := ?_) (by kernel_rfl) rfl rfl (by kernel_rfl) (by kernel_rfl) (fun _ _ _ h => h) (Or.inl ⟨by rfl, ?_⟩) (by assumption) ?_
            rotate_left
            · (intro wq hSq; (try dsimp only at hSq); go_simp; try with_reducible rfl)
            try simp only [Act.put, List.setIfInBounds_toArray, List.set_cons_zero, List.set_cons_succ]
            refine wpAnyA_take 11 (v := ?_) (by kernel_rfl) rfl rfl (by kernel_rfl) (by kernel_rfl) (fun _ _ _ h => h) (Or.inl ⟨by rfl, ?_⟩) (by assumption) ?_
            rotate_left
            · (intro wq hSq; (try dsimp only at hSq); go_simp; try with_reducible rfl)
            try simp only [Act.put, List.setIfInBounds_toArray, List.set_cons_zero, List.set_cons_succ]
            refine wpAnyA_take 12 (v := ?_) (by kernel_rfl) rfl rfl (by kernel_rfl) (by kernel_rfl) (fun _ _ _ h => h) (Or.inl ⟨by rfl, ?_⟩) (by assumption) ?_
            rotate_left
            · (intro wq hSq; (try dsimp only at hSq); go_simp; try with_reducible rfl)
            try simp only [Act.put, List.setIfInBounds_toArray, List.set_cons_zero, List.set_cons_succ]
            refine wpAnyA_take 13 (v := ?_) (by kernel_rfl) rfl rfl (by kernel_rfl) (by kernel_rfl) (fun _ _ _ h => h) (Or.inl ⟨by rfl, ?_⟩) (by assumption) ?_
            rotate_left
            · (intro wq hSq; (try dsimp only at hSq); go_simp; try with_reducible rfl)
            try simp only [Act.put, List.setIfInBounds_toArray, List.set_cons_zero, List.set_cons_succ]
            rcases Decidable.em (-(hh : Int) ≤ x) with t1 | t1
            · as_aux_lemma =>
                refine wpAnyA_take 14 (v := .bool true) (by kernel_rfl) rfl rfl (by kernel_rfl) (by kernel_rfl) (fun _ _ _ h => h) (Or.inl ⟨by rfl, ?_⟩) (by assumption) ?_
                · (intro wq hSq; (try dsimp only at hSq); go_simp; all_goals ((rw [FW.out]; omega)))
                try simp only [Act.put, List.setIfInBounds_toArray, List.set_cons_zero, List.set_cons_succ]
                refine wpAnyA_take 15 (v := ?_) (by kernel_rfl) rfl rfl (by kernel_rfl) (by kernel_rfl) (fun _ _ _ h => h) (Or.inl ⟨by rfl, ?_⟩) (by assumption) ?_
                rotate_left
                · (intro wq hSq; (try dsimp only at hSq); go_simp; try with_reducible rfl)
                try simp only [Act.put, List.setIfInBounds_toArray, List.set_cons_zero, List.set_cons_succ]
                refine wpAnyA_take 16 (v := ?_) (by kernel_rfl) rfl rfl (by kernel_rfl) (by kernel_rfl) (fun _ _ _ h => h) (Or.inl ⟨by rfl, ?_⟩) (by assumption) ?_
                rotate_left
                · (intro wq hSq; (try dsimp only at hSq); go_simp; try with_reducible rfl)
                try simp only [Act.put, List.setIfInBounds_toArray, List.set_cons_zero, List.set_cons_succ]
                refine wpAnyA_take 17 (v := ?_) (by kernel_rfl) rfl rfl (by kernel_rfl) (by kernel_rfl) (fun _ _ _ h => h) (Or.inl ⟨by rfl, ?_⟩) (by assumption) ?_
                rotate_left
                · (intro wq hSq; (try dsimp only at hSq); go_simp; try with_reducible rfl)
                try simp only [Act.put, List.setIfInBounds_toArray, List.set_cons_zero, List.set_cons_succ]
                refine wpAnyA_take 18 (v := ?_) (by kernel_rfl) rfl rfl (by kernel_rfl) (by kernel_rfl) (fun _ _ _ h => h) (Or.inl ⟨by rfl, ?_⟩) (by assumption) ?_
                rotate_left
                · (intro wq hSq; (try dsimp only at hSq); go_simp; try with_reducible rfl)
                try simp only [Act.put, List.setIfInBounds_toArray, List.set_cons_zero, List.set_cons_succ]
                refine wpAnyA_take 19 (v := ?_) (by kernel_rfl) rfl rfl (by kernel_rfl) (by kernel_rfl) (fun _ _ _ h => h) (Or.inl ⟨by rfl, ?_⟩) (by assumption) ?_
                rotate_left
                · (intro wq hSq; (try dsimp only at hSq); go_simp; try with_reducible rfl)
                try simp only [Act.put, List.setIfInBounds_toArray, List.set_cons_zero, List.set_cons_succ]
                refine wpAnyA_take 20 (v := ?_) (by kernel_rfl) rfl rfl (by kernel_rfl) (by kernel_rfl) (fun _ _ _ h => h) (Or.inl ⟨by rfl, ?_⟩) (by assumption) ?_
                rotate_left
                · (intro wq hSq; (try dsimp only at hSq); go_simp; try with_reducible rfl)
                try simp only [Act.put, List.setIfInBounds_toArray, List.set_cons_zero, List.set_cons_succ]
                refine wpAnyA_take 21 (v := ?_) (by kernel_rfl) rfl rfl (by kernel_rfl) (by kernel_rfl) (fun _ _ _ h => h) (Or.inl ⟨by rfl, ?_⟩) (by assumption) ?_
                rotate_left
                · (intro wq hSq; (try dsimp only at hSq); go_simp; try with_reducible rfl)
                try simp only [Act.put, List.setIfInBounds_toArray, List.set_cons_zero, List.set_cons_succ]
                refine wpAnyA_take 22 (v := ?_) (by kernel_rfl) rfl rfl (by kernel_rfl) (by kernel_rfl) (fun _ _ _ h => h) (Or.inl ⟨by rfl, ?_⟩) (by assumption) ?_
                rotate_left
                · (intro wq hSq; (try dsimp only at hSq); go_simp; try with_reducible rfl)
                try simp only [Act.put, List.setIfInBounds_toArray, List.set_cons_zero, List.set_cons_succ]
                refine wpAnyA_take 23 (v := ?_) (by kernel_rfl) rfl rfl (by kernel_rfl) (by kernel_rfl) (fun _ _ _ h => h) (Or.inl ⟨by rfl, ?_⟩) (by assumption) ?_
                rotate_left
                · (intro wq hSq; (try dsimp only at hSq); go_simp; try with_reducible rfl)
                try simp only [Act.put, List.setIfInBounds_toArray, List.set_cons_zero, List.set_cons_succ]
                refine wpAnyA_take 24 (v := ?_) (by kernel_rfl) rfl rfl (by kernel_rfl) (by kernel_rfl) (fun _ _ _ h => h) (Or.inl ⟨by rfl, ?_⟩) (by assumption) ?_
                rotate_left
                · (intro wq hSq; (try dsimp only at hSq); go_simp; try with_reducible rfl)
                try simp only [Act.put, List.setIfInBounds_toArray, List.set_cons_zero, List.set_cons_succ]
                refine wpAnyA_take 25 (v := ?_) (by kernel_rfl) rfl rfl (by kernel_rfl) (by kernel_rfl) (fun _ _ _ h => h) (Or.inl ⟨by rfl, ?_⟩) (by assumption) ?_
                rotate_left
                · (intro wq hSq; (try dsimp only at hSq); go_simp; try with_reducible rfl)
                try simp only [Act.put, List.setIfInBounds_toArray, List.set_cons_zero, List.set_cons_succ]
                refine wpAnyA_take 26 (v := ?_) (by kernel_rfl) rfl rfl (by kernel_rfl) (by kernel_rfl) (fun _ _ _ h => h) (Or.inl ⟨by rfl, ?_⟩) (by assumption) ?_
                rotate_left
                · (intro wq hSq; (try dsimp only at hSq); go_simp; try with_reducible rfl)
                try simp only [Act.put, List.setIfInBounds_toArray, List.set_cons_zero, List.set_cons_succ]
                refine wpAnyA_take 27 (v := ?_) (by kernel_rfl) rfl rfl (by kernel_rfl) (by kernel_rfl) (fun _ _ _ h => h) (Or.inl ⟨by rfl, ?_⟩) (by assumption) ?_
                rotate_left
                · (intro wq hSq; (try dsimp only at hSq); go_simp; try with_reducible rfl)
                try simp only [Act.put, List.setIfInBounds_toArray, List.set_cons_zero, List.set_cons_succ]
                refine wpAnyA_take 28 (v := ?_) (by kernel_rfl) rfl rfl (by kernel_rfl) (by kernel_rfl) (fun _ _ _ h => h) (Or.inl ⟨by rfl, ?_⟩) (by assumption) ?_
                rotate_left
                · (intro wq hSq; (try dsimp only at hSq); go_simp; try with_reducible rfl)
                try simp only [Act.put, List.setIfInBounds_toArray, List.set_cons_zero, List.set_cons_succ]
                rcases Decidable.em (x ≤ (hh : Int)) with t2 | t2
                · skip
                  refine wpAnyA_take 29 (v := .bool true) (by kernel_rfl) rfl rfl (by kernel_rfl) (by kernel_rfl) (fun _ _ _ h => h) (Or.inl ⟨by rfl, ?_⟩) (by assumption) ?_
                  · (intro wq hSq; (try dsimp only at hSq); go_simp; all_goals ((rw [FW2.out]; omega)))
                  try simp only [Act.put, List.setIfInBounds_toArray, List.set_cons_zero, List.set_cons_succ]
                  refine wpAnyA_take 30 (v := ?_) (by kernel_rfl) rfl rfl (by kernel_rfl) (by kernel_rfl) (fun _ _ _ h => h) (Or.inl ⟨by rfl, ?_⟩) (by assumption) ?_
                  rotate_left
                  · (intro wq hSq; (try dsimp only at hSq); go_simp; try with_reducible rfl)
                  try simp only [Act.put, List.setIfInBounds_toArray, List.set_cons_zero, List.set_cons_succ]
                  refine wpAnyA_take 31 (v := ?_) (by kernel_rfl) rfl rfl (by kernel_rfl) (by kernel_rfl) (fun _ _ _ h => h) (Or.inl ⟨by rfl, ?_⟩) (by assumption) ?_
                  rotate_left
                  · (intro wq hSq; (try dsimp only at hSq); go_simp; try with_reducible rfl)
                  try simp only [Act.put, List.setIfInBounds_toArray, List.set_cons_zero, List.set_cons_succ]
                  refine wpAnyA_take 32 (v := ?_) (by kernel_rfl) rfl rfl (by kernel_rfl) (by kernel_rfl) (fun _ _ _ h => h) (Or.inl ⟨by rfl, ?_⟩) (by assumption) ?_
                  rotate_left
                  · (intro wq hSq; (try dsimp only at hSq); go_simp; try with_reducible rfl)
                  try simp only [Act.put, List.setIfInBounds_toArray, List.set_cons_zero, List.set_cons_succ]
                  refine wpAnyA_take 33 (v := ?_) (by kernel_rfl) rfl rfl (by kernel_rfl) (by kernel_rfl) (fun _ _ _ h => h) (Or.inl ⟨by rfl, ?_⟩) (by assumption) ?_
                  rotate_left
                  · (intro wq hSq; (try dsimp only at hSq); go_simp; try with_reducible rfl)
                  try simp only [Act.put, List.setIfInBounds_toArray, List.set_cons_zero, List.set_cons_succ]
                  refine wpAnyA_take 34 (v := ?_) (by kernel_rfl) rfl rfl (by kernel_rfl) (by kernel_rfl) (fun _ _ _ h => h) (Or.inl ⟨by rfl, ?_⟩) (by assumption) ?_
                  rotate_left
                  · (intro wq hSq; (try dsimp only at hSq); go_simp; try with_reducible rfl)
                  try simp only [Act.put, List.setIfInBounds_toArray, List.set_cons_zero, List.set_cons_succ]
                  refine wpAnyA_take 35 (v := ?_) (by kernel_rfl) rfl rfl (by kernel_rfl) (by kernel_rfl) (fun _ _ _ h => h) (Or.inl ⟨by rfl, ?_⟩) (by assumption) ?_
                  rotate_left
                  · (intro wq hSq; (try dsimp only at hSq); go_simp; try with_reducible rfl)
                  try simp only [Act.put, List.setIfInBounds_toArray, List.set_cons_zero, List.set_cons_succ]
                  refine wpAnyA_take 36 (v := ?_) (by kernel_rfl) rfl rfl (by kernel_rfl) (by kernel_rfl) (fun _ _ _ h => h) (Or.inl ⟨by rfl, ?_⟩) (by assumption) ?_
                  rotate_left
                  · (intro wq hSq; (try dsimp only at hSq); go_simp; try with_reducible rfl)
                  try simp only [Act.put, List.setIfInBounds_toArray, List.set_cons_zero, List.set_cons_succ]
                  refine wpAnyA_take 37 (v := ?_) (by kernel_rfl) rfl rfl (by kernel_rfl) (by kernel_rfl) (fun _ _ _ h => h) (Or.inl ⟨by rfl, ?_⟩) (by assumption) ?_
                  rotate_left
                  · (intro wq hSq; (try dsimp only at hSq); go_simp; try with_reducible rfl)
                  try simp only [Act.put, List.setIfInBounds_toArray, List.set_cons_zero, List.set_cons_succ]
                  refine wpAnyA_take 38 (v := ?_) (by kernel_rfl) rfl rfl (by kernel_rfl) (by kernel_rfl) (fun _ _ _ h => h) (Or.inl ⟨by rfl, ?_⟩) (by assumption) ?_
                  rotate_left
                  · (intro wq hSq; (try dsimp only at hSq); go_simp; try with_reducible rfl)
                  try simp only [Act.put, List.setIfInBounds_toArray, List.set_cons_zero, List.set_cons_succ]
                  refine wpAnyA_take 39 (v := ?_) (by kernel_rfl) rfl rfl (by kernel_rfl) (by kernel_rfl) (fun _ _ _ h => h) (Or.inl ⟨by rfl, ?_⟩) (by assumption) ?_
                  rotate_left
                  · (intro wq hSq; (try dsimp only at hSq); go_simp; try with_reducible rfl)
                  try simp only [Act.put, List.setIfInBounds_toArray, List.set_cons_zero, List.set_cons_succ]
                  refine wpAnyA_take 40 (v := ?_) (by kernel_rfl) rfl rfl (by kernel_rfl) (by kernel_rfl) (fun _ _ _ h => h) (Or.inl ⟨by rfl, ?_⟩) (by assumption) ?_
                  rotate_left
                  · (intro wq hSq; (try dsimp only at hSq); go_simp; try with_reducible rfl)
                  try simp only [Act.put, List.setIfInBounds_toArray, List.set_cons_zero, List.set_cons_succ]
                  have hFi : F i = x := by
                    rw [HF.out]
                    have hg0 : ls.getD i 0 = x := by rw [List.getD_eq_getElem?_getD, HX.out]; rfl
                    rw [wC_ints HSY.out (by rw [← HL.out]; exact hlt) (by rw [HML.out]; exact HPM.out) (by rw [hg0]; have := HHD.out; omega), hg0]
                  have HOF : Hid (∀ W, Calls Try.prog 16 #[.int .i64 x] W fun e w' => e = .returned (.agg #[.bool nb, .string nt]) ∧ Below W.heap.size W w') := fun W => by
                    rw [HNB.out, HNT.out, hFi]; exact refOf_z x HXR.out.1 (by have := HXR.out.2; omega) W
                  clear hFi t1 t2
                  refine wpAnyA_step 41 (by kernel_rfl) rfl rfl (fun wq (hFq : Below wo.heap.size wo wq) K hK => ?_)
                  rw [if_pos (by rfl)]
                  go_simp
                  (with_reducible refine (HOF.out wq).mono ?_)
                  rintro e w5 ⟨rfl, hb⟩
                  have hd6 : Below wo.heap.size wo w5 := below_via hFq hb
                  have hF6 : Fact wo.heap.size (fun W => W.cell? ⟨pc, 3, none⟩ = some (.slice (some ⟨cb, co, none⟩) m cc) ∧ W.cell? ⟨pc, 17, none⟩ = some (.slice (some ⟨lb', lo, none⟩) L lwc) ∧ W.cell? ⟨cb, co, none⟩ = some (.int .u32 (p : Int)) ∧ W.cell? ⟨lb', lo + i, none⟩ = some (.int .i64 x) ∧ W.cell? ⟨g, i * 2, none⟩ = some (.bool nb) ∧ W.cell? ⟨g, i * 2 + 1, none⟩ = some (.string nt)) (fun W => Below w5.heap.size w5 W) := fact_below hd6.size (fun W hb => hS0 W (below_via hd6 hb))
                  refine hK.out _ _ hb (fun W => Below w5.heap.size w5 W) hF6 (Below.refl _ _) ?_
                  clear hK K hFq hb hF
                  try simp only [Act.put, List.setIfInBounds_toArray, List.set_cons_zero, List.set_cons_succ]
                  refine wpAnyA_take 42 (v := .bool false) (by kernel_rfl) rfl rfl (by kernel_rfl) (by kernel_rfl) (fun _ _ _ h => h) (Or.inl ⟨by rfl, ?_⟩) (by assumption) ?_
                  · (intro wq hSq; (try dsimp only at hSq); go_simp; all_goals (first | rfl | (simp; done)))
                  try simp only [Act.put, List.setIfInBounds_toArray, List.set_cons_zero, List.set_cons_succ]
                  refine wpAnyA_take 43 (v := ?_) (by kernel_rfl) rfl rfl (by kernel_rfl) (by kernel_rfl) (fun _ _ _ h => h) (Or.inl ⟨by rfl, ?_⟩) (by assumption) ?_
                  rotate_left
                  · (intro wq hSq; (try dsimp only at hSq); go_simp; try with_reducible rfl)
                  try simp only [Act.put, List.setIfInBounds_toArray, List.set_cons_zero, List.set_cons_succ]
                  refine wpAnyA_done (by kernel_rfl) (fun x0 (hFx : Below w5.heap.size w5 x0) => ?_)
                  have HB9 := Lib.hid (below_via (below_via HBr.out hd6) hFx)
                  clear hF6 hS0 hd6 hFx HKK
                  refine wpAny_of_D (S := fun _ => True) (late := fun _ => true) _ _ _ _ ?_
                  refine wpAnyD_end (by kernel_rfl) ?_
                  go_wp2
                  go_roundw
                  case rel => exact ⟨i + 1, by omega, by go_num, HB9.out⟩
                  case measure => simp [intOf]; omega
                · skip
                  refine wpAnyA_take 29 (v := .bool false) (by kernel_rfl) rfl rfl (by kernel_rfl) (by kernel_rfl) (fun _ _ _ h => h) (Or.inl ⟨by rfl, ?_⟩) (by assumption) ?_
                  · (intro wq hSq; (try dsimp only at hSq); go_simp; all_goals ((rw [FW2.out]; omega)))
                  try simp only [Act.put, List.setIfInBounds_toArray, List.set_cons_zero, List.set_cons_succ]
                  refine wpAnyA_take 30 (v := ?_) (by kernel_rfl) rfl rfl (by kernel_rfl) (by kernel_rfl) (fun _ _ _ h => h) (Or.inl ⟨by rfl, ?_⟩) (by assumption) ?_
                  rotate_left
                  · (intro wq hSq; (try dsimp only at hSq); go_simp; try with_reducible rfl)
                  try simp only [Act.put, List.setIfInBounds_toArray, List.set_cons_zero, List.set_cons_succ]
                  refine wpAnyA_take 31 (v := ?_) (by kernel_rfl) rfl rfl (by kernel_rfl) (by kernel_rfl) (fun _ _ _ h => h) (Or.inl ⟨by rfl, ?_⟩) (by assumption) ?_
                  rotate_left
                  · (intro wq hSq; (try dsimp only at hSq); go_simp; try with_reducible rfl)
                  try simp only [Act.put, List.setIfInBounds_toArray, List.set_cons_zero, List.set_cons_succ]
                  refine wpAnyA_take 32 (v := undef) (by kernel_rfl) rfl rfl (by kernel_rfl) (by kernel_rfl) (fun _ _ _ h => h) (Or.inr ⟨by rfl, rfl⟩) (by assumption) ?_
                  try simp only [Act.put, List.setIfInBounds_toArray, List.set_cons_zero, List.set_cons_succ]
                  refine wpAnyA_take 33 (v := undef) (by kernel_rfl) rfl rfl (by kernel_rfl) (by kernel_rfl) (fun _ _ _ h => h) (Or.inr ⟨by rfl, rfl⟩) (by assumption) ?_
                  try simp only [Act.put, List.setIfInBounds_toArray, List.set_cons_zero, List.set_cons_succ]
                  refine wpAnyA_take 34 (v := undef) (by kernel_rfl) rfl rfl (by kernel_rfl) (by kernel_rfl) (fun _ _ _ h => h) (Or.inr ⟨by rfl, rfl⟩) (by assumption) ?_
                  try simp only [Act.put, List.setIfInBounds_toArray, List.set_cons_zero, List.set_cons_succ]
                  refine wpAnyA_take 35 (v := undef) (by kernel_rfl) rfl rfl (by kernel_rfl) (by kernel_rfl) (fun _ _ _ h => h) (Or.inr ⟨by rfl, rfl⟩) (by assumption) ?_
                  try simp only [Act.put, List.setIfInBounds_toArray, List.set_cons_zero, List.set_cons_succ]
                  refine wpAnyA_take 36 (v := undef) (by kernel_rfl) rfl rfl (by kernel_rfl) (by kernel_rfl) (fun _ _ _ h => h) (Or.inr ⟨by rfl, rfl⟩) (by assumption) ?_
                  try simp only [Act.put, List.setIfInBounds_toArray, List.set_cons_zero, List.set_cons_succ]
                  refine wpAnyA_take 37 (v := undef) (by kernel_rfl) rfl rfl (by kernel_rfl) (by kernel_rfl) (fun _ _ _ h => h) (Or.inr ⟨by rfl, rfl⟩) (by assumption) ?_
                  try simp only [Act.put, List.setIfInBounds_toArray, List.set_cons_zero, List.set_cons_succ]
                  refine wpAnyA_take 38 (v := undef) (by kernel_rfl) rfl rfl (by kernel_rfl) (by kernel_rfl) (fun _ _ _ h => h) (Or.inr ⟨by rfl, rfl⟩) (by assumption) ?_
                  try simp only [Act.put, List.setIfInBounds_toArray, List.set_cons_zero, List.set_cons_succ]
                  refine wpAnyA_take 39 (v := undef) (by kernel_rfl) rfl rfl (by kernel_rfl) (by kernel_rfl) (fun _ _ _ h => h) (Or.inr ⟨by rfl, rfl⟩) (by assumption) ?_
                  try simp only [Act.put, List.setIfInBounds_toArray, List.set_cons_zero, List.set_cons_succ]
                  refine wpAnyA_take 40 (v := undef) (by kernel_rfl) rfl rfl (by kernel_rfl) (by kernel_rfl) (fun _ _ _ h => h) (Or.inr ⟨by rfl, rfl⟩) (by assumption) ?_
                  try simp only [Act.put, List.setIfInBounds_toArray, List.set_cons_zero, List.set_cons_succ]
                  refine wpAnyA_take 41 (v := undef) (by kernel_rfl) rfl rfl (by kernel_rfl) (by kernel_rfl) (fun _ _ _ h => h) (Or.inr ⟨by rfl, rfl⟩) (by assumption) ?_
                  try simp only [Act.put, List.setIfInBounds_toArray, List.set_cons_zero, List.set_cons_succ]
                  refine wpAnyA_take 42 (v := undef) (by kernel_rfl) rfl rfl (by kernel_rfl) (by kernel_rfl) (fun _ _ _ h => h) (Or.inr ⟨by rfl, rfl⟩) (by assumption) ?_
                  try simp only [Act.put, List.setIfInBounds_toArray, List.set_cons_zero, List.set_cons_succ]
                  refine wpAnyA_take 43 (v := ?_) (by kernel_rfl) rfl rfl (by kernel_rfl) (by kernel_rfl) (fun _ _ _ h => h) (Or.inl ⟨by rfl, ?_⟩) (by assumption) ?_
                  rotate_left
                  · (intro wq hSq; (try dsimp only at hSq); go_simp; try with_reducible rfl)
                  try simp only [Act.put, List.setIfInBounds_toArray, List.set_cons_zero, List.set_cons_succ]
                  refine wpAnyA_done (by kernel_rfl) (fun x0 (hFx : Below wo.heap.size wo x0) => ?_)
                  have HB9 := Lib.hid (below_via HBr.out hFx)
                  clear hF hS0 hFx HKK
                  refine wpAny_of_D (S := fun _ => True) (late := fun _ => true) _ _ _ _ ?_
                  refine wpAnyD_end (by kernel_rfl) ?_
                  go_wp2
                  go_roundw
                  case rel => exact ⟨i + 1, by omega, by go_num, HB9.out⟩
                  case measure => simp [intOf]; omega
            · as_aux_lemma =>
                refine wpAnyA_take 14 (v := .bool false) (by kernel_rfl) rfl rfl (by kernel_rfl) (by kernel_rfl) (fun _ _ _ h => h) (Or.inl ⟨by rfl, ?_⟩) (by assumption) ?_
                · (intro wq hSq; (try dsimp only at hSq); go_simp; all_goals ((rw [FW.out]; omega)))
                try simp only [Act.put, List.setIfInBounds_toArray, List.set_cons_zero, List.set_cons_succ]
                refine wpAnyA_take 15 (v := ?_) (by kernel_rfl) rfl rfl (by kernel_rfl) (by kernel_rfl) (fun _ _ _ h => h) (Or.inl ⟨by rfl, ?_⟩) (by assumption) ?_
                rotate_left
                · (intro wq hSq; (try dsimp only at hSq); go_simp; try with_reducible rfl)
                try simp only [Act.put, List.setIfInBounds_toArray, List.set_cons_zero, List.set_cons_succ]
                refine wpAnyA_take 16 (v := undef) (by kernel_rfl) rfl rfl (by kernel_rfl) (by kernel_rfl) (fun _ _ _ h => h) (Or.inr ⟨by rfl, rfl⟩) (by assumption) ?_
                try simp only [Act.put, List.setIfInBounds_toArray, List.set_cons_zero, List.set_cons_succ]
                refine wpAnyA_take 17 (v := undef) (by kernel_rfl) rfl rfl (by kernel_rfl) (by kernel_rfl) (fun _ _ _ h => h) (Or.inr ⟨by rfl, rfl⟩) (by assumption) ?_
                try simp only [Act.put, List.setIfInBounds_toArray, List.set_cons_zero, List.set_cons_succ]
                refine wpAnyA_take 18 (v := undef) (by kernel_rfl) rfl rfl (by kernel_rfl) (by kernel_rfl) (fun _ _ _ h => h) (Or.inr ⟨by rfl, rfl⟩) (by assumption) ?_
                try simp only [Act.put, List.setIfInBounds_toArray, List.set_cons_zero, List.set_cons_succ]
                refine wpAnyA_take 19 (v := undef) (by kernel_rfl) rfl rfl (by kernel_rfl) (by kernel_rfl) (fun _ _ _ h => h) (Or.inr ⟨by rfl, rfl⟩) (by assumption) ?_
                try simp only [Act.put, List.setIfInBounds_toArray, List.set_cons_zero, List.set_cons_succ]
                refine wpAnyA_take 20 (v := undef) (by kernel_rfl) rfl rfl (by kernel_rfl) (by kernel_rfl) (fun _ _ _ h => h) (Or.inr ⟨by rfl, rfl⟩) (by assumption) ?_
                try simp only [Act.put, List.setIfInBounds_toArray, List.set_cons_zero, List.set_cons_succ]
                refine wpAnyA_take 21 (v := undef) (by kernel_rfl) rfl rfl (by kernel_rfl) (by kernel_rfl) (fun _ _ _ h => h) (Or.inr ⟨by rfl, rfl⟩) (by assumption) ?_
                try simp only [Act.put, List.setIfInBounds_toArray, List.set_cons_zero, List.set_cons_succ]
                refine wpAnyA_take 22 (v := undef) (by kernel_rfl) rfl rfl (by kernel_rfl) (by kernel_rfl) (fun _ _ _ h => h) (Or.inr ⟨by rfl, rfl⟩) (by assumption) ?_
                try simp only [Act.put, List.setIfInBounds_toArray, List.set_cons_zero, List.set_cons_succ]
                refine wpAnyA_take 23 (v := undef) (by kernel_rfl) rfl rfl (by kernel_rfl) (by kernel_rfl) (fun _ _ _ h => h) (Or.inr ⟨by rfl, rfl⟩) (by assumption) ?_
                try simp only [Act.put, List.setIfInBounds_toArray, List.set_cons_zero, List.set_cons_succ]
                refine wpAnyA_take 24 (v := undef) (by kernel_rfl) rfl rfl (by kernel_rfl) (by kernel_rfl) (fun _ _ _ h => h) (Or.inr ⟨by rfl, rfl⟩) (by assumption) ?_
                try simp only [Act.put, List.setIfInBounds_toArray, List.set_cons_zero, List.set_cons_succ]
                refine wpAnyA_take 25 (v := undef) (by kernel_rfl) rfl rfl (by kernel_rfl) (by kernel_rfl) (fun _ _ _ h => h) (Or.inr ⟨by rfl, rfl⟩) (by assumption) ?_
                try simp only [Act.put, List.setIfInBounds_toArray, List.set_cons_zero, List.set_cons_succ]
                refine wpAnyA_take 26 (v := undef) (by kernel_rfl) rfl rfl (by kernel_rfl) (by kernel_rfl) (fun _ _ _ h => h) (Or.inr ⟨by rfl, rfl⟩) (by assumption) ?_
                try simp only [Act.put, List.setIfInBounds_toArray, List.set_cons_zero, List.set_cons_succ]
                refine wpAnyA_take 27 (v := undef) (by kernel_rfl) rfl rfl (by kernel_rfl) (by kernel_rfl) (fun _ _ _ h => h) (Or.inr ⟨by rfl, rfl⟩) (by assumption) ?_
                try simp only [Act.put, List.setIfInBounds_toArray, List.set_cons_zero, List.set_cons_succ]
                refine wpAnyA_take 28 (v := undef) (by kernel_rfl) rfl rfl (by kernel_rfl) (by kernel_rfl) (fun _ _ _ h => h) (Or.inr ⟨by rfl, rfl⟩) (by assumption) ?_
                try simp only [Act.put, List.setIfInBounds_toArray, List.set_cons_zero, List.set_cons_succ]
                refine wpAnyA_take 29 (v := undef) (by kernel_rfl) rfl rfl (by kernel_rfl) (by kernel_rfl) (fun _ _ _ h => h) (Or.inr ⟨by rfl, rfl⟩) (by assumption) ?_
                try simp only [Act.put, List.setIfInBounds_toArray, List.set_cons_zero, List.set_cons_succ]
                refine wpAnyA_take 30 (v := ?_) (by kernel_rfl) rfl rfl (by kernel_rfl) (by kernel_rfl) (fun _ _ _ h => h) (Or.inl ⟨by rfl, ?_⟩) (by assumption) ?_
                rotate_left
                · (intro wq hSq; (try dsimp only at hSq); go_simp; try with_reducible rfl)
                try simp only [Act.put, List.setIfInBounds_toArray, List.set_cons_zero, List.set_cons_succ]
                refine wpAnyA_take 31 (v := ?_) (by kernel_rfl) rfl rfl (by kernel_rfl) (by kernel_rfl) (fun _ _ _ h => h) (Or.inl ⟨by rfl, ?_⟩) (by assumption) ?_
                rotate_left
                · (intro wq hSq; (try dsimp only at hSq); go_simp; try with_reducible rfl)
                try simp only [Act.put, List.setIfInBounds_toArray, List.set_cons_zero, List.set_cons_succ]
                refine wpAnyA_take 32 (v := undef) (by kernel_rfl) rfl rfl (by kernel_rfl) (by kernel_rfl) (fun _ _ _ h => h) (Or.inr ⟨by rfl, rfl⟩) (by assumption) ?_
                try simp only [Act.put, List.setIfInBounds_toArray, List.set_cons_zero, List.set_cons_succ]
                refine wpAnyA_take 33 (v := undef) (by kernel_rfl) rfl rfl (by kernel_rfl) (by kernel_rfl) (fun _ _ _ h => h) (Or.inr ⟨by rfl, rfl⟩) (by assumption) ?_
                try simp only [Act.put, List.setIfInBounds_toArray, List.set_cons_zero, List.set_cons_succ]
                refine wpAnyA_take 34 (v := undef) (by kernel_rfl) rfl rfl (by kernel_rfl) (by kernel_rfl) (fun _ _ _ h => h) (Or.inr ⟨by rfl, rfl⟩) (by assumption) ?_
                try simp only [Act.put, List.setIfInBounds_toArray, List.set_cons_zero, List.set_cons_succ]
                refine wpAnyA_take 35 (v := undef) (by kernel_rfl) rfl rfl (by kernel_rfl) (by kernel_rfl) (fun _ _ _ h => h) (Or.inr ⟨by rfl, rfl⟩) (by assumption) ?_
                try simp only [Act.put, List.setIfInBounds_toArray, List.set_cons_zero, List.set_cons_succ]
                refine wpAnyA_take 36 (v := undef) (by kernel_rfl) rfl rfl (by kernel_rfl) (by kernel_rfl) (fun _ _ _ h => h) (Or.inr ⟨by rfl, rfl⟩) (by assumption) ?_
                try simp only [Act.put, List.setIfInBounds_toArray, List.set_cons_zero, List.set_cons_succ]
                refine wpAnyA_take 37 (v := undef) (by kernel_rfl) rfl rfl (by kernel_rfl) (by kernel_rfl) (fun _ _ _ h => h) (Or.inr ⟨by rfl, rfl⟩) (by assumption) ?_
                try simp only [Act.put, List.setIfInBounds_toArray, List.set_cons_zero, List.set_cons_succ]
                refine wpAnyA_take 38 (v := undef) (by kernel_rfl) rfl rfl (by kernel_rfl) (by kernel_rfl) (fun _ _ _ h => h) (Or.inr ⟨by rfl, rfl⟩) (by assumption) ?_
                try simp only [Act.put, List.setIfInBounds_toArray, List.set_cons_zero, List.set_cons_succ]
                refine wpAnyA_take 39 (v := undef) (by kernel_rfl) rfl rfl (by kernel_rfl) (by kernel_rfl) (fun _ _ _ h => h) (Or.inr ⟨by rfl, rfl⟩) (by assumption) ?_
                try simp only [Act.put, List.setIfInBounds_toArray, List.set_cons_zero, List.set_cons_succ]
                refine wpAnyA_take 40 (v := undef) (by kernel_rfl) rfl rfl (by kernel_rfl) (by kernel_rfl) (fun _ _ _ h => h) (Or.inr ⟨by rfl, rfl⟩) (by assumption) ?_
                try simp only [Act.put, List.setIfInBounds_toArray, List.set_cons_zero, List.set_cons_succ]
                refine wpAnyA_take 41 (v := undef) (by kernel_rfl) rfl rfl (by kernel_rfl) (by kernel_rfl) (fun _ _ _ h => h) (Or.inr ⟨by rfl, rfl⟩) (by assumption) ?_
                try simp only [Act.put, List.setIfInBounds_toArray, List.set_cons_zero, List.set_cons_succ]
                refine wpAnyA_take 42 (v := undef) (by kernel_rfl) rfl rfl (by kernel_rfl) (by kernel_rfl) (fun _ _ _ h => h) (Or.inr ⟨by rfl, rfl⟩) (by assumption) ?_
                try simp only [Act.put, List.setIfInBounds_toArray, List.set_cons_zero, List.set_cons_succ]
                refine wpAnyA_take 43 (v := ?_) (by kernel_rfl) rfl rfl (by kernel_rfl) (by kernel_rfl) (fun _ _ _ h => h) (Or.inl ⟨by rfl, ?_⟩) (by assumption) ?_
                rotate_left
                · (intro wq hSq; (try dsimp only at hSq); go_simp; try with_reducible rfl)
                try simp only [Act.put, List.setIfInBounds_toArray, List.set_cons_zero, List.set_cons_succ]
                refine wpAnyA_done (by kernel_rfl) (fun x0 (hFx : Below wo.heap.size wo x0) => ?_)
                have HB9 := Lib.hid (below_via HBr.out hFx)
                clear hF hS0 hFx HKK
                refine wpAny_of_D (S := fun _ => True) (late := fun _ => true) _ _ _ _ ?_
                refine wpAnyD_end (by kernel_rfl) ?_
                go_wp2
                go_roundw
                case rel => exact ⟨i + 1, by omega, by go_num, HB9.out⟩
                case measure => simp [intOf]; omega
        · obtain rfl : i = L := by omega
          replace B := Lib.hid (below_via B.out HBr.out)
          clear HBr
          go_wp2_with fail
          (with_reducible refine (HAW.out _).mono ?_)
          rintro e wz ⟨rfl, hb⟩
          go_wp2
          rw [HP.out]
          exact ⟨rfl, below_via B.out hb⟩
end Go.Proofs.Ytkjlfjnncdkmlaa.G
