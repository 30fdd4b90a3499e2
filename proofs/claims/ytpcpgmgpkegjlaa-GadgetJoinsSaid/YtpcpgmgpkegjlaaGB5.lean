/- Walks: the weights. -/
import Derived.Test.YtpcpgmgpkegjlaaGB4
namespace Go.Proofs.Ytpcpgmgpkegjlaa
open Go.RowKit Go.Shelf Go.BigFrame
theorem pow30 (t : Nat) (h : t ≤ 30) : ∃ z : Nat, z = 2 ^ t ∧ (2 : Int) ^ t = (z : Int) ∧ z ≤ 1073741824 := by
  refine ⟨2 ^ t, rfl, by simp, ?_⟩
  have := Nat.pow_le_pow_right (show 0 < 2 by decide) h
  have h2 : (2 : Nat) ^ 30 = 1073741824 := by decide
  omega
theorem zrow_get0 (n : Nat) (hn : 1 ≤ n) : (zrow n)[0]? = some (.int .u32 0) := by
  obtain ⟨m, rfl⟩ : ∃ m, n = m + 1 := ⟨n - 1, by omega⟩
  unfold zrow; simp [List.replicate_succ]
theorem elem_cells {w : World} {b : Nat} {v0 v1 v2 : Value} {t : TypeId} (h : w.heap[b]? = some (.cells #[v0, v1, v2] t)) :
    w.cell? ⟨b, 0, none⟩ = some v0 ∧ w.cell? ⟨b, 1, none⟩ = some v1 ∧ w.cell? ⟨b, 2, none⟩ = some v2 ∧ w.frozen? ⟨b, 0, none⟩ = false ∧ w.frozen? ⟨b, 1, none⟩ = false ∧ w.frozen? ⟨b, 2, none⟩ = false := by
  refine ⟨?_, ?_, ?_, ?_, ?_, ?_⟩ <;> first | (simp [World.cell?, h]; done) | (simp [World.frozen?, h]; done)
set_option maxRecDepth 100000 in
set_option maxHeartbeats 8000000 in
theorem Weight_any (N pr pw wt er : Int) (cv : Value) (chain : List Nat) (sp : Nat) (width i : Int) (w : World) (hr : w.reads w.heap.size cv (chain.map u32V)) (hcb : ∀ q ∈ chain, q < 4294967296) :
    Calls Try.prog 20 #[.agg #[.int .i64 N, .int .u32 pr, .int .i64 pw, cv, .int .u32 (sp : Int), .int .i64 wt, .int .u32 er], .int .i64 width, .int .i64 i] w (WeightPost N chain sp width i w) := by
  obtain ⟨W0, hW0⟩ : ∃ W0, W0 = ((w.alloc (.cells #[.int .i64 N, .int .u32 pr, .int .i64 pw, cv, .int .u32 (sp : Int), .int .i64 wt, .int .u32 er] 25)).alloc (.cells #[.int .i64 0, .bool false, .slice none 0 0] 28)) := ⟨_, rfl⟩
  have hB0 : Below w.heap.size w W0 := by rw [hW0]; exact ((Below.refl _ w).alloc (Nat.le_refl _) _).alloc (by simp) _
  have hp0 : W0.heap[w.heap.size]? = some (.cells #[.int .i64 N, .int .u32 pr, .int .i64 pw, cv, .int .u32 (sp : Int), .int .i64 wt, .int .u32 er] 25) := by
    rw [hW0, Below.heap_alloc _ _ _ (by simp)]; exact alloc_last _ _ rfl
  have hc0 : W0.heap[w.heap.size + 1]? = some (.cells #[.int .i64 0, .bool false, .slice none 0 0] 28) := by
    rw [hW0]; exact alloc_last _ _ (by simp)
  have hz0 := lt_of_heap hc0
  have hr0 := (hr.below hB0).mono hB0.size
  have HA := Lib.hid (asked_weight N pr pw wt er cv chain sp width i w.heap.size W0 hr0 hcb hp0)
  obtain ⟨r, hrr⟩ : ∃ r, r = weightB N chain sp width i := ⟨_, rfl⟩
  have hpost : ∀ e w', ((if r then ∃ rv, e = .returned (.tuple #[.agg #[.int .i64 (chain.length : Int), .bool false, rv], .int .i64 0]) ∧ w'.rows u32V w'.heap.size rv (weightRows chain N.toNat ((width * (i % partsI width)).toNat) ((i / partsI width).toNat) chain.length)
    else e = .returned (.tuple #[.agg #[.int .i64 0, .bool false, .slice none 0 0], .int .i64 2])) ∧ Below w.heap.size w w') → WeightPost N chain sp width i w e w' := by
    intro e w' h; unfold WeightPost; rw [← hrr]; exact h
  have HPOST := Lib.hid hpost
  unfold weightB at hrr
  have HR := Lib.hid hrr
  clear hpost hrr
  have HW0 := Lib.hid hW0
  have HP0 := Lib.hid hp0
  have HCB := Lib.hid hcb
  have HRD := Lib.hid hr0
  obtain ⟨a, cap, rfl, hcap, hmx, hsh⟩ := reads_u32 hr0
  have HS := Lib.hid hsh
  clear hsh hr hr0 hcb hW0
  obtain ⟨mb, hmb⟩ : ∃ mb, mb = madeB N chain sp width := ⟨_, rfl⟩
  rw [← hmb] at HA HR
  have HMB := Lib.hid hmb
  clear hmb
  unfold AskedPost at HA
  cases mb
  · obtain rfl : r = false := HR.out
    clear hp0
    go_enter Try.func20, Try.ntmps20
    go_wp2_with fail
    rw [← HW0.out]
    refine HA.out.mono ?_
    rintro e w1 ⟨h, hb⟩
    obtain rfl : e = _ := h
    have hc1 := (hb.block _ hz0).trans hc0
    obtain ⟨k0, k1, k2, z0, z1, z2⟩ := elem_cells hc1
    have hB1 := hB0.trans (hb.mono hB0.size)
    clear hc0 hb
    go_wp2
    refine bodyPost_ret (v := .tuple #[.agg #[.int .i64 0, .bool false, .slice none 0 0], .int .i64 2]) ?_ rfl (HPOST.out _ _ ⟨rfl, ?_⟩)
    · simp [results, Try.results20, go_sem, k0, k1, k2]
    · exact ((hB1.setCell (by simp) _).setCell (by simp) _).setCell (by simp) _
  · obtain ⟨hw1, hw2, hv, -⟩ := madeB_parts HMB.out.symm
    obtain ⟨n, rfl, hn1, hn2⟩ := sizeB_nat hv
    have h24 := validB_len hv
    have hcg := chain_ge hv
    clear hv
    cases r
    · have hwb : weiB chain.length width i = false := by have := HR.out; simpa using this.symm
      rw [hwb] at HA
      clear hp0 hwb
      go_enter Try.func20, Try.ntmps20
      go_wp2_with fail
      rw [← HW0.out]
      refine HA.out.mono ?_
      rintro e w1 ⟨h, hb⟩
      rw [if_pos trivial] at h
      obtain ⟨b, rfl, -, -⟩ := h
      have hc1 := (hb.block _ hz0).trans hc0
      obtain ⟨k0, k1, k2, z0, z1, z2⟩ := elem_cells hc1
      have hB1 := hB0.trans (hb.mono hB0.size)
      clear hc0 hb hcg
      go_wp2
      refine bodyPost_ret (v := .tuple #[.agg #[.int .i64 0, .bool false, .slice none 0 0], .int .i64 2]) ?_ rfl (HPOST.out _ _ ⟨rfl, ?_⟩)
      · simp [results, Try.results20, go_sem, k0, k1, k2]
      · exact ((hB1.setCell (by simp) _).setCell (by simp) _).setCell (by simp) _
    · have hwb : weiB chain.length width i = true := by have := HR.out; simpa using this.symm
      rw [hwb] at HA
      unfold weiB at hwb
      simp only [Bool.and_eq_true, decide_eq_true_eq] at hwb
      obtain ⟨hi0, hi1⟩ := hwb
      obtain ⟨iN, rfl⟩ := Int.eq_ofNat_of_zero_le hi0
      obtain ⟨P, d, m, t, hP, hP1, hP2, hd, hm, ht, ht30, hmP, hdE, hmE⟩ := digit_place width hw1 hw2 iN
      have hpost2 : ∀ e w', ((∃ rv, e = .returned (.tuple #[.agg #[.int .i64 (chain.length : Int), .bool false, rv], .int .i64 0]) ∧ w'.rows u32V w'.heap.size rv (weightRows chain n t d chain.length)) ∧ Below w.heap.size w w') → WeightPost (n : Int) chain sp width (iN : Int) w e w' := by
        intro e w' h
        refine HPOST.out e w' ?_
        rw [if_pos rfl, hP, hm, hd, ht]
        simpa using h
      have HPOST2 := Lib.hid hpost2
      clear hpost2 HPOST
      rw [hP] at hi1
      have hmk := make_u32 n (by omega)
      obtain ⟨i0, hii0, hiz, hiz1, hizb⟩ := info_parts infoRow
      have hiB : iN ≤ 16 * 24 := by
        have : (P : Int) * (chain.length : Int) ≤ 16 * 24 := Int.mul_le_mul (by omega) (by omega) (by omega) (by omega)
        omega
      have hdB : d ≤ 400 := by rw [hdE]; have := Nat.div_le_self iN P; omega
      clear hdE hmE hi0 hi1
      go_enter Try.func20, Try.ntmps20
      go_wp2_with fail
      rw [← HW0.out]
      refine HA.out.mono ?_
      rintro e w1 ⟨h, hb⟩
      rw [if_pos trivial] at h
      obtain ⟨b, rfl, hwbB, hcut⟩ := h
      have hc1 := (hb.block _ hz0).trans hc0
      have hp1 := (hb.block _ (by omega)).trans hp0
      obtain ⟨-, d1, d2⟩ := AskedPost.lev hcut
      rw [hP] at d2
      have hB1 := hB0.trans (hb.mono hB0.size)
      have hs1 := hb.size
      have hbl := lt_of_heap hcut
      obtain ⟨p0, -, -, p3, -, -, -⟩ := par_cells hp1
      have hlt1 : w.heap.size < w1.heap.size := by omega
      have hlt2 : w.heap.size + 1 < w1.heap.size := by omega
      have HCUT := Lib.hid hcut
      have HC1 := Lib.hid hc1
      have HP1 := Lib.hid hp1
      have hcr : ∀ b' o, b' < W0.heap.size → w1.cell? ⟨b', o, none⟩ = W0.cell? ⟨b', o, none⟩ := fun b' o h => hb.cell (p := ⟨b', o, none⟩) h
      have HCR := Lib.hid hcr
      have HPD := Lib.hid hP
      have HCG := Lib.hid hcg
      clear hc0 hp0 hcut hc1 hp1 hb hP hcr hcg
      go_wp2
      obtain ⟨W2, hW2⟩ : ∃ W2, W2 = w1.alloc (.cells #[.int .i64 (chain.length : Int), .bool false, .slice none 0 0] 28) := ⟨_, rfl⟩
      have hO2 : OutI (w1.heap.size + 1) w1.heap.size n (chain.length : Int) false (weightRows chain n t d 0) W2 := by
        rw [hW2]; exact ⟨_, [], alloc_last _ _ rfl, World.owns_nil _ _ _ _, RowsL.nil _ _ _⟩
      have hB2 : Below w1.heap.size w1 W2 := by rw [hW2]; exact (Below.refl _ _).alloc (Nat.le_refl _) _
      have hz2 : w1.heap.size + 1 ≤ W2.heap.size := by rw [hW2]; simp
      rw [← hW2]
      clear hW2
      go_loopw [30] (fun ii wr => ∃ k : Nat, k ≤ chain.length ∧ ii = .int .i64 (k : Int) ∧ OutI (w1.heap.size + 1) w1.heap.size n (chain.length : Int) false (weightRows chain n t d k) wr ∧ Below w1.heap.size w1 wr ∧ w1.heap.size + 1 ≤ wr.heap.size) (fun ii _ => chain.length - (intOf ii).toNat)
      case atStart => exact ⟨0, Nat.zero_le _, rfl, hO2, hB2, hz2⟩
      case round =>
        obtain ⟨k, hk, rfl, hO, hBr, hsr⟩ := hrel
        obtain ⟨hcw, hfw⟩ := bcell hBr
        obtain ⟨sa, sc, vs, o1, o2, o3⟩ := hO.open_
        have hlr := weightRows_length chain n t d k
        have o1' := o1
        rw [hlr] at o1'
        obtain ⟨-, -, e2, -, -, f2⟩ := elem_cells o1'
        have HO1 := Lib.hid o1
        have HO3 := Lib.hid o3
        have o2' := o2
        rw [hlr] at o2'
        have HO2 := Lib.hid o2
        have HO2' := Lib.hid o2'
        have HLR := Lib.hid hlr
        clear hO o1 o1' o2 o2' o3 hlr hO2 hB2
        by_cases hlt : k < chain.length
        · obtain ⟨q, hq⟩ : ∃ x, chain[k]? = some x := ⟨chain[k]'hlt, List.getElem?_eq_getElem _⟩
          obtain ⟨b', off, rfl, hbl', hc0⟩ := HS.out k q hq
          have hc : wr.cell? ⟨b', off + k, none⟩ = some (.int .u32 (q : Int)) := by
            rw [hcw _ _ (by omega), HCR.out _ _ hbl']; exact hc0
          have hqb := HCB.out q (List.mem_of_getElem? hq)
          have HQ3 := HCG.out q (List.mem_of_getElem? hq)
          have HQ := Lib.hid (weightRows_succ chain n t d k q hq)
          clear hq hc0
          have s1 : w1.heap.size < wr.heap.size := by omega
          have sb : b < wr.heap.size := by omega
          have sw : w.heap.size < wr.heap.size := by omega
          have sn1 : ¬ w1.heap.size = wr.heap.size := by omega
          have sn2 : ¬ wr.heap.size = w1.heap.size := by omega
          by_cases hkd : k = d
          · have hb1 : ((k : Int) == (d : Int)) = true := by rw [hkd]; simp
            have hq3 := (HQ3).1
            have hq0 : ((q : Int) == 0) = false := by rw [beq_eq_false_iff_ne]; omega
            obtain ⟨z, hzE, hzI, hz30⟩ := pow30 t ht30
            have HZE := Lib.hid hzE
            clear hzE
            have hz00 : (zrow n)[0]? = some (.int .u32 0) := zrow_get0 n (by omega)
            have HKD := Lib.hid hkd
            have HROW := Lib.hid (show (zrow n).setIfInBounds 0 (.int .u32 ((z : Int) % (q : Int) % 4294967296)) = ((weightRow n q t true).map u32V).toArray by
              rw [← zrow_set n q t (by omega), ← HZE.out]
              congr 2
              have : z % q < q := Nat.mod_lt _ (by omega)
              omega)
            clear hkd
            go_wp2_with (at_builtin; refine wpList_append1 (wr.alloc (.cells ((zrow n).setIfInBounds 0 (.int .u32 ((z : Int) % (q : Int) % 4294967296))) 22)) rfl (.tmp 62) (.tmp 64) 26 rfl (w1.heap.size + 1) 23 i0 (.slice none 0 0) 24 Try.underlying26 hii0 hiz hiz1 hizb rfl _ k vs rfl (HO2'.out.alloc _) (.slice (some ⟨wr.heap.size, 0, none⟩) n n) (wr.heap.size + 1) (World.size_alloc _ _) rfl rfl (by unfold maxLen; omega) (by omega) (by rw [World.size_alloc]; omega) ?_; intro v4 W4 hown4 hg4a hg4 hz4; obtain ⟨h14, ⟨g4, c4, rfl⟩, hO4, hBB⟩ := out_push HO1.out HO2.out HO3.out (by omega) (by omega) ((Below.refl _ wr).alloc (Nat.le_refl _) _) (weightRow n q t true) wr.heap.size (Nat.le_refl _) (by rw [← HROW.out]; exact alloc_last _ _ rfl) (by rw [HLR.out]; exact hown4) (by rw [HLR.out]; exact hg4); obtain ⟨-, -, e24, -, -, f24⟩ := elem_cells h14)
            go_wp2
            go_roundw
            case rel => exact ⟨k + 1, by omega, by go_num, by rw [HQ.out, show (k == d) = true by rw [HKD.out]; simp]; exact hO4, hBB _ _ hBr (by omega) (by omega), by simp at hz4 ⊢; omega⟩
            case measure => simp [intOf]; omega
          · have hb1 : ((k : Int) == (d : Int)) = false := by rw [beq_eq_false_iff_ne]; omega
            have HKD := Lib.hid hkd
            have HROW := Lib.hid (show zrow n = ((weightRow n q t false).map u32V).toArray from (zrow_there n q t).symm)
            clear hkd
            go_wp2_with (at_builtin; refine wpList_append1 (wr.alloc (.cells (zrow n) 22)) rfl (.tmp 62) (.tmp 64) 26 rfl (w1.heap.size + 1) 23 i0 (.slice none 0 0) 24 Try.underlying26 hii0 hiz hiz1 hizb rfl _ k vs rfl (HO2'.out.alloc _) (.slice (some ⟨wr.heap.size, 0, none⟩) n n) (wr.heap.size + 1) (World.size_alloc _ _) rfl rfl (by unfold maxLen; omega) (by omega) (by rw [World.size_alloc]; omega) ?_; intro v4 W4 hown4 hg4a hg4 hz4; obtain ⟨h14, ⟨g4, c4, rfl⟩, hO4, hBB⟩ := out_push HO1.out HO2.out HO3.out (by omega) (by omega) ((Below.refl _ wr).alloc (Nat.le_refl _) _) (weightRow n q t false) wr.heap.size (Nat.le_refl _) (by rw [← HROW.out]; exact alloc_last _ _ rfl) (by rw [HLR.out]; exact hown4) (by rw [HLR.out]; exact hg4); obtain ⟨-, -, e24, -, -, f24⟩ := elem_cells h14)
            go_wp2
            go_roundw
            case rel => exact ⟨k + 1, by omega, by go_num, by rw [HQ.out, show (k == d) = false by have := HKD.out; simpa using this]; exact hO4, hBB _ _ hBr (by omega) (by omega), by simp at hz4 ⊢; omega⟩
            case measure => simp [intOf]; omega
        · obtain rfl : k = chain.length := by omega
          have hc3 := (hBr.block (w.heap.size + 1) (by omega)).trans HC1.out
          obtain ⟨k0, k1, k2, z0, z1, z2⟩ := elem_cells hc3
          have hz3 := lt_of_heap hc3
          obtain ⟨e0', e1', e2', f0', f1', f2'⟩ := elem_cells HO1.out
          have hHC3 := Lib.hid hc3
          clear hc3 e2 f2 hcw hfw
          go_wp2
          obtain ⟨W6, hW6⟩ : ∃ W6, W6 = ((wr.setCell ⟨w.heap.size + 1, 0, none⟩ (.int .i64 (chain.length : Int))).setCell ⟨w.heap.size + 1, 1, none⟩ (.bool false)).setCell ⟨w.heap.size + 1, 2, none⟩ (.slice sa (weightRows chain n t d chain.length).length sc) := ⟨_, rfl⟩
          obtain ⟨h6, hs6, hB6⟩ := elem_store hHC3.out hW6
          obtain ⟨j0, j1, j2, -, -, -⟩ := elem_cells h6
          rw [← hW6]
          refine bodyPost_ret (v := .tuple #[.agg #[.int .i64 (chain.length : Int), .bool false, .slice sa (weightRows chain n t d chain.length).length sc], .int .i64 0]) ?_ rfl (HPOST2.out _ _ ⟨⟨_, rfl, ?_⟩, ?_⟩)
          · simp [results, Try.results20, go_sem, j0, j1, j2]
          · exact rows_at HO2.out HO3.out (by unfold maxLen; omega) (by
              intro r hr
              unfold weightRows at hr
              rw [List.mem_map] at hr
              obtain ⟨j, _, rfl⟩ := hr
              exact weightRow_length _ _ _ _ (by omega)) (fun g hg => hs6 g (by omega))
          · exact hB6 _ _ (hB1.trans (hBr.mono (by omega))) (by omega)
end Go.Proofs.Ytpcpgmgpkegjlaa
