/- Walks: the reference's weights. -/
import Derived.Test.YtpcpgmgpkegjlaaGH8
import Derived.Test.YtpcpgmgpkegjlaaGJ4
namespace Go
open RowKit
theorem World.owns.froz {w : World} {base g n c : Nat} {e : TypeId} {xs : List Value} (h : w.owns base e 1 (.slice (some ⟨g, 0, none⟩) n c) n xs) (k : Nat) (hk : k < n) : w.frozen? ⟨g, k, none⟩ = false := by
  rcases h.2 with ⟨e1, _⟩ | ⟨g', cap, cur, fz, e1, _, hg, hf, hn, _, hs, _⟩
  · cases e1
  · injection e1 with e1 _ e3
    injection e1 with e1
    injection e1 with e1
    subst e1 e3
    have := hf k (by omega)
    simp only [World.frozen?, hg, Bool.and_eq_false_iff, decide_eq_false_iff_not]
    omega
theorem owns_made (w : World) (e : TypeId) (xs : List Value) (h : xs.length ≤ maxLen) : (w.alloc (.cells xs.toArray e)).owns w.heap.size e 1 (.slice (some ⟨w.heap.size, 0, none⟩) xs.length xs.length) xs.length xs :=
  ⟨by omega, .inr ⟨w.heap.size, xs.length, xs.toArray, (0, 0), rfl, Nat.le_refl _, heap_alloc_new w _, okFz_zero _, Nat.le_refl _, h, by simp, by simp⟩⟩
section
variable {α : Type} {enc : α → Value} {w : World} {base : Nat} {T e : TypeId} {v : Value} {rs : List (List α)}
theorem World.rowsO.pos (h : w.rowsO enc base T e v rs) (hn : 0 < rs.length) : ∃ g c, v = .slice (some ⟨g, 0, none⟩) rs.length c ∧ base ≤ g ∧ g < w.heap.size ∧ rs.length ≤ c ∧ c ≤ 9223372036854775807 := by
  obtain ⟨vs, h1, h2, h3⟩ := h
  obtain ⟨g, c, rfl⟩ := h2.pos hn
  obtain ⟨-, q2, q3, q4, q5⟩ := h2.facts
  exact ⟨g, c, rfl, q3, q5, q2, by unfold maxLen at q4; exact q4⟩
theorem World.rowsO.cellAt {g n c : Nat} (h : w.rowsO enc base T e (.slice (some ⟨g, 0, none⟩) n c) rs) (hn : n = rs.length) (k : Nat) (hk : k < n) : (∃ u, w.cell? ⟨g, k, none⟩ = some u) ∧ w.frozen? ⟨g, k, none⟩ = false := by
  obtain ⟨vs, h1, h2, h3⟩ := h
  subst hn
  exact ⟨⟨vs[k]'(by omega), h2.cell k _ (List.getElem?_eq_getElem _)⟩, h2.froz k hk⟩
theorem World.rowsO.ne {g n c b : Nat} {T' : TypeId} {cs : Array Value} {fz : Nat × Nat} (h : w.rowsO enc base T e (.slice (some ⟨g, 0, none⟩) n c) rs) (hb : w.heap[b]? = some (.cells cs T' fz)) (hT : T' ≠ T) : ¬ g = b := by
  obtain ⟨vs, h1, h2, h3⟩ := h
  intro hgb
  subst hgb
  exact h2.ne hb hT rfl
end
end Go
namespace Go.Proofs.Ytpcpgmgpkegjlaa
open Go.RowKit Go.Shelf Go.BigFrame
theorem elem_store_rowsO {W W6 : World} {b base : Nat} {u0 u1 u2 v : Value} {T e : TypeId} {rs : List (List Nat)} (hW : W6 = ((W.setCell ⟨b, 0, none⟩ u0).setCell ⟨b, 1, none⟩ u1).setCell ⟨b, 2, none⟩ u2) (hO : W.rowsO u32V base T e v rs) (h : b < base) : W6.rowsO u32V base T e v rs := by
  subst hW
  exact ((hO.setCell h _).setCell h _).setCell h _
theorem count_made (N : Int) (chain : List Nat) (sp : Nat) (width : Int) : countB N chain sp width (chain.length : Int) = madeB N chain sp width := by
  unfold countB levB
  cases h : madeB N chain sp width
  · rfl
  · have := (validB_len (madeB_parts h).2.2.1).1
    simp; omega
theorem wrowsTo_length (chain : List Nat) (n t d k : Nat) : (wrowsTo chain n t d k).length = chain.length := by simp [wrowsTo]
theorem zrow_list (n : Nat) : zrow n = (((List.replicate n 0).map u32V)).toArray := by
  unfold zrow; simp [u32V]
set_option maxRecDepth 100000 in
set_option maxHeartbeats 40000000 in
theorem rweight_any (N pr pw wt er : Int) (cv : Value) (chain : List Nat) (sp : Nat) (width i : Int) (w : World) (hr : w.reads w.heap.size cv (chain.map u32V)) (hcb : ∀ q ∈ chain, q < 4294967296) :
    Calls Try.prog 21 #[.agg #[.int .i64 N, .int .u32 pr, .int .i64 pw, cv, .int .u32 (sp : Int), .int .i64 wt, .int .u32 er], .int .i64 width, .int .i64 i] w (WeightPost N chain sp width i w) := by
  obtain ⟨r, hrr⟩ : ∃ r, r = weightB N chain sp width i := ⟨_, rfl⟩
  have hpost : ∀ e w', ((if r then ∃ rv, e = .returned (.tuple #[.agg #[.int .i64 (chain.length : Int), .bool false, rv], .int .i64 0]) ∧ w'.rows u32V w'.heap.size rv (weightRows chain N.toNat ((width * (i % partsI width)).toNat) ((i / partsI width).toNat) chain.length)
    else e = .returned (.tuple #[.agg #[.int .i64 0, .bool false, .slice none 0 0], .int .i64 2])) ∧ Below w.heap.size w w') → WeightPost N chain sp width i w e w' := by
    intro e w' h; unfold WeightPost; rw [← hrr]; exact h
  have HPOST := Lib.hid hpost
  unfold weightB at hrr
  have HR := Lib.hid hrr
  clear hpost hrr
  obtain ⟨a, cap, rfl, hcap, hmx, -⟩ := reads_u32 hr
  obtain ⟨W0, hW0⟩ : ∃ W0, W0 = ((w.alloc (.cells #[.int .i64 N, .int .u32 pr, .int .i64 pw, .slice a chain.length cap, .int .u32 (sp : Int), .int .i64 wt, .int .u32 er] 25)).alloc (.cells #[.int .i64 0, .bool false, .slice none 0 0] 28)) := ⟨_, rfl⟩
  have hB0 : Below w.heap.size w W0 := by rw [hW0]; exact ((Below.refl _ w).alloc (Nat.le_refl _) _).alloc (by simp) _
  have hp0 : W0.heap[w.heap.size]? = some (.cells #[.int .i64 N, .int .u32 pr, .int .i64 pw, .slice a chain.length cap, .int .u32 (sp : Int), .int .i64 wt, .int .u32 er] 25) := by
    rw [hW0, Below.heap_alloc _ _ _ (by simp)]; exact alloc_last _ _ rfl
  have hc0 : W0.heap[w.heap.size + 1]? = some (.cells #[.int .i64 0, .bool false, .slice none 0 0] 28) := by
    rw [hW0]; exact alloc_last _ _ (by simp)
  have hz0 := lt_of_heap hc0
  have HRD : Hid (∀ W, Below W0.heap.size W0 W → W.reads W.heap.size (.slice a chain.length cap) (chain.map u32V)) := Lib.hid (fun W hb => (((hr.below hB0).mono hB0.size).below hb).mono hb.size)
  have HC := rcount_any N pr pw wt er (.slice a chain.length cap) chain sp width (chain.length : Int) W0 (HRD.out W0 (Below.refl _ _)) hcb
  rw [count_made] at HC
  obtain ⟨mb, hmb⟩ : ∃ mb, mb = madeB N chain sp width := ⟨_, rfl⟩
  rw [← hmb] at HC HR
  have HMB := Lib.hid hmb
  have HW0 := Lib.hid hW0
  have HCB := Lib.hid hcb
  obtain ⟨c0, c1, c2, c3, c4, c5, c6⟩ := par_cells hp0
  obtain ⟨k0, k1, k2, z0, z1, z2⟩ := elem_cells hc0
  have HP0 := Lib.hid hp0
  have HE0 := Lib.hid hc0
  have hl0 : w.heap.size < W0.heap.size := by omega
  clear hr hcb hW0 hmb hp0 hc0
  cases mb
  · obtain rfl : r = false := HR.out
    rw [show errI false = 2 from rfl] at HC
    unfold countI at HC
    simp only [Bool.false_eq_true, if_false] at HC
    have HCC := Lib.hid HC
    clear HC
    go_enter Try.func21, Try.ntmps21
    go_upto_region 1 with (fail)
    rw [← HW0.out]
    go_wp2_with fail
    refine HCC.out.mono ?_
    rintro e w1 ⟨rfl, hb⟩
    have hc1 := (hb.block _ hz0).trans HE0.out
    clear k0 k1 k2 z0 z1 z2 c0 c1 c2 c3 c4 c5 c6
    obtain ⟨k0, k1, k2, z0, z1, z2⟩ := elem_cells hc1
    have hB1 := hB0.trans (hb.mono hB0.size)
    clear hc1 hb
    go_wp2
    refine bodyPost_ret (v := .tuple #[.agg #[.int .i64 0, .bool false, .slice none 0 0], .int .i64 2]) ?_ rfl (HPOST.out _ _ ⟨rfl, ?_⟩)
    · simp [results, Try.results21, go_sem, k0, k1, k2]
    · exact ((hB1.setCell (by simp) _).setCell (by simp) _).setCell (by simp) _
  obtain ⟨hw1, hw2, hv, -⟩ := madeB_parts HMB.out.symm
  obtain ⟨n, rfl, hn1, hn2⟩ := sizeB_nat hv
  have h24 := validB_len hv
  rw [show errI true = 0 from rfl] at HC
  unfold countI at HC
  simp only [if_true] at HC
  have hpb := parts_bound hw1 hw2
  obtain ⟨nn, hnn⟩ : ∃ nn, nn = (chain.length : Int) * partsI width := ⟨_, rfl⟩
  rw [← hnn] at HC
  have HNN := Lib.hid hnn
  have HCC := Lib.hid HC
  clear HC hnn
  cases r
  · have hwb : weiB chain.length width i = false := by have := HR.out; simpa using this.symm
    unfold weiB at hwb
    have hi : i < 0 ∨ (¬ i < 0 ∧ nn ≤ i) := by
      rw [HNN.out, Int.mul_comm]
      simp only [Bool.and_eq_false_iff, decide_eq_false_iff_not] at hwb
      omega
    clear hwb
    rcases hi with hi | ⟨hi, hi2⟩
    all_goals
      go_enter Try.func21, Try.ntmps21
      go_upto_region 1 with (fail)
      rw [← HW0.out]
      go_wp2_with fail
      refine HCC.out.mono ?_
      rintro e w1 ⟨rfl, hb⟩
      have hc1 := (hb.block _ hz0).trans HE0.out
      clear k0 k1 k2 z0 z1 z2 c0 c1 c2 c3 c4 c5 c6
      obtain ⟨k0, k1, k2, z0, z1, z2⟩ := elem_cells hc1
      have hB1 := hB0.trans (hb.mono hB0.size)
      clear hc1 hb
      go_wp2
      refine bodyPost_ret (v := .tuple #[.agg #[.int .i64 0, .bool false, .slice none 0 0], .int .i64 2]) ?_ rfl (HPOST.out _ _ ⟨rfl, ?_⟩)
      · simp [results, Try.results21, go_sem, k0, k1, k2]
      · exact ((hB1.setCell (by simp) _).setCell (by simp) _).setCell (by simp) _
  have hwb : weiB chain.length width i = true := by have := HR.out; simpa using this.symm
  unfold weiB at hwb
  simp only [Bool.and_eq_true, decide_eq_true_eq] at hwb
  obtain ⟨hi0, hi1⟩ := hwb
  obtain ⟨iN, rfl⟩ := Int.eq_ofNat_of_zero_le hi0
  obtain ⟨P, d, m, t, hP, hP1, hP2, hd, hm, ht, ht30, hmP, hdE, hmE⟩ := digit_place width hw1 hw2 iN
  have hii : (iN : Int) < nn := by rw [HNN.out, Int.mul_comm]; exact hi1
  have HPA := Lib.hid (fun W => parts_any width hw1 hw2 W)
  rw [hP] at HPA
  obtain ⟨z, hz, -, hz30⟩ := pow30 t ht30
  have HPOW := Lib.hid (fun W => power_any t (by omega) W)
  rw [← hz] at HPOW
  have hpost2 : ∀ e w', ((∃ rv, e = .returned (.tuple #[.agg #[.int .i64 (chain.length : Int), .bool false, rv], .int .i64 0]) ∧ w'.rows u32V w'.heap.size rv (weightRows chain n t d chain.length)) ∧ Below w.heap.size w w') → WeightPost (n : Int) chain sp width (iN : Int) w e w' := by
    intro e w' h
    refine HPOST.out e w' ?_
    rw [if_pos rfl, hP, hm, hd, ht]
    simpa using h
  have HPOST2 := Lib.hid hpost2
  have hvl : placeB chain sp (chain.length : Int) false = true := placeB_ok h24.1 (Nat.le_refl _)
  have HF := Lib.hid (fun W (hb : Below W0.heap.size W0 W) lw (hl : W.reads W.heap.size lw ((weightInts n t).map i64V)) => (rfromInts_any (n : Int) pr pw wt er (.slice a chain.length cap) chain sp (chain.length : Int) false lw (weightInts n t) W (HRD.out W hb) hl (by
    intro x hx
    unfold weightInts at hx
    rcases List.mem_cons.1 hx with rfl | hx
    · obtain ⟨z, hz, -, h30⟩ := pow30 t ht30
      rw [← hz]; omega
    · rw [List.mem_replicate] at hx; omega)).mono fun e w' h => h.yes (rs := wrowsTo chain n t d 0) (by unfold intsB preB; rw [hv, hvl, weightInts_length n t (by omega)]; simp) (by rw [Int.toNat_natCast, modl_all, wrowsTo_zero]))
  have hmk := make_i64 n (by omega)
  have hmk3 := make_u32 n (by omega)
  have hlen := weightInts_length n t (by omega)
  have HW64 := Lib.hid (fun (W : World) => reads_alloc_new W ((weightInts n t).map i64V) 2 n (by rw [List.length_map, hlen]; exact Nat.le_refl _) (by unfold maxLen; omega))
  rw [List.length_map, hlen] at HW64
  have hset := zrow64_set n t (by omega)
  rw [← hz] at hset
  have HSET := Lib.hid hset
  clear hset hz
  have hz00 : (zrow64 n)[0]? = some (.int .i64 0) := zrow64_get0 n (by omega)
  have hdB : d ≤ 400 := by
    rw [hdE]
    have h1 := Nat.div_le_self iN P
    have : (P : Int) * (chain.length : Int) ≤ 16 * 24 := Int.mul_le_mul (by omega) (by omega) (by omega) (by omega)
    rw [hP] at hi1
    omega
  have HV := Lib.hid hv
  have HPE := Lib.hid hP
  have hI0 : ¬ (iN : Int) < 0 := by omega
  have hI1 : ¬ nn ≤ (iN : Int) := by omega
  have HGP : Hid (∀ W, Below W0.heap.size W0 W → W.heap[w.heap.size]? = some (.cells #[.int .i64 (n : Int), .int .u32 pr, .int .i64 pw, .slice a chain.length cap, .int .u32 (sp : Int), .int .i64 wt, .int .u32 er] 25)) := Lib.hid (fun W hb => (hb.block _ hl0).trans HP0.out)
  clear hpost2 HPOST hv hvl hdE hmE hi1 hP hlen hpb HR
  go_enter Try.func21, Try.ntmps21
  go_upto_region 1 with (fail)
  rw [← HW0.out]
  go_wp2_with fail
  refine HCC.out.mono ?_
  rintro e w1 ⟨rfl, hb1⟩
  clear k0 k1 k2 z0 z1 z2 c0 c1 c2 c3 c4 c5 c6
  have hg1 := HGP.out w1 hb1
  obtain ⟨c0, c1, c2, c3, c4, c5, c6⟩ := par_cells hg1
  have hs1 := hb1.size
  have l1 : w.heap.size < w1.heap.size := by omega
  clear hg1
  go_wp2_with fail
  refine (HPA.out _).mono ?_
  rintro e w2 ⟨rfl, rfl⟩
  go_wp2_with fail
  refine (HPOW.out _).mono ?_
  rintro e w2 ⟨rfl, rfl⟩
  go_upto_region 6 with (fail)
  obtain ⟨W3, hW3⟩ : ∃ W, W = w1.alloc (.cells ((zrow64 n).setIfInBounds 0 (.int .i64 (z : Int))) 2) := ⟨_, rfl⟩
  have hl3 : W3.reads W3.heap.size (.slice (some ⟨w1.heap.size, 0, none⟩) n n) ((weightInts n t).map i64V) := by
    rw [hW3, HSET.out, World.size_alloc]; exact HW64.out w1
  have hb3 : Below w1.heap.size w1 W3 := by rw [hW3]; exact (Below.refl _ _).alloc (Nat.le_refl _) _
  have hz3 : w1.heap.size < W3.heap.size := by rw [hW3]; simp
  rw [← hW3]
  have hB3 : Below W0.heap.size W0 W3 := hb1.trans (hb3.mono hs1)
  have hg3 := HGP.out W3 hB3
  have hC := HF.out W3 hB3 _ hl3
  clear hW3 hl3 c0 c1 c2 c3 c4 c5 c6
  obtain ⟨c0, c1, c2, c3, c4, c5, c6⟩ := par_cells hg3
  have l3 : w.heap.size < W3.heap.size := by omega
  clear hg3
  go_wp2_with fail
  refine hC.mono ?_
  rintro e w4 ⟨rv, rfl, hO4, hb4⟩
  obtain ⟨g, gc, rfl, hg1, hg2, hg3, hg4⟩ := hO4.pos (by rw [wrowsTo_length]; omega)
  rw [wrowsTo_length] at hO4 hg3 ⊢
  clear hC c0 c1 c2 c3 c4 c5 c6
  go_upto_region 7 with (fail)
  obtain ⟨W4, hW4⟩ : ∃ W, W = w4.alloc (.cells #[.int .i64 (chain.length : Int), .bool false, .slice (some ⟨g, 0, none⟩) chain.length gc] 28) := ⟨_, rfl⟩
  have g4 : W4.heap[w4.heap.size]? = some (.cells #[.int .i64 (chain.length : Int), .bool false, .slice (some ⟨g, 0, none⟩) chain.length gc] 28) := by rw [hW4]; exact alloc_last _ _ rfl
  have hr4 : Below W3.heap.size W3 W4 := by rw [hW4]; exact hb4.alloc hb4.size _
  have hO4' : W4.rowsO u32V W3.heap.size 23 22 (.slice (some ⟨g, 0, none⟩) chain.length gc) (wrowsTo chain n t d 0) := by rw [hW4]; exact hO4.below ((Below.refl _ _).alloc (Nat.le_refl _) _)
  rw [← hW4]
  have hs4 := hb4.size
  have hz4 := lt_of_heap g4
  have hgb : ¬ g = w4.heap.size := by omega
  have hgb2 : ¬ w4.heap.size = g := by omega
  have hgp : ¬ g = w.heap.size := by omega
  have hgp2 : ¬ w.heap.size = g := by omega
  clear hW4 hO4 hb4
  go_wp2_with fail
  go_loopw [13] (fun ii wr => ∃ k : Nat, k ≤ chain.length ∧ ii = .int .i64 (k : Int) ∧ Hid (wr.heap[w4.heap.size]? = some (.cells #[.int .i64 (chain.length : Int), .bool false, .slice (some ⟨g, 0, none⟩) chain.length gc] 28)) ∧ Hid (wr.rowsO u32V W3.heap.size 23 22 (.slice (some ⟨g, 0, none⟩) chain.length gc) (wrowsTo chain n t d k)) ∧ Below W3.heap.size W3 wr ∧ W4.heap.size ≤ wr.heap.size) (fun ii _ => chain.length - (intOf ii).toNat)
  case atStart => exact ⟨0, Nat.zero_le _, rfl, g4, hO4', hr4, Nat.le_refl _⟩
  case round =>
    obtain ⟨k, hk, rfl, hge, hO, hBr, hsr⟩ := hrel
    clear g4 hO4'
    have hB := hB3.trans (hBr.mono hB3.size)
    have hgp' := HGP.out wr hB
    have lX : w.heap.size < wr.heap.size := by omega
    have lY : w4.heap.size < wr.heap.size := by omega
    have lG : g < wr.heap.size := by omega
    obtain ⟨c0, c1, c2, c3, c4, c5, c6⟩ := par_cells hgp'
    clear hgp'
    by_cases hlt : k < chain.length
    · go_wp2_with fail
      refine (HPA.out _).mono ?_
      rintro e w5 ⟨rfl, rfl⟩
      by_cases hkd : k = d
      · have hb1' : ((k : Int) != (d : Int)) = false := by rw [hkd]; simp
        have HKD := Lib.hid hkd
        clear hkd
        go_wp2
        go_roundw
        case rel => exact ⟨k + 1, by omega, by go_num, hge, by have h := hO.out; rw [← HKD.out] at h ⊢; rw [wrowsTo_here]; exact h, hBr, hsr⟩
        case measure => simp [intOf]; omega
      · have hb1' : ((k : Int) != (d : Int)) = true := by simp; omega
        have HKD := Lib.hid hkd
        obtain ⟨⟨u, hu⟩, hfu⟩ := hO.out.cellAt (by rw [wrowsTo_length]) k hlt
        obtain ⟨e0, e1, e2, -, -, -⟩ := elem_cells hge.out
        clear hkd
        go_upto_region 11 with (fail)
        have hn1 : ¬ wr.heap.size = g := by omega
        have hn2 : ¬ g = wr.heap.size := by omega
        go_region_held3 (fun w' => w'.cell? ⟨w4.heap.size, 2, none⟩ = some (.slice (some ⟨g, 0, none⟩) chain.length gc) ∧ w'.cell? ⟨w.heap.size, 0, none⟩ = some (.int .i64 (n : Int)))
          (first | go_keep | exact ⟨e2, c0⟩)
          (fail)
        go_wp2
        go_roundw
        case rel =>
          have hal := hO.out.below ((Below.refl _ wr).alloc (Nat.le_refl _) (.cells (zrow n) 22))
          have hown : (wr.alloc (.cells (zrow n) 22)).owns W3.heap.size 22 1 (.slice (some ⟨wr.heap.size, 0, none⟩) n n) (List.replicate n 0).length ((List.replicate n 0).map u32V) := by
            rw [zrow_list]
            have h := owns_made wr 22 ((List.replicate n 0).map u32V) (by simp; unfold maxLen; omega)
            simp only [List.length_map, List.length_replicate] at h ⊢
            exact h.mono (by omega)
          have hset := hal.set (by decide) k hown
          rw [← wrowsTo_there chain n t d k hlt HKD.out, World.setCell_alloc_past _ _ _ _ lG] at hset
          refine ⟨k + 1, by omega, by go_num, ?_, ?_, ?_, ?_⟩
          · exact (Below.heap_alloc (wr.setCell ⟨g, k, none⟩ (.slice (some ⟨wr.heap.size, 0, none⟩) n n)) _ _ (by simpa using lY)).trans ((Below.heap_setCell wr ⟨g, k, none⟩ _ _ hgb2).trans hge.out)
          · exact hset
          · exact ((hBr.setCell (p := ⟨g, k, none⟩) hg1 _).alloc (by simp; omega) _).drew
          · simp; omega
        case measure => simp [intOf]; omega
    · obtain rfl : k = chain.length := by omega
      obtain ⟨e0, e1, e2, -, -, -⟩ := elem_cells hge.out
      have hc3 := (hB.block (w.heap.size + 1) hz0).trans HE0.out
      obtain ⟨k0, k1, k2, z0, z1, z2⟩ := elem_cells hc3
      have HC3 := Lib.hid hc3
      have lR : w.heap.size + 1 < wr.heap.size := lt_of_heap hc3
      clear hc3
      go_wp2
      obtain ⟨W6, hW6⟩ : ∃ W6, W6 = ((wr.setCell ⟨w.heap.size + 1, 0, none⟩ (.int .i64 (chain.length : Int))).setCell ⟨w.heap.size + 1, 1, none⟩ (.bool false)).setCell ⟨w.heap.size + 1, 2, none⟩ (.slice (some ⟨g, 0, none⟩) chain.length gc) := ⟨_, rfl⟩
      obtain ⟨h6, -, hB6⟩ := elem_store HC3.out hW6
      obtain ⟨j0, j1, j2, -, -, -⟩ := elem_cells h6
      have hO6 := (elem_store_rowsO hW6 hO.out (by omega)).rows
      rw [wrowsTo_all] at hO6
      rw [← hW6]
      refine bodyPost_ret (v := .tuple #[.agg #[.int .i64 (chain.length : Int), .bool false, .slice (some ⟨g, 0, none⟩) chain.length gc], .int .i64 0]) ?_ rfl (HPOST2.out _ _ ⟨⟨_, rfl, hO6⟩, ?_⟩)
      · simp [results, Try.results21, go_sem, j0, j1, j2]
      · exact hB6 _ _ (hB0.trans (hB.mono hB0.size)) (by omega)
end Go.Proofs.Ytpcpgmgpkegjlaa
