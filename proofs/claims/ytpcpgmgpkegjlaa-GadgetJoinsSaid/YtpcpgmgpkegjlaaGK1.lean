/- Walks: the reference's Join. -/
import Derived.Test.YtpcpgmgpkegjlaaGH9
import Derived.Test.YtpcpgmgpkegjlaaGJ5
import Derived.Test.YtpcpgmgpkegjlaaGH5
import Derived.Test.YtpcpgmgpkegjlaaGH6
namespace Go.Proofs.Ytpcpgmgpkegjlaa
open Go.RowKit Go.Shelf Go.BigFrame
theorem weight_yesJ {N : Int} {chain : List Nat} {sp : Nat} {width i : Int} {w w' : World} {e : Ending} {rs : List (List Nat)} (h : WeightPost N chain sp width i w e w') (h1 : weightB N chain sp width i = true) (h2 : weightRows chain N.toNat ((width * (i % partsI width)).toNat) ((i / partsI width).toNat) chain.length = rs) :
    ∃ rv, e = .returned (.tuple #[.agg #[.int .i64 (chain.length : Int), .bool false, rv], .int .i64 0]) ∧ w'.rows u32V w'.heap.size rv rs ∧ Below w.heap.size w w' := by
  subst h2
  obtain ⟨h3, h4⟩ := h
  rw [h1, if_pos rfl] at h3
  obtain ⟨rv, h5, h6⟩ := h3
  exact ⟨rv, h5, h6, h4⟩
theorem stored_elemJ {W w4 : World} {b B : Nat} {u0 u1 u2 v0 v1 v2 : Value} (hg : W.heap[b]? = some (.cells #[u0, u1, u2] 28)) (hb : Below B W w4) (hbB : b < B) : (((w4.setCell ⟨b, 0, none⟩ v0).setCell ⟨b, 1, none⟩ v1).setCell ⟨b, 2, none⟩ v2).heap[b]? = some (.cells #[v0, v1, v2] 28) := (elem_store ((hb.block _ hbB).trans hg) rfl).1
theorem joinB_count (N : Int) (chain : List Nat) (sp : Nat) (width level : Int) (ls : List (List Int)) : joinB N chain sp width level ls = (countB N chain sp width level && decide ((ls.length : Int) = level * partsI width) && ls.all (fun d => decide ((d.length : Int) = N))) := rfl
set_option maxRecDepth 100000 in
set_option maxHeartbeats 40000000 in
theorem rjoin_any (N pr pw wt er : Int) (cv : Value) (chain : List Nat) (sp : Nat) (width level : Int) (lw : Value) (ls : List (List Int)) (w : World) (hr : w.reads w.heap.size cv (chain.map u32V)) (hcb : ∀ q ∈ chain, q < 4294967296) (hls : w.rows i64V w.heap.size lw ls)
    (hlb : ∀ l ∈ ls, ∀ x ∈ l, -9223372036854775808 ≤ x ∧ x ≤ 9223372036854775807) (hl64 : ls.length ≤ 64) :
    Calls Try.prog 22 #[.agg #[.int .i64 N, .int .u32 pr, .int .i64 pw, cv, .int .u32 (sp : Int), .int .i64 wt, .int .u32 er], .int .i64 width, .int .i64 level, lw] w (JoinPost N chain sp width level ls w) := by
  obtain ⟨r, hrr⟩ : ∃ r, r = joinB N chain sp width level ls := ⟨_, rfl⟩
  have hpost : ∀ e w', ((if r then ∃ rv, e = .returned (.tuple #[.agg #[.int .i64 level, .bool false, rv], .int .i64 0]) ∧ w'.rows u32V w'.heap.size rv (joinRows chain ls N.toNat (partsI width).toNat width level.toNat)
    else e = .returned (.tuple #[.agg #[.int .i64 0, .bool false, .slice none 0 0], .int .i64 2])) ∧ Below w.heap.size w w') → JoinPost N chain sp width level ls w e w' := by
    intro e w' h; unfold JoinPost; rw [← hrr]; exact h
  have HPOST := Lib.hid hpost
  rw [joinB_count] at hrr
  have HR := Lib.hid hrr
  clear hpost hrr
  obtain ⟨a, cap, rfl, hcap, hmx, -⟩ := reads_u32 hr
  obtain ⟨va, vc, rfl, hvc1, hvc2, hvs⟩ := hls.shape
  obtain ⟨W0, hW0⟩ : ∃ W0, W0 = ((w.alloc (.cells #[.int .i64 N, .int .u32 pr, .int .i64 pw, .slice a chain.length cap, .int .u32 (sp : Int), .int .i64 wt, .int .u32 er] 25)).alloc (.cells #[.int .i64 0, .bool false, .slice none 0 0] 28)) := ⟨_, rfl⟩
  have hB0 : Below w.heap.size w W0 := by rw [hW0]; exact ((Below.refl _ w).alloc (Nat.le_refl _) _).alloc (by simp) _
  have hp0 : W0.heap[w.heap.size]? = some (.cells #[.int .i64 N, .int .u32 pr, .int .i64 pw, .slice a chain.length cap, .int .u32 (sp : Int), .int .i64 wt, .int .u32 er] 25) := by
    rw [hW0, Below.heap_alloc _ _ _ (by simp)]; exact alloc_last _ _ rfl
  have hc0 : W0.heap[w.heap.size + 1]? = some (.cells #[.int .i64 0, .bool false, .slice none 0 0] 28) := by
    rw [hW0]; exact alloc_last _ _ (by simp)
  have hz0 := lt_of_heap hc0
  have HRD : Hid (∀ W, Below W0.heap.size W0 W → W.reads W.heap.size (.slice a chain.length cap) (chain.map u32V)) := Lib.hid (fun W hb => (((hr.below hB0).mono hB0.size).below hb).mono hb.size)
  have HC := rcount_any N pr pw wt er (.slice a chain.length cap) chain sp width level W0 (HRD.out W0 (Below.refl _ _)) hcb
  obtain ⟨cb, hcbE⟩ : ∃ cb, cb = countB N chain sp width level := ⟨_, rfl⟩
  rw [← hcbE] at HC HR
  have HCBE := Lib.hid hcbE
  obtain ⟨m, hm⟩ : ∃ m, m = ls.length := ⟨_, rfl⟩
  rw [← hm] at hvc1 hl64 HR ⊢
  have HM := Lib.hid hm
  have HVS := Lib.hid hvs
  have HLB := Lib.hid hlb
  have HW0 := Lib.hid hW0
  have HCB := Lib.hid hcb
  obtain ⟨c0, c1, c2, c3, c4, c5, c6⟩ := par_cells hp0
  obtain ⟨k0, k1, k2, z0, z1, z2⟩ := elem_cells hc0
  have HP0 := Lib.hid hp0
  have HE0 := Lib.hid hc0
  have hl0 : w.heap.size < W0.heap.size := by omega
  clear hr hcb hW0 hcbE hm hvs hlb hp0 hc0 hls
  cases cb
  · obtain rfl : r = false := by rw [HR.out]; rfl
    rw [show errI false = 2 from rfl] at HC
    unfold countI at HC
    simp only [Bool.false_eq_true, if_false] at HC
    have HCC := Lib.hid HC
    clear HC
    go_enter Try.func22, Try.ntmps22
    go_upto_region 1 with (fail)
    rw [← HW0.out]
    go_wp2_with fail
    refine HCC.out.mono ?_
    rintro e w1 ⟨rfl, hb1⟩
    have hc1 := (hb1.block _ hz0).trans HE0.out
    clear k0 k1 k2 z0 z1 z2 c0 c1 c2 c3 c4 c5 c6
    obtain ⟨k0, k1, k2, z0, z1, z2⟩ := elem_cells hc1
    have hB1 := hB0.trans (hb1.mono hB0.size)
    clear hc1
    go_wp2
    refine bodyPost_ret (v := .tuple #[.agg #[.int .i64 0, .bool false, .slice none 0 0], .int .i64 2]) ?_ rfl (HPOST.out _ _ ⟨rfl, ?_⟩)
    · simp [results, Try.results22, go_sem, k0, k1, k2]
    · exact ((hB1.setCell (by simp) _).setCell (by simp) _).setCell (by simp) _
  have hcB := HCBE.out.symm
  unfold countB at hcB
  rw [Bool.and_eq_true] at hcB
  obtain ⟨hmade, hlev⟩ := hcB
  obtain ⟨hw1, hw2, hv, -⟩ := madeB_parts hmade
  obtain ⟨n, rfl, hn1, hn2⟩ := sizeB_nat hv
  have h24 := validB_len hv
  unfold levB at hlev
  simp only [Bool.and_eq_true, decide_eq_true_eq] at hlev
  obtain ⟨hlv1, hlv2⟩ := hlev
  obtain ⟨lv, rfl⟩ := Int.eq_ofNat_of_zero_le (show 0 ≤ level by omega)
  rw [show errI true = 0 from rfl] at HC
  unfold countI at HC
  simp only [if_true] at HC
  obtain ⟨nn, hnn⟩ : ∃ nn, nn = (lv : Int) * partsI width := ⟨_, rfl⟩
  rw [← hnn] at HC HR
  have HNN := Lib.hid hnn
  have HCC := Lib.hid HC
  have HMADE := Lib.hid hmade
  clear HC hnn hv hmade
  by_cases hmn : (m : Int) = nn
  case neg =>
    obtain rfl : r = false := by rw [HR.out]; simp [hmn]
    have t1 : ((m : Int) != nn) = true := by simpa using hmn
    go_enter Try.func22, Try.ntmps22
    go_upto_region 1 with (fail)
    rw [← HW0.out]
    go_wp2_with fail
    refine HCC.out.mono ?_
    rintro e w1 ⟨rfl, hb1⟩
    have hc1 := (hb1.block _ hz0).trans HE0.out
    clear k0 k1 k2 z0 z1 z2 c0 c1 c2 c3 c4 c5 c6
    obtain ⟨k0, k1, k2, z0, z1, z2⟩ := elem_cells hc1
    have hB1 := hB0.trans (hb1.mono hB0.size)
    clear hc1
    clear hmn
    go_wp2
    refine bodyPost_ret (v := .tuple #[.agg #[.int .i64 0, .bool false, .slice none 0 0], .int .i64 2]) ?_ rfl (HPOST.out _ _ ⟨rfl, ?_⟩)
    · simp [results, Try.results22, go_sem, k0, k1, k2]
    · exact ((hB1.setCell (by simp) _).setCell (by simp) _).setCell (by simp) _
  subst hmn
  have HR2 : Hid (r = ls.all (fun d => decide ((d.length : Int) = (n : Int)))) := by show _ = _; rw [HR.out]; simp
  clear HR
  have hmk := make_i64 n (by omega)
  go_enter Try.func22, Try.ntmps22
  go_upto_region 1 with (fail)
  rw [← HW0.out]
  go_wp2_with fail
  refine HCC.out.mono ?_
  rintro e w1 ⟨rfl, hb1⟩
  have hc1 := (hb1.block _ hz0).trans HE0.out
  clear k0 k1 k2 z0 z1 z2 c0 c1 c2 c3 c4 c5 c6
  obtain ⟨k0, k1, k2, z0, z1, z2⟩ := elem_cells hc1
  have hB1 := hB0.trans (hb1.mono hB0.size)
  clear hc1
  have hs1 := hb1.size
  have hgp := (hb1.block _ hl0).trans HP0.out
  obtain ⟨c0, c1, c2, c3, c4, c5, c6⟩ := par_cells hgp
  have l1 : w.heap.size < w1.heap.size := by omega
  have l1' : w.heap.size + 1 < w1.heap.size := by omega
  have HVS1 : Hid (∀ (j : Nat) (r : List Int), ls[j]? = some r → ∃ b off b2 c2, va = some ⟨b, off, none⟩ ∧ b < w.heap.size ∧ w1.cell? ⟨b, off + j, none⟩ = some (.slice b2 r.length c2)) := by
    intro j r hj
    obtain ⟨b, off, b2, c2, h1, h2, h3, -⟩ := HVS.out j r hj
    exact ⟨b, off, b2, c2, h1, h2, (hB1.cell (p := ⟨b, off + j, none⟩) h2).trans h3⟩
  clear hgp
  have HB1 := Lib.hid hB1
  clear hB1
  go_wp2_with fail
  go_loopw [12] (fun ii wr => ∃ k d : Nat, k ≤ m ∧ ii = .int .i64 (k : Int) ∧ wr = w1.drewN d ∧ Hid ((ls.take k).all (fun d => decide ((d.length : Int) = (n : Int))) = true)) (fun ii _ => m - (intOf ii).toNat)
  case atStart => exact ⟨0, 0, Nat.zero_le _, rfl, rfl, by show _ = _; simp⟩
  case round =>
    obtain ⟨k, d0, hk, rfl, rfl, hak⟩ := hrel
    by_cases hlt : k < m
    · obtain ⟨x, hx⟩ : ∃ x, ls[k]? = some x := ⟨ls[k]'(by rw [← HM.out]; exact hlt), List.getElem?_eq_getElem _⟩
      obtain ⟨b', off, xb2, xc2, rfl, hbl', hcx⟩ := HVS1.out k x hx
      have HX := Lib.hid hx
      obtain ⟨xl, hxl⟩ : ∃ xl, xl = x.length := ⟨_, rfl⟩
      rw [← hxl] at hcx
      have HXL := Lib.hid hxl
      have i1 : (0 : Int) ≤ (k : Int) := by omega
      have i2 : (k : Int) < (m : Int) := by omega
      clear hx hxl
      by_cases hxn : xl = n
      · have t2 : ((xl : Int) != (n : Int)) = false := by rw [hxn]; simp
        have HXN : Hid (x.length = n) := by show _ = _; rw [← HXL.out]; exact hxn
        clear hxn
        go_upto_region 7 with (fail)
        go_quiet (fail)
        go_wp2
        go_roundw
        case rel => exact ⟨k + 1, _, by omega, by go_num, by first | rfl | exact World.drewN_drewN _ _ _, by show _ = _; rw [all_take_succ _ _ _ _ HX.out, hak.out, HXN.out]; simp⟩
        case measure => simp [intOf]; omega
      · have t2 : ((xl : Int) != (n : Int)) = true := by rw [bne_iff_ne]; omega
        obtain rfl : r = false := by
          rw [HR2.out, List.all_eq_false]
          exact ⟨x, List.mem_of_getElem? HX.out, by rw [← HXL.out]; simp; omega⟩
        clear hxn
        go_upto_region 7 with (fail)
        go_quiet (fail)
        go_wp2
        refine bodyPost_ret (v := .tuple #[.agg #[.int .i64 0, .bool false, .slice none 0 0], .int .i64 2]) ?_ rfl (HPOST.out _ _ ⟨rfl, ?_⟩)
        · simp [results, Try.results22, go_sem, k0, k1, k2]
        · have hB1 := HB1.out
          repeat (with_reducible first | apply below_drewN | apply Below.drew | refine Below.setCell ?_ (by first | (simp; done) | omega | (simp; omega)) _ | assumption | exact Below.refl _ _)
    · obtain rfl : k = m := by omega
      have hak2 := hak.out
      rw [HM.out, List.take_length] at hak2
      obtain rfl : r = true := by rw [HR2.out]; exact hak2
      have hlsn : ∀ l ∈ ls, l.length = n := by
        intro l hl
        rw [List.all_eq_true] at hak2
        have := hak2 l hl
        simp at this
        omega
      clear hak hak2 HR2 c0 c1 c2 c3 c4 c5 c6 k0 k1 k2 z0 z1 z2
      obtain ⟨Wt, R, I, T, S, hi1, hi2, hth, hf3⟩ := join_plan HMADE.out (show 1 ≤ lv by omega) (show lv ≤ chain.length by omega) (by rw [← HM.out]; exact HNN.out) hlsn
      rw [← HM.out] at hth hf3
      have hpost2 : ∀ e w', ((∃ rv, e = .returned (.tuple #[.agg #[.int .i64 (lv : Int), .bool false, rv], .int .i64 0]) ∧ w'.rows u32V w'.heap.size rv (S k)) ∧ Below w.heap.size w w') → JoinPost (n : Int) chain sp width (lv : Int) ls w e w' := by
        intro e w' h
        refine HPOST.out e w' ?_
        rw [if_pos rfl, Int.toNat_natCast, Int.toNat_natCast, ← hf3]
        exact h
      have HPOST2 := Lib.hid hpost2
      have HF0 := Lib.hid (fun W (hb : Below W0.heap.size W0 W) lw (hl : W.reads W.heap.size lw ((List.replicate n 0).map i64V)) => (rfromInts_any (n : Int) pr pw wt er (.slice a chain.length cap) chain sp (lv : Int) false lw (List.replicate n 0) W (HRD.out W hb) hl (fun x hx => by rw [List.mem_replicate] at hx; omega)).mono fun e w' h => h.yes hi1 hi2)
      have HWT := Lib.hid (fun W (hb : Below W0.heap.size W0 W) (i : Nat) (hi : i < k) => (rweight_any (n : Int) pr pw wt er (.slice a chain.length cap) chain sp width (i : Int) W (HRD.out W hb) HCB.out).mono fun e w' h => weight_yesJ h (hth i hi).w1 (hth i hi).w2)
      have HRS := Lib.hid (fun W (hb : Below W0.heap.size W0 W) (i : Nat) (hi : i < k) v hv => (restrict_any (n : Int) pr pw wt er (.slice a chain.length cap) chain sp (chain.length : Int) false v (Wt i) (lv : Int) W (HRD.out W hb) hv).mono fun e w' h => h.yes (hth i hi).r1 (hth i hi).r2)
      have HFI := Lib.hid (fun W (hb : Below W0.heap.size W0 W) (i : Nat) (hi : i < k) l (hl : ls[i]? = some l) v hv => (rfromInts_any (n : Int) pr pw wt er (.slice a chain.length cap) chain sp (lv : Int) false v l W (HRD.out W hb) hv (HLB.out l (List.mem_of_getElem? hl))).mono fun e w' h => h.yes ((hth i hi).d1 l hl).1 ((hth i hi).d1 l hl).2)
      have HM2 := Lib.hid (fun W (hb : Below W0.heap.size W0 W) (i : Nat) (hi : i < k) v u hv hu => (rmul_any (n : Int) pr pw wt er (.slice a chain.length cap) chain sp (lv : Int) (lv : Int) false false v u (R i) (I i) W (HRD.out W hb) hv hu).mono fun e w' h => h.yes (hth i hi).p1 (hth i hi).p2)
      have HAD := Lib.hid (fun W (hb : Below W0.heap.size W0 W) (i : Nat) (hi : i < k) v u hv hu => (radd_any (n : Int) pr pw wt er (.slice a chain.length cap) chain sp (lv : Int) (lv : Int) false false v u (S i) (T i) W (HRD.out W hb) hv hu).mono fun e w' h => h.yes (hth i hi).s1 (hth i hi).s2)
      have HGP : Hid (∀ W, Below W0.heap.size W0 W → W.heap[w.heap.size]? = some (.cells #[.int .i64 (n : Int), .int .u32 pr, .int .i64 pw, .slice a chain.length cap, .int .u32 (sp : Int), .int .i64 wt, .int .u32 er] 25)) := Lib.hid (fun W hb => (hb.block _ hl0).trans HP0.out)
      clear hpost2 HPOST hi1 hi2 hth hf3 hlsn hlt hk
      go_upto_region 9 with (fail)
      obtain ⟨w3, hw3⟩ : ∃ W, W = w1.drewN d0 := ⟨_, rfl⟩
      have hB3 : Below W0.heap.size W0 w3 := by rw [hw3]; exact below_drewN hb1 _
      rw [← hw3]
      clear hw3 HVS1
      have hs3 := hB3.size
      have l3 : w.heap.size < w3.heap.size := by omega
      have l3' : w.heap.size + 1 < w3.heap.size := by omega
      have hgp := HGP.out w3 hB3
      obtain ⟨c0, c1, c2, c3, c4, c5, c6⟩ := par_cells hgp
      clear hgp
      have hp1 : w.heap.size < w3.heap.size + 1 := by omega
      have hp2 : w.heap.size < w3.heap.size + 1 + 1 := by omega
      have hpn0 : ¬ w.heap.size = w3.heap.size := by omega
      have hpn1 : ¬ w.heap.size = w3.heap.size + 1 := by omega
      have hpm0 : ¬ w3.heap.size = w.heap.size := by omega
      have hpm1 : ¬ w3.heap.size + 1 = w.heap.size := by omega
      have HZ3 := Lib.hid (show ((w3.alloc (.cells #[.int .i64 0, .bool false, .slice none 0 0] 28)).alloc (.cells (zrow64 n) 2)).reads ((w3.alloc (.cells #[.int .i64 0, .bool false, .slice none 0 0] 28)).alloc (.cells (zrow64 n) 2)).heap.size (.slice (some ⟨w3.heap.size + 1, 0, none⟩) n n) ((List.replicate n 0).map i64V) by have h := z_reads n (by omega) (w3.alloc (.cells #[.int .i64 0, .bool false, .slice none 0 0] 28)); rw [World.size_alloc w3] at h; exact h)
      go_cut [13, 14] (fun p5 e6 wx => ∃ (b5 : Nat) (sv : Value), p5 = .pointer (some ⟨b5, 0, none⟩) ∧ w3.heap.size ≤ b5 ∧ Hid (wx.heap[b5]? = some (.cells #[.int .i64 (lv : Int), .bool false, sv] 28)) ∧ Hid (wx.rowsO u32V w3.heap.size 23 22 sv (S 0)) ∧ Below w3.heap.size w3 wx)
      case first =>
        go_region_held3 (fun w' => w'.cell? ⟨w.heap.size, 0, none⟩ = some (.int .i64 (n : Int)) ∧ w'.cell? ⟨w.heap.size, 1, none⟩ = some (.int .u32 pr) ∧ w'.cell? ⟨w.heap.size, 2, none⟩ = some (.int .i64 pw) ∧ w'.cell? ⟨w.heap.size, 3, none⟩ = some (.slice a chain.length cap) ∧ w'.cell? ⟨w.heap.size, 4, none⟩ = some (.int .u32 (sp : Int)) ∧ w'.cell? ⟨w.heap.size, 5, none⟩ = some (.int .i64 wt) ∧ w'.cell? ⟨w.heap.size, 6, none⟩ = some (.int .u32 er))
          (first | go_keep | exact ⟨c0, c1, c2, c3, c4, c5, c6⟩)
          (first
            | (go_simp; go_at_call 24; refine (HF0.out _ (by repeat (with_reducible first | apply below_drewN | apply Below.drew | refine Below.setCell ?_ (by first | (simp; done) | omega | (simp; omega)) _ | refine Below.alloc ?_ (by first | omega | (simp; done) | (simp; omega)) _ | assumption | exact Below.refl _ _)) _ (by first | exact z_reads n (by omega) _ | exact ((z_reads n (by omega) w3).alloc (Nat.le_refl _) _).mono (by simp) | exact HZ3.out)).mono ?_; rintro e w4 ⟨sv, rfl, hO4, hb4⟩; obtain ⟨sa4, sc4, rfl⟩ := hO4.open_; obtain ⟨hc1, hf1⟩ := bcell hb4; have hbW : Below w3.heap.size w3 w4 := (by first | exact (((Below.refl _ w3).alloc (Nat.le_refl _) _).drew).trans (hb4.mono (by simp; done)) | exact ((((Below.refl _ w3).alloc (Nat.le_refl _) _).alloc (by simp) _).drew).trans (hb4.mono (by simp; omega))); have hs4 := hbW.size; have HO4 := Lib.hid hO4; have HB4 := Lib.hid hb4; clear hO4 hb4))
        all_goals
          go_wp2
          go_meet
          case rel =>
            refine ⟨_, .slice sa4 (S 0).length sc4, rfl, by omega, ?_, ?_, ?_⟩
            · first
                | exact alloc_last _ _ rfl
                | exact stored_elemJ (by first | exact alloc_last _ _ rfl | exact alloc_last _ _ (by simp) | exact (Below.heap_alloc _ _ _ (by simp)).trans (alloc_last _ _ rfl)) HB4.out (by first | (simp; done) | (simp; omega))
            · first
                | exact (HO4.out.below ((Below.refl _ _).alloc (Nat.le_refl _) _)).mono (by first | (simp; done) | (simp; omega))
                | exact (elem_store_rowsO rfl HO4.out (by first | (simp; done) | (simp; omega))).mono (by first | (simp; done) | (simp; omega))
            · repeat (with_reducible first | apply below_drewN | apply Below.drew | refine Below.setCell ?_ (by first | (simp; done) | omega | (simp; omega)) _ | refine Below.alloc ?_ (by first | omega | (simp; done) | (simp; omega)) _ | assumption | exact Below.refl _ _)
      case rest =>
        obtain ⟨b5, sv0, rfl, hb5, hE0, hS0, hB35⟩ := hcut
        clear c0 c1 c2 c3 c4 c5 c6 hpm0 hpm1 hpn0 hpn1 hp1 hp2
        go_wp2_with fail
        go_loopw [15] (fun ii wr => ∃ (i : Nat) (sv : Value), i ≤ k ∧ ii = .int .i64 (i : Int) ∧ Hid (wr.heap[b5]? = some (.cells #[.int .i64 (lv : Int), .bool false, sv] 28)) ∧ Hid (wr.rowsO u32V w3.heap.size 23 22 sv (S i)) ∧ Below w3.heap.size w3 wr) (fun ii _ => k - (intOf ii).toNat)
        case atStart => exact ⟨0, sv0, Nat.zero_le _, rfl, hE0, hS0, hB35⟩
        case round =>
          obtain ⟨i, sv, hik, rfl, hgs, hrs, hBr⟩ := hrel
          clear hE0 hS0 hB35
          have hBX : Below W0.heap.size W0 wr := hB3.trans (hBr.mono hs3)
          have hBw : Below w.heap.size w wr := hB0.trans (hBX.mono hB0.size)
          have gX := HGP.out wr hBX
          have lX : w.heap.size < wr.heap.size := lt_of_heap gX
          have zs : b5 < wr.heap.size := lt_of_heap hgs
          obtain ⟨c0, c1, c2, c3, c4, c5, c6⟩ := par_cells gX
          by_cases hlt : i < k
          · obtain ⟨l, hl⟩ : ∃ l, ls[i]? = some l := ⟨ls[i]'(by rw [← HM.out]; exact hlt), List.getElem?_eq_getElem _⟩
            obtain ⟨vb, vo, xb2, xc2, rfl, hvb, hvcell, hvrow⟩ := HVS.out i l hl
            have HLK := Lib.hid hl
            have hvbr : vb < wr.heap.size := by have := hBw.size; omega
            have HVC := Lib.hid ((hBw.cell (p := ⟨vb, vo + i, none⟩) hvb).trans hvcell)
            have HVR := Lib.hid ((hvrow.below hBw).mono hBw.size)
            clear hl hvcell hvrow gX
            have hC := HWT.out wr hBX i hlt
            go_wp2_with fail
            refine hC.mono ?_
            rintro e w4 ⟨rv4, rfl, hv4, hb4⟩
            obtain ⟨ra4, rc4, rfl, -⟩ := hv4.shape
            clear hC c0 c1 c2 c3 c4 c5 c6
            go_upto_region 14 with (fail)
            obtain ⟨W5, hW5⟩ : ∃ W, W = w4.alloc (.cells #[.int .i64 (chain.length : Int), .bool false, .slice ra4 (Wt i).length rc4] 28) := ⟨_, rfl⟩
            have g5 : W5.heap[w4.heap.size]? = some (.cells #[.int .i64 (chain.length : Int), .bool false, .slice ra4 (Wt i).length rc4] 28) := by rw [hW5]; exact alloc_last _ _ rfl
            have hr5 : Below wr.heap.size wr W5 := by rw [hW5]; exact hb4.alloc hb4.size _
            have hv5 : W5.rows u32V W5.heap.size (.slice ra4 (Wt i).length rc4) (Wt i) := by rw [hW5]; exact (hv4.below ((Below.refl _ _).alloc (Nat.le_refl _) _)).mono (by simp)
            rw [← hW5]
            have z5 := lt_of_heap g5
            have hn5 : wr.heap.size ≤ w4.heap.size := hb4.size
            have hBX5 : Below W0.heap.size W0 W5 := hBX.trans (hr5.mono hBX.size)
            have hC := HRS.out W5 hBX5 i hlt _ hv5
            have gX := HGP.out W5 hBX5
            have lX5 : w.heap.size < W5.heap.size := lt_of_heap gX
            obtain ⟨c0, c1, c2, c3, c4, c5, c6⟩ := par_cells gX
            obtain ⟨o0, o1, o2, -, -, -⟩ := elem_cells g5
            have HG5 := Lib.hid g5
            clear hW5 gX hv4 hb4 g5 hv5
            go_wp2_with fail
            refine hC.mono ?_
            rintro e w6 ⟨rv6, rfl, hO6, hb6⟩
            obtain ⟨ra6, rc6, rfl⟩ := hO6.open_
            have g6 := (hb6.block _ z5).trans HG5.out
            clear hC o0 o1 o2 c0 c1 c2 c3 c4 c5 c6
            obtain ⟨o0, o1, o2, f0, f1, f2⟩ := elem_cells g6
            go_upto_region 15 with (fail)
            obtain ⟨W6, hW6⟩ : ∃ W, W = ((w6.setCell ⟨w4.heap.size, 0, none⟩ (.int .i64 (lv : Int))).setCell ⟨w4.heap.size, 1, none⟩ (.bool false)).setCell ⟨w4.heap.size, 2, none⟩ (.slice ra6 (R i).length rc6) := ⟨_, rfl⟩
            obtain ⟨g6', -, hbs6⟩ := elem_store g6 hW6
            have hr6 : Below wr.heap.size wr W6 := hbs6 _ _ (hr5.trans (hb6.mono hr5.size)) hn5
            have hv6 := (elem_store_rowsO hW6 hO6 z5).rows
            rw [← hW6]
            have z6 := lt_of_heap g6'
            have hBX6 : Below W0.heap.size W0 W6 := hBX.trans (hr6.mono hBX.size)
            have gX := HGP.out W6 hBX6
            have lX6 : w.heap.size < W6.heap.size := lt_of_heap gX
            have hs6 := hr6.size
            obtain ⟨c0, c1, c2, c3, c4, c5, c6⟩ := par_cells gX
            have q0 : W6.cell? ⟨vb, vo + i, none⟩ = some (.slice xb2 l.length xc2) := (hr6.cell (p := ⟨vb, vo + i, none⟩) hvbr).trans HVC.out
            have HRW := Lib.hid ((HVR.out.below hr6).mono hr6.size)
            have HG6 := Lib.hid g6'
            have HV6 := Lib.hid hv6
            clear hW6 gX hO6 hb6 g6 g6' hv6 hbs6 o0 o1 o2 f0 f1 f2 HG5 z5 lX5 hr5 hBX5
            have hvb6 : vb < W6.heap.size := by omega
            have hp1 : w.heap.size < W6.heap.size + 1 := by omega
            have hpn0 : ¬ w.heap.size = W6.heap.size := by omega
            have hpm0 : ¬ W6.heap.size = w.heap.size := by omega
            have hq1 : vb < W6.heap.size + 1 := by omega
            have hqn0 : ¬ vb = W6.heap.size := by omega
            have hqm0 : ¬ W6.heap.size = vb := by omega
            go_cut [18, 19] (fun p12 e13 wx => ∃ (b12 : Nat) (dv : Value), p12 = .pointer (some ⟨b12, 0, none⟩) ∧ Hid (wx.heap[b12]? = some (.cells #[.int .i64 (lv : Int), .bool false, dv] 28)) ∧ Hid (wx.rows u32V wx.heap.size dv (I i)) ∧ Below W6.heap.size W6 wx)
            case first =>
              go_region_held3 (fun w' => w'.cell? ⟨w.heap.size, 0, none⟩ = some (.int .i64 (n : Int)) ∧ w'.cell? ⟨w.heap.size, 1, none⟩ = some (.int .u32 pr) ∧ w'.cell? ⟨w.heap.size, 2, none⟩ = some (.int .i64 pw) ∧ w'.cell? ⟨w.heap.size, 3, none⟩ = some (.slice a chain.length cap) ∧ w'.cell? ⟨w.heap.size, 4, none⟩ = some (.int .u32 (sp : Int)) ∧ w'.cell? ⟨w.heap.size, 5, none⟩ = some (.int .i64 wt) ∧ w'.cell? ⟨w.heap.size, 6, none⟩ = some (.int .u32 er) ∧ w'.cell? ⟨vb, vo + i, none⟩ = some (.slice xb2 l.length xc2))
                (first | go_keep | exact ⟨c0, c1, c2, c3, c4, c5, c6, q0⟩ | (refine ⟨?_, ?_, ?_, ?_, ?_, ?_, ?_, ?_⟩ <;> assumption))
                (first
                  | (go_simp; go_at_call 24; refine (HFI.out _ (by repeat (with_reducible first | apply below_drewN | apply Below.drew | refine Below.setCell ?_ (by first | (simp; done) | omega | (simp; omega)) _ | refine Below.alloc ?_ (by first | omega | (simp; done) | (simp; omega)) _ | assumption | exact Below.refl _ _)) i hlt l HLK.out _ (by first | exact HRW.out | exact (HRW.out.alloc (Nat.le_refl _) _).mono (by simp))).mono ?_; rintro e w7 ⟨dv, rfl, hO7, hb7⟩; obtain ⟨da, dc, rfl⟩ := hO7.open_; obtain ⟨hc1, hf1⟩ := bcell hb7; have hbW : Below W6.heap.size W6 w7 := (by first | exact ((Below.refl _ W6).drew).trans (hb7.mono (by simp; done)) | exact (((Below.refl _ W6).alloc (Nat.le_refl _) _).drew).trans (hb7.mono (by simp; done))); have hs7 := hbW.size; have j0 := (hbW.cell (p := ⟨w.heap.size, 0, none⟩) lX6).trans c0; have j1 := (hbW.cell (p := ⟨w.heap.size, 1, none⟩) lX6).trans c1; have j2 := (hbW.cell (p := ⟨w.heap.size, 2, none⟩) lX6).trans c2; have j3 := (hbW.cell (p := ⟨w.heap.size, 3, none⟩) lX6).trans c3; have j4 := (hbW.cell (p := ⟨w.heap.size, 4, none⟩) lX6).trans c4; have j5 := (hbW.cell (p := ⟨w.heap.size, 5, none⟩) lX6).trans c5; have j6 := (hbW.cell (p := ⟨w.heap.size, 6, none⟩) lX6).trans c6; have jq := (hbW.cell (p := ⟨vb, vo + i, none⟩) hvb6).trans q0; have hp7 : w.heap.size < w7.heap.size := (by omega); have hvb7 : vb < w7.heap.size := (by omega); have HO7 := Lib.hid hO7; have HB7 := Lib.hid hb7; clear hO7 hb7))
              all_goals
                go_wp2
                go_meet
                case rel =>
                  refine ⟨_, .slice da (I i).length dc, rfl, ?_, ?_, ?_⟩
                  · first
                      | exact alloc_last _ _ rfl
                      | exact stored_elemJ (by first | exact alloc_last _ _ rfl | exact alloc_last _ _ (by simp)) HB7.out (by first | (simp; done) | (simp; omega))
                  · first
                      | exact (HO7.out.rows.below ((Below.refl _ _).alloc (Nat.le_refl _) _)).mono (by simp)
                      | exact (elem_store_rowsO rfl HO7.out (by first | (simp; done) | (simp; omega))).rows
                  · repeat (with_reducible first | apply below_drewN | apply Below.drew | refine Below.setCell ?_ (by first | (simp; done) | omega | (simp; omega)) _ | refine Below.alloc ?_ (by first | omega | (simp; done) | (simp; omega)) _ | assumption | exact Below.refl _ _)
            case rest =>
              obtain ⟨b12, dv, rfl, hE7, hR7, hB67⟩ := hcut
              clear c0 c1 c2 c3 c4 c5 c6 q0 hp1 hpn0 hpm0 hq1 hqn0 hqm0
              have hr7 := hr6.trans (hB67.mono hs6)
              have hBX7 := hBX.trans (hr7.mono hBX.size)
              have hC := HM2.out _ hBX7 i hlt _ _ ((HV6.out.below hB67).mono hB67.size) hR7
              have gX := HGP.out _ hBX7
              have g10 := (hB67.block _ z6).trans HG6.out
              have lX7 := lt_of_heap gX
              have z7 := lt_of_heap hE7
              have z10 := lt_of_heap g10
              obtain ⟨c0, c1, c2, c3, c4, c5, c6⟩ := par_cells gX
              obtain ⟨o0, o1, o2, -, -, -⟩ := elem_cells g10
              obtain ⟨d0, d1, d2, -, -, -⟩ := elem_cells hE7
              clear gX g10
              go_wp2_with fail
              refine hC.mono ?_
              rintro e w8 ⟨rv8, rfl, hO8, hb8⟩
              obtain ⟨ra8, rc8, rfl⟩ := hO8.open_
              clear hC o0 o1 o2 d0 d1 d2 c0 c1 c2 c3 c4 c5 c6
              go_upto_region 17 with (fail)
              obtain ⟨W8, hW8⟩ : ∃ W, W = w8.alloc (.cells #[.int .i64 (lv : Int), .bool false, .slice ra8 (T i).length rc8] 28) := ⟨_, rfl⟩
              have g8 : W8.heap[w8.heap.size]? = some (.cells #[.int .i64 (lv : Int), .bool false, .slice ra8 (T i).length rc8] 28) := by rw [hW8]; exact alloc_last _ _ rfl
              have hr8 : Below wr.heap.size wr W8 := by rw [hW8]; exact (hr7.trans (hb8.mono hr7.size)).alloc ((hr7.trans (hb8.mono hr7.size)).size) _
              have hv8 : W8.rows u32V W8.heap.size (.slice ra8 (T i).length rc8) (T i) := by rw [hW8]; exact (hO8.rows.below ((Below.refl _ _).alloc (Nat.le_refl _) _)).mono (by simp)
              rw [← hW8]
              have z8 := lt_of_heap g8
              have hBX8 := hBX.trans (hr8.mono hBX.size)
              have hC := HAD.out W8 hBX8 i hlt _ _ ((hrs.out.rows.below hr8).mono hr8.size) hv8
              have gX := HGP.out W8 hBX8
              have g5 := (hr8.block _ zs).trans hgs.out
              have z58 := lt_of_heap g5
              have lX8 := lt_of_heap gX
              obtain ⟨c0, c1, c2, c3, c4, c5, c6⟩ := par_cells gX
              obtain ⟨o0, o1, o2, -, -, -⟩ := elem_cells g5
              obtain ⟨d0, d1, d2, -, -, -⟩ := elem_cells g8
              have HG5 := Lib.hid g5
              clear hW8 gX g8 g5 hO8 hb8 hv8
              go_wp2_with fail
              refine hC.mono ?_
              rintro e w9 ⟨rv9, rfl, hO9, hb9⟩
              obtain ⟨ra9, rc9, rfl⟩ := hO9.open_
              have g9 := (hb9.block _ z58).trans HG5.out
              clear hC o0 o1 o2 d0 d1 d2 c0 c1 c2 c3 c4 c5 c6
              obtain ⟨o0, o1, o2, f0, f1, f2⟩ := elem_cells g9
              go_upto_region 12 with (fail)
              obtain ⟨W9, hW9⟩ : ∃ W, W = ((w9.setCell ⟨b5, 0, none⟩ (.int .i64 (lv : Int))).setCell ⟨b5, 1, none⟩ (.bool false)).setCell ⟨b5, 2, none⟩ (.slice ra9 (S (i + 1)).length rc9) := ⟨_, rfl⟩
              obtain ⟨g9', -, hbs9⟩ := elem_store g9 hW9
              have hr9 : Below w3.heap.size w3 W9 := hbs9 _ _ (hBr.trans ((hr8.trans (hb9.mono hr8.size)).mono hBr.size)) hb5
              have hv9 := (elem_store_rowsO hW9 hO9 z58).mono (base' := w3.heap.size) (by have := hBr.size; have := hr8.size; omega)
              rw [← hW9]
              have HG9 := Lib.hid g9'
              have HV9 := Lib.hid hv9
              clear hW9 g9 g9' hbs9 hv9 hO9 hb9 o0 o1 o2 f0 f1 f2
              go_wp2
              go_roundw
              case rel => exact ⟨i + 1, _, by omega, by go_num, HG9.out, HV9.out, hr9⟩
              case measure => simp [intOf]; omega
          · obtain rfl : i = k := by omega
            obtain ⟨oa, oc, rfl⟩ := hrs.out.open_
            obtain ⟨o0, o1, o2, -, -, -⟩ := elem_cells hgs.out
            have hc3 := (hBX.block (w.heap.size + 1) hz0).trans HE0.out
            obtain ⟨k0, k1, k2, z0, z1, z2⟩ := elem_cells hc3
            have HC3 := Lib.hid hc3
            have lR : w.heap.size + 1 < wr.heap.size := lt_of_heap hc3
            clear hc3 c0 c1 c2 c3 c4 c5 c6 gX
            go_wp2
            obtain ⟨W6, hW6⟩ : ∃ W6, W6 = ((wr.setCell ⟨w.heap.size + 1, 0, none⟩ (.int .i64 (lv : Int))).setCell ⟨w.heap.size + 1, 1, none⟩ (.bool false)).setCell ⟨w.heap.size + 1, 2, none⟩ (.slice oa (S i).length oc) := ⟨_, rfl⟩
            obtain ⟨h6, -, hB6⟩ := elem_store HC3.out hW6
            obtain ⟨j0, j1, j2, -, -, -⟩ := elem_cells h6
            have hO6 := (elem_store_rowsO hW6 hrs.out (by omega)).rows
            rw [← hW6]
            refine bodyPost_ret (v := .tuple #[.agg #[.int .i64 (lv : Int), .bool false, .slice oa (S i).length oc], .int .i64 0]) ?_ rfl (HPOST2.out _ _ ⟨⟨_, rfl, hO6⟩, ?_⟩)
            · simp [results, Try.results22, go_sem, j0, j1, j2]
            · exact hB6 _ _ hBw (by omega)
end Go.Proofs.Ytpcpgmgpkegjlaa
