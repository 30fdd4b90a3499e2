/- Walks: the digits of an element. -/
import Derived.Test.YtpcpgmgpkegjlaaGD2
import Derived.Sort.CutIn
import Derived.Test.YtpcpgmgpkegjlaaBase
namespace Go.Proofs.Ytpcpgmgpkegjlaa
open Go.RowKit Go.Shelf Go.BigFrame
attribute [local go_sem] Oper.semAt_some
/-- The rows of an element with residues below the moduli. -/
def RowsOk (n : Nat) (chain : List Nat) (rows : List (List Nat)) : Prop := ∀ (i : Nat) (r : List Nat), rows[i]? = some r → r.length = n ∧ ∃ q, chain[i]? = some q ∧ ∀ x ∈ r, x < q
set_option maxRecDepth 100000 in
set_option maxHeartbeats 16000000 in
theorem Digits_ok (n lv P : Nat) (pr pw wt er : Int) (cv : Value) (chain : List Nat) (sp : Nat) (width : Int) (rv : Value) (rows : List (List Nat)) (w : World) (hr : w.reads w.heap.size cv (chain.map u32V)) (hrow : w.rows u32V w.heap.size rv rows) (hcb : ∀ q ∈ chain, q < 4294967296)
    (hmade : madeB (n : Int) chain sp width = true) (hP : (P : Int) = partsI width) (hlv1 : 1 ≤ lv) (hlv2 : lv ≤ chain.length) (hck : checkB (n : Int) chain sp (lv : Int) false rows = true) (hn : n ≤ 1000) (hrl : rows.length = lv) (hok : RowsOk n chain rows) :
    Calls Try.prog 11 #[.agg #[.int .i64 (n : Int), .int .u32 pr, .int .i64 pw, cv, .int .u32 (sp : Int), .int .i64 wt, .int .u32 er], .int .i64 width, .agg #[.int .i64 (lv : Int), .bool false, rv]] w
      fun e w' => (∃ v, e = .returned (.tuple #[v, .int .i64 0]) ∧ w'.rows i64V w'.heap.size v (digL (2 ^ (width - 1).toNat) P n chain rows (lv * P))) ∧ Below w.heap.size w w' := by
  obtain ⟨W0, hW0⟩ : ∃ W0, W0 = ((w.alloc (.cells #[.int .i64 (n : Int), .int .u32 pr, .int .i64 pw, cv, .int .u32 (sp : Int), .int .i64 wt, .int .u32 er] 25)).alloc (.cells #[.int .i64 (lv : Int), .bool false, rv] 28)) := ⟨_, rfl⟩
  have hB0 : Below w.heap.size w W0 := by rw [hW0]; exact ((Below.refl _ w).alloc (Nat.le_refl _) _).alloc (by simp) _
  have hp0 : W0.heap[w.heap.size]? = some (.cells #[.int .i64 (n : Int), .int .u32 pr, .int .i64 pw, cv, .int .u32 (sp : Int), .int .i64 wt, .int .u32 er] 25) := by
    rw [hW0, Below.heap_alloc _ _ _ (by simp)]; exact alloc_last _ _ rfl
  have ha0 : W0.heap[w.heap.size + 1]? = some (.cells #[.int .i64 (lv : Int), .bool false, rv] 28) := by
    rw [hW0]; exact alloc_last _ _ (by simp)
  have hz0 := lt_of_heap ha0
  have hr0 := (hr.below hB0).mono hB0.size
  have hrow0 := (hrow.below hB0).mono hB0.size
  have HA := Lib.hid (asked_level (n : Int) pr pw wt er cv chain sp width (lv : Int) w.heap.size W0 hr0 hcb hp0)
  have hlb : levB chain.length (lv : Int) = true := by unfold levB; simp; omega
  unfold AskedPost at HA
  rw [hmade, hlb] at HA
  obtain ⟨hw1, hw2, hv, -⟩ := madeB_parts hmade
  have h24 := (validB_len hv).2
  have hpb := parts_bound hw1 hw2
  rw [← hP] at hpb
  have HC := Lib.hid (fun W h1 h2 => Check_any (n : Int) pr pw wt er cv chain sp (lv : Int) false rv rows W h1 h2)
  rw [hck] at HC
  have HR0 := Lib.hid hr0
  have HROW0 := Lib.hid hrow0
  have HP0 := Lib.hid hp0
  have HA0 := Lib.hid ha0
  have HCG := Lib.hid (chain_ge hv)
  have HPI := Lib.hid hP
  have HOK := Lib.hid hok
  obtain ⟨ra, rcap, hrv, hrcap, hrmx, hrsh⟩ := hrow0.shape
  rw [hrl] at hrv hrcap
  subst hrv
  have HRL := Lib.hid hrl
  clear hrl
  obtain ⟨ca, ccap, rfl, hccap, hcmx, hcsh⟩ := reads_u32 hr0
  have HRSH := Lib.hid hrsh
  have HCSH := Lib.hid hcsh
  clear hrsh hcsh
  have HCB := Lib.hid hcb
  obtain ⟨T, hT⟩ : ∃ T : Nat, T = lv * P := ⟨_, rfl⟩
  have hTI : (lv : Int) * (P : Int) = (T : Int) := by rw [hT]; simp
  have hTb : T ≤ 24 * 16 := by rw [hT]; exact Nat.mul_le_mul (by omega) (by omega)
  rw [← hT]
  have HT := Lib.hid hT
  clear hT hcb hok hv hmade hck hlb hr hrow hr0 hrow0 hP
  obtain ⟨h, hh⟩ : ∃ h : Int, h = 2 ^ (width - 1).toNat := ⟨_, rfl⟩
  rw [← hh]
  have HH := Lib.hid hh
  clear hh
  refine (callsIn_wide (n := 6)).1 ?_
  refine callsIn_of_wp_marks Try.func11 rfl trivial ?_ rfl
  simp only [Try.ntmps11, List.size_toArray, List.length_cons, List.length_nil, Nat.reduceAdd, Nat.reduceSub, Array.replicate_succ, Array.replicate_zero, List.push_toArray, List.append_toArray, List.nil_append, List.cons_append]
  gi_wp2_with fail
  rw [← hW0]
  clear hW0
  refine ⟨trivial, (callsIn_wide.2 HA.out).mono ?_⟩
  rintro e w1 ⟨h, hb⟩
  rw [if_pos trivial] at h
  obtain ⟨b, rfl, hwb, hcut⟩ := h
  have hB1 := hB0.trans (hb.mono hB0.size)
  have hp1 := (hb.block _ (by omega)).trans hp0
  have ha1 := (hb.block _ hz0).trans ha0
  obtain ⟨W1, hW1⟩ : ∃ W1, W1 = w1.alloc (.cells #[.pointer (some ⟨b, 0, none⟩)] 52) := ⟨_, rfl⟩
  have hcl := lt_of_heap hcut
  have hz1 := hb.size
  have hb1 : Below w1.heap.size w1 W1 := by rw [hW1]; exact (Below.refl _ _).alloc (Nat.le_refl _) _
  have hcb1 : W1.heap[w1.heap.size]? = some (.cells #[.pointer (some ⟨b, 0, none⟩)] 52) := by rw [hW1]; exact alloc_last _ _ rfl
  have hs1 : W1.heap.size = w1.heap.size + 1 := by rw [hW1]; simp
  have hp1' := (hb1.block _ (by omega)).trans hp1
  have ha1' := (hb1.block _ (by omega)).trans ha1
  have hcut1 := (hb1.block _ (by omega)).trans hcut
  have a0 : w1.cell? ⟨w.heap.size + 1, 0, none⟩ = some (.int .i64 (lv : Int)) := by simp [World.cell?, ha1]
  have a1 : w1.cell? ⟨w.heap.size + 1, 1, none⟩ = some (.bool false) := by simp [World.cell?, ha1]
  have a2 : w1.cell? ⟨w.heap.size + 1, 2, none⟩ = some (.slice ra lv rcap) := by simp [World.cell?, ha1]
  obtain ⟨c0, c1, c2, c3, c4, c5, c6⟩ := par_cells hp1
  have l1 : w.heap.size < w1.heap.size := by omega
  have l2 : w.heap.size + 1 < w1.heap.size := by omega
  have hB1' : Below W0.heap.size W0 W1 := hb.trans (hb1.mono hz1)
  have HCK := HC.out W1 ((HR0.out.below hB1').mono hB1'.size) ((HROW0.out.below hB1').mono hB1'.size)
  clear hp1 ha1 hcut
  gi_wp2_with fail
  rw [← hW1]
  refine ⟨trivial, (callsIn_wide.2 HCK).mono ?_⟩
  rintro e w2 ⟨rfl, hb2⟩
  clear a0 a1 a2 c0 c1 c2 c3 c4 c5 c6 l1 l2 HCK
  gi_wp2_with fail
  have hB2 : Below w1.heap.size w1 w2 := hb1.trans (hb2.mono (by omega))
  have hs2 := hb2.size
  have hp2 := (hb2.block _ (by omega)).trans hp1'
  have ha2 := (hb2.block _ (by omega)).trans ha1'
  have hcut2 := (hb2.block _ (by omega)).trans hcut1
  have hcb2 := (hb2.block _ (by omega)).trans hcb1
  have hBW2 : Below w.heap.size w w2 := hB1.trans (hB2.mono (by omega))
  have hB02 : Below W0.heap.size W0 w2 := hb.trans (hB2.mono hz1)
  clear hp1' ha1' hcut1 hcb1 hb2 hb1 hB1 hB1' hW1
  have hmkr := make_rows T (by omega)
  have hlc : w1.heap.size < w2.heap.size := by omega
  have hwl : w.heap.size + 1 < w2.heap.size := by omega
  have hbl : b < w2.heap.size := by omega
  have HCUT := Lib.hid hcut2
  have a0 : w2.cell? ⟨w.heap.size + 1, 0, none⟩ = some (.int .i64 (lv : Int)) := by simp [World.cell?, ha2]
  have e0 : w2.cell? ⟨w1.heap.size, 0, none⟩ = some (.pointer (some ⟨b, 0, none⟩)) := by simp [World.cell?, hcb2]
  have d2 : w2.cell? ⟨b, 2, none⟩ = some (.int .i64 (P : Int)) := by rw [HPI.out]; exact (three_cells hcut2).2.2
  have HP2 := Lib.hid hp2
  have HA2 := Lib.hid ha2
  have HCB2 := Lib.hid hcb2
  clear hp2 ha2 hcb2 hcut2
  gi_cut [10] from 39 (fun v W => ∃ ob bx : Nat, v = .pointer (some ⟨bx, 0, none⟩) ∧ w2.heap.size ≤ ob ∧ w2.heap.size ≤ bx ∧ ob ≠ bx ∧ W.heap[bx]? = some (.cells #[.slice (some ⟨ob, 0, none⟩) T T] 29) ∧ W.heap[ob]? = some (.cells (ocells (w2.heap.size + 2) T n 0) 45) ∧ Below w2.heap.size w2 W ∧ W.heap.size = w2.heap.size + 2)
  case first =>
    have hmkr2 := hmkr (w2.heap.size + 2) n
    have hwT : IntKind.i64.wrap (T : Int) = (T : Int) := IntWalk.i64_in _ (by omega)
    clear hmkr
    refine wpIn_wide.2 ?_
    go_region_held3 (fun w' => w'.cell? ⟨w.heap.size + 1, 0, none⟩ = some (.int .i64 (lv : Int)) ∧ w'.cell? ⟨w1.heap.size, 0, none⟩ = some (.pointer (some ⟨b, 0, none⟩)) ∧ w'.cell? ⟨b, 2, none⟩ = some (.int .i64 (P : Int)))
      (first | go_keep | exact ⟨a0, e0, d2⟩)
      (fail)
    · go_wp2
      go_meet
      case rel => exact ⟨w2.heap.size, w2.heap.size + 1, rfl, Nat.le_refl _, by omega, by omega, alloc_last _ _ (by simp), (Below.heap_alloc _ _ _ (by simp)).trans (alloc_last _ _ rfl), (((Below.refl _ _).alloc (Nat.le_refl _) _).alloc (by simp) _).drew, by simp [World.drew]⟩
    · go_wp2
      go_meet
      case rel => exact ⟨w2.heap.size + 1, w2.heap.size, rfl, by omega, Nat.le_refl _, by omega, (Below.heap_alloc _ _ _ (by simp)).trans (alloc_last _ _ rfl), alloc_last _ _ (by simp), (((Below.refl _ _).alloc (Nat.le_refl _) _).alloc (by simp) _).drew, by simp [World.drew]⟩
  case rest =>
    obtain ⟨ob, bx, rfl, hob, hbx, hobx, hbxc, hobc, hBc, hsc⟩ := hcut
    obtain ⟨H, hH⟩ : ∃ H, H = w2.heap.size + 2 := ⟨_, rfl⟩
    rw [← hH] at hobc hsc
    have hH1 : w2.heap.size + 2 ≤ H := by omega
    have hH2 : H ≤ w2.heap.size + 2 := by omega
    clear hH
    have hobH : ob < H := by have := lt_of_heap hobc; omega
    have hbxH : bx < H := by have := lt_of_heap hbxc; omega
    have hcx : wc.cell? ⟨bx, 0, none⟩ = some (.slice (some ⟨ob, 0, none⟩) T T) := by simp [World.cell?, hbxc]
    have HBX := Lib.hid hbxc
    have HOBC := Lib.hid hobc
    have HBC := Lib.hid hBc
    clear a0 e0 d2 hmkr hbxc hobc hBc
    gi_wp2_with fail
    have hmk := make_trow n hn
    gi_loopw [49] (fun ii wr => ∃ i : Nat, i ≤ T ∧ ii = .int .i64 (i : Int) ∧ wr.heap[ob]? = some (.cells (ocells H T n i) 45) ∧ TabAt wr H n i (fun _ _ => 0) ∧ wr.heap.size = H + i ∧ wr.heap[bx]? = some (.cells #[.slice (some ⟨ob, 0, none⟩) T T] 29) ∧ Below w2.heap.size w2 wr) (fun ii _ => T - (intOf ii).toNat)
    case atStart => exact ⟨0, Nat.zero_le _, rfl, HOBC.out, fun r hr => absurd hr (by omega), by omega, HBX.out, HBC.out⟩
    case round =>
      obtain ⟨i, hi, rfl, hoi, hti, hsi, hbx2, hbi⟩ := hrel
      clear hcx
      by_cases hlt : i < T
      · have hp3 := (hbi.block _ (by omega)).trans HP2.out
        have g0 : wr.cell? ⟨w.heap.size, 0, none⟩ = some (.int .i64 (n : Int)) := (par_cells hp3).1
        have g1 : wr.cell? ⟨bx, 0, none⟩ = some (.slice (some ⟨ob, 0, none⟩) T T) := by simp [World.cell?, hbx2]
        have g2 : wr.frozen? ⟨ob, i, none⟩ = false := by simp [World.frozen?, hoi]
        have g3 : wr.cell? ⟨ob, i, none⟩ = some (.slice none 0 0) := by simp [World.cell?, hoi, ocells, hlt]
        have HOI := Lib.hid hoi
        have HTI := Lib.hid hti
        have HBI := Lib.hid hbi
        have HBX2 := Lib.hid hbx2
        have hl1 : ob < wr.heap.size := by omega
        have hl2 : bx < wr.heap.size := by omega
        have hl3 : w.heap.size < wr.heap.size := by omega
        have HSI := Lib.hid hsi
        have q1 : ¬ ob = w.heap.size := by omega
        have q2 : ¬ w.heap.size = ob := by omega
        have q3 : ¬ bx = ob := fun e => hobx e.symm
        have q4 : ¬ ob = bx := hobx
        have hll : H + i = wr.heap.size := hsi.symm
        clear hoi hti hbi hbx2 hp3 hsi hsc
        gi_wp2_with fail
        refine wpIn_wide.2 ?_
        go_region_held3 (fun w' => w'.cell? ⟨w.heap.size, 0, none⟩ = some (.int .i64 (n : Int)) ∧ w'.cell? ⟨bx, 0, none⟩ = some (.slice (some ⟨ob, 0, none⟩) T T) ∧ w'.frozen? ⟨ob, i, none⟩ = false)
          (first | exact ⟨g0, g1, g2⟩ | (simp [*, frozen?_alloc_cells, World.cell?_alloc_some, World.cell?_setCell_far]; done))
          (fail)
        all_goals
          gi_wp2
          refine ⟨⟨_, _, _, _, _, _, _, _, _, _, _, ?rel, rfl⟩, ?measure⟩
          case rel =>
            have hs1 : ((wr.setCell ⟨ob, i, none⟩ (.slice (some ⟨wr.heap.size, 0, none⟩) n n)).alloc (.cells (trow (fun _ => 0) n) 2)).heap.size = wr.heap.size + 1 := by simp
            refine ⟨i + 1, by omega, by go_num, ?_, ?_, ?_, ?_, ?_⟩
            · have h2 := set_blockN HOI.out i (.slice (some ⟨wr.heap.size, 0, none⟩) n n)
              rw [← hll, ocells_set, hll] at h2
              exact (Below.heap_alloc _ _ _ (by simp; omega)).trans h2
            · refine TabAt.snoc (HTI.out.keep fun b h1 h2 => (Below.heap_alloc _ _ _ (by simp; omega)).trans (Below.heap_setCell _ _ _ _ (by simp; omega))) ?_
              exact alloc_last _ _ (by simp; omega)
            · show ((wr.setCell _ _).alloc _).heap.size = _
              rw [hs1]; omega
            · exact (Below.heap_alloc _ _ _ (by simp; omega)).trans ((Below.heap_setCell _ _ _ _ (by simp; omega)).trans HBX2.out)
            · exact ((HBI.out.setCell (by simp; omega) _).alloc (by simp; omega) _).drew
          case measure => simp [intOf]; omega
      · obtain rfl : T = i := by omega
        obtain ⟨wf, rfl⟩ : ∃ wf : World, wf = wr := ⟨_, rfl⟩
        have hpf := (hbi.block _ (by omega)).trans HP2.out
        have haf := (hbi.block _ (by omega)).trans HA2.out
        have hcbf := (hbi.block _ (by omega)).trans HCB2.out
        have hcuf := (hbi.block _ (by omega)).trans HCUT.out
        have ar : wf.cell? ⟨w.heap.size + 1, 2, none⟩ = some (.slice ra lv rcap) := by simp [World.cell?, haf]
        have HPF := Lib.hid hpf
        have HAF := Lib.hid haf
        have HCBF := Lib.hid hcbf
        have HCUF := Lib.hid hcuf
        have HBXF := Lib.hid hbx2
        have HBF := Lib.hid hbi
        have HOI := Lib.hid hoi
        have HTI := Lib.hid hti
        clear hpf haf hcbf hcuf hbx2 hbi hoi hti HBX HOBC HBC HP2 HA2 HCB2 HCUT hmk
        gi_upto_region 10 with (fail)
        gi_cut [60, 61, 62] from 20 (fun v60 v61 v62 W => v60 = .slice ra lv rcap ∧ v61 = .int .i64 (lv : Int) ∧ v62 = .int .i64 0 ∧ W = wf)
        case first =>
          gi_wp2
          gi_meet
          case rel => exact ⟨rfl, rfl, rfl, rfl⟩
        obtain ⟨rfl, rfl, rfl, rfl⟩ := hcut
        have hD0 : DigI H n T (digT h P chain rows) wc (fun r _ => r < 0 * P) wc := ⟨⟨_, HTI.out, fun r c _ _ hd => absurd hd (by omega)⟩, Below.refl _ _, by omega⟩
        have HSI := Lib.hid hsi
        have HB02 := Lib.hid hB02
        clear hsi hB02
        gi_wp2_with fail
        refine wpIn_loop (fun a' W => ∃ (i : Nat) (ds : List Deferred) (v12 v13 v14 v15 v16 v17 v18 v19 v63 v64 v65 v66 v67 v68 v69 v70 v71 v72 v73 v74 v75 v76 v77 v78 v79 v80 v81 v82 v83 v84 v85 v86 v87 v88 v89 v90 v91 v92 v93 v94 v95 v96 v97 v98 v99 v100 v101 v102 v103 v104 v105 v106 v107 v108 v109 v110 : Value), i ≤ lv ∧ DigI H n T (digT h P chain rows) wc (fun r _ => r < i * P) W ∧ Marks (H + T) ds W ∧ a' = { tmps := (Value.agg #[.int .i64 (n : Int), .int .u32 pr, .int .i64 pw, .slice ca chain.length ccap, .int .u32 (sp : Int), .int .i64 wt, .int .u32 er] :: Value.int .i64 width :: Value.agg #[.int .i64 (lv : Int), .bool false, .slice ra lv rcap] :: Value.pointer (some ⟨w.heap.size, 0, none⟩) :: undef :: Value.pointer (some ⟨w.heap.size + 1, 0, none⟩) :: Value.slice none 0 0 :: Value.int .i64 0 :: Value.pointer (some ⟨w1.heap.size, 0, none⟩) :: Value.bool true :: Value.pointer (some ⟨bx, 0, none⟩) :: u11 :: v12 :: v13 :: v14 :: v15 :: v16 :: v17 :: v18 :: v19 :: u20 :: u21 :: u22 :: u23 :: u24 :: u25 :: u26 :: u27 :: u28 :: u29 :: u30 :: u31 :: u32 :: u33 :: u34 :: u35 :: u36 :: u37 :: u38 :: u39 :: u40 :: u41 :: u42 :: u43 :: u44 :: u45 :: u46 :: u47 :: u48 :: u49 :: u50 :: u51 :: u52 :: u53 :: u54 :: u55 :: u56 :: u57 :: u58 :: u59 :: Value.slice ra lv rcap :: Value.int .i64 (lv : Int) :: Value.int .i64 (i : Int) :: v63 :: v64 :: v65 :: v66 :: v67 :: v68 :: v69 :: v70 :: v71 :: v72 :: v73 :: v74 :: v75 :: v76 :: v77 :: v78 :: v79 :: v80 :: v81 :: v82 :: v83 :: v84 :: v85 :: v86 :: v87 :: v88 :: v89 :: v90 :: v91 :: v92 :: v93 :: v94 :: v95 :: v96 :: v97 :: v98 :: v99 :: v100 :: v101 :: v102 :: v103 :: v104 :: v105 :: v106 :: v107 :: v108 :: v109 :: v110 :: []).toArray, defers := ds })
          (fun a' _ => lv - (intOf (a'.tmps.getD 62 undef)).toNat) ?start ?outer
        case start => exact ⟨0, [], _, _, _, _, _, _, _, _, _, _, _, _, _, _, _, _, _, _, _, _, _, _, _, _, _, _, _, _, _, _, _, _, _, _, _, _, _, _, _, _, _, _, _, _, _, _, _, _, _, _, _, _, _, _, _, _, Nat.zero_le _, hD0, Marks.nil _ _, rfl⟩
        case outer =>
          clear hD0
          rintro _ W ⟨i, ds, v12, v13, v14, v15, v16, v17, v18, v19, v63, v64, v65, v66, v67, v68, v69, v70, v71, v72, v73, v74, v75, v76, v77, v78, v79, v80, v81, v82, v83, v84, v85, v86, v87, v88, v89, v90, v91, v92, v93, v94, v95, v96, v97, v98, v99, v100, v101, v102, v103, v104, v105, v106, v107, v108, v109, v110, hi, hDI, hMk, rfl⟩
          refine wpIn_hideThen fun KO hKO => ?_
          have HKO := Lib.hid hKO
          clear hKO
          by_cases hlt : i < lv
          · obtain ⟨row, hrow⟩ : ∃ x, rows[i]? = some x := ⟨rows[i]'(by have := HRL.out; omega), List.getElem?_eq_getElem _⟩
            obtain ⟨hrn, q, hq, hrq⟩ := HOK.out i row hrow
            obtain ⟨br, offr, b2, c2, rfl, hbr, hcr, hrd⟩ := HRSH.out i row hrow
            obtain ⟨bq, offq, rfl, hbq, hcq⟩ := HCSH.out i q hq
            have hqb := HCG.out q (List.mem_of_getElem? hq)
            have hWW : Below W0.heap.size W0 W := HB02.out.trans ((HBF.out.mono HB02.out.size).trans (hDI.2.1.mono (by have := HB02.out.size; omega)))
            have hcW : ∀ b o, b < W0.heap.size → W.cell? ⟨b, o, none⟩ = W0.cell? ⟨b, o, none⟩ := fun b o h => hWW.cell (p := ⟨b, o, none⟩) h
            have g0 : W.cell? ⟨br, offr + i, none⟩ = some (.slice b2 n c2) := by rw [hcW _ _ hbr, hcr, hrn]
            have HG1 : Hid (W.cell? ⟨bq, offq + i, none⟩ = some (.int .u32 (q : Int))) := by show _ = _; rw [hcW _ _ hbq, hcq]
            rw [hrn] at hrd
            have HRD := Lib.hid hrd
            have HRN := Lib.hid hrn
            have HROW := Lib.hid hrow
            have HQ := Lib.hid hq
            have HRQ := Lib.hid hrq
            have HWW := Lib.hid hWW
            have HCW := Lib.hid hcW
            have HDI := Lib.hid hDI
            have HMK := Lib.hid hMk
            clear hrn hrow hq hrq hcr hrd hcq hWW hcW hDI hMk
            gi_wp2_with fail
            obtain ⟨Wi, hWi⟩ : ∃ Wi, Wi = W.alloc (.cells #[.int .i64 (i : Int)] 3) := ⟨_, rfl⟩
            have hBi : Below W.heap.size W Wi := by rw [hWi]; exact (Below.refl _ _).alloc (Nat.le_refl _) _
            have hibi : Wi.heap[W.heap.size]? = some (.cells #[.int .i64 (i : Int)] 3) := by rw [hWi]; exact alloc_last _ _ rfl
            rw [← hWi]
            clear hWi
            have hHW := HDI.out.2.2
            obtain ⟨iP, hiP⟩ : ∃ iP, iP = i * P := ⟨_, rfl⟩
            have hiPT : iP + P ≤ T := by
              rw [hiP, HT.out, ← Nat.succ_mul]; exact Nat.mul_le_mul_right _ hlt
            have hDi : DigI H n T (digT h P chain rows) wc (fun r c => r < iP ∨ (r < iP + P ∧ c < 0)) Wi :=
              (HDI.out.below (hBi.mono hHW)).imp (fun r c _ _ hd => by have := hiP; rcases hd with hd | hd <;> omega)
            have hMi : Marks (H + T) ds Wi := HMK.out.keep (fun D _ hd => (hBi.block D (lt_of_heap hd)).trans hd)
            have HIP := Lib.hid hiP
            clear hiP
            refine wpIn_loop (fun a' W' => ∃ (j : Nat) (ds : List Deferred) (v14 v15 v16 v17 v18 v19 v63 v64 v65 v66 v70 v71 v72 v73 v74 v75 v76 v77 v78 v79 v80 v81 v82 v83 v84 v85 v86 v87 v88 v89 v90 v91 v92 v93 v94 v95 v96 v97 v98 v99 v100 v101 v102 v103 v104 v105 v106 v107 v108 v109 v110 : Value), j ≤ n ∧ DigI H n T (digT h P chain rows) wc (fun r c => r < iP ∨ (r < iP + P ∧ c < j)) W' ∧ Below W0.heap.size W0 W' ∧ W'.heap[W.heap.size]? = some (.cells #[.int .i64 (i : Int)] 3) ∧ Marks (H + T) ds W' ∧ a' = { tmps := (Value.agg #[.int .i64 (n : Int), .int .u32 pr, .int .i64 pw, .slice (some ⟨bq, offq, none⟩) chain.length ccap, .int .u32 (sp : Int), .int .i64 wt, .int .u32 er] :: Value.int .i64 width :: Value.agg #[.int .i64 (lv : Int), .bool false, .slice (some ⟨br, offr, none⟩) lv rcap] :: Value.pointer (some ⟨w.heap.size, 0, none⟩) :: undef :: Value.pointer (some ⟨w.heap.size + 1, 0, none⟩) :: Value.slice none 0 0 :: Value.int .i64 0 :: Value.pointer (some ⟨w1.heap.size, 0, none⟩) :: Value.bool true :: Value.pointer (some ⟨bx, 0, none⟩) :: u11 :: Value.pointer (some ⟨W.heap.size, 0, none⟩) :: Value.slice b2 n c2 :: v14 :: v15 :: v16 :: v17 :: v18 :: v19 :: u20 :: u21 :: u22 :: u23 :: u24 :: u25 :: u26 :: u27 :: u28 :: u29 :: u30 :: u31 :: u32 :: u33 :: u34 :: u35 :: u36 :: u37 :: u38 :: u39 :: u40 :: u41 :: u42 :: u43 :: u44 :: u45 :: u46 :: u47 :: u48 :: u49 :: u50 :: u51 :: u52 :: u53 :: u54 :: u55 :: u56 :: u57 :: u58 :: u59 :: Value.slice (some ⟨br, offr, none⟩) lv rcap :: Value.int .i64 (lv : Int) :: Value.int .i64 (i : Int) :: v63 :: v64 :: v65 :: v66 :: Value.slice b2 n c2 :: Value.int .i64 (n : Int) :: Value.int .i64 (j : Int) :: v70 :: v71 :: v72 :: v73 :: v74 :: v75 :: v76 :: v77 :: v78 :: v79 :: v80 :: v81 :: v82 :: v83 :: v84 :: v85 :: v86 :: v87 :: v88 :: v89 :: v90 :: v91 :: v92 :: v93 :: v94 :: v95 :: v96 :: v97 :: v98 :: v99 :: v100 :: v101 :: v102 :: v103 :: v104 :: v105 :: v106 :: v107 :: v108 :: v109 :: v110 :: []).toArray, defers := ds })
              (fun a' _ => n - (intOf (a'.tmps.getD 69 undef)).toNat) ?start2 ?inner
            case start2 => exact ⟨0, ds, _, _, _, _, _, _, _, _, _, _, _, _, _, _, _, _, _, _, _, _, _, _, _, _, _, _, _, _, _, _, _, _, _, _, _, _, _, _, _, _, _, _, _, _, _, _, _, _, _, _, _, Nat.zero_le _, hDi, HWW.out.trans (hBi.mono (by have := HWW.out.size; omega)), hibi, hMi, rfl⟩
            case inner =>
              obtain ⟨ib, hib⟩ : ∃ ib, ib = W.heap.size := ⟨_, rfl⟩
              have hibHT : H + T ≤ ib := by rw [hib]; exact hHW
              rw [← hib] at *
              clear hDi hMi hibi hBi HDI HMK HWW HCW HG1 g0
              rintro _ V ⟨j, ds, v14, v15, v16, v17, v18, v19, v63, v64, v65, v66, v70, v71, v72, v73, v74, v75, v76, v77, v78, v79, v80, v81, v82, v83, v84, v85, v86, v87, v88, v89, v90, v91, v92, v93, v94, v95, v96, v97, v98, v99, v100, v101, v102, v103, v104, v105, v106, v107, v108, v109, v110, hj, hDI, hWW, hibc, hMk, rfl⟩
              refine wpIn_hideThen fun KI hKI => ?_
              have HKI := Lib.hid hKI
              clear hKI
              have hibV := lt_of_heap hibc
              have hHV := hDI.2.2
              have hW0V := hWW.size
              have hBV := hDI.2.1
              by_cases hlj : j < n
              · obtain ⟨x, hx⟩ : ∃ x, row[j]? = some x := ⟨row[j]'(by have := HRN.out; omega), List.getElem?_eq_getElem _⟩
                have hxq : x < q := HRQ.out x (List.mem_of_getElem? hx)
                obtain ⟨a3, cap3, he3, -, -, hsh3⟩ := reads_u32 HRD.out
                obtain ⟨b4, off4, hae, hb4, hc4⟩ := hsh3 j x hx
                injection he3 with he3a he3b he3c
                rw [hae] at he3a
                obtain rfl : b2 = _ := he3a
                obtain ⟨bq', offq', hqe, hbq', hcq⟩ := HCSH.out i q HQ.out
                injection hqe with hqe'
                injection hqe' with hqe1 hqe2
                subst hqe1 hqe2
                have hpV := (hBV.block w.heap.size (by omega)).trans HPF.out
                have hcbV := (hBV.block w1.heap.size (by omega)).trans HCBF.out
                have f0 : V.cell? ⟨b4, off4 + j, none⟩ = some (.int .u32 (x : Int)) := (hWW.cell (p := ⟨b4, off4 + j, none⟩) hb4).trans hc4
                have f1 : V.cell? ⟨w.heap.size, 3, none⟩ = some (.slice (some ⟨bq, offq, none⟩) chain.length ccap) := (par_cells hpV).2.2.2.1
                have f2 : V.cell? ⟨ib, 0, none⟩ = some (.int .i64 (i : Int)) := by simp [World.cell?, hibc]
                have f3 : V.cell? ⟨bq, offq + i, none⟩ = some (.int .u32 (q : Int)) := (hWW.cell (p := ⟨bq, offq + i, none⟩) hbq').trans hcq
                have f4 : V.cell? ⟨w1.heap.size, 0, none⟩ = some (.pointer (some ⟨b, 0, none⟩)) := by simp [World.cell?, hcbV]
                have z0 : b4 < V.heap.size := by omega
                have z1 : w.heap.size < V.heap.size := by omega
                have z3 : bq < V.heap.size := by omega
                have z4 : w1.heap.size < V.heap.size := by omega
                have HX := Lib.hid hx
                have HDI := Lib.hid hDI
                have HWV := Lib.hid hWW
                have HMK := Lib.hid hMk
                have HIB := Lib.hid hibc
                have HB4 := Lib.hid hb4
                clear hx he3b he3c hae hsh3 hc4 hcq hpV hcbV hDI hWW hMk hibc hBV
                have hc24 : lv ≤ ccap := by omega
                by_cases hgt : (q : Int) / 2 < (x : Int)
                · have hxb : -2147483648 ≤ (x : Int) - (q : Int) ∧ (x : Int) - (q : Int) ≤ 2147483648 := by omega
                  have hcent : cent q x = (x : Int) - (q : Int) := by unfold cent; rw [if_pos (by omega)]
                  gi_wp2_with fail
                  refine ⟨trivial, (digits_in _ b _ _).mono ?_⟩
                  rintro e w4 ⟨rfl, rfl⟩
                  have HXV := Lib.hid hxb
                  have HCE := Lib.hid hcent
                  clear hxb hcent
                  gi_wp2_with fail
                  obtain ⟨w5, hw5⟩ : ∃ w5, w5 = ((V.alloc (.cells #[.int .i64 (j : Int)] 3)).alloc (.cells #[.pointer (some ⟨b, 0, none⟩)] 52)).alloc (.cells #[.int .i64 ((x : Int) - (q : Int))] 2) := ⟨_, rfl⟩
                  rw [← hw5]
                  have hB5 : Below V.heap.size V w5 := by rw [hw5]; exact (((Below.refl _ _).alloc (Nat.le_refl _) _).alloc (by simp) _).alloc (by simp; omega) _
                  have hs5 : V.heap.size + 3 ≤ w5.heap.size := by rw [hw5]; simp
                  have hs5' : w5.heap.size ≤ V.heap.size + 3 := by rw [hw5]; simp
                  have hj5 : w5.heap[V.heap.size]? = some (.cells #[.int .i64 (j : Int)] 3) := by
                    rw [hw5, Below.heap_alloc _ _ _ (by simp; omega), Below.heap_alloc _ _ _ (by simp)]; exact alloc_last _ _ rfl
                  have hc5 : w5.heap[V.heap.size + 1]? = some (.cells #[.pointer (some ⟨b, 0, none⟩)] 52) := by
                    rw [hw5, Below.heap_alloc _ _ _ (by simp)]; exact alloc_last _ _ (by simp)
                  have hx5 : w5.heap[V.heap.size + 1 + 1]? = some (.cells #[.int .i64 ((x : Int) - (q : Int))] 2) := by
                    rw [hw5]; exact alloc_last _ _ (by simp)
                  clear hw5 f0 f1 f2 f3 f4
                  have hcu5 : CutterAt w5 b w.heap.size width := (hB5.block b (by omega)).trans ((HDI.out.2.1.block b (by omega)).trans HCUF.out)
                  have hD5 := HDI.out.below (hB5.mono hHV)
                  have hh5 : H + T ≤ w5.heap.size := by omega
                  refine wpIn_digits_tmp (n := 6) (by omega) (cb := V.heap.size + 1) (kb := b) (X := V.heap.size + 1 + 1) (p := w.heap.size) rfl width hw1 hw2 ((x : Int) - (q : Int)) HXV.out h HH.out P HPI.out (by omega) (by omega) rfl hc5 hx5 hcu5
                    (DigR H n T (digT h P chain rows) wc iP P j (V.heap.size + 1 + 1) w5) (DigR.own (by omega) hh5)
                    ⟨hD5.imp (fun r c _ _ hd => by omega), fun _ _ => rfl, Nat.le_refl _⟩
                    (fun k => [(92, .int .i64 (k : Int)), (93, .int .i64 (digI h P ((x : Int) - (q : Int)) k)), (18, .int .i64 (k : Int)), (19, .int .i64 (digI h P ((x : Int) - (q : Int)) k))]) ?assign ?body ?done
                  case assign =>
                    intro l k W' K hK
                    gi_wp2
                    all_goals exact hK _ rfl
                  case body =>
                    intro l k U hI hk
                    simp only [List.foldl_cons, List.foldl_nil, List.setIfInBounds_toArray, List.set_cons_succ, List.set_cons_zero]
                    obtain ⟨d, hd⟩ : ∃ d, d = digI h P ((x : Int) - (q : Int)) k := ⟨_, rfl⟩
                    rw [← hd]
                    obtain ⟨hI1, hI2, hI3⟩ := hI
                    have hbU := hI1.2.1
                    have hbxU := (hbU.block bx (by omega)).trans HBXF.out
                    have hobU := (hbU.block ob (by omega)).trans HOI.out
                    have hcbU := (hbU.block w1.heap.size (by omega)).trans HCBF.out
                    have hcuU := (hbU.block b (by omega)).trans HCUF.out
                    have hibU := (hI2 ib ⟨by omega, by omega, by omega⟩).trans ((hB5.block ib (by omega)).trans HIB.out)
                    have hjbU := (hI2 V.heap.size ⟨by omega, by omega, by omega⟩).trans hj5
                    obtain ⟨rr, hrr⟩ : ∃ rr, rr = iP + k := ⟨_, rfl⟩
                    have hrT : rr < T := by omega
                    have y0 : U.cell? ⟨bx, 0, none⟩ = some (.slice (some ⟨ob, 0, none⟩) T T) := by simp [World.cell?, hbxU]
                    have y1 : U.cell? ⟨ib, 0, none⟩ = some (.int .i64 (i : Int)) := by simp [World.cell?, hibU]
                    have y2 : U.cell? ⟨w1.heap.size, 0, none⟩ = some (.pointer (some ⟨b, 0, none⟩)) := by simp [World.cell?, hcbU]
                    have y3 : U.cell? ⟨b, 2, none⟩ = some (.int .i64 (P : Int)) := by rw [HPI.out]; exact (three_cells hcuU).2.2
                    have y4 : U.cell? ⟨ob, rr, none⟩ = some (.slice (some ⟨H + rr, 0, none⟩) n n) := by simp [World.cell?, hobU, ocells_get H T n T rr hrT hrT]
                    have y5 : U.cell? ⟨V.heap.size, 0, none⟩ = some (.int .i64 (j : Int)) := by simp [World.cell?, hjbU]
                    have y6 : U.frozen? ⟨H + rr, j, none⟩ = false := by obtain ⟨f, hf, -⟩ := hI1.1; exact hf.frozen rr j hrT
                    have y7 : ∃ y, U.cell? ⟨H + rr, j, none⟩ = some y := by obtain ⟨f, hf, -⟩ := hI1.1; exact ⟨_, hf.cell rr j hrT hlj⟩
                    obtain ⟨y, y7⟩ := y7
                    have hiP1 : (i : Int) * (P : Int) = (iP : Int) := by rw [HIP.out]; simp
                    have hrr1 : (iP : Int) + (k : Int) = (rr : Int) := by omega
                    have hwr1 : IntKind.i64.wrap (iP : Int) = (iP : Int) := IntWalk.i64_in _ (by omega)
                    have hwr2 : IntKind.i64.wrap (rr : Int) = (rr : Int) := IntWalk.i64_in _ (by omega)
                    have HI1 := Lib.hid hI1
                    have HI2 := Lib.hid hI2
                    have HRR := Lib.hid hrr
                    have HD := Lib.hid hd
                    clear hI1 hI2 hrr hd hbU hbxU hobU hcbU hcuU hibU hjbU
                    gi_wp2_with fail
                    refine wpInR_region_store_lit 14 _ rfl rfl (by kernel_rfl) rfl rfl (by kernel_rfl) (by kernel_rfl) (by kernel_rfl) (by kernel_rfl) ?_
                    simp only [List.take_succ_cons, List.take_zero, List.cons_append, List.nil_append, Oper.idle]
                    repeat (go_big_quiet_step (fail))
                    refine wpQuiet_nil ?_
                    rintro _ ⟨nq, rfl⟩
                    unfold Oper.wpIn
                    refine ⟨fun _ _ => trivial, ?_⟩
                    rw [Oper.semAt_eq _ _ _ (by intro c hc; cases hc)]
                    go_simp
                    have hdt : d = digT h P chain rows rr j := by
                      rw [HRR.out, HIP.out, digT_at _ _ _ _ _ _ _ hk, HD.out]
                      simp only [List.getD_eq_getElem?_getD, HQ.out, HROW.out, HX.out, Option.getD_some, HCE.out]
                    refine ⟨keepsFrom_setCell (keepsFrom_drewN (KeepsFrom.refl _ _) _) _ _, ((KeepP.refl U).drewN nq).setCell (fun hb' => by rcases hb' with hb' | hb' | hb' <;> simp at hb' <;> omega) _, ?_, ((HI2.out).drewN nq).setCell (fun hb' => by have := hb'.2.1; simp at this; omega) _, by simpa using hI3⟩
                    exact (HI1.out.below (below_drewN (Below.refl _ _) nq)).set rr j hrT d hdt (fun r c _ _ hd' => by have := HRR.out; omega)
                  case done =>
                    intro D U hD hI hdf
                    obtain ⟨hI1, hI2, hI3⟩ := hI
                    have hnI : DigI H n T (digT h P chain rows) wc (fun r c => r < iP ∨ (r < iP + P ∧ c < j + 1)) U := hI1.imp (fun r c _ _ hd' => by omega)
                    have hnW : Below W0.heap.size W0 U := HB02.out.trans ((HBF.out.mono HB02.out.size).trans (hI1.2.1.mono (by have := HB02.out.size; omega)))
                    have hnib := (hI2 ib ⟨by omega, by omega, by omega⟩).trans ((hB5.block ib (by omega)).trans HIB.out)
                    have hkm : ∀ E, H + T ≤ E → V.heap[E]? = some (.deferred (some [])) → U.heap[E]? = some (.deferred (some [])) := fun E hE he => by
                      have hlE := lt_of_heap he
                      exact (hI2 E ⟨by omega, hE, by omega⟩).trans ((hB5.block E hlE).trans he)
                    have hnM : Marks (H + T) (mark D :: ds) U := HMK.out.cons hkm D (by omega) hHV hdf
                    have HNI := Lib.hid hnI
                    have HNW := Lib.hid hnW
                    have HNIB := Lib.hid hnib
                    have HNM := Lib.hid hnM
                    clear hI1 hI2 hI3 hnI hnW hnib hkm hnM hdf
                    gi_wp2
                    exact HKI.out _ _ ⟨⟨j + 1, mark D :: ds, _, _, _, _, _, _, _, _, _, _, _, _, _, _, _, _, _, _, _, _, _, _, _, _, _, _, _, _, _, _, _, _, _, _, _, _, _, _, _, _, _, _, _, _, _, _, _, _, _, _, _, by omega, HNI.out, HNW.out, HNIB.out, HNM.out, rfl⟩, by simp [intOf]; omega⟩
                · have hxb : -2147483648 ≤ (x : Int) ∧ (x : Int) ≤ 2147483648 := by omega
                  have hcent : cent q x = (x : Int) := by unfold cent; rw [if_neg (by omega)]
                  gi_wp2_with fail
                  refine ⟨trivial, (digits_in _ b _ _).mono ?_⟩
                  rintro e w4 ⟨rfl, rfl⟩
                  have HXV := Lib.hid hxb
                  have HCE := Lib.hid hcent
                  clear hxb hcent
                  gi_wp2_with fail
                  obtain ⟨w5, hw5⟩ : ∃ w5, w5 = ((V.alloc (.cells #[.int .i64 (j : Int)] 3)).alloc (.cells #[.pointer (some ⟨b, 0, none⟩)] 52)).alloc (.cells #[.int .i64 ((x : Int))] 2) := ⟨_, rfl⟩
                  rw [← hw5]
                  have hB5 : Below V.heap.size V w5 := by rw [hw5]; exact (((Below.refl _ _).alloc (Nat.le_refl _) _).alloc (by simp) _).alloc (by simp; omega) _
                  have hs5 : V.heap.size + 3 ≤ w5.heap.size := by rw [hw5]; simp
                  have hs5' : w5.heap.size ≤ V.heap.size + 3 := by rw [hw5]; simp
                  have hj5 : w5.heap[V.heap.size]? = some (.cells #[.int .i64 (j : Int)] 3) := by
                    rw [hw5, Below.heap_alloc _ _ _ (by simp; omega), Below.heap_alloc _ _ _ (by simp)]; exact alloc_last _ _ rfl
                  have hc5 : w5.heap[V.heap.size + 1]? = some (.cells #[.pointer (some ⟨b, 0, none⟩)] 52) := by
                    rw [hw5, Below.heap_alloc _ _ _ (by simp)]; exact alloc_last _ _ (by simp)
                  have hx5 : w5.heap[V.heap.size + 1 + 1]? = some (.cells #[.int .i64 ((x : Int))] 2) := by
                    rw [hw5]; exact alloc_last _ _ (by simp)
                  clear hw5 f0 f1 f2 f3 f4
                  have hcu5 : CutterAt w5 b w.heap.size width := (hB5.block b (by omega)).trans ((HDI.out.2.1.block b (by omega)).trans HCUF.out)
                  have hD5 := HDI.out.below (hB5.mono hHV)
                  have hh5 : H + T ≤ w5.heap.size := by omega
                  refine wpIn_digits_tmp (n := 6) (by omega) (cb := V.heap.size + 1) (kb := b) (X := V.heap.size + 1 + 1) (p := w.heap.size) rfl width hw1 hw2 ((x : Int)) HXV.out h HH.out P HPI.out (by omega) (by omega) rfl hc5 hx5 hcu5
                    (DigR H n T (digT h P chain rows) wc iP P j (V.heap.size + 1 + 1) w5) (DigR.own (by omega) hh5)
                    ⟨hD5.imp (fun r c _ _ hd => by omega), fun _ _ => rfl, Nat.le_refl _⟩
                    (fun k => [(92, .int .i64 (k : Int)), (93, .int .i64 (digI h P ((x : Int)) k)), (18, .int .i64 (k : Int)), (19, .int .i64 (digI h P ((x : Int)) k))]) ?assign ?body ?done
                  case assign =>
                    intro l k W' K hK
                    gi_wp2
                    all_goals exact hK _ rfl
                  case body =>
                    intro l k U hI hk
                    simp only [List.foldl_cons, List.foldl_nil, List.setIfInBounds_toArray, List.set_cons_succ, List.set_cons_zero]
                    obtain ⟨d, hd⟩ : ∃ d, d = digI h P ((x : Int)) k := ⟨_, rfl⟩
                    rw [← hd]
                    obtain ⟨hI1, hI2, hI3⟩ := hI
                    have hbU := hI1.2.1
                    have hbxU := (hbU.block bx (by omega)).trans HBXF.out
                    have hobU := (hbU.block ob (by omega)).trans HOI.out
                    have hcbU := (hbU.block w1.heap.size (by omega)).trans HCBF.out
                    have hcuU := (hbU.block b (by omega)).trans HCUF.out
                    have hibU := (hI2 ib ⟨by omega, by omega, by omega⟩).trans ((hB5.block ib (by omega)).trans HIB.out)
                    have hjbU := (hI2 V.heap.size ⟨by omega, by omega, by omega⟩).trans hj5
                    obtain ⟨rr, hrr⟩ : ∃ rr, rr = iP + k := ⟨_, rfl⟩
                    have hrT : rr < T := by omega
                    have y0 : U.cell? ⟨bx, 0, none⟩ = some (.slice (some ⟨ob, 0, none⟩) T T) := by simp [World.cell?, hbxU]
                    have y1 : U.cell? ⟨ib, 0, none⟩ = some (.int .i64 (i : Int)) := by simp [World.cell?, hibU]
                    have y2 : U.cell? ⟨w1.heap.size, 0, none⟩ = some (.pointer (some ⟨b, 0, none⟩)) := by simp [World.cell?, hcbU]
                    have y3 : U.cell? ⟨b, 2, none⟩ = some (.int .i64 (P : Int)) := by rw [HPI.out]; exact (three_cells hcuU).2.2
                    have y4 : U.cell? ⟨ob, rr, none⟩ = some (.slice (some ⟨H + rr, 0, none⟩) n n) := by simp [World.cell?, hobU, ocells_get H T n T rr hrT hrT]
                    have y5 : U.cell? ⟨V.heap.size, 0, none⟩ = some (.int .i64 (j : Int)) := by simp [World.cell?, hjbU]
                    have y6 : U.frozen? ⟨H + rr, j, none⟩ = false := by obtain ⟨f, hf, -⟩ := hI1.1; exact hf.frozen rr j hrT
                    have y7 : ∃ y, U.cell? ⟨H + rr, j, none⟩ = some y := by obtain ⟨f, hf, -⟩ := hI1.1; exact ⟨_, hf.cell rr j hrT hlj⟩
                    obtain ⟨y, y7⟩ := y7
                    have hiP1 : (i : Int) * (P : Int) = (iP : Int) := by rw [HIP.out]; simp
                    have hrr1 : (iP : Int) + (k : Int) = (rr : Int) := by omega
                    have hwr1 : IntKind.i64.wrap (iP : Int) = (iP : Int) := IntWalk.i64_in _ (by omega)
                    have hwr2 : IntKind.i64.wrap (rr : Int) = (rr : Int) := IntWalk.i64_in _ (by omega)
                    have HI1 := Lib.hid hI1
                    have HI2 := Lib.hid hI2
                    have HRR := Lib.hid hrr
                    have HD := Lib.hid hd
                    clear hI1 hI2 hrr hd hbU hbxU hobU hcbU hcuU hibU hjbU
                    gi_wp2_with fail
                    refine wpInR_region_store_lit 14 _ rfl rfl (by kernel_rfl) rfl rfl (by kernel_rfl) (by kernel_rfl) (by kernel_rfl) (by kernel_rfl) ?_
                    simp only [List.take_succ_cons, List.take_zero, List.cons_append, List.nil_append, Oper.idle]
                    repeat (go_big_quiet_step (fail))
                    refine wpQuiet_nil ?_
                    rintro _ ⟨nq, rfl⟩
                    unfold Oper.wpIn
                    refine ⟨fun _ _ => trivial, ?_⟩
                    rw [Oper.semAt_eq _ _ _ (by intro c hc; cases hc)]
                    go_simp
                    have hdt : d = digT h P chain rows rr j := by
                      rw [HRR.out, HIP.out, digT_at _ _ _ _ _ _ _ hk, HD.out]
                      simp only [List.getD_eq_getElem?_getD, HQ.out, HROW.out, HX.out, Option.getD_some, HCE.out]
                    refine ⟨keepsFrom_setCell (keepsFrom_drewN (KeepsFrom.refl _ _) _) _ _, ((KeepP.refl U).drewN nq).setCell (fun hb' => by rcases hb' with hb' | hb' | hb' <;> simp at hb' <;> omega) _, ?_, ((HI2.out).drewN nq).setCell (fun hb' => by have := hb'.2.1; simp at this; omega) _, by simpa using hI3⟩
                    exact (HI1.out.below (below_drewN (Below.refl _ _) nq)).set rr j hrT d hdt (fun r c _ _ hd' => by have := HRR.out; omega)
                  case done =>
                    intro D U hD hI hdf
                    obtain ⟨hI1, hI2, hI3⟩ := hI
                    have hnI : DigI H n T (digT h P chain rows) wc (fun r c => r < iP ∨ (r < iP + P ∧ c < j + 1)) U := hI1.imp (fun r c _ _ hd' => by omega)
                    have hnW : Below W0.heap.size W0 U := HB02.out.trans ((HBF.out.mono HB02.out.size).trans (hI1.2.1.mono (by have := HB02.out.size; omega)))
                    have hnib := (hI2 ib ⟨by omega, by omega, by omega⟩).trans ((hB5.block ib (by omega)).trans HIB.out)
                    have hkm : ∀ E, H + T ≤ E → V.heap[E]? = some (.deferred (some [])) → U.heap[E]? = some (.deferred (some [])) := fun E hE he => by
                      have hlE := lt_of_heap he
                      exact (hI2 E ⟨by omega, hE, by omega⟩).trans ((hB5.block E hlE).trans he)
                    have hnM : Marks (H + T) (mark D :: ds) U := HMK.out.cons hkm D (by omega) hHV hdf
                    have HNI := Lib.hid hnI
                    have HNW := Lib.hid hnW
                    have HNIB := Lib.hid hnib
                    have HNM := Lib.hid hnM
                    clear hI1 hI2 hI3 hnI hnW hnib hkm hnM hdf
                    gi_wp2
                    exact HKI.out _ _ ⟨⟨j + 1, mark D :: ds, _, _, _, _, _, _, _, _, _, _, _, _, _, _, _, _, _, _, _, _, _, _, _, _, _, _, _, _, _, _, _, _, _, _, _, _, _, _, _, _, _, _, _, _, _, _, _, _, _, _, _, by omega, HNI.out, HNW.out, HNIB.out, HNM.out, rfl⟩, by simp [intOf]; omega⟩
              · obtain rfl : j = n := by omega
                have hsuc : iP + P = (i + 1) * P := by rw [HIP.out, Nat.succ_mul]
                have hnI : DigI H j T (digT h P chain rows) wc (fun r _ => r < (i + 1) * P) V := hDI.imp (fun r c _ hc hd' => by omega)
                have HNI := Lib.hid hnI
                have HNM := Lib.hid hMk
                clear hDI hWW hMk hibc hBV hnI hsuc
                gi_wp2
                exact HKO.out _ _ ⟨⟨i + 1, ds, _, _, _, _, _, _, _, _, _, _, _, _, _, _, _, _, _, _, _, _, _, _, _, _, _, _, _, _, _, _, _, _, _, _, _, _, _, _, _, _, _, _, _, _, _, _, _, _, _, _, _, _, _, _, _, _, by omega, HNI.out, HNM.out, rfl⟩, by simp [intOf]; omega⟩
          · obtain rfl : i = lv := by omega
            have hbW := hDI.2.1
            have hbxW := (hbW.block bx (by omega)).trans HBXF.out
            have hobW := (hbW.block ob (by omega)).trans HOI.out
            have y0 : W.cell? ⟨bx, 0, none⟩ = some (.slice (some ⟨ob, 0, none⟩) T T) := by simp [World.cell?, hbxW]
            have HDI := Lib.hid hDI
            have HMK := Lib.hid hMk
            have HBW := Lib.hid hbW
            have HOB := Lib.hid hobW
            clear hDI hMk hbW hbxW hobW
            gi_wp2
            refine leaves_marks (B := H + T) ds W HMK.out HDI.out.2.2 fun W' hB' => ?_
            obtain ⟨⟨f, hf1, hf2⟩, -, hsW⟩ := HDI.out.below hB'
            have hobW' := (hB'.block ob (by omega)).trans HOB.out
            refine ⟨.tuple #[.slice (some ⟨ob, 0, none⟩) T T, .int .i64 0], ?_, ⟨⟨_, rfl, ?_⟩, ?_⟩⟩
            · simp [results, Try.results11, go_sem]
            · have hrw := hf1.rows (i := T) (by unfold maxLen; omega) (by unfold maxLen; omega) hobW' (Nat.le_refl _)
              have hde : digL h P n chain rows T = (List.range T).map fun r => (List.range n).map (f r) := by
                unfold digL
                refine List.map_congr_left fun r hr => List.map_congr_left fun c hc => ?_
                rw [List.mem_range] at hr hc
                exact (hf2 r c hr hc (by rw [← HT.out]; exact hr)).symm
              rw [hde]; exact hrw
            · exact hBW2.trans ((HBF.out.mono hBW2.size).trans ((HBW.out.mono (by have := hBW2.size; omega)).trans (hB'.mono (by have := hBW2.size; omega))))
end Go.Proofs.Ytpcpgmgpkegjlaa
