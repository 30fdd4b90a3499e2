/- Walks: the reference's residue, and its elements of integers. -/
import Derived.Test.YtpcpgmgpkegjlaaGH0
namespace Go.Proofs.Ytpcpgmgpkegjlaa
open Go.RowKit Go.Shelf Go.BigFrame
set_option maxHeartbeats 2000000 in
theorem residue_any (x : Int) (_hx1 : -9223372036854775808 ≤ x) (_hx2 : x ≤ 9223372036854775807) (q : Nat) (hq : 0 < q) (hq2 : q < 4294967296) (w : World) :
    Calls Try.prog 43 #[.int .i64 x, .int .u32 (q : Int)] w fun e w' => e = .returned (.int .u64 (resN q x : Int)) ∧ w = w' := by
  obtain ⟨d, hd, hd1, hd2, hd3, hd4⟩ := tmod_parts x q hq
  have hne : ((q : Int) == 0) = false := by rw [beq_eq_false_iff_ne]; omega
  have hrl := resN_lt q x hq
  obtain ⟨r, hr⟩ : ∃ r, r = resN q x := ⟨_, rfl⟩
  rw [← hr] at hd3 hd4 hrl ⊢
  clear hr
  by_cases hdn : d < 0
  · have hd3 := hd3 hdn
    clear hd4
    go_enter Try.func43, Try.ntmps43
    go_wp2
    go_ret
    exact ⟨rfl, rfl⟩
  · have hd4 := hd4 (by omega)
    clear hd3
    subst hd4
    go_enter Try.func43, Try.ntmps43
    go_wp2
    go_ret
    exact ⟨rfl, rfl⟩
theorem modl_ok {N : Int} {chain : List Nat} {sp lv : Nat} {special : Bool} (hv : validB N chain sp = true) (hp : placeB chain sp (lv : Int) special = true) : ∀ q ∈ modl chain sp lv special, 3 ≤ q ∧ q ≤ 2147483647 := by
  intro q hq
  obtain ⟨i, hi, rfl⟩ := List.getElem_of_mem hq
  exact modAt_ok hv hp ⟨i, hi⟩
set_option maxRecDepth 100000 in
set_option maxHeartbeats 40000000 in
theorem rfromInts_any (N pr pw wt er : Int) (cv : Value) (chain : List Nat) (sp : Nat) (level : Int) (special : Bool) (lw : Value) (l : List Int) (w : World) (hr : w.reads w.heap.size cv (chain.map u32V)) (hl : w.reads w.heap.size lw (l.map i64V)) (hlb : ∀ x ∈ l, -9223372036854775808 ≤ x ∧ x ≤ 9223372036854775807) :
    Calls Try.prog 24 #[.agg #[.int .i64 N, .int .u32 pr, .int .i64 pw, cv, .int .u32 (sp : Int), .int .i64 wt, .int .u32 er], .int .i64 level, .bool special, lw] w (EltPost (intsB N chain sp level special l) level special (intRows (modl chain sp level.toNat special) l) w) := by
  obtain ⟨r, hrr⟩ : ∃ r, r = intsB N chain sp level special l := ⟨_, rfl⟩
  obtain ⟨mr, hmr⟩ : ∃ mr, mr = intRows (modl chain sp level.toNat special) l := ⟨_, rfl⟩
  rw [← hmr]
  have HMR := Lib.hid hmr
  have hpost : ∀ e w', ((if r then ∃ rv, e = .returned (.tuple #[.agg #[.int .i64 level, .bool special, rv], .int .i64 0]) ∧ w'.rowsO u32V w.heap.size 23 22 rv mr
    else e = .returned (.tuple #[.agg #[.int .i64 0, .bool false, .slice none 0 0], .int .i64 2])) ∧ Below w.heap.size w w') → EltPost r level special mr w e w' := by
    intro e w' h; unfold EltPost; exact h
  rw [← hrr]
  clear hmr
  unfold intsB preB at hrr
  have HPOST := Lib.hid hpost
  obtain ⟨a, cap, rfl, hcap, hmx, -⟩ := reads_u32 hr
  obtain ⟨la, lcap, rfl, hlc, hlm, hls⟩ := reads_i64 hl
  obtain ⟨W0, hW0⟩ : ∃ W0, W0 = (w.alloc (.cells #[.int .i64 N, .int .u32 pr, .int .i64 pw, .slice a chain.length cap, .int .u32 (sp : Int), .int .i64 wt, .int .u32 er] 25)).alloc (.cells #[.int .i64 0, .bool false, .slice none 0 0] 28) := ⟨_, rfl⟩
  have hB0 : Below w.heap.size w W0 := by rw [hW0]; exact ((Below.refl _ w).alloc (Nat.le_refl _) _).alloc (by simp) _
  have g0 : W0.heap[w.heap.size]? = some (.cells #[.int .i64 N, .int .u32 pr, .int .i64 pw, .slice a chain.length cap, .int .u32 (sp : Int), .int .i64 wt, .int .u32 er] 25) := by rw [hW0, Below.heap_alloc _ _ _ (by simp)]; exact alloc_last _ _ rfl
  have e0 : W0.heap[w.heap.size + 1]? = some (.cells #[.int .i64 0, .bool false, .slice none 0 0] 28) := by rw [hW0]; exact alloc_last _ _ (by simp)
  have hz0 := lt_of_heap e0
  have hz1 : w.heap.size < W0.heap.size := by omega
  have HR0 := Lib.hid ((hr.below hB0).mono hB0.size)
  have HV := Lib.hid (valid09_any N pr pw wt er _ chain sp W0 HR0.out)
  have HP := Lib.hid (fun W hb => rplace_any N pr pw wt er _ chain sp level special W ((HR0.out.below hb).mono (Below.size hb)))
  have HMO := Lib.hid (fun W hb lv h1 h2 h3 => rmoduli_any N pr pw wt er _ chain sp lv special W ((HR0.out.below hb).mono (Below.size hb)) h1 h2 h3)
  unfold OkPost at HV HP
  unfold ModPost at HMO
  obtain ⟨vb, hvb⟩ : ∃ vb, vb = validB N chain sp := ⟨_, rfl⟩
  rw [← hvb] at HV hrr
  have HVB := Lib.hid hvb
  obtain ⟨pb, hpb⟩ : ∃ pb, pb = placeB chain sp level special := ⟨_, rfl⟩
  rw [← hpb] at HP hrr
  have HPB := Lib.hid hpb
  have HR := Lib.hid hrr
  have HLS := Lib.hid hls
  have HLB := Lib.hid hlb
  obtain ⟨m, hm⟩ : ∃ m, m = chain.length := ⟨_, rfl⟩
  obtain ⟨L, hL⟩ : ∃ L, L = l.length := ⟨_, rfl⟩
  have hlen := hl.le_map
  rw [← hm] at hcap g0 HV HP HMO hW0 ⊢
  rw [← hL] at hlc hlen HR ⊢
  have HM := Lib.hid hm
  have HL := Lib.hid hL
  obtain ⟨c0, c1, c2, c3, c4, c5, c6⟩ := par_cells g0
  obtain ⟨k0, k1, k2, f0, f1, f2⟩ := elem_cells e0
  have HG0 := Lib.hid g0
  have HE0 := Lib.hid e0
  have HW0 := Lib.hid hW0
  clear hr hl g0 e0 hW0 hm hL hrr hvb hpb hpost hls hlb
  cases vb
  · obtain rfl : r = false := by rw [HR.out]; rfl
    go_enter Try.func24, Try.ntmps24
    go_upto_region 1 with (fail)
    rw [← HW0.out]
    go_wp2_with fail
    refine HV.out.mono ?_
    rintro e w1 ⟨rfl, hb1⟩
    have he1 := (hb1.block _ hz0).trans HE0.out
    clear k0 k1 k2 f0 f1 f2
    obtain ⟨k0, k1, k2, f0, f1, f2⟩ := elem_cells he1
    go_wp2
    refine bodyPost_ret (v := .tuple #[.agg #[.int .i64 0, .bool false, .slice none 0 0], .int .i64 2]) ?_ rfl (HPOST.out _ _ ⟨rfl, ?_⟩)
    · simp [results, Try.results24, go_sem, k0, k1, k2]
    · exact (((hB0.trans (hb1.mono hB0.size)).setCell (by simp) _).setCell (by simp) _).setCell (by simp) _
  go_enter Try.func24, Try.ntmps24
  go_upto_region 1 with (fail)
  rw [← HW0.out]
  go_wp2_with fail
  refine HV.out.mono ?_
  rintro e w1 ⟨rfl, hb1⟩
  have hg1 := (hb1.block _ hz1).trans HG0.out
  clear c0 c1 c2 c3 c4 c5 c6 k0 k1 k2 f0 f1 f2
  obtain ⟨c0, c1, c2, c3, c4, c5, c6⟩ := par_cells hg1
  have HP1 := HP.out w1 hb1
  have hs1 := hb1.size
  clear hg1
  go_wp2_with fail
  refine HP1.mono ?_
  rintro e w2 ⟨rfl, hb2⟩
  have hB2 := hb1.trans (hb2.mono hs1)
  have hg2 := (hB2.block _ hz1).trans HG0.out
  have he2 := (hB2.block _ hz0).trans HE0.out
  have hs2 := hB2.size
  clear HP1 c0 c1 c2 c3 c4 c5 c6
  obtain ⟨c0, c1, c2, c3, c4, c5, c6⟩ := par_cells hg2
  obtain ⟨k0, k1, k2, f0, f1, f2⟩ := elem_cells he2
  have hBw := hB0.trans (hB2.mono hB0.size)
  have l1 : w.heap.size < w2.heap.size := by omega
  have l2 : w.heap.size + 1 < w2.heap.size := by omega
  cases pb
  · obtain rfl : r = false := by rw [HR.out]; rfl
    clear hg2 he2
    go_wp2
    refine bodyPost_ret (v := .tuple #[.agg #[.int .i64 0, .bool false, .slice none 0 0], .int .i64 2]) ?_ rfl (HPOST.out _ _ ⟨rfl, ?_⟩)
    · simp [results, Try.results24, go_sem, k0, k1, k2]
    · exact ((hBw.setCell (by simp) _).setCell (by simp) _).setCell (by simp) _
  obtain ⟨n, rfl, hn1, hn2⟩ := sizeB_nat HVB.out.symm
  by_cases hLn : L = n
  case neg =>
    obtain rfl : r = false := by rw [HR.out]; simp; omega
    have t1 : ((L : Int) != (n : Int)) = true := by rw [bne_iff_ne]; omega
    clear hg2 he2 hLn
    go_wp2
    refine bodyPost_ret (v := .tuple #[.agg #[.int .i64 0, .bool false, .slice none 0 0], .int .i64 2]) ?_ rfl (HPOST.out _ _ ⟨rfl, ?_⟩)
    · simp [results, Try.results24, go_sem, k0, k1, k2]
    · exact ((hBw.setCell (by simp) _).setCell (by simp) _).setCell (by simp) _
  subst hLn
  have t1 : ((L : Int) != (L : Int)) = false := by simp
  obtain rfl : r = true := by rw [HR.out]; simp
  obtain ⟨lv, rfl, hl1, hl2⟩ := levB_nat HPB.out.symm
  have h24 := (validB_len HVB.out.symm).2
  have hmok := modl_ok HVB.out.symm HPB.out.symm
  have hml := modl_length chain sp lv special hl2
  have HPOST2 : Hid (∀ (w' : World) (rv : Value), w'.rowsO u32V w.heap.size 23 22 rv mr → Below w.heap.size w w' → EltPost true (lv : Int) special mr w (.returned (.tuple #[.agg #[.int .i64 (lv : Int), .bool special, rv], .int .i64 0])) w') :=
    fun w' rv h1 h2 => ⟨by rw [if_pos rfl]; exact ⟨rv, rfl, h1⟩, h2⟩
  have HMR2 : Hid (mr = intRows (modl chain sp lv special) l) := by show _ = _; rw [HMR.out, Int.toNat_natCast]
  obtain ⟨ml, hmlE⟩ : ∃ ml, ml = modl chain sp lv special := ⟨_, rfl⟩
  have HMO2 := Lib.hid (fun W hb => HMO.out W hb lv hl1 (by rw [HM.out]; exact hl2) (by rw [HM.out]; exact h24))
  rw [← hmlE] at HMR2 hmok hml HMO2
  have hRb : ml.length ≤ 25 := by rw [hml]; split <;> omega
  have HMOK := Lib.hid hmok
  clear hg2 he2 k0 k1 k2 f0 f1 f2 HPOST HR hmlE hml hmok hl1 hl2 h24 HV HP
  obtain ⟨W3, hW3⟩ : ∃ W3, W3 = w2.alloc (.cells #[.int .i64 (lv : Int), .bool special, .slice none 0 0] 28) := ⟨_, rfl⟩
  have hb3 : Below w2.heap.size w2 W3 := by rw [hW3]; exact (Below.refl _ _).alloc (Nat.le_refl _) _
  have g3 : W3.heap[w2.heap.size]? = some (.cells #[.int .i64 (lv : Int), .bool special, .slice none 0 0] 28) := by rw [hW3]; exact alloc_last _ _ rfl
  have hz3 := lt_of_heap g3
  have hB3 := hB2.trans (hb3.mono hs2)
  have HM3 := HMO2.out W3 hB3
  have hg3 := (hB3.block _ hz1).trans HG0.out
  have HW3 := Lib.hid hW3
  have d0 : (w2.alloc (.cells #[.int .i64 (lv : Int), .bool special, .slice none 0 0] 28)).cell? ⟨w.heap.size, 0, none⟩ = some (.int .i64 (L : Int)) := by rw [← hW3]; exact (par_cells hg3).1
  have d1 : (w2.alloc (.cells #[.int .i64 (lv : Int), .bool special, .slice none 0 0] 28)).cell? ⟨w.heap.size, 1, none⟩ = some (.int .u32 pr) := by rw [← hW3]; exact (par_cells hg3).2.1
  clear d0 d1 hW3
  go_upto_region 4 with (fail)
  rw [← HW3.out]
  clear c0 c1 c2 c3 c4 c5 c6
  obtain ⟨c0, c1, c2, c3, c4, c5, c6⟩ := par_cells hg3
  go_wp2_with fail
  refine HM3.mono ?_
  rintro e W4 ⟨⟨v, rfl, hv⟩, hb4⟩
  have hB4 := hB3.trans (hb4.mono hB3.size)
  have hs4 := hb4.size
  have hBw4 := hB0.trans (hB4.mono hB0.size)
  have hg4 := (hb4.block _ hz3).trans g3
  have hb34 : w2.heap.size < W4.heap.size := by omega
  obtain ⟨va, vc, rfl, hvc, hvm, hvs⟩ := reads_u32 hv
  have HVS : Hid (∀ (j x : Nat), ml[j]? = some x → ∃ b off, va = some ⟨b, off, none⟩ ∧ b < W4.heap.size ∧ b ≠ w2.heap.size ∧ W4.cell? ⟨b, off + j, none⟩ = some (.int .u32 (x : Int))) := by
    intro j x hj
    obtain ⟨b, off, q1, q2, q3⟩ := hvs j x hj
    exact ⟨b, off, q1, q2, u32_not_elem hg4 q3, q3⟩
  have HLS4 : Hid (∀ (j : Nat) (x : Int), l[j]? = some x → ∃ b off, la = some ⟨b, off, none⟩ ∧ b < w.heap.size ∧ W4.cell? ⟨b, off + j, none⟩ = some (.int .i64 x)) := by
    intro j x hj
    obtain ⟨b, off, q1, q2, q3⟩ := HLS.out j x hj
    exact ⟨b, off, q1, q2, (hBw4.cell (p := ⟨b, off + j, none⟩) q2).trans q3⟩
  obtain ⟨R, hR⟩ : ∃ R, R = ml.length := ⟨_, rfl⟩
  rw [← hR] at hvc hRb ⊢
  have HRR := Lib.hid hR
  have hO0 := OutE.start (w := w) hg4 hBw4
  have HPC := Lib.hid ((hB4.block _ hz1).trans HG0.out)
  have HRC := Lib.hid ((hB4.block _ hz0).trans HE0.out)
  obtain ⟨i0, hi0, hiz, hiz1, hizb⟩ := info_parts info32
  obtain ⟨i1, hi1, hi1z, hi1z1, hi1b⟩ := info_parts infoU32r
  clear c0 c1 c2 c3 c4 c5 c6 hg3 g3 hv hvs hR hg4 HM3 hBw4 hBw hb1 hb2 hb3 hb4 hB2 hB3 hB4 hB0 HMO HMO2
  go_wp2_with fail
  go_loopw [12] (fun ii wr => ∃ k : Nat, k ≤ R ∧ ii = .int .i64 (k : Int) ∧ Hid (OutE w W4 w2.heap.size (lv : Int) special (intRows (ml.take k) l) wr)) (fun ii _ => R - (intOf ii).toNat)
  case atStart => exact ⟨0, Nat.zero_le _, rfl, hO0⟩
  case round =>
    obtain ⟨wo, rfl⟩ : ∃ x, x = wr := ⟨_, rfl⟩
    clear hO0
    obtain ⟨k, hk, rfl, hO⟩ := hrel
    obtain ⟨hsr, hsb⟩ := hO.out.size
    by_cases hlt : k < R
    · obtain ⟨q, hq⟩ : ∃ x, ml[k]? = some x := ⟨ml[k]'(by rw [← HRR.out]; exact hlt), List.getElem?_eq_getElem _⟩
      obtain ⟨vb, vo, rfl, hvb1, hvb2, hcq⟩ := HVS.out k q hq
      have hqr := HMOK.out q (List.mem_of_getElem? hq)
      have hcq2 : wo.cell? ⟨vb, vo + k, none⟩ = some (.int .u32 (q : Int)) := (hO.out.cell hvb1 hvb2).trans hcq
      obtain ⟨c0, -, -, -, -, -, -⟩ := par_cells ((hO.out.block (b := w.heap.size) (by omega) (by omega)).trans HPC.out)
      have HQ := Lib.hid hq
      have z0 : (0 : Int) ≤ (k : Int) := by omega
      have z1 : (k : Int) < (R : Int) := by omega
      clear hq hcq
      go_wp2_with fail
      have hl0 : wo.owns wo.heap.size 22 1 (.slice none 0 0) 0 (((l.take 0).map (resN q)).map u32V) := World.owns_nil _ _ _ _
      go_loopw [13, 14] (fun rw' jj ws => ∃ j : Nat, j ≤ L ∧ jj = .int .i64 (j : Int) ∧ Hid (ws.owns wo.heap.size 22 1 rw' j (((l.take j).map (resN q)).map u32V)) ∧ Below wo.heap.size wo ws) (fun _ jj _ => L - (intOf jj).toNat)
      case atStart => exact ⟨0, Nat.zero_le _, rfl, hl0, Below.refl _ _⟩
      case round =>
        obtain ⟨ws, rfl⟩ : ∃ x, x = wr := ⟨_, rfl⟩
        clear hl0
        obtain ⟨j, hj, rfl, how, hbs⟩ := hrel
        have hss := hbs.size
        have HCS := Lib.hid (bcell hbs).1
        obtain ⟨xa, xc, rfl⟩ := reads_len how.out.reads
        have hll : (((l.take j).map (resN q)).map u32V).length = j := by simp; rw [← HL.out]; omega
        rw [hll] at how ⊢
        have c0s : ws.cell? ⟨w.heap.size, 0, none⟩ = some (.int .i64 (L : Int)) := (HCS.out _ _ (by omega)).trans c0
        by_cases hltj : j < L
        · obtain ⟨x, hx⟩ : ∃ x, l[j]? = some x := ⟨l[j]'(by rw [← HL.out]; exact hltj), List.getElem?_eq_getElem _⟩
          obtain ⟨lb, lo, rfl, hlb1, hcx⟩ := HLS4.out j x hx
          have hxb := HLB.out x (List.mem_of_getElem? hx)
          have hcx2 : ws.cell? ⟨lb, lo + j, none⟩ = some (.int .i64 x) := ((HCS.out _ _ (by omega)).trans (hO.out.cell (by omega) (by omega))).trans hcx
          have hcq3 : ws.cell? ⟨vb, vo + k, none⟩ = some (.int .u32 (q : Int)) := (HCS.out _ _ (by omega)).trans hcq2
          have hrl := resN_lt q x (by omega)
          have HRS := Lib.hid (fun W => residue_any x hxb.1 hxb.2 q (by omega) (by omega) W)
          obtain ⟨rx, hrx⟩ : ∃ rx, rx = resN q x := ⟨_, rfl⟩
          rw [← hrx] at HRS hrl
          have HX := Lib.hid hx
          have HRX := Lib.hid hrx
          have y0 : (0 : Int) ≤ (j : Int) := by omega
          have y1 : (j : Int) < (L : Int) := by omega
          have y2 : (rx : Int) % 4294967296 = (rx : Int) := by omega
          have HCX := Lib.hid hcx
          have HCQ2 := Lib.hid hcq2
          have HN := Lib.hid (news_alloc ws [.int .u32 (IntKind.u32.wrap (rx : Int))] 22)
          have HWR : Hid (IntKind.u32.wrap (rx : Int) = (rx : Int)) := by show _ = _; rw [IntKind.wrap_u32]; exact y2
          clear hx hcx hrx hcq2 c0 hxb hll
          go_upto_region 12 with (fail)
          go_region_held3 (fun w' => w'.cell? ⟨lb, lo + j, none⟩ = some (.int .i64 x) ∧ w'.cell? ⟨vb, vo + k, none⟩ = some (.int .u32 (q : Int)))
            (first | go_keep | exact ⟨hcx2, hcq3⟩ | exact ⟨by assumption, by assumption⟩)
            (first
              | (go_simp; go_at_call 43; refine (HRS.out _).mono ?_; rintro e w3 ⟨rfl, rfl⟩)
              | (refine step_append_owns _ (by rfl) (.tmp 52) (.tmp 63) 23 (by rfl) wo.heap.size 22 i0 (.int .u32 0) 1 4 Try.underlying23 hi0 hiz hiz1 hizb rfl (by decide) (.slice xa j xc) j _ (by rfl) ((how.out.alloc _).drew) ⟨ws.heap.size, 0, none⟩ 1 1 [.int .u32 (IntKind.u32.wrap (rx : Int))] (by rfl) (by rfl) (fun j u h => HN.out j u h) (by simp [Value.oneCell']) (by unfold maxLen; omega) (by omega) (by simp; omega) ?_
                 intro v4 W5 hown4 hg4
                 have hb5 : Below wo.heap.size wo W5 := ((hbs.alloc hss _).drew).grown hg4 (by simp; omega) (fun k hk => (how.out.lt k hk).1)
                 have p1 : W5.cell? ⟨lb, lo + j, none⟩ = some (.int .i64 x) := (hb5.cell (p := ⟨lb, lo + j, none⟩) (show lb < _ by omega)).trans ((hO.out.cell (by omega) (by omega)).trans HCX.out)
                 have p2 : W5.cell? ⟨vb, vo + k, none⟩ = some (.int .u32 (q : Int)) := (hb5.cell (p := ⟨vb, vo + k, none⟩) (show vb < _ by omega)).trans HCQ2.out))
          have HO4 := Lib.hid hown4
          have HB5 := Lib.hid hb5
          clear hown4 hb5 hg4
          go_wp2
          go_roundw
          case rel =>
            refine ⟨j + 1, by omega, by go_num, ?_, HB5.out⟩
            show World.owns _ _ _ _ _ _ _
            have ht : l.take (j + 1) = l.take j ++ [x] := by rw [List.take_add_one, HX.out]; rfl
            rw [ht, List.map_append, List.map_append]
            have := HO4.out
            rw [HWR.out, HRX.out] at this
            exact this
          case measure => simp [intOf]; omega
        · obtain rfl : j = L := by omega
          have hO5 := hO.out.below hbs
          obtain ⟨oa, oc, o1, o2⟩ := hO5.open_
          have hol : (intRows (ml.take k) l).length = k := by unfold intRows; rw [List.length_map, List.length_take, ← HRR.out]; omega
          rw [hol] at o1 o2
          obtain ⟨-, -, e2, -, -, fz2⟩ := elem_cells o1
          have htj : l.take j = l := List.take_of_length_le (by rw [← HL.out]; exact Nat.le_refl _)
          have hu := how.out
          rw [htj] at hu
          have HU : Hid (ws.owns W4.heap.size 22 1 (.slice xa j xc) (l.map (resN q)).length ((l.map (resN q)).map u32V)) := by
            show World.owns _ _ _ _ _ _ _
            rw [List.length_map, ← HL.out]; exact hu.mono hsr
          have hl6 : (intRows (ml.take k) l ++ [l.map (resN q)]).length = k + 1 := by rw [List.length_append, hol]; rfl
          have HO5 := Lib.hid hO5
          have HO1 := Lib.hid o1
          have HO2 := Lib.hid o2
          have hsb2 : w2.heap.size < ws.heap.size := by omega
          clear hO5 o1 o2 hu how hll htj
          go_wp2_with (at_builtin; refine wpList_pushRow rfl (.tmp 66) (.tmp 68) 26 rfl W4.heap.size 23 22 (by decide) i1 (.slice none 0 0) 24 Try.underlying26 hi1 hi1z hi1z1 hi1b rfl (.slice oa k oc) _ rfl HO2.out (.slice xa j xc) (l.map (resN q)) HU.out ws.heap.size rfl rfl rfl (by rw [hol]; unfold maxLen; omega) (by rw [hol]; omega) (by omega) ?_; intro v6 W6 hr6 hz6 hBB6 hKK6; obtain ⟨g6, c6, rfl⟩ := hr6.open_; rw [hl6] at hr6 ⊢; obtain ⟨h16, hO6⟩ := HO5.out.push (by omega) (by omega) hr6 hBB6; obtain ⟨-, -, e26, -, -, f26⟩ := elem_cells (h16 _ HO1.out))
          have HO6 := Lib.hid hO6
          clear hO6 hBB6 hKK6 hr6 h16
          go_wp2
          go_roundw
          case rel =>
            refine ⟨k + 1, by omega, by go_num, ?_⟩
            have ht : ml.take (k + 1) = ml.take k ++ [q] := by rw [List.take_add_one, HQ.out]; rfl
            show OutE _ _ _ _ _ _ _
            rw [ht]
            have := HO6.out
            unfold intRows at this ⊢
            rw [List.map_append]
            exact this
          case measure => simp [intOf]; omega
    · obtain rfl : k = R := by omega
      have hOO := hO.out
      rw [List.take_of_length_le (by rw [← HRR.out]; exact Nat.le_refl _)] at hOO
      obtain ⟨oa, oc, o1, o2⟩ := hOO.open_
      obtain ⟨e0', e1', e2', -, -, -⟩ := elem_cells o1
      have he6 := (hOO.block (b := w.heap.size + 1) (by omega) (by omega)).trans HRC.out
      obtain ⟨k0, k1, k2, f0, f1, f2⟩ := elem_cells he6
      have hlz := lt_of_heap he6
      have HOO := Lib.hid hOO
      have HO1 := Lib.hid o1
      have HE6 := Lib.hid he6
      clear hO hOO o1 o2 he6
      go_wp2
      obtain ⟨W6, hW6⟩ : ∃ W6, W6 = ((wo.setCell ⟨w.heap.size + 1, 0, none⟩ (.int .i64 (lv : Int))).setCell ⟨w.heap.size + 1, 1, none⟩ (.bool special)).setCell ⟨w.heap.size + 1, 2, none⟩ (.slice oa (intRows ml l).length oc) := ⟨_, rfl⟩
      obtain ⟨h6, hr6, hB6⟩ := HOO.out.store HO1.out (by omega) (by omega) HE6.out hW6
      obtain ⟨j0, j1, j2, -, -, -⟩ := elem_cells h6
      rw [← hW6]
      refine bodyPost_ret (v := .tuple #[.agg #[.int .i64 (lv : Int), .bool special, .slice oa (intRows ml l).length oc], .int .i64 0]) ?_ rfl (HPOST2.out _ _ (by rw [HMR2.out]; exact hr6.mono (by have := HOO.out.size; omega)) hB6)
      simp [results, Try.results24, go_sem, j0, j1, j2]
end Go.Proofs.Ytpcpgmgpkegjlaa
