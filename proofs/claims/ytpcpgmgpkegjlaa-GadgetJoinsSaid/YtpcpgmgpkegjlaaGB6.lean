/- Walks: what is joined from digits. -/
import Derived.Test.YtpcpgmgpkegjlaaGB5
namespace Go.Proofs.Ytpcpgmgpkegjlaa
open Go.RowKit Go.Shelf Go.BigFrame
/-- One step of the sum. -/
def joinStep (q : Nat) (width : Int) (s d : Int) : Int := ((s * 2 ^ width.toNat).tmod (q : Int) + d.tmod (q : Int)).tmod (q : Int)
/-- The sum after c steps, from the highest digit on. -/
def joinSum (q : Nat) (width : Int) (P : Nat) (f : Nat → Int) : Nat → Int
  | 0 => 0
  | c + 1 => joinStep q width (joinSum q width P f c) (f (P - 1 - c))
def joinEntry (q : Nat) (width : Int) (P : Nat) (f : Nat → Int) : Nat := ((joinSum q width P f P + (q : Int)).tmod (q : Int)).toNat
/-- The digit k of coefficient j for the modulus i. -/
def digAt (ls : List (List Int)) (P i j k : Nat) : Int := (ls.getD (i * P + k) []).getD j 0
def joinRow (ls : List (List Int)) (n q P : Nat) (width : Int) (i : Nat) : List Nat := (List.range n).map fun j => joinEntry q width P (digAt ls P i j)
def joinRows (chain : List Nat) (ls : List (List Int)) (n P : Nat) (width : Int) (k : Nat) : List (List Nat) := (List.range k).map fun i => joinRow ls n (chain.getD i 0) P width i
theorem joinRows_succ (chain : List Nat) (ls : List (List Int)) (n P : Nat) (width : Int) (k q : Nat) (h : chain[k]? = some q) : joinRows chain ls n P width (k + 1) = joinRows chain ls n P width k ++ [joinRow ls n q P width k] := by
  unfold joinRows; rw [List.range_succ, List.map_append]; simp [List.getD_eq_getElem?_getD, h]
theorem joinRows_length (chain : List Nat) (ls : List (List Int)) (n P : Nat) (width : Int) (k : Nat) : (joinRows chain ls n P width k).length = k := by simp [joinRows]
theorem tmod_range (x : Int) (q : Nat) (hq : 0 < q) : -(q : Int) < x.tmod (q : Int) ∧ x.tmod (q : Int) < (q : Int) := by
  obtain ⟨c, h1, h2, h3, -, -⟩ := tmod_parts x q hq
  rw [h1]; exact ⟨h2, h3⟩
theorem joinSum_range (q : Nat) (hq : 0 < q) (width : Int) (P : Nat) (f : Nat → Int) (c : Nat) : -(q : Int) < joinSum q width P f c ∧ joinSum q width P f c < (q : Int) := by
  cases c with
  | zero => simp [joinSum]; omega
  | succ c => exact tmod_range _ _ hq
theorem joinEntry_int (q : Nat) (hq : 0 < q) (width : Int) (P : Nat) (f : Nat → Int) : (joinEntry q width P f : Int) = (joinSum q width P f P + (q : Int)).tmod (q : Int) ∧ joinEntry q width P f < q := by
  have h1 := joinSum_range q hq width P f P
  have h2 := tmod_range (joinSum q width P f P + (q : Int)) q hq
  have h3 : 0 ≤ (joinSum q width P f P + (q : Int)).tmod (q : Int) := Int.tmod_nonneg _ (by omega)
  unfold joinEntry
  omega
theorem shl_bound (s : Int) (q : Nat) (width : Int) (h1 : 2 ≤ width) (h2 : width ≤ 31) (hs1 : -(q : Int) < s) (hs2 : s < (q : Int)) (hq : q ≤ 2147483648) : ∃ c0 : Int, s * 2 ^ width.toNat = c0 ∧ -4611686018427387904 ≤ c0 ∧ c0 ≤ 4611686018427387904 := by
  obtain ⟨z, hz, hzI, hz2⟩ : ∃ z : Nat, z = 2 ^ width.toNat ∧ (2 : Int) ^ width.toNat = (z : Int) ∧ z ≤ 2147483648 := by
    refine ⟨2 ^ width.toNat, rfl, by simp, ?_⟩
    have h := Nat.pow_le_pow_right (show 0 < 2 by decide) (show width.toNat ≤ 31 by omega)
    have h2 : (2 : Nat) ^ 31 = 2147483648 := by decide
    omega
  refine ⟨_, rfl, ?_, ?_⟩
  · rw [hzI]
    have : -(2147483648 : Int) * 2147483648 ≤ s * (z : Int) := by
      have h3 : -(2147483648 : Int) * (z : Int) ≤ s * (z : Int) := Int.mul_le_mul_of_nonneg_right (by omega) (by omega)
      omega
    omega
  · rw [hzI]
    have h3 : s * (z : Int) ≤ 2147483648 * (z : Int) := Int.mul_le_mul_of_nonneg_right (by omega) (by omega)
    omega
def joinB (N : Int) (chain : List Nat) (sp : Nat) (width level : Int) (ls : List (List Int)) : Bool :=
  madeB N chain sp width && levB chain.length level && decide ((ls.length : Int) = level * partsI width) && ls.all (fun d => decide ((d.length : Int) = N))
def JoinPost (N : Int) (chain : List Nat) (sp : Nat) (width level : Int) (ls : List (List Int)) (w : World) (e : Ending) (w' : World) : Prop :=
  (if joinB N chain sp width level ls then ∃ rv, e = .returned (.tuple #[.agg #[.int .i64 level, .bool false, rv], .int .i64 0]) ∧ w'.rows u32V w'.heap.size rv (joinRows chain ls N.toNat (partsI width).toNat width level.toNat)
    else e = .returned (.tuple #[.agg #[.int .i64 0, .bool false, .slice none 0 0], .int .i64 2])) ∧ Below w.heap.size w w'
set_option maxRecDepth 100000 in
set_option maxHeartbeats 16000000 in
theorem Join_any (N pr pw wt er : Int) (cv : Value) (chain : List Nat) (sp : Nat) (width level : Int) (lw : Value) (ls : List (List Int)) (w : World) (hr : w.reads w.heap.size cv (chain.map u32V)) (hcb : ∀ q ∈ chain, q < 4294967296) (hls : w.rows i64V w.heap.size lw ls) :
    Calls Try.prog 19 #[.agg #[.int .i64 N, .int .u32 pr, .int .i64 pw, cv, .int .u32 (sp : Int), .int .i64 wt, .int .u32 er], .int .i64 width, .int .i64 level, lw] w (JoinPost N chain sp width level ls w) := by
  obtain ⟨W0, hW0⟩ : ∃ W0, W0 = ((w.alloc (.cells #[.int .i64 N, .int .u32 pr, .int .i64 pw, cv, .int .u32 (sp : Int), .int .i64 wt, .int .u32 er] 25)).alloc (.cells #[.int .i64 0, .bool false, .slice none 0 0] 28)) := ⟨_, rfl⟩
  have hB0 : Below w.heap.size w W0 := by rw [hW0]; exact ((Below.refl _ w).alloc (Nat.le_refl _) _).alloc (by simp) _
  have hp0 : W0.heap[w.heap.size]? = some (.cells #[.int .i64 N, .int .u32 pr, .int .i64 pw, cv, .int .u32 (sp : Int), .int .i64 wt, .int .u32 er] 25) := by
    rw [hW0, Below.heap_alloc _ _ _ (by simp)]; exact alloc_last _ _ rfl
  have hc0 : W0.heap[w.heap.size + 1]? = some (.cells #[.int .i64 0, .bool false, .slice none 0 0] 28) := by
    rw [hW0]; exact alloc_last _ _ (by simp)
  have hz0 := lt_of_heap hc0
  have hr0 := (hr.below hB0).mono hB0.size
  have hls0 := (hls.below hB0).mono hB0.size
  have HA := Lib.hid (asked_level N pr pw wt er cv chain sp width level w.heap.size W0 hr0 hcb hp0)
  obtain ⟨r, hrr⟩ : ∃ r, r = joinB N chain sp width level ls := ⟨_, rfl⟩
  have hpost : ∀ e w', ((if r then ∃ rv, e = .returned (.tuple #[.agg #[.int .i64 level, .bool false, rv], .int .i64 0]) ∧ w'.rows u32V w'.heap.size rv (joinRows chain ls N.toNat (partsI width).toNat width level.toNat)
    else e = .returned (.tuple #[.agg #[.int .i64 0, .bool false, .slice none 0 0], .int .i64 2])) ∧ Below w.heap.size w w') → JoinPost N chain sp width level ls w e w' := by
    intro e w' h; unfold JoinPost; rw [← hrr]; exact h
  have HPOST := Lib.hid hpost
  unfold joinB at hrr
  have HR := Lib.hid hrr
  clear hpost hrr
  have HW0 := Lib.hid hW0
  have HP0 := Lib.hid hp0
  have HCB := Lib.hid hcb
  obtain ⟨a, cap, rfl, hcap, hmx, hsh⟩ := reads_u32 hr0
  have HS := Lib.hid hsh
  obtain ⟨la, lcap, rfl, hlcap, hlmx, hlsh⟩ := hls0.shape
  have HLS := Lib.hid hlsh
  clear hsh hr hr0 hcb hW0 hls hls0 hlsh
  obtain ⟨mb, hmb⟩ : ∃ mb, mb = madeB N chain sp width := ⟨_, rfl⟩
  rw [← hmb] at HA HR
  have HMB := Lib.hid hmb
  clear hmb
  unfold AskedPost at HA
  cases mb
  · obtain rfl : r = false := HR.out
    clear hp0
    go_enter Try.func19, Try.ntmps19
    go_wp2_with fail
    rw [← HW0.out]
    refine HA.out.mono ?_
    rintro e w1 ⟨h, hb⟩
    obtain rfl : e = _ := h
    have hc1 := (hb.block _ hz0).trans hc0
    obtain ⟨k0, k1, k2, z0, z1, z2⟩ := elem_cells hc1
    have hB1 := hB0.trans (hb.mono hB0.size)
    clear hc0 hb
    go_wp2
    refine bodyPost_ret (v := .tuple #[.agg #[.int .i64 0, .bool false, .slice none 0 0], .int .i64 2]) ?_ rfl (HPOST.out _ _ ⟨rfl, ?_⟩)
    · simp [results, Try.results19, go_sem, k0, k1, k2]
    · exact ((hB1.setCell (by simp) _).setCell (by simp) _).setCell (by simp) _
  · obtain ⟨hw1, hw2, hv, -⟩ := madeB_parts HMB.out.symm
    obtain ⟨n, rfl, hn1, hn2⟩ := sizeB_nat hv
    have h24 := validB_len hv
    have hcg := chain_ge hv
    clear hv
    obtain ⟨lb, hlb⟩ : ∃ lb, lb = levB chain.length level := ⟨_, rfl⟩
    rw [← hlb] at HA HR
    cases lb
    · obtain rfl : r = false := by have := HR.out; simpa using this
      clear hp0 hlb
      go_enter Try.func19, Try.ntmps19
      go_wp2_with fail
      rw [← HW0.out]
      refine HA.out.mono ?_
      rintro e w1 ⟨h, hb⟩
      rw [if_pos trivial] at h
      obtain ⟨b, rfl, -, -⟩ := h
      have hc1 := (hb.block _ hz0).trans hc0
      obtain ⟨k0, k1, k2, z0, z1, z2⟩ := elem_cells hc1
      have hB1 := hB0.trans (hb.mono hB0.size)
      clear hc0 hb hcg
      go_wp2
      refine bodyPost_ret (v := .tuple #[.agg #[.int .i64 0, .bool false, .slice none 0 0], .int .i64 2]) ?_ rfl (HPOST.out _ _ ⟨rfl, ?_⟩)
      · simp [results, Try.results19, go_sem, k0, k1, k2]
      · exact ((hB1.setCell (by simp) _).setCell (by simp) _).setCell (by simp) _
    · unfold levB at hlb
      rw [eq_comm, Bool.and_eq_true] at hlb
      simp only [decide_eq_true_eq] at hlb
      obtain ⟨lv, rfl⟩ := Int.eq_ofNat_of_zero_le (show 0 ≤ level by omega)
      have hlv1 : 1 ≤ lv := by omega
      have hlv2 : lv ≤ chain.length := by omega
      clear hlb
      have hpb := parts_bound hw1 hw2
      obtain ⟨P, hP⟩ := Int.eq_ofNat_of_zero_le (show 0 ≤ partsI width by omega)
      rw [hP] at hpb HR HPOST
      obtain ⟨T, hT⟩ : ∃ T : Nat, T = lv * P := ⟨_, rfl⟩
      have hTI : (lv : Int) * (P : Int) = (T : Int) := by rw [hT]; simp
      have hTb : T ≤ 24 * 16 := by rw [hT]; exact Nat.mul_le_mul (by omega) (by omega)
      rw [hTI] at HR
      have HT := Lib.hid hT
      have HPD := Lib.hid hP
      clear hT hP
      by_cases hlt : ls.length = T
      · have hall : Hid (r = ls.all (fun d => decide ((d.length : Int) = (n : Int)))) := by
          show _ = _
          rw [HR.out, hlt]; simp
        have hlt1 : ls.length ≤ T := by omega
        have hlt2 : T ≤ ls.length := by omega
        have hlq : ((ls.length : Int) != (T : Int)) = false := by rw [hlt]; simp
        clear hlt
        have hmk := make_u32 n (by omega)
        obtain ⟨i0, hii0, hiz, hiz1, hizb⟩ := info_parts infoRow
        go_enter Try.func19, Try.ntmps19
        go_wp2_with fail
        rw [← HW0.out]
        refine HA.out.mono ?_
        rintro e w1 ⟨h, hb⟩
        rw [if_pos trivial] at h
        obtain ⟨b, rfl, hwbB, hcut⟩ := h
        have hc1 := (hb.block _ hz0).trans hc0
        have hp1 := (hb.block _ (by omega)).trans hp0
        obtain ⟨-, d1, d2⟩ := AskedPost.lev hcut
        rw [HPD.out] at d2
        have hB1 := hB0.trans (hb.mono hB0.size)
        have hs1 := hb.size
        have hbl := lt_of_heap hcut
        obtain ⟨p0, -, -, p3, -, -, -⟩ := par_cells hp1
        obtain ⟨k0, k1, k2, z0, z1, z2⟩ := elem_cells hc1
        have hl1 : w.heap.size < w1.heap.size := by omega
        have hl2 : w.heap.size + 1 < w1.heap.size := by omega
        have HCUT := Lib.hid hcut
        have HC1 := Lib.hid hc1
        have HP1 := Lib.hid hp1
        have hcr : ∀ b' o, b' < W0.heap.size → w1.cell? ⟨b', o, none⟩ = W0.cell? ⟨b', o, none⟩ := fun b' o h => hb.cell (p := ⟨b', o, none⟩) h
        have HCR := Lib.hid hcr
        have HRB := Lib.hid (fun u (xs : List Value) (h : W0.reads W0.heap.size u xs) => h.below hb)
        have HCG := Lib.hid hcg
        clear hc0 hp0 hcut hc1 hp1 hb hcr hcg
        go_wp2
        go_loop [43] (fun ii => ∃ k : Nat, k ≤ ls.length ∧ ii = .int .i64 (k : Int) ∧ Hid ((ls.take k).all (fun d => decide ((d.length : Int) = (n : Int))) = true)) (fun ii => ls.length - (intOf ii).toNat)
        case atStart => exact ⟨0, Nat.zero_le _, rfl, by show _ = _; simp⟩
        case round =>
          obtain ⟨k, hk, rfl, hak⟩ := hrel
          by_cases hlt : k < ls.length
          · obtain ⟨x, hx⟩ : ∃ x, ls[k]? = some x := ⟨ls[k]'hlt, List.getElem?_eq_getElem _⟩
            obtain ⟨b', off, b2, c2, rfl, hbl', hc0, hrd⟩ := HLS.out k x hx
            have hc : w1.cell? ⟨b', off + k, none⟩ = some (.slice b2 x.length c2) := by rw [HCR.out _ _ hbl']; exact hc0
            have HX := Lib.hid hx
            clear hx hc0 hrd
            by_cases hxn : x.length = n
            · have hq : ((x.length : Int) != (n : Int)) = false := by rw [hxn]; simp
              have HXN := Lib.hid hxn
              clear hxn
              go_wp2
              go_round
              case rel => exact ⟨k + 1, by omega, by go_num, by show _ = _; rw [all_take_succ _ _ _ _ HX.out, hak.out, HXN.out]; simp⟩
              case measure => simp [intOf]; omega
            · have hq : ((x.length : Int) != (n : Int)) = true := by rw [bne_iff_ne]; omega
              obtain rfl : r = false := by
                rw [hall.out, List.all_eq_false]
                exact ⟨x, List.mem_of_getElem? HX.out, by simp; omega⟩
              clear hxn
              go_wp2
              refine bodyPost_ret (v := .tuple #[.agg #[.int .i64 0, .bool false, .slice none 0 0], .int .i64 2]) ?_ rfl (HPOST.out _ _ ⟨rfl, ?_⟩)
              · simp [results, Try.results19, go_sem, k0, k1, k2]
              · exact ((hB1.setCell (by simp) _).setCell (by simp) _).setCell (by simp) _
          · obtain rfl : k = ls.length := by omega
            have hak2 := hak.out
            rw [List.take_length] at hak2
            have HALL := Lib.hid hak2
            obtain rfl : r = true := by rw [hall.out]; exact hak2
            clear hak hak2 hall
            have hpost2 : ∀ e w', ((∃ rv, e = .returned (.tuple #[.agg #[.int .i64 (lv : Int), .bool false, rv], .int .i64 0]) ∧ w'.rows u32V w'.heap.size rv (joinRows chain ls n P width lv)) ∧ Below w.heap.size w w') → JoinPost (n : Int) chain sp width (lv : Int) ls w e w' := by
              intro e w' h
              refine HPOST.out e w' ?_
              rw [if_pos rfl]
              simpa using h
            have HPOST2 := Lib.hid hpost2
            clear hpost2 HPOST HA HR k0 k1 k2 z0 z1 z2
            have hlc : (lv : Int) ≤ (cap : Int) := by omega
            have hl0 : (0 : Int) ≤ (lv : Int) := by omega
            go_wp2
            obtain ⟨W2, hW2⟩ : ∃ W2, W2 = w1.alloc (.cells #[.int .i64 (lv : Int), .bool false, .slice none 0 0] 28) := ⟨_, rfl⟩
            have hO2 : OutI (w1.heap.size + 1) w1.heap.size n (lv : Int) false (joinRows chain ls n P width 0) W2 := by
              rw [hW2]; exact ⟨_, [], alloc_last _ _ rfl, World.owns_nil _ _ _ _, RowsL.nil _ _ _⟩
            have hB2 : Below w1.heap.size w1 W2 := by rw [hW2]; exact (Below.refl _ _).alloc (Nat.le_refl _) _
            have hz2 : w1.heap.size + 1 ≤ W2.heap.size := by rw [hW2]; simp
            rw [← hW2]
            clear hW2
            go_loopw [61] (fun ii wr => ∃ i : Nat, i ≤ lv ∧ ii = .int .i64 (i : Int) ∧ OutI (w1.heap.size + 1) w1.heap.size n (lv : Int) false (joinRows chain ls n P width i) wr ∧ Below w1.heap.size w1 wr ∧ w1.heap.size + 1 ≤ wr.heap.size) (fun ii _ => lv - (intOf ii).toNat)
            case atStart => exact ⟨0, Nat.zero_le _, rfl, hO2, hB2, hz2⟩
            case round =>
              obtain ⟨i, hi, rfl, hO, hBr, hsr⟩ := hrel
              obtain ⟨hcw, hfw⟩ := bcell hBr
              obtain ⟨sa, sc, vs, o1, o2, o3⟩ := hO.open_
              have hlr := joinRows_length chain ls n P width i
              have o1' := o1
              rw [hlr] at o1'
              obtain ⟨-, -, e2, -, -, f2⟩ := elem_cells o1'
              have HO1 := Lib.hid o1
              have HO3 := Lib.hid o3
              have o2' := o2
              rw [hlr] at o2'
              have HO2 := Lib.hid o2
              have HO2' := Lib.hid o2'
              have HLR := Lib.hid hlr
              clear hO o1 o1' o2 o2' o3 hlr hO2 hB2
              by_cases hlt : i < lv
              · obtain ⟨q, hq⟩ : ∃ x, chain[i]? = some x := ⟨chain[i]'(by omega), List.getElem?_eq_getElem _⟩
                obtain ⟨b', off, rfl, hbl', hc0⟩ := HS.out i q hq
                have hc : wr.cell? ⟨b', off + i, none⟩ = some (.int .u32 (q : Int)) := by
                  rw [hcw _ _ (by omega), HCR.out _ _ hbl']; exact hc0
                have hqb := HCB.out q (List.mem_of_getElem? hq)
                have hq3 := (HCG.out q (List.mem_of_getElem? hq)).1
                have HQM := Lib.hid (List.mem_of_getElem? hq)
                have HQ := Lib.hid (joinRows_succ chain ls n P width i q hq)
                clear hq hc0
                have s1 : w1.heap.size < wr.heap.size := by omega
                have sb : b < wr.heap.size := by omega
                have sw : w.heap.size < wr.heap.size := by omega
                go_wp2
                obtain ⟨W3, hW3⟩ : ∃ W3, W3 = wr.alloc (.cells (zrow n) 22) := ⟨_, rfl⟩
                have hg3 : W3.heap[wr.heap.size]? = some (.cells (fillTo (fun j => joinEntry q width P (digAt ls P i j)) n 0) 22) := by rw [hW3, fillTo_zero]; exact alloc_last _ _ rfl
                have hB3 : Below wr.heap.size wr W3 := by rw [hW3]; exact (Below.refl _ _).alloc (Nat.le_refl _) _
                have hz3 : wr.heap.size < W3.heap.size := by rw [hW3]; simp
                rw [← hW3]
                clear hW3
                obtain ⟨wo, rfl⟩ : ∃ wo : World, wo = wr := ⟨_, rfl⟩
                go_loopw [71] (fun jj wx => ∃ j : Nat, j ≤ n ∧ jj = .int .i64 (j : Int) ∧ wx.heap[wo.heap.size]? = some (.cells (fillTo (fun j => joinEntry q width P (digAt ls P i j)) n j) 22) ∧ Below wo.heap.size wo wx ∧ wo.heap.size < wx.heap.size) (fun jj _ => n - (intOf jj).toNat)
                case atStart => exact ⟨0, Nat.zero_le _, rfl, hg3, hB3, hz3⟩
                case round =>
                  clear hg3 hB3 hz3
                  obtain ⟨j, hj, rfl, hgj, hBj, hsj⟩ := hrel
                  have hcj : ∀ b o, b < wo.heap.size → wr.cell? ⟨b, o, none⟩ = wo.cell? ⟨b, o, none⟩ := fun b o h => hBj.cell (p := ⟨b, o, none⟩) h
                  by_cases hltj : j < n
                  · have v1 : wr.cell? ⟨b, 1, none⟩ = some (.int .i64 width) := by rw [hcj _ _ (by omega), hcw _ _ (by omega)]; exact d1
                    have v2 : wr.cell? ⟨b, 2, none⟩ = some (.int .i64 (P : Int)) := by rw [hcj _ _ (by omega), hcw _ _ (by omega)]; exact d2
                    have HCJ := Lib.hid hcj
                    clear hcj
                    go_wp2
                    obtain ⟨wp, rfl⟩ : ∃ wp : World, wp = wr := ⟨_, rfl⟩
                    go_loopw [19, 20] (fun ss kk wy => ∃ u nq : Nat, u ≤ P ∧ ss = .int .i64 (joinSum q width P (digAt ls P i j) (P - u)) ∧ kk = .int .i64 ((u : Int) - 1) ∧ wy = wp.drewN nq) (fun _ kk _ => (intOf kk + 1).toNat)
                    case atStart => exact ⟨P, 0, Nat.le_refl _, by rw [Nat.sub_self]; rfl, rfl, rfl⟩
                    case round =>
                      obtain ⟨u, nq0, hu, rfl, rfl, rfl⟩ := hrel
                      by_cases hu0 : 1 ≤ u
                      · obtain ⟨v, rfl⟩ : ∃ v, u = v + 1 := ⟨u - 1, by omega⟩
                        rw [show (((v + 1 : Nat) : Int) - 1) = (v : Int) by omega]
                        obtain ⟨ss, hss⟩ : ∃ ss, ss = joinSum q width P (digAt ls P i j) (P - (v + 1)) := ⟨_, rfl⟩
                        have hsr1 := joinSum_range q (by omega) width P (digAt ls P i j) (P - (v + 1))
                        rw [← hss] at hsr1 ⊢
                        obtain ⟨hsr1, hsr2⟩ := hsr1
                        have hqc := (HCG.out q HQM.out).2
                        obtain ⟨c0, hc0, hc0a, hc0b⟩ := shl_bound ss q width hw1 hw2 hsr1 hsr2 (by omega)
                        have hix : i * P + v < ls.length := by
                          have : i * P + P ≤ lv * P := by rw [← Nat.succ_mul]; exact Nat.mul_le_mul_right _ hlt
                          have := HT.out
                          omega
                        obtain ⟨x, hx⟩ : ∃ x, ls[i * P + v]? = some x := ⟨ls[i * P + v]'hix, List.getElem?_eq_getElem _⟩
                        obtain ⟨b1, off1, b2, c2, rfl, hbl1, hcx, hrd⟩ := HLS.out _ x hx
                        have hxn : x.length = n := by
                          have := HALL.out
                          rw [List.all_eq_true] at this
                          have := this x (List.mem_of_getElem? hx)
                          simp at this; omega
                        obtain ⟨y, hy⟩ : ∃ y, x[j]? = some y := ⟨x[j]'(by omega), List.getElem?_eq_getElem _⟩
                        obtain ⟨a3, cap3, he3, -, -, hsh3⟩ := reads_i64 hrd
                        obtain ⟨b4, off4, hae, hbl4, hcy⟩ := hsh3 j y hy
                        injection he3 with he3a he3b he3c
                        subst he3a
                        obtain ⟨iP, hiP⟩ : ∃ iP : Nat, iP = i * P := ⟨_, rfl⟩
                        obtain ⟨ix, hixE⟩ : ∃ ix : Nat, ix = iP + v := ⟨_, rfl⟩
                        rw [← hiP, ← hixE] at hx hcx hix
                        have hdig : digAt ls P i j v = y := by
                          unfold digAt
                          rw [← hiP, ← hixE]
                          simp [List.getD_eq_getElem?_getD, hx, hy]
                        have w1c : wp.cell? ⟨b1, off1 + ix, none⟩ = some (.slice b2 x.length c2) := by rw [HCJ.out _ _ (by omega), hcw _ _ (by omega), HCR.out _ _ hbl1]; exact hcx
                        have w2c : wp.cell? ⟨b4, off4 + j, none⟩ = some (.int .i64 y) := by rw [HCJ.out _ _ (by omega), hcw _ _ (by omega), HCR.out _ _ hbl4]; exact hcy
                        obtain ⟨c1, hc1, hc1a, hc1b, -, -⟩ := tmod_parts c0 q (by omega)
                        obtain ⟨c2', hc2, hc2a, hc2b, -, -⟩ := tmod_parts y q (by omega)
                        have hstep : joinSum q width P (digAt ls P i j) (P - v) = (c1 + c2').tmod (q : Int) := by
                          rw [show P - v = (P - (v + 1)) + 1 by omega, joinSum, ← hss, joinStep, show P - 1 - (P - (v + 1)) = v by omega, hdig, hc0, hc1, hc2]
                        have HSTEP := Lib.hid hstep
                        have hiPI : (i : Int) * (P : Int) = (iP : Int) := by rw [hiP]; simp
                        have hiPb : iP ≤ 24 * 16 := by rw [hiP]; exact Nat.mul_le_mul (by omega) (by omega)
                        have hixI : (iP : Int) + (v : Int) = (ix : Int) := by omega
                        have q1 : IntKind.i64.wrap (iP : Int) = (iP : Int) := IntWalk.i64_in _ (by omega)
                        have q2 : IntKind.i64.wrap (ix : Int) = (ix : Int) := IntWalk.i64_in _ (by omega)
                        have q3 : IntKind.i64.wrap c0 = c0 := IntWalk.i64_in _ (by omega)
                        have q4 : IntKind.i64.wrap (c1 + c2') = c1 + c2' := IntWalk.i64_in _ (by omega)
                        have q5 : IntKind.i64.wrap (q : Int) = (q : Int) := IntWalk.i64_in _ (by omega)
                        have q6 : ((q : Int) == 0) = false := by rw [beq_eq_false_iff_ne]; omega
                        have i1 : (0 : Int) ≤ (ix : Int) := by omega
                        have i2 : (ix : Int) < (ls.length : Int) := by omega
                        have i3 : (0 : Int) ≤ (j : Int) := by omega
                        have i4 : (j : Int) < (x.length : Int) := by omega
                        subst hae
                        clear hss hsh3 hrd hxn hx hy hcx hcy hdig hiP hixE hstep
                        go_upto_region 22 with (fail)
                        go_quiet (fail)
                        go_wp2
                        go_roundw
                        case rel => exact ⟨v, nq0 + nq, by omega, by rw [HSTEP.out], rfl, rfl⟩
                        case measure => first | (simp [intOf]; done) | (simp [intOf]; omega)
                      · obtain rfl : u = 0 := by omega
                        obtain ⟨ss, hss⟩ : ∃ ss, ss = joinSum q width P (digAt ls P i j) (P - 0) := ⟨_, rfl⟩
                        have hsr1 := joinSum_range q (by omega) width P (digAt ls P i j) (P - 0)
                        rw [← hss] at hsr1 ⊢
                        obtain ⟨hsr1, hsr2⟩ := hsr1
                        have hqc := (HCG.out q HQM.out).2
                        have hent := joinEntry_int q (by omega) width P (digAt ls P i j)
                        rw [Nat.sub_zero] at hss
                        rw [← hss] at hent
                        obtain ⟨E, hE⟩ : ∃ E, E = joinEntry q width P (digAt ls P i j) := ⟨_, rfl⟩
                        rw [← hE] at hent
                        obtain ⟨hent1, hent2⟩ := hent
                        have hent1 := hent1.symm
                        have HE := Lib.hid hE
                        have q6 : ((q : Int) == 0) = false := by rw [beq_eq_false_iff_ne]; omega
                        have q5 : IntKind.i64.wrap (q : Int) = (q : Int) := IntWalk.i64_in _ (by omega)
                        obtain ⟨sq, hsqE⟩ : ∃ sq : Int, ss + (q : Int) = sq := ⟨_, rfl⟩
                        have hsq0 : 0 ≤ sq := by omega
                        have hsq1 : sq < 4611686018427387904 := by omega
                        have q4 : IntKind.i64.wrap sq = sq := IntWalk.i64_in _ (by omega)
                        rw [hsqE] at hent1
                        have hE32 : E < 4294967296 := by omega
                        have q7 : (E : Int) % 4294967296 = (E : Int) := by omega
                        have HENT := Lib.hid hent2
                        have HE1 := Lib.hid hent1
                        have HQ7 := Lib.hid q7
                        clear hent1 q7 hE32
                        have HSR := Lib.hid hsr1
                        have HSR2 := Lib.hid hsr2
                        clear hent2 hsr1 hsr2
                        have hBq : Below wo.heap.size wo (wp.drewN nq0) := below_drewN hBj _
                        have hsq : wo.heap.size < (wp.drewN nq0).heap.size := by simpa using hsj
                        have hgq : (wp.drewN nq0).heap[wo.heap.size]? = some (.cells (fillTo (fun j => joinEntry q width P (digAt ls P i j)) n j) 22) := by simpa using hgj
                        clear hgj hBj hsj
                        rw [show (((0 : Nat) : Int) - 1) = -1 by omega]
                        obtain ⟨wq, hwq⟩ : ∃ wq, wq = wp.drewN nq0 := ⟨_, rfl⟩
                        rw [← hwq] at hBq hsq hgq ⊢
                        obtain ⟨uu, hcu, hfu⟩ := fill_cell hgq hltj
                        have HGJ := Lib.hid hgq
                        clear hss hE hgq hwq
                        go_wp2
                        go_roundw
                        case rel =>
                          have hset := fill_set (W := wq) (k := j) HGJ.out
                          refine ⟨j + 1, by omega, by go_num, ?_, (hBq.setCell (by simp) _), by simpa using hsq⟩
                          rw [← HE.out] at hset
                          first | exact hset | (rw [← Int.tmod_eq_emod_of_nonneg hsq0, HE1.out, HQ7.out]; exact hset)
                        case measure => simp [intOf]; omega
                  · obtain rfl : j = n := by omega
                    have HROW : Hid (fillTo (fun j_1 => joinEntry q width P (digAt ls P i j_1)) j j = ((joinRow ls j q P width i).map u32V).toArray) := by
                      show _ = _
                      rw [fillTo_all]; unfold joinRow; rw [List.map_map]; rfl
                    have HGJ := Lib.hid hgj
                    have e3 : wr.cell? ⟨w1.heap.size, 2, none⟩ = some (.slice sa i sc) := by rw [hcj _ _ s1]; exact e2
                    have HBJ := Lib.hid hBj
                    have hown3 := HO2'.out.below hBj
                    clear hgj hBj hcj e2 f2
                    go_wp2_with (at_builtin; refine wpList_append1 wr rfl (.tmp 126) (.tmp 128) 26 rfl (w1.heap.size + 1) 23 i0 (.slice none 0 0) 24 Try.underlying26 hii0 hiz hiz1 hizb rfl (.slice sa i sc) i vs rfl hown3 (.slice (some ⟨wo.heap.size, 0, none⟩) j j) wr.heap.size rfl rfl rfl (by unfold maxLen; omega) (by omega) (by omega) ?_; intro v4 W4 hown4 hg4a hg4 hz4; obtain ⟨h14, ⟨g4, c4, rfl⟩, hO4, hBB⟩ := out_push HO1.out HO2.out HO3.out (by omega) (by omega) HBJ.out (joinRow ls j q P width i) wo.heap.size (Nat.le_refl _) (by rw [← HROW.out]; exact HGJ.out) (by rw [HLR.out]; exact hown4) (by rw [HLR.out]; exact hg4); obtain ⟨-, -, e24, -, -, f24⟩ := elem_cells h14)
                    go_wp2
                    go_roundw
                    case rel => exact ⟨i + 1, by omega, by go_num, by rw [HQ.out]; exact hO4, hBB _ _ hBr (by omega) (by omega), by simp; omega⟩
                    case measure => simp [intOf]; omega
              · obtain rfl : i = lv := by omega
                have hc3 := (hBr.block (w.heap.size + 1) (by omega)).trans HC1.out
                obtain ⟨k0, k1, k2, z0, z1, z2⟩ := elem_cells hc3
                have hz3 := lt_of_heap hc3
                obtain ⟨e0', e1', e2', f0', f1', f2'⟩ := elem_cells HO1.out
                have hHC3 := Lib.hid hc3
                clear hc3 e2 f2 hcw hfw
                go_wp2
                obtain ⟨W6, hW6⟩ : ∃ W6, W6 = ((wr.setCell ⟨w.heap.size + 1, 0, none⟩ (.int .i64 (i : Int))).setCell ⟨w.heap.size + 1, 1, none⟩ (.bool false)).setCell ⟨w.heap.size + 1, 2, none⟩ (.slice sa (joinRows chain ls n P width i).length sc) := ⟨_, rfl⟩
                obtain ⟨h6, hs6, hB6⟩ := elem_store hHC3.out hW6
                obtain ⟨j0, j1, j2, -, -, -⟩ := elem_cells h6
                rw [← hW6]
                refine bodyPost_ret (v := .tuple #[.agg #[.int .i64 (i : Int), .bool false, .slice sa (joinRows chain ls n P width i).length sc], .int .i64 0]) ?_ rfl (HPOST2.out _ _ ⟨⟨_, rfl, ?_⟩, ?_⟩)
                · simp [results, Try.results19, go_sem, j0, j1, j2]
                · exact rows_at HO2.out HO3.out (by unfold maxLen; omega) (by
                    intro r hr
                    unfold joinRows at hr
                    rw [List.mem_map] at hr
                    obtain ⟨j, _, rfl⟩ := hr
                    simp [joinRow]) (fun g hg => hs6 g (by omega))
                · exact hB6 _ _ (hB1.trans (hBr.mono (by omega))) (by omega)
      · obtain rfl : r = false := by rw [HR.out]; simp; intro h; exact absurd (by omega) hlt
        have hq : ((ls.length : Int) != (T : Int)) = true := by rw [bne_iff_ne]; omega
        clear hlt
        go_enter Try.func19, Try.ntmps19
        go_wp2_with fail
        rw [← HW0.out]
        refine HA.out.mono ?_
        rintro e w1 ⟨h, hb⟩
        rw [if_pos trivial] at h
        obtain ⟨b, rfl, -, hcut⟩ := h
        obtain ⟨-, -, d2⟩ := AskedPost.lev hcut
        rw [HPD.out] at d2
        have hc1 := (hb.block _ hz0).trans hc0
        obtain ⟨k0, k1, k2, z0, z1, z2⟩ := elem_cells hc1
        have hB1 := hB0.trans (hb.mono hB0.size)
        clear hc0 hb hcg hp0 hcut
        go_wp2
        refine bodyPost_ret (v := .tuple #[.agg #[.int .i64 0, .bool false, .slice none 0 0], .int .i64 2]) ?_ rfl (HPOST.out _ _ ⟨rfl, ?_⟩)
        · simp [results, Try.results19, go_sem, k0, k1, k2]
        · exact ((hB1.setCell (by simp) _).setCell (by simp) _).setCell (by simp) _
end Go.Proofs.Ytpcpgmgpkegjlaa
