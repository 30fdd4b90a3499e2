/- Walks: the reference's check of an element. -/
import Derived.Test.YtpcpgmgpkegjlaaGF7
import Derived.Test.YtpcpgmgpkegjlaaGB5
namespace Go.Proofs.Ytpcpgmgpkegjlaa
open Go.RowKit Go.Shelf Go.BigFrame
theorem anyGe_succ (q : Nat) (r : List Nat) (j y : Nat) (h : r[j]? = some y) : anyGe q (r.take (j + 1)) = (anyGe q (r.take j) || decide (q ≤ y)) := by
  unfold anyGe
  rw [List.take_add_one, h]; simp
theorem anyGe_at {q : Nat} {r : List Nat} {j y : Nat} (h : r[j]? = some y) (hy : q ≤ y) : anyGe q r = true := by
  unfold anyGe
  rw [List.any_eq_true]
  exact ⟨y, List.mem_of_getElem? h, by simpa using hy⟩
theorem okRow_no {N : Int} {l : List Nat} {rows : List (List Nat)} {i q : Nat} {x : List Nat} (hl : l[i]? = some q) (hx : rows[i]? = some x) (hb : (decide ((x.length : Int) = N) && !anyGe q x) = false) : (List.finRange l.length).all (okRow N l rows) = false := by
  have hi := (List.getElem?_eq_some_iff.1 hl).1
  rw [← Bool.not_eq_true, List.all_eq_true]
  intro hall
  have := hall ⟨i, hi⟩ (List.mem_finRange _)
  unfold okRow at this
  have hq : l[i] = q := by rw [List.getElem?_eq_getElem hi] at hl; injection hl
  simp only [hx, Option.any_some, hq] at this
  rw [hb] at this; cases this
theorem okRow_yes {N : Int} {l : List Nat} {rows : List (List Nat)} {i q : Nat} {x : List Nat} (hl : l[i]? = some q) (hx : rows[i]? = some x) (h1 : (x.length : Int) = N) (h2 : anyGe q x = false) (hi : i < l.length) : okRow N l rows ⟨i, hi⟩ = true := by
  unfold okRow
  have hq : l[i] = q := by rw [List.getElem?_eq_getElem hi] at hl; injection hl
  simp only [hx, Option.any_some, hq, h1, h2]; simp
/-- What the check answers. -/
def ErrPost (b : Bool) (w : World) (e : Ending) (w' : World) : Prop := e = .returned (.int .i64 (errI b)) ∧ Below w.heap.size w w'
set_option maxRecDepth 100000 in
set_option maxHeartbeats 16000000 in
theorem rcheck_any (N pr pw wt er : Int) (cv : Value) (chain : List Nat) (sp : Nat) (level : Int) (special : Bool) (rv : Value) (rows : List (List Nat)) (w : World) (hr : w.reads w.heap.size cv (chain.map u32V)) (hrow : w.rows u32V w.heap.size rv rows) :
    Calls Try.prog 23 #[.agg #[.int .i64 N, .int .u32 pr, .int .i64 pw, cv, .int .u32 (sp : Int), .int .i64 wt, .int .u32 er], .agg #[.int .i64 level, .bool special, rv]] w (ErrPost (checkB N chain sp level special rows) w) := by
  obtain ⟨r, hrr⟩ : ∃ r, r = checkB N chain sp level special rows := ⟨_, rfl⟩
  rw [← hrr]
  unfold checkB preB at hrr
  have hpost : ∀ e w', e = .returned (.int .i64 (errI r)) ∧ Below w.heap.size w w' → ErrPost r w e w' := fun _ _ h => h
  have HPOST := Lib.hid hpost
  obtain ⟨a, cap, rfl, hcap, hmx, -⟩ := reads_u32 hr
  obtain ⟨ra, rcap, rfl, hrc, hrm, -⟩ := hrow.shape
  obtain ⟨W0, hW0⟩ : ∃ W0, W0 = (w.alloc (.cells #[.int .i64 N, .int .u32 pr, .int .i64 pw, .slice a chain.length cap, .int .u32 (sp : Int), .int .i64 wt, .int .u32 er] 25)).alloc (.cells #[.int .i64 level, .bool special, .slice ra rows.length rcap] 28) := ⟨_, rfl⟩
  have hB0 : Below w.heap.size w W0 := by rw [hW0]; exact ((Below.refl _ w).alloc (Nat.le_refl _) _).alloc (by simp) _
  have g0 : W0.heap[w.heap.size]? = some (.cells #[.int .i64 N, .int .u32 pr, .int .i64 pw, .slice a chain.length cap, .int .u32 (sp : Int), .int .i64 wt, .int .u32 er] 25) := by rw [hW0, Below.heap_alloc _ _ _ (by simp)]; exact alloc_last _ _ rfl
  have e0 : W0.heap[w.heap.size + 1]? = some (.cells #[.int .i64 level, .bool special, .slice ra rows.length rcap] 28) := by rw [hW0]; exact alloc_last _ _ (by simp)
  have hz0 := lt_of_heap e0
  have HR0 := Lib.hid ((hr.below hB0).mono hB0.size)
  have HROW := Lib.hid ((hrow.below hB0).mono hB0.size)
  have HV := Lib.hid (valid09_any N pr pw wt er _ chain sp W0 HR0.out)
  have HP := Lib.hid (fun W hb => rplace_any N pr pw wt er _ chain sp level special W ((HR0.out.below hb).mono (Below.size hb)))
  have HMO := Lib.hid (fun W hb lv h1 h2 h3 => rmoduli_any N pr pw wt er _ chain sp lv special W ((HR0.out.below hb).mono (Below.size hb)) h1 h2 h3)
  unfold OkPost at HV HP
  unfold ModPost at HMO
  obtain ⟨vb, hvb⟩ : ∃ vb, vb = validB N chain sp := ⟨_, rfl⟩
  rw [← hvb] at HV hrr
  have HVB := Lib.hid hvb
  obtain ⟨pb, hpb⟩ : ∃ pb, pb = placeB chain sp level special := ⟨_, rfl⟩
  rw [← hpb] at HP hrr
  have HPB := Lib.hid hpb
  have HR := Lib.hid hrr
  obtain ⟨m, hm⟩ : ∃ m, m = chain.length := ⟨_, rfl⟩
  obtain ⟨l, hl⟩ : ∃ l, l = rows.length := ⟨_, rfl⟩
  have hlb := hrow.le
  rw [← hm, ← hl] at hW0
  rw [← hm] at hcap g0 HV HP HMO
  rw [← hl] at hrc e0 hlb
  have HM := Lib.hid hm
  have HL := Lib.hid hl
  rw [← hm, ← hl]
  obtain ⟨c0, c1, c2, c3, c4, c5, c6⟩ := par_cells g0
  obtain ⟨k0, k1, k2, -, -, -⟩ := elem_cells e0
  have HG0 := Lib.hid g0
  have HE0 := Lib.hid e0
  have HW0 := Lib.hid hW0
  have hz1 : w.heap.size < W0.heap.size := by omega
  clear hr hrow g0 e0 hW0 hm hl hrr hvb hpb hpost
  cases vb
  · obtain rfl : r = false := by rw [HR.out]; rfl
    go_enter Try.func23, Try.ntmps23
    go_upto_region 1 with (fail)
    rw [← HW0.out]
    go_wp2_with fail
    refine HV.out.mono ?_
    rintro e w1 ⟨rfl, hb1⟩
    go_wp2
    go_ret
    exact HPOST.out _ _ ⟨rfl, hB0.trans (hb1.mono hB0.size)⟩
  go_enter Try.func23, Try.ntmps23
  go_upto_region 1 with (fail)
  rw [← HW0.out]
  go_wp2_with fail
  refine HV.out.mono ?_
  rintro e w1 ⟨rfl, hb1⟩
  have hg1 := (hb1.block _ hz1).trans HG0.out
  have he1 := (hb1.block _ hz0).trans HE0.out
  clear c0 c1 c2 c3 c4 c5 c6 k0 k1 k2
  obtain ⟨c0, c1, c2, c3, c4, c5, c6⟩ := par_cells hg1
  obtain ⟨k0, k1, k2, -, -, -⟩ := elem_cells he1
  have HP1 := HP.out w1 hb1
  have hs1 := hb1.size
  clear hg1 he1
  go_wp2_with fail
  refine HP1.mono ?_
  rintro e w2 ⟨rfl, hb2⟩
  have hB2 := hb1.trans (hb2.mono hs1)
  clear HP1
  cases pb
  · obtain rfl : r = false := by rw [HR.out]; rfl
    go_wp2
    go_ret
    exact HPOST.out _ _ ⟨rfl, hB0.trans (hB2.mono hB0.size)⟩
  obtain ⟨lv, hlv, hl1, hl2⟩ := levB_nat HPB.out.symm
  obtain ⟨n, hN, hn1, hn2⟩ := sizeB_nat HVB.out.symm
  have h24 := (validB_len HVB.out.symm).2
  have hg2 := (hB2.block _ hz1).trans HG0.out
  have he2 := (hB2.block _ hz0).trans HE0.out
  have hs2 := hB2.size
  clear c0 c1 c2 c3 c4 c5 c6 k0 k1 k2
  obtain ⟨c0, c1, c2, c3, c4, c5, c6⟩ := par_cells hg2
  obtain ⟨k0, k1, k2, -, -, -⟩ := elem_cells he2
  have HM2 := HMO.out w2 hB2 lv hl1 (by rw [HM.out]; exact hl2) (by rw [HM.out]; exact h24)
  rw [hlv] at k0
  rw [hN] at c0
  rw [hN] at HM2
  have hml := modl_length chain sp lv special hl2
  have HR1 : Hid (r = (decide (l = (modl chain sp lv special).length) && (List.finRange (modl chain sp lv special).length).all (okRow (n : Int) (modl chain sp lv special) rows))) := by
    show _ = _; rw [HR.out, HL.out, hlv, hN]; simp
  obtain ⟨ml, hmlE⟩ : ∃ ml, ml = modl chain sp lv special := ⟨_, rfl⟩
  rw [← hmlE] at HM2 HR1 hml
  have hRb : ml.length ≤ 25 := by rw [hml]; split <;> omega
  clear hg2 he2 HR hlv hmlE hl1 hl2 h24 hml
  go_wp2_with fail
  refine HM2.mono ?_
  rintro e w3 ⟨⟨v, rfl, hv⟩, hb3⟩
  have hB3 := hB2.trans (hb3.mono hs2)
  have hBw := hB0.trans (hB3.mono hB0.size)
  have hg3 := (hB3.block _ hz1).trans HG0.out
  have he3 := (hB3.block _ hz0).trans HE0.out
  obtain ⟨va, vc, rfl, hvc, hvm, hvs⟩ := reads_u32 hv
  obtain ⟨R, hR⟩ : ∃ R, R = ml.length := ⟨_, rfl⟩
  rw [← hR] at hvc hRb ⊢
  have HRR := Lib.hid hR
  have HVS := Lib.hid hvs
  clear c0 c1 c2 c3 c4 c5 c6 k0 k1 k2 HM2 hv hvs hR
  have hg3' := hg3
  rw [hN] at hg3'
  obtain ⟨c0, -, -, -, -, -, -⟩ := par_cells hg3'
  obtain ⟨-, -, k2, -, -, -⟩ := elem_cells he3
  have HS : Hid (∀ (j : Nat) (x : List Nat), rows[j]? = some x → ∃ b off b2 c2, ra = some ⟨b, off, none⟩ ∧ w3.cell? ⟨b, off + j, none⟩ = some (.slice b2 x.length c2) ∧ w3.reads w3.heap.size (.slice b2 x.length c2) (x.map u32V)) := by
    intro j x hj
    obtain ⟨ra', rcap', hra, -, -, hsh⟩ := ((HROW.out.below hB3).mono hB3.size).shape
    injection hra with hra
    obtain ⟨b, off, b2, c2, h1, -, h3, h4⟩ := hsh j x hj
    exact ⟨b, off, b2, c2, by rw [hra]; exact h1, h3, h4⟩
  have HBW := Lib.hid hBw
  clear hg3 hg3' he3 hBw hb1 hb2 hb3 hB2 hB3 hB0 HP HMO HV hN
  by_cases hlR : l = R
  case neg =>
    obtain rfl : r = false := by
      have h1 : ¬ l = ml.length := by rw [← HRR.out]; exact hlR
      rw [HR1.out]; simp [h1]
    have t1 : ((l : Int) != (R : Int)) = true := by rw [bne_iff_ne]; omega
    clear hlR
    go_wp2
    go_ret
    exact HPOST.out _ _ ⟨rfl, HBW.out⟩
  subst hlR
  have t1 : ((l : Int) != (l : Int)) = false := by simp
  have HR2 : Hid (r = (List.finRange ml.length).all (okRow (n : Int) ml rows)) := by
    have h1 := HRR.out
    show _ = _; rw [HR1.out]; simp [h1]
  clear HR1
  go_wp2_with fail
  go_loopw [6] (fun i wx => ∃ k d : Nat, k ≤ l ∧ i = .int .i64 (k : Int) ∧ wx = w3.drewN d ∧ Hid (∀ (j : Nat) (h : j < ml.length), j < k → okRow (n : Int) ml rows ⟨j, h⟩ = true)) (fun i _ => l - (intOf i).toNat)
  case atStart => exact ⟨0, 0, Nat.zero_le _, rfl, rfl, fun j h hj => by omega⟩
  case round =>
    obtain ⟨i, d0, hi, rfl, rfl, hok⟩ := hrel
    by_cases hlt : i < l
    · obtain ⟨q, hq⟩ : ∃ x, ml[i]? = some x := ⟨ml[i]'(by rw [← HRR.out]; exact hlt), List.getElem?_eq_getElem _⟩
      obtain ⟨x, hx⟩ : ∃ x, rows[i]? = some x := ⟨rows[i]'(by rw [← HL.out]; exact hlt), List.getElem?_eq_getElem _⟩
      obtain ⟨vb, vo, rfl, _, hcq⟩ := HVS.out i q hq
      obtain ⟨b, off, xb, xc, rfl, hcx, hrx⟩ := HS.out i x hx
      obtain ⟨xb', xc', hxe, hxc, hxm, hxs⟩ := reads_u32 hrx
      injection hxe with hxe _ hxe2
      subst hxe hxe2
      have HQ := Lib.hid hq
      have HX := Lib.hid hx
      have HXS := Lib.hid hxs
      obtain ⟨xl, hxl⟩ : ∃ xl, xl = x.length := ⟨_, rfl⟩
      rw [← hxl] at hcx hxc
      have HXL := Lib.hid hxl
      clear hq hx hrx hxs hxl
      have i1 : (0 : Int) ≤ (i : Int) := by omega
      have i2 : (i : Int) < (l : Int) := by omega
      by_cases hxn : xl = n
      case neg =>
        obtain rfl : r = false := by rw [HR2.out]; exact okRow_no HQ.out HX.out (by rw [← HXL.out]; simp; omega)
        have t2 : ((xl : Int) != (n : Int)) = true := by rw [bne_iff_ne]; omega
        clear hxn
        go_upto_region 9 with (fail)
        go_quiet (fail)
        go_wp2
        go_ret
        exact HPOST.out _ _ ⟨rfl, below_drewN HBW.out _⟩
      subst hxn
      have t2 : ((xl : Int) != (xl : Int)) = false := by simp
      go_upto_region 9 with (fail)
      go_quiet (fail)
      go_wp2_with fail
      go_loopw [7] (fun jj wx => ∃ k d : Nat, k ≤ xl ∧ jj = .int .i64 (k : Int) ∧ wx = w3.drewN d ∧ Hid (anyGe q (x.take k) = false)) (fun jj _ => xl - (intOf jj).toNat)
      case atStart => exact ⟨0, _, Nat.zero_le _, rfl, by first | rfl | exact World.drewN_drewN _ _ _, rfl⟩
      case round =>
        obtain ⟨j, d1, hj, rfl, rfl, hno⟩ := hrel
        by_cases hltj : j < xl
        · obtain ⟨y, hy⟩ : ∃ y, x[j]? = some y := ⟨x[j]'(by rw [← HXL.out]; exact hltj), List.getElem?_eq_getElem _⟩
          obtain ⟨yb, yo, rfl, _, hcy⟩ := HXS.out j y hy
          have HY := Lib.hid hy
          clear hy
          have j1 : (0 : Int) ≤ (j : Int) := by omega
          have j2 : (j : Int) < (xl : Int) := by omega
          by_cases hqy : q ≤ y
          · obtain rfl : r = false := by rw [HR2.out]; exact okRow_no HQ.out HX.out (by rw [anyGe_at HY.out hqy]; simp)
            go_upto_region 14 with (fail)
            go_quiet (fail)
            go_wp2
            go_ret
            exact HPOST.out _ _ ⟨rfl, by first | exact below_drewN HBW.out _ | exact below_drewN (below_drewN HBW.out _) _⟩
          · have HQY := Lib.hid hqy
            have t3 : (y : Int) < (q : Int) := by omega
            clear hqy
            go_upto_region 14 with (fail)
            go_quiet (fail)
            go_wp2
            go_roundw
            case rel => exact ⟨j + 1, _, by omega, by go_num, by first | rfl | exact World.drewN_drewN _ _ _, by show _ = _; rw [anyGe_succ _ _ _ _ HY.out, hno.out]; simp [HQY.out]⟩
            case measure => simp [intOf]; omega
        · obtain rfl : xl = j := by omega
          have hok2 : Hid (∀ (j : Nat) (h : j < ml.length), j < i + 1 → okRow (xl : Int) ml rows ⟨j, h⟩ = true) := by
            intro j' h hj'
            rcases Nat.lt_or_eq_of_le (Nat.le_of_lt_succ hj') with h1 | rfl
            · exact hok.out j' h h1
            · refine okRow_yes HQ.out HX.out (by rw [HXL.out]) ?_ h
              have := hno.out
              rw [List.take_of_length_le (by rw [← HXL.out]; exact Nat.le_refl _)] at this
              exact this
          clear hno hok
          go_wp2
          go_roundw
          case rel => exact ⟨i + 1, _, by omega, by go_num, rfl, hok2⟩
          case measure => simp [intOf]; omega
    · obtain rfl : i = l := by omega
      obtain rfl : r = true := by
        rw [HR2.out, List.all_eq_true]
        intro x _
        exact hok.out x.1 x.2 (by rw [HRR.out]; exact x.2)
      clear hok
      go_wp2
      go_ret
      exact HPOST.out _ _ ⟨rfl, below_drewN HBW.out d0⟩
end Go.Proofs.Ytpcpgmgpkegjlaa
