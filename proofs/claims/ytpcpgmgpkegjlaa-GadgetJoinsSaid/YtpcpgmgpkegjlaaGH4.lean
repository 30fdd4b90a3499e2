/- Walks: the reference's sum of elements. -/
import Derived.Test.YtpcpgmgpkegjlaaGH3
import Derived.Test.YtpcpgmgpkegjlaaGH1
namespace Go.Proofs.Ytpcpgmgpkegjlaa
open Go.RowKit Go.Shelf Go.BigFrame
/-- What a function answers that makes an element. -/
def MadeElt (lv : Int) (s : Bool) (rows : List (List Nat)) (w : World) (e : Ending) (w' : World) : Prop :=
  (∃ rv, e = .returned (.agg #[.int .i64 lv, .bool s, rv]) ∧ w'.rowsO u32V w.heap.size 23 22 rv rows) ∧ Below w.heap.size w w'
theorem sum_parts (x y s q : Nat) (hx : x < q) (hy : y < q) (hs : s < q) (hq : q ≤ 2147483647) : ∃ p m z : Nat, (y : Int) * (s : Int) = (p : Int) ∧ p ≤ 4611686018427387904 ∧ (x : Int) + (p : Int) = (m : Int) ∧ m ≤ 4611686020574871552 ∧ (m : Int).tmod (q : Int) = (z : Int) ∧ z < q ∧ z = (x + y * s) % q := by
  have hp : y * s ≤ 4611686018427387904 := Nat.mul_le_mul (show y ≤ 2147483648 by omega) (show s ≤ 2147483648 by omega)
  refine ⟨y * s, x + y * s, (x + y * s) % q, by push_cast; rfl, hp, by push_cast; rfl, by omega, ?_, Nat.mod_lt _ (by omega), rfl⟩
  rw [Int.tmod_eq_emod_of_nonneg (by omega)]; simp
set_option maxRecDepth 100000 in
set_option maxHeartbeats 40000000 in
theorem sum_any (n lv : Nat) (pr pw wt er : Int) (cv : Value) (chain : List Nat) (sp : Nat) (special : Bool) (av bv : Value) (xs ys : List (List Nat)) (kk : Int) (w : World) (hr : w.reads w.heap.size cv (chain.map u32V)) (ha : w.rows u32V w.heap.size av xs) (hb : w.rows u32V w.heap.size bv ys)
    (hlv1 : 1 ≤ lv) (hlv2 : lv ≤ chain.length) (h24 : chain.length ≤ 24) (hn : n ≤ 32) (hmok : ∀ q ∈ modl chain sp lv special, 3 ≤ q ∧ q ≤ 2147483647) (hae : EltOk n (modl chain sp lv special) xs) (hbe : EltOk n (modl chain sp lv special) ys) (hk1 : -9223372036854775808 ≤ kk) (hk2 : kk ≤ 9223372036854775807) :
    Calls Try.prog 46 #[.agg #[.int .i64 (n : Int), .int .u32 pr, .int .i64 pw, cv, .int .u32 (sp : Int), .int .i64 wt, .int .u32 er], .agg #[.int .i64 (lv : Int), .bool special, av], .agg #[.int .i64 (lv : Int), .bool special, bv], .int .i64 kk] w
      (MadeElt (lv : Int) special (zipRows (sumRow kk n) (modl chain sp lv special) xs ys (modl chain sp lv special).length) w) := by
  obtain ⟨a, cap, rfl, hcap, hmx, -⟩ := reads_u32 hr
  obtain ⟨aa, ac, rfl, hac, ham, has⟩ := ha.shape
  obtain ⟨ba, bc, rfl, hbc, hbm, hbs⟩ := hb.shape
  obtain ⟨W0, hW0⟩ : ∃ W0, W0 = (((w.alloc (.cells #[.int .i64 (n : Int), .int .u32 pr, .int .i64 pw, .slice a chain.length cap, .int .u32 (sp : Int), .int .i64 wt, .int .u32 er] 25)).alloc (.cells #[.int .i64 (lv : Int), .bool special, .slice aa xs.length ac] 28)).alloc (.cells #[.int .i64 (lv : Int), .bool special, .slice ba ys.length bc] 28)).alloc (.cells #[.int .i64 0, .bool false, .slice none 0 0] 28) := ⟨_, rfl⟩
  have hB0 : Below w.heap.size w W0 := by rw [hW0]; exact ((((Below.refl _ w).alloc (Nat.le_refl _) _).alloc (by simp) _).alloc (by first | (simp; done) | (simp; omega)) _).alloc (by first | (simp; done) | (simp; omega)) _
  have g0 : W0.heap[w.heap.size]? = some (.cells #[.int .i64 (n : Int), .int .u32 pr, .int .i64 pw, .slice a chain.length cap, .int .u32 (sp : Int), .int .i64 wt, .int .u32 er] 25) := by rw [hW0, Below.heap_alloc _ _ _ (by first | (simp; done) | (simp; omega)), Below.heap_alloc _ _ _ (by first | (simp; done) | (simp; omega)), Below.heap_alloc _ _ _ (by simp)]; exact alloc_last _ _ rfl
  have e0 : W0.heap[w.heap.size + 1]? = some (.cells #[.int .i64 (lv : Int), .bool special, .slice aa xs.length ac] 28) := by rw [hW0, Below.heap_alloc _ _ _ (by first | (simp; done) | (simp; omega)), Below.heap_alloc _ _ _ (by simp)]; exact alloc_last _ _ (by simp)
  have e1 : W0.heap[w.heap.size + 1 + 1]? = some (.cells #[.int .i64 (lv : Int), .bool special, .slice ba ys.length bc] 28) := by rw [hW0, Below.heap_alloc _ _ _ (by simp)]; exact alloc_last _ _ (by simp)
  have e2 : W0.heap[w.heap.size + 1 + 1 + 1]? = some (.cells #[.int .i64 0, .bool false, .slice none 0 0] 28) := by rw [hW0]; exact alloc_last _ _ (by simp)
  have hz0 := lt_of_heap e2
  have HR0 := Lib.hid ((hr.below hB0).mono hB0.size)
  have HMO := Lib.hid (fun W hb => rmoduli_any (n : Int) pr pw wt er _ chain sp lv special W ((HR0.out.below hb).mono (Below.size hb)) hlv1 hlv2 h24)
  unfold ModPost at HMO
  obtain ⟨ml, hmlE⟩ : ∃ ml, ml = modl chain sp lv special := ⟨_, rfl⟩
  have hml := modl_length chain sp lv special hlv2
  rw [← hmlE] at HMO hmok hae hbe hml ⊢
  have hRb : ml.length ≤ 25 := by rw [hml]; split <;> omega
  obtain ⟨R, hR⟩ : ∃ R, R = ml.length := ⟨_, rfl⟩
  rw [hae.1, ← hR] at hW0 e0 hac ⊢
  rw [hbe.1, ← hR] at hW0 e1 hbc ⊢
  rw [← hR] at hRb
  obtain ⟨m, hm⟩ : ∃ m, m = chain.length := ⟨_, rfl⟩
  rw [← hm] at hcap g0 hW0 HMO ⊢
  have HRR := Lib.hid hR
  have HAE := Lib.hid hae
  have HBE := Lib.hid hbe
  have HMOK := Lib.hid hmok
  have HAS := Lib.hid has
  have HBS := Lib.hid hbs
  have hrpost : ∀ (w' : World) (rv : Value), w'.rowsO u32V w.heap.size 23 22 rv (zipRows (sumRow kk n) ml xs ys R) → Below w.heap.size w w' → MadeElt (lv : Int) special (zipRows (sumRow kk n) ml xs ys R) w (.returned (.agg #[.int .i64 (lv : Int), .bool special, rv])) w' := fun w' rv h1 h2 => ⟨⟨rv, rfl, h1⟩, h2⟩
  have HPOST := Lib.hid hrpost
  obtain ⟨c0, c1, c2, c3, c4, c5, c6⟩ := par_cells g0
  obtain ⟨k0, k1, k2, -, -, -⟩ := elem_cells e0
  have HG0 := Lib.hid g0
  have HE0 := Lib.hid e0
  have HE1 := Lib.hid e1
  have HE2 := Lib.hid e2
  have HW0 := Lib.hid hW0
  obtain ⟨W3, hW3⟩ : ∃ W3, W3 = W0.alloc (.cells #[.int .i64 (lv : Int), .bool special, .slice none 0 0] 28) := ⟨_, rfl⟩
  have hb3 : Below W0.heap.size W0 W3 := by rw [hW3]; exact (Below.refl _ _).alloc (Nat.le_refl _) _
  have g3 : W3.heap[W0.heap.size]? = some (.cells #[.int .i64 (lv : Int), .bool special, .slice none 0 0] 28) := by rw [hW3]; exact alloc_last _ _ rfl
  have hz3 := lt_of_heap g3
  have HM3 := HMO.out W3 hb3
  have HG3 := Lib.hid ((hb3.block w.heap.size (by omega)).trans g0)
  have HK3 := Lib.hid ((hb3.block (w.heap.size + 1) (by omega)).trans e0)
  have HW3 := Lib.hid hW3
  clear hr ha hb g0 e0 e1 e2 hW0 hW3 hm hR hmlE hml hmok hae hbe has hbs hrpost hlv1 hlv2 h24
  go_enter Try.func46, Try.ntmps46
  go_upto_region 1 with (fail)
  rw [← HW0.out]
  go_upto_region 2 with (fail)
  rw [← HW3.out]
  clear c0 c1 c2 c3 c4 c5 c6 k0 k1 k2
  obtain ⟨c0, c1, c2, c3, c4, c5, c6⟩ := par_cells HG3.out
  obtain ⟨k0, k1, k2, -, -, -⟩ := elem_cells HK3.out
  go_wp2_with fail
  refine HM3.mono ?_
  rintro e W4 ⟨⟨v, rfl, hv⟩, hb4⟩
  have hB4 := hb3.trans (hb4.mono hb3.size)
  have hs4 := hb4.size
  have hBw4 := hB0.trans (hB4.mono hB0.size)
  have hg4 := (hb4.block _ hz3).trans g3
  have hb34 : W0.heap.size < W4.heap.size := by omega
  obtain ⟨va, vc, rfl, hvc, hvm, hvs⟩ := reads_u32 hv
  have HVS : Hid (∀ (j x : Nat), ml[j]? = some x → ∃ b off, va = some ⟨b, off, none⟩ ∧ b < W4.heap.size ∧ b ≠ W0.heap.size ∧ W4.cell? ⟨b, off + j, none⟩ = some (.int .u32 (x : Int))) := by
    intro j x hj
    obtain ⟨b, off, q1, q2, q3⟩ := hvs j x hj
    exact ⟨b, off, q1, q2, u32_not_elem hg4 q3, q3⟩
  have HA4 : Hid (∀ (j : Nat) (r : List Nat), xs[j]? = some r → ∃ b off b2 c2, aa = some ⟨b, off, none⟩ ∧ b < w.heap.size ∧ W4.cell? ⟨b, off + j, none⟩ = some (.slice b2 r.length c2) ∧ W4.reads w.heap.size (.slice b2 r.length c2) (r.map u32V)) := by
    intro j x hj
    obtain ⟨b, off, b2, c2, q1, q2, q3, q4⟩ := HAS.out j x hj
    exact ⟨b, off, b2, c2, q1, q2, (hBw4.cell (p := ⟨b, off + j, none⟩) q2).trans q3, q4.below hBw4⟩
  have HB4 : Hid (∀ (j : Nat) (r : List Nat), ys[j]? = some r → ∃ b off b2 c2, ba = some ⟨b, off, none⟩ ∧ b < w.heap.size ∧ W4.cell? ⟨b, off + j, none⟩ = some (.slice b2 r.length c2) ∧ W4.reads w.heap.size (.slice b2 r.length c2) (r.map u32V)) := by
    intro j x hj
    obtain ⟨b, off, b2, c2, q1, q2, q3, q4⟩ := HBS.out j x hj
    exact ⟨b, off, b2, c2, q1, q2, (hBw4.cell (p := ⟨b, off + j, none⟩) q2).trans q3, q4.below hBw4⟩
  rw [← HRR.out] at hvc ⊢
  have hO0 := OutE.start (w := w) hg4 hBw4
  have hO0' : Hid (OutE w W4 W0.heap.size (lv : Int) special (zipRows (sumRow kk n) ml xs ys 0) W4) := hO0
  have HPC := Lib.hid ((hB4.block w.heap.size (by omega)).trans HG0.out)
  have HAC := Lib.hid ((hB4.block (w.heap.size + 1) (by omega)).trans HE0.out)
  have HBC := Lib.hid ((hB4.block (w.heap.size + 1 + 1) (by omega)).trans HE1.out)
  have HRC := Lib.hid ((hB4.block (w.heap.size + 1 + 1 + 1) (by omega)).trans HE2.out)
  obtain ⟨i0, hi0, hiz, hiz1, hizb⟩ := info_parts info32
  obtain ⟨i1, hi1, hi1z, hi1z1, hi1b⟩ := info_parts infoU32r
  clear c0 c1 c2 c3 c4 c5 c6 k0 k1 k2 g3 hv hvs hg4 HM3 hBw4 hb3 hb4 hB4 hB0 HMO hO0
  go_wp2_with fail
  go_loopw [11] (fun ii wr => ∃ k : Nat, k ≤ R ∧ ii = .int .i64 (k : Int) ∧ Hid (OutE w W4 W0.heap.size (lv : Int) special (zipRows (sumRow kk n) ml xs ys k) wr)) (fun ii _ => R - (intOf ii).toNat)
  case atStart => exact ⟨0, Nat.zero_le _, rfl, hO0'⟩
  case round =>
    obtain ⟨wo, rfl⟩ : ∃ x, x = wr := ⟨_, rfl⟩
    clear hO0'
    obtain ⟨k, hk, rfl, hO⟩ := hrel
    obtain ⟨hsr, hsb⟩ := hO.out.size
    by_cases hlt : k < R
    · obtain ⟨q, hq⟩ : ∃ x, ml[k]? = some x := ⟨ml[k]'(by rw [← HRR.out]; exact hlt), List.getElem?_eq_getElem _⟩
      obtain ⟨ra, hra⟩ : ∃ x, xs[k]? = some x := ⟨xs[k]'(by rw [HAE.out.1, ← HRR.out]; exact hlt), List.getElem?_eq_getElem _⟩
      obtain ⟨rb, hrb⟩ : ∃ x, ys[k]? = some x := ⟨ys[k]'(by rw [HBE.out.1, ← HRR.out]; exact hlt), List.getElem?_eq_getElem _⟩
      obtain ⟨vb, vo, rfl, hvb1, hvb2, hcq⟩ := HVS.out k q hq
      obtain ⟨ab, ao, axb, axc, rfl, hab, hcx, hxr⟩ := HA4.out k ra hra
      obtain ⟨bb, bo, bxb, bxc, rfl, hbb, hcy, hyr⟩ := HB4.out k rb hrb
      obtain ⟨hran, q', hq', hraq⟩ := HAE.out.2 k ra hra
      obtain rfl : q = q' := by rw [hq] at hq'; injection hq'
      obtain ⟨hrbn, q', hq'2, hrbq⟩ := HBE.out.2 k rb hrb
      obtain rfl : q = q' := by rw [hq] at hq'2; injection hq'2
      have hqr := HMOK.out q (List.mem_of_getElem? hq)
      have hcq2 : wo.cell? ⟨vb, vo + k, none⟩ = some (.int .u32 (q : Int)) := (hO.out.cell hvb1 hvb2).trans hcq
      have hcx2 : wo.cell? ⟨ab, ao + k, none⟩ = some (.slice axb n axc) := by rw [hO.out.cell (by omega) (by omega), hcx, hran]
      have hcy2 : wo.cell? ⟨bb, bo + k, none⟩ = some (.slice bxb n bxc) := by rw [hO.out.cell (by omega) (by omega), hcy, hrbn]
      obtain ⟨ab', ac', hae1, hac1, ham1, hxs⟩ := reads_u32 hxr
      injection hae1 with hae1 _ hae2
      subst hae1 hae2
      obtain ⟨bb', bc', hbe1, hbc1, hbm1, hys⟩ := reads_u32 hyr
      injection hbe1 with hbe1 _ hbe2
      subst hbe1 hbe2
      rw [hran] at hac1
      rw [hrbn] at hbc1
      obtain ⟨c0, -, -, -, -, -, -⟩ := par_cells ((hO.out.block (b := w.heap.size) (by omega) (by omega)).trans HPC.out)
      obtain ⟨-, -, k2, -, -, -⟩ := elem_cells ((hO.out.block (b := w.heap.size + 1) (by omega) (by omega)).trans HAC.out)
      obtain ⟨-, -, j2, -, -, -⟩ := elem_cells ((hO.out.block (b := w.heap.size + 1 + 1) (by omega) (by omega)).trans HBC.out)
      have hrl := resN_lt q kk (by omega)
      have HRS := Lib.hid (fun W => residue_any kk hk1 hk2 q (by omega) (by omega) W)
      obtain ⟨s, hs⟩ : ∃ s, s = resN q kk := ⟨_, rfl⟩
      rw [← hs] at HRS hrl
      have HS := Lib.hid hs
      have HQ := Lib.hid hq
      have HRA := Lib.hid hra
      have HRB := Lib.hid hrb
      have HXS := Lib.hid hxs
      have HYS := Lib.hid hys
      have HRAN := Lib.hid hran
      have HRBN := Lib.hid hrbn
      have HRAQ := Lib.hid hraq
      have HRBQ := Lib.hid hrbq
      have HC0 := Lib.hid c0
      have HK2 := Lib.hid k2
      have HJ2 := Lib.hid j2
      have HCQ2 := Lib.hid hcq2
      have HCX2 := Lib.hid hcx2
      have HCY2 := Lib.hid hcy2
      have z0 : (0 : Int) ≤ (k : Int) := by omega
      have z1 : (k : Int) < (R : Int) := by omega
      have hqn : ¬ q = 0 := by omega
      have hqe : ((q : Int) == 0) = false := by rw [beq_eq_false_iff_ne]; omega
      clear hq hra hrb hcq hcx hcy hxr hyr hxs hys hran hrbn hraq hrbq hq' hq'2 hs c0 k2 j2 hcq2 hcx2 hcy2
      go_wp2_with fail
      have hl0 : Hid (wo.owns wo.heap.size 22 1 (.slice none 0 0) 0 (((List.range 0).map (fun j => (ra.getD j 0 + rb.getD j 0 * s) % q)).map u32V)) := World.owns_nil _ _ _ _
      go_loopw [12, 13] (fun rw' jj ws => ∃ j : Nat, j ≤ n ∧ jj = .int .i64 (j : Int) ∧ Hid (ws.owns wo.heap.size 22 1 rw' j (((List.range j).map (fun j => (ra.getD j 0 + rb.getD j 0 * s) % q)).map u32V)) ∧ Below wo.heap.size wo ws) (fun _ jj _ => n - (intOf jj).toNat)
      case atStart => exact ⟨0, Nat.zero_le _, rfl, hl0, Below.refl _ _⟩
      case round =>
        obtain ⟨ws, rfl⟩ : ∃ x, x = wr := ⟨_, rfl⟩
        clear hl0
        obtain ⟨j, hj, rfl, how, hbs⟩ := hrel
        have hss := hbs.size
        have HCS := Lib.hid (bcell hbs).1
        obtain ⟨xa, xc, rfl⟩ := reads_len how.out.reads
        have hll : (((List.range j).map (fun j => (ra.getD j 0 + rb.getD j 0 * s) % q)).map u32V).length = j := by simp
        rw [hll] at how ⊢
        have c0s : ws.cell? ⟨w.heap.size, 0, none⟩ = some (.int .i64 (n : Int)) := (HCS.out _ _ (by omega)).trans HC0.out
        by_cases hltj : j < n
        · obtain ⟨x, hx⟩ : ∃ x, ra[j]? = some x := ⟨ra[j]'(by rw [HRAN.out]; exact hltj), List.getElem?_eq_getElem _⟩
          obtain ⟨y, hy⟩ : ∃ x, rb[j]? = some x := ⟨rb[j]'(by rw [HRBN.out]; exact hltj), List.getElem?_eq_getElem _⟩
          obtain ⟨xb, xo, rfl, hxb, hcx⟩ := HXS.out j x hx
          obtain ⟨yb, yo, rfl, hyb, hcy⟩ := HYS.out j y hy
          have hxq := HRAQ.out x (List.mem_of_getElem? hx)
          have hyq := HRBQ.out y (List.mem_of_getElem? hy)
          have hcxs : ws.cell? ⟨xb, xo + j, none⟩ = some (.int .u32 (x : Int)) := ((HCS.out _ _ (by omega)).trans (hO.out.cell (by omega) (by omega))).trans hcx
          have hcys : ws.cell? ⟨yb, yo + j, none⟩ = some (.int .u32 (y : Int)) := ((HCS.out _ _ (by omega)).trans (hO.out.cell (by omega) (by omega))).trans hcy
          have s1 : ws.cell? ⟨vb, vo + k, none⟩ = some (.int .u32 (q : Int)) := (HCS.out _ _ (by omega)).trans HCQ2.out
          have s2 : ws.cell? ⟨ab, ao + k, none⟩ = some (.slice (some ⟨xb, xo, none⟩) n axc) := (HCS.out _ _ (by omega)).trans HCX2.out
          have s3 : ws.cell? ⟨bb, bo + k, none⟩ = some (.slice (some ⟨yb, yo, none⟩) n bxc) := (HCS.out _ _ (by omega)).trans HCY2.out
          have s4 : ws.cell? ⟨w.heap.size + 1, 2, none⟩ = some (.slice (some ⟨ab, ao, none⟩) R ac) := (HCS.out _ _ (by omega)).trans HK2.out
          have s5 : ws.cell? ⟨w.heap.size + 1 + 1, 2, none⟩ = some (.slice (some ⟨bb, bo, none⟩) R bc) := (HCS.out _ _ (by omega)).trans HJ2.out
          obtain ⟨p, ms, z, e1, e1b, e1c, e1d, e2, e2b, hze⟩ := sum_parts x y s q hxq hyq hrl hqr.2
          have HZE : Hid ((ra.getD j 0 + rb.getD j 0 * s) % q = z) := by
            show _ = _
            rw [hze]; simp only [List.getD_eq_getElem?_getD, hx, hy, Option.getD_some]
          have y0 : (0 : Int) ≤ (j : Int) := by omega
          have y1 : (j : Int) < (n : Int) := by omega
          have y2 : (z : Int) % 4294967296 = (z : Int) := by omega
          have HN := Lib.hid (news_alloc ws [.int .u32 (IntKind.u32.wrap (z : Int))] 22)
          have HWR : Hid (IntKind.u32.wrap (z : Int) = (z : Int)) := by show _ = _; rw [IntKind.wrap_u32]; exact y2
          clear hx hy hcx hcy hll hze
          have w1' : IntKind.u64.wrap (q : Int) = (q : Int) := IntWalk.u64_in _ ⟨by omega, by omega⟩
          have w2' : IntKind.u64.wrap (x : Int) = (x : Int) := IntWalk.u64_in _ ⟨by omega, by omega⟩
          have w3' : IntKind.u64.wrap (y : Int) = (y : Int) := IntWalk.u64_in _ ⟨by omega, by omega⟩
          have w4' : IntKind.u64.wrap (p : Int) = (p : Int) := IntWalk.u64_in _ ⟨by omega, by omega⟩
          have w5' : IntKind.u64.wrap (ms : Int) = (ms : Int) := IntWalk.u64_in _ ⟨by omega, by omega⟩
          go_upto_region 10 with (fail)
          go_region_held3 (fun w' => w'.cell? ⟨xb, xo + j, none⟩ = some (.int .u32 (x : Int)) ∧ w'.cell? ⟨yb, yo + j, none⟩ = some (.int .u32 (y : Int)) ∧ w'.cell? ⟨vb, vo + k, none⟩ = some (.int .u32 (q : Int)) ∧ w'.cell? ⟨ab, ao + k, none⟩ = some (.slice (some ⟨xb, xo, none⟩) n axc) ∧ w'.cell? ⟨bb, bo + k, none⟩ = some (.slice (some ⟨yb, yo, none⟩) n bxc) ∧ w'.cell? ⟨w.heap.size + 1, 2, none⟩ = some (.slice (some ⟨ab, ao, none⟩) R ac) ∧ w'.cell? ⟨w.heap.size + 1 + 1, 2, none⟩ = some (.slice (some ⟨bb, bo, none⟩) R bc))
            (first | go_keep | exact ⟨hcxs, hcys, s1, s2, s3, s4, s5⟩ | exact ⟨by assumption, by assumption, by assumption, by assumption, by assumption, by assumption, by assumption⟩)
            (first
              | (go_simp; go_at_call 43; refine (HRS.out _).mono ?_; rintro e w3 ⟨rfl, rfl⟩)
              | (refine step_append_owns _ (by rfl) (.tmp 37) (.tmp 71) 23 (by rfl) wo.heap.size 22 i0 (.int .u32 0) 1 4 Try.underlying23 hi0 hiz hiz1 hizb rfl (by decide) (.slice xa j xc) j _ (by rfl) ((how.out.alloc _).drew) ⟨ws.heap.size, 0, none⟩ 1 1 [.int .u32 (IntKind.u32.wrap (z : Int))] (by rfl) (by rfl) (fun j u h => HN.out j u h) (by simp [Value.oneCell']) (by unfold maxLen; omega) (by omega) (by simp; omega) ?_
                 intro v4 W5 hown4 hg4
                 have hb5 : Below wo.heap.size wo W5 := ((hbs.alloc hss _).drew).grown hg4 (by simp; omega) (fun k hk => (how.out.lt k hk).1)
                 have r1 := hb5.cell (p := ⟨xb, xo + j, none⟩) (show xb < _ by omega)
                 have r2 := hb5.cell (p := ⟨yb, yo + j, none⟩) (show yb < _ by omega)
                 have r3 := hb5.cell (p := ⟨vb, vo + k, none⟩) (show vb < _ by omega)
                 have r4 := hb5.cell (p := ⟨ab, ao + k, none⟩) (show ab < _ by omega)
                 have r5 := hb5.cell (p := ⟨bb, bo + k, none⟩) (show bb < _ by omega)
                 have r6 := hb5.cell (p := ⟨w.heap.size + 1, 2, none⟩) (show w.heap.size + 1 < _ by omega)
                 have r7 := hb5.cell (p := ⟨w.heap.size + 1 + 1, 2, none⟩) (show w.heap.size + 1 + 1 < _ by omega)
                 rw [← HCS.out _ _ (by omega)] at r1 r2 r3 r4 r5 r6 r7
                 rw [hcxs] at r1
                 rw [hcys] at r2
                 rw [s1] at r3
                 rw [s2] at r4
                 rw [s3] at r5
                 rw [s4] at r6
                 rw [s5] at r7))
          have HO4 := Lib.hid hown4
          have HB5 := Lib.hid hb5
          clear hown4 hb5 hg4
          go_wp2
          go_roundw
          case rel =>
            refine ⟨j + 1, by omega, by go_num, ?_, HB5.out⟩
            show World.owns _ _ _ _ _ _ _
            rw [map_range_map_succ, HZE.out]
            have h4 := HO4.out
            rw [HWR.out] at h4
            exact h4
          case measure => simp [intOf]; omega
        · obtain rfl : j = n := by omega
          have hO5 := hO.out.below hbs
          obtain ⟨oa, oc, o1, o2⟩ := hO5.open_
          have hol := zipRows_length (sumRow kk j) ml xs ys k
          rw [hol] at o1 o2
          obtain ⟨-, -, e2, -, -, fz2⟩ := elem_cells o1
          have hu := how.out
          have HU : Hid (ws.owns W4.heap.size 22 1 (.slice xa j xc) (sumRow kk j q ra rb).length ((sumRow kk j q ra rb).map u32V)) := by
            show World.owns _ _ _ _ _ _ _
            unfold sumRow
            rw [List.length_map, List.length_range, ← HS.out]; exact hu.mono hsr
          have hl6 : (zipRows (sumRow kk j) ml xs ys k ++ [sumRow kk j q ra rb]).length = k + 1 := by rw [List.length_append, hol]; rfl
          have HO5 := Lib.hid hO5
          have HO1 := Lib.hid o1
          have HO2 := Lib.hid o2
          have hsb2 : W0.heap.size < ws.heap.size := by omega
          clear hO5 o1 o2 hu how hll
          go_wp2_with (at_builtin; refine wpList_pushRow rfl (.tmp 74) (.tmp 76) 26 rfl W4.heap.size 23 22 (by decide) i1 (.slice none 0 0) 24 Try.underlying26 hi1 hi1z hi1z1 hi1b rfl (.slice oa k oc) _ rfl HO2.out (.slice xa j xc) (sumRow kk j q ra rb) HU.out ws.heap.size rfl rfl rfl (by rw [hol]; unfold maxLen; omega) (by rw [hol]; omega) (by omega) ?_; intro v6 W6 hr6 hz6 hBB6 hKK6; obtain ⟨g6, c6, rfl⟩ := hr6.open_; rw [hl6] at hr6 ⊢; obtain ⟨h16, hO6⟩ := HO5.out.push (by omega) (by omega) hr6 hBB6; obtain ⟨-, -, e26, -, -, f26⟩ := elem_cells (h16 _ HO1.out))
          have HO6 := Lib.hid hO6
          clear hO6 hBB6 hKK6 hr6 h16
          go_wp2
          go_roundw
          case rel =>
            refine ⟨k + 1, by omega, by go_num, ?_⟩
            show OutE _ _ _ _ _ _ _
            rw [zipRows_succ _ _ _ _ _ _ _ _ HQ.out HRA.out HRB.out]
            exact HO6.out
          case measure => simp [intOf]; omega
    · obtain rfl : k = R := by omega
      obtain ⟨oa, oc, o1, o2⟩ := hO.out.open_
      rw [zipRows_length] at o1
      obtain ⟨e0', e1', e2', -, -, -⟩ := elem_cells o1
      have he6 := (hO.out.block (b := w.heap.size + 1 + 1 + 1) (by omega) (by omega)).trans HRC.out
      obtain ⟨k0, k1, k2, f0, f1, f2⟩ := elem_cells he6
      have hlz := lt_of_heap he6
      have HO1 := Lib.hid o1
      have HE6 := Lib.hid he6
      clear o1 o2 he6
      go_wp2
      obtain ⟨W6, hW6⟩ : ∃ W6, W6 = ((wo.setCell ⟨w.heap.size + 1 + 1 + 1, 0, none⟩ (.int .i64 (lv : Int))).setCell ⟨w.heap.size + 1 + 1 + 1, 1, none⟩ (.bool special)).setCell ⟨w.heap.size + 1 + 1 + 1, 2, none⟩ (.slice oa k oc) := ⟨_, rfl⟩
      obtain ⟨h6, hr6, hB6⟩ := hO.out.store HO1.out (by omega) (by omega) HE6.out hW6
      obtain ⟨j0, j1, j2, -, -, -⟩ := elem_cells h6
      rw [← hW6]
      refine bodyPost_ret (v := .agg #[.int .i64 (lv : Int), .bool special, .slice oa k oc]) ?_ rfl (HPOST.out _ _ (hr6.mono (by have := hO.out.size; omega)) hB6)
      simp [results, Try.results46, go_sem, j0, j1, j2]
end Go.Proofs.Ytpcpgmgpkegjlaa
