/- Walks: what the laws leave out, of a case. -/
import Derived.Test.YtpcpgmgpkegjlaaGC4
namespace Go.Proofs.Ytpcpgmgpkegjlaa
open Go.RowKit Go.Shelf Go.BigFrame
/-- A case: what it is made of. -/
structure Case where
  (N pr pw wt er width la lb i level : Int)
  (cv av bv lw : Value)
  (sa sb : Bool)
  (chain : List Nat)
  (sp : Nat)
  (xs ys : List (List Nat))
  (ls : List (List Int))
def Case.cells (c : Case) : Array Value := #[.int .i64 c.N, .int .u32 c.pr, .int .i64 c.pw, c.cv, .int .u32 (c.sp : Int), .int .i64 c.wt, .int .u32 c.er, .int .i64 c.width, .int .i64 c.la, .bool c.sa, c.av, .int .i64 c.lb, .bool c.sb, c.bv, .int .i64 c.i, .int .i64 c.level, c.lw]
def Case.reads (c : Case) (B : Nat) (w : World) : Prop := w.reads B c.cv (c.chain.map u32V) ∧ w.rows u32V B c.av c.xs ∧ w.rows u32V B c.bv c.ys ∧ w.rows i64V B c.lw c.ls
theorem Case.reads.below {c : Case} {B : Nat} {w w' : World} (h : c.reads B w) (hb : Below B w w') : c.reads B w' := ⟨h.1.below hb, h.2.1.below hb, h.2.2.1.below hb, h.2.2.2.below hb⟩
theorem Case.reads.mono {c : Case} {B B' : Nat} {w : World} (h : c.reads B w) (hb : B ≤ B') : c.reads B' w := ⟨h.1.mono hb, h.2.1.mono hb, h.2.2.1.mono hb, h.2.2.2.mono hb⟩
def smallL (rs : List (List Int)) (k : Nat) : Bool := (rs.take k).all fun r => decide (r.length ≤ 100)
def largeB (c : Case) : Bool := decide (100 < c.chain.length) || hugeB c.xs || hugeB c.ys || decide (500 < c.ls.length) || !smallL c.ls c.ls.length
def LargePost (c : Case) (w : World) (e : Ending) (w' : World) : Prop := e = .returned (.bool (largeB c)) ∧ Below w.heap.size w w'
set_option maxRecDepth 100000 in
set_option maxHeartbeats 16000000 in
theorem large_any (c : Case) (w : World) (h : c.reads w.heap.size w) : Calls Try.prog 9 #[.agg c.cells] w (LargePost c w) := by
  have hpost : ∀ e w', e = .returned (.bool (largeB c)) ∧ Below w.heap.size w w' → LargePost c w e w' := fun _ _ h => h
  have HPOST := Lib.hid hpost
  clear hpost
  obtain ⟨hrc, hra, hrb, hrl⟩ := h
  obtain ⟨c1, cc, hcv, hcc, hcm, -⟩ := reads_u32 hrc
  obtain ⟨l1, lc, hlv, hlc, hlm, hls⟩ := hrl.shape
  have HLS := Lib.hid hls
  have HRA := Lib.hid hra
  have HRB := Lib.hid hrb
  clear hrc hra hrb hrl hls
  unfold Case.cells
  rw [hcv, hlv]
  obtain ⟨W0, hW0⟩ : ∃ W0, W0 = w.alloc (.cells #[.int .i64 c.N, .int .u32 c.pr, .int .i64 c.pw, .slice c1 c.chain.length cc, .int .u32 (c.sp : Int), .int .i64 c.wt, .int .u32 c.er, .int .i64 c.width, .int .i64 c.la, .bool c.sa, c.av, .int .i64 c.lb, .bool c.sb, c.bv, .int .i64 c.i, .int .i64 c.level, .slice l1 c.ls.length lc] 31) := ⟨_, rfl⟩
  have hB0 : Below w.heap.size w W0 := by rw [hW0]; exact (Below.refl _ w).alloc (Nat.le_refl _) _
  have g0 : W0.heap[w.heap.size]? = some (.cells #[.int .i64 c.N, .int .u32 c.pr, .int .i64 c.pw, .slice c1 c.chain.length cc, .int .u32 (c.sp : Int), .int .i64 c.wt, .int .u32 c.er, .int .i64 c.width, .int .i64 c.la, .bool c.sa, c.av, .int .i64 c.lb, .bool c.sb, c.bv, .int .i64 c.i, .int .i64 c.level, .slice l1 c.ls.length lc] 31) := by
    rw [hW0]; exact alloc_last _ _ rfl
  have hz0 := lt_of_heap g0
  have HA := Lib.hid (huge_any c.la c.sa c.av c.xs w.heap.size W0 (HRA.out.below hB0) hB0.size)
  have HB := Lib.hid (fun W hb => huge_any c.lb c.sb c.bv c.ys w.heap.size W (HRB.out.below (hB0.trans (Below.mono hb hB0.size))) (Nat.le_trans hB0.size (Below.size hb)))
  have k3 : W0.cell? ⟨w.heap.size, 3, none⟩ = some (.slice c1 c.chain.length cc) := by simp [World.cell?, g0]
  have k8 : W0.cell? ⟨w.heap.size, 8, none⟩ = some (.int .i64 c.la) := by simp [World.cell?, g0]
  have k9 : W0.cell? ⟨w.heap.size, 9, none⟩ = some (.bool c.sa) := by simp [World.cell?, g0]
  have k10 : W0.cell? ⟨w.heap.size, 10, none⟩ = some c.av := by simp [World.cell?, g0]
  have HG := Lib.hid g0
  have HW0 := Lib.hid hW0
  obtain ⟨m, hm⟩ : ∃ m, m = c.chain.length := ⟨_, rfl⟩
  rw [← hm] at hcc k3 HW0 HG
  rw [← hm]
  obtain ⟨L, hL⟩ : ∃ L, L = c.ls.length := ⟨_, rfl⟩
  rw [← hL] at hlc HW0 HG
  rw [← hL]
  have HM := Lib.hid hm
  have HL := Lib.hid hL
  obtain ⟨r, hr⟩ : ∃ r, r = largeB c := ⟨_, rfl⟩
  rw [← hr] at HPOST
  have HR : Hid (r = (decide (100 < m) || hugeB c.xs || hugeB c.ys || decide (500 < L) || !smallL c.ls L)) := by
    show _ = _; rw [hr, hm, hL]; rfl
  clear hm hL hcv hlv hr g0 hW0
  obtain ⟨ha, hha⟩ : ∃ b, b = hugeB c.xs := ⟨_, rfl⟩
  obtain ⟨hb, hhb⟩ : ∃ b, b = hugeB c.ys := ⟨_, rfl⟩
  rw [← hha] at HA HR
  rw [← hhb] at HR
  simp only [← hhb] at HB
  clear hha hhb
  by_cases hm1 : 100 < m
  · obtain rfl : r = true := by rw [HR.out]; simp [hm1]
    go_enter Try.func9, Try.ntmps9
    go_upto_region 1 with (fail)
    rw [← HW0.out]
    go_wp2
    go_ret
    exact HPOST.out _ _ ⟨rfl, hB0⟩
  · cases ha
    case true =>
      obtain rfl : r = true := by rw [HR.out]; simp
      go_enter Try.func9, Try.ntmps9
      go_upto_region 1 with (fail)
      rw [← HW0.out]
      go_wp2_with fail
      refine HA.out.mono ?_
      rintro e w1 ⟨rfl, hb1⟩
      go_wp2
      go_ret
      exact HPOST.out _ _ ⟨rfl, hB0.trans (hb1.mono hB0.size)⟩
    go_enter Try.func9, Try.ntmps9
    go_upto_region 1 with (fail)
    rw [← HW0.out]
    go_wp2_with fail
    refine HA.out.mono ?_
    rintro e w1 ⟨rfl, hb1⟩
    have g1 := (hb1.block _ hz0).trans HG.out
    have k11 : w1.cell? ⟨w.heap.size, 11, none⟩ = some (.int .i64 c.lb) := by simp [World.cell?, g1]
    have k12 : w1.cell? ⟨w.heap.size, 12, none⟩ = some (.bool c.sb) := by simp [World.cell?, g1]
    have k13 : w1.cell? ⟨w.heap.size, 13, none⟩ = some c.bv := by simp [World.cell?, g1]
    have HBB := HB.out w1 hb1
    have hB1 := hB0.trans (hb1.mono hB0.size)
    have hz1 := hb1.size
    have HG1 := Lib.hid g1
    clear k3 k8 k9 k10 g1
    go_wp2_with fail
    refine HBB.mono ?_
    rintro e w2 ⟨rfl, hb2⟩
    have g2 := (hb2.block _ (by omega)).trans HG1.out
    have k16 : w2.cell? ⟨w.heap.size, 16, none⟩ = some (.slice l1 L lc) := by simp [World.cell?, g2]
    have hB2 := hB1.trans (hb2.mono hB1.size)
    have HS2 : Hid (∀ (j : Nat) (r : List Int), c.ls[j]? = some r → ∃ b off b2 c2, l1 = some ⟨b, off, none⟩ ∧ w2.cell? ⟨b, off + j, none⟩ = some (.slice b2 r.length c2)) := by
      intro j r hj
      obtain ⟨b, off, b2, c2, h1, h2, h3, h4⟩ := HLS.out j r hj
      exact ⟨b, off, b2, c2, h1, by rw [hB2.cell (p := ⟨b, off + j, none⟩) h2]; exact h3⟩
    clear g2 k11 k12 k13 HBB
    cases hb
    case true =>
      obtain rfl : r = true := by rw [HR.out]; simp
      go_wp2
      go_ret
      exact HPOST.out _ _ ⟨rfl, hB2⟩
    by_cases hl5 : 500 < L
    · obtain rfl : r = true := by rw [HR.out]; simp [hl5]
      go_wp2
      go_ret
      exact HPOST.out _ _ ⟨rfl, hB2⟩
    · have hr1 : r = !smallL c.ls L := by rw [HR.out]; simp [hm1, hl5]
      have HR1 := Lib.hid hr1
      clear hr1 HR
      go_wp2
      go_loop [3] (fun i => ∃ k : Nat, k ≤ L ∧ i = .int .i64 (k : Int) ∧ Hid (smallL c.ls k = true)) (fun i => L - (intOf i).toNat)
      case atStart => exact ⟨0, Nat.zero_le _, rfl, by show _ = _; simp [smallL]⟩
      case round =>
        obtain ⟨k, hk, rfl, hall⟩ := hrel
        by_cases hlt : k < L
        · obtain ⟨x, hx⟩ : ∃ x, c.ls[k]? = some x := ⟨c.ls[k]'(by have := HL.out; omega), List.getElem?_eq_getElem _⟩
          obtain ⟨b1, o1, p1, d1, rfl, hcx⟩ := HS2.out k x hx
          obtain ⟨n, hn⟩ : ∃ m, m = x.length := ⟨_, rfl⟩
          rw [← hn] at hcx
          have HX := Lib.hid hx
          have HN := Lib.hid hn
          clear hx hn
          by_cases hbig : 100 < n
          · obtain rfl : r = true := by
              have h3 : smallL c.ls L = false := by
                unfold smallL
                rw [List.all_eq_false]
                refine ⟨x, ?_, by have := HN.out; simp; omega⟩
                exact List.mem_of_getElem? (i := k) (by rw [List.getElem?_take, if_pos hlt]; exact HX.out)
              rw [HR1.out, h3]; rfl
            go_wp2
            go_ret
            exact HPOST.out _ _ ⟨rfl, hB2⟩
          · go_wp2
            go_round
            case rel => exact ⟨k + 1, by omega, by go_num, by show _ = _; unfold smallL; rw [all_take_succ _ _ _ _ HX.out]; have h3 := hall.out; unfold smallL at h3; rw [h3]; have := HN.out; simp; omega⟩
            case measure => simp [intOf]; omega
        · obtain rfl : k = L := by omega
          obtain rfl : r = false := by rw [HR1.out, hall.out]; rfl
          clear hall
          go_wp2
          go_ret
          exact HPOST.out _ _ ⟨rfl, hB2⟩
end Go.Proofs.Ytpcpgmgpkegjlaa
