/- Walks: the law of different words and shorter streams. -/
import Derived.Test.YtfiajfjaamfeoaaWj
import Derived.Test.YtfiajfjaamfeoaaInj2
import Derived.Deep.DeepCutAuto
namespace Go.Proofs.Ytfiajfjaamfeoaa
open Go.RowKit
/-- Whether five words are five others. -/
def eq5 (a0 a1 a2 a3 a4 b0 b1 b2 b3 b4 : Int) : Bool := a0 == b0 && a1 == b1 && a2 == b2 && a3 == b3 && a4 == b4
theorem eq23' (a0 a1 a2 a3 a4 b0 b1 b2 b3 b4 : Int) (w : World) :
    (Op.equalIn 10000 23 (.agg #[.int .u64 a0, .int .u64 a1, .int .u64 a2, .int .u64 a3, .int .u64 a4]) (.agg #[.int .u64 b0, .int .u64 b1, .int .u64 b2, .int .u64 b3, .int .u64 b4])).run Try.prog w =
      .ok (eq5 a0 a1 a2 a3 a4 b0 b1 b2 b3 b4) w := eq23 a0 a1 a2 a3 a4 b0 b1 b2 b3 b4 w
theorem thirteen_cells {w : World} {b : Nat} {v0 v1 v2 v3 v4 v5 v6 v7 v8 v9 v10 v11 v12 : Value} {t : TypeId} (h : w.heap[b]? = some (.cells #[v0, v1, v2, v3, v4, v5, v6, v7, v8, v9, v10, v11, v12] t)) :
    w.cell? ⟨b, 0, none⟩ = some v0 ∧ w.cell? ⟨b, 1, none⟩ = some v1 ∧ w.cell? ⟨b, 2, none⟩ = some v2 ∧ w.cell? ⟨b, 3, none⟩ = some v3 ∧ w.cell? ⟨b, 4, none⟩ = some v4 ∧ w.cell? ⟨b, 5, none⟩ = some v5 ∧ w.cell? ⟨b, 6, none⟩ = some v6 ∧ w.cell? ⟨b, 7, none⟩ = some v7 ∧ w.cell? ⟨b, 8, none⟩ = some v8 ∧ w.cell? ⟨b, 9, none⟩ = some v9 ∧ w.cell? ⟨b, 10, none⟩ = some v10 ∧ w.cell? ⟨b, 11, none⟩ = some v11 ∧ w.cell? ⟨b, 12, none⟩ = some v12 ∧
    w.frozen? ⟨b, 0, none⟩ = false ∧ w.frozen? ⟨b, 1, none⟩ = false ∧ w.frozen? ⟨b, 2, none⟩ = false ∧ w.frozen? ⟨b, 3, none⟩ = false ∧ w.frozen? ⟨b, 4, none⟩ = false ∧ w.frozen? ⟨b, 5, none⟩ = false ∧ w.frozen? ⟨b, 6, none⟩ = false ∧ w.frozen? ⟨b, 7, none⟩ = false ∧ w.frozen? ⟨b, 8, none⟩ = false ∧ w.frozen? ⟨b, 9, none⟩ = false ∧ w.frozen? ⟨b, 10, none⟩ = false ∧ w.frozen? ⟨b, 11, none⟩ = false ∧ w.frozen? ⟨b, 12, none⟩ = false := by
  refine ⟨?_, ?_, ?_, ?_, ?_, ?_, ?_, ?_, ?_, ?_, ?_, ?_, ?_, ?_, ?_, ?_, ?_, ?_, ?_, ?_, ?_, ?_, ?_, ?_, ?_, ?_⟩ <;> first | (simp [World.cell?, h]; done) | (simp [World.frozen?, h]; done)
attribute [local go_sem] eq23'
set_option maxRecDepth 100000 in
set_option maxHeartbeats 40000000 in
theorem apart_law (x y : St) (r n : Int) (s : ByteArray) (hs : s.size ≤ 9223372036854775807) (w : World) :
    Calls Try.prog 4 #[.agg #[.int .u64 (wv x.a), .int .u64 (wv x.b), .int .u64 (wv x.c), .int .u64 (wv x.d), .int .u64 (wv x.e), .int .u64 (wv y.a), .int .u64 (wv y.b), .int .u64 (wv y.c), .int .u64 (wv y.d), .int .u64 (wv y.e), .int .i64 r, .int .i64 n, .string s]] w
      fun e w' => e = .returned (.bool true) ∧ Below w.heap.size w w' := by
  have hk0 := Int.emod_nonneg r (show (12 : Int) ≠ 0 by decide)
  have hk1 := Int.emod_lt_of_pos r (show (0 : Int) < 12 by decide)
  obtain ⟨k, hk⟩ := Int.eq_ofNat_of_zero_le hk0
  obtain ⟨m, hm⟩ := Int.eq_ofNat_of_zero_le (Int.emod_nonneg n (show (2000 : Int) ≠ 0 by decide))
  have hm1 := Int.emod_lt_of_pos n (show (0 : Int) < 2000 by decide)
  rw [hm] at hm1
  rw [hk] at hk0 hk1
  have hE : eq5 (wv (St.perm (k + 1) x).a) (wv (St.perm (k + 1) x).b) (wv (St.perm (k + 1) x).c) (wv (St.perm (k + 1) x).d) (wv (St.perm (k + 1) x).e) (wv (St.perm (k + 1) y).a) (wv (St.perm (k + 1) y).b) (wv (St.perm (k + 1) y).c) (wv (St.perm (k + 1) y).d) (wv (St.perm (k + 1) y).e) =
      eq5 (wv x.a) (wv x.b) (wv x.c) (wv x.d) (wv x.e) (wv y.a) (wv y.b) (wv y.c) (wv y.d) (wv y.e) := stEq_perm (k + 1) x y
  obtain ⟨E, hX⟩ : ∃ E, eq5 (wv x.a) (wv x.b) (wv x.c) (wv x.d) (wv x.e) (wv y.a) (wv y.b) (wv y.c) (wv y.d) (wv y.e) = E := ⟨_, rfl⟩
  rw [hX] at hE
  have HX : ∀ w, Calls Try.prog 7 #[x.val, .int .i64 (1 + (k : Int))] w fun e w' => e = .returned (.tuple #[(St.perm (k + 1) x).val, .int .i64 0]) ∧ Below w.heap.size w w' := by
    intro w
    have := Permute_ok x (1 + (k : Int)) (by omega) w
    rwa [show (1 + (k : Int)).toNat = k + 1 by omega] at this
  have HY : ∀ w, Calls Try.prog 7 #[y.val, .int .i64 (1 + (k : Int))] w fun e w' => e = .returned (.tuple #[(St.perm (k + 1) y).val, .int .i64 0]) ∧ Below w.heap.size w w' := by
    intro w
    have := Permute_ok y (1 + (k : Int)) (by omega) w
    rwa [show (1 + (k : Int)).toNat = k + 1 by omega] at this
  have HX := Lib.hid HX
  have HY := Lib.hid HY
  generalize St.perm (k + 1) x = px at hE HX
  generalize St.perm (k + 1) y = py at hE HY
  have HE := Lib.hid hE
  have HEX := Lib.hid hX
  clear hE hX
  obtain ⟨h2, hh⟩ : ∃ h2, m / 2 = h2 := ⟨_, rfl⟩
  have hd : (m : Int).tdiv 2 = (h2 : Int) := by rw [Int.tdiv_eq_ediv_of_nonneg (by omega)]; omega
  have hh1 : (h2 : Int) ≤ 1000 := by omega
  have hh2 : h2 ≤ m := by omega
  have hh3 : (h2 : Int) ≤ (m : Int) := by omega
  have hh4 : (0 : Int) ≤ (h2 : Int) := by omega
  obtain ⟨t, ht⟩ : ∃ t, runB s 1 m = t := ⟨_, rfl⟩
  obtain ⟨u, hu⟩ : ∃ u, runB s 1 h2 = u := ⟨_, rfl⟩
  obtain ⟨dg, hdg⟩ : ∃ d, runB s 0 32 = d := ⟨_, rfl⟩
  obtain ⟨sh, hsh⟩ : ∃ d, runB s 0 8 = d := ⟨_, rfl⟩
  have htz : t.size = m := by rw [← ht]; exact runB_size _ _ _
  have hdz : dg.size = 32 := by rw [← hdg]; exact runB_size _ _ _
  have hext : t.extract 0 h2 = u := by rw [← ht, ← hu]; exact runB_extract _ _ _ _ (by omega)
  have hd8 : dg.extract 0 8 = sh := by rw [← hdg, ← hsh]; exact runB_extract _ _ _ _ (by omega)
  have HEXT := Lib.hid hext
  have HD8 := Lib.hid hd8
  have HT := Lib.hid (fun h w => ht ▸ Stream_ok s (by omega) (m : Int) (by omega) w : s.size ≤ 5000 → ∀ w, Calls Try.prog 11 #[.string s, .int .i64 (m : Int)] w fun e w' => e = .returned (.tuple #[.string t, .int .i64 0]) ∧ Below w.heap.size w w')
  have HU := Lib.hid (fun h w => hu ▸ Stream_ok s (by omega) (h2 : Int) (by omega) w : s.size ≤ 5000 → ∀ w, Calls Try.prog 11 #[.string s, .int .i64 (h2 : Int)] w fun e w' => e = .returned (.tuple #[.string u, .int .i64 0]) ∧ Below w.heap.size w w')
  have HD := Lib.hid (fun h w => hdg ▸ Digest_any s (by omega) w : s.size ≤ 5000 → ∀ w, Calls Try.prog 12 #[.string s] w fun e w' => e = .returned (.string dg) ∧ Below w.heap.size w w')
  have HS := Lib.hid (fun h w => hsh ▸ Short_any s (by omega) w : s.size ≤ 5000 → ∀ w, Calls Try.prog 13 #[.string s] w fun e w' => e = .returned (.string sh) ∧ Below w.heap.size w w')
  clear hext hd8 ht hu hdg hsh hh
  have hne : ((2 : Int) == 0) = false := by decide
  go_enter Try.func4, Try.ntmps4
  go_upto_region 1 with (fail)
  go_cut [3, 4, 5, 6, 7] (fun s3 s4 s5 s6 s7 wx => s5 = .int .i64 r ∧ s6 = .string s ∧ s7 = .int .i64 n ∧ ∃ p q : Nat, s3 = .pointer (some ⟨p, 0, none⟩) ∧ s4 = .pointer (some ⟨q, 0, none⟩) ∧
    wx.heap[p]? = some (.cells #[.int .u64 (wv x.a), .int .u64 (wv x.b), .int .u64 (wv x.c), .int .u64 (wv x.d), .int .u64 (wv x.e)] 23) ∧ wx.heap[q]? = some (.cells #[.int .u64 (wv y.a), .int .u64 (wv y.b), .int .u64 (wv y.c), .int .u64 (wv y.d), .int .u64 (wv y.e)] 23) ∧ Below w.heap.size w wx)
  case first =>
    clear HX HY HE HEX HT HU HD HS HEXT HD8 hne hd hh1 hh2 hh3 hh4 htz hdz hk hk0 hk1 hm hm1
    go_region
    · go_wp2
      go_meet
      case rel => exact ⟨rfl, rfl, rfl, _, _, rfl, rfl, (Below.heap_alloc (World.alloc (World.alloc w _) _) _ _ (by simp)).trans (alloc_last _ _ (by simp)), alloc_last _ _ (by simp),
        ((((Below.refl _ w).alloc (Nat.le_refl _) _).alloc (by first | (simp; done) | (simp; omega)) _).alloc (by first | (simp; done) | (simp; omega)) _).drew⟩
    · go_wp2
      go_meet
      case rel => exact ⟨rfl, rfl, rfl, _, _, rfl, rfl, alloc_last _ _ (by simp), (Below.heap_alloc (World.alloc (World.alloc w _) _) _ _ (by simp)).trans (alloc_last _ _ (by simp)),
        ((((Below.refl _ w).alloc (Nat.le_refl _) _).alloc (by first | (simp; done) | (simp; omega)) _).alloc (by first | (simp; done) | (simp; omega)) _).drew⟩
  case rest =>
    obtain ⟨rfl, rfl, rfl, p, q, rfl, rfl, hp, hq, hB⟩ := hcut
    by_cases h5 : (5000 : Int) < (s.size : Int)
    · go_wp2_with fail
      refine (shown_any _).mono ?_
      rintro e w1 ⟨rfl, hb1⟩
      go_wp2
      go_ret
      exact ⟨rfl, hB.trans (hb1.mono hB.size)⟩
    · obtain ⟨c0, c1, c2, c3, c4, f0, f1, f2, f3, f4, z0⟩ := five_cells hp
      obtain ⟨-, -, -, -, -, -, -, -, -, -, y0⟩ := five_cells hq
      go_wp2_with fail
      refine (Pick_any r 12 (by decide) _).mono ?_
      rintro e w1 ⟨rfl, rfl⟩
      rw [hk]
      go_wp2_with fail
      refine (HX.out _).mono ?_
      rintro e w1 ⟨rfl, hb1⟩
      have hB1 := hB.trans (hb1.mono hB.size)
      have hp1 := (hb1.block p z0).trans hp
      have hq1 := (hb1.block q y0).trans hq
      have hs1 := hb1.size
      clear c0 c1 c2 c3 c4 f0 f1 f2 f3 f4 hb1 hp hq hB
      obtain ⟨d0, d1, d2, d3, d4, e0, e1, e2, e3, e4, y1⟩ := five_cells hq1
      have z1 : p < w1.heap.size := by omega
      go_wp2_with fail
      refine (HY.out _).mono ?_
      rintro e w2 ⟨rfl, hb2⟩
      have hs2 := hb2.size
      simp only [World.size_alloc] at hs2
      have hB2 : Below w.heap.size w w2 := (hB1.alloc hB1.size _).trans (hb2.mono (by have := hB1.size; simp; omega))
      have ha2 := (hb2.block w1.heap.size (by simp)).trans (alloc_last w1 _ rfl)
      have hp2 := (hb2.block p (by simp; omega)).trans ((Below.heap_alloc w1 _ p z1).trans hp1)
      have hq2 := (hb2.block q (by simp; omega)).trans ((Below.heap_alloc w1 _ q y1).trans hq1)
      clear d0 d1 d2 d3 d4 e0 e1 e2 e3 e4 hb2 hp1 hq1 hB1
      have hp3 := fun o => (Below.heap_alloc w2 o p (by omega)).trans hp2
      have hq3 := fun o => (Below.heap_alloc w2 o q (by omega)).trans hq2
      have ha3 := fun o => (Below.heap_alloc w2 o w1.heap.size (by omega)).trans ha2
      clear hp2 hq2 ha2
      go_upto_region 7 with (fail)
      have hE := HE.out
      have hX := HEX.out
      obtain ⟨c0, c1, c2, c3, c4, f0, f1, f2, f3, f4, _⟩ := five_cells (hp3 (.cells #[.int .u64 (wv py.a), .int .u64 (wv py.b), .int .u64 (wv py.c), .int .u64 (wv py.d), .int .u64 (wv py.e)] 23))
      obtain ⟨d0, d1, d2, d3, d4, e0, e1, e2, e3, e4, _⟩ := five_cells (hq3 (.cells #[.int .u64 (wv py.a), .int .u64 (wv py.b), .int .u64 (wv py.c), .int .u64 (wv py.d), .int .u64 (wv py.e)] 23))
      obtain ⟨g0, g1, g2, g3, g4, i0, i1, i2, i3, i4, _⟩ := five_cells (ha3 (.cells #[.int .u64 (wv py.a), .int .u64 (wv py.b), .int .u64 (wv py.c), .int .u64 (wv py.d), .int .u64 (wv py.e)] 23))
      clear hp3 hq3 ha3
      have hB3 : Below w.heap.size w (w2.alloc (.cells #[.int .u64 (wv py.a), .int .u64 (wv py.b), .int .u64 (wv py.c), .int .u64 (wv py.d), .int .u64 (wv py.e)] 23)) := hB2.alloc hB2.size _
      go_quiet (fail)
      clear c0 c1 c2 c3 c4 f0 f1 f2 f3 f4 d0 d1 d2 d3 d4 e0 e1 e2 e3 e4 g0 g1 g2 g3 g4 i0 i1 i2 i3 i4
      go_wp2_with fail
      refine (Pick_any n 2000 (by decide) _).mono ?_
      rintro e w4 ⟨rfl, rfl⟩
      rw [hm]
      go_wp2_with fail
      refine (HT.out (by omega) _).mono ?_
      rintro e w4 ⟨rfl, hb4⟩
      have hB4 : Below w.heap.size w w4 := (below_drewN hB3 nq).trans (hb4.mono (below_drewN hB3 nq).size)
      clear hb4 hB3
      go_wp2_with fail
      refine (HU.out (by omega) _).mono ?_
      rintro e w5 ⟨rfl, hb5⟩
      have hB5 : Below w.heap.size w w5 := hB4.trans (hb5.mono hB4.size)
      clear hb5 hB4
      go_wp2_with fail
      refine (HD.out (by omega) _).mono ?_
      rintro e w6 ⟨rfl, hb6⟩
      have hB6 : Below w.heap.size w w6 := hB5.trans (hb6.mono hB5.size)
      clear hb6 hB5
      have hex := HEXT.out
      have hd8 := HD8.out
      clear hE hX
      go_wp2_with fail
      have hs6 := hB6.size
      have hw2 : IntKind.i64.wrap (h2 : Int) = (h2 : Int) := IntWalk.i64_in _ (by omega)
      have hw : IntKind.i64.wrap ((m : Int).tdiv 2) = (h2 : Int) := by rw [hd]; exact hw2
      have htz' : (t.size : Int) = (m : Int) := by rw [htz]
      go_region_held3 (fun _ => True)
        (first
          | exact trivial)
        (first
          | (go_simp; go_at_call 13; refine (HS.out (by omega) _).mono ?_; rintro e w7 ⟨rfl, hb7⟩)
          | (go_simp; go_at_call 9; refine (shown_any _).mono ?_; rintro e w8 ⟨rfl, hb8⟩))
      have hB7 : Below w.heap.size w w7 := hB6.drew.trans (hb7.mono hB6.drew.size)
      have hB8 : Below w.heap.size w w8 := hB7.trans (hb8.mono hB7.size)
      go_wp2
      go_ret
      exact ⟨rfl, hB8⟩
end Go.Proofs.Ytfiajfjaamfeoaa
