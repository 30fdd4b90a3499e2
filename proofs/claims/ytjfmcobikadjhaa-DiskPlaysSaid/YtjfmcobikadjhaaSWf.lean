/- Walks: the reference's sponge. -/
import Derived.Test.YtjfmcobikadjhaaSWa
/- Walks: the reference's sponge. -/
namespace Go.Proofs.Ytjfmcobikadjhaa
open Go.RowKit
attribute [local go_sem] xor_wv and_wv or_wv not_wv shl_nf shr_nf shl_8 or_byte or_128
theorem init_word' (kd : Nat) (hk : kd ≤ 1) : IntKind.u64.wrap (8026104356937031936 + (kd : Int)) = wv (wof (letters + kd)) := by
  have : kd = 0 ∨ kd = 1 := by omega
  rcases this with rfl | rfl <;> decide +kernel
theorem permuted_12 (s : St) (w : World) :
    Calls Try.prog 56 #[s.val, .int .i64 12] w fun e w' => e = .returned (St.perm 12 s).val ∧ Below w.heap.size w w' := permuted_any s 12 (by omega) w
theorem permuted_init (x : BitVec 64) (w : World) :
    Calls Try.prog 56 #[.agg #[.int .u64 (wv x), .int .u64 0, .int .u64 0, .int .u64 0, .int .u64 0], .int .i64 12] w fun e w' => e = .returned (St.perm 12 ⟨x, wof 0, wof 0, wof 0, wof 0⟩).val ∧ Below w.heap.size w w' :=
  permuted_12 ⟨x, wof 0, wof 0, wof 0, wof 0⟩ w
theorem Try.info5' : (Try.prog.info? 5).map (fun i => (i.zero, i.size, i.bytes)) = some (some (.int .u8 0), 1, 1) := by kernel_rfl
set_option maxRecDepth 100000 in
set_option maxHeartbeats 4000000 in
theorem refsponge_any (s : ByteArray) (hs : s.size ≤ 1000000) (kd n : Nat) (hk : kd ≤ 1) (hn : n ≤ 1048576) (w : World) :
    Calls Try.prog 48 #[.string s, .int .u8 (kd : Int), .int .i64 (n : Int)] w fun e w' => e = .returned (.string (runB s kd n)) ∧ Below w.heap.size w w' := by
  have hi := init_word' kd hk
  obtain ⟨i0, hi0, hz0, hz1, hz2⟩ := info_parts Try.info5'
  have hmx : s.size ≤ maxLen := by unfold maxLen; omega
  go_enter Try.func48, Try.ntmps48
  go_wp2_with fail
  refine (permuted_init _ _).mono ?_
  rintro e w1 ⟨rfl, hb1⟩
  clear hi
  obtain ⟨S, hS⟩ : ∃ S : St, S = St.perm 12 ⟨wof (letters + kd), wof 0, wof 0, wof 0, wof 0⟩ := ⟨_, rfl⟩
  rw [← hS]
  have HS := Lib.hid hS
  clear hS
  have h1s := hb1.size
  go_wp2_with (first
    | (refine wpList_bytes_owns _ rfl (.tmp 19) 9 49 5 rfl s rfl Try.underlying9 Try.underlying49 Try.underlying5 hmx ?_; intro cap w2 hown2 hg2; simp only [World.size_alloc] at hown2)
    | (at_builtin; refine wpList_append_owns _ rfl (.tmp 20) (.tmp 21) 49 rfl _ 5 i0 (.int .u8 0) 1 1 Try.underlying49 hi0 hz0 hz1 hz2 rfl (by decide) _ s.size _ rfl (hown2.alloc _) ⟨w2.heap.size, 0, none⟩ 1 1 _ rfl rfl (cell_one_new _ _ _) (by simp [Value.oneCell']) (by unfold maxLen; omega) (by omega) (by have := hg2.size; simp at this ⊢; omega) ?_; intro v3 w3 hown3 hg3 _))
  have hg3' : (w2.alloc (.cells #[.int .u8 128] 5)).grownBy w3 (some (w1.heap.size + 1)) := hg3
  clear hg3
  rw [padL_zero] at hown3
  have hsz2 := hg2.size
  have hsz3 := hg3'.size
  simp only [World.size_alloc] at hsz2 hsz3
  have hB2 : Below w.heap.size w w2 := (hb1.alloc h1s _).grown hg2 (by simp; omega) (fun k e => by cases e)
  have hB3 : Below w.heap.size w w3 := (hB2.alloc hB2.size _).grown hg3' (by have := hB2.size; simp; omega) (fun k e => by cases e; omega)
  have hc3 : w3.heap[w1.heap.size]? = some (.cells S.cells 81) := by
    rw [hg3'.block _ (by simp; omega) (by simp), Below.heap_alloc _ _ _ (by omega), hg2.block _ (by simp) (by simp)]
    exact alloc_last _ _ rfl
  obtain ⟨g3, cap3, rfl⟩ := hown3.succ
  clear hown2 hg2 hg3' hb1
  go_loopw [8] (fun v wx => ∃ j g cap : Nat, s.size + 1 + j ≤ 8 * (s.size / 8 + 1) ∧ v = .slice (some ⟨g, 0, none⟩) (s.size + 1 + j) cap ∧ wx.owns (w1.heap.size + 1) 5 1 v (s.size + 1 + j) ((padL s j).map byteV) ∧
      wx.heap[w1.heap.size]? = some (.cells S.cells 81) ∧ Below w.heap.size w wx ∧ w1.heap.size + 1 < wx.heap.size) (fun v _ => s.size + 9 - lenOf v)
  case atStart => exact ⟨0, g3, cap3, by omega, rfl, hown3, hc3, hB3, by omega⟩
  case round =>
    obtain ⟨j, g, cap, hj, rfl, how, hc, hB, hz⟩ := hrel
    obtain ⟨_, hjc, hbg, hcm, hgl⟩ := how.facts
    by_cases hlt : s.size + 1 + j < 8 * (s.size / 8 + 1)
    · have hne : ¬ ((s.size : Int) + 1 + j) % 8 = 0 := by omega
      go_wp2_with (at_builtin; (refine wpList_append_owns _ rfl (.tmp 27) (.tmp 28) 49 rfl _ 5 i0 (.int .u8 0) 1 1 Try.underlying49 hi0 hz0 hz1 hz2 rfl (by decide) _ (s.size + 1 + j) _ rfl (how.alloc _) ⟨wr.heap.size, 0, none⟩ 1 1 _ rfl rfl (cell_one_new _ _ _) (by simp [Value.oneCell']) (by unfold maxLen; omega) (by omega) (by simp; omega) ?_; intro v4 w4 hown4 hg4 _))
      have hg4' : (wr.alloc (.cells #[.int .u8 0] 5)).grownBy w4 (some g) := hg4
      clear hg4
      have hs4 := hg4'.size
      simp only [World.size_alloc] at hs4
      obtain ⟨g4, cap4, rfl⟩ := hown4.succ
      go_roundw
      case rel =>
        refine ⟨j + 1, g4, cap4, by omega, rfl, ?_, ?_, ?_, by omega⟩
        · rw [padL_succ, List.map_append]; exact hown4
        · rw [hg4'.block _ (by simp; omega) (by simp; omega), Below.heap_alloc _ _ _ (by omega)]; exact hc
        · exact (hB.alloc hB.size _).grown hg4' (by have := hB.size; simp; omega) (fun k e => by cases e; omega)
      case measure => simp [lenOf]; omega
    · have hne : ((s.size : Int) + 1 + j) % 8 = 0 := by omega
      obtain ⟨m, hm⟩ : ∃ m, m = s.size / 8 + 1 := ⟨_, rfl⟩
      have hsj1 : s.size + 1 + j ≤ 8 * m := by omega
      have hsj2 : 8 * m ≤ s.size + 1 + j := by omega
      have hm1 : m ≤ s.size / 8 + 1 := by omega
      have hm2 : s.size / 8 + 1 ≤ m := by omega
      clear hm
      go_wp2
      clear hne
      obtain ⟨wo, rfl⟩ : ∃ wo : World, wo = wr := ⟨_, rfl⟩
      go_loopw [9] (fun v wx => ∃ q : Nat, q ≤ m ∧ v = .int .i64 (8 * (q : Int)) ∧ wx.owns (w1.heap.size + 1) 5 1 (.slice (some ⟨g, 0, none⟩) (s.size + 1 + j) cap) (s.size + 1 + j) ((padL s j).map byteV) ∧
        wx.heap[w1.heap.size]? = some (.cells (St.absorb S (uptoW s q)).cells 81) ∧ Below w.heap.size w wx ∧ w1.heap.size + 1 < wx.heap.size) (fun v _ => (8 * (m : Int) - intOf v).toNat)
      case atStart => exact ⟨0, by omega, rfl, how, hc, hB, hz⟩
      case round =>
        obtain ⟨q, hq, rfl, how, hc, hB, hz⟩ := hrel
        obtain ⟨y, hy⟩ : ∃ y, y = St.absorb S (uptoW s q) := ⟨_, rfl⟩
        rw [← hy] at hc
        have Hy := Lib.hid hy
        clear hy
        obtain ⟨c0, c1, c2, c3, c4, f0, f1, f2, f3, f4, z0⟩ := five_cells hc
        by_cases hlt2 : q < m
        · have hd : decide (8 * (q : Int) < (s.size : Int) + 1 + j) = true := by simp; omega
          go_wp2
          obtain ⟨wo2, rfl⟩ : ∃ wo2 : World, wo2 = wr := ⟨_, rfl⟩
          go_loopw [10, 11] (fun v i wx => wx = wo2 ∧ ∃ k : Nat, k ≤ 8 ∧ i = .int .i64 (k : Int) ∧ v = .int .u64 (wv (wordTo s (8 * q) k))) (fun _ i _ => (8 - intOf i).toNat)
          case atStart => exact ⟨rfl, 0, by omega, rfl, rfl⟩
          case round =>
            obtain ⟨rfl, k, hk8, rfl, rfl⟩ := hrel
            by_cases hlt3 : k < 8
            · obtain ⟨bt, hbt, hbw⟩ := padL_byte s j (8 * q + k) (by omega)
              have hcell := how.cell (8 * q + k) (byteV bt) (by simp [hbt])
              go_wp2
              go_roundw
              case rel =>
                refine ⟨trivial, k + 1, by omega, by go_num, ?_⟩
                rw [or_byte_wrap, wordTo, hbw]
              case measure => simp [intOf]; omega
            · obtain rfl : k = 8 := by omega
              go_wp2_with fail
              refine (permuted_12 { y with a := wxor y.a (wordTo s (8 * q) 8) } _).mono ?_
              rintro e w5 ⟨rfl, hb5⟩
              obtain ⟨hc5, hf5⟩ := bcell hb5
              have hq5 : w5.heap[w1.heap.size]? = some (.cells #[.int .u64 (wv (wxor y.a (wordTo s (8 * q) 8))), .int .u64 (wv y.b), .int .u64 (wv y.c), .int .u64 (wv y.d), .int .u64 (wv y.e)] 81) := by
                rw [hb5.block _ (by simpa using z0)]; simp [World.setCell, Array.getElem?_modify, hc]
              have ho5 := (how.setCell (a := ⟨w1.heap.size, 0, none⟩) (by simp) (.int .u64 (wv (wxor y.a (wordTo s (8 * q) 8))))).below hb5
              have hB5 : Below w.heap.size w w5 := (hB.setCell (p := ⟨w1.heap.size, 0, none⟩) h1s _).trans (hb5.mono (by have := hB.size; simp; omega))
              have hz5 := hb5.size
              simp only [World.size_setCell] at hz5
              clear hb5
              go_wp2
              go_roundw
              case rel =>
                refine ⟨q + 1, by omega, by go_num, ?_, ?_, ?_, ?_⟩
                · iterate 5 refine World.owns.setCell ?_ (by simp) _
                  exact ho5
                · rw [uptoW_succ, absorb_snoc', ← Hy.out]; exact set_five hq5
                · repeat (with_reducible first | apply below_drewN | apply Below.drew | refine Below.setCell ?_ (by first | (simp; done) | (simp; omega)) _ | refine Below.alloc ?_ (by first | (simp; done) | (simp; omega)) _ | assumption | exact Below.refl _ _)
                · simp; omega
              case measure => simp [intOf]; omega
        · obtain rfl : q = m := by omega
          have hd : decide (8 * (q : Int) < (s.size : Int) + 1 + j) = false := by simp; omega
          go_wp2
          have hS0 : ∃ S0, S0 = y := ⟨y, rfl⟩
          obtain ⟨S0, hS0⟩ := hS0
          rw [← hS0] at hc Hy
          clear hS0 c0 c1 c2 c3 c4 f0 f1 f2 f3 f4 z0 how
          obtain ⟨wo3, hwo3⟩ : ∃ wo3 : World, wo3 = wr := ⟨_, rfl⟩
          subst hwo3
          go_loopw [12] (fun v12 wx => ∃ t : Nat, 8 * t < n + 8 ∧ wx.owns (w1.heap.size + 1) 5 1 v12 (8 * t) ((St.squeeze S0 t).map byteV) ∧ ((∃ g cap, v12 = .slice (some ⟨g, 0, none⟩) (8 * t) cap) ∨ (v12 = .slice none 0 0 ∧ t ≤ 0)) ∧
            wx.heap[w1.heap.size]? = some (.cells (St.iter S0 t).cells 81) ∧ Below w.heap.size w wx ∧ w1.heap.size + 1 < wx.heap.size) (fun v12 _ => n + 8 - lenOf v12)
          case atStart => exact ⟨0, by omega, World.owns_nil _ _ _ _, .inr ⟨rfl, Nat.le_refl _⟩, hc, hB, hz⟩
          case round =>
            obtain ⟨t, ht, how, hv, hc, hB, hz⟩ := hrel
            obtain ⟨z, hzt⟩ : ∃ z, z = St.iter S0 t := ⟨_, rfl⟩
            rw [← hzt] at hc
            have Hz := Lib.hid hzt
            clear hzt
            by_cases hlt4 : 8 * t < n
            · rcases hv with ⟨g5, cap5, rfl⟩ | ⟨rfl, ht0⟩
              all_goals
                have hd5 : decide (8 * (t : Int) < (n : Int)) = true := by simp; omega
                have hd6 : decide ((0 : Int) < n) = true := by simp; omega
                have hd7 : decide (0 < n) = true := by simp; omega
                have hd8 : 0 < n := by omega
                go_wp2
                obtain ⟨wo4, hwo4⟩ : ∃ wo4 : World, wo4 = wr := ⟨_, rfl⟩
                subst hwo4
                go_loopw [12, 13] (fun v12 v13 wx => ∃ i : Nat, i ≤ 8 ∧ v13 = .int .i64 (7 - (i : Int)) ∧ wx.owns (w1.heap.size + 1) 5 1 v12 (8 * t + i) ((St.squeeze S0 t ++ wbytes z.a i).map byteV) ∧
                  wx.heap[w1.heap.size]? = some (.cells z.cells 81) ∧ Below w.heap.size w wx ∧ w1.heap.size + 1 < wx.heap.size) (fun _ v13 _ => (intOf v13 + 64).toNat)
                case atStart => exact ⟨0, by omega, rfl, by simpa [wbytes] using how, hc, hB, hz⟩
                case round =>
                  obtain ⟨i, hi8, rfl, how, hc, hB, hz⟩ := hrel
                  obtain ⟨c0, c1, c2, c3, c4, f0, f1, f2, f3, f4, z0⟩ := five_cells hc
                  by_cases hlt5 : i < 8
                  · go_wp2_with (at_builtin; refine wpList_append_owns _ rfl (.tmp 65) (.tmp 72) 49 rfl _ 5 i0 (.int .u8 0) 1 1 Try.underlying49 hi0 hz0 hz1 hz2 rfl (by decide) _ (8 * t + i) _ rfl (how.alloc _) ⟨wr.heap.size, 0, none⟩ 1 1 _ rfl rfl (cell_one_new _ _ _) (by simp [Value.oneCell']) (by unfold maxLen; omega) (by omega) (by simp; omega) ?_; intro v4 w4 hown4 hg4 _)
                    have hgr : (wr.alloc (.cells #[_] 5)).grownBy w4 u12.ownBlock := hg4
                    have hl4 := how.lt
                    have hs4 := hgr.size
                    simp only [World.size_alloc] at hs4
                    refine ⟨⟨i + 1, by omega, by go_num, ?_, ?_, ?_, by omega⟩, by simp [intOf]; omega⟩
                    · rw [wbytes_succ, ← List.append_assoc, List.map_append]
                      rw [wbyte_num' z.a i (8 * (7 - i)) (by omega)] at hown4
                      exact hown4
                    · rw [hgr.block _ (by simp; omega) (by intro e; have := hl4 _ e.symm; omega), Below.heap_alloc _ _ _ z0]; exact hc
                    · exact (hB.alloc hB.size _).grown hgr (by have := hB.size; simp; omega) (fun k e => by have := hl4 k e; omega)
                  · obtain rfl : i = 8 := by omega
                    go_wp2_with fail
                    refine (permuted_12 z _).mono ?_
                    rintro e w5 ⟨rfl, hb5⟩
                    obtain ⟨hc5, hf5⟩ := bcell hb5
                    have hq5 : w5.heap[w1.heap.size]? = some (.cells z.cells 81) := by
                      rw [hb5.block _ z0]; exact hc
                    have ho5 : w5.owns _ 5 1 _ (8 * (t + 1)) _ := how.below hb5
                    have hB5 : Below w.heap.size w w5 := hB.trans (hb5.mono hB.size)
                    have hz5 := hb5.size
                    clear hb5
                    obtain ⟨g6, cap6, rfl⟩ := ho5.pos (by omega)
                    go_wp2
                    go_roundw
                    case rel =>
                      refine ⟨t + 1, by omega, ?_, .inl ⟨g6, cap6, rfl⟩, ?_, ?_, ?_⟩
                      · iterate 5 refine World.owns.setCell ?_ (by simp) _
                        rw [St.squeeze, ← Hz.out]; exact ho5
                      · rw [St.iter, ← Hz.out]; exact set_five hq5
                      · repeat (with_reducible first | apply below_drewN | apply Below.drew | refine Below.setCell ?_ (by first | (simp; done) | (simp; omega)) _ | refine Below.alloc ?_ (by first | (simp; done) | (simp; omega)) _ | assumption | exact Below.refl _ _)
                      · simp; omega
                    case measure => simp [lenOf]; omega
            · rcases hv with ⟨g5, cap5, rfl⟩ | ⟨rfl, ht0⟩
              · obtain ⟨_, hjc, hbg, hcm, hgl⟩ := how.facts
                have hnc : n ≤ cap5 := by omega
                have hd5 : decide (8 * (t : Int) < (n : Int)) = false := by simp; omega
                have hcv := run_owns_string (P := Try.prog) (w := wr) (m := n) 49 9 5 Try.underlying49 Try.underlying5 Try.underlying9 how (by rw [squeeze_length]; omega) cap5
                go_wp2
                go_ret
                refine ⟨?_, hB⟩
                have ht' : (n + 7) / 8 = t := by omega
                show Ending.returned (.string (bytesOf ((St.squeeze S0 t).take n))) = _
                rw [runB, ht', Hy.out, HS.out]
                have hqq : q = s.size / 8 + 1 := by omega
                rw [hqq]; rfl
              · obtain rfl : n = 0 := by omega
                have hcv := run_convert_bytes_nil (P := Try.prog) wr 49 5 Try.underlying49 Try.underlying5 0 0 9 Try.underlying9
                go_wp2
                go_ret
                refine ⟨?_, hB⟩
                show Ending.returned (.string ByteArray.empty) = _
                rw [runB]; rfl
end Go.Proofs.Ytjfmcobikadjhaa

/- Walks: the small callers, and the kit's functions. -/
namespace Go.Proofs.Ytjfmcobikadjhaa
open Go.RowKit
theorem refShort_any (s : ByteArray) (hs : s.size ≤ 1000000) (w : World) :
    Calls Try.prog 34 #[.string s] w fun e w' => e = .returned (.string (runB s 0 8)) ∧ Below w.heap.size w w' := by
  go_enter Try.func34, Try.ntmps34
  go_wp2_with fail
  refine (refsponge_any s hs 0 8 (by omega) (by omega) _).mono ?_
  rintro e w' ⟨rfl, hb⟩
  go_wp2
  go_ret
  exact ⟨rfl, hb⟩
end Go.Proofs.Ytjfmcobikadjhaa
