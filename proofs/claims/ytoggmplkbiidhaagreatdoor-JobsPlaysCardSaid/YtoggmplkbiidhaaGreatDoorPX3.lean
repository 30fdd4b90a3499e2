/- Helpers and walks, in one text. -/
import Derived.Test.YtoggmplkbiidhaaGreatDoorPX2
set_option linter.all false
set_option maxRecDepth 100000
set_option maxHeartbeats 40000000
/- Walks: the reference's sponge. -/
/- Walks: the reference's sponge. -/
namespace Go.Proofs.YtoggmplkbiidhaaGreatDoor
section
open Go.RowKit
attribute [local go_sem] xor_wv and_wv or_wv not_wv shl_nf shr_nf shl_8 or_byte or_128
theorem init_word' (kd : Nat) (hk : kd ≤ 1) : IntKind.u64.wrap (8026104356937031936 + (kd : Int)) = wv (wof (letters + kd)) := by
 have : kd = 0 ∨ kd = 1 := by omega
 rcases this with rfl | rfl <;> decide +kernel
theorem permuted_12 (s : St) (w : World) :
  Calls Tryz.prog 106 #[s.val, .int .i64 12] w fun e w' => e = .returned (St.perm 12 s).val ∧ Below w.heap.size w w' := permuted_any s 12 (by omega) w
theorem permuted_init (x : BitVec 64) (w : World) :
  Calls Tryz.prog 106 #[.agg #[.int .u64 (wv x), .int .u64 0, .int .u64 0, .int .u64 0, .int .u64 0], .int .i64 12] w fun e w' => e = .returned (St.perm 12 ⟨x, wof 0, wof 0, wof 0, wof 0⟩).val ∧ Below w.heap.size w w' :=
 permuted_12 ⟨x, wof 0, wof 0, wof 0, wof 0⟩ w
theorem Tryz.info5' : (Tryz.prog.info? 5).map (fun i => (i.zero, i.size, i.bytes)) = some (some (.int .u8 0), 1, 1) := by kernel_rfl
theorem refsponge_any (s : ByteArray) (hs : s.size ≤ 1000000) (kd n : Nat) (hk : kd ≤ 1) (hn : n ≤ 1048576) (w : World) :
  Calls Tryz.prog 62 #[.string s, .int .u8 (kd : Int), .int .i64 (n : Int)] w fun e w' => e = .returned (.string (runB s kd n)) ∧ Below w.heap.size w w' := by
 have hi := init_word' kd hk
 obtain ⟨i0, hi0, hz0, hz1, hz2⟩ := info_parts Tryz.info5'
 have hmx : s.size ≤ maxLen := by unfold maxLen; omega
 go_enter Tryz.func62, Tryz.ntmps62
 go_wp2_with fail
 refine (permuted_init _ _).mono ?_
 rintro e w1 ⟨rfl, hb1⟩
 clear hi
 obtain ⟨S, hS⟩ : ∃ S : St, S = St.perm 12 ⟨wof (letters + kd), wof 0, wof 0, wof 0, wof 0⟩ := ⟨_, rfl⟩
 rw [← hS]
 have HS := Lib.hid hS
 clear hS
 have h1s := hb1.size
 go_wp2_with (first
  | (refine wpList_bytes_owns _ rfl (.tmp 19) 9 54 5 rfl s rfl Tryz.underlying9 Tryz.underlying54 Tryz.underlying5 hmx ?_; intro cap w2 hown2 hg2; simp only [World.size_alloc] at hown2)
  | (at_builtin; refine wpList_append_owns _ rfl (.tmp 20) (.tmp 21) 54 rfl _ 5 i0 (.int .u8 0) 1 1 Tryz.underlying54 hi0 hz0 hz1 hz2 rfl (by decide) _ s.size _ rfl (hown2.alloc _) ⟨w2.heap.size, 0, none⟩ 1 1 _ rfl rfl (cell_one_new _ _ _) (by simp [Value.oneCell']) (by unfold maxLen; omega) (by omega) (by have := hg2.size; simp at this ⊢; omega) ?_; intro v3 w3 hown3 hg3 _))
 have hg3' : (w2.alloc (.cells #[.int .u8 128] 5)).grownBy w3 (some (w1.heap.size + 1)) := hg3
 clear hg3
 rw [padL_zero] at hown3
 have hsz2 := hg2.size
 have hsz3 := hg3'.size
 simp only [World.size_alloc] at hsz2 hsz3
 have hB2 : Below w.heap.size w w2 := (hb1.alloc h1s _).grown hg2 (by simp; omega) (fun k e => by cases e)
 have hB3 : Below w.heap.size w w3 := (hB2.alloc hB2.size _).grown hg3' (by have := hB2.size; simp; omega) (fun k e => by cases e; omega)
 have hc3 : w3.heap[w1.heap.size]? = some (.cells S.cells 129) := by
  rw [hg3'.block _ (by simp; omega) (by simp), Below.heap_alloc _ _ _ (by omega), hg2.block _ (by simp) (by simp)]
  exact alloc_last _ _ rfl
 obtain ⟨g3, cap3, rfl⟩ := hown3.succ
 clear hown2 hg2 hg3' hb1
 go_loopw [8] (fun v wx => ∃ j g cap : Nat, s.size + 1 + j ≤ 8 * (s.size / 8 + 1) ∧ v = .slice (some ⟨g, 0, none⟩) (s.size + 1 + j) cap ∧ wx.owns (w1.heap.size + 1) 5 1 v (s.size + 1 + j) ((padL s j).map byteV) ∧
   wx.heap[w1.heap.size]? = some (.cells S.cells 129) ∧ Below w.heap.size w wx ∧ w1.heap.size + 1 < wx.heap.size) (fun v _ => s.size + 9 - lenOf v)
 case atStart => exact ⟨0, g3, cap3, by omega, rfl, hown3, hc3, hB3, by omega⟩
 case round =>
  obtain ⟨j, g, cap, hj, rfl, how, hc, hB, hz⟩ := hrel
  obtain ⟨_, hjc, hbg, hcm, hgl⟩ := how.facts
  by_cases hlt : s.size + 1 + j < 8 * (s.size / 8 + 1)
  ·have hne : ¬ ((s.size : Int) + 1 + j) % 8 = 0 := by omega
   go_wp2_with (at_builtin; (refine wpList_append_owns _ rfl (.tmp 27) (.tmp 28) 54 rfl _ 5 i0 (.int .u8 0) 1 1 Tryz.underlying54 hi0 hz0 hz1 hz2 rfl (by decide) _ (s.size + 1 + j) _ rfl (how.alloc _) ⟨wr.heap.size, 0, none⟩ 1 1 _ rfl rfl (cell_one_new _ _ _) (by simp [Value.oneCell']) (by unfold maxLen; omega) (by omega) (by simp; omega) ?_; intro v4 w4 hown4 hg4 _))
   have hg4' : (wr.alloc (.cells #[.int .u8 0] 5)).grownBy w4 (some g) := hg4
   clear hg4
   have hs4 := hg4'.size
   simp only [World.size_alloc] at hs4
   obtain ⟨g4, cap4, rfl⟩ := hown4.succ
   go_roundw
   case rel =>
    refine ⟨j + 1, g4, cap4, by omega, rfl, ?_, ?_, ?_, by omega⟩
    ·rw [padL_succ, List.map_append]; exact hown4
    ·rw [hg4'.block _ (by simp; omega) (by simp; omega), Below.heap_alloc _ _ _ (by omega)]; exact hc
    ·exact (hB.alloc hB.size _).grown hg4' (by have := hB.size; simp; omega) (fun k e => by cases e; omega)
   case measure => simp [lenOf]; omega
  ·have hne : ((s.size : Int) + 1 + j) % 8 = 0 := by omega
   obtain ⟨m, hm⟩ : ∃ m, m = s.size / 8 + 1 := ⟨_, rfl⟩
   have hsj1 : s.size + 1 + j ≤ 8 * m := by omega
   have hsj2 : 8 * m ≤ s.size + 1 + j := by omega
   have hm1 : m ≤ s.size / 8 + 1 := by omega
   have hm2 : s.size / 8 + 1 ≤ m := by omega
   clear hm
   go_wp2
   clear hne
   obtain ⟨wo, rfl⟩ : ∃ wo : World, wo = wr := ⟨_, rfl⟩
   go_loopw [9] (fun v wx => ∃ q : Nat, q ≤ m ∧ v = .int .i64 (8 * (q : Int)) ∧ wx.owns (w1.heap.size + 1) 5 1 (.slice (some ⟨g, 0, none⟩) (s.size + 1 + j) cap) (s.size + 1 + j) ((padL s j).map byteV) ∧
    wx.heap[w1.heap.size]? = some (.cells (St.absorb S (uptoW s q)).cells 129) ∧ Below w.heap.size w wx ∧ w1.heap.size + 1 < wx.heap.size) (fun v _ => (8 * (m : Int) - intOf v).toNat)
   case atStart => exact ⟨0, by omega, rfl, how, hc, hB, hz⟩
   case round =>
    obtain ⟨q, hq, rfl, how, hc, hB, hz⟩ := hrel
    obtain ⟨y, hy⟩ : ∃ y, y = St.absorb S (uptoW s q) := ⟨_, rfl⟩
    rw [← hy] at hc
    have Hy := Lib.hid hy
    clear hy
    obtain ⟨c0, c1, c2, c3, c4, f0, f1, f2, f3, f4, z0⟩ := five_cells hc
    by_cases hlt2 : q < m
    ·have hd : decide (8 * (q : Int) < (s.size : Int) + 1 + j) = true := by simp; omega
     go_wp2
     obtain ⟨wo2, rfl⟩ : ∃ wo2 : World, wo2 = wr := ⟨_, rfl⟩
     go_loopw [10, 11] (fun v i wx => wx = wo2 ∧ ∃ k : Nat, k ≤ 8 ∧ i = .int .i64 (k : Int) ∧ v = .int .u64 (wv (wordTo s (8 * q) k))) (fun _ i _ => (8 - intOf i).toNat)
     case atStart => exact ⟨rfl, 0, by omega, rfl, rfl⟩
     case round =>
      obtain ⟨rfl, k, hk8, rfl, rfl⟩ := hrel
      by_cases hlt3 : k < 8
      ·obtain ⟨bt, hbt, hbw⟩ := padL_byte s j (8 * q + k) (by omega)
       have hcell := how.cell (8 * q + k) (byteV bt) (by simp [hbt])
       go_wp2
       go_roundw
       case rel =>
        refine ⟨trivial, k + 1, by omega, by go_num, ?_⟩
        rw [or_byte_wrap, wordTo, hbw]
       case measure => simp [intOf]; omega
      ·obtain rfl : k = 8 := by omega
       go_wp2_with fail
       refine (permuted_12 { y with a := wxor y.a (wordTo s (8 * q) 8) } _).mono ?_
       rintro e w5 ⟨rfl, hb5⟩
       obtain ⟨hc5, hf5⟩ := bcell hb5
       have hq5 : w5.heap[w1.heap.size]? = some (.cells #[.int .u64 (wv (wxor y.a (wordTo s (8 * q) 8))), .int .u64 (wv y.b), .int .u64 (wv y.c), .int .u64 (wv y.d), .int .u64 (wv y.e)] 129) := by
        rw [hb5.block _ (by simpa using z0)]; simp [World.setCell, Array.getElem?_modify, hc]
       have ho5 := (how.setCell (a := ⟨w1.heap.size, 0, none⟩) (by simp) (.int .u64 (wv (wxor y.a (wordTo s (8 * q) 8))))).below hb5
       have hB5 : Below w.heap.size w w5 := (hB.setCell (p := ⟨w1.heap.size, 0, none⟩) h1s _).trans (hb5.mono (by have := hB.size; simp; omega))
       have hz5 := hb5.size
       simp only [World.size_setCell] at hz5
       clear hb5
       go_wp2
       go_roundw
       case rel =>
        refine ⟨q + 1, by omega, by go_num, ?_, ?_, ?_, ?_⟩
        ·iterate 5 refine World.owns.setCell ?_ (by simp) _
         exact ho5
        ·rw [uptoW_succ, absorb_snoc', ← Hy.out]; exact set_five hq5
        ·repeat (with_reducible first | apply below_drewN | apply Below.drew | refine Below.setCell ?_ (by first | (simp; done) | (simp; omega)) _ | refine Below.alloc ?_ (by first | (simp; done) | (simp; omega)) _ | assumption | exact Below.refl _ _)
        ·simp; omega
       case measure => simp [intOf]; omega
    ·obtain rfl : q = m := by omega
     have hd : decide (8 * (q : Int) < (s.size : Int) + 1 + j) = false := by simp; omega
     go_wp2
     have hS0 : ∃ S0, S0 = y := ⟨y, rfl⟩
     obtain ⟨S0, hS0⟩ := hS0
     rw [← hS0] at hc Hy
     clear hS0 c0 c1 c2 c3 c4 f0 f1 f2 f3 f4 z0 how
     obtain ⟨wo3, hwo3⟩ : ∃ wo3 : World, wo3 = wr := ⟨_, rfl⟩
     subst hwo3
     go_loopw [12] (fun v12 wx => ∃ t : Nat, 8 * t < n + 8 ∧ wx.owns (w1.heap.size + 1) 5 1 v12 (8 * t) ((St.squeeze S0 t).map byteV) ∧ ((∃ g cap, v12 = .slice (some ⟨g, 0, none⟩) (8 * t) cap) ∨ (v12 = .slice none 0 0 ∧ t ≤ 0)) ∧
      wx.heap[w1.heap.size]? = some (.cells (St.iter S0 t).cells 129) ∧ Below w.heap.size w wx ∧ w1.heap.size + 1 < wx.heap.size) (fun v12 _ => n + 8 - lenOf v12)
     case atStart => exact ⟨0, by omega, World.owns_nil _ _ _ _, .inr ⟨rfl, Nat.le_refl _⟩, hc, hB, hz⟩
     case round =>
      obtain ⟨t, ht, how, hv, hc, hB, hz⟩ := hrel
      obtain ⟨z, hzt⟩ : ∃ z, z = St.iter S0 t := ⟨_, rfl⟩
      rw [← hzt] at hc
      have Hz := Lib.hid hzt
      clear hzt
      by_cases hlt4 : 8 * t < n
      ·rcases hv with ⟨g5, cap5, rfl⟩ | ⟨rfl, ht0⟩
       all_goals
        have hd5 : decide (8 * (t : Int) < (n : Int)) = true := by simp; omega
        have hd6 : decide ((0 : Int) < n) = true := by simp; omega
        have hd7 : decide (0 < n) = true := by simp; omega
        have hd8 : 0 < n := by omega
        go_wp2
        obtain ⟨wo4, hwo4⟩ : ∃ wo4 : World, wo4 = wr := ⟨_, rfl⟩
        subst hwo4
        go_loopw [12, 13] (fun v12 v13 wx => ∃ i : Nat, i ≤ 8 ∧ v13 = .int .i64 (7 - (i : Int)) ∧ wx.owns (w1.heap.size + 1) 5 1 v12 (8 * t + i) ((St.squeeze S0 t ++ wbytes z.a i).map byteV) ∧
         wx.heap[w1.heap.size]? = some (.cells z.cells 129) ∧ Below w.heap.size w wx ∧ w1.heap.size + 1 < wx.heap.size) (fun _ v13 _ => (intOf v13 + 64).toNat)
        case atStart => exact ⟨0, by omega, rfl, by simpa [wbytes] using how, hc, hB, hz⟩
        case round =>
         obtain ⟨i, hi8, rfl, how, hc, hB, hz⟩ := hrel
         obtain ⟨c0, c1, c2, c3, c4, f0, f1, f2, f3, f4, z0⟩ := five_cells hc
         by_cases hlt5 : i < 8
         ·go_wp2_with (at_builtin; refine wpList_append_owns _ rfl (.tmp 65) (.tmp 72) 54 rfl _ 5 i0 (.int .u8 0) 1 1 Tryz.underlying54 hi0 hz0 hz1 hz2 rfl (by decide) _ (8 * t + i) _ rfl (how.alloc _) ⟨wr.heap.size, 0, none⟩ 1 1 _ rfl rfl (cell_one_new _ _ _) (by simp [Value.oneCell']) (by unfold maxLen; omega) (by omega) (by simp; omega) ?_; intro v4 w4 hown4 hg4 _)
          have hgr : (wr.alloc (.cells #[_] 5)).grownBy w4 u12.ownBlock := hg4
          have hl4 := how.lt
          have hs4 := hgr.size
          simp only [World.size_alloc] at hs4
          refine ⟨⟨i + 1, by omega, by go_num, ?_, ?_, ?_, by omega⟩, by simp [intOf]; omega⟩
          ·rw [wbytes_succ, ← List.append_assoc, List.map_append]
           rw [wbyte_num' z.a i (8 * (7 - i)) (by omega)] at hown4
           exact hown4
          ·rw [hgr.block _ (by simp; omega) (by intro e; have := hl4 _ e.symm; omega), Below.heap_alloc _ _ _ z0]; exact hc
          ·exact (hB.alloc hB.size _).grown hgr (by have := hB.size; simp; omega) (fun k e => by have := hl4 k e; omega)
         ·obtain rfl : i = 8 := by omega
          go_wp2_with fail
          refine (permuted_12 z _).mono ?_
          rintro e w5 ⟨rfl, hb5⟩
          obtain ⟨hc5, hf5⟩ := bcell hb5
          have hq5 : w5.heap[w1.heap.size]? = some (.cells z.cells 129) := by
           rw [hb5.block _ z0]; exact hc
          have ho5 : w5.owns _ 5 1 _ (8 * (t + 1)) _ := how.below hb5
          have hB5 : Below w.heap.size w w5 := hB.trans (hb5.mono hB.size)
          have hz5 := hb5.size
          clear hb5
          obtain ⟨g6, cap6, rfl⟩ := ho5.pos (by omega)
          go_wp2
          go_roundw
          case rel =>
           refine ⟨t + 1, by omega, ?_, .inl ⟨g6, cap6, rfl⟩, ?_, ?_, ?_⟩
           ·iterate 5 refine World.owns.setCell ?_ (by simp) _
            rw [St.squeeze, ← Hz.out]; exact ho5
           ·rw [St.iter, ← Hz.out]; exact set_five hq5
           ·repeat (with_reducible first | apply below_drewN | apply Below.drew | refine Below.setCell ?_ (by first | (simp; done) | (simp; omega)) _ | refine Below.alloc ?_ (by first | (simp; done) | (simp; omega)) _ | assumption | exact Below.refl _ _)
           ·simp; omega
          case measure => simp [lenOf]; omega
      ·rcases hv with ⟨g5, cap5, rfl⟩ | ⟨rfl, ht0⟩
       ·obtain ⟨_, hjc, hbg, hcm, hgl⟩ := how.facts
        have hnc : n ≤ cap5 := by omega
        have hd5 : decide (8 * (t : Int) < (n : Int)) = false := by simp; omega
        have hcv := run_owns_string (P := Tryz.prog) (w := wr) (m := n) 54 9 5 Tryz.underlying54 Tryz.underlying5 Tryz.underlying9 how (by rw [squeeze_length]; omega) cap5
        go_wp2
        go_ret
        refine ⟨?_, hB⟩
        have ht' : (n + 7) / 8 = t := by omega
        show Ending.returned (.string (bytesOf ((St.squeeze S0 t).take n))) = _
        rw [runB, ht', Hy.out, HS.out]
        have hqq : q = s.size / 8 + 1 := by omega
        rw [hqq]; rfl
       ·obtain rfl : n = 0 := by omega
        have hcv := run_convert_bytes_nil (P := Tryz.prog) wr 54 5 Tryz.underlying54 Tryz.underlying5 0 0 9 Tryz.underlying9
        go_wp2
        go_ret
        refine ⟨?_, hB⟩
        show Ending.returned (.string ByteArray.empty) = _
        rw [runB]; rfl
end
/- Walks: the small callers, and the kit's functions. -/
section
open Go.RowKit
theorem refShort_any (s : ByteArray) (hs : s.size ≤ 1000000) (w : World) :
  Calls Tryz.prog 21 #[.string s] w fun e w' => e = .returned (.string (runB s 0 8)) ∧ Below w.heap.size w w' := by
 go_enter Tryz.func21, Tryz.ntmps21
 go_wp2_with fail
 refine (refsponge_any s hs 0 8 (by omega) (by omega) _).mono ?_
 rintro e w' ⟨rfl, hb⟩
 go_wp2
 go_ret
 exact ⟨rfl, hb⟩
end
/- Walks: the reference's disk: numbers. -/
section
open Go.RowKit Go.Shelf
def sgn (n : Nat) : Int := wrap64 (n : Int)
theorem sgn_small (n : Nat) (h : n < 9223372036854775808) : sgn n = (n : Int) := IntWalk.wrap64_in _ ⟨by omega, by omega⟩
theorem sgn_big (n : Nat) (h : 9223372036854775808 ≤ n) (h2 : n < 18446744073709551616) : sgn n < 0 := by unfold sgn wrap64; omega
theorem sgn_mul (n : Nat) : wrap64 (sgn n * 256) = sgn (n * 256) := by unfold sgn wrap64; omega
theorem wrap_byte (c : UInt8) : wrap64 (c.toNat : Int) = (c.toNat : Int) := IntWalk.wrap64_in _ (by have := c.toNat_lt; omega)
/-- The reference's disk. -/
structure RDiskAt (w : World) (p b : Nat) (d : Dk) : Prop where
 at_ : w.heap[p]? = some (.cells #[.int .i64 (d.size : Int), .slice (some ⟨b, 0, none⟩) (2 * d.size) (2 * d.size), .int .i64 d.fuse, .bool d.failed] 62)
 half : HalfAt w b (d.h0 ++ d.h1)
 ne : ¬ b = p
theorem RDiskAt.below {w w' : World} {p b B : Nat} {d : Dk} (h : RDiskAt w p b d) (hb : Below B w w') (hp : p < B) (h0 : b < B) : RDiskAt w' p b d :=
 ⟨(hb.block _ hp).trans h.at_, h.half.below hb h0, h.ne⟩
theorem RDiskAt.kept {w w' : World} {p b : Nat} {d : Dk} (h : RDiskAt w p b d) (hb : Below w.heap.size w w') : RDiskAt w' p b d :=
 h.below hb (lt_of_heap h.at_) h.half.lt
theorem RDiskAt.drew {w : World} {p b : Nat} {d : Dk} (h : RDiskAt w p b d) : RDiskAt w.drew p b d := ⟨h.at_, h.half, h.ne⟩
theorem both_length {d : Dk} (ho : d.ok) : (d.h0 ++ d.h1).length = 2 * d.size := by rw [List.length_append, ho.l0, ho.l1]; omega
theorem or_sgn (n : Nat) (c : UInt8) (h : n < 72057594037927936) : bits .or .i64 (sgn (n * 256)) ((c.toNat : Nat) : Int) = sgn (n * 256 + c.toNat) := by
 have hc := c.toNat_lt
 obtain ⟨m, hm⟩ : ∃ m, m = n * 256 := ⟨_, rfl⟩
 obtain ⟨k, hk⟩ : ∃ k, k = c.toNat := ⟨_, rfl⟩
 have e2 : m ||| k = m + k := by
  have := Nat.two_pow_add_eq_or_of_lt (i := 8) (b := k) (by omega) n
  rw [hm, Nat.mul_comm n 256]; exact this.symm
 rw [← hk, ← hm]
 have hm2 : m < 18446744073709551616 := by omega
 have e3 : BitVec.ofInt 64 (sgn m) = BitVec.ofNat 64 m := by
  apply BitVec.eq_of_toNat_eq
  rw [BitVec.toNat_ofInt, BitVec.toNat_ofNat]
  unfold sgn wrap64
  omega
 show IntKind.i64.wrap ((BitVec.ofInt 64 (sgn m) ||| BitVec.ofInt 64 (k : Int)).toNat : Int) = _
 rw [e3, BitVec.ofInt_natCast, BitVec.toNat_or, BitVec.toNat_ofNat, BitVec.toNat_ofNat, mod64 m hm2, mod64 k (by omega), e2]
 exact IntWalk.i64_left _
theorem rnumber_any (p b at_ many : Nat) (d : Dk) (w : World) (hd : RDiskAt w p b d) (ho : d.ok) (hk : at_ + many ≤ 2 * d.size) (h8 : many ≤ 8) :
  Calls Tryz.prog 115 #[.pointer (some ⟨p, 0, none⟩), .int .i64 (at_ : Int), .int .i64 (many : Int)] w fun e w' => e = .returned (.int .i64 (sgn (numL (((d.h0 ++ d.h1).drop at_).take many)))) ∧ w = w' := by
 obtain ⟨L, hL⟩ : ∃ L, L = ((d.h0 ++ d.h1).drop at_).take many := ⟨_, rfl⟩
 have hbl := both_length ho
 have hLl : L.length = many := by rw [hL, List.length_take, List.length_drop, hbl]; omega
 have HC : Hid (∀ (k : Nat) (x : UInt8), L[k]? = some x → w.cell? ⟨b, at_ + k, none⟩ = some (.int .u8 (x.toNat : Int))) := by
  intro k x hk
  refine hd.half.cell _ _ ?_
  rw [hL, List.getElem?_take] at hk
  split at hk
  ·rw [List.getElem?_drop] at hk; exact hk
  ·cases hk
 obtain ⟨-, k1, -, -, -, -⟩ := four_cells hd.at_
 obtain ⟨S, hS⟩ : ∃ S, S = 2 * d.size := ⟨_, rfl⟩
 have hmx : S ≤ 600000 := by have := ho.hi; omega
 rw [← hS] at k1 hk
 rw [← hL]
 have HLl := Lib.hid hLl
 clear hL hbl hd ho hS hLl
 go_enter Tryz.func115, Tryz.ntmps115
 go_wp2_with fail
 go_loop [7, 8] (fun v i => ∃ k : Nat, k ≤ many ∧ i = .int .i64 ((at_ + k : Nat) : Int) ∧ v = .int .i64 (sgn (numL (L.take k)))) (fun _ i => at_ + many - (intOf i).toNat)
 case atStart => exact ⟨0, Nat.zero_le _, rfl, by rw [show L.take 0 = [] from rfl]; exact congrArg _ (sgn_small 0 (by omega)).symm⟩
 case round =>
  obtain ⟨k, hkm, rfl, rfl⟩ := hrel
  by_cases hlt : k < many
  ·obtain ⟨x, hx⟩ : ∃ x, L[k]? = some x := ⟨L[k]'(by rw [HLl.out]; exact hlt), List.getElem?_eq_getElem _⟩
   have hc := HC.out k x hx
   have HX : Hid (L.take (k + 1) = L.take k ++ [x]) := by show _ = _; rw [List.take_add_one, hx]; rfl
   have hb1 : numL (L.take k) < 256 ^ 7 := by
    have h1 := numL_lt (L.take k)
    have h2 : (256 : Nat) ^ (L.take k).length ≤ 256 ^ 7 := Nat.pow_le_pow_right (by decide) (by rw [List.length_take, HLl.out]; omega)
    omega
   obtain ⟨N, hN⟩ : ∃ N, N = numL (L.take k) := ⟨_, rfl⟩
   rw [← hN] at hb1 ⊢
   have HN := Lib.hid hN
   have h256 : (256 : Nat) ^ 7 = 72057594037927936 := by decide
   rw [h256] at hb1
   have hor := or_sgn N x hb1
   obtain ⟨j, hj⟩ : ∃ j, j = at_ + k := ⟨_, rfl⟩
   rw [← hj] at hc ⊢
   have hj1 : (j : Int) < (at_ : Int) + (many : Int) := by omega
   have hj2 : j < S := by omega
   have HJ := Lib.hid hj
   clear hx hN h256 hj
   go_wp2
   go_round
   case rel =>
    refine ⟨k + 1, by omega, by rw [HJ.out]; go_num, ?_⟩
    rw [sgn_mul, wrap_byte, hor, HX.out, numL_snoc, ← HN.out]
   case measure => simp [intOf]; omega
  ·obtain rfl : k = many := by omega
   have hT : L.take k = L := by rw [List.take_of_length_le (by rw [HLl.out]; exact Nat.le_refl _)]
   rw [hT]
   clear hT
   go_wp2
   go_ret
   exact ⟨rfl, rfl⟩
end
/- Walks: the reference's disk: eight bytes of a number. -/
section
open Go.RowKit Go.Shelf
attribute [local go_sem] Oper.semAt_some
theorem wbyte_nat (n k : Nat) (hn : n < 9223372036854775808) : (wbyte (wof (n : Int)) k).toNat = n / 2 ^ (56 - 8 * k) % 256 := by
 unfold wbyte
 rw [UInt8.toNat_ofNat', wof_toNat n (by omega)]
theorem reight_any (n : Nat) (hn : n < 9223372036854775808) (w : World) : Calls Tryz.prog 20 #[.int .i64 (n : Int)] w fun e w' => e = .returned (.string (bytesOf (eightL n))) ∧ Below w.heap.size w w' := by
 obtain ⟨i0, hi0, hiz, hiz1, hizb⟩ := info_parts infoByte
 go_enter Tryz.func20, Tryz.ntmps20
 go_wp2_with fail
 go_loopw [3, 4] (fun sv iv wr => ∃ (k : Nat) (va : Option Addr) (vc : Nat), k ≤ 8 ∧ iv = .int .i64 (56 - 8 * (k : Int)) ∧ sv = .slice va k vc ∧ Hid (wr.owns w.heap.size 5 1 (.slice va k vc) k ((wbytes (wof (n : Int)) k).map byteV)) ∧ Hid (Below w.heap.size w wr)) (fun _ iv _ => (64 + intOf iv).toNat)
 case atStart => exact ⟨0, none, 0, by omega, by go_num, rfl, World.owns_nil _ _ _ _, Below.refl _ _⟩
 case round =>
  obtain ⟨k, va, vc, hk, rfl, rfl, hO, hB⟩ := hrel
  have hz := hB.out.size
  by_cases hlt : k < 8
  ·have h1 : (0 : Int) ≤ 56 - 8 * (k : Int) := by omega
   have hwb := wbytes_succ (wof (n : Int)) k
   have hwn := wbyte_nat n k hn
   have HWB := Lib.hid hwb
   obtain ⟨c, hc⟩ : ∃ c, c = wbyte (wof (n : Int)) k := ⟨_, rfl⟩
   rw [← hc] at hwn
   have HC := Lib.hid hc
   clear hwb hc
   have h8 : k = 0 ∨ k = 1 ∨ k = 2 ∨ k = 3 ∨ k = 4 ∨ k = 5 ∨ k = 6 ∨ k = 7 := by omega
   have hbt : (k = 0 → (n : Int) / 72057594037927936 = (c.toNat : Int)) ∧ (k = 1 → (n : Int) / 281474976710656 % 256 = (c.toNat : Int)) ∧ (k = 2 → (n : Int) / 1099511627776 % 256 = (c.toNat : Int)) ∧ (k = 3 → (n : Int) / 4294967296 % 256 = (c.toNat : Int)) ∧ (k = 4 → (n : Int) / 16777216 % 256 = (c.toNat : Int)) ∧ (k = 5 → (n : Int) / 65536 % 256 = (c.toNat : Int)) ∧ (k = 6 → (n : Int) / 256 % 256 = (c.toNat : Int)) ∧ (k = 7 → (n : Int) % 256 = (c.toNat : Int)) := by
    refine ⟨?_, ?_, ?_, ?_, ?_, ?_, ?_, ?_⟩ <;> (rintro rfl; simp at hwn; omega)
   obtain ⟨t0, t1, t2, t3, t4, t5, t6, t7⟩ := hbt
   rcases h8 with rfl | rfl | rfl | rfl | rfl | rfl | rfl | rfl
   ·have hb := t0 rfl
    clear t0 t1 t2 t3 t4 t5 t6 t7 hwn
    go_wp2_with (at_builtin; refine wpList_append1 (W := wr) rfl (.tmp 9) (.tmp 14) 54 rfl w.heap.size 5 i0 (.int .u8 0) 1 Tryz.underlying54 hi0 hiz hiz1 hizb rfl (.slice va 0 vc) 0 ((wbytes (wof (n : Int)) 0).map byteV) rfl hO.out (byteV c) wr.heap.size rfl rfl rfl (by unfold maxLen; omega) (by omega) hz ?_; intro v5 w5 hown5 hg5a hg5 hz5; have HO5 := Lib.hid hown5; obtain ⟨g5, q5, rfl⟩ := hown5.succ; have HB5 := Lib.hid (hB.out.trans (below_grown hO.out hg5 w.heap.size (Nat.le_refl _) hz)); clear hown5 hg5a hg5)
    go_roundw
    case rel =>
     refine ⟨1, some ⟨g5, 0, none⟩, q5, by omega, by go_num, rfl, ?_, HB5.out⟩
     show w5.owns _ _ _ _ _ _
     rw [HWB.out, List.map_append, ← HC.out]
     exact HO5.out
    case measure => simp [intOf]
   ·have hb := t1 rfl
    clear t0 t1 t2 t3 t4 t5 t6 t7 hwn
    go_wp2_with (at_builtin; refine wpList_append1 (W := wr) rfl (.tmp 9) (.tmp 14) 54 rfl w.heap.size 5 i0 (.int .u8 0) 1 Tryz.underlying54 hi0 hiz hiz1 hizb rfl (.slice va 1 vc) 1 ((wbytes (wof (n : Int)) 1).map byteV) rfl hO.out (byteV c) wr.heap.size rfl rfl rfl (by unfold maxLen; omega) (by omega) hz ?_; intro v5 w5 hown5 hg5a hg5 hz5; have HO5 := Lib.hid hown5; obtain ⟨g5, q5, rfl⟩ := hown5.succ; have HB5 := Lib.hid (hB.out.trans (below_grown hO.out hg5 w.heap.size (Nat.le_refl _) hz)); clear hown5 hg5a hg5)
    go_roundw
    case rel =>
     refine ⟨2, some ⟨g5, 0, none⟩, q5, by omega, by go_num, rfl, ?_, HB5.out⟩
     show w5.owns _ _ _ _ _ _
     rw [HWB.out, List.map_append, ← HC.out]
     exact HO5.out
    case measure => simp [intOf]
   ·have hb := t2 rfl
    clear t0 t1 t2 t3 t4 t5 t6 t7 hwn
    go_wp2_with (at_builtin; refine wpList_append1 (W := wr) rfl (.tmp 9) (.tmp 14) 54 rfl w.heap.size 5 i0 (.int .u8 0) 1 Tryz.underlying54 hi0 hiz hiz1 hizb rfl (.slice va 2 vc) 2 ((wbytes (wof (n : Int)) 2).map byteV) rfl hO.out (byteV c) wr.heap.size rfl rfl rfl (by unfold maxLen; omega) (by omega) hz ?_; intro v5 w5 hown5 hg5a hg5 hz5; have HO5 := Lib.hid hown5; obtain ⟨g5, q5, rfl⟩ := hown5.succ; have HB5 := Lib.hid (hB.out.trans (below_grown hO.out hg5 w.heap.size (Nat.le_refl _) hz)); clear hown5 hg5a hg5)
    go_roundw
    case rel =>
     refine ⟨3, some ⟨g5, 0, none⟩, q5, by omega, by go_num, rfl, ?_, HB5.out⟩
     show w5.owns _ _ _ _ _ _
     rw [HWB.out, List.map_append, ← HC.out]
     exact HO5.out
    case measure => simp [intOf]
   ·have hb := t3 rfl
    clear t0 t1 t2 t3 t4 t5 t6 t7 hwn
    go_wp2_with (at_builtin; refine wpList_append1 (W := wr) rfl (.tmp 9) (.tmp 14) 54 rfl w.heap.size 5 i0 (.int .u8 0) 1 Tryz.underlying54 hi0 hiz hiz1 hizb rfl (.slice va 3 vc) 3 ((wbytes (wof (n : Int)) 3).map byteV) rfl hO.out (byteV c) wr.heap.size rfl rfl rfl (by unfold maxLen; omega) (by omega) hz ?_; intro v5 w5 hown5 hg5a hg5 hz5; have HO5 := Lib.hid hown5; obtain ⟨g5, q5, rfl⟩ := hown5.succ; have HB5 := Lib.hid (hB.out.trans (below_grown hO.out hg5 w.heap.size (Nat.le_refl _) hz)); clear hown5 hg5a hg5)
    go_roundw
    case rel =>
     refine ⟨4, some ⟨g5, 0, none⟩, q5, by omega, by go_num, rfl, ?_, HB5.out⟩
     show w5.owns _ _ _ _ _ _
     rw [HWB.out, List.map_append, ← HC.out]
     exact HO5.out
    case measure => simp [intOf]
   ·have hb := t4 rfl
    clear t0 t1 t2 t3 t4 t5 t6 t7 hwn
    go_wp2_with (at_builtin; refine wpList_append1 (W := wr) rfl (.tmp 9) (.tmp 14) 54 rfl w.heap.size 5 i0 (.int .u8 0) 1 Tryz.underlying54 hi0 hiz hiz1 hizb rfl (.slice va 4 vc) 4 ((wbytes (wof (n : Int)) 4).map byteV) rfl hO.out (byteV c) wr.heap.size rfl rfl rfl (by unfold maxLen; omega) (by omega) hz ?_; intro v5 w5 hown5 hg5a hg5 hz5; have HO5 := Lib.hid hown5; obtain ⟨g5, q5, rfl⟩ := hown5.succ; have HB5 := Lib.hid (hB.out.trans (below_grown hO.out hg5 w.heap.size (Nat.le_refl _) hz)); clear hown5 hg5a hg5)
    go_roundw
    case rel =>
     refine ⟨5, some ⟨g5, 0, none⟩, q5, by omega, by go_num, rfl, ?_, HB5.out⟩
     show w5.owns _ _ _ _ _ _
     rw [HWB.out, List.map_append, ← HC.out]
     exact HO5.out
    case measure => simp [intOf]
   ·have hb := t5 rfl
    clear t0 t1 t2 t3 t4 t5 t6 t7 hwn
    go_wp2_with (at_builtin; refine wpList_append1 (W := wr) rfl (.tmp 9) (.tmp 14) 54 rfl w.heap.size 5 i0 (.int .u8 0) 1 Tryz.underlying54 hi0 hiz hiz1 hizb rfl (.slice va 5 vc) 5 ((wbytes (wof (n : Int)) 5).map byteV) rfl hO.out (byteV c) wr.heap.size rfl rfl rfl (by unfold maxLen; omega) (by omega) hz ?_; intro v5 w5 hown5 hg5a hg5 hz5; have HO5 := Lib.hid hown5; obtain ⟨g5, q5, rfl⟩ := hown5.succ; have HB5 := Lib.hid (hB.out.trans (below_grown hO.out hg5 w.heap.size (Nat.le_refl _) hz)); clear hown5 hg5a hg5)
    go_roundw
    case rel =>
     refine ⟨6, some ⟨g5, 0, none⟩, q5, by omega, by go_num, rfl, ?_, HB5.out⟩
     show w5.owns _ _ _ _ _ _
     rw [HWB.out, List.map_append, ← HC.out]
     exact HO5.out
    case measure => simp [intOf]
   ·have hb := t6 rfl
    clear t0 t1 t2 t3 t4 t5 t6 t7 hwn
    go_wp2_with (at_builtin; refine wpList_append1 (W := wr) rfl (.tmp 9) (.tmp 14) 54 rfl w.heap.size 5 i0 (.int .u8 0) 1 Tryz.underlying54 hi0 hiz hiz1 hizb rfl (.slice va 6 vc) 6 ((wbytes (wof (n : Int)) 6).map byteV) rfl hO.out (byteV c) wr.heap.size rfl rfl rfl (by unfold maxLen; omega) (by omega) hz ?_; intro v5 w5 hown5 hg5a hg5 hz5; have HO5 := Lib.hid hown5; obtain ⟨g5, q5, rfl⟩ := hown5.succ; have HB5 := Lib.hid (hB.out.trans (below_grown hO.out hg5 w.heap.size (Nat.le_refl _) hz)); clear hown5 hg5a hg5)
    go_roundw
    case rel =>
     refine ⟨7, some ⟨g5, 0, none⟩, q5, by omega, by go_num, rfl, ?_, HB5.out⟩
     show w5.owns _ _ _ _ _ _
     rw [HWB.out, List.map_append, ← HC.out]
     exact HO5.out
    case measure => simp [intOf]
   ·have hb := t7 rfl
    clear t0 t1 t2 t3 t4 t5 t6 t7 hwn
    go_wp2_with (at_builtin; refine wpList_append1 (W := wr) rfl (.tmp 9) (.tmp 14) 54 rfl w.heap.size 5 i0 (.int .u8 0) 1 Tryz.underlying54 hi0 hiz hiz1 hizb rfl (.slice va 7 vc) 7 ((wbytes (wof (n : Int)) 7).map byteV) rfl hO.out (byteV c) wr.heap.size rfl rfl rfl (by unfold maxLen; omega) (by omega) hz ?_; intro v5 w5 hown5 hg5a hg5 hz5; have HO5 := Lib.hid hown5; obtain ⟨g5, q5, rfl⟩ := hown5.succ; have HB5 := Lib.hid (hB.out.trans (below_grown hO.out hg5 w.heap.size (Nat.le_refl _) hz)); clear hown5 hg5a hg5)
    go_roundw
    case rel =>
     refine ⟨8, some ⟨g5, 0, none⟩, q5, by omega, by go_num, rfl, ?_, HB5.out⟩
     show w5.owns _ _ _ _ _ _
     rw [HWB.out, List.map_append, ← HC.out]
     exact HO5.out
    case measure => simp [intOf]
  ·obtain rfl : k = 8 := by omega
   have h1 : ¬ (0 : Int) ≤ 56 - 8 * ((8 : Nat) : Int) := by omega
   obtain ⟨ga, cc, he⟩ := hO.out.succ
   injection he with he1 he2 he3
   subst he1
   clear he2 he3
   have hcv := run_owns_string (P := Tryz.prog) (w := wr) (m := 8) 54 9 5 Tryz.underlying54 Tryz.underlying5 Tryz.underlying9 hO.out (by rw [wbytes_length]; omega) vc
   have ht : (wbytes (wof (n : Int)) 8).take 8 = eightL n := by unfold eightL; rw [List.take_of_length_le (by rw [wbytes_length]; omega)]
   rw [ht] at hcv
   go_wp2
   go_ret
   exact ⟨rfl, hB.out⟩
end
/- Walks: the reference's disk: a record's bytes; a half's generation. -/
section
open Go.RowKit Go.Shelf
theorem refShortN_any (l : List UInt8) (hl : l.length ≤ 1000000) (w : World) : Calls Tryz.prog 21 #[.string (bytesOf l)] w fun e w' => e = .returned (.string (bytesOf (shortL l))) ∧ Below w.heap.size w w' :=
 refShort_any (bytesOf l) (by rw [bytesOf_size]; omega) w
/-- The half of a number. -/
def Dk.hf (d : Dk) (half : Nat) : List UInt8 := if half = 1 then d.h1 else d.h0
theorem hf_length {d : Dk} (ho : d.ok) (half : Nat) : (d.hf half).length = d.size := by unfold Dk.hf; split; exact ho.l1; exact ho.l0
theorem both_get {d : Dk} (ho : d.ok) (half : Nat) (hh : half ≤ 1) (i : Nat) (hi : i < d.size) : (d.h0 ++ d.h1)[half * d.size + i]? = (d.hf half)[i]? := by
 have h2 : half = 0 ∨ half = 1 := by omega
 rcases h2 with rfl | rfl
 ·rw [Nat.zero_mul, Nat.zero_add, List.getElem?_append_left (by rw [ho.l0]; exact hi)]; rfl
 ·rw [Nat.one_mul, List.getElem?_append_right (by rw [ho.l0]; omega), ho.l0, Nat.add_sub_cancel_left]; rfl
theorem both_take {d : Dk} (ho : d.ok) (half : Nat) (hh : half ≤ 1) (o m : Nat) (hm : o + m ≤ d.size) : ((d.h0 ++ d.h1).drop (half * d.size + o)).take m = ((d.hf half).drop o).take m := by
 apply List.ext_getElem?
 intro i
 rw [List.getElem?_take, List.getElem?_take]
 split
 ·rw [List.getElem?_drop, List.getElem?_drop, Nat.add_assoc, both_get ho half hh (o + i) (by omega)]
 ·rfl
theorem rbody_any (g at_ : Nat) (data : List UInt8) (hg : g < 9223372036854775808) (hat : at_ ≤ 1000000) (hd : data.length ≤ 65535) (w : World) :
  Calls Tryz.prog 93 #[.int .i64 (g : Int), .int .i64 (at_ : Int), .string (bytesOf data)] w fun e w' => e = .returned (.string (bytesOf (bodyL g at_ data))) ∧ Below w.heap.size w w' := by
 obtain ⟨n, hn⟩ : ∃ n, n = data.length := ⟨_, rfl⟩
 have hs : (bytesOf data).size = n := by rw [hn]; rfl
 have hs1 : ((bytesOf data).size : Int) = (n : Int) := by rw [hs]
 have HN := Lib.hid hn
 have a1 := eight_size
 have a2 := eight_cut
 have a3 := bytesOf_append
 have a4 : ∀ x, (bytesOf ((eightL x).drop 4)).size = 4 := fun x => by show ((eightL x).drop 4).length = 4; rw [List.length_drop, eightL_length]
 have z2 : (bytesOf ((eightL n).drop 4 ++ data)).size = 4 + n := by show ((eightL n).drop 4 ++ data).length = _; rw [List.length_append, List.length_drop, eightL_length, ← hn]
 have z3 : (bytesOf (eightL g ++ (eightL at_).drop 4)).size = 12 := by show (eightL g ++ (eightL at_).drop 4).length = _; rw [List.length_append, List.length_drop, eightL_length, eightL_length]
 have z4 : ∀ l, (bytesOf (shortL l)).size = 8 := fun l => shortL_length l
 have c1 : ¬ 9223372036854775807 < 4 + n := by omega
 have c2 : ¬ 9223372036854775807 < 12 + n := by omega
 have c3 : ¬ 9223372036854775807 < 4 + n + 8 := by omega
 clear hn
 go_enter Tryz.func93, Tryz.ntmps93
 go_wp2_with fail
 refine (reight_any at_ (by omega) _).mono ?_
 rintro e w1 ⟨rfl, hb1⟩
 go_wp2_with fail
 refine wp_region_heldL (fun _ => True) (by kernel_rfl) trivial (fun hS => ?_)
 refine tkH 0 (v := ?_) rfl ?_ ?_
 rotate_left
 ·(intro wq hSq; (try dsimp only at hSq); go_simp; try with_reducible rfl)
 try simp only [q0P, q0Q, q0R, q0S]
 refine tkH 1 (v := ?_) rfl ?_ ?_
 rotate_left
 ·(intro wq hSq; (try dsimp only at hSq); go_simp; try with_reducible rfl)
 try simp only [q0P, q0Q, q0R, q0S]
 refine tkH 4 (v := ?_) rfl ?_ ?_
 rotate_left
 ·(intro wq hSq; (try dsimp only at hSq); go_simp; try with_reducible rfl)
 try simp only [q0P, q0Q, q0R, q0S]
 refine tkH 6 (v := ?_) rfl ?_ ?_
 rotate_left
 ·(intro wq hSq; (try dsimp only at hSq); go_simp; try with_reducible rfl)
 try simp only [q0P, q0Q, q0R, q0S]
 refine tkH 8 (v := ?_) rfl ?_ ?_
 rotate_left
 ·(intro wq hSq; (try dsimp only at hSq); go_simp; try with_reducible rfl)
 try simp only [q0P, q0Q, q0R, q0S]
 refine tkH 10 (v := ?_) rfl ?_ ?_
 rotate_left
 ·(intro wq hSq; (try dsimp only at hSq); go_simp; try with_reducible rfl)
 try simp only [q0P, q0Q, q0R, q0S]
 refine wpAnyH_stepL 2 (by kernel_rfl) rfl (fun K hK => ?_)
 go_simp
 go_at_call 20
 refine (reight_any n (by have := HN.out; omega) _).mono ?_
 rintro e w2 ⟨rfl, hb2d⟩
 have hb2 : Below w.heap.size w w2 := hb1.trans ((((Below.refl w1.heap.size w1).drew).trans hb2d).mono hb1.size)
 refine hK.out _ _ trivial (fun _ => ?_)
 clear hK K
 try simp only [q0P, q0Q, q0R, q0S]
 refine tkH 3 (v := ?_) rfl ?_ ?_
 rotate_left
 ·(intro wq hSq; (try dsimp only at hSq); go_simp; try with_reducible rfl)
 try simp only [q0P, q0Q, q0R, q0S]
 refine tkH 5 (v := ?_) rfl ?_ ?_
 rotate_left
 ·(intro wq hSq; (try dsimp only at hSq); go_simp; try with_reducible rfl)
 try simp only [q0P, q0Q, q0R, q0S]
 refine wpAnyH_stepL 7 (by kernel_rfl) rfl (fun K hK => ?_)
 go_simp
 go_at_call 20
 refine (reight_any g hg _).mono ?_
 rintro e w3 ⟨rfl, hb3d⟩
 have hb3 := hb2.trans (hb3d.mono hb2.size)
 refine hK.out _ _ trivial (fun _ => ?_)
 clear hK K
 try simp only [q0P, q0Q, q0R, q0S]
 refine tkH 9 (v := ?_) rfl ?_ ?_
 rotate_left
 ·(intro wq hSq; (try dsimp only at hSq); go_simp; try with_reducible rfl)
 try simp only [q0P, q0Q, q0R, q0S]
 refine tkH 11 (v := ?_) rfl ?_ ?_
 rotate_left
 ·(intro wq hSq; (try dsimp only at hSq); go_simp; try with_reducible rfl)
 try simp only [q0P, q0Q, q0R, q0S]
 refine wpAnyH_stepL 12 (by kernel_rfl) rfl (fun K hK => ?_)
 go_simp
 go_at_call 21
 refine (refShortN_any (eightL g ++ (eightL at_).drop 4 ++ data) (by rw [List.length_append, List.length_append, List.length_drop, eightL_length, eightL_length]; have := HN.out; omega) _).mono ?_
 rintro e w5 ⟨rfl, hb5d⟩
 have hb5 := hb3.trans (hb5d.mono hb3.size)
 refine hK.out _ _ trivial (fun _ => ?_)
 clear hK K
 try simp only [q0P, q0Q, q0R, q0S]
 refine tkH 13 (v := ?_) rfl ?_ ?_
 rotate_left
 ·(intro wq hSq; (try dsimp only at hSq); go_simp; try with_reducible rfl)
 try simp only [q0P, q0Q, q0R, q0S]
 refine tkH 14 (v := ?_) rfl ?_ ?_
 rotate_left
 ·(intro wq hSq; (try dsimp only at hSq); go_simp; try with_reducible rfl)
 try simp only [q0P, q0Q, q0R, q0S]
 refine wpAnyH_end (by kernel_rfl) ?_
 go_wp2
 go_ret
 refine ⟨?_, hb5⟩
 rw [HN.out]
 rfl
end
/- Walks: the reference's disk: the generation of a half; which is active. -/
section
open Go.RowKit Go.Shelf
theorem sgn_low {z : Int} {g : Nat} (hz : z = sgn g) (h : g = 0 ∨ 9223372036854775808 ≤ g) (h2 : g < 18446744073709551616) : z < 1 := by
 rw [hz]
 rcases h with h | h
 ·rw [h, sgn_small 0 (by omega)]; omega
 ·exact Int.lt_trans (sgn_big g h h2) (by decide)
theorem rgeneration_any (p b half : Nat) (hh : half ≤ 1) (d : Dk) (w : World) (hd : RDiskAt w p b d) (ho : d.ok) :
  Calls Tryz.prog 114 #[.pointer (some ⟨p, 0, none⟩), .int .i64 (half : Int)] w fun e w' => e = .returned (.int .i64 (genL (d.hf half) : Int)) ∧ Below w.heap.size w w' := by
 obtain ⟨r, hr⟩ : ∃ r, r = genL (d.hf half) := ⟨_, rfl⟩
 rw [← hr]
 obtain ⟨A, hA⟩ : ∃ A, A = half * d.size := ⟨_, rfl⟩
 have hlo := ho.lo
 have hhi := ho.hi
 have hAb : A + d.size ≤ 2 * d.size := by
  rw [hA]
  rcases (show half = 0 ∨ half = 1 by omega) with rfl | rfl <;> omega
 have hmul : (half : Int) * (d.size : Int) = (A : Int) := by rw [hA]; push_cast; rfl
 have hxl := hf_length ho half
 obtain ⟨X, hX⟩ : ∃ X, X = d.hf half := ⟨_, rfl⟩
 obtain ⟨x0, hx0⟩ : ∃ x, X[0]? = some x := ⟨X[0]'(by rw [hX, hxl]; omega), List.getElem?_eq_getElem _⟩
 obtain ⟨g, hg⟩ : ∃ g, g = numL ((X.drop 1).take 8) := ⟨_, rfl⟩
 obtain ⟨t9, ht9⟩ : ∃ t, t = (X.drop 9).take 8 := ⟨_, rfl⟩
 have e8 := both_take ho half hh 1 8 (by omega)
 have e9 := both_take ho half hh 9 8 (by omega)
 have e0 := both_get ho half hh 0 (by omega)
 rw [← hA, ← hX] at e8 e9 e0
 rw [Nat.add_zero, hx0] at e0
 rw [← hX] at hr
 unfold genL genB at hr
 rw [List.getD_eq_getElem?_getD, hx0, Option.getD_some, ← hg, ← ht9] at hr
 have hg8 := numL_lt ((X.drop 1).take 8)
 rw [show ((X.drop 1).take 8).length = 8 by rw [List.length_take, List.length_drop, hX, hxl]; omega, ← hg] at hg8
 have hg64 : g < 18446744073709551616 := by
  have : (256 : Nat) ^ 8 = 18446744073709551616 := by simp
  omega
 have hbl := both_length ho
 have HNN := Lib.hid (rnumber_any p b (A + 1) 8 d w hd ho (by omega) (by omega))
 rw [e8, ← hg] at HNN
 have HT : Hid (∀ W, RDiskAt W p b d → ∀ c, (convert 54 9 (.slice (some ⟨b, A + 9, none⟩) 8 c)).run Tryz.prog W = .ok (.string (bytesOf t9)) W) := by
  intro W hW c
  have := hW.half.text (A + 9) 8 (by rw [hbl]; omega) c
  rw [e9, ← ht9] at this; exact this
 have HC : Hid (∀ W, RDiskAt W p b d → W.cell? ⟨b, A, none⟩ = some (.int .u8 (x0.toNat : Int))) := fun W hW => hW.half.cell A x0 e0
 obtain ⟨S, hS⟩ : ∃ S, S = 2 * d.size := ⟨_, rfl⟩
 have HK : Hid (∀ W, RDiskAt W p b d → W.cell? ⟨p, 1, none⟩ = some (.slice (some ⟨b, 0, none⟩) S S)) := fun W hW => by rw [hS]; exact (four_cells hW.at_).2.1
 obtain ⟨k0, -, -, -, -, -⟩ := four_cells hd.at_
 obtain ⟨A9, hA9⟩ : ∃ x, x = A + 9 := ⟨_, rfl⟩
 obtain ⟨A17, hA17⟩ : ∃ x, x = A + 17 := ⟨_, rfl⟩
 rw [← hA9] at HT
 have hw9 : IntKind.i64.wrap ((A : Int) + 9) = (A9 : Int) := by rw [IntWalk.i64_in _ ⟨by omega, by omega⟩]; omega
 have hw17 : IntKind.i64.wrap ((A : Int) + 17) = (A17 : Int) := by rw [IntWalk.i64_in _ ⟨by omega, by omega⟩]; omega
 have i1 : A9 ≤ A17 := by omega
 have i2 : A17 ≤ S := by omega
 have i3 : A17 - A9 = 8 := by omega
 have i4 : ¬ S = A9 := by omega
 have i5 : A < S := by omega
 have i6 : (A9 : Int) ≤ (A17 : Int) := by omega
 have i7 : (A17 : Int) ≤ (S : Int) := by omega
 have i8 : (A : Int) < (S : Int) := by omega
 have hAm : A ≤ 300000 := by omega
 have HD := Lib.hid hd
 have HR := Lib.hid hr
 have HG := Lib.hid hg
 clear hr hA hAb hxl hX hx0 hg ht9 e8 e9 e0 hg8 hbl hS hA9 hA17 hd
 obtain ⟨z, hz⟩ : ∃ z, z = sgn g := ⟨_, rfl⟩
 rw [← hz] at HNN
 have HZ := Lib.hid hz
 clear hz
 go_enter Tryz.func114, Tryz.ntmps114
 go_wp2_with fail
 refine HNN.out.mono ?_
 rintro e w' ⟨rfl, rfl⟩
 go_upto_region 3 with (fail)
 have k1 := HK.out w.drew HD.out.drew
 have hc := HC.out w.drew HD.out.drew
 have hS0 := HT.out w.drew HD.out.drew
 by_cases h1 : x0 = 1
 case neg =>
  have t1 : ((x0.toNat : Int) != 1) = true := by
   rw [bne_iff_ne]
   intro h
   exact h1 (UInt8.toNat_inj.1 (by show x0.toNat = 1; omega))
  obtain rfl : r = 0 := by rw [HR.out]; simp [h1]
  refine wp_region_heldL (fun w' => w'.cell? ⟨p, 1, none⟩ = some (.slice (some ⟨b, 0, none⟩) S S) ∧ w'.cell? ⟨b, A, none⟩ = some (.int .u8 (x0.toNat : Int))) (by kernel_rfl) ⟨k1, hc⟩ (fun hS => ?_)
  refine tkH 0 (v := ?_) rfl ?_ ?_
  rotate_left
  ·(intro wq hSq; (try dsimp only at hSq); go_simp; try with_reducible rfl)
  try simp only [q0P, q0Q, q0R, q0S]
  refine tkH 1 (v := ?_) rfl ?_ ?_
  rotate_left
  ·(intro wq hSq; (try dsimp only at hSq); go_simp; try with_reducible rfl)
  try simp only [q0P, q0Q, q0R, q0S]
  refine tkH 2 (v := ?_) rfl ?_ ?_
  rotate_left
  ·(intro wq hSq; (try dsimp only at hSq); go_simp; try with_reducible rfl)
  try simp only [q0P, q0Q, q0R, q0S]
  refine tkH 3 (v := ?_) rfl ?_ ?_
  rotate_left
  ·(intro wq hSq; (try dsimp only at hSq); go_simp; try with_reducible rfl)
  try simp only [q0P, q0Q, q0R, q0S]
  refine tkH 4 (v := ?_) rfl ?_ ?_
  rotate_left
  ·(intro wq hSq; (try dsimp only at hSq); go_simp; try with_reducible rfl)
  try simp only [q0P, q0Q, q0R, q0S]
  refine tkH 5 (v := ?_) rfl ?_ ?_
  rotate_left
  ·(intro wq hSq; (try dsimp only at hSq); go_simp; try with_reducible rfl)
  try simp only [q0P, q0Q, q0R, q0S]
  refine tkH 6 (v := ?_) rfl ?_ ?_
  rotate_left
  ·(intro wq hSq; (try dsimp only at hSq); go_simp; try with_reducible rfl)
  try simp only [q0P, q0Q, q0R, q0S]
  refine tkH 7 (v := ?_) rfl ?_ ?_
  rotate_left
  ·(intro wq hSq; (try dsimp only at hSq); go_simp; try with_reducible rfl)
  try simp only [q0P, q0Q, q0R, q0S]
  refine tkH 8 (v := ?_) rfl ?_ ?_
  rotate_left
  ·(intro wq hSq; (try dsimp only at hSq); go_simp; try with_reducible rfl)
  try simp only [q0P, q0Q, q0R, q0S]
  refine tkS 9 rfl ?_
  try simp only [q0P, q0Q, q0R, q0S]
  refine tkS 10 rfl ?_
  try simp only [q0P, q0Q, q0R, q0S]
  refine tkH 11 (v := ?_) rfl ?_ ?_
  rotate_left
  ·(intro wq hSq; (try dsimp only at hSq); go_simp; try with_reducible rfl)
  try simp only [q0P, q0Q, q0R, q0S]
  refine tkH 12 (v := ?_) rfl ?_ ?_
  rotate_left
  ·(intro wq hSq; (try dsimp only at hSq); go_simp; try with_reducible rfl)
  try simp only [q0P, q0Q, q0R, q0S]
  refine tkS 13 rfl ?_
  try simp only [q0P, q0Q, q0R, q0S]
  refine tkS 14 rfl ?_
  try simp only [q0P, q0Q, q0R, q0S]
  refine tkS 15 rfl ?_
  try simp only [q0P, q0Q, q0R, q0S]
  refine tkS 16 rfl ?_
  try simp only [q0P, q0Q, q0R, q0S]
  refine tkS 17 rfl ?_
  try simp only [q0P, q0Q, q0R, q0S]
  refine tkS 18 rfl ?_
  try simp only [q0P, q0Q, q0R, q0S]
  refine tkS 19 rfl ?_
  try simp only [q0P, q0Q, q0R, q0S]
  refine tkS 20 rfl ?_
  try simp only [q0P, q0Q, q0R, q0S]
  refine tkS 21 rfl ?_
  try simp only [q0P, q0Q, q0R, q0S]
  refine tkS 22 rfl ?_
  try simp only [q0P, q0Q, q0R, q0S]
  refine tkS 23 rfl ?_
  try simp only [q0P, q0Q, q0R, q0S]
  refine tkS 24 rfl ?_
  try simp only [q0P, q0Q, q0R, q0S]
  refine tkS 25 rfl ?_
  try simp only [q0P, q0Q, q0R, q0S]
  refine tkS 26 rfl ?_
  try simp only [q0P, q0Q, q0R, q0S]
  refine tkH 27 (v := ?_) rfl ?_ ?_
  rotate_left
  ·(intro wq hSq; (try dsimp only at hSq); go_simp; try with_reducible rfl)
  try simp only [q0P, q0Q, q0R, q0S]
  refine wpAnyH_end (by kernel_rfl) ?_
  go_wp2
  go_ret
  exact ⟨rfl, (Below.refl _ _).drew⟩
 have t1 : ((x0.toNat : Int) != 1) = false := by rw [h1]; rfl
 by_cases h2 : g = 0 ∨ 9223372036854775808 ≤ g
 ·have t2 : z < 1 := sgn_low HZ.out h2 hg64
  have hr0 : r = 0 := by
   rw [HR.out]
   rcases h2 with h2 | h2
   ·split
    ·exact h2
    ·rfl
   ·rw [show decide (g < 9223372036854775808) = false from decide_eq_false (Nat.not_lt.2 h2), Bool.and_false, Bool.false_and]; rfl
  subst hr0
  clear h2
  refine wp_region_heldL (fun w' => w'.cell? ⟨p, 1, none⟩ = some (.slice (some ⟨b, 0, none⟩) S S) ∧ w'.cell? ⟨b, A, none⟩ = some (.int .u8 (x0.toNat : Int))) (by kernel_rfl) ⟨k1, hc⟩ (fun hS => ?_)
  refine tkH 0 (v := ?_) rfl ?_ ?_
  rotate_left
  ·(intro wq hSq; (try dsimp only at hSq); go_simp; try with_reducible rfl)
  try simp only [q0P, q0Q, q0R, q0S]
  refine tkH 1 (v := ?_) rfl ?_ ?_
  rotate_left
  ·(intro wq hSq; (try dsimp only at hSq); go_simp; try with_reducible rfl)
  try simp only [q0P, q0Q, q0R, q0S]
  refine tkH 2 (v := ?_) rfl ?_ ?_
  rotate_left
  ·(intro wq hSq; (try dsimp only at hSq); go_simp; try with_reducible rfl)
  try simp only [q0P, q0Q, q0R, q0S]
  refine tkH 3 (v := ?_) rfl ?_ ?_
  rotate_left
  ·(intro wq hSq; (try dsimp only at hSq); go_simp; try with_reducible rfl)
  try simp only [q0P, q0Q, q0R, q0S]
  refine tkH 4 (v := ?_) rfl ?_ ?_
  rotate_left
  ·(intro wq hSq; (try dsimp only at hSq); go_simp; try with_reducible rfl)
  try simp only [q0P, q0Q, q0R, q0S]
  refine tkH 5 (v := ?_) rfl ?_ ?_
  rotate_left
  ·(intro wq hSq; (try dsimp only at hSq); go_simp; try with_reducible rfl)
  try simp only [q0P, q0Q, q0R, q0S]
  refine tkH 6 (v := ?_) rfl ?_ ?_
  rotate_left
  ·(intro wq hSq; (try dsimp only at hSq); go_simp; try with_reducible rfl)
  try simp only [q0P, q0Q, q0R, q0S]
  refine tkH 7 (v := ?_) rfl ?_ ?_
  rotate_left
  ·(intro wq hSq; (try dsimp only at hSq); go_simp; try with_reducible rfl)
  try simp only [q0P, q0Q, q0R, q0S]
  refine tkH 8 (v := ?_) rfl ?_ ?_
  rotate_left
  ·(intro wq hSq; (try dsimp only at hSq); go_simp; try with_reducible rfl)
  try simp only [q0P, q0Q, q0R, q0S]
  refine tkH 9 (v := ?_) rfl ?_ ?_
  rotate_left
  ·(intro wq hSq; (try dsimp only at hSq); go_simp; try with_reducible rfl)
  try simp only [q0P, q0Q, q0R, q0S]
  refine tkH 10 (v := ?_) rfl ?_ ?_
  rotate_left
  ·(intro wq hSq; (try dsimp only at hSq); go_simp; try with_reducible rfl)
  try simp only [q0P, q0Q, q0R, q0S]
  refine tkH 11 (v := ?_) rfl ?_ ?_
  rotate_left
  ·(intro wq hSq; (try dsimp only at hSq); go_simp; try with_reducible rfl)
  try simp only [q0P, q0Q, q0R, q0S]
  refine tkH 12 (v := ?_) rfl ?_ ?_
  rotate_left
  ·(intro wq hSq; (try dsimp only at hSq); go_simp; try with_reducible rfl)
  try simp only [q0P, q0Q, q0R, q0S]
  refine tkS 13 rfl ?_
  try simp only [q0P, q0Q, q0R, q0S]
  refine tkS 14 rfl ?_
  try simp only [q0P, q0Q, q0R, q0S]
  refine tkS 15 rfl ?_
  try simp only [q0P, q0Q, q0R, q0S]
  refine tkS 16 rfl ?_
  try simp only [q0P, q0Q, q0R, q0S]
  refine tkS 17 rfl ?_
  try simp only [q0P, q0Q, q0R, q0S]
  refine tkS 18 rfl ?_
  try simp only [q0P, q0Q, q0R, q0S]
  refine tkS 19 rfl ?_
  try simp only [q0P, q0Q, q0R, q0S]
  refine tkS 20 rfl ?_
  try simp only [q0P, q0Q, q0R, q0S]
  refine tkS 21 rfl ?_
  try simp only [q0P, q0Q, q0R, q0S]
  refine tkS 22 rfl ?_
  try simp only [q0P, q0Q, q0R, q0S]
  refine tkS 23 rfl ?_
  try simp only [q0P, q0Q, q0R, q0S]
  refine tkS 24 rfl ?_
  try simp only [q0P, q0Q, q0R, q0S]
  refine tkS 25 rfl ?_
  try simp only [q0P, q0Q, q0R, q0S]
  refine tkS 26 rfl ?_
  try simp only [q0P, q0Q, q0R, q0S]
  refine tkH 27 (v := ?_) rfl ?_ ?_
  rotate_left
  ·(intro wq hSq; (try dsimp only at hSq); go_simp; try with_reducible rfl)
  try simp only [q0P, q0Q, q0R, q0S]
  refine wpAnyH_end (by kernel_rfl) ?_
  go_wp2
  go_ret
  exact ⟨rfl, (Below.refl _ _).drew⟩
 have hzg : z = (g : Int) := by rw [HZ.out, sgn_small g (by omega)]
 subst hzg
 have t2 : ¬ (g : Int) < 1 := by omega
 have hg63 : g < 9223372036854775808 := by omega
 refine wp_region_heldL (fun w' => w'.cell? ⟨p, 1, none⟩ = some (.slice (some ⟨b, 0, none⟩) S S) ∧ w'.cell? ⟨b, A, none⟩ = some (.int .u8 (x0.toNat : Int)) ∧ ∀ c, (convert 54 9 (.slice (some ⟨b, A9, none⟩) 8 c)).run Tryz.prog w' = .ok (.string (bytesOf t9)) w') (by kernel_rfl) ⟨k1, hc, hS0⟩ (fun hS => ?_)
 refine tkH 0 (v := ?_) rfl ?_ ?_
 rotate_left
 ·(intro wq hSq; (try dsimp only at hSq); go_simp; try with_reducible rfl)
 try simp only [q0P, q0Q, q0R, q0S]
 refine tkH 1 (v := ?_) rfl ?_ ?_
 rotate_left
 ·(intro wq hSq; (try dsimp only at hSq); go_simp; try with_reducible rfl)
 try simp only [q0P, q0Q, q0R, q0S]
 refine tkH 2 (v := ?_) rfl ?_ ?_
 rotate_left
 ·(intro wq hSq; (try dsimp only at hSq); go_simp; try with_reducible rfl)
 try simp only [q0P, q0Q, q0R, q0S]
 refine tkH 3 (v := ?_) rfl ?_ ?_
 rotate_left
 ·(intro wq hSq; (try dsimp only at hSq); go_simp; try with_reducible rfl)
 try simp only [q0P, q0Q, q0R, q0S]
 refine tkH 4 (v := ?_) rfl ?_ ?_
 rotate_left
 ·(intro wq hSq; (try dsimp only at hSq); go_simp; try with_reducible rfl)
 try simp only [q0P, q0Q, q0R, q0S]
 refine tkH 5 (v := ?_) rfl ?_ ?_
 rotate_left
 ·(intro wq hSq; (try dsimp only at hSq); go_simp; try with_reducible rfl)
 try simp only [q0P, q0Q, q0R, q0S]
 refine tkH 6 (v := ?_) rfl ?_ ?_
 rotate_left
 ·(intro wq hSq; (try dsimp only at hSq); go_simp; try with_reducible rfl)
 try simp only [q0P, q0Q, q0R, q0S]
 refine tkH 7 (v := ?_) rfl ?_ ?_
 rotate_left
 ·(intro wq hSq; (try dsimp only at hSq); go_simp; try with_reducible rfl)
 try simp only [q0P, q0Q, q0R, q0S]
 refine tkH 8 (v := ?_) rfl ?_ ?_
 rotate_left
 ·(intro wq hSq; (try dsimp only at hSq); go_simp; try with_reducible rfl)
 try simp only [q0P, q0Q, q0R, q0S]
 refine tkH 9 (v := ?_) rfl ?_ ?_
 rotate_left
 ·(intro wq hSq; (try dsimp only at hSq); go_simp; try with_reducible rfl)
 try simp only [q0P, q0Q, q0R, q0S]
 refine tkH 10 (v := ?_) rfl ?_ ?_
 rotate_left
 ·(intro wq hSq; (try dsimp only at hSq); go_simp; try with_reducible rfl)
 try simp only [q0P, q0Q, q0R, q0S]
 refine tkH 11 (v := ?_) rfl ?_ ?_
 rotate_left
 ·(intro wq hSq; (try dsimp only at hSq); go_simp; try with_reducible rfl)
 try simp only [q0P, q0Q, q0R, q0S]
 refine tkH 12 (v := ?_) rfl ?_ ?_
 rotate_left
 ·(intro wq hSq; (try dsimp only at hSq); go_simp; try with_reducible rfl)
 try simp only [q0P, q0Q, q0R, q0S]
 refine tkH 13 (v := ?_) rfl ?_ ?_
 rotate_left
 ·(intro wq hSq; (try dsimp only at hSq); go_simp; try with_reducible rfl)
 try simp only [q0P, q0Q, q0R, q0S]
 refine tkH 14 (v := ?_) rfl ?_ ?_
 rotate_left
 ·(intro wq hSq; (try dsimp only at hSq); go_simp; try with_reducible rfl)
 try simp only [q0P, q0Q, q0R, q0S]
 refine tkH 15 (v := ?_) rfl ?_ ?_
 rotate_left
 ·(intro wq hSq; (try dsimp only at hSq); go_simp; try with_reducible rfl)
 try simp only [q0P, q0Q, q0R, q0S]
 refine tkH 16 (v := ?_) rfl ?_ ?_
 rotate_left
 ·(intro wq hSq; (try dsimp only at hSq); go_simp; try with_reducible rfl)
 try simp only [q0P, q0Q, q0R, q0S]
 refine tkH 17 (v := ?_) rfl ?_ ?_
 rotate_left
 ·(intro wq hSq; (try dsimp only at hSq); go_simp; try with_reducible rfl)
 try simp only [q0P, q0Q, q0R, q0S]
 refine tkH 18 (v := ?_) rfl ?_ ?_
 rotate_left
 ·(intro wq hSq; (try dsimp only at hSq); go_simp; try with_reducible rfl)
 try simp only [q0P, q0Q, q0R, q0S]
 refine tkH 19 (v := ?_) rfl ?_ ?_
 rotate_left
 ·(intro wq hSq; (try dsimp only at hSq); go_simp; try with_reducible rfl)
 try simp only [q0P, q0Q, q0R, q0S]
 refine tkH 20 (v := ?_) rfl ?_ ?_
 rotate_left
 ·(intro wq hSq; (try dsimp only at hSq); go_simp; try with_reducible rfl)
 try simp only [q0P, q0Q, q0R, q0S]
 refine tkH 21 (v := ?_) rfl ?_ ?_
 rotate_left
 ·(intro wq hSq; (try dsimp only at hSq); go_simp; try with_reducible rfl)
 try simp only [q0P, q0Q, q0R, q0S]
 refine tkH 22 (v := ?_) rfl ?_ ?_
 rotate_left
 ·(intro wq hSq; (try dsimp only at hSq); go_simp; try with_reducible rfl)
 try simp only [q0P, q0Q, q0R, q0S]
 refine tkH 23 (v := ?_) rfl ?_ ?_
 rotate_left
 ·(intro wq hSq; (try dsimp only at hSq); go_simp; try with_reducible rfl)
 try simp only [q0P, q0Q, q0R, q0S]
 refine wpAnyH_stepL 24 (by kernel_rfl) rfl (fun K hK => ?_)
 go_simp
 go_at_call 20
 refine (reight_any g hg63 _).mono ?_
 rintro e w2 ⟨rfl, hb2d⟩
 have hb2 : Below w.heap.size w w2 := ((Below.refl w.heap.size w).drew).trans hb2d
 have hD2 := HD.out.kept hb2
 refine hK.out _ _ ⟨HK.out w2 hD2, HC.out w2 hD2, HT.out w2 hD2⟩ (fun hS2 => ?_)
 clear hK K hS
 try simp only [q0P, q0Q, q0R, q0S]
 refine wpAnyH_stepL 25 (by kernel_rfl) rfl (fun K hK => ?_)
 go_simp
 go_at_call 21
 refine (refShortN_any (eightL g) (by rw [eightL_length]; omega) _).mono ?_
 rintro e w3 ⟨rfl, hb3⟩
 have hb23 := hb2.trans (hb3.mono hb2.size)
 have hD3 := HD.out.kept hb23
 refine hK.out _ _ ⟨HK.out w3 hD3, HC.out w3 hD3, HT.out w3 hD3⟩ (fun hS3 => ?_)
 clear hK K hS2
 try simp only [q0P, q0Q, q0R, q0S]
 by_cases h4 : t9 = shortL (eightL g)
 ·have t4 := str_beq (bytesOf t9) (bytesOf (shortL (eightL g))) (by rw [h4])
  obtain rfl : r = g := by rw [HR.out]; simp [h1, h4]; omega
  refine tkH 26 (v := ?_) rfl ?_ ?_
  rotate_left
  ·(intro wq hSq; (try dsimp only at hSq); go_simp; try with_reducible rfl)
  try simp only [q0P, q0Q, q0R, q0S]
  refine tkH 27 (v := ?_) rfl ?_ ?_
  rotate_left
  ·(intro wq hSq; (try dsimp only at hSq); go_simp; try with_reducible rfl)
  try simp only [q0P, q0Q, q0R, q0S]
  refine wpAnyH_end (by kernel_rfl) ?_
  go_wp2
  go_ret
  exact ⟨rfl, hb23⟩
 ·have t4 := str_bne (bytesOf t9) (bytesOf (shortL (eightL g))) (fun h => h4 (bytesOf_inj h))
  obtain rfl : r = 0 := by rw [HR.out, if_neg]; simp [h4]
  refine tkH 26 (v := ?_) rfl ?_ ?_
  rotate_left
  ·(intro wq hSq; (try dsimp only at hSq); go_simp; try with_reducible rfl)
  try simp only [q0P, q0Q, q0R, q0S]
  refine tkH 27 (v := ?_) rfl ?_ ?_
  rotate_left
  ·(intro wq hSq; (try dsimp only at hSq); go_simp; try with_reducible rfl)
  try simp only [q0P, q0Q, q0R, q0S]
  refine wpAnyH_end (by kernel_rfl) ?_
  go_wp2
  go_ret
  exact ⟨rfl, hb23⟩
end
/- Walks: the reference's disk: which half is active; the smaller methods. -/
section
open Go.RowKit Go.Shelf
theorem ractive_any (p b : Nat) (d : Dk) (w : World) (hd : RDiskAt w p b d) (ho : d.ok) :
  Calls Tryz.prog 90 #[.pointer (some ⟨p, 0, none⟩)] w fun e w' => e = .returned (.tuple #[.int .i64 d.half, .int .i64 (d.gen : Int)]) ∧ Below w.heap.size w w' := by
 have HG0 := Lib.hid (fun W (h : RDiskAt W p b d) => rgeneration_any p b 0 (by omega) d W h ho)
 have HG1 := Lib.hid (fun W (h : RDiskAt W p b d) => rgeneration_any p b 1 (by omega) d W h ho)
 have HH := Lib.hid hd
 obtain ⟨x, hx⟩ : ∃ x, x = d.half := ⟨_, rfl⟩
 obtain ⟨y, hy⟩ : ∃ y, y = d.gen := ⟨_, rfl⟩
 rw [← hx, ← hy]
 unfold Dk.half at hx
 unfold Dk.gen at hy
 obtain ⟨g0, hg0⟩ : ∃ g, g = genL d.h0 := ⟨_, rfl⟩
 obtain ⟨g1, hg1⟩ : ∃ g, g = genL d.h1 := ⟨_, rfl⟩
 rw [show d.hf 0 = d.h0 from rfl, ← hg0] at HG0
 rw [show d.hf 1 = d.h1 from rfl, ← hg1] at HG1
 rw [← hg0, ← hg1] at hx hy
 have HX := Lib.hid hx
 have HY := Lib.hid hy
 clear hx hy hg0 hg1 hd
 go_enter Tryz.func90, Tryz.ntmps90
 go_wp2_with fail
 refine (HG0.out _ HH.out).mono ?_
 rintro e w2 ⟨rfl, hb2⟩
 have HD2 := Lib.hid (HH.out.kept hb2)
 go_wp2_with fail
 refine (HG1.out _ HD2.out).mono ?_
 rintro e w3 ⟨rfl, hb3d⟩
 have hb3 : Below w.heap.size w w3 := hb2.trans (hb3d.mono hb2.size)
 clear hb2 hb3d
 by_cases c0 : g0 = 0
 ·by_cases c1 : g1 = 0
  ·have t0 : ((g0 : Int) == 0) = true := by simp [c0]
   have t1 : ((g1 : Int) == 0) = true := by simp [c1]
   obtain rfl : x = -1 := by rw [HX.out, if_pos ⟨c0, c1⟩]
   obtain rfl : y = 0 := by rw [HY.out, if_pos ⟨c0, c1⟩]
   go_wp2
   go_ret2
   exact ⟨rfl, hb3⟩
  ·have t0 : ((g0 : Int) == 0) = true := by simp [c0]
   have t1 : ((g1 : Int) == 0) = false := by rw [beq_eq_false_iff_ne]; omega
   have t2 : (g0 : Int) < (g1 : Int) := by omega
   obtain rfl : x = 1 := by rw [HX.out, if_neg (by omega), if_pos (by omega)]
   obtain rfl : y = g1 := by rw [HY.out, if_neg (by omega), if_pos (by omega)]
   go_wp2
   go_ret2
   exact ⟨rfl, hb3⟩
 ·have t0 : ((g0 : Int) == 0) = false := by rw [beq_eq_false_iff_ne]; omega
  by_cases c2 : g0 < g1
  ·have t2 : (g0 : Int) < (g1 : Int) := by omega
   obtain rfl : x = 1 := by rw [HX.out, if_neg (by omega), if_pos c2]
   obtain rfl : y = g1 := by rw [HY.out, if_neg (by omega), if_pos c2]
   go_wp2
   go_ret2
   exact ⟨rfl, hb3⟩
  ·have t2 : ¬ (g0 : Int) < (g1 : Int) := by omega
   obtain rfl : x = 0 := by rw [HX.out, if_neg (by omega), if_neg c2]
   obtain rfl : y = g0 := by rw [HY.out, if_neg (by omega), if_neg c2]
   go_wp2
   go_ret2
   exact ⟨rfl, hb3⟩
theorem rresult_any (p b : Nat) (d : Dk) (w : World) (hd : RDiskAt w p b d) :
  Calls Tryz.prog 94 #[.pointer (some ⟨p, 0, none⟩)] w fun e w' => e = .returned (.int .i64 (if d.failed = true then 9 else 0)) ∧ w = w' := by
 obtain ⟨-, -, -, k3, -, -⟩ := four_cells hd.at_
 cases hf : d.failed
 ·rw [hf] at k3
  go_enter Tryz.func94, Tryz.ntmps94
  go_wp2
  go_ret
  exact ⟨rfl, rfl⟩
 ·rw [hf] at k3
  go_enter Tryz.func94, Tryz.ntmps94
  go_wp2
  go_ret
  exact ⟨rfl, rfl⟩
end
/- Walks: the reference's disk: what writes bytes. -/
section
open Go.RowKit Go.Shelf
structure RWrAt (w : World) (p b n S : Nat) (st : Wr) : Prop where
 at_ : w.heap[p]? = some (.cells #[.int .i64 (n : Int), .slice (some ⟨b, 0, none⟩) S S, .int .i64 st.fuse, .bool st.failed] 62)
 half : HalfAt w b st.h
 len : st.h.length = S
 ne : ¬ b = p
 f1 : -1 ≤ st.fuse
 f2 : st.fuse ≤ 9223372036854775807
theorem RWrAt.setFailed {w : World} {p b n S : Nat} {st : Wr} (h : RWrAt w p b n S st) (z : Bool) : RWrAt (w.setCell ⟨p, 3, none⟩ (.bool z)) p b n S ⟨st.h, st.fuse, z⟩ :=
 ⟨by simp [World.setCell, Array.getElem?_modify, h.at_], by obtain ⟨t, ht⟩ := h.half; exact ⟨t, (Below.heap_setCell w ⟨p, 3, none⟩ _ b h.ne).trans ht⟩, h.len, h.ne, h.f1, h.f2⟩
theorem RWrAt.setFuse {w : World} {p b n S : Nat} {st : Wr} (h : RWrAt w p b n S st) (z : Int) (h1 : -1 ≤ z) (h2 : z ≤ 9223372036854775807) : RWrAt (w.setCell ⟨p, 2, none⟩ (.int .i64 z)) p b n S ⟨st.h, z, st.failed⟩ :=
 ⟨by simp [World.setCell, Array.getElem?_modify, h.at_], by obtain ⟨t, ht⟩ := h.half; exact ⟨t, (Below.heap_setCell w ⟨p, 2, none⟩ _ b h.ne).trans ht⟩, h.len, h.ne, h1, h2⟩
theorem RWrAt.setByte {w : World} {p b n S : Nat} {st : Wr} (h : RWrAt w p b n S st) (k : Nat) (c : UInt8) : RWrAt (w.setCell ⟨b, k, none⟩ (byteV c)) p b n S ⟨st.h.set k c, st.fuse, st.failed⟩ :=
 ⟨(Below.heap_setCell w ⟨b, k, none⟩ _ p (Ne.symm h.ne)).trans h.at_, by obtain ⟨t, ht⟩ := h.half; exact ⟨t, half_set ht k c⟩, by rw [List.length_set]; exact h.len, h.ne, h.f1, h.f2⟩
theorem RWrAt.drew {w : World} {p b n S : Nat} {st : Wr} (h : RWrAt w p b n S st) : RWrAt w.drew p b n S st := ⟨h.at_, h.half, h.len, h.ne, h.f1, h.f2⟩
theorem RWrAt.below {w w' : World} {p b n S : Nat} {st : Wr} (h : RWrAt w p b n S st) (hb : Below w.heap.size w w') : RWrAt w' p b n S st :=
 ⟨(hb.block _ (lt_of_heap h.at_)).trans h.at_, h.half.below hb h.half.lt, h.len, h.ne, h.f1, h.f2⟩
theorem rwrite_any (p b n S k : Nat) (st : Wr) (s : List UInt8) (hk : k + s.length ≤ S) (hn : S ≤ 600000) (w : World) (hw : RWrAt w p b n S st) :
  Calls Tryz.prog 92 #[.pointer (some ⟨p, 0, none⟩), .int .i64 (k : Int), .string (bytesOf s)] w fun e w' => (∃ v, e = .returned v) ∧ RWrAt w' p b n S (putS st k s) ∧ Kp (two p b) w w' := by
 obtain ⟨m, hm⟩ : ∃ m, m = s.length := ⟨_, rfl⟩
 have hs : (bytesOf s).size = m := by rw [hm]; rfl
 have hs1 : ((bytesOf s).size : Int) = (m : Int) := by rw [hs]
 obtain ⟨r, hr⟩ : ∃ r, r = putS st k s := ⟨_, rfl⟩
 rw [← hr]
 have HR := Lib.hid hr
 have HM := Lib.hid hm
 rw [← hm] at hk
 have HW := Lib.hid hw
 clear hm hr hw
 have hro : Fence.wide.round = none := rfl
 refine (callsIn_wide (n := 5)).1 ?_
 refine callsIn_of_wp Tryz.func92 rfl trivial ?_ rfl
 simp only [Tryz.ntmps92, List.size_toArray, List.length_cons, List.length_nil, Nat.reduceAdd, Nat.reduceSub, Array.replicate_succ, Array.replicate_zero, List.push_toArray, List.append_toArray, List.nil_append, List.cons_append]
 gi_wp2_with fail
 gi_loopw [6] (fun ii wr => ∃ (i : Nat) (si : Wr), i ≤ m ∧ ii = .int .i64 (i : Int) ∧ Hid (r = putS si (k + i) (s.drop i)) ∧ Hid (RWrAt wr p b n S si) ∧ Hid (Kp (two p b) w wr)) (fun ii _ => m - (intOf ii).toNat)
 case atStart => exact ⟨0, st, Nat.zero_le _, rfl, HR.out, HW.out, Kp.refl _ _⟩
 case round =>
  obtain ⟨i, si, hi, rfl, hR, hWr, hKp⟩ := hrel
  have hz : s.length = m := HM.out.symm
  obtain ⟨-, -, e2, e3, f2, f3⟩ := four_cells hWr.out.at_
  by_cases hlt : i < m
  case neg =>
   obtain rfl : i = m := by omega
   have hrr : r = si := by rw [hR.out, List.drop_of_length_le (by omega)]; rfl
   have HRR := Lib.hid hrr
   clear hrr
   gi_wp2
   go_end0
   exact ⟨⟨_, rfl⟩, by rw [HRR.out]; exact hWr.out, hKp.out⟩
  obtain ⟨c, hc⟩ : ∃ c, s[i]? = some c := ⟨s[i]'(by omega), List.getElem?_eq_getElem _⟩
  have hdr : s.drop i = c :: s.drop (i + 1) := by
   rw [List.drop_eq_getElem_cons (by omega)]
   congr 1
   rw [List.getElem?_eq_getElem (by omega)] at hc
   injection hc
  have HDR := Lib.hid hdr
  have HC := Lib.hid hc
  clear hdr hc
  by_cases hf0 : si.fuse = 0
  ·rw [hf0] at e2
   have hrr : r = ⟨si.h, si.fuse, true⟩ := by rw [hR.out, putS_stop (by rw [HDR.out]; simp) (Or.inr hf0)]
   have HRR := Lib.hid hrr
   have HA4 := Lib.hid (hWr.out.setFailed true)
   have HK4 := Lib.hid (hKp.out.setCell (a := ⟨p, 3, none⟩) (Or.inl rfl) (.bool true))
   clear hrr
   gi_wp2
   refine bodyPost_ret (results_none rfl _ _ _) rfl ?_
   exact ⟨⟨_, rfl⟩, by rw [HRR.out]; exact HA4.out, HK4.out⟩
  obtain ⟨fu, hfu⟩ : ∃ f, f = si.fuse := ⟨_, rfl⟩
  have hfb : (fu == 0) = false := by rw [beq_eq_false_iff_ne, hfu]; exact hf0
  rw [← hfu] at e2
  have FU := Lib.hid hfu
  cases hfd : si.failed
  case true =>
   rw [hfd] at e3
   have hrr : r = ⟨si.h, si.fuse, true⟩ := by rw [hR.out, putS_stop (by rw [HDR.out]; simp) (Or.inl hfd)]
   have hsi : (⟨si.h, si.fuse, true⟩ : Wr) = si := by rw [← hfd]
   have HRR : Hid (r = si) := hrr.trans hsi
   clear hrr hsi hfu hf0
   gi_wp2
   refine bodyPost_ret (results_none rfl _ _ _) rfl ?_
   exact ⟨⟨_, rfl⟩, by rw [HRR.out]; exact hWr.out, hKp.out⟩
  case false =>
    rw [hfd] at e3
    have hst : r = putS ⟨si.h.set (k + i) c, if 0 < si.fuse then si.fuse - 1 else si.fuse, false⟩ (k + (i + 1)) (s.drop (i + 1)) := by
     rw [hR.out, HDR.out, putS_step (by rw [hfd]; simpa using hf0)]; rfl
    have HST := Lib.hid hst
    have fb1 := hWr.out.f1
    have fb2 := hWr.out.f2
    rw [← hfu] at fb1 fb2
    have HA4 : Hid (RWrAt wr p b n S ⟨si.h, si.fuse, false⟩) := by
     have := hWr.out
     rw [← hfd]; exact this
    clear hfu hf0 hst
    obtain ⟨j, hj⟩ : ∃ j, j = k + i := ⟨_, rfl⟩
    have hk3 : j < S := by omega
    have HJ := Lib.hid hj
    have hwi : IntKind.i64.wrap ((k : Int) + (i : Int)) = (j : Int) := by rw [IntWalk.i64_in _ ⟨by omega, by omega⟩]; omega
    clear hj
    have hsi : (bytesOf s)[i]'(by rw [hs]; exact hlt) = c := by
     have := HC.out
     rw [List.getElem?_eq_getElem (by omega)] at this
     injection this
    by_cases hp : 0 < fu
    ·have hw1 : IntKind.i64.wrap (fu - 1) = fu - 1 := IntWalk.i64_in _ ⟨by omega, by omega⟩
     gi_wp2_with fail
     have hA5 : Hid (RWrAt (wr.setCell ⟨p, 2, none⟩ (.int .i64 (fu - 1))) p b n S ⟨si.h, fu - 1, false⟩) := HA4.out.setFuse _ (by omega) (by omega)
     have hK5 : Hid (Kp (two p b) w (wr.setCell ⟨p, 2, none⟩ (.int .i64 (fu - 1)))) := hKp.out.setCell (Or.inl rfl) _
     generalize wr.setCell ⟨p, 2, none⟩ (.int .i64 (fu - 1)) = w5 at hA5 hK5 ⊢
     clear e2 e3 f2 f3 HA4
     have k1 : w5.cell? ⟨p, 1, none⟩ = some (.slice (some ⟨b, 0, none⟩) S S) := (four_cells hA5.out.at_).2.1
     obtain ⟨th, hth⟩ := hA5.out.half
     have hlh : si.h.length = S := hA5.out.len
     obtain ⟨b1, b2⟩ := half_cells hth j (by rw [hlh]; exact hk3)
     generalize si.h[j] = c0 at b1
     clear hth
     refine wpIn_region_K (fun w' => w'.cell? ⟨p, 1, none⟩ = some (.slice (some ⟨b, 0, none⟩) S S) ∧ w'.cell? ⟨b, j, none⟩ = some (byteV c0) ∧ w'.frozen? ⟨b, j, none⟩ = false) 11 (by kernel_rfl) ⟨k1, b1, b2⟩ (fun hS => ?_)
     refine wpAnyKC_takeL 0 20 (v := ?_) hro (by kernel_rfl) (by kernel_rfl) (by kernel_rfl) rfl (by kernel_rfl) (by kernel_rfl) (fun _ _ _ h => h) (Or.inl ⟨by rfl, ?_⟩) (fun _ => rfl) (by assumption) ?_
     rotate_left
     ·(intro wq hSq; (try dsimp only at hSq); go_simp; try with_reducible rfl)
     try simp only [q0P, q0Q, q0R, q0S]
     refine wpAnyKC_takeL 1 20 (v := ?_) hro (by kernel_rfl) (by kernel_rfl) (by kernel_rfl) rfl (by kernel_rfl) (by kernel_rfl) (fun _ _ _ h => h) (Or.inl ⟨by rfl, ?_⟩) (fun _ => rfl) (by assumption) ?_
     rotate_left
     ·(intro wq hSq; (try dsimp only at hSq); go_simp; try with_reducible rfl)
     try simp only [q0P, q0Q, q0R, q0S]
     refine wpAnyKC_takeL 2 20 (v := ?_) hro (by kernel_rfl) (by kernel_rfl) (by kernel_rfl) rfl (by kernel_rfl) (by kernel_rfl) (fun _ _ _ h => h) (Or.inl ⟨by rfl, ?_⟩) (fun _ => rfl) (by assumption) ?_
     rotate_left
     ·(intro wq hSq; (try dsimp only at hSq); go_simp; try with_reducible rfl)
     try simp only [q0P, q0Q, q0R, q0S]
     refine wpAnyKC_takeL 3 20 (v := ?_) hro (by kernel_rfl) (by kernel_rfl) (by kernel_rfl) rfl (by kernel_rfl) (by kernel_rfl) (fun _ _ _ h => h) (Or.inl ⟨by rfl, ?_⟩) (fun _ => rfl) (by assumption) ?_
     rotate_left
     ·(intro wq hSq; (try dsimp only at hSq); go_simp; try with_reducible rfl)
     try simp only [q0P, q0Q, q0R, q0S]
     refine wpAnyKC_takeL 4 20 (v := ?_) hro (by kernel_rfl) (by kernel_rfl) (by kernel_rfl) rfl (by kernel_rfl) (by kernel_rfl) (fun _ _ _ h => h) (Or.inl ⟨by rfl, ?_⟩) (fun _ => rfl) (by assumption) ?_
     rotate_left
     ·(intro wq hSq; (try dsimp only at hSq); go_simp; try with_reducible rfl)
     try simp only [q0P, q0Q, q0R, q0S]
     refine wpAnyKC_takeL 5 20 (v := ?_) hro (by kernel_rfl) (by kernel_rfl) (by kernel_rfl) rfl (by kernel_rfl) (by kernel_rfl) (fun _ _ _ h => h) (Or.inl ⟨by rfl, ?_⟩) (fun _ => rfl) (by assumption) ?_
     rotate_left
     ·(intro wq hSq; (try dsimp only at hSq); go_simp; try with_reducible rfl)
     try simp only [q0P, q0Q, q0R, q0S]
     refine wpAnyKC_takeL 6 20 (v := ?_) hro (by kernel_rfl) (by kernel_rfl) (by kernel_rfl) rfl (by kernel_rfl) (by kernel_rfl) (fun _ _ _ h => h) (Or.inl ⟨by rfl, ?_⟩) (fun _ => rfl) (by assumption) ?_
     rotate_left
     ·(intro wq hSq; (try dsimp only at hSq); go_simp; try with_reducible rfl)
     try simp only [q0P, q0Q, q0R, q0S]
     refine wpAnyKC_takeL 7 20 (v := ?_) hro (by kernel_rfl) (by kernel_rfl) (by kernel_rfl) rfl (by kernel_rfl) (by kernel_rfl) (fun _ _ _ h => h) (Or.inl ⟨by rfl, ?_⟩) (fun _ => rfl) (by assumption) ?_
     rotate_left
     ·(intro wq hSq; (try dsimp only at hSq); go_simp; try with_reducible rfl)
     try simp only [q0P, q0Q, q0R, q0S]
     refine wpAnyKC_takeL 8 20 (v := ?_) hro (by kernel_rfl) (by kernel_rfl) (by kernel_rfl) rfl (by kernel_rfl) (by kernel_rfl) (fun _ _ _ h => h) (Or.inl ⟨by rfl, ?_⟩) (fun _ => rfl) (by assumption) ?_
     rotate_left
     ·(intro wq hSq; (try dsimp only at hSq); go_simp; try with_reducible rfl)
     try simp only [q0P, q0Q, q0R, q0S]
     refine wpAnyKC_takeL 9 20 (v := ?_) hro (by kernel_rfl) (by kernel_rfl) (by kernel_rfl) rfl (by kernel_rfl) (by kernel_rfl) (fun _ _ _ h => h) (Or.inl ⟨by rfl, ?_⟩) (fun _ => rfl) (by assumption) ?_
     rotate_left
     ·(intro wq hSq; (try dsimp only at hSq); go_simp; try with_reducible rfl)
     try simp only [q0P, q0Q, q0R, q0S]
     refine wpAnyKC_takeL 10 20 (v := ?_) hro (by kernel_rfl) (by kernel_rfl) (by kernel_rfl) rfl (by kernel_rfl) (by kernel_rfl) (fun _ _ _ h => h) (Or.inl ⟨by rfl, ?_⟩) (fun _ => rfl) (by assumption) ?_
     rotate_left
     ·(intro wq hSq; (try dsimp only at hSq); go_simp; try with_reducible rfl)
     try simp only [q0P, q0Q, q0R, q0S]
     refine wpAnyKC_stepL 11 (by kernel_rfl) rfl (fun K hK => ?_)
     go_simp
     refine hK.out _ _ (fun h => by cases h) ?_
     clear hK K hS
     try simp only [q0P, q0Q, q0R, q0S]
     refine wpAnyKC_end (by kernel_rfl) ?_
     have hA6 : Hid (RWrAt (w5.setCell ⟨b, j, none⟩ (byteV c)).drew p b n S ⟨si.h.set j c, fu - 1, false⟩) := (hA5.out.setByte _ _).drew
     have hK6 : Hid (Kp (two p b) w (w5.setCell ⟨b, j, none⟩ (byteV c)).drew) := (hK5.out.setCell (Or.inr rfl) _).drew
     try rw [hsi]
     generalize (w5.setCell ⟨b, j, none⟩ (byteV c)).drew = w6 at hA6 hK6 ⊢
     clear b1 b2 k1
     gi_wp2
     go_roundw
     case rel =>
      refine ⟨i + 1, ⟨si.h.set j c, fu - 1, false⟩, by omega, by go_num, ?_, hA6.out, hK6.out⟩
      show _ = _
      rw [HST.out, ← HJ.out]
      rw [← FU.out, if_pos hp]
     case measure => simp [intOf]; omega
    ·have hpn : ¬ 0 < fu := hp
     clear hp
     gi_wp2_with fail
     clear e2 e3 f2 f3
     have k1 : wr.cell? ⟨p, 1, none⟩ = some (.slice (some ⟨b, 0, none⟩) S S) := (four_cells HA4.out.at_).2.1
     obtain ⟨th, hth⟩ := HA4.out.half
     have hlh : si.h.length = S := HA4.out.len
     obtain ⟨b1, b2⟩ := half_cells hth j (by rw [hlh]; exact hk3)
     generalize si.h[j] = c0 at b1
     clear hth
     refine wpIn_region_K (fun w' => w'.cell? ⟨p, 1, none⟩ = some (.slice (some ⟨b, 0, none⟩) S S) ∧ w'.cell? ⟨b, j, none⟩ = some (byteV c0) ∧ w'.frozen? ⟨b, j, none⟩ = false) 11 (by kernel_rfl) ⟨k1, b1, b2⟩ (fun hS => ?_)
     refine wpAnyKC_takeL 0 20 (v := ?_) hro (by kernel_rfl) (by kernel_rfl) (by kernel_rfl) rfl (by kernel_rfl) (by kernel_rfl) (fun _ _ _ h => h) (Or.inl ⟨by rfl, ?_⟩) (fun _ => rfl) (by assumption) ?_
     rotate_left
     ·(intro wq hSq; (try dsimp only at hSq); go_simp; try with_reducible rfl)
     try simp only [q0P, q0Q, q0R, q0S]
     refine wpAnyKC_takeL 1 20 (v := ?_) hro (by kernel_rfl) (by kernel_rfl) (by kernel_rfl) rfl (by kernel_rfl) (by kernel_rfl) (fun _ _ _ h => h) (Or.inl ⟨by rfl, ?_⟩) (fun _ => rfl) (by assumption) ?_
     rotate_left
     ·(intro wq hSq; (try dsimp only at hSq); go_simp; try with_reducible rfl)
     try simp only [q0P, q0Q, q0R, q0S]
     refine wpAnyKC_takeL 2 20 (v := ?_) hro (by kernel_rfl) (by kernel_rfl) (by kernel_rfl) rfl (by kernel_rfl) (by kernel_rfl) (fun _ _ _ h => h) (Or.inl ⟨by rfl, ?_⟩) (fun _ => rfl) (by assumption) ?_
     rotate_left
     ·(intro wq hSq; (try dsimp only at hSq); go_simp; try with_reducible rfl)
     try simp only [q0P, q0Q, q0R, q0S]
     refine wpAnyKC_takeL 3 20 (v := ?_) hro (by kernel_rfl) (by kernel_rfl) (by kernel_rfl) rfl (by kernel_rfl) (by kernel_rfl) (fun _ _ _ h => h) (Or.inl ⟨by rfl, ?_⟩) (fun _ => rfl) (by assumption) ?_
     rotate_left
     ·(intro wq hSq; (try dsimp only at hSq); go_simp; try with_reducible rfl)
     try simp only [q0P, q0Q, q0R, q0S]
     refine wpAnyKC_takeL 4 20 (v := ?_) hro (by kernel_rfl) (by kernel_rfl) (by kernel_rfl) rfl (by kernel_rfl) (by kernel_rfl) (fun _ _ _ h => h) (Or.inl ⟨by rfl, ?_⟩) (fun _ => rfl) (by assumption) ?_
     rotate_left
     ·(intro wq hSq; (try dsimp only at hSq); go_simp; try with_reducible rfl)
     try simp only [q0P, q0Q, q0R, q0S]
     refine wpAnyKC_takeL 5 20 (v := ?_) hro (by kernel_rfl) (by kernel_rfl) (by kernel_rfl) rfl (by kernel_rfl) (by kernel_rfl) (fun _ _ _ h => h) (Or.inl ⟨by rfl, ?_⟩) (fun _ => rfl) (by assumption) ?_
     rotate_left
     ·(intro wq hSq; (try dsimp only at hSq); go_simp; try with_reducible rfl)
     try simp only [q0P, q0Q, q0R, q0S]
     refine wpAnyKC_takeL 6 20 (v := ?_) hro (by kernel_rfl) (by kernel_rfl) (by kernel_rfl) rfl (by kernel_rfl) (by kernel_rfl) (fun _ _ _ h => h) (Or.inl ⟨by rfl, ?_⟩) (fun _ => rfl) (by assumption) ?_
     rotate_left
     ·(intro wq hSq; (try dsimp only at hSq); go_simp; try with_reducible rfl)
     try simp only [q0P, q0Q, q0R, q0S]
     refine wpAnyKC_takeL 7 20 (v := ?_) hro (by kernel_rfl) (by kernel_rfl) (by kernel_rfl) rfl (by kernel_rfl) (by kernel_rfl) (fun _ _ _ h => h) (Or.inl ⟨by rfl, ?_⟩) (fun _ => rfl) (by assumption) ?_
     rotate_left
     ·(intro wq hSq; (try dsimp only at hSq); go_simp; try with_reducible rfl)
     try simp only [q0P, q0Q, q0R, q0S]
     refine wpAnyKC_takeL 8 20 (v := ?_) hro (by kernel_rfl) (by kernel_rfl) (by kernel_rfl) rfl (by kernel_rfl) (by kernel_rfl) (fun _ _ _ h => h) (Or.inl ⟨by rfl, ?_⟩) (fun _ => rfl) (by assumption) ?_
     rotate_left
     ·(intro wq hSq; (try dsimp only at hSq); go_simp; try with_reducible rfl)
     try simp only [q0P, q0Q, q0R, q0S]
     refine wpAnyKC_takeL 9 20 (v := ?_) hro (by kernel_rfl) (by kernel_rfl) (by kernel_rfl) rfl (by kernel_rfl) (by kernel_rfl) (fun _ _ _ h => h) (Or.inl ⟨by rfl, ?_⟩) (fun _ => rfl) (by assumption) ?_
     rotate_left
     ·(intro wq hSq; (try dsimp only at hSq); go_simp; try with_reducible rfl)
     try simp only [q0P, q0Q, q0R, q0S]
     refine wpAnyKC_takeL 10 20 (v := ?_) hro (by kernel_rfl) (by kernel_rfl) (by kernel_rfl) rfl (by kernel_rfl) (by kernel_rfl) (fun _ _ _ h => h) (Or.inl ⟨by rfl, ?_⟩) (fun _ => rfl) (by assumption) ?_
     rotate_left
     ·(intro wq hSq; (try dsimp only at hSq); go_simp; try with_reducible rfl)
     try simp only [q0P, q0Q, q0R, q0S]
     refine wpAnyKC_stepL 11 (by kernel_rfl) rfl (fun K hK => ?_)
     go_simp
     refine hK.out _ _ (fun h => by cases h) ?_
     clear hK K hS
     try simp only [q0P, q0Q, q0R, q0S]
     refine wpAnyKC_end (by kernel_rfl) ?_
     have hA6 : Hid (RWrAt (wr.setCell ⟨b, j, none⟩ (byteV c)).drew p b n S ⟨si.h.set j c, si.fuse, false⟩) := (HA4.out.setByte _ _).drew
     have hK6 : Hid (Kp (two p b) w (wr.setCell ⟨b, j, none⟩ (byteV c)).drew) := (hKp.out.setCell (Or.inr rfl) _).drew
     try rw [hsi]
     generalize (wr.setCell ⟨b, j, none⟩ (byteV c)).drew = w6 at hA6 hK6 ⊢
     clear b1 b2 k1
     gi_wp2
     go_roundw
     case rel =>
      refine ⟨i + 1, ⟨si.h.set j c, si.fuse, false⟩, by omega, by go_num, ?_, hA6.out, hK6.out⟩
      show _ = _
      rw [HST.out, ← HJ.out]
      rw [← FU.out, if_neg (by omega)]
     case measure => simp [intOf]; omega
end
/- Walks: the reference's disk: the records of a half. -/
section
open Go.RowKit Go.Shelf
theorem owns_drewS {w : World} {base : Nat} {e : TypeId} {size : Nat} {v : Value} {n : Nat} {xs : List Value} (h : w.owns base e size v n xs) : w.drew.owns base e size v n xs := h
theorem rrecords_any (p b half g : Nat) (hh : half ≤ 1) (hg : g < 9223372036854775808) (d : Dk) (w : World) (hd : RDiskAt w p b d) (ho : d.ok) :
  Calls Tryz.prog 91 #[.pointer (some ⟨p, 0, none⟩), .int .i64 (half : Int), .int .i64 (g : Int)] w fun e w' =>
   (∃ v, e = .returned (.tuple #[v, .int .i64 (endR (d.hf half) g : Int)]) ∧ w'.reads w'.heap.size v (((recs (d.hf half) g).map (·.2)).map strV) ∧ (∀ z, v.ownBlock = some z → w.heap.size ≤ z)) ∧ Below w.heap.size w w' := by
 obtain ⟨X, hX⟩ : ∃ X, X = d.hf half := ⟨_, rfl⟩
 obtain ⟨E, hE⟩ : ∃ E, E = endR X g := ⟨_, rfl⟩
 rw [← hX, ← hE]
 obtain ⟨A, hA⟩ : ∃ A, A = half * d.size := ⟨_, rfl⟩
 obtain ⟨m, hm⟩ : ∃ m, m = d.size := ⟨_, rfl⟩
 have hlo := ho.lo
 have hhi := ho.hi
 have hAb : A + d.size ≤ 2 * d.size := by
  rw [hA]
  rcases (show half = 0 ∨ half = 1 by omega) with rfl | rfl <;> omega
 have hmul : (half : Int) * (m : Int) = (A : Int) := by rw [hA, hm]; push_cast; rfl
 have hXl : X.length = m := by rw [hX, hf_length ho half, hm]
 have hbl := both_length ho
 have BG : Hid (∀ i, i < m → (d.h0 ++ d.h1)[A + i]? = X[i]?) := fun i hi => by
  have := both_get ho half hh i (by omega)
  rw [← hA, ← hX] at this; exact this
 have BT : Hid (∀ o q, o + q ≤ m → ((d.h0 ++ d.h1).drop (A + o)).take q = (X.drop o).take q) := fun o q hq => by
  have := both_take ho half hh o q (by omega)
  rw [← hA, ← hX] at this; exact this
 obtain ⟨S, hS⟩ : ∃ S, S = 2 * d.size := ⟨_, rfl⟩
 have HK0 : Hid (∀ W, RDiskAt W p b d → W.cell? ⟨p, 0, none⟩ = some (.int .i64 (m : Int))) := fun W hW => by rw [hm]; exact (four_cells hW.at_).1
 have HK1 : Hid (∀ W, RDiskAt W p b d → W.cell? ⟨p, 1, none⟩ = some (.slice (some ⟨b, 0, none⟩) S S)) := fun W hW => by rw [hS]; exact (four_cells hW.at_).2.1
 have HNUM : Hid (∀ (W : World) (at_ : Nat), RDiskAt W p b d → at_ + 4 ≤ S → Calls Tryz.prog 115 #[.pointer (some ⟨p, 0, none⟩), .int .i64 (at_ : Int), .int .i64 4] W fun e w' => e = .returned (.int .i64 (sgn (numL (((d.h0 ++ d.h1).drop at_).take 4)))) ∧ W = w') := fun W at_ hW h4 => rnumber_any p b at_ 4 d W hW ho (by omega) (by omega)
 have HTX : Hid (∀ W, RDiskAt W p b d → ∀ o q c, o + q ≤ S → (convert 54 9 (.slice (some ⟨b, o, none⟩) q c)).run Tryz.prog W = .ok (.string (bytesOf (((d.h0 ++ d.h1).drop o).take q))) W) := fun W hW o q c hq => hW.half.text o q (by rw [hbl]; omega) c
 have hAS : A + m ≤ S := by omega
 have hSm : S ≤ 600000 := by omega
 have hm64 : 64 ≤ m := by omega
 have hmmx : m ≤ 262144 := by omega
 have HD := Lib.hid hd
 have HE := Lib.hid hE
 have HXL := Lib.hid hXl
 have HR0 : Hid (recs X g = recF X g m 17) := by show _ = _; unfold recs; rw [hXl]
 have hwm : IntKind.i64.wrap (A : Int) = (A : Int) := IntWalk.i64_in _ ⟨by omega, by omega⟩
 clear hd ho hX hE hA hm hlo hhi hAb hXl hbl hS
 obtain ⟨i0, hi0, hiz, hiz1, hizb⟩ := info_parts infoStr
 go_enter Tryz.func91, Tryz.ntmps91
 go_wp2_with fail
 go_loopw [8, 9] (fun ov kv wr => ∃ (k f : Nat) (pre : List (Nat × List UInt8)) (va : Option Addr) (L vc : Nat), kv = .int .i64 (k : Int) ∧ ov = .slice va L vc ∧ 17 + 13 * L ≤ k ∧ f + L = m ∧ k ≤ 17 + m ∧ Hid (pre.length = L) ∧ Hid (recs X g = pre ++ recF X g f k) ∧ Hid (lastE pre = k) ∧ Hid (wr.owns w.heap.size 9 1 (.slice va L vc) L ((pre.map (·.2)).map strV)) ∧ Hid (Below w.heap.size w wr)) (fun _ kv _ => 17 + m - (intOf kv).toNat)
 case atStart => exact ⟨17, m, [], none, 0, 0, rfl, rfl, by omega, by omega, by omega, rfl, HR0.out, rfl, World.owns_nil _ _ _ _, Below.refl _ _⟩
 case round =>
  obtain ⟨k, f, pre, va, L, vc, rfl, rfl, hk1, hf, hk2, hpl, hrec, hlast, hown, hB⟩ := hrel
  have HDr := Lib.hid (HD.out.kept hB.out)
  have hz := hB.out.size
  have q0 := HK0.out wr.drew HDr.out.drew
  have q1 := HK1.out wr.drew HDr.out.drew
  have hwk : IntKind.i64.wrap ((k : Int) + 13) = (k : Int) + 13 := IntWalk.i64_in _ ⟨by omega, by omega⟩
  by_cases a1 : k + 13 ≤ m
  case neg =>
   have hnx : nextR X g k = none := by unfold nextR; rw [if_neg]; rintro ⟨q, -⟩; rw [HXL.out] at q; exact a1 q
   have t1 : decide ((k : Int) + 13 ≤ (m : Int)) = false := decide_eq_false (by omega)
   go_wp2_with fail
   refine wp_region_heldL (fun w' => w'.cell? ⟨p, 0, none⟩ = some (.int .i64 (m : Int))) (by kernel_rfl) q0 (fun hS => ?_)
   refine tkH 0 (v := ?_) rfl ?_ ?_
   rotate_left
   ·(intro wq hSq; (try dsimp only at hSq); go_simp; try with_reducible rfl)
   try simp only [q0P, q0Q, q0R, q0S]
   refine tkH 1 (v := ?_) rfl ?_ ?_
   rotate_left
   ·(intro wq hSq; (try dsimp only at hSq); go_simp; try with_reducible rfl)
   try simp only [q0P, q0Q, q0R, q0S]
   refine tkH 2 (v := ?_) rfl ?_ ?_
   rotate_left
   ·(intro wq hSq; (try dsimp only at hSq); go_simp; try with_reducible rfl)
   try simp only [q0P, q0Q, q0R, q0S]
   refine tkH 3 (v := ?_) rfl ?_ ?_
   rotate_left
   ·(intro wq hSq; (try dsimp only at hSq); go_simp; try with_reducible rfl)
   try simp only [q0P, q0Q, q0R, q0S]
   refine tkH 4 (v := ?_) rfl ?_ ?_
   rotate_left
   ·(intro wq hSq; (try dsimp only at hSq); go_simp; try with_reducible rfl)
   try simp only [q0P, q0Q, q0R, q0S]
   refine tkH 5 (v := ?_) rfl ?_ ?_
   rotate_left
   ·(intro wq hSq; (try dsimp only at hSq); go_simp; try with_reducible rfl)
   try simp only [q0P, q0Q, q0R, q0S]
   refine tkH 6 (v := ?_) rfl ?_ ?_
   rotate_left
   ·(intro wq hSq; (try dsimp only at hSq); go_simp; try with_reducible rfl)
   try simp only [q0P, q0Q, q0R, q0S]
   refine tkH 7 (v := ?_) rfl ?_ ?_
   rotate_left
   ·(intro wq hSq; (try dsimp only at hSq); go_simp; try with_reducible rfl)
   try simp only [q0P, q0Q, q0R, q0S]
   refine tkS 8 rfl ?_
   try simp only [q0P, q0Q, q0R, q0S]
   refine tkS 9 rfl ?_
   try simp only [q0P, q0Q, q0R, q0S]
   refine tkS 10 rfl ?_
   try simp only [q0P, q0Q, q0R, q0S]
   refine tkS 11 rfl ?_
   try simp only [q0P, q0Q, q0R, q0S]
   refine tkS 12 rfl ?_
   try simp only [q0P, q0Q, q0R, q0S]
   refine tkS 13 rfl ?_
   try simp only [q0P, q0Q, q0R, q0S]
   refine tkS 14 rfl ?_
   try simp only [q0P, q0Q, q0R, q0S]
   refine tkS 15 rfl ?_
   try simp only [q0P, q0Q, q0R, q0S]
   refine tkS 16 rfl ?_
   try simp only [q0P, q0Q, q0R, q0S]
   refine tkS 17 rfl ?_
   try simp only [q0P, q0Q, q0R, q0S]
   refine tkS 18 rfl ?_
   try simp only [q0P, q0Q, q0R, q0S]
   refine tkS 19 rfl ?_
   try simp only [q0P, q0Q, q0R, q0S]
   refine tkS 20 rfl ?_
   try simp only [q0P, q0Q, q0R, q0S]
   refine tkS 21 rfl ?_
   try simp only [q0P, q0Q, q0R, q0S]
   refine tkS 22 rfl ?_
   try simp only [q0P, q0Q, q0R, q0S]
   refine tkH 23 (v := ?_) rfl ?_ ?_
   rotate_left
   ·(intro wq hSq; (try dsimp only at hSq); go_simp; try with_reducible rfl)
   try simp only [q0P, q0Q, q0R, q0S]
   refine wpAnyH_end (by kernel_rfl) ?_
   have HFIN : Hid (recs X g = pre) := by show _ = _; rw [hrec.out, recF_none hnx, List.append_nil]
   obtain rfl : E = k := by rw [HE.out]; unfold endR; rw [HFIN.out]; exact hlast.out
   clear hnx
   go_wp2
   go_ret2
   refine ⟨⟨_, rfl, ?_, fun z e => (hown.out.lt _ e).1⟩, hB.out.drew⟩
   rw [HFIN.out]
   exact (owns_drewS hown.out).reads
  have t1 : decide ((k : Int) + 13 ≤ (m : Int)) = true := decide_eq_true (by omega)
  have hkm : k < m := by omega
  obtain ⟨x, hx⟩ : ∃ x, X[k]? = some x := ⟨X[k]'(by rw [HXL.out]; exact hkm), List.getElem?_eq_getElem _⟩
  obtain ⟨Ak, hAk⟩ : ∃ a, a = A + k := ⟨_, rfl⟩
  have qx : wr.drew.cell? ⟨b, Ak, none⟩ = some (.int .u8 (x.toNat : Int)) := by
   have h1 := BG.out k hkm
   rw [hx, ← hAk] at h1
   exact HDr.out.drew.half.cell Ak x h1
  have hgx : X.getD k 0 = x := by rw [List.getD_eq_getElem?_getD, hx]; rfl
  have HGX := Lib.hid hgx
  have hwa : IntKind.i64.wrap ((A : Int) + (k : Int)) = (Ak : Int) := by rw [IntWalk.i64_in _ ⟨by omega, by omega⟩]; omega
  have hAkS : Ak < S := by omega
  have hAkS' : (Ak : Int) < (S : Int) := by omega
  have HAK := Lib.hid hAk
  clear hx hgx hAk
  by_cases a2 : x = 1
  case neg =>
   have hnx : nextR X g k = none := by unfold nextR; rw [if_neg]; rintro ⟨-, q, -⟩; rw [HGX.out] at q; exact a2 q
   have t2 : ((x.toNat : Int) == 1) = false := by
    rw [beq_eq_false_iff_ne]
    intro h
    exact a2 (UInt8.toNat_inj.1 (by show x.toNat = 1; omega))
   go_wp2_with fail
   refine wp_region_heldL (fun w' => w'.cell? ⟨p, 0, none⟩ = some (.int .i64 (m : Int)) ∧ w'.cell? ⟨p, 1, none⟩ = some (.slice (some ⟨b, 0, none⟩) S S) ∧ w'.cell? ⟨b, Ak, none⟩ = some (.int .u8 (x.toNat : Int))) (by kernel_rfl) ⟨q0, q1, qx⟩ (fun hS => ?_)
   refine tkH 0 (v := ?_) rfl ?_ ?_
   rotate_left
   ·(intro wq hSq; (try dsimp only at hSq); go_simp; try with_reducible rfl)
   try simp only [q0P, q0Q, q0R, q0S]
   refine tkH 1 (v := ?_) rfl ?_ ?_
   rotate_left
   ·(intro wq hSq; (try dsimp only at hSq); go_simp; try with_reducible rfl)
   try simp only [q0P, q0Q, q0R, q0S]
   refine tkH 2 (v := ?_) rfl ?_ ?_
   rotate_left
   ·(intro wq hSq; (try dsimp only at hSq); go_simp; try with_reducible rfl)
   try simp only [q0P, q0Q, q0R, q0S]
   refine tkH 3 (v := ?_) rfl ?_ ?_
   rotate_left
   ·(intro wq hSq; (try dsimp only at hSq); go_simp; try with_reducible rfl)
   try simp only [q0P, q0Q, q0R, q0S]
   refine tkH 4 (v := ?_) rfl ?_ ?_
   rotate_left
   ·(intro wq hSq; (try dsimp only at hSq); go_simp; try with_reducible rfl)
   try simp only [q0P, q0Q, q0R, q0S]
   refine tkH 5 (v := ?_) rfl ?_ ?_
   rotate_left
   ·(intro wq hSq; (try dsimp only at hSq); go_simp; try with_reducible rfl)
   try simp only [q0P, q0Q, q0R, q0S]
   refine tkH 6 (v := ?_) rfl ?_ ?_
   rotate_left
   ·(intro wq hSq; (try dsimp only at hSq); go_simp; try with_reducible rfl)
   try simp only [q0P, q0Q, q0R, q0S]
   refine tkH 7 (v := ?_) rfl ?_ ?_
   rotate_left
   ·(intro wq hSq; (try dsimp only at hSq); go_simp; try with_reducible rfl)
   try simp only [q0P, q0Q, q0R, q0S]
   refine tkH 8 (v := ?_) rfl ?_ ?_
   rotate_left
   ·(intro wq hSq; (try dsimp only at hSq); go_simp; try with_reducible rfl)
   try simp only [q0P, q0Q, q0R, q0S]
   refine tkH 9 (v := ?_) rfl ?_ ?_
   rotate_left
   ·(intro wq hSq; (try dsimp only at hSq); go_simp; try with_reducible rfl)
   try simp only [q0P, q0Q, q0R, q0S]
   refine tkH 10 (v := ?_) rfl ?_ ?_
   rotate_left
   ·(intro wq hSq; (try dsimp only at hSq); go_simp; try with_reducible rfl)
   try simp only [q0P, q0Q, q0R, q0S]
   refine tkH 11 (v := ?_) rfl ?_ ?_
   rotate_left
   ·(intro wq hSq; (try dsimp only at hSq); go_simp; try with_reducible rfl)
   try simp only [q0P, q0Q, q0R, q0S]
   refine tkH 12 (v := ?_) rfl ?_ ?_
   rotate_left
   ·(intro wq hSq; (try dsimp only at hSq); go_simp; try with_reducible rfl)
   try simp only [q0P, q0Q, q0R, q0S]
   refine tkH 13 (v := ?_) rfl ?_ ?_
   rotate_left
   ·(intro wq hSq; (try dsimp only at hSq); go_simp; try with_reducible rfl)
   try simp only [q0P, q0Q, q0R, q0S]
   refine tkH 14 (v := ?_) rfl ?_ ?_
   rotate_left
   ·(intro wq hSq; (try dsimp only at hSq); go_simp; try with_reducible rfl)
   try simp only [q0P, q0Q, q0R, q0S]
   refine tkH 15 (v := ?_) rfl ?_ ?_
   rotate_left
   ·(intro wq hSq; (try dsimp only at hSq); go_simp; try with_reducible rfl)
   try simp only [q0P, q0Q, q0R, q0S]
   refine tkH 16 (v := ?_) rfl ?_ ?_
   rotate_left
   ·(intro wq hSq; (try dsimp only at hSq); go_simp; try with_reducible rfl)
   try simp only [q0P, q0Q, q0R, q0S]
   refine tkH 17 (v := ?_) rfl ?_ ?_
   rotate_left
   ·(intro wq hSq; (try dsimp only at hSq); go_simp; try with_reducible rfl)
   try simp only [q0P, q0Q, q0R, q0S]
   refine tkH 18 (v := ?_) rfl ?_ ?_
   rotate_left
   ·(intro wq hSq; (try dsimp only at hSq); go_simp; try with_reducible rfl)
   try simp only [q0P, q0Q, q0R, q0S]
   refine tkH 19 (v := ?_) rfl ?_ ?_
   rotate_left
   ·(intro wq hSq; (try dsimp only at hSq); go_simp; try with_reducible rfl)
   try simp only [q0P, q0Q, q0R, q0S]
   refine tkH 20 (v := ?_) rfl ?_ ?_
   rotate_left
   ·(intro wq hSq; (try dsimp only at hSq); go_simp; try with_reducible rfl)
   try simp only [q0P, q0Q, q0R, q0S]
   refine tkH 21 (v := ?_) rfl ?_ ?_
   rotate_left
   ·(intro wq hSq; (try dsimp only at hSq); go_simp; try with_reducible rfl)
   try simp only [q0P, q0Q, q0R, q0S]
   refine tkH 22 (v := ?_) rfl ?_ ?_
   rotate_left
   ·(intro wq hSq; (try dsimp only at hSq); go_simp; try with_reducible rfl)
   try simp only [q0P, q0Q, q0R, q0S]
   refine tkH 23 (v := ?_) rfl ?_ ?_
   rotate_left
   ·(intro wq hSq; (try dsimp only at hSq); go_simp; try with_reducible rfl)
   try simp only [q0P, q0Q, q0R, q0S]
   refine wpAnyH_end (by kernel_rfl) ?_
   have HFIN : Hid (recs X g = pre) := by show _ = _; rw [hrec.out, recF_none hnx, List.append_nil]
   obtain rfl : E = k := by rw [HE.out]; unfold endR; rw [HFIN.out]; exact hlast.out
   clear hnx
   go_wp2
   go_ret2
   refine ⟨⟨_, rfl, ?_, fun z e => (hown.out.lt _ e).1⟩, hB.out.drew⟩
   rw [HFIN.out]
   exact (owns_drewS hown.out).reads
  have t2 : ((x.toNat : Int) == 1) = true := by rw [a2]; rfl
  obtain ⟨v, hv⟩ : ∃ v, v = numL ((X.drop (k + 1)).take 4) := ⟨_, rfl⟩
  have hl4 : ((X.drop (k + 1)).take 4).length = 4 := by rw [List.length_take, List.length_drop, HXL.out]; omega
  have hvl := numL_lt ((X.drop (k + 1)).take 4)
  have h256 : (256 : Nat) ^ 4 = 4294967296 := by simp
  rw [hl4, ← hv, h256] at hvl
  obtain ⟨St, hSt⟩ : ∃ a, a = Ak + 1 := ⟨_, rfl⟩
  have hSt' : St = A + (k + 1) := by have := HAK.out; omega
  have HNV := Lib.hid (HNUM.out wr.drew St HDr.out.drew (by omega))
  rw [hSt', BT.out (k + 1) 4 (by omega), ← hv, sgn_small v (by omega), ← hSt'] at HNV
  have hst1 : (Ak : Int) + 1 = (St : Int) := by omega
  have HV := Lib.hid hv
  have HST' := Lib.hid hSt'
  clear hl4 hv h256 hSt hSt'
  go_wp2_with fail
  refine wp_region_heldL (fun w' => w'.cell? ⟨p, 0, none⟩ = some (.int .i64 (m : Int)) ∧ w'.cell? ⟨p, 1, none⟩ = some (.slice (some ⟨b, 0, none⟩) S S) ∧ w'.cell? ⟨b, Ak, none⟩ = some (.int .u8 (x.toNat : Int))) (by kernel_rfl) ⟨q0, q1, qx⟩ (fun hS => ?_)
  refine tkH 0 (v := ?_) rfl ?_ ?_
  rotate_left
  ·(intro wq hSq; (try dsimp only at hSq); go_simp; try with_reducible rfl)
  try simp only [q0P, q0Q, q0R, q0S]
  refine tkH 1 (v := ?_) rfl ?_ ?_
  rotate_left
  ·(intro wq hSq; (try dsimp only at hSq); go_simp; try with_reducible rfl)
  try simp only [q0P, q0Q, q0R, q0S]
  refine tkH 2 (v := ?_) rfl ?_ ?_
  rotate_left
  ·(intro wq hSq; (try dsimp only at hSq); go_simp; try with_reducible rfl)
  try simp only [q0P, q0Q, q0R, q0S]
  refine tkH 3 (v := ?_) rfl ?_ ?_
  rotate_left
  ·(intro wq hSq; (try dsimp only at hSq); go_simp; try with_reducible rfl)
  try simp only [q0P, q0Q, q0R, q0S]
  refine tkH 4 (v := ?_) rfl ?_ ?_
  rotate_left
  ·(intro wq hSq; (try dsimp only at hSq); go_simp; try with_reducible rfl)
  try simp only [q0P, q0Q, q0R, q0S]
  refine tkH 5 (v := ?_) rfl ?_ ?_
  rotate_left
  ·(intro wq hSq; (try dsimp only at hSq); go_simp; try with_reducible rfl)
  try simp only [q0P, q0Q, q0R, q0S]
  refine tkH 6 (v := ?_) rfl ?_ ?_
  rotate_left
  ·(intro wq hSq; (try dsimp only at hSq); go_simp; try with_reducible rfl)
  try simp only [q0P, q0Q, q0R, q0S]
  refine tkH 7 (v := ?_) rfl ?_ ?_
  rotate_left
  ·(intro wq hSq; (try dsimp only at hSq); go_simp; try with_reducible rfl)
  try simp only [q0P, q0Q, q0R, q0S]
  refine tkH 8 (v := ?_) rfl ?_ ?_
  rotate_left
  ·(intro wq hSq; (try dsimp only at hSq); go_simp; try with_reducible rfl)
  try simp only [q0P, q0Q, q0R, q0S]
  refine tkH 9 (v := ?_) rfl ?_ ?_
  rotate_left
  ·(intro wq hSq; (try dsimp only at hSq); go_simp; try with_reducible rfl)
  try simp only [q0P, q0Q, q0R, q0S]
  refine tkH 10 (v := ?_) rfl ?_ ?_
  rotate_left
  ·(intro wq hSq; (try dsimp only at hSq); go_simp; try with_reducible rfl)
  try simp only [q0P, q0Q, q0R, q0S]
  refine tkH 11 (v := ?_) rfl ?_ ?_
  rotate_left
  ·(intro wq hSq; (try dsimp only at hSq); go_simp; try with_reducible rfl)
  try simp only [q0P, q0Q, q0R, q0S]
  refine tkH 12 (v := ?_) rfl ?_ ?_
  rotate_left
  ·(intro wq hSq; (try dsimp only at hSq); go_simp; try with_reducible rfl)
  try simp only [q0P, q0Q, q0R, q0S]
  refine tkH 13 (v := ?_) rfl ?_ ?_
  rotate_left
  ·(intro wq hSq; (try dsimp only at hSq); go_simp; try with_reducible rfl)
  try simp only [q0P, q0Q, q0R, q0S]
  refine tkH 14 (v := ?_) rfl ?_ ?_
  rotate_left
  ·(intro wq hSq; (try dsimp only at hSq); go_simp; try with_reducible rfl)
  try simp only [q0P, q0Q, q0R, q0S]
  refine tkH 15 (v := ?_) rfl ?_ ?_
  rotate_left
  ·(intro wq hSq; (try dsimp only at hSq); go_simp; try with_reducible rfl)
  try simp only [q0P, q0Q, q0R, q0S]
  refine tkH 16 (v := ?_) rfl ?_ ?_
  rotate_left
  ·(intro wq hSq; (try dsimp only at hSq); go_simp; try with_reducible rfl)
  try simp only [q0P, q0Q, q0R, q0S]
  refine tkH 17 (v := ?_) rfl ?_ ?_
  rotate_left
  ·(intro wq hSq; (try dsimp only at hSq); go_simp; try with_reducible rfl)
  try simp only [q0P, q0Q, q0R, q0S]
  refine tkH 18 (v := ?_) rfl ?_ ?_
  rotate_left
  ·(intro wq hSq; (try dsimp only at hSq); go_simp; try with_reducible rfl)
  try simp only [q0P, q0Q, q0R, q0S]
  refine tkH 19 (v := ?_) rfl ?_ ?_
  rotate_left
  ·(intro wq hSq; (try dsimp only at hSq); go_simp; try with_reducible rfl)
  try simp only [q0P, q0Q, q0R, q0S]
  refine tkH 20 (v := ?_) rfl ?_ ?_
  rotate_left
  ·(intro wq hSq; (try dsimp only at hSq); go_simp; try with_reducible rfl)
  try simp only [q0P, q0Q, q0R, q0S]
  refine tkH 21 (v := ?_) rfl ?_ ?_
  rotate_left
  ·(intro wq hSq; (try dsimp only at hSq); go_simp; try with_reducible rfl)
  try simp only [q0P, q0Q, q0R, q0S]
  refine tkH 22 (v := ?_) rfl ?_ ?_
  rotate_left
  ·(intro wq hSq; (try dsimp only at hSq); go_simp; try with_reducible rfl)
  try simp only [q0P, q0Q, q0R, q0S]
  refine tkH 23 (v := ?_) rfl ?_ ?_
  rotate_left
  ·(intro wq hSq; (try dsimp only at hSq); go_simp; try with_reducible rfl)
  try simp only [q0P, q0Q, q0R, q0S]
  refine wpAnyH_end (by kernel_rfl) ?_
  go_wp2_with fail
  refine HNV.out.mono ?_
  rintro e w5 ⟨rfl, rfl⟩
  by_cases a3 : v ≤ 65535
  case neg =>
   have hnx : nextR X g k = none := by unfold nextR; rw [if_neg]; rintro ⟨-, -, q, -⟩; rw [← HV.out] at q; exact a3 q
   have t3 : (65535 : Int) < (v : Int) := by omega
   have HFIN : Hid (recs X g = pre) := by show _ = _; rw [hrec.out, recF_none hnx, List.append_nil]
   obtain rfl : E = k := by rw [HE.out]; unfold endR; rw [HFIN.out]; exact hlast.out
   clear hnx
   go_wp2
   go_ret2
   refine ⟨⟨_, rfl, ?_, fun z e => (hown.out.lt _ e).1⟩, hB.out.drew⟩
   rw [HFIN.out]
   exact (owns_drewS hown.out).reads
  have t3 : ¬ (65535 : Int) < (v : Int) := by omega
  by_cases a4 : k + 13 + v ≤ m
  case neg =>
   have hnx : nextR X g k = none := by unfold nextR; rw [if_neg]; rintro ⟨-, -, -, q, -⟩; rw [← HV.out, HXL.out] at q; exact a4 q
   have t4 : (m : Int) < (k : Int) + 13 + (v : Int) := by omega
   have HFIN : Hid (recs X g = pre) := by show _ = _; rw [hrec.out, recF_none hnx, List.append_nil]
   obtain rfl : E = k := by rw [HE.out]; unfold endR; rw [HFIN.out]; exact hlast.out
   clear hnx
   go_wp2
   go_ret2
   refine ⟨⟨_, rfl, ?_, fun z e => (hown.out.lt _ e).1⟩, hB.out.drew⟩
   rw [HFIN.out]
   exact (owns_drewS hown.out).reads
  have t4 : ¬ (m : Int) < (k : Int) + 13 + (v : Int) := by omega
  obtain ⟨data, hdata⟩ : ∃ d, d = (X.drop (k + 5)).take v := ⟨_, rfl⟩
  have hdl : data.length = v := by rw [hdata, List.length_take, List.length_drop, HXL.out]; omega
  obtain ⟨St4, hSt4⟩ : ∃ a, a = St + 4 := ⟨_, rfl⟩
  obtain ⟨Sv, hSv⟩ : ∃ a, a = St + 4 + v := ⟨_, rfl⟩
  obtain ⟨S12, hS12⟩ : ∃ a, a = St + 12 := ⟨_, rfl⟩
  obtain ⟨Se, hSe⟩ : ∃ a, a = St + 12 + v := ⟨_, rfl⟩
  have hSA : St = Ak + 1 := by omega
  have hAA : Ak = A + k := HAK.out
  have ht5 : ∀ c, (convert 54 9 (.slice (some ⟨b, St4, none⟩) v c)).run Tryz.prog wr.drew = .ok (.string (bytesOf data)) wr.drew := fun c => by
   have h1 := HTX.out wr.drew HDr.out.drew St4 v c (by omega)
   rw [show St4 = A + (k + 5) by omega, BT.out (k + 5) v (by omega), ← hdata] at h1
   rw [show St4 = A + (k + 5) by omega]
   exact h1
  obtain ⟨tail, htail⟩ : ∃ d, d = (X.drop (k + 1)).take (12 + v) := ⟨_, rfl⟩
  have HT1 : Hid (∀ W, RDiskAt W p b d → ∀ c, (convert 54 9 (.slice (some ⟨b, St, none⟩) (12 + v) c)).run Tryz.prog W = .ok (.string (bytesOf tail)) W) := fun W hW c => by
   have h1 := HTX.out W hW St (12 + v) c (by omega)
   rw [show St = A + (k + 1) by omega, BT.out (k + 1) (12 + v) (by omega), ← htail] at h1
   rw [show St = A + (k + 1) by omega]
   exact h1
  have s1 : (St : Int) + 4 = (St4 : Int) := by omega
  have s2 : (St4 : Int) + (v : Int) = (Sv : Int) := by omega
  have s3 : St4 ≤ Sv := by omega
  have s4 : Sv ≤ S := by omega
  have s5 : Sv - St4 = v := by omega
  have s6 : ¬ S = St4 := by omega
  have s7 : IntKind.i64.wrap ((St : Int) + 12) = (S12 : Int) := by rw [IntWalk.i64_in _ ⟨by omega, by omega⟩]; omega
  have s8 : IntKind.i64.wrap ((S12 : Int) + (v : Int)) = (Se : Int) := by rw [IntWalk.i64_in _ ⟨by omega, by omega⟩]; omega
  have s9 : St ≤ Se := by omega
  have s10 : Se ≤ S := by omega
  have s11 : Se - St = 12 + v := by omega
  have s12 : ¬ S = St := by omega
  have s13 : (St4 : Int) ≤ (Sv : Int) := by omega
  have s14 : (Sv : Int) ≤ (S : Int) := by omega
  have s15 : (St : Int) ≤ (Se : Int) := by omega
  have s16 : (Se : Int) ≤ (S : Int) := by omega
  have HDT := Lib.hid hdata
  have HTL := Lib.hid htail
  have HDL := Lib.hid hdl
  clear hdata htail hdl hSt4 hSv hS12 hSe hSA hAA
  have hnx0 : Hid (tail = bodyL g k data → nextR X g k = some (k + 13 + v, data)) := fun h => by
   unfold nextR
   rw [← HV.out, ← HDT.out, ← HTL.out, HXL.out, if_pos ⟨a1, by rw [HGX.out]; exact a2, a3, a4, h⟩]
  have hnx1 : Hid (¬ tail = bodyL g k data → nextR X g k = none) := fun h => by
   unfold nextR
   rw [if_neg]
   rintro ⟨-, -, -, -, q⟩
   rw [← HV.out, ← HDT.out, ← HTL.out] at q
   exact h q
  have hcv6 := HT1.out wr.drew.drew HDr.out.drew.drew
  have q1' : wr.drew.drew.cell? ⟨p, 1, none⟩ = some (.slice (some ⟨b, 0, none⟩) S S) := q1
  have hb3 : Hid (v ≤ 65535) := a3
  go_wp2_with fail
  refine wp_region_heldL (fun w' => w'.cell? ⟨p, 1, none⟩ = some (.slice (some ⟨b, 0, none⟩) S S) ∧ ∀ c, (convert 54 9 (.slice (some ⟨b, St, none⟩) (12 + v) c)).run Tryz.prog w' = .ok (.string (bytesOf tail)) w') (by kernel_rfl) ⟨q1', hcv6⟩ (fun hS => ?_)
  refine tkH 0 (v := ?_) rfl ?_ ?_
  rotate_left
  ·(intro wq hSq; (try dsimp only at hSq); go_simp; try with_reducible rfl)
  try simp only [q0P, q0Q, q0R, q0S]
  refine tkH 1 (v := ?_) rfl ?_ ?_
  rotate_left
  ·(intro wq hSq; (try dsimp only at hSq); go_simp; try with_reducible rfl)
  try simp only [q0P, q0Q, q0R, q0S]
  refine tkH 2 (v := ?_) rfl ?_ ?_
  rotate_left
  ·(intro wq hSq; (try dsimp only at hSq); go_simp; try with_reducible rfl)
  try simp only [q0P, q0Q, q0R, q0S]
  refine tkH 3 (v := ?_) rfl ?_ ?_
  rotate_left
  ·(intro wq hSq; (try dsimp only at hSq); go_simp; try with_reducible rfl)
  try simp only [q0P, q0Q, q0R, q0S]
  refine tkH 4 (v := ?_) rfl ?_ ?_
  rotate_left
  ·(intro wq hSq; (try dsimp only at hSq); go_simp; try with_reducible rfl)
  try simp only [q0P, q0Q, q0R, q0S]
  refine tkH 5 (v := ?_) rfl ?_ ?_
  rotate_left
  ·(intro wq hSq; (try dsimp only at hSq); go_simp; try with_reducible rfl)
  try simp only [q0P, q0Q, q0R, q0S]
  refine tkH 6 (v := ?_) rfl ?_ ?_
  rotate_left
  ·(intro wq hSq; (try dsimp only at hSq); go_simp; try with_reducible rfl)
  try simp only [q0P, q0Q, q0R, q0S]
  refine tkH 7 (v := ?_) rfl ?_ ?_
  rotate_left
  ·(intro wq hSq; (try dsimp only at hSq); go_simp; try with_reducible rfl)
  try simp only [q0P, q0Q, q0R, q0S]
  refine tkH 8 (v := ?_) rfl ?_ ?_
  rotate_left
  ·(intro wq hSq; (try dsimp only at hSq); go_simp; try with_reducible rfl)
  try simp only [q0P, q0Q, q0R, q0S]
  refine tkH 9 (v := ?_) rfl ?_ ?_
  rotate_left
  ·(intro wq hSq; (try dsimp only at hSq); go_simp; try with_reducible rfl)
  try simp only [q0P, q0Q, q0R, q0S]
  refine tkH 10 (v := ?_) rfl ?_ ?_
  rotate_left
  ·(intro wq hSq; (try dsimp only at hSq); go_simp; try with_reducible rfl)
  try simp only [q0P, q0Q, q0R, q0S]
  refine tkH 11 (v := ?_) rfl ?_ ?_
  rotate_left
  ·(intro wq hSq; (try dsimp only at hSq); go_simp; try with_reducible rfl)
  try simp only [q0P, q0Q, q0R, q0S]
  refine tkH 12 (v := ?_) rfl ?_ ?_
  rotate_left
  ·(intro wq hSq; (try dsimp only at hSq); go_simp; try with_reducible rfl)
  try simp only [q0P, q0Q, q0R, q0S]
  refine tkH 13 (v := ?_) rfl ?_ ?_
  rotate_left
  ·(intro wq hSq; (try dsimp only at hSq); go_simp; try with_reducible rfl)
  try simp only [q0P, q0Q, q0R, q0S]
  refine wpAnyH_stepL 14 (by kernel_rfl) rfl (fun K hK => ?_)
  go_simp
  go_at_call 93
  refine (rbody_any g k data hg (by omega) (by have := HDL.out; omega) _).mono ?_
  rintro e w6 ⟨rfl, hb6d⟩
  have hb6 : Below wr.heap.size wr w6 := (((Below.refl wr.heap.size wr).drew).drew).trans hb6d
  have hD6 := HDr.out.kept hb6
  refine hK.out _ _ ⟨HK1.out w6 hD6, HT1.out w6 hD6⟩ (fun hS6 => ?_)
  have HB6 := Lib.hid (hB.out.trans (hb6.mono hz))
  have HO6 := Lib.hid (hown.out.below hb6)
  have hz6 := hb6.size
  clear hK K hS
  try simp only [q0P, q0Q, q0R, q0S]
  by_cases a5 : tail = bodyL g k data
  case neg =>
   have t5 := str_bne (bytesOf tail) (bytesOf (bodyL g k data)) (fun h => a5 (bytesOf_inj h))
   have hnx := hnx1.out a5
   refine tkH 15 (v := ?_) rfl ?_ ?_
   rotate_left
   ·(intro wq hSq; (try dsimp only at hSq); go_simp; try with_reducible rfl)
   try simp only [q0P, q0Q, q0R, q0S]
   refine wpAnyH_end (by kernel_rfl) ?_
   have HFIN : Hid (recs X g = pre) := by show _ = _; rw [hrec.out, recF_none hnx, List.append_nil]
   obtain rfl : E = k := by rw [HE.out]; unfold endR; rw [HFIN.out]; exact hlast.out
   clear hnx
   go_wp2
   go_ret2
   refine ⟨⟨_, rfl, ?_, fun z e => (hown.out.lt _ e).1⟩, HB6.out⟩
   rw [HFIN.out]
   exact HO6.out.reads
  have t5 := str_beq (bytesOf tail) (bytesOf (bodyL g k data)) (by rw [a5])
  have HNX := Lib.hid (hnx0.out a5)
  refine tkH 15 (v := ?_) rfl ?_ ?_
  rotate_left
  ·(intro wq hSq; (try dsimp only at hSq); go_simp; try with_reducible rfl)
  try simp only [q0P, q0Q, q0R, q0S]
  refine wpAnyH_end (by kernel_rfl) ?_
  go_wp2_with (at_builtin; refine wpList_append1 (W := w6) rfl (.tmp 90) (.tmp 92) 70 rfl w.heap.size 9 i0 (.string ByteArray.empty) 16 Tryz.underlying70 hi0 hiz hiz1 hizb rfl (.slice va L vc) L ((pre.map (·.2)).map strV) rfl HO6.out (.string (bytesOf data)) w6.heap.size rfl rfl rfl (by unfold maxLen; omega) (by omega) (by omega) ?_; intro v7 w7 hown7 hg7a hg7 hz7; have HO7 := Lib.hid hown7; obtain ⟨g7, q7, rfl⟩ := hown7.succ; have HB7 := Lib.hid (HB6.out.trans (below_grown HO6.out hg7 w.heap.size (Nat.le_refl _) (by omega))); clear hown7 hg7a hg7)
  go_roundw
  case rel =>
   obtain ⟨f', rfl⟩ : ∃ f', f = f' + 1 := ⟨f - 1, by omega⟩
   refine ⟨k + 13 + v, f', pre ++ [(k + 13 + v, data)], some ⟨g7, 0, none⟩, L + 1, q7, by go_num, rfl, by omega, by omega, by omega, ?_, ?_, lastE_snoc _ _, ?_, HB7.out⟩
   ·show (pre ++ _).length = _
    rw [List.length_append, hpl.out]; rfl
   ·show _ = _
    rw [hrec.out, recF_some HNX.out]; simp
   ·show w7.owns _ _ _ _ _ _
    rw [List.map_append, List.map_append]
    exact HO7.out
  case measure => simp [intOf]; omega
end
/- Walks: the reference's disk: its records and its size. -/
section
open Go.RowKit Go.Shelf
/-- The active half's number. -/
theorem act_hf {d : Dk} (half : Nat) (h : d.half = (half : Int)) (hh : half ≤ 1) : d.act = d.hf half := by
 unfold Dk.act Dk.hf
 rw [h]
 rcases (show half = 0 ∨ half = 1 by omega) with rfl | rfl <;> rfl
theorem half_nat {d : Dk} : d.half = -1 ∨ ∃ half : Nat, d.half = (half : Int) ∧ half ≤ 1 := by
 rcases d.half_cases with h | h | h
 ·exact .inl h
 ·exact .inr ⟨0, h, by omega⟩
 ·exact .inr ⟨1, h, by omega⟩
theorem rRecords_any (p b : Nat) (d : Dk) (w : World) (hd : RDiskAt w p b d) (ho : d.ok) :
  Calls Tryz.prog 44 #[.pointer (some ⟨p, 0, none⟩)] w fun e w' => (∃ v, e = .returned (.tuple #[v, .int .i64 d.seenErr]) ∧ w'.reads w'.heap.size v (d.texts.map strV) ∧ (∀ k, v.ownBlock = some k → w.heap.size ≤ k)) ∧ Below w.heap.size w w' := by
 have HACT := Lib.hid (ractive_any p b d w hd ho)
 have HREC := Lib.hid (fun (half : Nat) (hh : half ≤ 1) W (h : RDiskAt W p b d) => rrecords_any p b half d.gen hh d.gen_lt d W h ho)
 obtain ⟨x, hx⟩ : ∃ x, x = d.half := ⟨_, rfl⟩
 obtain ⟨y, hy⟩ : ∃ y, y = d.gen := ⟨_, rfl⟩
 obtain ⟨r, hr⟩ : ∃ r, r = d.seenErr := ⟨_, rfl⟩
 rw [← hx, ← hy] at HACT
 rw [← hy] at HREC
 rw [← hr]
 have HX := Lib.hid hx
 have HY := Lib.hid hy
 have HR := Lib.hid hr
 have HD := Lib.hid hd
 have hc := half_nat (d := d)
 rw [← hx] at hc
 clear hx hy hr hd ho
 go_enter Tryz.func44, Tryz.ntmps44
 go_wp2_with fail
 refine HACT.out.mono ?_
 rintro e w2 ⟨rfl, hb2⟩
 have HD2 := Lib.hid (HD.out.kept hb2)
 have hz2 := hb2.size
 rcases hc with rfl | ⟨half, rfl, hh⟩
 ·obtain rfl : r = 4 := by rw [HR.out]; unfold Dk.seenErr; rw [← HX.out]; rfl
  have ht : Hid (d.texts = []) := by show _ = _; unfold Dk.texts; rw [← HX.out]; rfl
  go_wp2
  go_ret2
  refine ⟨⟨_, rfl, ?_, fun k e => by simp [Value.ownBlock] at e⟩, hb2⟩
  rw [ht.out]
  exact reads_nil _ _
 ·have hneg : ¬ (half : Int) < 0 := by omega
  obtain rfl : r = 0 := by rw [HR.out]; unfold Dk.seenErr; rw [← HX.out, if_neg hneg]
  have ht : Hid (d.texts = (recs (d.hf half) y).map (·.2)) := by show _ = _; unfold Dk.texts; rw [← HX.out, if_neg hneg, act_hf half HX.out.symm hh, HY.out]
  go_wp2_with fail
  refine (HREC.out half hh _ HD2.out).mono ?_
  rintro e w3 ⟨⟨v, rfl, hr3, hv3⟩, hb3⟩
  have HR3 := Lib.hid hr3
  have HV3 := Lib.hid hv3
  clear hr3 hv3
  go_wp2
  go_ret2
  refine ⟨⟨_, rfl, ?_, fun k e => Nat.le_trans hz2 (HV3.out k e)⟩, hb2.trans (hb3.mono hz2)⟩
  rw [ht.out]
  exact HR3.out
end
/- Walks: the reference's disk: a record is added. -/
section
open Go.RowKit Go.Shelf
theorem putS_low (rest : List UInt8) : ∀ (s : List UInt8) (st : Wr) (k : Nat), k + s.length ≤ st.h.length → putS ⟨st.h ++ rest, st.fuse, st.failed⟩ k s = ⟨(putS st k s).h ++ rest, (putS st k s).fuse, (putS st k s).failed⟩ := by
 intro s
 induction s with
 | nil => intro st k _; rfl
 | cons c s ih =>
  intro st k hk
  rw [List.length_cons] at hk
  by_cases hb : st.failed = true ∨ st.fuse = 0
  ·rw [putS_stop (by simp) hb, putS_stop (st := ⟨st.h ++ rest, st.fuse, st.failed⟩) (by simp) hb]
  ·rw [putS_step hb, putS_step (st := ⟨st.h ++ rest, st.fuse, st.failed⟩) hb]
   have := ih ⟨st.h.set k c, if 0 < st.fuse then st.fuse - 1 else st.fuse, false⟩ (k + 1) (by simp; omega)
   rw [← this]
   simp only
   rw [List.set_append_left _ _ (by omega)]
theorem putS_high (pre : List UInt8) : ∀ (s : List UInt8) (st : Wr) (k : Nat), putS ⟨pre ++ st.h, st.fuse, st.failed⟩ (pre.length + k) s = ⟨pre ++ (putS st k s).h, (putS st k s).fuse, (putS st k s).failed⟩ := by
 intro s
 induction s with
 | nil => intro st k; rfl
 | cons c s ih =>
  intro st k
  by_cases hb : st.failed = true ∨ st.fuse = 0
  ·rw [putS_stop (by simp) hb, putS_stop (st := ⟨pre ++ st.h, st.fuse, st.failed⟩) (by simp) hb]
  ·rw [putS_step hb, putS_step (st := ⟨pre ++ st.h, st.fuse, st.failed⟩) hb]
   have := ih ⟨st.h.set k c, if 0 < st.fuse then st.fuse - 1 else st.fuse, false⟩ (k + 1)
   rw [← this]
   simp only
   rw [List.set_append_right _ _ (by omega), Nat.add_sub_cancel_left, Nat.add_assoc]
def lift (d : Dk) (half : Nat) (st : Wr) : Wr := if half = 1 then ⟨d.h0 ++ st.h, st.fuse, st.failed⟩ else ⟨st.h ++ d.h1, st.fuse, st.failed⟩
theorem lift_put {d : Dk} (ho : d.ok) (half : Nat) (hh : half ≤ 1) (st : Wr) (k : Nat) (s : List UInt8) (hl : st.h.length = d.size) (hk : k + s.length ≤ d.size) : putS (lift d half st) (half * d.size + k) s = lift d half (putS st k s) := by
 rcases (show half = 0 ∨ half = 1 by omega) with rfl | rfl
 ·have := putS_low d.h1 s st k (by omega)
  unfold lift
  rw [if_neg (by omega), if_neg (by omega), Nat.zero_mul, Nat.zero_add]
  exact this
 ·have := putS_high d.h0 s st k
  unfold lift
  rw [if_pos rfl, if_pos rfl, Nat.one_mul]
  rw [ho.l0] at this
  exact this
/-- The reference's disk while bytes are written to a half. -/
structure RPen (w0 : World) (p b half : Nat) (d : Dk) (st : Wr) (w : World) : Prop where
 wr : RWrAt w p b d.size (2 * d.size) (lift d half st)
 len : st.h.length = d.size
 kp : Kp (two p b) w0 w
theorem RPen.below {w0 w w' : World} {p b half : Nat} {d : Dk} {st : Wr} (h : RPen w0 p b half d st w) (hb : Below w.heap.size w w') : RPen w0 p b half d st w' :=
 ⟨h.wr.below hb, h.len, h.kp.trans (Kp.of_below hb)⟩
theorem RPen.call {w0 w : World} {p b half : Nat} {d : Dk} {st : Wr} (h : RPen w0 p b half d st w) (ho : d.ok) (hh : half ≤ 1) (k : Nat) (s : List UInt8) (hk : k + s.length ≤ d.size) :
  Calls Tryz.prog 92 #[.pointer (some ⟨p, 0, none⟩), .int .i64 ((half * d.size + k : Nat) : Int), .string (bytesOf s)] w fun e w' => (∃ v, e = .returned v) ∧ RPen w0 p b half d (putS st k s) w' := by
 have hs : half * d.size ≤ d.size := by rcases (show half = 0 ∨ half = 1 by omega) with rfl | rfl <;> omega
 refine (rwrite_any p b d.size (2 * d.size) (half * d.size + k) (lift d half st) s (by omega) (by have := ho.hi; omega) w h.wr).mono ?_
 rintro e w' ⟨he, hw, hkp⟩
 rw [lift_put ho half hh st k s h.len hk] at hw
 exact ⟨he, hw, by rw [putS_length]; exact h.len, h.kp.trans hkp⟩
theorem RPen.start {w : World} {p b half : Nat} {d : Dk} (h : RDiskAt w p b d) (ho : d.ok) : RPen w p b half d ⟨d.hf half, d.fuse, d.failed⟩ w := by
 have e : lift d half ⟨d.hf half, d.fuse, d.failed⟩ = ⟨d.h0 ++ d.h1, d.fuse, d.failed⟩ := by unfold lift Dk.hf; split <;> rfl
 refine ⟨?_, hf_length ho half, Kp.refl _ _⟩
 rw [e]
 exact ⟨h.at_, h.half, both_length ho, h.ne, ho.f1, ho.f2⟩
theorem RPen.stop {w0 w : World} {p b half : Nat} {d : Dk} {st : Wr} (h : RPen w0 p b half d st w) (hh : half ≤ 1) : RDiskAt w p b (d.put (half : Int) st) := by
 have h1 := h.wr
 unfold lift at h1
 unfold Dk.put
 rcases (show half = 0 ∨ half = 1 by omega) with rfl | rfl
 ·rw [if_neg (by omega)] at h1 ⊢
  exact ⟨h1.at_, h1.half, h1.ne⟩
 ·rw [if_pos rfl] at h1
  rw [if_pos (show ((1 : Nat) : Int) = 1 from rfl)]
  exact ⟨h1.at_, h1.half, h1.ne⟩
theorem RPen.size {w0 w : World} {p b half : Nat} {d : Dk} {st : Wr} (h : RPen w0 p b half d st w) : w.cell? ⟨p, 0, none⟩ = some (.int .i64 (d.size : Int)) := (four_cells h.wr.at_).1
theorem rAppend_any (p b : Nat) (d : Dk) (r : List UInt8) (hrm : r.length ≤ 100000000) (w : World) (hd : RDiskAt w p b d) (ho : d.ok) :
  Calls Tryz.prog 42 #[.pointer (some ⟨p, 0, none⟩), .string (bytesOf r)] w fun e w' => e = .returned (.int .i64 (d.appended r).1) ∧ RDiskAt w' p b (d.appended r).2 ∧ Kp (two p b) w w' := by
 have HACT := Lib.hid (ractive_any p b d w hd ho)
 have HREC := Lib.hid (fun (half : Nat) (hh : half ≤ 1) W (h : RDiskAt W p b d) => rrecords_any p b half d.gen hh d.gen_lt d W h ho)
 obtain ⟨k0, -, -, k3, -, -⟩ := four_cells hd.at_
 have HD := Lib.hid hd
 have HO := Lib.hid ho
 obtain ⟨E, hE⟩ : ∃ E, E = (appS d.wr d.size d.gen d.used r).err := ⟨_, rfl⟩
 have HRES : Hid (∀ W, RDiskAt W p b (d.put d.half (appS d.wr d.size d.gen d.used r)) → Calls Tryz.prog 94 #[.pointer (some ⟨p, 0, none⟩)] W fun e w' => e = .returned (.int .i64 E) ∧ W = w') := fun W h => by
  refine (rresult_any p b _ W h).mono ?_
  rintro e w' ⟨rfl, rfl⟩
  refine ⟨?_, rfl⟩
  rw [hE, show (d.put d.half (appS d.wr d.size d.gen d.used r)).failed = (appS d.wr d.size d.gen d.used r).failed by unfold Dk.put; split <;> rfl]
  rfl
 obtain ⟨R, hR⟩ : ∃ R, R = d.appended r := ⟨_, rfl⟩
 rw [← hR]
 unfold Dk.appended at hR
 rw [← hE] at hR
 clear hE
 obtain ⟨n, hn⟩ : ∃ n, n = r.length := ⟨_, rfl⟩
 have hs : (bytesOf r).size = n := by rw [hn]; rfl
 have hs1 : ((bytesOf r).size : Int) = (n : Int) := by rw [hs]
 rw [← hn] at hR hrm
 have HN := Lib.hid hn
 have HRR := Lib.hid hR
 have h64 := ho.lo
 have hmx := ho.hi
 clear hd ho hR hn
 cases hfd : d.failed
 case true =>
  rw [hfd] at k3
  have hRe : R = (9, d) := by rw [HRR.out, if_pos hfd]
  go_enter Tryz.func42, Tryz.ntmps42
  go_wp2
  go_ret
  rw [hRe]
  exact ⟨rfl, HD.out, Kp.refl _ _⟩
 case false =>
 rw [hfd] at k3
 have hnf : ¬ d.failed = true := by rw [hfd]; simp
 by_cases hlong : 65535 < n
 ·have hRe : R = (3, d) := by rw [HRR.out, if_neg hnf, if_pos hlong]
  have hl1 : (65535 : Int) < (n : Int) := by omega
  have HRE := Lib.hid hRe
  clear hRe hfd
  go_enter Tryz.func42, Tryz.ntmps42
  go_wp2
  go_ret
  rw [HRE.out]
  exact ⟨rfl, HD.out, Kp.refl _ _⟩
 have hl1 : ¬ (65535 : Int) < (n : Int) := by omega
 rw [if_neg hnf, if_neg hlong] at HRR
 clear hfd hnf
 obtain ⟨x, hx⟩ : ∃ x, x = d.half := ⟨_, rfl⟩
 obtain ⟨y, hy⟩ : ∃ y, y = d.gen := ⟨_, rfl⟩
 obtain ⟨u, hu⟩ : ∃ u, u = d.used := ⟨_, rfl⟩
 rw [← hx, ← hy] at HACT
 rw [← hy] at HREC
 rw [← hx, ← hy, ← hu] at HRR HRES
 have hyl : y < 9223372036854775808 := by rw [hy]; exact d.gen_lt
 have HX := Lib.hid hx
 have HY := Lib.hid hy
 have HU := Lib.hid hu
 have hc := half_nat (d := d)
 rw [← hx] at hc
 clear hx hy hu
 go_enter Tryz.func42, Tryz.ntmps42
 go_wp2_with fail
 refine HACT.out.mono ?_
 rintro e w2 ⟨rfl, hb2⟩
 have HD2 := Lib.hid (HD.out.kept hb2)
 clear k3 k0
 rcases hc with rfl | ⟨half, rfl, hh⟩
 ·rw [if_pos (by omega)] at HRR
  go_wp2
  go_ret
  rw [HRR.out]
  exact ⟨rfl, HD2.out, Kp.of_below hb2⟩
 have hneg : ¬ (half : Int) < 0 := by omega
 rw [if_neg hneg] at HRR
 have HUE : Hid (u = endR (d.hf half) y) := by show _ = _; rw [HU.out]; unfold Dk.used; rw [← HX.out, if_neg hneg, act_hf half HX.out.symm hh, HY.out]
 have HC := Lib.hid (HREC.out half hh w2 HD2.out)
 rw [← HUE.out] at HC
 have hub : 17 ≤ u ∧ u ≤ d.size := by
  have := endR_bounds (h := d.hf half) y (by rw [hf_length HO.out half]; exact h64)
  rw [← HUE.out, hf_length HO.out half] at this
  exact this
 obtain ⟨hu1, hu2⟩ := hub
 go_wp2_with fail
 refine HC.out.mono ?_
 rintro e w3 ⟨⟨v, rfl, -, -⟩, hb3d⟩
 have hb3 := hb2.trans (hb3d.mono hb2.size)
 have HD3 := Lib.hid (HD.out.kept hb3)
 obtain ⟨k0, -, -, -, -, -⟩ := four_cells HD3.out.at_
 obtain ⟨m, hm⟩ : ∃ m, m = d.size := ⟨_, rfl⟩
 rw [← hm] at h64 hmx hu2 k0 HRR HRES
 by_cases hfull : m < u + 13 + n
 ·rw [if_pos hfull] at HRR
  have hf1 : (m : Int) < (u : Int) + 13 + (n : Int) := by omega
  clear hm
  go_wp2
  go_ret
  rw [HRR.out]
  exact ⟨rfl, HD3.out, Kp.of_below hb3⟩
 rw [if_neg hfull] at HRR
 have hf1 : ¬ (m : Int) < (u : Int) + 13 + (n : Int) := by omega
 have hf2 : u + 13 + n ≤ m := by omega
 obtain ⟨A, hA⟩ : ∃ A, A = half * m := ⟨_, rfl⟩
 have hmul : (half : Int) * (m : Int) = (A : Int) := by rw [hA]; push_cast; rfl
 have hAm : A ≤ m := by rw [hA]; rcases (show half = 0 ∨ half = 1 by omega) with rfl | rfl <;> omega
 have HP3 : Hid (RPen w3 p b half d ⟨d.hf half, d.fuse, d.failed⟩ w3) := RPen.start HD3.out HO.out
 have HCALL : Hid (∀ (st : Wr) (W : World), RPen w3 p b half d st W → ∀ (k : Nat) (s : List UInt8) (z : Int), k + s.length ≤ m → z = (A : Int) + (k : Int) → Calls Tryz.prog 92 #[.pointer (some ⟨p, 0, none⟩), .int .i64 z, .string (bytesOf s)] W fun e w' => (∃ v, e = .returned v) ∧ RPen w3 p b half d (putS st k s) w') := fun st W h k s z hk hz => by
  have := h.call HO.out hh k s (by omega)
  rw [← hm, ← hA, Int.natCast_add, ← hz] at this; exact this
 have HSZ : Hid (∀ (st : Wr) (W : World), RPen w3 p b half d st W → W.cell? ⟨p, 0, none⟩ = some (.int .i64 (m : Int))) := fun st W h => by rw [hm]; exact h.size
 have HSM := Lib.hid hm
 clear hm hA hfull
 go_wp2_with fail
 refine (HCALL.out _ _ HP3.out u [0] _ (by simp; omega) (by omega)).mono ?_
 rintro e w5 ⟨⟨v5, rfl⟩, hp5⟩
 have HP5 := Lib.hid hp5
 clear hp5 HP3 k0
 have k0 := HSZ.out _ _ HP5.out
 obtain ⟨Au, hAu⟩ : ∃ a, a = A + u := ⟨_, rfl⟩
 obtain ⟨Au1, hAu1⟩ : ∃ a, a = A + (u + 1) := ⟨_, rfl⟩
 have hwm : IntKind.i64.wrap (A : Int) = (A : Int) := IntWalk.i64_in _ ⟨by omega, by omega⟩
 have hwu : IntKind.i64.wrap ((A : Int) + (u : Int)) = (Au : Int) := by rw [IntWalk.i64_in _ ⟨by omega, by omega⟩]; omega
 have hwu1 : IntKind.i64.wrap ((Au : Int) + 1) = (Au1 : Int) := by rw [IntWalk.i64_in _ ⟨by omega, by omega⟩]; omega
 have HAU := Lib.hid hAu1
 have HAU0 := Lib.hid hAu
 clear hAu hAu1
 by_cases hnx : u + 13 + n < m
 ·have hf3 : (u : Int) + 13 + (n : Int) < (m : Int) := by omega
  go_wp2_with fail
  refine (HCALL.out _ _ HP5.out (u + 13 + n) [0] _ (by simp; omega) (by omega)).mono ?_
  rintro e w6 ⟨⟨v6, rfl⟩, hp6⟩
  have HP6 := Lib.hid hp6
  clear hp6 HP5 k0
  have k0 := HSZ.out _ _ HP6.out
  go_wp2_with fail
  refine wp_region_heldL (fun w' => w'.cell? ⟨p, 0, none⟩ = some (.int .i64 (m : Int))) (by kernel_rfl) k0 (fun hS => ?_)
  refine tkH 0 (v := ?_) rfl ?_ ?_
  rotate_left
  ·(intro wq hSq; (try dsimp only at hSq); go_simp; try with_reducible rfl)
  try simp only [q0P, q0Q, q0R, q0S]
  refine tkH 1 (v := ?_) rfl ?_ ?_
  rotate_left
  ·(intro wq hSq; (try dsimp only at hSq); go_simp; try with_reducible rfl)
  try simp only [q0P, q0Q, q0R, q0S]
  refine tkH 2 (v := ?_) rfl ?_ ?_
  rotate_left
  ·(intro wq hSq; (try dsimp only at hSq); go_simp; try with_reducible rfl)
  try simp only [q0P, q0Q, q0R, q0S]
  refine tkH 3 (v := ?_) rfl ?_ ?_
  rotate_left
  ·(intro wq hSq; (try dsimp only at hSq); go_simp; try with_reducible rfl)
  try simp only [q0P, q0Q, q0R, q0S]
  refine tkH 4 (v := ?_) rfl ?_ ?_
  rotate_left
  ·(intro wq hSq; (try dsimp only at hSq); go_simp; try with_reducible rfl)
  try simp only [q0P, q0Q, q0R, q0S]
  refine tkH 5 (v := ?_) rfl ?_ ?_
  rotate_left
  ·(intro wq hSq; (try dsimp only at hSq); go_simp; try with_reducible rfl)
  try simp only [q0P, q0Q, q0R, q0S]
  refine tkH 6 (v := ?_) rfl ?_ ?_
  rotate_left
  ·(intro wq hSq; (try dsimp only at hSq); go_simp; try with_reducible rfl)
  try simp only [q0P, q0Q, q0R, q0S]
  refine tkH 7 (v := ?_) rfl ?_ ?_
  rotate_left
  ·(intro wq hSq; (try dsimp only at hSq); go_simp; try with_reducible rfl)
  try simp only [q0P, q0Q, q0R, q0S]
  refine tkH 8 (v := ?_) rfl ?_ ?_
  rotate_left
  ·(intro wq hSq; (try dsimp only at hSq); go_simp; try with_reducible rfl)
  try simp only [q0P, q0Q, q0R, q0S]
  refine tkH 9 (v := ?_) rfl ?_ ?_
  rotate_left
  ·(intro wq hSq; (try dsimp only at hSq); go_simp; try with_reducible rfl)
  try simp only [q0P, q0Q, q0R, q0S]
  refine tkH 10 (v := ?_) rfl ?_ ?_
  rotate_left
  ·(intro wq hSq; (try dsimp only at hSq); go_simp; try with_reducible rfl)
  try simp only [q0P, q0Q, q0R, q0S]
  refine tkH 11 (v := ?_) rfl ?_ ?_
  rotate_left
  ·(intro wq hSq; (try dsimp only at hSq); go_simp; try with_reducible rfl)
  try simp only [q0P, q0Q, q0R, q0S]
  refine tkH 12 (v := ?_) rfl ?_ ?_
  rotate_left
  ·(intro wq hSq; (try dsimp only at hSq); go_simp; try with_reducible rfl)
  try simp only [q0P, q0Q, q0R, q0S]
  refine wpAnyH_stepL 13 (by kernel_rfl) rfl (fun K hK => ?_)
  go_simp
  go_at_call 93
  refine (rbody_any y u r hyl (by omega) (by rw [← HN.out]; omega) _).mono ?_
  rintro e w7 ⟨rfl, hb7d⟩
  have hb7 : Below w6.heap.size w6 w7 := ((Below.refl w6.heap.size w6).drew).trans hb7d
  have HP7 := Lib.hid (HP6.out.below hb7)
  refine hK.out _ _ (HSZ.out _ _ HP7.out) (fun hS7 => ?_)
  clear hK K hS hb7 hb7d HP6
  try simp only [q0P, q0Q, q0R, q0S]
  refine wpAnyH_stepL 14 (by kernel_rfl) rfl (fun K hK => ?_)
  go_simp
  go_at_call 92
  have HC8 := Lib.hid (HCALL.out _ _ HP7.out (u + 1) (bodyL y u r) (Au1 : Int) (by rw [bodyL_length, ← HN.out]; omega) (by have := HAU.out; omega))
  refine HC8.out.mono ?_
  rintro e w8 ⟨⟨v8, rfl⟩, hp8⟩
  have HP8 := Lib.hid hp8
  refine hK.out _ _ (HSZ.out _ _ hp8) (fun hS8 => ?_)
  clear hK K hS7 hp8 HP7 HC8
  try simp only [q0P, q0Q, q0R, q0S]
  refine wpAnyH_end (by kernel_rfl) ?_
  clear k0
  have k0 := HSZ.out _ _ HP8.out
  go_wp2_with fail
  refine (HCALL.out _ _ HP8.out u [1] _ (by simp; omega) (by have := HAU0.out; omega)).mono ?_
  rintro e w9 ⟨⟨v9, rfl⟩, hp9⟩
  have hst : appS d.wr m y u r = putS (putS (putS (putS ⟨d.hf half, d.fuse, d.failed⟩ u [0]) (u + 13 + n) [0]) (u + 1) (bodyL y u r)) u [1] := by
   have e1 : d.wr = ⟨d.hf half, d.fuse, d.failed⟩ := by unfold Dk.wr; rw [act_hf half HX.out.symm hh]
   unfold appS
   rw [← HN.out, if_pos hnx, e1]
  have hd9 := hp9.stop hh
  rw [← hst] at hd9
  have HD9 := Lib.hid hd9
  have HK9 := Lib.hid ((Kp.of_below (P := two p b) hb3).trans hp9.kp)
  clear hp9 hd9 hst k0
  go_wp2_with fail
  refine (HRES.out _ HD9.out).mono ?_
  rintro e w10 ⟨rfl, rfl⟩
  go_wp2
  go_ret
  rw [HRR.out]
  exact ⟨rfl, HD9.out, HK9.out⟩
 ·have hf3 : ¬ (u : Int) + 13 + (n : Int) < (m : Int) := by omega
  have HP6 := HP5
  clear HP5
  obtain ⟨w6, hw6⟩ : ∃ x, x = w5 := ⟨_, rfl⟩
  rw [← hw6] at HP6 k0 ⊢
  clear hw6
  go_wp2_with fail
  refine wp_region_heldL (fun w' => w'.cell? ⟨p, 0, none⟩ = some (.int .i64 (m : Int))) (by kernel_rfl) k0 (fun hS => ?_)
  refine tkH 0 (v := ?_) rfl ?_ ?_
  rotate_left
  ·(intro wq hSq; (try dsimp only at hSq); go_simp; try with_reducible rfl)
  try simp only [q0P, q0Q, q0R, q0S]
  refine tkH 1 (v := ?_) rfl ?_ ?_
  rotate_left
  ·(intro wq hSq; (try dsimp only at hSq); go_simp; try with_reducible rfl)
  try simp only [q0P, q0Q, q0R, q0S]
  refine tkH 2 (v := ?_) rfl ?_ ?_
  rotate_left
  ·(intro wq hSq; (try dsimp only at hSq); go_simp; try with_reducible rfl)
  try simp only [q0P, q0Q, q0R, q0S]
  refine tkH 3 (v := ?_) rfl ?_ ?_
  rotate_left
  ·(intro wq hSq; (try dsimp only at hSq); go_simp; try with_reducible rfl)
  try simp only [q0P, q0Q, q0R, q0S]
  refine tkH 4 (v := ?_) rfl ?_ ?_
  rotate_left
  ·(intro wq hSq; (try dsimp only at hSq); go_simp; try with_reducible rfl)
  try simp only [q0P, q0Q, q0R, q0S]
  refine tkH 5 (v := ?_) rfl ?_ ?_
  rotate_left
  ·(intro wq hSq; (try dsimp only at hSq); go_simp; try with_reducible rfl)
  try simp only [q0P, q0Q, q0R, q0S]
  refine tkH 6 (v := ?_) rfl ?_ ?_
  rotate_left
  ·(intro wq hSq; (try dsimp only at hSq); go_simp; try with_reducible rfl)
  try simp only [q0P, q0Q, q0R, q0S]
  refine tkH 7 (v := ?_) rfl ?_ ?_
  rotate_left
  ·(intro wq hSq; (try dsimp only at hSq); go_simp; try with_reducible rfl)
  try simp only [q0P, q0Q, q0R, q0S]
  refine tkH 8 (v := ?_) rfl ?_ ?_
  rotate_left
  ·(intro wq hSq; (try dsimp only at hSq); go_simp; try with_reducible rfl)
  try simp only [q0P, q0Q, q0R, q0S]
  refine tkH 9 (v := ?_) rfl ?_ ?_
  rotate_left
  ·(intro wq hSq; (try dsimp only at hSq); go_simp; try with_reducible rfl)
  try simp only [q0P, q0Q, q0R, q0S]
  refine tkH 10 (v := ?_) rfl ?_ ?_
  rotate_left
  ·(intro wq hSq; (try dsimp only at hSq); go_simp; try with_reducible rfl)
  try simp only [q0P, q0Q, q0R, q0S]
  refine tkH 11 (v := ?_) rfl ?_ ?_
  rotate_left
  ·(intro wq hSq; (try dsimp only at hSq); go_simp; try with_reducible rfl)
  try simp only [q0P, q0Q, q0R, q0S]
  refine tkH 12 (v := ?_) rfl ?_ ?_
  rotate_left
  ·(intro wq hSq; (try dsimp only at hSq); go_simp; try with_reducible rfl)
  try simp only [q0P, q0Q, q0R, q0S]
  refine wpAnyH_stepL 13 (by kernel_rfl) rfl (fun K hK => ?_)
  go_simp
  go_at_call 93
  refine (rbody_any y u r hyl (by omega) (by rw [← HN.out]; omega) _).mono ?_
  rintro e w7 ⟨rfl, hb7d⟩
  have hb7 : Below w6.heap.size w6 w7 := ((Below.refl w6.heap.size w6).drew).trans hb7d
  have HP7 := Lib.hid (HP6.out.below hb7)
  refine hK.out _ _ (HSZ.out _ _ HP7.out) (fun hS7 => ?_)
  clear hK K hS hb7 hb7d HP6
  try simp only [q0P, q0Q, q0R, q0S]
  refine wpAnyH_stepL 14 (by kernel_rfl) rfl (fun K hK => ?_)
  go_simp
  go_at_call 92
  have HC8 := Lib.hid (HCALL.out _ _ HP7.out (u + 1) (bodyL y u r) (Au1 : Int) (by rw [bodyL_length, ← HN.out]; omega) (by have := HAU.out; omega))
  refine HC8.out.mono ?_
  rintro e w8 ⟨⟨v8, rfl⟩, hp8⟩
  have HP8 := Lib.hid hp8
  refine hK.out _ _ (HSZ.out _ _ hp8) (fun hS8 => ?_)
  clear hK K hS7 hp8 HP7 HC8
  try simp only [q0P, q0Q, q0R, q0S]
  refine wpAnyH_end (by kernel_rfl) ?_
  clear k0
  have k0 := HSZ.out _ _ HP8.out
  go_wp2_with fail
  refine (HCALL.out _ _ HP8.out u [1] _ (by simp; omega) (by have := HAU0.out; omega)).mono ?_
  rintro e w9 ⟨⟨v9, rfl⟩, hp9⟩
  have hst : appS d.wr m y u r = putS (putS (putS ⟨d.hf half, d.fuse, d.failed⟩ u [0]) (u + 1) (bodyL y u r)) u [1] := by
   have e1 : d.wr = ⟨d.hf half, d.fuse, d.failed⟩ := by unfold Dk.wr; rw [act_hf half HX.out.symm hh]
   unfold appS
   rw [← HN.out, if_neg hnx, e1]
  have hd9 := hp9.stop hh
  rw [← hst] at hd9
  have HD9 := Lib.hid hd9
  have HK9 := Lib.hid ((Kp.of_below (P := two p b) hb3).trans hp9.kp)
  clear hp9 hd9 hst k0
  go_wp2_with fail
  refine (HRES.out _ HD9.out).mono ?_
  rintro e w10 ⟨rfl, rfl⟩
  go_wp2
  go_ret
  rw [HRR.out]
  exact ⟨rfl, HD9.out, HK9.out⟩
end
/- Walks: the reference's disk: all records are replaced. -/
section
open Go.RowKit Go.Shelf
theorem rRewrite_any (p b : Nat) (d : Dk) (l : List (List UInt8)) (v : Value) (w : World) (hv : w.reads w.heap.size v (l.map strV)) (hd : RDiskAt w p b d) (ho : d.ok) :
  Calls Tryz.prog 83 #[.pointer (some ⟨p, 0, none⟩), v] w fun e w' => e = .returned (.int .i64 (d.rewritten l).1) ∧ RDiskAt w' p b (d.rewritten l).2 ∧ Kp (two p b) w w' := by
 have HACT := Lib.hid (ractive_any p b d w hd ho)
 obtain ⟨k0, -, -, k3, -, -⟩ := four_cells hd.at_
 have HD := Lib.hid hd
 have HO := Lib.hid ho
 obtain ⟨E, hE⟩ : ∃ E, E = (rewS d.other d.size (d.gen + 1) l).err := ⟨_, rfl⟩
 have HRES : Hid (∀ W, RDiskAt W p b (d.put d.side (rewS d.other d.size (d.gen + 1) l)) → Calls Tryz.prog 94 #[.pointer (some ⟨p, 0, none⟩)] W fun e w' => e = .returned (.int .i64 E) ∧ W = w') := fun W h => by
  refine (rresult_any p b _ W h).mono ?_
  rintro e w' ⟨rfl, rfl⟩
  refine ⟨?_, rfl⟩
  rw [hE, show (d.put d.side (rewS d.other d.size (d.gen + 1) l)).failed = (rewS d.other d.size (d.gen + 1) l).failed by unfold Dk.put; split <;> rfl]
  rfl
 obtain ⟨R, hR⟩ : ∃ R, R = d.rewritten l := ⟨_, rfl⟩
 rw [← hR]
 unfold Dk.rewritten at hR
 rw [← hE] at hR
 clear hE
 have HRR := Lib.hid hR
 have h64 := ho.lo
 have hmx := ho.hi
 obtain ⟨a, cap, rfl, hn, hz, hcm, hc⟩ := hv
 obtain ⟨n, hnl⟩ : ∃ n, n = l.length := ⟨_, rfl⟩
 rw [List.length_map, ← hnl] at hz ⊢
 have HNL := Lib.hid hnl
 have HC : Hid (∀ (j : Nat) (s : List UInt8), l[j]? = some s → ∃ b off, a = some ⟨b, off, none⟩ ∧ b < w.heap.size ∧ w.cell? ⟨b, off + j, none⟩ = some (.string (bytesOf s))) := fun j s hs => hc j (strV s) (by simp [hs])
 have hn63 : n ≤ 9223372036854775807 := by unfold maxLen at hcm; omega
 clear hd ho hR hc hn hnl hcm
 cases hfd : d.failed
 case true =>
  rw [hfd] at k3
  have hRe : R = (9, d) := by rw [HRR.out, if_pos hfd]
  go_enter Tryz.func83, Tryz.ntmps83
  go_wp2
  go_ret
  rw [hRe]
  exact ⟨rfl, HD.out, Kp.refl _ _⟩
 case false =>
 rw [hfd] at k3
 have hnf : ¬ d.failed = true := by rw [hfd]; simp
 rw [if_neg hnf] at HRR
 clear hfd hnf
 obtain ⟨m, hm⟩ : ∃ m, m = d.size := ⟨_, rfl⟩
 rw [← hm] at k0 h64 hmx HRR HRES
 have HM := Lib.hid hm
 clear hm
 go_enter Tryz.func83, Tryz.ntmps83
 go_wp2_with fail
 go_loop [6] (fun i => ∃ k : Nat, k ≤ n ∧ i = .int .i64 (k : Int) ∧ Hid (∀ (j : Nat) (s : List UInt8), j < k → l[j]? = some s → s.length ≤ 65535)) (fun i => n - (intOf i).toNat)
 case atStart => exact ⟨0, Nat.zero_le _, rfl, fun j s hj => by omega⟩
 case round =>
  obtain ⟨k, hk, rfl, hsh⟩ := hrel
  by_cases hlt : k < n
  ·obtain ⟨s, hs⟩ : ∃ s, l[k]? = some s := ⟨l[k]'(by rw [← HNL.out]; exact hlt), List.getElem?_eq_getElem _⟩
   obtain ⟨sb, off, rfl, hb, hcell⟩ := HC.out k s hs
   obtain ⟨q, hq⟩ : ∃ q, q = s.length := ⟨_, rfl⟩
   have hsz : (bytesOf s).size = q := by rw [hq]; rfl
   have hsz1 : ((bytesOf s).size : Int) = (q : Int) := by rw [hsz]
   have HS := Lib.hid hs
   have HQ := Lib.hid hq
   clear hs hq
   by_cases hlong : 65535 < q
   ·have hl1 : (65535 : Int) < (q : Int) := by omega
    have hRe : R = (3, d) := by rw [HRR.out, if_pos (longAny_at l k s HS.out (by rw [← HQ.out]; exact hlong))]
    have HRE := Lib.hid hRe
    clear hRe
    go_wp2
    go_ret
    rw [HRE.out]
    exact ⟨rfl, HD.out, Kp.refl _ _⟩
   have hl1 : ¬ (65535 : Int) < (q : Int) := by omega
   have HSH : Hid (∀ (j : Nat) (s : List UInt8), j < k + 1 → l[j]? = some s → s.length ≤ 65535) := fun j s' hj hs' => by
    rcases Nat.lt_or_ge j k with h | h
    ·exact hsh.out j s' h hs'
    ·have e : j = k := by omega
     rw [e, HS.out] at hs'
     injection hs' with hs'
     rw [← hs', ← HQ.out]; omega
   go_wp2
   go_round
   case rel => exact ⟨k + 1, by omega, by go_num, HSH.out⟩
   case measure => simp [intOf]; omega
  obtain rfl : k = n := by omega
  have hla : longAny l = false := longAny_none l (fun j s hj => by
   have hlt : j < l.length := (List.getElem?_eq_some_iff.1 hj).1
   exact hsh.out j s (by rw [HNL.out]; exact hlt) hj)
  rw [hla, if_neg (by simp)] at HRR
  have HLA := Lib.hid hla
  clear hla hsh hlt hk
  go_wp2_with fail
  go_loop [5, 7] (fun nd i => ∃ (j N : Nat), j ≤ k ∧ i = .int .i64 (j : Int) ∧ nd = .int .i64 (N : Int) ∧ N ≤ m + 70000 ∧ Hid (N = sumR (l.take j))) (fun _ i => k - (intOf i).toNat)
  case atStart => exact ⟨0, 17, Nat.zero_le _, rfl, rfl, by omega, rfl⟩
  case round =>
   obtain ⟨j, N, hj, rfl, rfl, hNb, hN⟩ := hrel
   by_cases hgo : j < k ∧ N ≤ m
   ·obtain ⟨hlt, hNm⟩ := hgo
    obtain ⟨s, hs⟩ : ∃ s, l[j]? = some s := ⟨l[j]'(by rw [← HNL.out]; exact hlt), List.getElem?_eq_getElem _⟩
    obtain ⟨sb, off, rfl, hb, hcell⟩ := HC.out j s hs
    obtain ⟨q, hq⟩ : ∃ q, q = s.length := ⟨_, rfl⟩
    have hsz : (bytesOf s).size = q := by rw [hq]; rfl
    have hsz1 : ((bytesOf s).size : Int) = (q : Int) := by rw [hsz]
    have hql : q ≤ 65535 := by
     rw [hq]
     rcases Nat.lt_or_ge 65535 s.length with h | h
     ·have := longAny_at l j s hs h
      rw [HLA.out] at this; cases this
     ·exact h
    have HNN : Hid (N + 13 + q = sumR (l.take (j + 1))) := by
     show _ = _
     rw [List.take_add_one, hs, hq]
     show _ = sumR (l.take j ++ [s])
     rw [sumR_snoc, hN.out]
    clear hs hq
    go_wp2
    go_round
    case rel => exact ⟨j + 1, N + 13 + q, by omega, by go_num, by go_num, by omega, HNN.out⟩
    case measure => simp [intOf]; omega
   have hNi : m < N ↔ m < sumR l := by
    rcases Nat.lt_or_ge j k with h | h
    ·have h1 : m < N := by omega
     have h2 := sumR_take l j
     rw [← hN.out] at h2
     constructor
     ·intro _; omega
     ·intro _; exact h1
    ·have e : l.take j = l := List.take_of_length_le (by rw [← HNL.out]; exact h)
     rw [hN.out, e]
   have HNI := Lib.hid hNi
   obtain ⟨x, hx⟩ : ∃ x, x = d.half := ⟨_, rfl⟩
   obtain ⟨y, hy⟩ : ∃ y, y = d.gen := ⟨_, rfl⟩
   rw [← hx, ← hy] at HACT
   rw [← hy] at HRR HRES
   have hyl : y < 9223372036854775808 := by rw [hy]; exact d.gen_lt
   have HX := Lib.hid hx
   have HY := Lib.hid hy
   clear hNi hx hy hN
   by_cases hjk : j < k
   ·have hfull : m < N := by omega
    have hf1 : (m : Int) < (N : Int) := by omega
    clear hgo
    have hRe : R = (5, d) := by rw [HRR.out, if_pos (Or.inl (HNI.out.1 hfull))]
    have HRE := Lib.hid hRe
    clear hRe
    go_wp2_with fail
    refine HACT.out.mono ?_
    rintro e w2 ⟨rfl, hb2⟩
    have HD2 := Lib.hid (HD.out.kept hb2)
    have k0' : w2.cell? ⟨p, 0, none⟩ = some (.int .i64 (m : Int)) := by rw [HM.out]; exact (four_cells HD2.out.at_).1
    clear k0 k3
    go_wp2
    go_ret
    rw [HRE.out]
    exact ⟨rfl, HD2.out, Kp.of_below hb2⟩
   have hjk' : ¬ (j : Int) < (k : Int) := by omega
   clear hgo
   go_wp2_with fail
   refine HACT.out.mono ?_
   rintro e w2 ⟨rfl, hb2⟩
   have HD2 := Lib.hid (HD.out.kept hb2)
   have hS2 := hb2.size
   clear k0 k3
   have k0 : w2.cell? ⟨p, 0, none⟩ = some (.int .i64 (m : Int)) := by rw [HM.out]; exact (four_cells HD2.out.at_).1
   by_cases hfull : m < N
   ·have hf1 : (m : Int) < (N : Int) := by omega
    have hRe : R = (5, d) := by rw [HRR.out, if_pos (Or.inl (HNI.out.1 hfull))]
    have HRE := Lib.hid hRe
    clear hRe
    go_wp2
    go_ret
    rw [HRE.out]
    exact ⟨rfl, HD2.out, Kp.of_below hb2⟩
   have hf1 : ¬ (m : Int) < (N : Int) := by omega
   by_cases hlast : y = 9223372036854775807
   ·have hf2 : ((y : Int) == 9223372036854775807) = true := by rw [hlast]; rfl
    have hRe : R = (5, d) := by rw [HRR.out, if_pos (Or.inr hlast)]
    have HRE := Lib.hid hRe
    clear hRe hlast
    go_wp2
    go_ret
    rw [HRE.out]
    exact ⟨rfl, HD2.out, Kp.of_below hb2⟩
   have hf2 : ((y : Int) == 9223372036854775807) = false := by rw [beq_eq_false_iff_ne]; omega
   have hsum : sumR l ≤ m := by have := HNI.out; omega
   have hRe : R = (E, d.put d.side (rewS d.other m (y + 1) l)) := by
    rw [HRR.out, if_neg]
    rintro (h | h)
    ·omega
    ·exact hlast h
   have HRE := Lib.hid hRe
   obtain ⟨G, hG⟩ : ∃ G, G = y + 1 := ⟨_, rfl⟩
   have hwg : (y : Int) + 1 = (G : Int) := by omega
   rw [← hG] at HRE HRES
   have hGl : G < 9223372036854775808 := by omega
   have HSUM := Lib.hid hsum
   have HB2 := Lib.hid hb2
   have hc := half_nat (d := d)
   rw [← HX.out] at hc
   clear hRe hlast hsum hG hb2
   by_cases hx0 : x = 0
   ·have hxb : (x == 0) = true := by rw [hx0]; rfl
    have hsd : d.side = ((1 : Nat) : Int) := by unfold Dk.side; rw [← HX.out, if_pos hx0]; rfl
    have hot : d.other = ⟨d.hf 1, d.fuse, d.failed⟩ := by unfold Dk.other; rw [← HX.out, if_pos hx0]; rfl
    rw [hsd, hot] at HRE HRES
    clear hsd hot hx0
    go_wp2_with fail
    go_loopw [11, 12] (fun tv i wr => ∃ j' : Nat, j' ≤ k ∧ i = .int .i64 (j' : Int) ∧ tv = .string (bytesOf (encT G (l.take j'))) ∧ Hid (Below w2.heap.size w2 wr)) (fun _ i _ => k - (intOf i).toNat)
    case atStart => exact ⟨0, Nat.zero_le _, rfl, rfl, Below.refl _ _⟩
    case round =>
     obtain ⟨j', hj', rfl, rfl, hB⟩ := hrel
     by_cases hlt : j' < k
     ·obtain ⟨s, hs⟩ : ∃ s, l[j']? = some s := ⟨l[j']'(by rw [← HNL.out]; exact hlt), List.getElem?_eq_getElem _⟩
      obtain ⟨sb, off, rfl, hb, hcell0⟩ := HC.out j' s hs
      have hcell : wr.cell? ⟨sb, off + j', none⟩ = some (.string (bytesOf s)) := (hB.out.cell (p := ⟨sb, off + j', none⟩) (Nat.lt_of_lt_of_le hb hS2)).trans ((HB2.out.cell (p := ⟨sb, off + j', none⟩) hb).trans hcell0)
      have hsl : s.length ≤ 65535 := by
       rcases Nat.lt_or_ge 65535 s.length with h | h
       ·have := longAny_at l j' s hs h
        rw [HLA.out] at this; cases this
       ·exact h
      have htk : l.take (j' + 1) = l.take j' ++ [s] := by rw [List.take_add_one, hs]; rfl
      have hrm : (encT G (l.take j')).length + 13 + s.length + 17 ≤ m := by
       have h1 := sumR_take l (j' + 1)
       have h2 := encT_length G (l.take j')
       have h3 := HSUM.out
       rw [htk, sumR_snoc] at h1
       omega
      have hES : encT G (l.take (j' + 1)) = (encT G (l.take j') ++ [1]) ++ bodyL G (17 + (encT G (l.take j')).length) s := by
       rw [htk, encT_snoc, List.append_assoc]; rfl
      have HES := Lib.hid hES
      obtain ⟨T, hTe⟩ : ∃ T, T = encT G (l.take j') := ⟨_, rfl⟩
      rw [← hTe] at hrm HES ⊢
      obtain ⟨TL, hTL⟩ : ∃ TL, TL = T.length := ⟨_, rfl⟩
      rw [← hTL] at hrm HES
      obtain ⟨K17, hK17⟩ : ∃ L, L = 17 + TL := ⟨_, rfl⟩
      rw [← hK17] at HES
      have e17 : (17 : Int) + (TL : Int) = (K17 : Int) := by omega
      have hKb : K17 ≤ 1000000 := by omega
      obtain ⟨B, hBe⟩ : ∃ B, B = bodyL G K17 s := ⟨_, rfl⟩
      have hBl : B.length = 12 + s.length := by rw [hBe, bodyL_length]
      have HBC := Lib.hid (fun W => rbody_any G K17 s hGl hKb hsl W)
      rw [← hBe] at HBC HES
      have x1 : (bytesOf T).size = TL := by rw [hTL]; rfl
      have x2 : ((bytesOf T).size : Int) = (TL : Int) := by rw [x1]
      have x3 : (bytesOf (T ++ [1])).size = TL + 1 := by show (T ++ [1]).length = _; rw [List.length_append, hTL]; rfl
      have x4 : bytesOf T ++ (⟨#[1]⟩ : ByteArray) = bytesOf (T ++ [1]) := bytesOf_append T [1]
      have x5 : (⟨#[1]⟩ : ByteArray).size = 1 := rfl
      obtain ⟨BL, hBL⟩ : ∃ BL, BL = B.length := ⟨_, rfl⟩
      have x6 : (bytesOf B).size = BL := by rw [hBL]; rfl
      have x7 : bytesOf (T ++ [1]) ++ bytesOf B = bytesOf (T ++ [1] ++ B) := bytesOf_append _ _
      have x8 : BL ≤ 70000 := by omega
      have x9 : TL ≤ 262144 := by omega
      have x10 : ¬ 9223372036854775807 < TL + 1 := by omega
      have x11 : ¬ 9223372036854775807 < TL + 1 + BL := by omega
      clear hs hcell0 htk hES hTe hTL hK17 hBe hBl hBL hrm
      go_wp2_with fail
      refine (HBC.out _).mono ?_
      rintro e w6 ⟨rfl, hb6⟩
      have HB6 := Lib.hid (hB.out.trans (hb6.mono hB.out.size))
      clear hb6
      go_wp2
      go_roundw
      case rel => exact ⟨j' + 1, by omega, by go_num, by rw [HES.out]; simp, HB6.out⟩
      case measure => simp [intOf]; omega
     ·obtain rfl : j' = k := by omega
      have htl : l.take j' = l := by rw [List.take_of_length_le (by rw [← HNL.out]; exact Nat.le_refl _)]
      rw [htl]
      have hTs := encT_length G l
      obtain ⟨T, hTe⟩ : ∃ T, T = encT G l := ⟨_, rfl⟩
      rw [← hTe] at hTs ⊢
      have hst : rewS ⟨d.hf 1, d.fuse, d.failed⟩ m G l = putS (putS (putS (putS ⟨d.hf 1, d.fuse, d.failed⟩ 0 [0]) 17 (padT (m - 17) T)) 1 (eightL G ++ shortL (eightL G))) 0 [1] := by rw [hTe]; rfl
      obtain ⟨M, hM⟩ : ∃ M, M = m - 17 := ⟨_, rfl⟩
      rw [← hM] at hst
      obtain ⟨TL, hTL⟩ : ∃ TL, TL = T.length := ⟨_, rfl⟩
      have hTM : TL ≤ M := by have := HSUM.out; omega
      obtain ⟨Z, hZ⟩ : ∃ Z, Z = M - TL := ⟨_, rfl⟩
      have hM17 : (m : Int) - 17 - (TL : Int) = (Z : Int) := by omega
      have hM17' : (m : Int) - 17 = (M : Int) := by omega
      have hM17'' : (M : Int) - (TL : Int) = (Z : Int) := by omega
      have hpl := padT_length M T (by omega)
      have hZb : Z ≤ 262144 := by omega
      have hTb : TL ≤ 262144 := by omega
      have hM2 : M + 17 = m := by omega
      have x1 : (bytesOf T).size = TL := by rw [hTL]; rfl
      have x2 : ((bytesOf T).size : Int) = (TL : Int) := by rw [x1]
      have x3 : (bytesOf (List.replicate Z (0 : UInt8))).size = Z := by show (List.replicate Z (0 : UInt8)).length = Z; simp
      have x4 : bytesOf T ++ bytesOf (List.replicate Z (0 : UInt8)) = bytesOf (padT M T) := by rw [bytesOf_append]; unfold padT; rw [hZ, hTL]
      have x5 : ¬ 9223372036854775807 < TL + Z := by omega
      have hmk : ∀ W : World, (Instr.makeSlice 54 (.int .i64 (Z : Int)) (.int .i64 (Z : Int))).run Tryz.prog W = .ok (.slice (some ⟨W.heap.size, 0, none⟩) Z Z) (W.alloc (.cells (zrow8 Z) 5)) := fun W => make_u8 Z Z (Nat.le_refl _) (by omega) W
      have hcv : (convert 54 9 (.slice (some ⟨wr.heap.size, 0, none⟩) Z Z)).run Tryz.prog (wr.alloc (.cells (zrow8 Z) 5)) = .ok (.string (bytesOf (List.replicate Z 0))) (wr.alloc (.cells (zrow8 Z) 5)) := by
       have hh : HalfAt (wr.alloc (.cells (zrow8 Z) 5)) wr.heap.size (List.replicate Z 0) := ⟨5, alloc_last _ _ rfl⟩
       have := hh.text 0 Z (by simp) Z
       rw [List.drop_zero, List.take_of_length_le (by simp)] at this
       exact this
      have HB3 : Hid (Below w2.heap.size w2 (wr.alloc (.cells (zrow8 Z) 5))) := hB.out.alloc hB.out.size _
      have HD3 := Lib.hid (HD2.out.kept HB3.out)
      have HP3 : Hid (RPen (wr.alloc (.cells (zrow8 Z) 5)) p b 1 d ⟨d.hf 1, d.fuse, d.failed⟩ (wr.alloc (.cells (zrow8 Z) 5))) := RPen.start HD3.out HO.out
      have HK3 : Hid (Kp (two p b) w (wr.alloc (.cells (zrow8 Z) 5))) := Kp.of_below (HB2.out.trans (HB3.out.mono hS2))
      have kr : wr.cell? ⟨p, 0, none⟩ = some (.int .i64 (m : Int)) := by rw [HM.out]; exact (four_cells (HD2.out.kept hB.out).at_).1
      have k3 : (wr.alloc (.cells (zrow8 Z) 5)).cell? ⟨p, 0, none⟩ = some (.int .i64 (m : Int)) := by rw [HM.out]; exact (four_cells HD3.out.at_).1
      have HPL := Lib.hid hpl
      have HM2 := Lib.hid hM2
      have HST := Lib.hid hst
      have HCALL : Hid (∀ (st : Wr) (W0 W : World), RPen W0 p b 1 d st W → ∀ (q : Nat) (s : List UInt8) (z : Int), q + s.length ≤ m → z = (m : Int) + (q : Int) → Calls Tryz.prog 92 #[.pointer (some ⟨p, 0, none⟩), .int .i64 z, .string (bytesOf s)] W fun e w' => (∃ v, e = .returned v) ∧ RPen W0 p b 1 d (putS st q s) w') := fun st W0 W h q s z hk hz => by
       have hmm := HM.out
       have := h.call HO.out (by omega) q s (by omega)
       rw [show ((1 * d.size + q : Nat) : Int) = z by rw [hz]; omega] at this
       exact this
      clear htl hTs hTe hM hTL hZ hpl hM2 hst hlt k0
      go_wp2_with fail
      refine (HCALL.out _ _ _ HP3.out 0 [0] _ (by simp; omega) (by omega)).mono ?_
      rintro e w9 ⟨⟨v9, rfl⟩, hp9⟩
      have HP9 := Lib.hid hp9
      clear hp9 HP3 kr k3 hcv hmk
      go_wp2_with fail
      refine (HCALL.out _ _ _ HP9.out 17 (padT M T) _ (by rw [HPL.out]; have := HM2.out; omega) (by omega)).mono ?_
      rintro e w10 ⟨⟨v10, rfl⟩, hp10⟩
      have HP10 := Lib.hid hp10
      clear hp10 HP9
      go_wp2_with fail
      refine (reight_any G hGl _).mono ?_
      rintro e w11 ⟨rfl, hb11⟩
      have HP11 := Lib.hid (HP10.out.below hb11)
      clear HP10 hb11
      go_wp2_with fail
      refine (reight_any G hGl _).mono ?_
      rintro e w12 ⟨rfl, hb12⟩
      have HP12 := Lib.hid (HP11.out.below hb12)
      clear HP11 hb12
      go_wp2_with fail
      refine (refShortN_any (eightL G) (by rw [eightL_length]; omega) _).mono ?_
      rintro e w13 ⟨rfl, hb13⟩
      have HP13 := Lib.hid (HP12.out.below hb13)
      clear HP12 hb13
      have z1 := eight_size G
      have z2 : (bytesOf (shortL (eightL G))).size = 8 := shortL_length _
      have z3 := bytesOf_append (eightL G) (shortL (eightL G))
      go_wp2_with fail
      refine (HCALL.out _ _ _ HP13.out 1 (eightL G ++ shortL (eightL G)) _ (by rw [List.length_append, eightL_length, shortL_length]; omega) (by omega)).mono ?_
      rintro e w14 ⟨⟨v14, rfl⟩, hp14⟩
      have HP14 := Lib.hid hp14
      clear hp14 HP13
      go_wp2_with fail
      refine (HCALL.out _ _ _ HP14.out 0 [1] _ (by simp; omega) (by omega)).mono ?_
      rintro e w15 ⟨⟨v15, rfl⟩, hp15⟩
      have hd15 := hp15.stop (by omega)
      rw [← HST.out] at hd15
      have HD15 := Lib.hid hd15
      have HK15 := Lib.hid (HK3.out.trans hp15.kp)
      clear hp15 hd15 HP14
      go_wp2_with fail
      refine (HRES.out _ HD15.out).mono ?_
      rintro e w16 ⟨rfl, rfl⟩
      go_wp2
      go_ret
      rw [HRE.out]
      exact ⟨rfl, HD15.out, HK15.out⟩
   ·have hxb : (x == 0) = false := by rw [beq_eq_false_iff_ne]; exact hx0
    have hsd : d.side = ((0 : Nat) : Int) := by unfold Dk.side; rw [← HX.out, if_neg hx0]; rfl
    have hot : d.other = ⟨d.hf 0, d.fuse, d.failed⟩ := by unfold Dk.other; rw [← HX.out, if_neg hx0]; rfl
    rw [hsd, hot] at HRE HRES
    clear hsd hot hx0
    go_wp2_with fail
    go_loopw [11, 12] (fun tv i wr => ∃ j' : Nat, j' ≤ k ∧ i = .int .i64 (j' : Int) ∧ tv = .string (bytesOf (encT G (l.take j'))) ∧ Hid (Below w2.heap.size w2 wr)) (fun _ i _ => k - (intOf i).toNat)
    case atStart => exact ⟨0, Nat.zero_le _, rfl, rfl, Below.refl _ _⟩
    case round =>
     obtain ⟨j', hj', rfl, rfl, hB⟩ := hrel
     by_cases hlt : j' < k
     ·obtain ⟨s, hs⟩ : ∃ s, l[j']? = some s := ⟨l[j']'(by rw [← HNL.out]; exact hlt), List.getElem?_eq_getElem _⟩
      obtain ⟨sb, off, rfl, hb, hcell0⟩ := HC.out j' s hs
      have hcell : wr.cell? ⟨sb, off + j', none⟩ = some (.string (bytesOf s)) := (hB.out.cell (p := ⟨sb, off + j', none⟩) (Nat.lt_of_lt_of_le hb hS2)).trans ((HB2.out.cell (p := ⟨sb, off + j', none⟩) hb).trans hcell0)
      have hsl : s.length ≤ 65535 := by
       rcases Nat.lt_or_ge 65535 s.length with h | h
       ·have := longAny_at l j' s hs h
        rw [HLA.out] at this; cases this
       ·exact h
      have htk : l.take (j' + 1) = l.take j' ++ [s] := by rw [List.take_add_one, hs]; rfl
      have hrm : (encT G (l.take j')).length + 13 + s.length + 17 ≤ m := by
       have h1 := sumR_take l (j' + 1)
       have h2 := encT_length G (l.take j')
       have h3 := HSUM.out
       rw [htk, sumR_snoc] at h1
       omega
      have hES : encT G (l.take (j' + 1)) = (encT G (l.take j') ++ [1]) ++ bodyL G (17 + (encT G (l.take j')).length) s := by
       rw [htk, encT_snoc, List.append_assoc]; rfl
      have HES := Lib.hid hES
      obtain ⟨T, hTe⟩ : ∃ T, T = encT G (l.take j') := ⟨_, rfl⟩
      rw [← hTe] at hrm HES ⊢
      obtain ⟨TL, hTL⟩ : ∃ TL, TL = T.length := ⟨_, rfl⟩
      rw [← hTL] at hrm HES
      obtain ⟨K17, hK17⟩ : ∃ L, L = 17 + TL := ⟨_, rfl⟩
      rw [← hK17] at HES
      have e17 : (17 : Int) + (TL : Int) = (K17 : Int) := by omega
      have hKb : K17 ≤ 1000000 := by omega
      obtain ⟨B, hBe⟩ : ∃ B, B = bodyL G K17 s := ⟨_, rfl⟩
      have hBl : B.length = 12 + s.length := by rw [hBe, bodyL_length]
      have HBC := Lib.hid (fun W => rbody_any G K17 s hGl hKb hsl W)
      rw [← hBe] at HBC HES
      have x1 : (bytesOf T).size = TL := by rw [hTL]; rfl
      have x2 : ((bytesOf T).size : Int) = (TL : Int) := by rw [x1]
      have x3 : (bytesOf (T ++ [1])).size = TL + 1 := by show (T ++ [1]).length = _; rw [List.length_append, hTL]; rfl
      have x4 : bytesOf T ++ (⟨#[1]⟩ : ByteArray) = bytesOf (T ++ [1]) := bytesOf_append T [1]
      have x5 : (⟨#[1]⟩ : ByteArray).size = 1 := rfl
      obtain ⟨BL, hBL⟩ : ∃ BL, BL = B.length := ⟨_, rfl⟩
      have x6 : (bytesOf B).size = BL := by rw [hBL]; rfl
      have x7 : bytesOf (T ++ [1]) ++ bytesOf B = bytesOf (T ++ [1] ++ B) := bytesOf_append _ _
      have x8 : BL ≤ 70000 := by omega
      have x9 : TL ≤ 262144 := by omega
      have x10 : ¬ 9223372036854775807 < TL + 1 := by omega
      have x11 : ¬ 9223372036854775807 < TL + 1 + BL := by omega
      clear hs hcell0 htk hES hTe hTL hK17 hBe hBl hBL hrm
      go_wp2_with fail
      refine (HBC.out _).mono ?_
      rintro e w6 ⟨rfl, hb6⟩
      have HB6 := Lib.hid (hB.out.trans (hb6.mono hB.out.size))
      clear hb6
      go_wp2
      go_roundw
      case rel => exact ⟨j' + 1, by omega, by go_num, by rw [HES.out]; simp, HB6.out⟩
      case measure => simp [intOf]; omega
     ·obtain rfl : j' = k := by omega
      have htl : l.take j' = l := by rw [List.take_of_length_le (by rw [← HNL.out]; exact Nat.le_refl _)]
      rw [htl]
      have hTs := encT_length G l
      obtain ⟨T, hTe⟩ : ∃ T, T = encT G l := ⟨_, rfl⟩
      rw [← hTe] at hTs ⊢
      have hst : rewS ⟨d.hf 0, d.fuse, d.failed⟩ m G l = putS (putS (putS (putS ⟨d.hf 0, d.fuse, d.failed⟩ 0 [0]) 17 (padT (m - 17) T)) 1 (eightL G ++ shortL (eightL G))) 0 [1] := by rw [hTe]; rfl
      obtain ⟨M, hM⟩ : ∃ M, M = m - 17 := ⟨_, rfl⟩
      rw [← hM] at hst
      obtain ⟨TL, hTL⟩ : ∃ TL, TL = T.length := ⟨_, rfl⟩
      have hTM : TL ≤ M := by have := HSUM.out; omega
      obtain ⟨Z, hZ⟩ : ∃ Z, Z = M - TL := ⟨_, rfl⟩
      have hM17 : (m : Int) - 17 - (TL : Int) = (Z : Int) := by omega
      have hM17' : (m : Int) - 17 = (M : Int) := by omega
      have hM17'' : (M : Int) - (TL : Int) = (Z : Int) := by omega
      have hpl := padT_length M T (by omega)
      have hZb : Z ≤ 262144 := by omega
      have hTb : TL ≤ 262144 := by omega
      have hM2 : M + 17 = m := by omega
      have x1 : (bytesOf T).size = TL := by rw [hTL]; rfl
      have x2 : ((bytesOf T).size : Int) = (TL : Int) := by rw [x1]
      have x3 : (bytesOf (List.replicate Z (0 : UInt8))).size = Z := by show (List.replicate Z (0 : UInt8)).length = Z; simp
      have x4 : bytesOf T ++ bytesOf (List.replicate Z (0 : UInt8)) = bytesOf (padT M T) := by rw [bytesOf_append]; unfold padT; rw [hZ, hTL]
      have x5 : ¬ 9223372036854775807 < TL + Z := by omega
      have hmk : ∀ W : World, (Instr.makeSlice 54 (.int .i64 (Z : Int)) (.int .i64 (Z : Int))).run Tryz.prog W = .ok (.slice (some ⟨W.heap.size, 0, none⟩) Z Z) (W.alloc (.cells (zrow8 Z) 5)) := fun W => make_u8 Z Z (Nat.le_refl _) (by omega) W
      have hcv : (convert 54 9 (.slice (some ⟨wr.heap.size, 0, none⟩) Z Z)).run Tryz.prog (wr.alloc (.cells (zrow8 Z) 5)) = .ok (.string (bytesOf (List.replicate Z 0))) (wr.alloc (.cells (zrow8 Z) 5)) := by
       have hh : HalfAt (wr.alloc (.cells (zrow8 Z) 5)) wr.heap.size (List.replicate Z 0) := ⟨5, alloc_last _ _ rfl⟩
       have := hh.text 0 Z (by simp) Z
       rw [List.drop_zero, List.take_of_length_le (by simp)] at this
       exact this
      have HB3 : Hid (Below w2.heap.size w2 (wr.alloc (.cells (zrow8 Z) 5))) := hB.out.alloc hB.out.size _
      have HD3 := Lib.hid (HD2.out.kept HB3.out)
      have HP3 : Hid (RPen (wr.alloc (.cells (zrow8 Z) 5)) p b 0 d ⟨d.hf 0, d.fuse, d.failed⟩ (wr.alloc (.cells (zrow8 Z) 5))) := RPen.start HD3.out HO.out
      have HK3 : Hid (Kp (two p b) w (wr.alloc (.cells (zrow8 Z) 5))) := Kp.of_below (HB2.out.trans (HB3.out.mono hS2))
      have kr : wr.cell? ⟨p, 0, none⟩ = some (.int .i64 (m : Int)) := by rw [HM.out]; exact (four_cells (HD2.out.kept hB.out).at_).1
      have k3 : (wr.alloc (.cells (zrow8 Z) 5)).cell? ⟨p, 0, none⟩ = some (.int .i64 (m : Int)) := by rw [HM.out]; exact (four_cells HD3.out.at_).1
      have HPL := Lib.hid hpl
      have HM2 := Lib.hid hM2
      have HST := Lib.hid hst
      have HCALL : Hid (∀ (st : Wr) (W0 W : World), RPen W0 p b 0 d st W → ∀ (q : Nat) (s : List UInt8) (z : Int), q + s.length ≤ m → z = (0 : Int) + (q : Int) → Calls Tryz.prog 92 #[.pointer (some ⟨p, 0, none⟩), .int .i64 z, .string (bytesOf s)] W fun e w' => (∃ v, e = .returned v) ∧ RPen W0 p b 0 d (putS st q s) w') := fun st W0 W h q s z hk hz => by
       have hmm := HM.out
       have := h.call HO.out (by omega) q s (by omega)
       rw [show ((0 * d.size + q : Nat) : Int) = z by rw [hz]; omega] at this
       exact this
      clear htl hTs hTe hM hTL hZ hpl hM2 hst hlt k0
      go_wp2_with fail
      refine (HCALL.out _ _ _ HP3.out 0 [0] _ (by simp; omega) (by omega)).mono ?_
      rintro e w9 ⟨⟨v9, rfl⟩, hp9⟩
      have HP9 := Lib.hid hp9
      clear hp9 HP3 kr k3 hcv hmk
      go_wp2_with fail
      refine (HCALL.out _ _ _ HP9.out 17 (padT M T) _ (by rw [HPL.out]; have := HM2.out; omega) (by omega)).mono ?_
      rintro e w10 ⟨⟨v10, rfl⟩, hp10⟩
      have HP10 := Lib.hid hp10
      clear hp10 HP9
      go_wp2_with fail
      refine (reight_any G hGl _).mono ?_
      rintro e w11 ⟨rfl, hb11⟩
      have HP11 := Lib.hid (HP10.out.below hb11)
      clear HP10 hb11
      go_wp2_with fail
      refine (reight_any G hGl _).mono ?_
      rintro e w12 ⟨rfl, hb12⟩
      have HP12 := Lib.hid (HP11.out.below hb12)
      clear HP11 hb12
      go_wp2_with fail
      refine (refShortN_any (eightL G) (by rw [eightL_length]; omega) _).mono ?_
      rintro e w13 ⟨rfl, hb13⟩
      have HP13 := Lib.hid (HP12.out.below hb13)
      clear HP12 hb13
      have z1 := eight_size G
      have z2 : (bytesOf (shortL (eightL G))).size = 8 := shortL_length _
      have z3 := bytesOf_append (eightL G) (shortL (eightL G))
      go_wp2_with fail
      refine (HCALL.out _ _ _ HP13.out 1 (eightL G ++ shortL (eightL G)) _ (by rw [List.length_append, eightL_length, shortL_length]; omega) (by omega)).mono ?_
      rintro e w14 ⟨⟨v14, rfl⟩, hp14⟩
      have HP14 := Lib.hid hp14
      clear hp14 HP13
      go_wp2_with fail
      refine (HCALL.out _ _ _ HP14.out 0 [1] _ (by simp; omega) (by omega)).mono ?_
      rintro e w15 ⟨⟨v15, rfl⟩, hp15⟩
      have hd15 := hp15.stop (by omega)
      rw [← HST.out] at hd15
      have HD15 := Lib.hid hd15
      have HK15 := Lib.hid (HK3.out.trans hp15.kp)
      clear hp15 hd15 HP14
      go_wp2_with fail
      refine (HRES.out _ HD15.out).mono ?_
      rintro e w16 ⟨rfl, rfl⟩
      go_wp2
      go_ret
      rw [HRE.out]
      exact ⟨rfl, HD15.out, HK15.out⟩
end
/- Walks: the reference's queue of jobs: a record is read. Printed by gen_rc4.py. -/
section
open Go.RowKit Go.Shelf
/-- What the reading of a record answers. -/
def RdP (B p : Nat) (dp : Value) (w : World) (r : Option Qs) (e : Ending) (w' : World) : Prop := Below B w w' ∧ match r with
 | some q => e = .returned (.bool true) ∧ ∃ v, RQueueAt w' p dp v q.last false ∧ w'.owns B 48 9 v q.jobs.length (jobsL q.jobs)
 | none => e = .returned (.bool false)
theorem RQueueAt.below {w w' : World} {p : Nat} {dp v : Value} {last : Int} {down : Bool} (h : RQueueAt w p dp v last down) (hb : Below w.heap.size w w') : RQueueAt w' p dp v last down := (hb.block _ (lt_of_heap h)).trans h
theorem RQueueAt.set2 {w : World} {p : Nat} {dp v : Value} {last : Int} {down : Bool} (h : RQueueAt w p dp v last down) (n : Int) : RQueueAt (w.setCell ⟨p, 2, none⟩ (.int .i64 n)) p dp v n down := by
 unfold RQueueAt at h ⊢
 simp [World.setCell, Array.getElem?_modify, h]
theorem RQueueAt.set1 {w : World} {p : Nat} {dp v : Value} {last : Int} {down : Bool} (h : RQueueAt w p dp v last down) (v' : Value) : RQueueAt (w.setCell ⟨p, 1, none⟩ v') p dp v' last down := by
 unfold RQueueAt at h ⊢
 simp [World.setCell, Array.getElem?_modify, h]
theorem RQueueAt.ne {w : World} {p B n : Nat} {dp v : Value} {last : Int} {down : Bool} {xs : List Value} (h : RQueueAt w p dp v last down) (hv : w.owns B 48 9 v n xs) : v.ownBlock ≠ some p := World.owns.ne hv h (by decide)
/-- A reader that begins. -/
theorem rd_new (w : World) (s : List UInt8) : RdAt (w.alloc (.cells #[.string (bytesOf s), .bool false] 139)) w.heap.size s false ∧ Below w.heap.size w (w.alloc (.cells #[.string (bytesOf s), .bool false] 139)) :=
 ⟨alloc_last _ _ rfl, (Below.refl _ w).alloc (Nat.le_refl _) _⟩
theorem rd_kp {B pr : Nat} {w w1 w2 : World} (h : Below B w w1) (hk : Kp (fun k => k = pr) w1 w2) (h1 : B ≤ w1.heap.size) (h2 : B ≤ pr) : Below B w w2 := h.trans (hk.below h1 (fun k e => by omega))
theorem rfread_no1 (B p : Nat) (dp v : Value) (q : Qs) (s : List UInt8) (w : World) (hq : RQueueAt w p dp v q.last false) (hv : w.owns B 48 9 v q.jobs.length (jobsL q.jobs)) (hB : B ≤ p) (hB2 : B ≤ w.heap.size) (ho : q.ok) (hs : s.length ≤ 1000000) (h1 : takeN s 1 = none) (hone : q.one s = none) :
  Calls Tryz.prog 64 #[.pointer (some ⟨p, 0, none⟩), strV s] w (RdP B p dp w (q.one s)) := by
 have e1 : numR s 1 = (0, [], true) := by unfold numR; rw [h1]
 have e2 : numR ([] : List UInt8) 8 = (0, [], true) := rfl
 have HQ := Lib.hid hq
 have HV := Lib.hid hv
 obtain ⟨r0, b0⟩ := rd_new w s
 obtain ⟨W0, hW0⟩ : ∃ W, W = w.alloc (.cells #[.string (bytesOf s), .bool false] 139) := ⟨_, rfl⟩
 rw [← hW0] at r0 b0
 have HW0 := Lib.hid hW0
 have HN1 := Lib.hid (rfnum_any w.heap.size 1 s false (by omega) (by omega) W0 r0)
 rw [e1] at HN1
 have HB0 := Lib.hid b0
 have HO := Lib.hid hone
 have HOK := Lib.hid ho
 have hpw : p < w.heap.size := lt_of_heap hq
 have HLEN : Hid (p < w.heap.size ∧ B ≤ p ∧ s.length ≤ 1000000) := ⟨hpw, hB, hs⟩
 obtain ⟨pr, hpr⟩ : ∃ pr, pr = w.heap.size := ⟨_, rfl⟩
 rw [← hpr] at HN1
 have HPR := Lib.hid hpr
 clear hq hv r0 b0 hW0 hone ho hpw hpr hB hs
 unfold strV
 go_enter Tryz.func64, Tryz.ntmps64
 go_upto_region 2 with fail
 rw [← HW0.out, ← HPR.out]
 go_wp2_with fail
 refine (show Calls Tryz.prog 107 #[.pointer (some ⟨pr, 0, none⟩), .int .i64 1] W0 _ from HN1.out).mono ?_
 rintro e w1 ⟨rfl, hr1, hk1⟩
 have HB1 : Hid (Below w.heap.size w w1) := rd_kp HB0.out hk1 HB0.out.size (by rw [HPR.out]; exact Nat.le_refl _)
 have HN2 := Lib.hid (rfnum_any pr 8 _ _ (by omega) (by have := HLEN.out; exact Nat.zero_le _) w1 hr1)
 rw [e2] at HN2
 clear hr1 hk1 HN1
 go_wp2_with fail
 refine (show Calls Tryz.prog 107 #[.pointer (some ⟨pr, 0, none⟩), .int .i64 8] w1 _ from HN2.out).mono ?_
 rintro e w2 ⟨rfl, hr2, hk2⟩
 have HB2 : Hid (Below w.heap.size w w2) := rd_kp HB1.out hk2 HB1.out.size (by rw [HPR.out]; exact Nat.le_refl _)
 obtain ⟨c0, c1, f0, f1⟩ := hr2.cells
 have HR2 := Lib.hid hr2
 clear hk2 HN2 hr2
 go_wp2_with fail
 go_ret
 rw [HO.out]
 exact ⟨HB2.out.mono hB2, rfl⟩
theorem rfread_no2 (B p : Nat) (dp v : Value) (q : Qs) (s : List UInt8) (w : World) (hq : RQueueAt w p dp v q.last false) (hv : w.owns B 48 9 v q.jobs.length (jobsL q.jobs)) (hB : B ≤ p) (hB2 : B ≤ w.heap.size) (ho : q.ok) (hs : s.length ≤ 1000000) {k : Nat} {s1 : List UInt8} (h1 : takeN s 1 = some (k, s1)) (h2 : takeN s1 8 = none) (hone : q.one s = none) :
  Calls Tryz.prog 64 #[.pointer (some ⟨p, 0, none⟩), strV s] w (RdP B p dp w (q.one s)) := by
 have hk256 := (takeN_lt h1).1
 have hl1 : s1.length ≤ 1000000 := by rw [(takeN_lt h1).2.1, List.length_drop]; omega
 have hid1 : idI k = (k : Int) := by unfold idI; rw [if_pos (by omega)]
 have e1 : numR s 1 = ((k : Int), s1, false) := by unfold numR; rw [h1]; dsimp only; rw [hid1]
 have e2 : numR s1 8 = (0, [], true) := by unfold numR; rw [h2]
 have HQ := Lib.hid hq
 have HV := Lib.hid hv
 obtain ⟨r0, b0⟩ := rd_new w s
 obtain ⟨W0, hW0⟩ : ∃ W, W = w.alloc (.cells #[.string (bytesOf s), .bool false] 139) := ⟨_, rfl⟩
 rw [← hW0] at r0 b0
 have HW0 := Lib.hid hW0
 have HN1 := Lib.hid (rfnum_any w.heap.size 1 s false (by omega) (by omega) W0 r0)
 rw [e1] at HN1
 have HB0 := Lib.hid b0
 have HO := Lib.hid hone
 have HOK := Lib.hid ho
 have hpw : p < w.heap.size := lt_of_heap hq
 have HLEN : Hid (p < w.heap.size ∧ B ≤ p ∧ s.length ≤ 1000000) := ⟨hpw, hB, hs⟩
 obtain ⟨pr, hpr⟩ : ∃ pr, pr = w.heap.size := ⟨_, rfl⟩
 rw [← hpr] at HN1
 have HPR := Lib.hid hpr
 clear hq hv r0 b0 hW0 hone ho hpw hpr hB hs
 unfold strV
 go_enter Tryz.func64, Tryz.ntmps64
 go_upto_region 2 with fail
 rw [← HW0.out, ← HPR.out]
 go_wp2_with fail
 refine (show Calls Tryz.prog 107 #[.pointer (some ⟨pr, 0, none⟩), .int .i64 1] W0 _ from HN1.out).mono ?_
 rintro e w1 ⟨rfl, hr1, hk1⟩
 have HB1 : Hid (Below w.heap.size w w1) := rd_kp HB0.out hk1 HB0.out.size (by rw [HPR.out]; exact Nat.le_refl _)
 have HN2 := Lib.hid (rfnum_any pr 8 _ _ (by omega) (by have := HLEN.out; omega) w1 hr1)
 rw [e2] at HN2
 clear hr1 hk1 HN1
 go_wp2_with fail
 refine (show Calls Tryz.prog 107 #[.pointer (some ⟨pr, 0, none⟩), .int .i64 8] w1 _ from HN2.out).mono ?_
 rintro e w2 ⟨rfl, hr2, hk2⟩
 have HB2 : Hid (Below w.heap.size w w2) := rd_kp HB1.out hk2 HB1.out.size (by rw [HPR.out]; exact Nat.le_refl _)
 obtain ⟨c0, c1, f0, f1⟩ := hr2.cells
 have HR2 := Lib.hid hr2
 clear hk2 HN2 hr2
 go_wp2_with fail
 go_ret
 rw [HO.out]
 exact ⟨HB2.out.mono hB2, rfl⟩
theorem rfread_no3 (B p : Nat) (dp v : Value) (q : Qs) (s : List UInt8) (w : World) (hq : RQueueAt w p dp v q.last false) (hv : w.owns B 48 9 v q.jobs.length (jobsL q.jobs)) (hB : B ≤ p) (hB2 : B ≤ w.heap.size) (ho : q.ok) (hs : s.length ≤ 1000000) {k id : Nat} {s1 s2 : List UInt8} (h1 : takeN s 1 = some (k, s1)) (h2 : takeN s1 8 = some (id, s2)) (hlo : k < 1) (hone : q.one s = none) :
  Calls Tryz.prog 64 #[.pointer (some ⟨p, 0, none⟩), strV s] w (RdP B p dp w (q.one s)) := by
 have hk256 := (takeN_lt h1).1
 have hl1 : s1.length ≤ 1000000 := by rw [(takeN_lt h1).2.1, List.length_drop]; omega
 have hl2 : s2.length ≤ 1000000 := by rw [(takeN_lt h2).2.1, List.length_drop]; omega
 have hid1 : idI k = (k : Int) := by unfold idI; rw [if_pos (by omega)]
 have e1 : numR s 1 = ((k : Int), s1, false) := by unfold numR; rw [h1]; dsimp only; rw [hid1]
 have e2 : numR s1 8 = (idI id, s2, false) := by unfold numR; rw [h2]
 have hlo' : (k : Int) < 1 := by omega
 have HQ := Lib.hid hq
 have HV := Lib.hid hv
 obtain ⟨r0, b0⟩ := rd_new w s
 obtain ⟨W0, hW0⟩ : ∃ W, W = w.alloc (.cells #[.string (bytesOf s), .bool false] 139) := ⟨_, rfl⟩
 rw [← hW0] at r0 b0
 have HW0 := Lib.hid hW0
 have HN1 := Lib.hid (rfnum_any w.heap.size 1 s false (by omega) (by omega) W0 r0)
 rw [e1] at HN1
 have HB0 := Lib.hid b0
 have HO := Lib.hid hone
 have HOK := Lib.hid ho
 have hpw : p < w.heap.size := lt_of_heap hq
 have HLEN : Hid (p < w.heap.size ∧ B ≤ p ∧ s.length ≤ 1000000) := ⟨hpw, hB, hs⟩
 obtain ⟨pr, hpr⟩ : ∃ pr, pr = w.heap.size := ⟨_, rfl⟩
 rw [← hpr] at HN1
 have HPR := Lib.hid hpr
 clear hq hv r0 b0 hW0 hone ho hpw hpr hB hs
 unfold strV
 go_enter Tryz.func64, Tryz.ntmps64
 go_upto_region 2 with fail
 rw [← HW0.out, ← HPR.out]
 go_wp2_with fail
 refine (show Calls Tryz.prog 107 #[.pointer (some ⟨pr, 0, none⟩), .int .i64 1] W0 _ from HN1.out).mono ?_
 rintro e w1 ⟨rfl, hr1, hk1⟩
 have HB1 : Hid (Below w.heap.size w w1) := rd_kp HB0.out hk1 HB0.out.size (by rw [HPR.out]; exact Nat.le_refl _)
 have HN2 := Lib.hid (rfnum_any pr 8 _ _ (by omega) (by have := HLEN.out; omega) w1 hr1)
 rw [e2] at HN2
 clear hr1 hk1 HN1
 go_wp2_with fail
 refine (show Calls Tryz.prog 107 #[.pointer (some ⟨pr, 0, none⟩), .int .i64 8] w1 _ from HN2.out).mono ?_
 rintro e w2 ⟨rfl, hr2, hk2⟩
 have HB2 : Hid (Below w.heap.size w w2) := rd_kp HB1.out hk2 HB1.out.size (by rw [HPR.out]; exact Nat.le_refl _)
 obtain ⟨c0, c1, f0, f1⟩ := hr2.cells
 have HR2 := Lib.hid hr2
 clear hk2 HN2 hr2
 go_wp2_with fail
 go_ret
 rw [HO.out]
 exact ⟨HB2.out.mono hB2, rfl⟩
theorem rfread_no4 (B p : Nat) (dp v : Value) (q : Qs) (s : List UInt8) (w : World) (hq : RQueueAt w p dp v q.last false) (hv : w.owns B 48 9 v q.jobs.length (jobsL q.jobs)) (hB : B ≤ p) (hB2 : B ≤ w.heap.size) (ho : q.ok) (hs : s.length ≤ 1000000) {k id : Nat} {s1 s2 : List UInt8} (h1 : takeN s 1 = some (k, s1)) (h2 : takeN s1 8 = some (id, s2)) (hlo : ¬ k < 1) (hhi : 6 < k) (hone : q.one s = none) :
  Calls Tryz.prog 64 #[.pointer (some ⟨p, 0, none⟩), strV s] w (RdP B p dp w (q.one s)) := by
 have hk256 := (takeN_lt h1).1
 have hl1 : s1.length ≤ 1000000 := by rw [(takeN_lt h1).2.1, List.length_drop]; omega
 have hl2 : s2.length ≤ 1000000 := by rw [(takeN_lt h2).2.1, List.length_drop]; omega
 have hid1 : idI k = (k : Int) := by unfold idI; rw [if_pos (by omega)]
 have e1 : numR s 1 = ((k : Int), s1, false) := by unfold numR; rw [h1]; dsimp only; rw [hid1]
 have e2 : numR s1 8 = (idI id, s2, false) := by unfold numR; rw [h2]
 have hlo' : ¬ (k : Int) < 1 := by omega
 have hhi' : (6 : Int) < (k : Int) := by omega
 have HQ := Lib.hid hq
 have HV := Lib.hid hv
 obtain ⟨r0, b0⟩ := rd_new w s
 obtain ⟨W0, hW0⟩ : ∃ W, W = w.alloc (.cells #[.string (bytesOf s), .bool false] 139) := ⟨_, rfl⟩
 rw [← hW0] at r0 b0
 have HW0 := Lib.hid hW0
 have HN1 := Lib.hid (rfnum_any w.heap.size 1 s false (by omega) (by omega) W0 r0)
 rw [e1] at HN1
 have HB0 := Lib.hid b0
 have HO := Lib.hid hone
 have HOK := Lib.hid ho
 have hpw : p < w.heap.size := lt_of_heap hq
 have HLEN : Hid (p < w.heap.size ∧ B ≤ p ∧ s.length ≤ 1000000) := ⟨hpw, hB, hs⟩
 obtain ⟨pr, hpr⟩ : ∃ pr, pr = w.heap.size := ⟨_, rfl⟩
 rw [← hpr] at HN1
 have HPR := Lib.hid hpr
 clear hq hv r0 b0 hW0 hone ho hpw hpr hB hs
 unfold strV
 go_enter Tryz.func64, Tryz.ntmps64
 go_upto_region 2 with fail
 rw [← HW0.out, ← HPR.out]
 go_wp2_with fail
 refine (show Calls Tryz.prog 107 #[.pointer (some ⟨pr, 0, none⟩), .int .i64 1] W0 _ from HN1.out).mono ?_
 rintro e w1 ⟨rfl, hr1, hk1⟩
 have HB1 : Hid (Below w.heap.size w w1) := rd_kp HB0.out hk1 HB0.out.size (by rw [HPR.out]; exact Nat.le_refl _)
 have HN2 := Lib.hid (rfnum_any pr 8 _ _ (by omega) (by have := HLEN.out; omega) w1 hr1)
 rw [e2] at HN2
 clear hr1 hk1 HN1
 go_wp2_with fail
 refine (show Calls Tryz.prog 107 #[.pointer (some ⟨pr, 0, none⟩), .int .i64 8] w1 _ from HN2.out).mono ?_
 rintro e w2 ⟨rfl, hr2, hk2⟩
 have HB2 : Hid (Below w.heap.size w w2) := rd_kp HB1.out hk2 HB1.out.size (by rw [HPR.out]; exact Nat.le_refl _)
 obtain ⟨c0, c1, f0, f1⟩ := hr2.cells
 have HR2 := Lib.hid hr2
 clear hk2 HN2 hr2
 go_wp2_with fail
 go_ret
 rw [HO.out]
 exact ⟨HB2.out.mono hB2, rfl⟩
theorem rfread_no5 (B p : Nat) (dp v : Value) (q : Qs) (s : List UInt8) (w : World) (hq : RQueueAt w p dp v q.last false) (hv : w.owns B 48 9 v q.jobs.length (jobsL q.jobs)) (hB : B ≤ p) (hB2 : B ≤ w.heap.size) (ho : q.ok) (hs : s.length ≤ 1000000) {k id : Nat} {s1 s2 : List UInt8} (h1 : takeN s 1 = some (k, s1)) (h2 : takeN s1 8 = some (id, s2)) (hlo : ¬ k < 1) (hhi : ¬ 6 < k) (hid : ¬ id < 9223372036854775808) (hone : q.one s = none) :
  Calls Tryz.prog 64 #[.pointer (some ⟨p, 0, none⟩), strV s] w (RdP B p dp w (q.one s)) := by
 have hk256 := (takeN_lt h1).1
 have hl1 : s1.length ≤ 1000000 := by rw [(takeN_lt h1).2.1, List.length_drop]; omega
 have hl2 : s2.length ≤ 1000000 := by rw [(takeN_lt h2).2.1, List.length_drop]; omega
 have hid1 : idI k = (k : Int) := by unfold idI; rw [if_pos (by omega)]
 have e1 : numR s 1 = ((k : Int), s1, false) := by unfold numR; rw [h1]; dsimp only; rw [hid1]
 have e2 : numR s1 8 = (idI id, s2, false) := by unfold numR; rw [h2]
 have hlo' : ¬ (k : Int) < 1 := by omega
 have hhi' : ¬ (6 : Int) < (k : Int) := by omega
 have hid2 : id < 18446744073709551616 := (takeN_lt h2).1
 have hneg : idI id < 0 := by unfold idI; rw [if_neg hid]; omega
 have HQ := Lib.hid hq
 have HV := Lib.hid hv
 obtain ⟨r0, b0⟩ := rd_new w s
 obtain ⟨W0, hW0⟩ : ∃ W, W = w.alloc (.cells #[.string (bytesOf s), .bool false] 139) := ⟨_, rfl⟩
 rw [← hW0] at r0 b0
 have HW0 := Lib.hid hW0
 have HN1 := Lib.hid (rfnum_any w.heap.size 1 s false (by omega) (by omega) W0 r0)
 rw [e1] at HN1
 have HB0 := Lib.hid b0
 have HO := Lib.hid hone
 have HOK := Lib.hid ho
 have hpw : p < w.heap.size := lt_of_heap hq
 have HLEN : Hid (p < w.heap.size ∧ B ≤ p ∧ s.length ≤ 1000000) := ⟨hpw, hB, hs⟩
 obtain ⟨pr, hpr⟩ : ∃ pr, pr = w.heap.size := ⟨_, rfl⟩
 rw [← hpr] at HN1
 have HPR := Lib.hid hpr
 clear hq hv r0 b0 hW0 hone ho hpw hpr hB hs
 unfold strV
 go_enter Tryz.func64, Tryz.ntmps64
 go_upto_region 2 with fail
 rw [← HW0.out, ← HPR.out]
 go_wp2_with fail
 refine (show Calls Tryz.prog 107 #[.pointer (some ⟨pr, 0, none⟩), .int .i64 1] W0 _ from HN1.out).mono ?_
 rintro e w1 ⟨rfl, hr1, hk1⟩
 have HB1 : Hid (Below w.heap.size w w1) := rd_kp HB0.out hk1 HB0.out.size (by rw [HPR.out]; exact Nat.le_refl _)
 have HN2 := Lib.hid (rfnum_any pr 8 _ _ (by omega) (by have := HLEN.out; omega) w1 hr1)
 rw [e2] at HN2
 clear hr1 hk1 HN1
 go_wp2_with fail
 refine (show Calls Tryz.prog 107 #[.pointer (some ⟨pr, 0, none⟩), .int .i64 8] w1 _ from HN2.out).mono ?_
 rintro e w2 ⟨rfl, hr2, hk2⟩
 have HB2 : Hid (Below w.heap.size w w2) := rd_kp HB1.out hk2 HB1.out.size (by rw [HPR.out]; exact Nat.le_refl _)
 obtain ⟨c0, c1, f0, f1⟩ := hr2.cells
 have HR2 := Lib.hid hr2
 clear hk2 HN2 hr2
 go_wp2_with fail
 go_ret
 rw [HO.out]
 exact ⟨HB2.out.mono hB2, rfl⟩
theorem rfread_no6 (B p : Nat) (dp v : Value) (q : Qs) (s : List UInt8) (w : World) (hq : RQueueAt w p dp v q.last false) (hv : w.owns B 48 9 v q.jobs.length (jobsL q.jobs)) (hB : B ≤ p) (hB2 : B ≤ w.heap.size) (ho : q.ok) (hs : s.length ≤ 1000000) {k id : Nat} {s1 s2 : List UInt8} (h1 : takeN s 1 = some (k, s1)) (h2 : takeN s1 8 = some (id, s2)) (hlo : ¬ k < 1) (hhi : ¬ 6 < k) (hid : id = 0) (h6 : ¬ k = 6) (hone : q.one s = none) :
  Calls Tryz.prog 64 #[.pointer (some ⟨p, 0, none⟩), strV s] w (RdP B p dp w (q.one s)) := by
 have hk256 := (takeN_lt h1).1
 have hl1 : s1.length ≤ 1000000 := by rw [(takeN_lt h1).2.1, List.length_drop]; omega
 have hl2 : s2.length ≤ 1000000 := by rw [(takeN_lt h2).2.1, List.length_drop]; omega
 have hid1 : idI k = (k : Int) := by unfold idI; rw [if_pos (by omega)]
 have e1 : numR s 1 = ((k : Int), s1, false) := by unfold numR; rw [h1]; dsimp only; rw [hid1]
 have e2 : numR s1 8 = (idI id, s2, false) := by unfold numR; rw [h2]
 have hlo' : ¬ (k : Int) < 1 := by omega
 have hhi' : ¬ (6 : Int) < (k : Int) := by omega
 subst hid
 have hneg : idI 0 = 0 := rfl
 rw [hneg] at e2
 have h6' : ¬ (k : Int) = 6 := by omega
 have h6b : ((k : Int) != 6) = true := by simp; omega
 have HQ := Lib.hid hq
 have HV := Lib.hid hv
 obtain ⟨r0, b0⟩ := rd_new w s
 obtain ⟨W0, hW0⟩ : ∃ W, W = w.alloc (.cells #[.string (bytesOf s), .bool false] 139) := ⟨_, rfl⟩
 rw [← hW0] at r0 b0
 have HW0 := Lib.hid hW0
 have HN1 := Lib.hid (rfnum_any w.heap.size 1 s false (by omega) (by omega) W0 r0)
 rw [e1] at HN1
 have HB0 := Lib.hid b0
 have HO := Lib.hid hone
 have HOK := Lib.hid ho
 have hpw : p < w.heap.size := lt_of_heap hq
 have HLEN : Hid (p < w.heap.size ∧ B ≤ p ∧ s.length ≤ 1000000) := ⟨hpw, hB, hs⟩
 obtain ⟨pr, hpr⟩ : ∃ pr, pr = w.heap.size := ⟨_, rfl⟩
 rw [← hpr] at HN1
 have HPR := Lib.hid hpr
 clear hq hv r0 b0 hW0 hone ho hpw hpr hB hs
 unfold strV
 go_enter Tryz.func64, Tryz.ntmps64
 go_upto_region 2 with fail
 rw [← HW0.out, ← HPR.out]
 go_wp2_with fail
 refine (show Calls Tryz.prog 107 #[.pointer (some ⟨pr, 0, none⟩), .int .i64 1] W0 _ from HN1.out).mono ?_
 rintro e w1 ⟨rfl, hr1, hk1⟩
 have HB1 : Hid (Below w.heap.size w w1) := rd_kp HB0.out hk1 HB0.out.size (by rw [HPR.out]; exact Nat.le_refl _)
 have HN2 := Lib.hid (rfnum_any pr 8 _ _ (by omega) (by have := HLEN.out; omega) w1 hr1)
 rw [e2] at HN2
 clear hr1 hk1 HN1
 go_wp2_with fail
 refine (show Calls Tryz.prog 107 #[.pointer (some ⟨pr, 0, none⟩), .int .i64 8] w1 _ from HN2.out).mono ?_
 rintro e w2 ⟨rfl, hr2, hk2⟩
 have HB2 : Hid (Below w.heap.size w w2) := rd_kp HB1.out hk2 HB1.out.size (by rw [HPR.out]; exact Nat.le_refl _)
 obtain ⟨c0, c1, f0, f1⟩ := hr2.cells
 have HR2 := Lib.hid hr2
 clear hk2 HN2 hr2
 go_wp2_with fail
 go_ret
 rw [HO.out]
 exact ⟨HB2.out.mono hB2, rfl⟩
end
/- Walks: the reference's queue of jobs: a record is read. Printed by gen_rc4.py. -/
section
open Go.RowKit Go.Shelf
theorem one_of {q : Qs} {s s1 s2 : List UInt8} {k id : Nat} (h1 : takeN s 1 = some (k, s1)) (h2 : takeN s1 8 = some (id, s2)) (hk : 1 ≤ k ∧ k ≤ 6) (hid : id < 9223372036854775808) (h0 : 0 < id ∨ k = 6) :
  q.one s = (rdK k q s2 id).bind fun x => if x.2 = [] then some x.1 else none := by
 unfold Qs.one
 rw [h1, Option.bind_some]
 dsimp only
 rw [if_pos hk, h2, Option.bind_some]
 dsimp only
 rw [if_pos ⟨hid, h0⟩]
theorem empty_eq {s : List UInt8} (h : s = []) : (bytesOf s).toList = [] ∧ ((bytesOf s).toList == []) = true := by
 have e : (bytesOf s).toList = [] := by rw [ByteArray.toList_eq]; exact h
 exact ⟨e, by rw [e]; rfl⟩
theorem empty_ne {s : List UInt8} (h : ¬ s = []) : ¬ (bytesOf s).toList = [] ∧ ((bytesOf s).toList == []) = false := by
 have e : ¬ (bytesOf s).toList = [] := by rw [ByteArray.toList_eq]; exact h
 exact ⟨e, by rw [beq_eq_false_iff_ne]; exact e⟩
theorem rfread_6z (B p : Nat) (dp v : Value) (q : Qs) (s : List UInt8) (w : World) (hq : RQueueAt w p dp v q.last false) (hv : w.owns B 48 9 v q.jobs.length (jobsL q.jobs)) (hB : B ≤ p) (hB2 : B ≤ w.heap.size) (ho : q.ok) (hs : s.length ≤ 1000000) {id : Nat} {s1 s2 : List UInt8} (h1 : takeN s 1 = some (6, s1)) (h2 : takeN s1 8 = some (id, s2)) (hid : id < 9223372036854775808) (hz : id = 0) :
  Calls Tryz.prog 64 #[.pointer (some ⟨p, 0, none⟩), strV s] w (RdP B p dp w (q.one s)) := by
 have hl1 : s1.length ≤ 1000000 := by rw [(takeN_lt h1).2.1, List.length_drop]; omega
 have hl2 : s2.length ≤ 1000000 := by rw [(takeN_lt h2).2.1, List.length_drop]; omega
 have hidp : idI id = (id : Int) := by unfold idI; rw [if_pos hid]
 have hid1 : idI 6 = (6 : Int) := rfl
 have e1 : numR s 1 = ((6 : Int), s1, false) := by unfold numR; rw [h1]; dsimp only; rw [hid1]
 have e2 : numR s1 8 = ((id : Int), s2, false) := by unfold numR; rw [h2]; dsimp only; rw [hidp]
 have hone0 := one_of (q := q) h1 h2 (by omega) hid (.inr rfl)
 have hn0 : ¬ (id : Int) < 0 := by omega
 have hz' : ((id : Int) == 0) = true := by rw [hz]; rfl
 clear hz
 by_cases he : s2 = []
 ·obtain ⟨t1, t2⟩ := empty_eq he
  by_cases hlt : q.last ≤ id
  ·have hone : q.one s = some { q with last := id } := by
    rw [hone0]
    unfold rdK rd6
    simp [hlt, he]
   have hlt' : ¬ (id : Int) < (q.last : Int) := by omega
   clear hone0 hlt he
   have HQ := Lib.hid hq
   have HV := Lib.hid hv
   obtain ⟨r0, b0⟩ := rd_new w s
   obtain ⟨W0, hW0⟩ : ∃ W, W = w.alloc (.cells #[.string (bytesOf s), .bool false] 139) := ⟨_, rfl⟩
   rw [← hW0] at r0 b0
   have HW0 := Lib.hid hW0
   have HN1 := Lib.hid (rfnum_any w.heap.size 1 s false (by omega) (by omega) W0 r0)
   rw [e1] at HN1
   have HB0 := Lib.hid b0
   have HO := Lib.hid hone
   have HOK := Lib.hid ho
   have hpw : p < w.heap.size := lt_of_heap hq
   have HLEN : Hid (p < w.heap.size ∧ B ≤ p ∧ s.length ≤ 1000000) := ⟨hpw, hB, hs⟩
   obtain ⟨pr, hpr⟩ : ∃ pr, pr = w.heap.size := ⟨_, rfl⟩
   rw [← hpr] at HN1
   have HPR := Lib.hid hpr
   clear hq hv r0 b0 hW0 hone ho hpw hpr hB hs
   unfold strV
   go_enter Tryz.func64, Tryz.ntmps64
   go_upto_region 2 with fail
   rw [← HW0.out, ← HPR.out]
   go_wp2_with fail
   refine (show Calls Tryz.prog 107 #[.pointer (some ⟨pr, 0, none⟩), .int .i64 1] W0 _ from HN1.out).mono ?_
   rintro e w1 ⟨rfl, hr1, hk1⟩
   have HB1 : Hid (Below w.heap.size w w1) := rd_kp HB0.out hk1 HB0.out.size (by rw [HPR.out]; exact Nat.le_refl _)
   have HN2 := Lib.hid (rfnum_any pr 8 _ _ (by omega) (by have := HLEN.out; omega) w1 hr1)
   rw [e2] at HN2
   clear hr1 hk1 HN1
   go_wp2_with fail
   refine (show Calls Tryz.prog 107 #[.pointer (some ⟨pr, 0, none⟩), .int .i64 8] w1 _ from HN2.out).mono ?_
   rintro e w2 ⟨rfl, hr2, hk2⟩
   have HB2 : Hid (Below w.heap.size w w2) := rd_kp HB1.out hk2 HB1.out.size (by rw [HPR.out]; exact Nat.le_refl _)
   obtain ⟨c0, c1, f0, f1⟩ := hr2.cells
   have HR2 := Lib.hid hr2
   clear hk2 HN2 hr2
   obtain ⟨k0, k1, k2, k3, g1, g2, g3⟩ := (HQ.out.below HB2.out).cells
   have HQ3 := Lib.hid ((HQ.out.below HB2.out).set2 (id : Int))
   have HV3 := Lib.hid ((HV.out.below HB2.out).setCell_ne (a := ⟨p, 2, none⟩) ((HQ.out.below HB2.out).ne (HV.out.below HB2.out)) (.int .i64 (id : Int)))
   go_wp2_with fail
   go_ret
   rw [HO.out]
   exact ⟨(HB2.out.mono hB2).setCell (p := ⟨p, 2, none⟩) HLEN.out.2.1 _, rfl, v, HQ3.out, HV3.out⟩
  ·have hone : q.one s = none := by
    rw [hone0]
    unfold rdK rd6
    simp [hlt]
   have hlt' : (id : Int) < (q.last : Int) := by omega
   clear hone0 hlt he
   have HQ := Lib.hid hq
   have HV := Lib.hid hv
   obtain ⟨r0, b0⟩ := rd_new w s
   obtain ⟨W0, hW0⟩ : ∃ W, W = w.alloc (.cells #[.string (bytesOf s), .bool false] 139) := ⟨_, rfl⟩
   rw [← hW0] at r0 b0
   have HW0 := Lib.hid hW0
   have HN1 := Lib.hid (rfnum_any w.heap.size 1 s false (by omega) (by omega) W0 r0)
   rw [e1] at HN1
   have HB0 := Lib.hid b0
   have HO := Lib.hid hone
   have HOK := Lib.hid ho
   have hpw : p < w.heap.size := lt_of_heap hq
   have HLEN : Hid (p < w.heap.size ∧ B ≤ p ∧ s.length ≤ 1000000) := ⟨hpw, hB, hs⟩
   obtain ⟨pr, hpr⟩ : ∃ pr, pr = w.heap.size := ⟨_, rfl⟩
   rw [← hpr] at HN1
   have HPR := Lib.hid hpr
   clear hq hv r0 b0 hW0 hone ho hpw hpr hB hs
   unfold strV
   go_enter Tryz.func64, Tryz.ntmps64
   go_upto_region 2 with fail
   rw [← HW0.out, ← HPR.out]
   go_wp2_with fail
   refine (show Calls Tryz.prog 107 #[.pointer (some ⟨pr, 0, none⟩), .int .i64 1] W0 _ from HN1.out).mono ?_
   rintro e w1 ⟨rfl, hr1, hk1⟩
   have HB1 : Hid (Below w.heap.size w w1) := rd_kp HB0.out hk1 HB0.out.size (by rw [HPR.out]; exact Nat.le_refl _)
   have HN2 := Lib.hid (rfnum_any pr 8 _ _ (by omega) (by have := HLEN.out; omega) w1 hr1)
   rw [e2] at HN2
   clear hr1 hk1 HN1
   go_wp2_with fail
   refine (show Calls Tryz.prog 107 #[.pointer (some ⟨pr, 0, none⟩), .int .i64 8] w1 _ from HN2.out).mono ?_
   rintro e w2 ⟨rfl, hr2, hk2⟩
   have HB2 : Hid (Below w.heap.size w w2) := rd_kp HB1.out hk2 HB1.out.size (by rw [HPR.out]; exact Nat.le_refl _)
   obtain ⟨c0, c1, f0, f1⟩ := hr2.cells
   have HR2 := Lib.hid hr2
   clear hk2 HN2 hr2
   obtain ⟨k0, k1, k2, k3, g1, g2, g3⟩ := (HQ.out.below HB2.out).cells
   go_wp2_with fail
   go_ret
   rw [HO.out]
   exact ⟨HB2.out.mono hB2, rfl⟩
 ·obtain ⟨t1, t2⟩ := empty_ne he
  have hone : q.one s = none := by
   rw [hone0]
   unfold rdK rd6
   by_cases hlt : q.last ≤ id <;> simp [hlt, he]
  clear hone0 he
  have HQ := Lib.hid hq
  have HV := Lib.hid hv
  obtain ⟨r0, b0⟩ := rd_new w s
  obtain ⟨W0, hW0⟩ : ∃ W, W = w.alloc (.cells #[.string (bytesOf s), .bool false] 139) := ⟨_, rfl⟩
  rw [← hW0] at r0 b0
  have HW0 := Lib.hid hW0
  have HN1 := Lib.hid (rfnum_any w.heap.size 1 s false (by omega) (by omega) W0 r0)
  rw [e1] at HN1
  have HB0 := Lib.hid b0
  have HO := Lib.hid hone
  have HOK := Lib.hid ho
  have hpw : p < w.heap.size := lt_of_heap hq
  have HLEN : Hid (p < w.heap.size ∧ B ≤ p ∧ s.length ≤ 1000000) := ⟨hpw, hB, hs⟩
  obtain ⟨pr, hpr⟩ : ∃ pr, pr = w.heap.size := ⟨_, rfl⟩
  rw [← hpr] at HN1
  have HPR := Lib.hid hpr
  clear hq hv r0 b0 hW0 hone ho hpw hpr hB hs
  unfold strV
  go_enter Tryz.func64, Tryz.ntmps64
  go_upto_region 2 with fail
  rw [← HW0.out, ← HPR.out]
  go_wp2_with fail
  refine (show Calls Tryz.prog 107 #[.pointer (some ⟨pr, 0, none⟩), .int .i64 1] W0 _ from HN1.out).mono ?_
  rintro e w1 ⟨rfl, hr1, hk1⟩
  have HB1 : Hid (Below w.heap.size w w1) := rd_kp HB0.out hk1 HB0.out.size (by rw [HPR.out]; exact Nat.le_refl _)
  have HN2 := Lib.hid (rfnum_any pr 8 _ _ (by omega) (by have := HLEN.out; omega) w1 hr1)
  rw [e2] at HN2
  clear hr1 hk1 HN1
  go_wp2_with fail
  refine (show Calls Tryz.prog 107 #[.pointer (some ⟨pr, 0, none⟩), .int .i64 8] w1 _ from HN2.out).mono ?_
  rintro e w2 ⟨rfl, hr2, hk2⟩
  have HB2 : Hid (Below w.heap.size w w2) := rd_kp HB1.out hk2 HB1.out.size (by rw [HPR.out]; exact Nat.le_refl _)
  obtain ⟨c0, c1, f0, f1⟩ := hr2.cells
  have HR2 := Lib.hid hr2
  clear hk2 HN2 hr2
  obtain ⟨k0, k1, k2, k3, g1, g2, g3⟩ := (HQ.out.below HB2.out).cells
  go_wp2_with fail
  go_ret
  rw [HO.out]
  exact ⟨HB2.out.mono hB2, rfl⟩
theorem rfread_6n (B p : Nat) (dp v : Value) (q : Qs) (s : List UInt8) (w : World) (hq : RQueueAt w p dp v q.last false) (hv : w.owns B 48 9 v q.jobs.length (jobsL q.jobs)) (hB : B ≤ p) (hB2 : B ≤ w.heap.size) (ho : q.ok) (hs : s.length ≤ 1000000) {id : Nat} {s1 s2 : List UInt8} (h1 : takeN s 1 = some (6, s1)) (h2 : takeN s1 8 = some (id, s2)) (hid : id < 9223372036854775808) (hz : ¬ id = 0) :
  Calls Tryz.prog 64 #[.pointer (some ⟨p, 0, none⟩), strV s] w (RdP B p dp w (q.one s)) := by
 have hl1 : s1.length ≤ 1000000 := by rw [(takeN_lt h1).2.1, List.length_drop]; omega
 have hl2 : s2.length ≤ 1000000 := by rw [(takeN_lt h2).2.1, List.length_drop]; omega
 have hidp : idI id = (id : Int) := by unfold idI; rw [if_pos hid]
 have hid1 : idI 6 = (6 : Int) := rfl
 have e1 : numR s 1 = ((6 : Int), s1, false) := by unfold numR; rw [h1]; dsimp only; rw [hid1]
 have e2 : numR s1 8 = ((id : Int), s2, false) := by unfold numR; rw [h2]; dsimp only; rw [hidp]
 have hone0 := one_of (q := q) h1 h2 (by omega) hid (.inr rfl)
 have hn0 : ¬ (id : Int) < 0 := by omega
 have hz' : ((id : Int) == 0) = false := by rw [beq_eq_false_iff_ne]; omega
 clear hz
 by_cases he : s2 = []
 ·obtain ⟨t1, t2⟩ := empty_eq he
  by_cases hlt : q.last ≤ id
  ·have hone : q.one s = some { q with last := id } := by
    rw [hone0]
    unfold rdK rd6
    simp [hlt, he]
   have hlt' : ¬ (id : Int) < (q.last : Int) := by omega
   clear hone0 hlt he
   have HQ := Lib.hid hq
   have HV := Lib.hid hv
   obtain ⟨r0, b0⟩ := rd_new w s
   obtain ⟨W0, hW0⟩ : ∃ W, W = w.alloc (.cells #[.string (bytesOf s), .bool false] 139) := ⟨_, rfl⟩
   rw [← hW0] at r0 b0
   have HW0 := Lib.hid hW0
   have HN1 := Lib.hid (rfnum_any w.heap.size 1 s false (by omega) (by omega) W0 r0)
   rw [e1] at HN1
   have HB0 := Lib.hid b0
   have HO := Lib.hid hone
   have HOK := Lib.hid ho
   have hpw : p < w.heap.size := lt_of_heap hq
   have HLEN : Hid (p < w.heap.size ∧ B ≤ p ∧ s.length ≤ 1000000) := ⟨hpw, hB, hs⟩
   obtain ⟨pr, hpr⟩ : ∃ pr, pr = w.heap.size := ⟨_, rfl⟩
   rw [← hpr] at HN1
   have HPR := Lib.hid hpr
   clear hq hv r0 b0 hW0 hone ho hpw hpr hB hs
   unfold strV
   go_enter Tryz.func64, Tryz.ntmps64
   go_upto_region 2 with fail
   rw [← HW0.out, ← HPR.out]
   go_wp2_with fail
   refine (show Calls Tryz.prog 107 #[.pointer (some ⟨pr, 0, none⟩), .int .i64 1] W0 _ from HN1.out).mono ?_
   rintro e w1 ⟨rfl, hr1, hk1⟩
   have HB1 : Hid (Below w.heap.size w w1) := rd_kp HB0.out hk1 HB0.out.size (by rw [HPR.out]; exact Nat.le_refl _)
   have HN2 := Lib.hid (rfnum_any pr 8 _ _ (by omega) (by have := HLEN.out; omega) w1 hr1)
   rw [e2] at HN2
   clear hr1 hk1 HN1
   go_wp2_with fail
   refine (show Calls Tryz.prog 107 #[.pointer (some ⟨pr, 0, none⟩), .int .i64 8] w1 _ from HN2.out).mono ?_
   rintro e w2 ⟨rfl, hr2, hk2⟩
   have HB2 : Hid (Below w.heap.size w w2) := rd_kp HB1.out hk2 HB1.out.size (by rw [HPR.out]; exact Nat.le_refl _)
   obtain ⟨c0, c1, f0, f1⟩ := hr2.cells
   have HR2 := Lib.hid hr2
   clear hk2 HN2 hr2
   obtain ⟨k0, k1, k2, k3, g1, g2, g3⟩ := (HQ.out.below HB2.out).cells
   have HQ3 := Lib.hid ((HQ.out.below HB2.out).set2 (id : Int))
   have HV3 := Lib.hid ((HV.out.below HB2.out).setCell_ne (a := ⟨p, 2, none⟩) ((HQ.out.below HB2.out).ne (HV.out.below HB2.out)) (.int .i64 (id : Int)))
   go_wp2_with fail
   go_ret
   rw [HO.out]
   exact ⟨(HB2.out.mono hB2).setCell (p := ⟨p, 2, none⟩) HLEN.out.2.1 _, rfl, v, HQ3.out, HV3.out⟩
  ·have hone : q.one s = none := by
    rw [hone0]
    unfold rdK rd6
    simp [hlt]
   have hlt' : (id : Int) < (q.last : Int) := by omega
   clear hone0 hlt he
   have HQ := Lib.hid hq
   have HV := Lib.hid hv
   obtain ⟨r0, b0⟩ := rd_new w s
   obtain ⟨W0, hW0⟩ : ∃ W, W = w.alloc (.cells #[.string (bytesOf s), .bool false] 139) := ⟨_, rfl⟩
   rw [← hW0] at r0 b0
   have HW0 := Lib.hid hW0
   have HN1 := Lib.hid (rfnum_any w.heap.size 1 s false (by omega) (by omega) W0 r0)
   rw [e1] at HN1
   have HB0 := Lib.hid b0
   have HO := Lib.hid hone
   have HOK := Lib.hid ho
   have hpw : p < w.heap.size := lt_of_heap hq
   have HLEN : Hid (p < w.heap.size ∧ B ≤ p ∧ s.length ≤ 1000000) := ⟨hpw, hB, hs⟩
   obtain ⟨pr, hpr⟩ : ∃ pr, pr = w.heap.size := ⟨_, rfl⟩
   rw [← hpr] at HN1
   have HPR := Lib.hid hpr
   clear hq hv r0 b0 hW0 hone ho hpw hpr hB hs
   unfold strV
   go_enter Tryz.func64, Tryz.ntmps64
   go_upto_region 2 with fail
   rw [← HW0.out, ← HPR.out]
   go_wp2_with fail
   refine (show Calls Tryz.prog 107 #[.pointer (some ⟨pr, 0, none⟩), .int .i64 1] W0 _ from HN1.out).mono ?_
   rintro e w1 ⟨rfl, hr1, hk1⟩
   have HB1 : Hid (Below w.heap.size w w1) := rd_kp HB0.out hk1 HB0.out.size (by rw [HPR.out]; exact Nat.le_refl _)
   have HN2 := Lib.hid (rfnum_any pr 8 _ _ (by omega) (by have := HLEN.out; omega) w1 hr1)
   rw [e2] at HN2
   clear hr1 hk1 HN1
   go_wp2_with fail
   refine (show Calls Tryz.prog 107 #[.pointer (some ⟨pr, 0, none⟩), .int .i64 8] w1 _ from HN2.out).mono ?_
   rintro e w2 ⟨rfl, hr2, hk2⟩
   have HB2 : Hid (Below w.heap.size w w2) := rd_kp HB1.out hk2 HB1.out.size (by rw [HPR.out]; exact Nat.le_refl _)
   obtain ⟨c0, c1, f0, f1⟩ := hr2.cells
   have HR2 := Lib.hid hr2
   clear hk2 HN2 hr2
   obtain ⟨k0, k1, k2, k3, g1, g2, g3⟩ := (HQ.out.below HB2.out).cells
   go_wp2_with fail
   go_ret
   rw [HO.out]
   exact ⟨HB2.out.mono hB2, rfl⟩
 ·obtain ⟨t1, t2⟩ := empty_ne he
  have hone : q.one s = none := by
   rw [hone0]
   unfold rdK rd6
   by_cases hlt : q.last ≤ id <;> simp [hlt, he]
  clear hone0 he
  have HQ := Lib.hid hq
  have HV := Lib.hid hv
  obtain ⟨r0, b0⟩ := rd_new w s
  obtain ⟨W0, hW0⟩ : ∃ W, W = w.alloc (.cells #[.string (bytesOf s), .bool false] 139) := ⟨_, rfl⟩
  rw [← hW0] at r0 b0
  have HW0 := Lib.hid hW0
  have HN1 := Lib.hid (rfnum_any w.heap.size 1 s false (by omega) (by omega) W0 r0)
  rw [e1] at HN1
  have HB0 := Lib.hid b0
  have HO := Lib.hid hone
  have HOK := Lib.hid ho
  have hpw : p < w.heap.size := lt_of_heap hq
  have HLEN : Hid (p < w.heap.size ∧ B ≤ p ∧ s.length ≤ 1000000) := ⟨hpw, hB, hs⟩
  obtain ⟨pr, hpr⟩ : ∃ pr, pr = w.heap.size := ⟨_, rfl⟩
  rw [← hpr] at HN1
  have HPR := Lib.hid hpr
  clear hq hv r0 b0 hW0 hone ho hpw hpr hB hs
  unfold strV
  go_enter Tryz.func64, Tryz.ntmps64
  go_upto_region 2 with fail
  rw [← HW0.out, ← HPR.out]
  go_wp2_with fail
  refine (show Calls Tryz.prog 107 #[.pointer (some ⟨pr, 0, none⟩), .int .i64 1] W0 _ from HN1.out).mono ?_
  rintro e w1 ⟨rfl, hr1, hk1⟩
  have HB1 : Hid (Below w.heap.size w w1) := rd_kp HB0.out hk1 HB0.out.size (by rw [HPR.out]; exact Nat.le_refl _)
  have HN2 := Lib.hid (rfnum_any pr 8 _ _ (by omega) (by have := HLEN.out; omega) w1 hr1)
  rw [e2] at HN2
  clear hr1 hk1 HN1
  go_wp2_with fail
  refine (show Calls Tryz.prog 107 #[.pointer (some ⟨pr, 0, none⟩), .int .i64 8] w1 _ from HN2.out).mono ?_
  rintro e w2 ⟨rfl, hr2, hk2⟩
  have HB2 : Hid (Below w.heap.size w w2) := rd_kp HB1.out hk2 HB1.out.size (by rw [HPR.out]; exact Nat.le_refl _)
  obtain ⟨c0, c1, f0, f1⟩ := hr2.cells
  have HR2 := Lib.hid hr2
  clear hk2 HN2 hr2
  obtain ⟨k0, k1, k2, k3, g1, g2, g3⟩ := (HQ.out.below HB2.out).cells
  go_wp2_with fail
  go_ret
  rw [HO.out]
  exact ⟨HB2.out.mono hB2, rfl⟩
end
/- Walks: the reference's queue of jobs: a record is read. Printed by gen_rc4.py. -/
section
open Go.RowKit Go.Shelf
theorem RdAt.below {w w' : World} {p : Nat} {s : List UInt8} {bad : Bool} (h : RdAt w p s bad) (hb : Below w.heap.size w w') : RdAt w' p s bad := (hb.block _ h.lt).trans h
theorem at_int (js : List Jb) (id : Nat) : (js.findIdx? fun j => decide ((j.id : Int) = (id : Int))) = js.findIdx? fun j => decide (j.id = id) := by
 congr 1
 funext j
 by_cases h : j.id = id
 ·rw [decide_eq_true h, decide_eq_true (by omega)]
 ·rw [decide_eq_false h, decide_eq_false (by omega)]
theorem rfread_at (B p : Nat) (dp v : Value) (q : Qs) (s : List UInt8) (w : World) (hq : RQueueAt w p dp v q.last false) (hv : w.owns B 48 9 v q.jobs.length (jobsL q.jobs)) (hB : B ≤ p) (hB2 : B ≤ w.heap.size) (ho : q.ok) (hs : s.length ≤ 1000000) {k id : Nat} {s1 s2 : List UInt8} (h1 : takeN s 1 = some (k, s1)) (h2 : takeN s1 8 = some (id, s2)) (hid : id < 9223372036854775808) (hz : ¬ id = 0) (hlo : 1 < k) (hhi : k < 6) (hat : q.at id = none) :
  Calls Tryz.prog 64 #[.pointer (some ⟨p, 0, none⟩), strV s] w (RdP B p dp w (q.one s)) := by
 have hk256 := (takeN_lt h1).1
 have hl1 : s1.length ≤ 1000000 := by rw [(takeN_lt h1).2.1, List.length_drop]; omega
 have hl2 : s2.length ≤ 1000000 := by rw [(takeN_lt h2).2.1, List.length_drop]; omega
 have hidp : idI id = (id : Int) := by unfold idI; rw [if_pos hid]
 have hid1 : idI k = (k : Int) := by unfold idI; rw [if_pos (by omega)]
 have e1 : numR s 1 = ((k : Int), s1, false) := by unfold numR; rw [h1]; dsimp only; rw [hid1]
 have e2 : numR s1 8 = ((id : Int), s2, false) := by unfold numR; rw [h2]; dsimp only; rw [hidp]
 have hn0 : ¬ (id : Int) < 0 := by omega
 have hz' : ((id : Int) == 0) = false := by rw [beq_eq_false_iff_ne]; omega
 have hone : q.one s = none := by
  rw [one_of (q := q) h1 h2 (by omega) hid (.inl (by omega))]
  unfold rdK rd2 rd3 rd4 rd5
  rw [if_neg (show ¬ k = 1 by omega), if_neg (show ¬ k = 6 by omega), hat]
  simp only [Option.bind_none]
  split <;> (try split) <;> (try split) <;> (try split) <;> rfl
 have hlo' : ¬ (k : Int) < 1 := by omega
 have hhi' : ¬ (6 : Int) < (k : Int) := by omega
 have hk1' : ((k : Int) == 1) = false := by rw [beq_eq_false_iff_ne]; omega
 have hk6' : ((k : Int) == 6) = false := by rw [beq_eq_false_iff_ne]; omega
 have HAT := Lib.hid hat
 clear hlo hhi hz hat
 have HQ := Lib.hid hq
 have HV := Lib.hid hv
 obtain ⟨r0, b0⟩ := rd_new w s
 obtain ⟨W0, hW0⟩ : ∃ W, W = w.alloc (.cells #[.string (bytesOf s), .bool false] 139) := ⟨_, rfl⟩
 rw [← hW0] at r0 b0
 have HW0 := Lib.hid hW0
 have HN1 := Lib.hid (rfnum_any w.heap.size 1 s false (by omega) (by omega) W0 r0)
 rw [e1] at HN1
 have HB0 := Lib.hid b0
 have HO := Lib.hid hone
 have HOK := Lib.hid ho
 have hpw : p < w.heap.size := lt_of_heap hq
 have HLEN : Hid (p < w.heap.size ∧ B ≤ p ∧ s.length ≤ 1000000) := ⟨hpw, hB, hs⟩
 obtain ⟨pr, hpr⟩ : ∃ pr, pr = w.heap.size := ⟨_, rfl⟩
 rw [← hpr] at HN1
 have HPR := Lib.hid hpr
 clear hq hv r0 b0 hW0 hone ho hpw hpr hB hs
 unfold strV
 go_enter Tryz.func64, Tryz.ntmps64
 go_upto_region 2 with fail
 rw [← HW0.out, ← HPR.out]
 go_wp2_with fail
 refine (show Calls Tryz.prog 107 #[.pointer (some ⟨pr, 0, none⟩), .int .i64 1] W0 _ from HN1.out).mono ?_
 rintro e w1 ⟨rfl, hr1, hk1⟩
 have HB1 : Hid (Below w.heap.size w w1) := rd_kp HB0.out hk1 HB0.out.size (by rw [HPR.out]; exact Nat.le_refl _)
 have HN2 := Lib.hid (rfnum_any pr 8 _ _ (by omega) (by have := HLEN.out; omega) w1 hr1)
 rw [e2] at HN2
 clear hr1 hk1 HN1
 go_wp2_with fail
 refine (show Calls Tryz.prog 107 #[.pointer (some ⟨pr, 0, none⟩), .int .i64 8] w1 _ from HN2.out).mono ?_
 rintro e w2 ⟨rfl, hr2, hk2⟩
 have HB2 : Hid (Below w.heap.size w w2) := rd_kp HB1.out hk2 HB1.out.size (by rw [HPR.out]; exact Nat.le_refl _)
 obtain ⟨c0, c1, f0, f1⟩ := hr2.cells
 have HR2 := Lib.hid hr2
 clear hk2 HN2 hr2
 obtain ⟨k0, k1, k2, k3, g1, g2, g3⟩ := (HQ.out.below HB2.out).cells
 have HA := Lib.hid (rfat_any p dp v q.last false q.jobs (id : Int) w2 (HQ.out.below HB2.out) (World.owns.mono (HV.out.below HB2.out) (Nat.zero_le _)) (by have := HOK.out.len; omega))
 rw [at_int, show (q.jobs.findIdx? fun j => decide (j.id = id)) = none from HAT.out] at HA
 rw [show placeI none = -1 from rfl] at HA
 go_wp2_with fail
 refine HA.out.mono ?_
 rintro e w3 ⟨rfl, rfl⟩
 go_wp2_with fail
 go_ret
 rw [HO.out]
 exact ⟨HB2.out.mono hB2, rfl⟩
theorem numR_len (s : List UInt8) (m : Nat) : (numR s m).2.1.length ≤ s.length := by
 unfold numR takeN
 split <;> rename_i h
 ·split at h
  ·injection h with h; subst h; show (s.drop m).length ≤ _; rw [List.length_drop]; omega
  ·cases h
 ·exact Nat.zero_le _
theorem textR_len (s : List UInt8) (m : Nat) : (textR s m).2.1.length ≤ s.length := by
 unfold textR takeT
 cases h : takeN s 4 with
 | none => exact Nat.zero_le _
 | some x =>
  have := (takeN_lt (n := x.1) (r := x.2) (by rw [h])).2.1
  rw [Option.bind_some]
  split <;> rename_i h2
  ·split at h2
   ·injection h2 with h2; subst h2; show (x.2.drop x.1).length ≤ _; rw [List.length_drop, this, List.length_drop]; omega
   ·cases h2
  ·exact Nat.zero_le _
end
/- Walks: the reference's queue of jobs: a record is read. Printed by gen_rc4.py. -/
section
open Go.RowKit Go.Shelf
theorem rd1_of {q : Qs} {s2 : List UInt8} {id : Nat} {n1 : Int} {r1 c r2 t r3 wk r4 : List UInt8} {b1 b2 b3 b4 : Bool} (h1 : (n1, r1, b1) = numR s2 1) (h2 : (c, r2, b2) = textR r1 32) (h3 : (t, r3, b3) = textR r2 32) (h4 : (wk, r4, b4) = textR r3 60000) :
  ((b1 || b2 || b3 || b4) = true → rd1 q s2 id = none) ∧ ((b1 || b2 || b3 || b4) = false → ∃ n : Nat, n1 = (n : Int) ∧ rd1 q s2 id =
   if n ≤ 9 ∧ labelB c = true ∧ labelB t = true ∧ q.last < id ∧ q.named c t = none ∧ q.jobs.length < 100 then some (⟨q.jobs ++ [⟨id, c, t, n, 1, 0, wk, [], []⟩], id⟩, r4) else none) := by
 unfold rd1
 unfold numR at h1
 cases e1 : takeN s2 1 with
 | none =>
  rw [e1] at h1
  injection h1 with h11 h12
  injection h12 with h12 h13
  subst h13
  exact ⟨fun _ => rfl, fun z => by simp at z⟩
 | some x1 =>
  obtain ⟨n, ra⟩ := x1
  rw [e1] at h1
  have hn := (takeN_lt e1).1
  injection h1 with h11 h12
  injection h12 with h12 h13
  dsimp only at h11 h12
  subst h12 h13
  have hn1 : n1 = (n : Int) := by rw [h11]; unfold idI; rw [if_pos (by omega)]
  unfold textR at h2
  dsimp only [Option.bind_some]
  cases e2 : takeT r1 32 with
  | none =>
   rw [e2] at h2
   injection h2 with h21 h22
   injection h22 with h22 h23
   subst h23
   exact ⟨fun _ => rfl, fun z => by simp at z⟩
  | some x2 =>
   obtain ⟨ca, rb⟩ := x2
   rw [e2] at h2
   injection h2 with h21 h22
   injection h22 with h22 h23
   dsimp only at h21 h22
   subst h21 h22 h23
   unfold textR at h3
   dsimp only [Option.bind_some]
   cases e3 : takeT r2 32 with
   | none =>
    rw [e3] at h3
    injection h3 with h31 h32
    injection h32 with h32 h33
    subst h33
    exact ⟨fun _ => rfl, fun z => by simp at z⟩
   | some x3 =>
    obtain ⟨ta, rc⟩ := x3
    rw [e3] at h3
    injection h3 with h31 h32
    injection h32 with h32 h33
    dsimp only at h31 h32
    subst h31 h32 h33
    unfold textR at h4
    dsimp only [Option.bind_some]
    cases e4 : takeT r3 60000 with
    | none =>
     rw [e4] at h4
     injection h4 with h41 h42
     injection h42 with h42 h43
     subst h43
     exact ⟨fun _ => rfl, fun z => by simp at z⟩
    | some x4 =>
     obtain ⟨ka, rd⟩ := x4
     rw [e4] at h4
     injection h4 with h41 h42
     injection h42 with h42 h43
     dsimp only at h41 h42
     subst h41 h42 h43
     exact ⟨fun z => by simp at z, fun _ => ⟨n, hn1, rfl⟩⟩
end
/- Walks: the reference's queue of jobs: a record is read. Printed by gen_rc4.py. -/
section
open Go.RowKit Go.Shelf
theorem rfread_1 (B p : Nat) (dp v : Value) (q : Qs) (s : List UInt8) (w : World) (hq : RQueueAt w p dp v q.last false) (hv : w.owns B 48 9 v q.jobs.length (jobsL q.jobs)) (hB : B ≤ p) (hB2 : B ≤ w.heap.size) (ho : q.ok) (hs : s.length ≤ 1000000) {id : Nat} {s1 s2 : List UInt8} (h1 : takeN s 1 = some (1, s1)) (h2 : takeN s1 8 = some (id, s2)) (hid : id < 9223372036854775808) (hz : ¬ id = 0) :
  Calls Tryz.prog 64 #[.pointer (some ⟨p, 0, none⟩), strV s] w (RdP B p dp w (q.one s)) := by
 have hl1 : s1.length ≤ 1000000 := by rw [(takeN_lt h1).2.1, List.length_drop]; omega
 have hl2 : s2.length ≤ 1000000 := by rw [(takeN_lt h2).2.1, List.length_drop]; omega
 have hidp : idI id = (id : Int) := by unfold idI; rw [if_pos hid]
 have hid1 : idI 1 = (1 : Int) := rfl
 have e1 : numR s 1 = ((1 : Int), s1, false) := by unfold numR; rw [h1]; dsimp only; rw [hid1]
 have e2 : numR s1 8 = ((id : Int), s2, false) := by unfold numR; rw [h2]; dsimp only; rw [hidp]
 have hn0 : ¬ (id : Int) < 0 := by omega
 have hz' : ((id : Int) == 0) = false := by rw [beq_eq_false_iff_ne]; omega
 have hone := one_of (q := q) h1 h2 (by omega) hid (.inl (by omega))
 obtain ⟨⟨n1, r1, b1⟩, hx1⟩ : ∃ x, x = numR s2 1 := ⟨_, rfl⟩
 obtain ⟨⟨c, r2, b2⟩, hx2⟩ : ∃ x, x = textR r1 32 := ⟨_, rfl⟩
 obtain ⟨⟨t, r3, b3⟩, hx3⟩ : ∃ x, x = textR r2 32 := ⟨_, rfl⟩
 obtain ⟨⟨wk, r4, b4⟩, hx4⟩ : ∃ x, x = textR r3 60000 := ⟨_, rfl⟩
 have HXL : Hid (r1.length ≤ 1000000 ∧ r2.length ≤ 1000000 ∧ r3.length ≤ 1000000 ∧ r4.length ≤ 1000000) := by
  have a1 := numR_len s2 1
  have a2 := textR_len r1 32
  have a3 := textR_len r2 32
  have a4 := textR_len r3 60000
  rw [← hx1] at a1
  rw [← hx2] at a2
  rw [← hx3] at a3
  rw [← hx4] at a4
  dsimp only at a1 a2 a3 a4
  exact ⟨by omega, by omega, by omega, by omega⟩
 have HX1 := Lib.hid hx1
 have HX2 := Lib.hid hx2
 have HX3 := Lib.hid hx3
 have HX4 := Lib.hid hx4
 clear hx1 hx2 hx3 hx4
 have HQ := Lib.hid hq
 have HV := Lib.hid hv
 obtain ⟨r0, b0⟩ := rd_new w s
 obtain ⟨W0, hW0⟩ : ∃ W, W = w.alloc (.cells #[.string (bytesOf s), .bool false] 139) := ⟨_, rfl⟩
 rw [← hW0] at r0 b0
 have HW0 := Lib.hid hW0
 have HN1 := Lib.hid (rfnum_any w.heap.size 1 s false (by omega) (by omega) W0 r0)
 rw [e1] at HN1
 have HB0 := Lib.hid b0
 have HOK := Lib.hid ho
 have hpw : p < w.heap.size := lt_of_heap hq
 have HLEN : Hid (p < w.heap.size ∧ B ≤ p ∧ s.length ≤ 1000000) := ⟨hpw, hB, hs⟩
 obtain ⟨pr, hpr⟩ : ∃ pr, pr = w.heap.size := ⟨_, rfl⟩
 rw [← hpr] at HN1
 have HPR := Lib.hid hpr
 clear hq hv r0 b0 hW0 ho hpw hpr hB hs
 unfold strV
 go_enter Tryz.func64, Tryz.ntmps64
 go_upto_region 2 with fail
 rw [← HW0.out, ← HPR.out]
 go_wp2_with fail
 refine (show Calls Tryz.prog 107 #[.pointer (some ⟨pr, 0, none⟩), .int .i64 1] W0 _ from HN1.out).mono ?_
 rintro e w1 ⟨rfl, hr1, hk1⟩
 have HB1 : Hid (Below w.heap.size w w1) := rd_kp HB0.out hk1 HB0.out.size (by rw [HPR.out]; exact Nat.le_refl _)
 have HN2 := Lib.hid (rfnum_any pr 8 _ _ (by omega) (by have := HLEN.out; omega) w1 hr1)
 rw [e2] at HN2
 clear hr1 hk1 HN1
 go_wp2_with fail
 refine (show Calls Tryz.prog 107 #[.pointer (some ⟨pr, 0, none⟩), .int .i64 8] w1 _ from HN2.out).mono ?_
 rintro e w2 ⟨rfl, hr2, hk2⟩
 have HB2 : Hid (Below w.heap.size w w2) := rd_kp HB1.out hk2 HB1.out.size (by rw [HPR.out]; exact Nat.le_refl _)
 obtain ⟨c0, c1, f0, f1⟩ := hr2.cells
 have HR2 := Lib.hid hr2
 clear hk2 HN2 hr2
 have HN3 := Lib.hid (rfnum_any pr 1 s2 false (by omega) (by omega) w2 HR2.out)
 rw [← HX1.out] at HN3
 dsimp only at HN3
 go_wp2_with fail
 refine (show Calls Tryz.prog 107 #[.pointer (some ⟨pr, 0, none⟩), .int .i64 1] w2 _ from HN3.out).mono ?_
 rintro e w3 ⟨rfl, hr3, hk3⟩
 clear c0 c1 f0 f1 HR2
 have HB3 : Hid (Below w.heap.size w w3) := rd_kp HB2.out hk3 HB2.out.size (by rw [HPR.out]; exact Nat.le_refl _)
 have HN4 := Lib.hid (rftext_any pr 32 _ _ (by omega) (by have := HXL.out; omega) w3 hr3)
 rw [← HX2.out] at HN4
 unfold strV at HN4
 dsimp only at HN4
 clear hr3 hk3 HN3
 go_wp2_with fail
 refine (show Calls Tryz.prog 108 #[.pointer (some ⟨pr, 0, none⟩), .int .i64 32] w3 _ from HN4.out).mono ?_
 rintro e w4 ⟨rfl, hr4, hk4⟩
 have HB4 : Hid (Below w.heap.size w w4) := rd_kp HB3.out hk4 HB3.out.size (by rw [HPR.out]; exact Nat.le_refl _)
 have HN5 := Lib.hid (rftext_any pr 32 _ _ (by omega) (by have := HXL.out; omega) w4 hr4)
 rw [← HX3.out] at HN5
 unfold strV at HN5
 dsimp only at HN5
 clear hr4 hk4 HN4
 go_wp2_with fail
 refine (show Calls Tryz.prog 108 #[.pointer (some ⟨pr, 0, none⟩), .int .i64 32] w4 _ from HN5.out).mono ?_
 rintro e w5 ⟨rfl, hr5, hk5⟩
 have HB5 : Hid (Below w.heap.size w w5) := rd_kp HB4.out hk5 HB4.out.size (by rw [HPR.out]; exact Nat.le_refl _)
 have HN6 := Lib.hid (rftext_any pr 60000 _ _ (by omega) (by have := HXL.out; omega) w5 hr5)
 rw [← HX4.out] at HN6
 unfold strV at HN6
 dsimp only at HN6
 clear hr5 hk5 HN5
 go_wp2_with fail
 refine (show Calls Tryz.prog 108 #[.pointer (some ⟨pr, 0, none⟩), .int .i64 60000] w5 _ from HN6.out).mono ?_
 rintro e w6 ⟨rfl, hr6, hk6⟩
 have HB6 : Hid (Below w.heap.size w w6) := rd_kp HB5.out hk6 HB5.out.size (by rw [HPR.out]; exact Nat.le_refl _)
 go_upto_region 8 with fail
 obtain ⟨va, vc, rfl⟩ : ∃ a c, v = .slice a q.jobs.length c := by
  rcases HV.out.2 with ⟨e, h0⟩ | ⟨g, c, _, _, e, _⟩
  ·exact ⟨none, 0, by rw [e, h0]⟩
  ·exact ⟨_, c, e⟩
 obtain ⟨W7, hW7⟩ : ∃ W, W = w6.alloc (.cells #[.int .i64 (id : Int), .string (bytesOf c), .string (bytesOf t), .int .i64 n1, .int .i64 1, .int .i64 0, .string (bytesOf wk), .string { data := #[] }, .string { data := #[] }] 48) := ⟨_, rfl⟩
 rw [← hW7]
 obtain ⟨jb, hjb⟩ : ∃ jb, jb = w6.heap.size := ⟨_, rfl⟩
 rw [← hjb]
 have hb67 : Below w6.heap.size w6 W7 := by rw [hW7]; exact (Below.refl _ w6).alloc (Nat.le_refl _) _
 have g7 : W7.heap[jb]? = some (.cells #[.int .i64 (id : Int), .string (bytesOf c), .string (bytesOf t), .int .i64 n1, .int .i64 1, .int .i64 0, .string (bytesOf wk), .string { data := #[] }, .string { data := #[] }] 48) := by rw [hW7, hjb]; exact alloc_last _ _ rfl
 have HB7 : Hid (Below w.heap.size w W7) := HB6.out.trans (hb67.mono HB6.out.size)
 obtain ⟨bd, hbd⟩ : ∃ bd, bd = (b1 || b2 || b3 || b4) := ⟨_, rfl⟩
 have hr7 : RdAt W7 pr r4 bd := by
  have := hr6.below hb67
  rw [hbd]
  simpa using this
 obtain ⟨R1, R2⟩ := rd1_of (q := q) (id := id) HX1.out HX2.out HX3.out HX4.out
 rw [← hbd] at R1 R2
 have HR1 := Lib.hid R1
 have HR2 := Lib.hid R2
 have HW7 := Lib.hid hW7
 have HJB : Hid (jb = w6.heap.size ∧ w.heap.size ≤ jb) := ⟨hjb, by rw [hjb]; exact HB6.out.size⟩
 have HG7 := Lib.hid g7
 obtain ⟨c0, c1, f0, f1⟩ := hr7.cells
 obtain ⟨k0, k1, k2, k3, y1, y2, y3⟩ := (HQ.out.below HB7.out).cells
 obtain ⟨m, hm⟩ : ∃ m, m = q.jobs.length := ⟨_, rfl⟩
 rw [← hm] at k1
 have HM := Lib.hid hm
 have j0 : W7.cell? ⟨jb, 0, none⟩ = some (.int .i64 (id : Int)) := by simp [World.cell?, g7]
 have j1 : W7.cell? ⟨jb, 1, none⟩ = some (.string (bytesOf c)) := by simp [World.cell?, g7]
 have j2 : W7.cell? ⟨jb, 2, none⟩ = some (.string (bytesOf t)) := by simp [World.cell?, g7]
 have j3 : W7.cell? ⟨jb, 3, none⟩ = some (.int .i64 n1) := by simp [World.cell?, g7]
 have HHO := Lib.hid hone
 have HLB := Lib.hid (rflabel_any c W7)
 have HLT := Lib.hid (rflabel_any t W7)
 have HNM := Lib.hid (rfnamed_any p dp (.slice va q.jobs.length vc) q.last false q.jobs c t W7 (HQ.out.below HB7.out) (World.owns.mono (HV.out.below HB7.out) (Nat.zero_le _)) (by have := HOK.out.len; omega))
 rw [show (q.jobs.findIdx? fun j => decide (j.client = c) && decide (j.token = t)) = q.named c t from rfl] at HNM
 unfold strV at HLB HLT HNM
 clear hW7 hjb hb67 g7 hr7 R1 R2 hm hone hr6 hk6 hbd
 cases bd with
 | true =>
  have hone : q.one s = none := by
   rw [HHO.out]
   unfold rdK
   rw [if_pos rfl]
   rw [HR1.out rfl]
   rfl
  have HO := Lib.hid hone
  clear hone
  go_wp2_with fail
  go_ret
  rw [HO.out]
  exact ⟨HB7.out.mono hB2, rfl⟩
 | false =>
  obtain ⟨n, hn1, hE⟩ := HR2.out rfl
  subst hn1
  have HE := Lib.hid hE
  clear hE
  by_cases he : r4 = []
  case neg =>
   obtain ⟨t1, t2⟩ := empty_ne he
   have HHE := Lib.hid he
   clear he
   have hone : q.one s = none := by
    rw [HHO.out]
    unfold rdK
    rw [if_pos rfl]
    rw [HE.out]
    split
    ·rw [Option.bind_some]; exact if_neg HHE.out
    ·rfl
   have HO := Lib.hid hone
   clear hone
   go_wp2_with fail
   go_ret
   rw [HO.out]
   exact ⟨HB7.out.mono hB2, rfl⟩
  obtain ⟨t1, t2⟩ := empty_eq he
  have HHE := Lib.hid he
  clear he
  by_cases hp : n ≤ 9
  case neg =>
   have hp' : (9 : Int) < (n : Int) := by omega
   have HHP := Lib.hid hp
   clear hp
   have hone : q.one s = none := by
    rw [HHO.out]
    unfold rdK
    rw [if_pos rfl]
    rw [HE.out, if_neg (by rintro ⟨z, -⟩; exact HHP.out z)]
    rfl
   have HO := Lib.hid hone
   clear hone
   go_wp2_with fail
   go_ret
   rw [HO.out]
   exact ⟨HB7.out.mono hB2, rfl⟩
  have hp' : ¬ (9 : Int) < (n : Int) := by omega
  have HHP := Lib.hid hp
  clear hp
  cases hlc : labelB c with
  | false =>
   rw [hlc] at HLB
   have HC1 := Lib.hid hlc
   clear hlc
   have hone : q.one s = none := by
    rw [HHO.out]
    unfold rdK
    rw [if_pos rfl]
    rw [HE.out, if_neg (by rintro ⟨-, z, -⟩; rw [HC1.out] at z; cases z)]
    rfl
   have HO := Lib.hid hone
   clear hone
   go_wp2_with fail
   refine HLB.out.mono ?_
   rintro e wz ⟨rfl, rfl⟩
   go_wp2_with fail
   go_ret
   rw [HO.out]
   exact ⟨HB7.out.mono hB2, rfl⟩
  | true =>
   rw [hlc] at HLB
   have HC1 := Lib.hid hlc
   clear hlc
   cases hlt : labelB t with
   | false =>
    rw [hlt] at HLT
    have HC2 := Lib.hid hlt
    clear hlt
    have hone : q.one s = none := by
     rw [HHO.out]
     unfold rdK
     rw [if_pos rfl]
     rw [HE.out, if_neg (by rintro ⟨-, -, z, -⟩; rw [HC2.out] at z; cases z)]
     rfl
    have HO := Lib.hid hone
    clear hone
    go_wp2_with fail
    refine HLB.out.mono ?_
    rintro e wz ⟨rfl, rfl⟩
    go_wp2_with fail
    refine HLT.out.mono ?_
    rintro e wz ⟨rfl, rfl⟩
    go_wp2_with fail
    go_ret
    rw [HO.out]
    exact ⟨HB7.out.mono hB2, rfl⟩
   | true =>
    rw [hlt] at HLT
    have HC2 := Lib.hid hlt
    clear hlt
    by_cases hla : q.last < id
    case neg =>
     have hla' : (id : Int) ≤ (q.last : Int) := by omega
     have HHL := Lib.hid hla
     clear hla
     have hone : q.one s = none := by
      rw [HHO.out]
      unfold rdK
      rw [if_pos rfl]
      rw [HE.out, if_neg (by rintro ⟨-, -, -, z, -⟩; exact HHL.out z)]
      rfl
     have HO := Lib.hid hone
     clear hone
     go_wp2_with fail
     refine HLB.out.mono ?_
     rintro e wz ⟨rfl, rfl⟩
     go_wp2_with fail
     refine HLT.out.mono ?_
     rintro e wz ⟨rfl, rfl⟩
     go_wp2_with fail
     go_ret
     rw [HO.out]
     exact ⟨HB7.out.mono hB2, rfl⟩
    have hla' : ¬ (id : Int) ≤ (q.last : Int) := by omega
    have HHL := Lib.hid hla
    clear hla
    cases hnm : q.named c t with
    | some kk =>
     rw [hnm, show placeI (some kk) = (kk : Int) from rfl] at HNM
     have HC3 := Lib.hid hnm
     have hkk : (0 : Int) ≤ (kk : Int) := by omega
     clear hnm
     have hone : q.one s = none := by
      rw [HHO.out]
      unfold rdK
      rw [if_pos rfl]
      rw [HE.out, if_neg (by rintro ⟨-, -, -, -, z, -⟩; rw [HC3.out] at z; cases z)]
      rfl
     have HO := Lib.hid hone
     clear hone
     go_wp2_with fail
     refine HLB.out.mono ?_
     rintro e wz ⟨rfl, rfl⟩
     go_wp2_with fail
     refine HLT.out.mono ?_
     rintro e wz ⟨rfl, rfl⟩
     go_wp2_with fail
     refine HNM.out.mono ?_
     rintro e wz ⟨rfl, rfl⟩
     go_wp2_with fail
     go_ret
     rw [HO.out]
     exact ⟨HB7.out.mono hB2, rfl⟩
    | none =>
     rw [hnm, show placeI none = -1 from rfl] at HNM
     have HC3 := Lib.hid hnm
     clear hnm
     by_cases hlen : m < 100
     case neg =>
      have hlen' : (100 : Int) ≤ (m : Int) := by omega
      have HH1 : Hid (¬ q.jobs.length < 100) := by rw [← HM.out]; exact hlen
      clear hlen
      have hone : q.one s = none := by
       rw [HHO.out]
       unfold rdK
       rw [if_pos rfl]
       rw [HE.out, if_neg (by rintro ⟨-, -, -, -, -, z⟩; exact HH1.out z)]
       rfl
      have HO := Lib.hid hone
      clear hone
      go_wp2_with fail
      refine HLB.out.mono ?_
      rintro e wz ⟨rfl, rfl⟩
      go_wp2_with fail
      refine HLT.out.mono ?_
      rintro e wz ⟨rfl, rfl⟩
      go_wp2_with fail
      refine HNM.out.mono ?_
      rintro e wz ⟨rfl, rfl⟩
      go_wp2_with fail
      go_ret
      rw [HO.out]
      exact ⟨HB7.out.mono hB2, rfl⟩
     have hlen' : ¬ (100 : Int) ≤ (m : Int) := by omega
     have HH1 : Hid (q.jobs.length < 100) := by rw [← HM.out]; exact hlen
     have hone : q.one s = some ⟨q.jobs ++ [⟨id, c, t, n, 1, 0, wk, [], []⟩], id⟩ := by
      rw [HHO.out]
      unfold rdK
      rw [if_pos rfl, HE.out, if_pos ⟨HHP.out, HC1.out, HC2.out, HHL.out, HC3.out, HH1.out⟩, Option.bind_some]
      exact if_pos HHE.out
     have HO := Lib.hid hone
     have hm100 : m < 100 := hlen
     clear hone hlen
     go_wp2_with fail
     refine HLB.out.mono ?_
     rintro e wz ⟨rfl, rfl⟩
     go_wp2_with fail
     refine HLT.out.mono ?_
     rintro e wz ⟨rfl, rfl⟩
     go_wp2_with fail
     refine HNM.out.mono ?_
     rintro e wn ⟨rfl, rfl⟩
     go_upto_region 10 with (fail)
     have BX : BoxAt wn jb ⟨id, c, t, n, 1, 0, wk, [], []⟩ := HG7.out
     have HBX := Lib.hid BX
     have hbx : ∀ i u, (Jb.cells ⟨id, c, t, n, 1, 0, wk, [], []⟩)[i]? = some u → wn.cell? ⟨jb, i, none⟩ = some u := fun i u hu => (BX.cell hu).1
     have OWN : Hid (wn.owns B 48 9 (.slice va m vc) m (jobsL q.jobs)) := by
      have h := HV.out.below HB7.out
      rw [← HM.out] at h
      exact h
     have RQ : Hid (RQueueAt wn p dp (.slice va m vc) q.last false) := by
      have h := HQ.out.below HB7.out
      rw [← HM.out] at h
      exact h
     have NEJ : Hid ((Value.slice va m vc).ownBlock ≠ some jb) := by
      intro e
      have h := HV.out
      rw [← HM.out] at h
      have := (h.lt jb e).2
      have := HJB.out.2
      omega
     have hjl : jb < wn.heap.size := lt_of_heap BX
     have hpl : p < wn.heap.size := lt_of_heap RQ.out
     have hBw : B ≤ wn.heap.size := by have := hB2; have := HB7.out.size; omega
     clear j0 j1 j2 j3 c0 c1 f0 f1 k0 k2 k3 y1 y2 y3 BX
     refine wp_region_late (fun w' => w'.cell? ⟨p, 1, none⟩ = some (.slice va m vc) ∧ w'.cell? ⟨jb, 0, none⟩ = some (.int .i64 (id : Int)) ∧ w'.cell? ⟨jb, 1, none⟩ = some (.string (bytesOf c)) ∧ w'.cell? ⟨jb, 2, none⟩ = some (.string (bytesOf t)) ∧ w'.cell? ⟨jb, 3, none⟩ = some (.int .i64 (n : Int)) ∧ w'.cell? ⟨jb, 4, none⟩ = some (.int .i64 1) ∧ w'.cell? ⟨jb, 5, none⟩ = some (.int .i64 0) ∧ w'.cell? ⟨jb, 6, none⟩ = some (.string (bytesOf wk)) ∧ w'.cell? ⟨jb, 7, none⟩ = some (.string (bytesOf [])) ∧ w'.cell? ⟨jb, 8, none⟩ = some (.string (bytesOf []))) (fun j => decide (j = 12 ∨ j = 15)) (by kernel_rfl) ⟨k1, hbx 0 _ rfl, hbx 1 _ rfl, hbx 2 _ rfl, hbx 3 _ rfl, hbx 4 _ rfl, hbx 5 _ rfl, hbx 6 _ rfl, hbx 7 _ rfl, hbx 8 _ rfl⟩ (fun hS => ?_)
     refine tkD 0 (v := ?_) rfl ?_ ?_
     rotate_left
     ·(intro wq hSq; (try dsimp only at hSq); go_simp; try with_reducible rfl)
     try simp only [q0P, q0Q, q0R, q0S]
     refine tkD 2 (v := ?_) rfl ?_ ?_
     rotate_left
     ·(intro wq hSq; (try dsimp only at hSq); go_simp; try with_reducible rfl)
     try simp only [q0P, q0Q, q0R, q0S]
     refine tkD 3 (v := ?_) rfl ?_ ?_
     rotate_left
     ·(intro wq hSq; (try dsimp only at hSq); go_simp; try with_reducible rfl)
     try simp only [q0P, q0Q, q0R, q0S]
     refine tkD 4 (v := ?_) rfl ?_ ?_
     rotate_left
     ·(intro wq hSq; (try dsimp only at hSq); go_simp; try with_reducible rfl)
     try simp only [q0P, q0Q, q0R, q0S]
     refine tkD 5 (v := ?_) rfl ?_ ?_
     rotate_left
     ·(intro wq hSq; (try dsimp only at hSq); go_simp; try with_reducible rfl)
     try simp only [q0P, q0Q, q0R, q0S]
     refine tkD 6 (v := ?_) rfl ?_ ?_
     rotate_left
     ·(intro wq hSq; (try dsimp only at hSq); go_simp; try with_reducible rfl)
     try simp only [q0P, q0Q, q0R, q0S]
     refine tkW 1 (v := ?_) rfl ?_ ?_
     rotate_left
     ·(intro wq hSq; (try dsimp only at hSq); go_simp; try with_reducible rfl)
     try simp only [q0P, q0Q, q0R, q0S]
     refine tkW 9 (v := ?_) rfl ?_ ?_
     rotate_left
     ·(intro wq hSq; (try dsimp only at hSq); go_simp; try with_reducible rfl)
     try simp only [q0P, q0Q, q0R, q0S]
     have hbd : ∀ o, Below wn.heap.size wn (wn.drew.alloc o) := fun o => (Below.refl wn.heap.size wn).drew.alloc (by simp) o
     refine wpAnyD_keep 7 (by kernel_rfl) rfl (fun K hK => ?_)
     go_simp
     have hbA := hbd (.cells (Jb.cells ⟨id, c, t, n, 1, 0, wk, [], []⟩).toArray 48)
     have RQA := RQ.out.below hbA
     have OWA := OWN.out.below hbA
     have gA : BoxAt (wn.drew.alloc (.cells (Jb.cells ⟨id, c, t, n, 1, 0, wk, [], []⟩).toArray 48)) wn.heap.size ⟨id, c, t, n, 1, 0, wk, [], []⟩ := alloc_last _ _ rfl
     have gB : BoxAt (wn.drew.alloc (.cells (Jb.cells ⟨id, c, t, n, 1, 0, wk, [], []⟩).toArray 48)) jb ⟨id, c, t, n, 1, 0, wk, [], []⟩ := (hbA.block jb hjl).trans HBX.out
     have hbx2 : ∀ i u, (Jb.cells ⟨id, c, t, n, 1, 0, wk, [], []⟩)[i]? = some u → (wn.drew.alloc (.cells (Jb.cells ⟨id, c, t, n, 1, 0, wk, [], []⟩).toArray 48)).cell? ⟨jb, i, none⟩ = some u := fun i u hu => (gB.cell hu).1
     obtain ⟨-, kA, -⟩ := RQA.cells
     have hszA : wn.heap.size < (wn.drew.alloc (.cells (Jb.cells ⟨id, c, t, n, 1, 0, wk, [], []⟩).toArray 48)).heap.size := by simp
     have HRQA := Lib.hid RQA
     have HOWA := Lib.hid OWA
     have HGA := Lib.hid gA
     have HGB := Lib.hid gB
     have HBA := Lib.hid hbA
     refine hK.out _ _ ⟨kA, hbx2 0 _ rfl, hbx2 1 _ rfl, hbx2 2 _ rfl, hbx2 3 _ rfl, hbx2 4 _ rfl, hbx2 5 _ rfl, hbx2 6 _ rfl, hbx2 7 _ rfl, hbx2 8 _ rfl⟩ (fun hS2 => ?_)
     clear hK K hS RQA OWA gA gB hbA hbd hbx hbx2 kA
     try simp only [q0P, q0Q, q0R, q0S]
     refine wpAnyD_keep 8 (by kernel_rfl) rfl (fun K hK => ?_)
     refine step_append9 (by rfl) (.tmp 112) (.tmp 114) (by rfl) B m wn.heap.size 1 (.slice va m vc) (jobsL q.jobs) ⟨id, c, t, n, 1, 0, wk, [], []⟩ (by rfl) (by rfl) HOWA.out HGA.out (by omega) (Nat.le_trans hBw (Nat.le_of_lt hszA)) ?_
     intro v7 w7 ho7 hg7 _
     have qa7 : RQueueAt w7 p dp (.slice va m vc) q.last false := (hg7.block p (Nat.lt_trans hpl hszA) (fun e => HRQA.out.ne HOWA.out e.symm)).trans HRQA.out
     have bx7 : BoxAt w7 jb ⟨id, c, t, n, 1, 0, wk, [], []⟩ := (hg7.block jb (Nat.lt_trans hjl hszA) (fun e => NEJ.out e.symm)).trans HGB.out
     have bl7 : Below B w w7 := (HB7.out.mono hB2).trans ((HBA.out.mono hBw).trans (below_grown HOWA.out hg7 B (Nat.le_refl _) (Nat.le_trans hBw (Nat.le_of_lt hszA))))
     obtain ⟨va7, vc7, rfl⟩ : ∃ a c, v7 = .slice a (m + 1) c := by
      rcases ho7.2 with ⟨e, h0⟩ | ⟨g, c, _, _, e, _⟩
      ·exact absurd h0 (by omega)
      ·exact ⟨_, c, e⟩
     obtain ⟨-, k7, -, -, y7, -, -⟩ := qa7.cells
     have hbx3 : ∀ i u, (Jb.cells ⟨id, c, t, n, 1, 0, wk, [], []⟩)[i]? = some u → w7.cell? ⟨jb, i, none⟩ = some u := fun i u hu => (bx7.cell hu).1
     have hv7 : (Value.slice va7 (m + 1) vc7).ownBlock ≠ some p := World.owns.ne ho7 qa7 (by decide)
     have qa8 := (qa7.set1 (.slice va7 (m + 1) vc7)).set2 (id : Int)
     have ow8 := (ho7.setCell_ne (a := ⟨p, 1, none⟩) hv7 (.slice va7 (m + 1) vc7)).setCell_ne (a := ⟨p, 2, none⟩) hv7 (.int .i64 (id : Int))
     have bl8 := (bl7.setCell (p := ⟨p, 1, none⟩) HLEN.out.2.1 (.slice va7 (m + 1) vc7)).setCell (p := ⟨p, 2, none⟩) HLEN.out.2.1 (.int .i64 (id : Int))
     have QA8 := Lib.hid qa8
     have OW8 := Lib.hid ow8
     have BL8 := Lib.hid bl8
     obtain ⟨-, -, k8, -, -, z8, -⟩ := (qa7.set1 (.slice va7 (m + 1) vc7)).cells
     refine hK.out _ _ ⟨k7, hbx3 0 _ rfl, hbx3 1 _ rfl, hbx3 2 _ rfl, hbx3 3 _ rfl, hbx3 4 _ rfl, hbx3 5 _ rfl, hbx3 6 _ rfl, hbx3 7 _ rfl, hbx3 8 _ rfl⟩ (fun hS3 => ?_)
     clear hK K hS2 qa8 ow8 bl8 hg7 ho7 bx7 bl7 qa7 hv7 hbx3
     try simp only [q0P, q0Q, q0R, q0S]
     refine tkW 10 (v := ?_) rfl ?_ ?_
     rotate_left
     ·(intro wq hSq; (try dsimp only at hSq); go_simp; try with_reducible rfl)
     try simp only [q0P, q0Q, q0R, q0S]
     refine tkW 11 (v := ?_) rfl ?_ ?_
     rotate_left
     ·(intro wq hSq; (try dsimp only at hSq); go_simp; try with_reducible rfl)
     try simp only [q0P, q0Q, q0R, q0S]
     refine wpAnyD_step 12 (by kernel_rfl) rfl rfl (fun K hK => ?_)
     go_simp
     refine hK.out _ _ ?_
     clear hK K hS3
     try simp only [q0P, q0Q, q0R, q0S]
     refine tkW 13 (v := ?_) rfl ?_ ?_
     rotate_left
     ·(intro wq hSq; (try dsimp only at hSq); go_simp; try with_reducible rfl)
     try simp only [q0P, q0Q, q0R, q0S]
     refine tkW 14 (v := ?_) rfl ?_ ?_
     rotate_left
     ·(intro wq hSq; (try dsimp only at hSq); go_simp; try with_reducible rfl)
     try simp only [q0P, q0Q, q0R, q0S]
     refine wpAnyD_step 15 (by kernel_rfl) rfl rfl (fun K hK => ?_)
     go_simp
     refine hK.out _ _ ?_
     clear hK K
     refine wpAnyD_end (by kernel_rfl) ?_
     go_wp2_with fail
     go_ret
     rw [HO.out]
     refine ⟨BL8.out, rfl, _, QA8.out, ?_⟩
     show World.owns _ _ _ _ _ (q.jobs ++ [_]).length _
     rw [List.length_append, jobsL_append, ← HM.out]
     have h := OW8.out
     rw [show jobsL [⟨id, c, t, n, 1, 0, wk, [], []⟩] = Jb.cells ⟨id, c, t, n, 1, 0, wk, [], []⟩ from by unfold jobsL; simp]
     exact h
end
/- Walks: the reference's queue of jobs: a record is read. Printed by gen_rc4.py. -/
section
open Go.RowKit Go.Shelf
theorem RdAt.other {w : World} {p : Nat} {s : List UInt8} {bad : Bool} (h : RdAt w p s bad) {a : Addr} (ha : ¬ a.block = p) (u : Value) : RdAt (w.setCell a u) p s bad := by
 unfold RdAt at h ⊢
 rw [Below.heap_setCell _ _ _ _ (fun q => ha q.symm)]; exact h
theorem RQueueAt.other {w : World} {p : Nat} {dp v : Value} {last : Int} {down : Bool} (h : RQueueAt w p dp v last down) {a : Addr} (ha : ¬ a.block = p) (u : Value) : RQueueAt (w.setCell a u) p dp v last down := by
 unfold RQueueAt at h ⊢
 rw [Below.heap_setCell _ _ _ _ (fun q => ha q.symm)]; exact h
theorem rfread_2 (B p : Nat) (dp v : Value) (q : Qs) (s : List UInt8) (w : World) (hq : RQueueAt w p dp v q.last false) (hv : w.owns B 48 9 v q.jobs.length (jobsL q.jobs)) (hB : B ≤ p) (hB2 : B ≤ w.heap.size) (ho : q.ok) (hs : s.length ≤ 1000000) {id : Nat} {s1 s2 : List UInt8} (h1 : takeN s 1 = some (2, s1)) (h2 : takeN s1 8 = some (id, s2)) (hid : id < 9223372036854775808) (hz : ¬ id = 0) {k : Nat} {j : Jb} (hat : q.at id = some k) (hj : q.jobs[k]? = some j) :
  Calls Tryz.prog 64 #[.pointer (some ⟨p, 0, none⟩), strV s] w (RdP B p dp w (q.one s)) := by
 have hl1 : s1.length ≤ 1000000 := by rw [(takeN_lt h1).2.1, List.length_drop]; omega
 have hl2 : s2.length ≤ 1000000 := by rw [(takeN_lt h2).2.1, List.length_drop]; omega
 have hidp : idI id = (id : Int) := by unfold idI; rw [if_pos hid]
 have hid1 : idI 2 = (2 : Int) := rfl
 have e1 : numR s 1 = ((2 : Int), s1, false) := by unfold numR; rw [h1]; dsimp only; rw [hid1]
 have e2 : numR s1 8 = ((id : Int), s2, false) := by unfold numR; rw [h2]; dsimp only; rw [hidp]
 have hn0 : ¬ (id : Int) < 0 := by omega
 have hz' : ((id : Int) == 0) = false := by rw [beq_eq_false_iff_ne]; omega
 have HJ := Lib.hid hj
 have HAT := Lib.hid hat
 have HHO := Lib.hid (one_of (q := q) h1 h2 (by omega) hid (.inl (by omega)))
 have htr := (ho.job j (List.mem_of_getElem? hj)).tr
 clear hj hat
 have HQ := Lib.hid hq
 have HV := Lib.hid hv
 obtain ⟨r0, b0⟩ := rd_new w s
 obtain ⟨W0, hW0⟩ : ∃ W, W = w.alloc (.cells #[.string (bytesOf s), .bool false] 139) := ⟨_, rfl⟩
 rw [← hW0] at r0 b0
 have HW0 := Lib.hid hW0
 have HN1 := Lib.hid (rfnum_any w.heap.size 1 s false (by omega) (by omega) W0 r0)
 rw [e1] at HN1
 have HB0 := Lib.hid b0
 have HOK := Lib.hid ho
 have hpw : p < w.heap.size := lt_of_heap hq
 have HLEN : Hid (p < w.heap.size ∧ B ≤ p ∧ s.length ≤ 1000000) := ⟨hpw, hB, hs⟩
 obtain ⟨pr, hpr⟩ : ∃ pr, pr = w.heap.size := ⟨_, rfl⟩
 rw [← hpr] at HN1
 have HPR := Lib.hid hpr
 clear hq hv r0 b0 hW0 ho hpw hpr hB hs
 unfold strV
 go_enter Tryz.func64, Tryz.ntmps64
 go_upto_region 2 with fail
 rw [← HW0.out, ← HPR.out]
 go_wp2_with fail
 refine (show Calls Tryz.prog 107 #[.pointer (some ⟨pr, 0, none⟩), .int .i64 1] W0 _ from HN1.out).mono ?_
 rintro e w1 ⟨rfl, hr1, hk1⟩
 have HB1 : Hid (Below w.heap.size w w1) := rd_kp HB0.out hk1 HB0.out.size (by rw [HPR.out]; exact Nat.le_refl _)
 have HN2 := Lib.hid (rfnum_any pr 8 _ _ (by omega) (by have := HLEN.out; omega) w1 hr1)
 rw [e2] at HN2
 clear hr1 hk1 HN1
 go_wp2_with fail
 refine (show Calls Tryz.prog 107 #[.pointer (some ⟨pr, 0, none⟩), .int .i64 8] w1 _ from HN2.out).mono ?_
 rintro e w2 ⟨rfl, hr2, hk2⟩
 have HB2 : Hid (Below w.heap.size w w2) := rd_kp HB1.out hk2 HB1.out.size (by rw [HPR.out]; exact Nat.le_refl _)
 obtain ⟨c0, c1, f0, f1⟩ := hr2.cells
 have HR2 := Lib.hid hr2
 clear hk2 HN2 hr2
 obtain ⟨k0, k1, k2, k3, g1, g2, g3⟩ := (HQ.out.below HB2.out).cells
 have HA := Lib.hid (rfat_any p dp v q.last false q.jobs (id : Int) w2 (HQ.out.below HB2.out) (World.owns.mono (HV.out.below HB2.out) (Nat.zero_le _)) (by have := HOK.out.len; omega))
 rw [at_int, show (q.jobs.findIdx? fun j => decide (j.id = id)) = some k from HAT.out] at HA
 rw [show placeI (some k) = (k : Int) from rfl] at HA
 obtain ⟨g, cap, rfl, hgl, d0, d1, d2, d3, d4, d5, d6, d7, d8⟩ := JobsAt.cells (w := w2) (v := v) (js := q.jobs) (World.owns.mono (HV.out.below HB2.out) (Nat.zero_le _)) k j HJ.out
 obtain ⟨m, hm⟩ : ∃ m, m = q.jobs.length := ⟨_, rfl⟩
 rw [← hm] at k1
 have HM := Lib.hid hm
 have hkm : k < m := by rw [hm]; exact (List.getElem?_eq_some_iff.1 HJ.out).1
 have HGB : Hid (B ≤ g ∧ g < w.heap.size) := HV.out.lt g rfl
 have HES := Lib.hid (rfended_any j.state w2)
 clear hm hgl d0 d1 d2 d3 d6 d7 d8
 go_wp2_with fail
 refine HA.out.mono ?_
 rintro e w3 ⟨rfl, rfl⟩
 cases hen : endedB j.state with
 | true =>
  rw [hen] at HES
  have HEN := Lib.hid hen
  clear hen
  have HO : Hid (q.one s = none) := by
   show _ = _
   rw [HHO.out]
   unfold rdK rd2
   rw [if_neg (by decide), if_pos rfl, HAT.out, Option.bind_some, HJ.out, Option.bind_some, if_neg (by rintro ⟨z, -⟩; rw [HEN.out] at z; cases z)]
   rfl
  go_wp2_with fail
  refine HES.out.mono ?_
  rintro e w4 ⟨rfl, rfl⟩
  go_wp2_with fail
  go_ret
  rw [HO.out]
  exact ⟨HB2.out.mono hB2, rfl⟩
 | false =>
  rw [hen] at HES
  have HEN := Lib.hid hen
  clear hen
  have hfr := owns_unfrozen (HV.out.below HB2.out) (k * 9 + 5) (by have := HM.out; omega)
  go_wp2_with fail
  refine HES.out.mono ?_
  rintro e w4 ⟨rfl, rfl⟩
  go_upto_region 24 with fail
  obtain ⟨W8, hW8⟩ : ∃ W, W = w4.setCell ⟨g, k * 9 + 5, none⟩ (.int .i64 ((j.tries : Int) + 1)) := ⟨_, rfl⟩
  rw [← hW8]
  have hgp : ¬ g = pr := by have := HGB.out.2; have := HPR.out; omega
  have hr8 : RdAt W8 pr s2 false := by rw [hW8]; exact RdAt.other (show RdAt w4 pr s2 false from HR2.out) (a := ⟨g, k * 9 + 5, none⟩) hgp _
  have hq8 : RQueueAt W8 p dp (.slice (some ⟨g, 0, none⟩) q.jobs.length cap) q.last false := by rw [hW8]; exact RQueueAt.other (HQ.out.below HB2.out) (a := ⟨g, k * 9 + 5, none⟩) (fun e => (HQ.out.below HB2.out).ne (HV.out.below HB2.out) (by rw [← e]; rfl)) _
  have hv8 : W8.owns B 48 9 (.slice (some ⟨g, 0, none⟩) q.jobs.length cap) q.jobs.length (jobsL (q.jobs.set k { j with tries := j.tries + 1 })) := by
   have hn := owns_setAny (HV.out.below HB2.out) (k * 9 + 5) (.int .i64 ((j.tries : Int) + 1))
   rw [← jobsL_set q.jobs k j { j with tries := j.tries + 1 } HJ.out 5 (by omega) (.int .i64 ((j.tries : Int) + 1)) (by rfl)] at hn
   rw [hW8]
   exact hn
  have hb8 : Below B w W8 := by rw [hW8]; exact (HB2.out.mono hB2).setCell (p := ⟨g, k * 9 + 5, none⟩) HGB.out.1 _
  have hj8 : (q.jobs.set k { j with tries := j.tries + 1 })[k]? = some { j with tries := j.tries + 1 } := by
   rw [List.getElem?_set_self (List.getElem?_eq_some_iff.1 HJ.out).1]
  have hv9 : W8.owns 0 48 9 (.slice (some ⟨g, 0, none⟩) q.jobs.length cap) (q.jobs.set k { j with tries := j.tries + 1 }).length (jobsL (q.jobs.set k { j with tries := j.tries + 1 })) := by rw [List.length_set]; exact World.owns.mono hv8 (Nat.zero_le _)
  obtain ⟨g', cap', eg, -, -, -, -, -, -, x5, -, -, -⟩ := JobsAt.cells hv9 k _ hj8
  injection eg with eg _ _
  injection eg with eg
  injection eg with eg
  subst eg
  dsimp only at x5
  rw [show (((j.tries + 1 : Nat)) : Int) = (j.tries : Int) + 1 by omega] at x5
  obtain ⟨c0, c1, f0, f1⟩ := hr8.cells
  have HQ8 := Lib.hid hq8
  have HV8 := Lib.hid hv8
  have HB8 := Lib.hid hb8
  clear hW8 hr8 hq8 hv8 hv9 hb8 hj8 k0 k1 k2 k3 g1 g2 g3 d4 d5 hfr
  by_cases he : s2 = []
  ·obtain ⟨t1, t2⟩ := empty_eq he
   have HHE := Lib.hid he
   clear he
   by_cases h8 : j.tries < 8
   ·have h8' : (j.tries : Int) + 1 ≤ 8 := by omega
    have HO : Hid (q.one s = some (q.put k { j with tries := j.tries + 1 })) := by
     show _ = _
     rw [HHO.out]
     unfold rdK rd2
     rw [if_neg (by decide), if_pos rfl, HAT.out, Option.bind_some, HJ.out, Option.bind_some, if_pos ⟨HEN.out, h8⟩, Option.bind_some]
     exact if_pos HHE.out
    clear h8
    go_wp2_with fail
    go_ret
    rw [HO.out]
    refine ⟨HB8.out, rfl, _, HQ8.out, ?_⟩
    show World.owns _ _ _ _ _ (q.jobs.set k _).length _
    rw [List.length_set]
    exact HV8.out
   ·have h8' : ¬ (j.tries : Int) + 1 ≤ 8 := by omega
    have HO : Hid (q.one s = none) := by
     show _ = _
     rw [HHO.out]
     unfold rdK rd2
     rw [if_neg (by decide), if_pos rfl, HAT.out, Option.bind_some, HJ.out, Option.bind_some, if_neg (by rintro ⟨-, z⟩; exact h8 z)]
     rfl
    clear h8
    go_wp2_with fail
    go_ret
    rw [HO.out]
    exact ⟨HB8.out, rfl⟩
  ·obtain ⟨t1, t2⟩ := empty_ne he
   have HO : Hid (q.one s = none) := by
    show _ = _
    rw [HHO.out]
    unfold rdK rd2
    rw [if_neg (by decide), if_pos rfl, HAT.out, Option.bind_some, HJ.out, Option.bind_some]
    split
    ·rw [Option.bind_some]; exact if_neg he
    ·rfl
   clear he
   go_wp2_with fail
   go_ret
   rw [HO.out]
   exact ⟨HB8.out, rfl⟩
end
/- Plain: a queue of jobs: records are read back. No program in sight. -/
section
theorem all_append (a b : List (List UInt8)) : ∀ q : Qs, q.all (a ++ b) = (q.all a).bind fun q' => q'.all b := by
 induction a with
 | nil => intro q; rfl
 | cons s a ih =>
  intro q
  show (q.one s).bind (fun q' => q'.all (a ++ b)) = ((q.one s).bind fun q' => q'.all a).bind _
  cases h : q.one s with
  | none => rfl
  | some q' => exact ih q'
/-- Taken jobs are waiting. -/
def Jb.asleep (j : Jb) : Jb := if j.state = 2 then { j with state := 1 } else j
def Qs.asleep (q : Qs) : Qs := ⟨q.jobs.map Jb.asleep, q.last⟩
/-- What holds of the jobs of a queue, besides. -/
structure Jb.fine (j : Jb) : Prop where
 (pt0 : j.point ≠ [] → 0 < j.tries)
 (st2 : j.state = 2 → 0 < j.tries)
 (rs0 : endedB j.state = false → j.result = [])
structure Qs.fine (q : Qs) : Prop where
 (ok : q.ok)
 (job : ∀ j ∈ q.jobs, j.fine)
 (names : q.jobs.Pairwise fun a b => ¬ (a.client = b.client ∧ a.token = b.token))
end
/- Walks: the reference's queue of jobs and its disk: a record is noted. Printed by gen_rd4.py. -/
section
open Go.RowKit Go.Shelf
/-- Where the reference's queue and its disk lie. -/
structure RQP where
 (p d b : Nat)
/-- The blocks that are theirs. -/
def RMine (P : RQP) (v : Value) (k : Nat) : Prop := k = P.p ∨ k = P.d ∨ k = P.b ∨ v.ownBlock = some k
/-- A queue and its disk. -/
structure RQD (P : RQP) (v : Value) (x : Qst) (w : World) : Prop where
 (qa : RQueueAt w P.p (.pointer (some ⟨P.d, 0, none⟩)) v x.q.last x.down)
 (ja : w.owns 0 48 9 v x.q.jobs.length (jobsL x.q.jobs))
 (dk : RDiskAt w P.d P.b x.d)
 (np : ¬ P.p = P.d ∧ ¬ P.p = P.b)
 (nv : v.ownBlock ≠ some P.d ∧ v.ownBlock ≠ some P.b)
 (fine : x.q.fine)
 (good : x.d.good)
/-- What a call changes. -/
structure RStp (P : RQP) (v v' : Value) (w w' : World) : Prop where
 (kp : Kp (RMine P v) w w')
 (mv : ∀ k, v'.ownBlock = some k → v.ownBlock = some k ∨ w.heap.size ≤ k)
theorem RStp.refl (P : RQP) (v : Value) (w : World) : RStp P v v w w := ⟨Kp.refl _ _, fun _ h => .inl h⟩
theorem RStp.of_kp {P : RQP} {v : Value} {w w' : World} (h : Kp (RMine P v) w w') : RStp P v v w w' := ⟨h, fun _ h => .inl h⟩
theorem RStp.of_below {P : RQP} {v : Value} {w w' : World} (h : Below w.heap.size w w') : RStp P v v w w' := RStp.of_kp (Kp.of_below h)
theorem RStp.trans {P : RQP} {v1 v2 v3 : Value} {a b c : World} (h : RStp P v1 v2 a b) (k : RStp P v2 v3 b c) : RStp P v1 v3 a c := by
 have hs := h.kp.size
 refine ⟨⟨k.kp.os.trans h.kp.os, k.kp.tape.trans h.kp.tape, k.kp.output.trans h.kp.output, Nat.le_trans hs k.kp.size, fun i hi hn => ?_⟩, fun i hi => ?_⟩
 ·refine (k.kp.block i (by omega) (fun hm => ?_)).trans (h.kp.block i hi hn)
  rcases hm with e | e | e | e
  ·exact hn (.inl e)
  ·exact hn (.inr (.inl e))
  ·exact hn (.inr (.inr (.inl e)))
  ·rcases h.mv i e with e | e
   ·exact hn (.inr (.inr (.inr e)))
   ·omega
 ·rcases k.mv i hi with e | e
  ·exact h.mv i e
  ·exact .inr (by omega)
theorem RStp.below {P : RQP} {v1 v2 : Value} {a b c : World} (h : RStp P v1 v2 a b) (k : Below b.heap.size b c) : RStp P v1 v2 a c := h.trans (RStp.of_below k)
theorem RQD.below {P : RQP} {v : Value} {x : Qst} {w w' : World} (h : RQD P v x w) (hb : Below w.heap.size w w') : RQD P v x w' :=
 ⟨(hb.block _ (lt_of_heap h.qa)).trans h.qa, h.ja.below hb, h.dk.kept hb, h.np, h.nv, h.fine, h.good⟩
theorem RQD.drew {P : RQP} {v : Value} {x : Qst} {w : World} (h : RQD P v x w) : RQD P v x w.drew := h.below (Below.refl _ _).drew
theorem RQD.disk {P : RQP} {v : Value} {x : Qst} {w w' : World} (h : RQD P v x w) (hk : Kp (two P.d P.b) w w') {D : Dk} (hd : RDiskAt w' P.d P.b D) (hg : D.good) : RQD P v { x with d := D } w' :=
 ⟨(hk.block _ (lt_of_heap h.qa) (fun e => by rcases e with e | e; exact h.np.1 e; exact h.np.2 e)).trans h.qa,
  World.owns.keptBy h.ja (fun g c fz hg hh => hk.block g (lt_of_heap hh) (fun e => by
   rcases e with e | e
   ·exact h.nv.1 (by rw [hg, e])
   ·exact h.nv.2 (by rw [hg, e]))), hd, h.np, h.nv, h.fine, hg⟩
theorem rkp_two {P : RQP} {v : Value} {w w' : World} (hk : Kp (two P.d P.b) w w') : Kp (RMine P v) w w' :=
 hk.mono (fun k h => by
  rcases h with h | h
  ·exact .inr (.inl h)
  ·exact .inr (.inr (.inl h)))
theorem RQueueAt.set3 {w : World} {p : Nat} {dp v : Value} {last : Int} {down : Bool} (h : RQueueAt w p dp v last down) (b : Bool) : RQueueAt (w.setCell ⟨p, 3, none⟩ (.bool b)) p dp v last b := by
 unfold RQueueAt at h ⊢
 simp [World.setCell, Array.getElem?_modify, h]
theorem RDiskAt.other {w : World} {p b : Nat} {d : Dk} (h : RDiskAt w p b d) {a : Addr} (h0 : ¬ a.block = p) (h1 : ¬ a.block = b) (u : Value) : RDiskAt (w.setCell a u) p b d := by
 refine ⟨?_, ?_, h.ne⟩
 ·rw [Below.heap_setCell _ _ _ _ (fun q => h0 q.symm)]; exact h.at_
 ·obtain ⟨t, ht⟩ := h.half
  exact ⟨t, by rw [Below.heap_setCell _ _ _ _ (fun q => h1 q.symm)]; exact ht⟩
theorem RQD.setDown {P : RQP} {v : Value} {x : Qst} {w : World} (h : RQD P v x w) (b : Bool) : RQD P v { x with down := b } (w.setCell ⟨P.p, 3, none⟩ (.bool b)) ∧ Kp (RMine P v) w (w.setCell ⟨P.p, 3, none⟩ (.bool b)) :=
 ⟨⟨h.qa.set3 b, h.ja.setCell_ne (h.qa.ne h.ja) _, h.dk.other h.np.1 h.np.2 _, h.np, h.nv, h.fine, h.good⟩, (Kp.refl _ w).setCell (a := ⟨P.p, 3, none⟩) (.inl rfl) _⟩
theorem rfmet_any (P : RQP) (v : Value) (x : Qst) (e : Int) (w : World) (h : RQD P v x w) :
  Calls Tryz.prog 82 #[.pointer (some ⟨P.p, 0, none⟩), .int .i64 e] w fun ex w' => ex = .returned (.int .i64 e) ∧ RQD P v { x with down := x.down || decide (e = 9) } w' ∧ Kp (RMine P v) w w' := by
 obtain ⟨-, -, -, k3, -, -, z3⟩ := h.qa.cells
 cases hd : x.down with
 | true =>
  rw [hd] at k3
  obtain ⟨r1, r2⟩ := h.setDown true
  go_enter Tryz.func82, Tryz.ntmps82
  go_wp2_with fail
  go_ret
  exact ⟨rfl, r1, r2⟩
 | false =>
  rw [hd] at k3
  by_cases he : e = 9
  ·subst he
   obtain ⟨r1, r2⟩ := h.setDown true
   go_enter Tryz.func82, Tryz.ntmps82
   go_wp2_with fail
   go_ret
   exact ⟨rfl, r1, r2⟩
  ·have he2 : (e == 9) = false := by rw [beq_eq_false_iff_ne]; exact he
   obtain ⟨r1, r2⟩ := h.setDown false
   rw [decide_eq_false he]
   go_enter Tryz.func82, Tryz.ntmps82
   go_wp2_with fail
   go_ret
   exact ⟨rfl, r1, r2⟩
theorem rfnote_any (P : RQP) (v : Value) (x : Qst) (s : List UInt8) (hs : s.length ≤ 100000000) (w : World) (h : RQD P v x w) :
  Calls Tryz.prog 67 #[.pointer (some ⟨P.p, 0, none⟩), strV s] w fun ex w' => ex = .returned (.int .i64 (x.note s).1) ∧ RQD P v (x.note s).2 w' ∧ Kp (RMine P v) w w' := by
 obtain ⟨k0, -⟩ := h.qa.cells
 have HA := Lib.hid (rAppend_any P.d P.b x.d s hs w h.dk h.good.ok)
 have pA := appended_post h.good s
 have HPA := Lib.hid pA
 have HQ := Lib.hid h
 obtain ⟨R, hR⟩ : ∃ R, R = x.note s := ⟨_, rfl⟩
 rw [← hR]
 unfold Qst.note noteD at hR
 obtain ⟨A, hA⟩ : ∃ A, A = x.d.appended s := ⟨_, rfl⟩
 rw [← hA] at hR HA HPA
 obtain ⟨a1, a2⟩ := A
 dsimp only at hR HA HPA
 unfold strV
 by_cases h5 : a1 = 5
 ·subst h5
  rw [if_pos rfl] at hR
  have HR := Lib.hid hR
  clear hR hA pA h
  go_enter Tryz.func67, Tryz.ntmps67
  go_wp2_with fail
  refine (HA.out).mono ?_
  rintro e w1 ⟨rfl, hd1, hk1⟩
  have hq1 := HQ.out.disk hk1 hd1 HPA.out.good
  have HQ1 := Lib.hid hq1
  have HK1 := Lib.hid (rkp_two (v := v) hk1)
  obtain ⟨m0, -⟩ := hq1.qa.cells
  clear hd1 hk1 hq1 k0
  go_upto_region 4 with (fail)
  refine wp_region_heldL (fun w' => w'.cell? ⟨P.p, 0, none⟩ = some (.pointer (some ⟨P.d, 0, none⟩))) (by kernel_rfl) m0 (fun hHeld => ?_)
  refine tkH 0 (v := ?_) rfl ?_ ?_
  rotate_left
  ·(intro wq hSq; (try dsimp only at hSq); go_simp; try with_reducible rfl)
  try simp only [q0P, q0Q, q0R, q0S]
  refine tkH 1 (v := ?_) rfl ?_ ?_
  rotate_left
  ·(intro wq hSq; (try dsimp only at hSq); go_simp; try with_reducible rfl)
  try simp only [q0P, q0Q, q0R, q0S]
  refine tkH 2 (v := ?_) rfl ?_ ?_
  rotate_left
  ·(intro wq hSq; (try dsimp only at hSq); go_simp; try with_reducible rfl)
  try simp only [q0P, q0Q, q0R, q0S]
  refine tkH 3 (v := ?_) rfl ?_ ?_
  rotate_left
  ·(intro wq hSq; (try dsimp only at hSq); go_simp; try with_reducible rfl)
  try simp only [q0P, q0Q, q0R, q0S]
  refine tkH 4 (v := ?_) rfl ?_ ?_
  rotate_left
  ·(intro wq hSq; (try dsimp only at hSq); go_simp; try with_reducible rfl)
  try simp only [q0P, q0Q, q0R, q0S]
  refine wpAnyH_stepL 5 (by kernel_rfl) rfl (fun K hK => ?_)
  go_simp
  go_at_call 84
  have hqd := HQ1.out.drew
  refine (show Calls Tryz.prog 84 #[.pointer (some ⟨P.p, 0, none⟩)] w1.drew _ from rfshort_any P.p _ v x.down x.q w1.drew hqd.qa hqd.ja hqd.fine.ok).mono ?_
  rintro e w2 ⟨⟨u, rfl, hu⟩, hb2d⟩
  have hq2 := hqd.below hb2d
  have hk2 : Kp (RMine P v) w w2 := HK1.out.trans (Kp.of_below ((Below.refl _ w1).drew.trans hb2d))
  have HQ2 := Lib.hid hq2
  have HK2 := Lib.hid hk2
  obtain ⟨m0, -⟩ := hq2.qa.cells
  have HRW := Lib.hid (rRewrite_any P.d P.b a2 x.q.short u w2 hu.reads hq2.dk hq2.good.ok)
  have HPR := Lib.hid (rewritten_post hq2.good x.q.short)
  clear hqd hb2d hq2 hk2 hu
  refine hK.out _ _ m0 (fun hS2 => ?_)
  clear hK K hHeld
  try simp only [q0P, q0Q, q0R, q0S]
  refine wpAnyH_stepL 6 (by kernel_rfl) rfl (fun K hK => ?_)
  go_simp
  go_at_call 83
  refine HRW.out.mono ?_
  dsimp only at HPR HR ⊢
  obtain ⟨B, hB⟩ : ∃ B, B = a2.rewritten x.q.short := ⟨_, rfl⟩
  have hR2 := HR.out
  rw [← hB] at hR2 HPR ⊢
  have HR2 := Lib.hid hR2
  clear hB hR2 HR HRW
  obtain ⟨b1, b2⟩ := B
  dsimp only at HR2 HPR ⊢
  rintro e w3 ⟨rfl, hd3, hk3⟩
  have hq3 := HQ2.out.disk hk3 hd3 HPR.out.good
  have HQ3 := Lib.hid hq3
  have HK3 := Lib.hid (HK2.out.trans (rkp_two (v := v) hk3))
  obtain ⟨m0, -⟩ := hq3.qa.cells
  refine hK.out _ _ m0 (fun hS3 => ?_)
  clear hK K hS2 hd3 hk3 hq3
  try simp only [q0P, q0Q, q0R, q0S]
  refine tkH 7 (v := ?_) rfl ?_ ?_
  rotate_left
  ·(intro wq hSq; (try dsimp only at hSq); go_simp; try with_reducible rfl)
  try simp only [q0P, q0Q, q0R, q0S]
  refine wpAnyH_end (by kernel_rfl) ?_
  by_cases h0 : b1 = 0
  ·subst h0
   have HA2 := Lib.hid (rAppend_any P.d P.b b2 s hs w3 HQ3.out.dk HPR.out.good.ok)
   have HPA2 := Lib.hid (appended_post HPR.out.good s)
   have hR2 := HR2.out
   rw [if_pos rfl] at hR2
   obtain ⟨C, hC⟩ : ∃ C, C = b2.appended s := ⟨_, rfl⟩
   rw [← hC] at hR2 HA2 HPA2
   have HR3 := Lib.hid hR2
   clear hR2 hC HR2
   obtain ⟨c1, c2⟩ := C
   dsimp only at HR3 HPA2 HA2
   go_wp2_with fail
   refine HA2.out.mono ?_
   rintro e w4 ⟨rfl, hd4, hk4⟩
   have hq4 := HQ3.out.disk hk4 hd4 HPA2.out.good
   have HQ4 := Lib.hid hq4
   have HK4 := Lib.hid (HK3.out.trans (rkp_two (v := v) hk4))
   have HM := Lib.hid (rfmet_any P v _ c1 w4 hq4)
   clear hq4 hd4 hk4 m0
   go_wp2_with fail
   refine (HM.out).mono ?_
   rintro e w5 ⟨rfl, hq5, hk5⟩
   go_wp2_with fail
   go_ret
   rw [HR3.out]
   exact ⟨rfl, hq5, HK4.out.trans hk5⟩
  ·have h0' : (b1 == 0) = false := by rw [beq_eq_false_iff_ne]; exact h0
   have hR2 := HR2.out
   rw [if_neg h0] at hR2
   have HR3 := Lib.hid hR2
   have HM := Lib.hid (rfmet_any P v _ b1 w3 HQ3.out)
   clear hR2 HR2 h0 m0
   go_wp2_with fail
   refine (HM.out).mono ?_
   rintro e w5 ⟨rfl, hq5, hk5⟩
   go_wp2_with fail
   go_ret
   rw [HR3.out]
   exact ⟨rfl, hq5, HK3.out.trans hk5⟩
 ·rw [if_neg h5] at hR
  have HR := Lib.hid hR
  have h5' : (a1 == 5) = false := by rw [beq_eq_false_iff_ne]; exact h5
  clear hR hA pA h h5
  go_enter Tryz.func67, Tryz.ntmps67
  go_wp2_with fail
  refine (HA.out).mono ?_
  rintro e w1 ⟨rfl, hd1, hk1⟩
  have hq1 := HQ.out.disk hk1 hd1 HPA.out.good
  have HQ1 := Lib.hid hq1
  have HK1 := Lib.hid (rkp_two (v := v) hk1)
  have HM := Lib.hid (rfmet_any P v _ a1 w1 hq1)
  clear hd1 hk1 hq1 k0
  go_wp2_with fail
  refine (HM.out).mono ?_
  rintro e w5 ⟨rfl, hq5, hk5⟩
  go_wp2_with fail
  go_ret
  rw [HR.out]
  exact ⟨rfl, hq5, HK1.out.trans hk5⟩
end
/- Walks: a queue of jobs and its disk: a record is noted. -/
section
open Go.RowKit Go.Shelf
/-- Where a queue and its disk lie. -/
structure QP where
 (p d b0 b1 : Nat)
/-- The blocks that are theirs. -/
def Mine (P : QP) (v : Value) (k : Nat) : Prop := k = P.p ∨ k = P.d ∨ k = P.b0 ∨ k = P.b1 ∨ v.ownBlock = some k
/-- A queue and its disk. -/
structure QD (P : QP) (v : Value) (x : Qst) (w : World) : Prop where
 (qa : QueueAt w P.p (.pointer (some ⟨P.d, 0, none⟩)) v x.q.last x.down)
 (ja : w.owns 0 48 9 v x.q.jobs.length (jobsL x.q.jobs))
 (dk : DiskAt w P.d P.b0 P.b1 x.d)
 (np : ¬ P.p = P.d ∧ ¬ P.p = P.b0 ∧ ¬ P.p = P.b1)
 (nv : v.ownBlock ≠ some P.d ∧ v.ownBlock ≠ some P.b0 ∧ v.ownBlock ≠ some P.b1)
 (fine : x.q.fine)
 (good : x.d.good)
/-- What a call changes. -/
structure Stp (P : QP) (v v' : Value) (w w' : World) : Prop where
 (kp : Kp (Mine P v) w w')
 (mv : ∀ k, v'.ownBlock = some k → v.ownBlock = some k ∨ w.heap.size ≤ k)
theorem Stp.refl (P : QP) (v : Value) (w : World) : Stp P v v w w := ⟨Kp.refl _ _, fun _ h => .inl h⟩
theorem Stp.of_kp {P : QP} {v : Value} {w w' : World} (h : Kp (Mine P v) w w') : Stp P v v w w' := ⟨h, fun _ h => .inl h⟩
theorem Stp.of_below {P : QP} {v : Value} {w w' : World} (h : Below w.heap.size w w') : Stp P v v w w' := Stp.of_kp (Kp.of_below h)
theorem Stp.trans {P : QP} {v1 v2 v3 : Value} {a b c : World} (h : Stp P v1 v2 a b) (k : Stp P v2 v3 b c) : Stp P v1 v3 a c := by
 have hs := h.kp.size
 refine ⟨⟨k.kp.os.trans h.kp.os, k.kp.tape.trans h.kp.tape, k.kp.output.trans h.kp.output, Nat.le_trans hs k.kp.size, fun i hi hn => ?_⟩, fun i hi => ?_⟩
 ·refine (k.kp.block i (by omega) (fun hm => ?_)).trans (h.kp.block i hi hn)
  rcases hm with e | e | e | e | e
  ·exact hn (.inl e)
  ·exact hn (.inr (.inl e))
  ·exact hn (.inr (.inr (.inl e)))
  ·exact hn (.inr (.inr (.inr (.inl e))))
  ·rcases h.mv i e with e | e
   ·exact hn (.inr (.inr (.inr (.inr e))))
   ·omega
 ·rcases k.mv i hi with e | e
  ·exact h.mv i e
  ·exact .inr (by omega)
theorem Stp.below {P : QP} {v1 v2 : Value} {a b c : World} (h : Stp P v1 v2 a b) (k : Below b.heap.size b c) : Stp P v1 v2 a c := h.trans (Stp.of_below k)
theorem QD.below {P : QP} {v : Value} {x : Qst} {w w' : World} (h : QD P v x w) (hb : Below w.heap.size w w') : QD P v x w' :=
 ⟨(hb.block _ (lt_of_heap h.qa)).trans h.qa, h.ja.below hb, h.dk.kept hb, h.np, h.nv, h.fine, h.good⟩
theorem QD.drew {P : QP} {v : Value} {x : Qst} {w : World} (h : QD P v x w) : QD P v x w.drew := h.below (Below.refl _ _).drew
theorem QD.disk {P : QP} {v : Value} {x : Qst} {w w' : World} (h : QD P v x w) (hk : Kp (three P.d P.b0 P.b1) w w') {D : Dk} (hd : DiskAt w' P.d P.b0 P.b1 D) (hg : D.good) : QD P v { x with d := D } w' :=
 ⟨(hk.block _ (lt_of_heap h.qa) (fun e => by rcases e with e | e | e; exact h.np.1 e; exact h.np.2.1 e; exact h.np.2.2 e)).trans h.qa,
  World.owns.keptBy h.ja (fun g c fz hg hh => hk.block g (lt_of_heap hh) (fun e => by
   rcases e with e | e | e
   ·exact h.nv.1 (by rw [hg, e])
   ·exact h.nv.2.1 (by rw [hg, e])
   ·exact h.nv.2.2 (by rw [hg, e]))), hd, h.np, h.nv, h.fine, hg⟩
theorem kp_three {P : QP} {v : Value} {w w' : World} (hk : Kp (three P.d P.b0 P.b1) w w') : Kp (Mine P v) w w' :=
 hk.mono (fun k h => by
  rcases h with h | h | h
  ·exact .inr (.inl h)
  ·exact .inr (.inr (.inl h))
  ·exact .inr (.inr (.inr (.inl h))))
theorem QueueAt.set3 {w : World} {p : Nat} {dp v : Value} {last : Int} {down : Bool} (h : QueueAt w p dp v last down) (b : Bool) : QueueAt (w.setCell ⟨p, 3, none⟩ (.bool b)) p dp v last b := by
 unfold QueueAt at h ⊢
 simp [World.setCell, Array.getElem?_modify, h]
theorem DiskAt.other {w : World} {p b0 b1 : Nat} {d : Dk} (h : DiskAt w p b0 b1 d) {a : Addr} (h0 : ¬ a.block = p) (h1 : ¬ a.block = b0) (h2 : ¬ a.block = b1) (u : Value) : DiskAt (w.setCell a u) p b0 b1 d := by
 refine ⟨?_, ?_, ?_, h.n01, h.n0, h.n1⟩
 ·rw [Below.heap_setCell _ _ _ _ (fun q => h0 q.symm)]; exact h.at_
 ·obtain ⟨t, ht⟩ := h.a0
  exact ⟨t, by rw [Below.heap_setCell _ _ _ _ (fun q => h1 q.symm)]; exact ht⟩
 ·obtain ⟨t, ht⟩ := h.a1
  exact ⟨t, by rw [Below.heap_setCell _ _ _ _ (fun q => h2 q.symm)]; exact ht⟩
theorem QD.setDown {P : QP} {v : Value} {x : Qst} {w : World} (h : QD P v x w) (b : Bool) : QD P v { x with down := b } (w.setCell ⟨P.p, 3, none⟩ (.bool b)) ∧ Kp (Mine P v) w (w.setCell ⟨P.p, 3, none⟩ (.bool b)) :=
 ⟨⟨h.qa.set3 b, h.ja.setCell_ne (h.qa.ne h.ja) _, h.dk.other h.np.1 h.np.2.1 h.np.2.2 _, h.np, h.nv, h.fine, h.good⟩, (Kp.refl _ w).setCell (a := ⟨P.p, 3, none⟩) (.inl rfl) _⟩
theorem met_any (P : QP) (v : Value) (x : Qst) (e : Int) (w : World) (h : QD P v x w) :
  Calls Tryz.prog 79 #[.pointer (some ⟨P.p, 0, none⟩), .int .i64 e] w fun ex w' => ex = .returned (.int .i64 e) ∧ QD P v { x with down := x.down || decide (e = 9) } w' ∧ Kp (Mine P v) w w' := by
 obtain ⟨-, -, -, k3, -, -, z3⟩ := h.qa.cells
 cases hd : x.down with
 | true =>
  rw [hd] at k3
  obtain ⟨r1, r2⟩ := h.setDown true
  go_enter Tryz.func79, Tryz.ntmps79
  go_wp2_with fail
  go_ret
  exact ⟨rfl, r1, r2⟩
 | false =>
  rw [hd] at k3
  by_cases he : e = 9
  ·subst he
   obtain ⟨r1, r2⟩ := h.setDown true
   go_enter Tryz.func79, Tryz.ntmps79
   go_wp2_with fail
   go_ret
   exact ⟨rfl, r1, r2⟩
  ·have he2 : (e == 9) = false := by rw [beq_eq_false_iff_ne]; exact he
   obtain ⟨r1, r2⟩ := h.setDown false
   rw [decide_eq_false he]
   go_enter Tryz.func79, Tryz.ntmps79
   go_wp2_with fail
   go_ret
   exact ⟨rfl, r1, r2⟩
end
/- Walks: a queue of jobs and its disk: a record is noted. -/
section
open Go.RowKit Go.Shelf
theorem note_any (P : QP) (v : Value) (x : Qst) (s : List UInt8) (hs : s.length ≤ 100000000) (w : World) (h : QD P v x w) :
  Calls Tryz.prog 54 #[.pointer (some ⟨P.p, 0, none⟩), strV s] w fun ex w' => ex = .returned (.int .i64 (x.note s).1) ∧ QD P v (x.note s).2 w' ∧ Kp (Mine P v) w w' := by
 obtain ⟨k0, -⟩ := h.qa.cells
 have HA := Lib.hid (Append_any P.d P.b0 P.b1 x.d s hs w h.dk h.good.ok)
 have pA := appended_post h.good s
 have HPA := Lib.hid pA
 have HQ := Lib.hid h
 obtain ⟨R, hR⟩ : ∃ R, R = x.note s := ⟨_, rfl⟩
 rw [← hR]
 unfold Qst.note noteD at hR
 obtain ⟨A, hA⟩ : ∃ A, A = x.d.appended s := ⟨_, rfl⟩
 rw [← hA] at hR HA HPA
 obtain ⟨a1, a2⟩ := A
 dsimp only at hR HA HPA
 unfold strV
 by_cases h5 : a1 = 5
 ·subst h5
  rw [if_pos rfl] at hR
  have HR := Lib.hid hR
  clear hR hA pA h
  go_enter Tryz.func54, Tryz.ntmps54
  go_wp2_with fail
  refine (HA.out).mono ?_
  rintro e w1 ⟨rfl, hd1, hk1⟩
  have hq1 := HQ.out.disk hk1 hd1 HPA.out.good
  have HQ1 := Lib.hid hq1
  have HK1 := Lib.hid (kp_three (v := v) hk1)
  obtain ⟨m0, -⟩ := hq1.qa.cells
  clear hd1 hk1 hq1 k0
  go_upto_region 3 with (fail)
  refine wp_region_heldL (fun w' => w'.cell? ⟨P.p, 0, none⟩ = some (.pointer (some ⟨P.d, 0, none⟩))) (by kernel_rfl) m0 (fun hHeld => ?_)
  refine tkH 0 (v := ?_) rfl ?_ ?_
  rotate_left
  ·(intro wq hSq; (try dsimp only at hSq); go_simp; try with_reducible rfl)
  try simp only [q0P, q0Q, q0R, q0S]
  refine tkH 1 (v := ?_) rfl ?_ ?_
  rotate_left
  ·(intro wq hSq; (try dsimp only at hSq); go_simp; try with_reducible rfl)
  try simp only [q0P, q0Q, q0R, q0S]
  refine tkH 2 (v := ?_) rfl ?_ ?_
  rotate_left
  ·(intro wq hSq; (try dsimp only at hSq); go_simp; try with_reducible rfl)
  try simp only [q0P, q0Q, q0R, q0S]
  refine tkH 3 (v := ?_) rfl ?_ ?_
  rotate_left
  ·(intro wq hSq; (try dsimp only at hSq); go_simp; try with_reducible rfl)
  try simp only [q0P, q0Q, q0R, q0S]
  refine tkH 4 (v := ?_) rfl ?_ ?_
  rotate_left
  ·(intro wq hSq; (try dsimp only at hSq); go_simp; try with_reducible rfl)
  try simp only [q0P, q0Q, q0R, q0S]
  refine wpAnyH_stepL 5 (by kernel_rfl) rfl (fun K hK => ?_)
  go_simp
  go_at_call 81
  have hqd := HQ1.out.drew
  refine (show Calls Tryz.prog 81 #[.pointer (some ⟨P.p, 0, none⟩)] w1.drew _ from short_any P.p _ v x.down x.q w1.drew hqd.qa hqd.ja hqd.fine.ok).mono ?_
  rintro e w2 ⟨⟨u, rfl, hu⟩, hb2d⟩
  have hq2 := hqd.below hb2d
  have hk2 : Kp (Mine P v) w w2 := HK1.out.trans (Kp.of_below ((Below.refl _ w1).drew.trans hb2d))
  have HQ2 := Lib.hid hq2
  have HK2 := Lib.hid hk2
  obtain ⟨m0, -⟩ := hq2.qa.cells
  have HRW := Lib.hid (Rewrite_any P.d P.b0 P.b1 a2 x.q.short u w2 hu.reads hq2.dk hq2.good.ok)
  have HPR := Lib.hid (rewritten_post hq2.good x.q.short)
  clear hqd hb2d hq2 hk2 hu
  refine hK.out _ _ m0 (fun hS2 => ?_)
  clear hK K hHeld
  try simp only [q0P, q0Q, q0R, q0S]
  refine wpAnyH_stepL 6 (by kernel_rfl) rfl (fun K hK => ?_)
  go_simp
  go_at_call 80
  refine HRW.out.mono ?_
  dsimp only at HPR HR ⊢
  obtain ⟨B, hB⟩ : ∃ B, B = a2.rewritten x.q.short := ⟨_, rfl⟩
  have hR2 := HR.out
  rw [← hB] at hR2 HPR ⊢
  have HR2 := Lib.hid hR2
  clear hB hR2 HR HRW
  obtain ⟨b1, b2⟩ := B
  dsimp only at HR2 HPR ⊢
  rintro e w3 ⟨rfl, hd3, hk3⟩
  have hq3 := HQ2.out.disk hk3 hd3 HPR.out.good
  have HQ3 := Lib.hid hq3
  have HK3 := Lib.hid (HK2.out.trans (kp_three (v := v) hk3))
  obtain ⟨m0, -⟩ := hq3.qa.cells
  refine hK.out _ _ m0 (fun hS3 => ?_)
  clear hK K hS2 hd3 hk3 hq3
  try simp only [q0P, q0Q, q0R, q0S]
  refine tkH 7 (v := ?_) rfl ?_ ?_
  rotate_left
  ·(intro wq hSq; (try dsimp only at hSq); go_simp; try with_reducible rfl)
  try simp only [q0P, q0Q, q0R, q0S]
  refine wpAnyH_end (by kernel_rfl) ?_
  by_cases h0 : b1 = 0
  ·subst h0
   have HA2 := Lib.hid (Append_any P.d P.b0 P.b1 b2 s hs w3 HQ3.out.dk HPR.out.good.ok)
   have HPA2 := Lib.hid (appended_post HPR.out.good s)
   have hR2 := HR2.out
   rw [if_pos rfl] at hR2
   obtain ⟨C, hC⟩ : ∃ C, C = b2.appended s := ⟨_, rfl⟩
   rw [← hC] at hR2 HA2 HPA2
   have HR3 := Lib.hid hR2
   clear hR2 hC HR2
   obtain ⟨c1, c2⟩ := C
   dsimp only at HR3 HPA2 HA2
   go_wp2_with fail
   refine HA2.out.mono ?_
   rintro e w4 ⟨rfl, hd4, hk4⟩
   have hq4 := HQ3.out.disk hk4 hd4 HPA2.out.good
   have HQ4 := Lib.hid hq4
   have HK4 := Lib.hid (HK3.out.trans (kp_three (v := v) hk4))
   have HM := Lib.hid (met_any P v _ c1 w4 hq4)
   clear hq4 hd4 hk4 m0
   go_wp2_with fail
   refine (HM.out).mono ?_
   rintro e w5 ⟨rfl, hq5, hk5⟩
   go_wp2_with fail
   go_ret
   rw [HR3.out]
   exact ⟨rfl, hq5, HK4.out.trans hk5⟩
  ·have h0' : (b1 == 0) = false := by rw [beq_eq_false_iff_ne]; exact h0
   have hR2 := HR2.out
   rw [if_neg h0] at hR2
   have HR3 := Lib.hid hR2
   have HM := Lib.hid (met_any P v _ b1 w3 HQ3.out)
   clear hR2 HR2 h0 m0
   go_wp2_with fail
   refine (HM.out).mono ?_
   rintro e w5 ⟨rfl, hq5, hk5⟩
   go_wp2_with fail
   go_ret
   rw [HR3.out]
   exact ⟨rfl, hq5, HK3.out.trans hk5⟩
 ·rw [if_neg h5] at hR
  have HR := Lib.hid hR
  have h5' : (a1 == 5) = false := by rw [beq_eq_false_iff_ne]; exact h5
  clear hR hA pA h h5
  go_enter Tryz.func54, Tryz.ntmps54
  go_wp2_with fail
  refine (HA.out).mono ?_
  rintro e w1 ⟨rfl, hd1, hk1⟩
  have hq1 := HQ.out.disk hk1 hd1 HPA.out.good
  have HQ1 := Lib.hid hq1
  have HK1 := Lib.hid (kp_three (v := v) hk1)
  have HM := Lib.hid (met_any P v _ a1 w1 hq1)
  clear hd1 hk1 hq1 k0
  go_wp2_with fail
  refine (HM.out).mono ?_
  rintro e w5 ⟨rfl, hq5, hk5⟩
  go_wp2_with fail
  go_ret
  rw [HR.out]
  exact ⟨rfl, hq5, HK1.out.trans hk5⟩
end
/- Plain: a queue of jobs: what holds of it is kept. -/
section
theorem map_set_same {α β : Type} (f : α → β) (l : List α) (k : Nat) (a b : α) (hk : l[k]? = some a) (h : f b = f a) : (l.set k b).map f = l.map f := by
 rw [List.map_set, h]
 apply List.ext_getElem?
 intro i
 rw [List.getElem?_set]
 split
 ·rename_i hik
  subst hik
  split
  ·rw [List.getElem?_map, hk]; rfl
  ·rename_i hl
   have := (List.getElem?_eq_some_iff.1 hk).1
   rw [List.length_map] at hl
   omega
 ·rfl
theorem put_asc {js : List Jb} {k : Nat} {j j' : Jb} (hj : js[k]? = some j) (hid : j'.id = j.id) (h : js.Pairwise fun a b => a.id < b.id) : (js.set k j').Pairwise fun a b => a.id < b.id := by
 have e := map_set_same Jb.id js k j j' hj hid
 have h1 : (js.map Jb.id).Pairwise (· < ·) := List.pairwise_map.2 h
 rw [← e] at h1
 exact List.pairwise_map.1 h1
theorem put_names {js : List Jb} {k : Nat} {j j' : Jb} (hj : js[k]? = some j) (hc : j'.client = j.client) (ht : j'.token = j.token) (h : js.Pairwise fun a b => ¬ (a.client = b.client ∧ a.token = b.token)) :
  (js.set k j').Pairwise fun a b => ¬ (a.client = b.client ∧ a.token = b.token) := by
 have e := map_set_same (fun j : Jb => (j.client, j.token)) js k j j' hj (by rw [hc, ht])
 have h1 : (js.map (fun j : Jb => (j.client, j.token))).Pairwise (fun a b => ¬ (a.1 = b.1 ∧ a.2 = b.2)) := List.pairwise_map.2 h
 rw [← e] at h1
 exact List.pairwise_map.1 h1
theorem mem_put {js : List Jb} {k : Nat} {j' x : Jb} (h : x ∈ js.set k j') : x = j' ∨ x ∈ js := by
 rcases List.mem_or_eq_of_mem_set h with h | h
 ·exact .inr h
 ·exact .inl h
theorem Qs.fine.put {q : Qs} (h : q.fine) {k : Nat} {j j' : Jb} (hj : q.jobs[k]? = some j) (hid : j'.id = j.id) (hc : j'.client = j.client) (ht : j'.token = j.token) (ho : j'.ok q.last) (hf : j'.fine) : (q.put k j').fine := by
 refine ⟨⟨?_, h.ok.last, fun x hx => ?_, put_asc hj hid h.ok.asc⟩, fun x hx => ?_, put_names hj hc ht h.names⟩
 ·show (q.jobs.set k j').length ≤ 100
  rw [List.length_set]; exact h.ok.len
 ·rcases mem_put hx with rfl | hx
  ·exact ho
  ·exact h.ok.job x hx
 ·rcases mem_put hx with rfl | hx
  ·exact hf
  ·exact h.job x hx
theorem Jb.ok.mono {j : Jb} {a b : Nat} (h : j.ok a) (hab : a ≤ b) : j.ok b := ⟨h.id0, Nat.le_trans h.id1 hab, h.prio, h.cl, h.tk, h.tr, h.s1, h.s5, h.wk, h.pt, h.rs⟩
theorem named_none {q : Qs} {c t : List UInt8} (h : q.named c t = none) : ∀ j ∈ q.jobs, ¬ (j.client = c ∧ j.token = t) := by
 intro j hj
 unfold Qs.named at h
 rw [List.findIdx?_eq_none_iff] at h
 have := h j hj
 simpa using this
theorem Qs.fine.push {q : Qs} (h : q.fine) {j : Jb} (ho : j.ok j.id) (hf : j.fine) (hl : q.last < j.id) (h63 : j.id < 9223372036854775808) (hn : q.named j.client j.token = none) (h100 : q.jobs.length < 100) : (Qs.mk (q.jobs ++ [j]) j.id).fine := by
 refine ⟨⟨?_, h63, fun x hx => ?_, ?_⟩, fun x hx => ?_, ?_⟩
 ·show (q.jobs ++ [j]).length ≤ 100
  rw [List.length_append, List.length_singleton]; omega
 ·rcases List.mem_append.1 hx with hx | hx
  ·exact (h.ok.job x hx).mono (Nat.le_of_lt hl)
  ·obtain rfl := List.mem_singleton.1 hx; exact ho
 ·rw [List.pairwise_append]
  refine ⟨h.ok.asc, List.pairwise_singleton _ _, fun a ha b hb => ?_⟩
  obtain rfl := List.mem_singleton.1 hb
  have := (h.ok.job a ha).id1
  omega
 ·rcases List.mem_append.1 hx with hx | hx
  ·exact h.job x hx
  ·obtain rfl := List.mem_singleton.1 hx; exact hf
 ·rw [List.pairwise_append]
  refine ⟨h.names, List.pairwise_singleton _ _, fun a ha b hb => ?_⟩
  obtain rfl := List.mem_singleton.1 hb
  exact named_none hn a ha
theorem Qs.fine.erase {q : Qs} (h : q.fine) (k : Nat) : (Qs.mk (q.jobs.eraseIdx k) q.last).fine := by
 have hs := List.eraseIdx_sublist q.jobs k
 refine ⟨⟨Nat.le_trans hs.length_le h.ok.len, h.ok.last, fun x hx => h.ok.job x (hs.mem hx), h.ok.asc.sublist hs⟩, fun x hx => h.job x (hs.mem hx), h.names.sublist hs⟩
theorem Qs.fine.last {q : Qs} (h : q.fine) (id : Nat) (h1 : q.last ≤ id) (h2 : id < 9223372036854775808) : (Qs.mk q.jobs id).fine :=
 ⟨⟨h.ok.len, h2, fun x hx => (h.ok.job x hx).mono h1, h.ok.asc⟩, h.job, h.names⟩
theorem Qs.fine.nil : (Qs.mk [] 0).fine := ⟨⟨by simp, by simp, by simp, by simp⟩, by simp, by simp⟩
theorem ended_of {s : Nat} (h : endedB s = true) : 3 ≤ s ∧ s ≤ 5 := by unfold endedB at h; simpa using h
theorem not_ended {s : Nat} (h : endedB s = false) : s < 3 ∨ 5 < s := by unfold endedB at h; simp at h; omega
theorem takeT_len' {s t r : List UInt8} {m : Nat} (h : takeT s m = some (t, r)) : t.length ≤ m := by
 unfold takeT at h
 cases hn : takeN s 4 with
 | none => rw [hn] at h; cases h
 | some x =>
  obtain ⟨n, r0⟩ := x
  rw [hn, Option.bind_some] at h
  split at h
  ·rename_i hc
   injection h with h; injection h with h1 h2
   rw [← h1, List.length_take]
   have := hc.1
   dsimp only at this ⊢
   omega
  ·cases h
/-- Every reader keeps what holds. -/
theorem rdK_fine {q : Qs} (h : q.fine) (kind : Nat) (r : List UInt8) (id : Nat) (hid : id < 9223372036854775808) (h0 : 0 < id ∨ kind = 6) (x : Qs × List UInt8) (hx : rdK kind q r id = some x) : x.1.fine := by
 unfold rdK at hx
 split at hx
 ·-- 1
  rename_i hk
  unfold rd1 at hx
  simp only [Option.bind_eq_some_iff] at hx
  obtain ⟨p, hp, c, hc, t, ht, k, hk2, hx⟩ := hx
  split at hx
  ·rename_i hcond
   obtain ⟨c1, c2, c3, c4, c5, c6⟩ := hcond
   injection hx with hx
   subst hx
   have hwk := takeT_len' (t := k.1) (r := k.2) (by rw [hk2])
   exact h.push (j := ⟨id, c.1, t.1, p.1, 1, 0, k.1, [], []⟩) ⟨by rcases h0 with h0 | h0 <;> (try dsimp only); omega; omega, Nat.le_refl _, c1, c2, c3, by show 0 ≤ 8; omega, by show 1 ≤ 1; omega, by show 1 ≤ 5; omega, hwk, by simp, by simp⟩ ⟨by simp, by simp, by simp⟩ c4 hid c5 c6
  ·cases hx
 split at hx
 ·unfold rd2 at hx
  simp only [Option.bind_eq_some_iff] at hx
  obtain ⟨k, hk, j, hj, hx⟩ := hx
  split at hx
  ·rename_i hc
   injection hx with hx
   subst hx
   have ho := h.ok.job j (List.mem_of_getElem? hj)
   have hf := h.job j (List.mem_of_getElem? hj)
   exact h.put hj rfl rfl rfl ⟨ho.id0, ho.id1, ho.prio, ho.cl, ho.tk, by show j.tries + 1 ≤ 8; have := hc.2; omega, ho.s1, ho.s5, ho.wk, ho.pt, ho.rs⟩ ⟨fun _ => by show 0 < j.tries + 1; omega, fun _ => by show 0 < j.tries + 1; omega, hf.rs0⟩
  ·cases hx
 split at hx
 ·unfold rd3 at hx
  simp only [Option.bind_eq_some_iff] at hx
  obtain ⟨k, hk, j, hj, hx⟩ := hx
  split at hx
  ·rename_i hc
   simp only [Option.bind_eq_some_iff] at hx
   obtain ⟨t, ht, hx⟩ := hx
   injection hx with hx
   subst hx
   have ho := h.ok.job j (List.mem_of_getElem? hj)
   have hf := h.job j (List.mem_of_getElem? hj)
   have hpt := takeT_len' (t := t.1) (r := t.2) (by rw [ht])
   exact h.put hj rfl rfl rfl ⟨ho.id0, ho.id1, ho.prio, ho.cl, ho.tk, ho.tr, ho.s1, ho.s5, ho.wk, hpt, ho.rs⟩ ⟨fun _ => hc.2, hf.st2, hf.rs0⟩
  ·cases hx
 split at hx
 ·unfold rd4 at hx
  simp only [Option.bind_eq_some_iff] at hx
  obtain ⟨k, hk, j, hj, hx⟩ := hx
  split at hx
  ·simp only [Option.bind_eq_some_iff] at hx
   obtain ⟨s, hs, t, ht, hx⟩ := hx
   split at hx
   ·rename_i hc
    injection hx with hx
    subst hx
    have ho := h.ok.job j (List.mem_of_getElem? hj)
    have hf := h.job j (List.mem_of_getElem? hj)
    have hrs := takeT_len' (t := t.1) (r := t.2) (by rw [ht])
    have he := ended_of hc
    refine h.put hj rfl rfl rfl ⟨ho.id0, ho.id1, ho.prio, ho.cl, ho.tk, ho.tr, by show 1 ≤ s.1; omega, by show s.1 ≤ 5; omega, ho.wk, ho.pt, hrs⟩ ⟨hf.pt0, fun e => ?_, fun e => ?_⟩
    ·dsimp only at e; omega
    ·dsimp only at e; rw [hc] at e; cases e
   ·cases hx
  ·cases hx
 split at hx
 ·unfold rd5 at hx
  simp only [Option.bind_eq_some_iff] at hx
  obtain ⟨k, hk, j, hj, hx⟩ := hx
  split at hx
  ·injection hx with hx
   subst hx
   exact h.erase k
  ·cases hx
 split at hx
 ·unfold rd6 at hx
  split at hx
  ·rename_i hc
   injection hx with hx
   subst hx
   exact h.last id hc hid
  ·cases hx
 ·cases hx
theorem one_fine {q q' : Qs} (h : q.fine) (s : List UInt8) (hx : q.one s = some q') : q'.fine := by
 unfold Qs.one at hx
 simp only [Option.bind_eq_some_iff] at hx
 obtain ⟨k, hk, hx⟩ := hx
 split at hx
 ·simp only [Option.bind_eq_some_iff] at hx
  obtain ⟨i, hi, hx⟩ := hx
  split at hx
  ·rename_i hc
   simp only [Option.bind_eq_some_iff] at hx
   obtain ⟨x, hx1, hx⟩ := hx
   split at hx
   ·injection hx with hx
    subst hx
    exact rdK_fine h k.1 i.2 i.1 hc.1 hc.2 x hx1
   ·cases hx
  ·cases hx
 ·cases hx
theorem all_fine : ∀ (l : List (List UInt8)) {q q' : Qs}, q.fine → q.all l = some q' → q'.fine
 | [], q, q', h, hx => by
  injection hx with hx
  subst hx; exact h
 | s :: l, q, q', h, hx => by
  have hx' : (q.one s).bind (fun q' => q'.all l) = some q' := hx
  simp only [Option.bind_eq_some_iff] at hx'
  obtain ⟨a, ha, hx'⟩ := hx'
  exact all_fine l (one_fine h s ha) hx'
theorem replay_fine {l : List (List UInt8)} {q : Qs} (h : replay l = some q) : q.fine := all_fine l Qs.fine.nil h
end
/- Walks: a queue of jobs: a taken job that is to get a text. -/
section
open Go.RowKit Go.Shelf
theorem findIdx_get {js : List Jb} {f : Jb → Bool} {k : Nat} (h : js.findIdx? f = some k) : ∃ j, js[k]? = some j ∧ f j = true := by
 rw [List.findIdx?_eq_some_iff_getElem] at h
 obtain ⟨hk, h1, _⟩ := h
 exact ⟨js[k], List.getElem?_eq_getElem hk, h1⟩
/-- The cells of a job of the queue. -/
theorem QD.job {P : QP} {v : Value} {x : Qst} {w : World} (h : QD P v x w) {k : Nat} {j : Jb} (hj : x.q.jobs[k]? = some j) : ∃ g cap, v = .slice (some ⟨g, 0, none⟩) x.q.jobs.length cap ∧ g < w.heap.size ∧ k < x.q.jobs.length ∧
  (∀ i u, i < 9 → j.cells[i]? = some u → w.cell? ⟨g, k * 9 + i, none⟩ = some u ∧ w.frozen? ⟨g, k * 9 + i, none⟩ = false) := by
 have hk : k < x.q.jobs.length := (List.getElem?_eq_some_iff.1 hj).1
 obtain ⟨g, cap, rfl⟩ := World.owns.pos h.ja (by omega)
 exact ⟨g, cap, rfl, (World.owns.facts h.ja).2.2.2.2, hk, fun i u hi hu => job_cell h.ja hj hi hu⟩
def heldP (P : QP) (v : Value) (x : Qst) (r : Int ⊕ (Nat × Jb)) (e : Ending) : Prop := match r with
 | .inl er => e = .returned (.tuple #[.pointer none, .int .i64 er])
 | .inr (k, j) => (∃ g cap, v = .slice (some ⟨g, 0, none⟩) x.q.jobs.length cap ∧ e = .returned (.tuple #[.pointer (some ⟨g, k * 9, none⟩), .int .i64 0])) ∧ x.q.jobs[k]? = some j
theorem held_any (P : QP) (v : Value) (x : Qst) (id : Int) (s : List UInt8) (w : World) (h : QD P v x w) :
  Calls Tryz.prog 57 #[.pointer (some ⟨P.p, 0, none⟩), .int .i64 id, strV s] w fun e w' => heldP P v x (x.held id s.length) e ∧ Below w.heap.size w w' := by
 obtain ⟨R, hR⟩ : ∃ R, R = x.held id s.length := ⟨_, rfl⟩
 rw [← hR]
 unfold Qst.held at hR
 have HS := Lib.hid (shut_any P.p P.d v x.q.last x.down w h.qa)
 have hsz : (bytesOf s).size = s.length := bytesOf_size s
 unfold strV
 by_cases hd : x.down = true
 ·rw [if_pos hd] at hR
  subst hR
  rw [if_pos hd] at HS
  clear hd
  go_enter Tryz.func57, Tryz.ntmps57
  go_wp2_with fail
  refine HS.out.mono ?_
  rintro e w1 ⟨rfl, rfl⟩
  go_wp2_with fail
  go_ret2
  exact ⟨rfl, Below.refl _ _⟩
 rw [if_neg hd] at hR HS
 have hlen := h.fine.ok.len
 have HI := Lib.hid (index_any P.p _ v x.q.last x.down x.q.jobs id w h.qa h.ja (by omega))
 clear hd
 cases hf : x.q.jobs.findIdx? (fun j => decide ((j.id : Int) = id)) with
 | none =>
  rw [hf] at hR HI
  dsimp only at hR
  subst hR
  clear hf
  rw [show placeI none = -1 from rfl] at HI
  go_enter Tryz.func57, Tryz.ntmps57
  go_wp2_with fail
  refine HS.out.mono ?_
  rintro e w1 ⟨rfl, rfl⟩
  go_wp2_with fail
  refine HI.out.mono ?_
  rintro e w2 ⟨rfl, hb2⟩
  go_wp2_with fail
  go_ret2
  exact ⟨rfl, hb2⟩
 | some k =>
  obtain ⟨j, hj, hjid⟩ := findIdx_get hf
  rw [hf] at hR HI
  dsimp only at hR
  rw [hj] at hR
  dsimp only at hR
  rw [show placeI (some k) = (k : Int) from rfl] at HI
  have HQ := Lib.hid h
  have HJ := Lib.hid hj
  obtain ⟨g, cap, rfl, -, hk, -⟩ := h.job hj
  clear hf hjid h hj
  by_cases hst : j.state = 2
  ·rw [if_neg (by simpa using hst)] at hR
   by_cases hl : 60000 < s.length
   ·rw [if_pos hl] at hR
    subst hR
    have hl' : (60000 : Int) < (s.length : Int) := by omega
    go_enter Tryz.func57, Tryz.ntmps57
    go_wp2_with fail
    refine HS.out.mono ?_
    rintro e w1 ⟨rfl, rfl⟩
    go_wp2_with fail
    refine HI.out.mono ?_
    rintro e w2 ⟨rfl, hb2⟩
    have hq2 := HQ.out.below hb2
    obtain ⟨-, y1, -⟩ := hq2.qa.cells
    obtain ⟨c4, -⟩ := job_cell hq2.ja HJ.out (by omega : 4 < 9) rfl
    rw [hst] at c4
    clear hq2
    go_wp2_with fail
    go_ret2
    exact ⟨rfl, hb2⟩
   ·rw [if_neg hl] at hR
    subst hR
    have hl' : ¬ (60000 : Int) < (s.length : Int) := by omega
    go_enter Tryz.func57, Tryz.ntmps57
    go_wp2_with fail
    refine HS.out.mono ?_
    rintro e w1 ⟨rfl, rfl⟩
    go_wp2_with fail
    refine HI.out.mono ?_
    rintro e w2 ⟨rfl, hb2⟩
    have hq2 := HQ.out.below hb2
    obtain ⟨-, y1, -⟩ := hq2.qa.cells
    obtain ⟨c4, -⟩ := job_cell hq2.ja HJ.out (by omega : 4 < 9) rfl
    rw [hst] at c4
    clear hq2
    go_wp2_with fail
    go_ret2
    exact ⟨⟨⟨g, cap, rfl, rfl⟩, HJ.out⟩, hb2⟩
  ·rw [if_pos hst] at hR
   subst hR
   have hst' : ((j.state : Int) == 2) = false := by rw [beq_eq_false_iff_ne]; omega
   clear hst
   go_enter Tryz.func57, Tryz.ntmps57
   go_wp2_with fail
   refine HS.out.mono ?_
   rintro e w1 ⟨rfl, rfl⟩
   go_wp2_with fail
   refine HI.out.mono ?_
   rintro e w2 ⟨rfl, hb2⟩
   have hq2 := HQ.out.below hb2
   obtain ⟨-, y1, -⟩ := hq2.qa.cells
   obtain ⟨c4, -⟩ := job_cell hq2.ja HJ.out (by omega : 4 < 9) rfl
   clear hq2
   go_wp2_with fail
   go_ret2
   exact ⟨rfl, hb2⟩
end
/- Walks: a queue of jobs: a job ends. -/
section
open Go.RowKit Go.Shelf
theorem QD.set {P : QP} {g cap k i : Nat} {x : Qst} {w : World} {j j' : Jb} (h : QD P (.slice (some ⟨g, 0, none⟩) x.q.jobs.length cap) x w) (hj : x.q.jobs[k]? = some j) (hi : i < 9) (u : Value) (hc : j'.cells = j.cells.set i u)
  (h1 : j'.id = j.id) (h2 : j'.client = j.client) (h3 : j'.token = j.token) (ho : j'.ok x.q.last) (hf : j'.fine) :
  QD P (.slice (some ⟨g, 0, none⟩) (x.q.put k j').jobs.length cap) { x with q := x.q.put k j' } (w.setCell ⟨g, k * 9 + i, none⟩ u) ∧ Kp (Mine P (.slice (some ⟨g, 0, none⟩) x.q.jobs.length cap)) w (w.setCell ⟨g, k * 9 + i, none⟩ u) := by
 have hn := owns_setAny h.ja (k * 9 + i) u
 rw [← jobsL_set x.q.jobs k j j' hj i hi u hc] at hn
 have hl : (x.q.put k j').jobs.length = x.q.jobs.length := List.length_set
 rw [hl]
 have hgp : ¬ g = P.p := fun e => h.qa.ne h.ja (by show some g = _; rw [e])
 refine ⟨⟨h.qa.other hgp _, ?_, h.dk.other (fun e => h.nv.1 (by show some g = _; rw [show g = P.d from e])) (fun e => h.nv.2.1 (by show some g = _; rw [show g = P.b0 from e])) (fun e => h.nv.2.2 (by show some g = _; rw [show g = P.b1 from e])) _, h.np, h.nv, h.fine.put hj h1 h2 h3 ho hf, h.good⟩,
  (Kp.refl _ w).setCell (a := ⟨g, k * 9 + i, none⟩) (.inr (.inr (.inr (.inr rfl)))) _⟩
 show World.owns _ _ _ _ _ (x.q.put k j').jobs.length _
 rw [hl]; exact hn
theorem note_q (x : Qst) (s : List UInt8) : (x.note s).2.q = x.q := rfl
theorem length_put (q : Qs) (k : Nat) (j : Jb) : (q.put k j).jobs.length = q.jobs.length := List.length_set
theorem finish_any (P : QP) (g cap k : Nat) (x : Qst) (j : Jb) (st : Nat) (s : List UInt8) (hst : 3 ≤ st) (hst5 : st ≤ 5) (hs : s.length ≤ 60000) (w : World) (h : QD P (.slice (some ⟨g, 0, none⟩) x.q.jobs.length cap) x w) (hj : x.q.jobs[k]? = some j) :
  Calls Tryz.prog 59 #[.pointer (some ⟨P.p, 0, none⟩), .pointer (some ⟨g, k * 9, none⟩), .int .i64 (st : Int), strV s] w fun e w' =>
   e = .returned (.int .i64 (x.over k j st s).1) ∧ QD P (.slice (some ⟨g, 0, none⟩) x.q.jobs.length cap) (x.over k j st s).2 w' ∧ Kp (Mine P (.slice (some ⟨g, 0, none⟩) x.q.jobs.length cap)) w w' := by
 have hjo := h.fine.ok.job j (List.mem_of_getElem? hj)
 have hjf := h.fine.job j (List.mem_of_getElem? hj)
 have hlast := h.fine.ok.last
 have c0 : w.cell? ⟨g, k * 9, none⟩ = some (.int .i64 j.id) := (job_cell h.ja hj (by omega : 0 < 9) rfl).1
 have HOV := Lib.hid (over_any j.id st s (by have := hjo.id1; omega) (by omega) (by omega) w)
 have hol : (overB j.id st s).length ≤ 100000000 := by
  unfold overB
  rw [List.length_append, List.length_append, recB_length, numB_length, textB_length]; omega
 obtain ⟨T, hT⟩ : ∃ T, T = overB j.id st s := ⟨_, rfl⟩
 rw [← hT] at HOV hol
 have HN := Lib.hid (fun W (hW : QD P (.slice (some ⟨g, 0, none⟩) x.q.jobs.length cap) x W) => note_any P _ x T hol W hW)
 have HQ := Lib.hid h
 have HJ := Lib.hid hj
 have HJO := Lib.hid hjo
 have HJF := Lib.hid hjf
 obtain ⟨R, hR⟩ : ∃ R, R = x.over k j st s := ⟨_, rfl⟩
 rw [← hR]
 unfold Qst.over Qst.noted at hR
 rw [← hT] at hR
 have hq1 := note_q x T
 obtain ⟨N, hN⟩ : ∃ N, N = x.note T := ⟨_, rfl⟩
 rw [← hN] at hR HN hq1
 obtain ⟨n1, n2⟩ := N
 dsimp only at hR HN hq1
 unfold strV at HOV HN ⊢
 by_cases h0 : n1 = 0
 ·rw [if_pos h0] at hR
  subst h0
  have HR := Lib.hid hR
  have HE := Lib.hid hq1
  clear hR hq1 hT hN hj hjo hjf h
  go_enter Tryz.func59, Tryz.ntmps59
  go_wp2_with fail
  refine HOV.out.mono ?_
  rintro e w1 ⟨rfl, hb1⟩
  go_wp2_with fail
  refine (HN.out w1 (HQ.out.below hb1)).mono ?_
  rintro e w2 ⟨rfl, hq2, hk2⟩
  have hk := (Kp.of_below (P := Mine P (.slice (some ⟨g, 0, none⟩) x.q.jobs.length cap)) hb1).trans hk2
  have hjq : n2.q.jobs[k]? = some j := by rw [HE.out]; exact HJ.out
  have hll : x.q.jobs.length = n2.q.jobs.length := by rw [HE.out]
  rw [hll] at hq2 hk
  obtain ⟨c4, f4⟩ := job_cell hq2.ja hjq (by omega : 4 < 9) rfl
  obtain ⟨s1, s2⟩ := hq2.set hjq (by omega : 4 < 9) (.int .i64 (st : Int)) (j' := { j with state := st }) rfl rfl rfl rfl
   (by rw [HE.out]; exact ⟨HJO.out.id0, HJO.out.id1, HJO.out.prio, HJO.out.cl, HJO.out.tk, HJO.out.tr, by show 1 ≤ st; omega, hst5, HJO.out.wk, HJO.out.pt, HJO.out.rs⟩)
   ⟨HJF.out.pt0, fun e => by dsimp only at e; omega, fun e => by have := not_ended e; dsimp only at this; omega⟩
  have hj2 : (n2.q.put k { j with state := st }).jobs[k]? = some { j with state := st } := put_get hjq
  obtain ⟨c8, f8⟩ := job_cell s1.ja hj2 (by omega : 8 < 9) rfl
  obtain ⟨t1, t2⟩ := QD.set (x := { n2 with q := n2.q.put k { j with state := st } }) s1 hj2 (by omega : 8 < 9) (.string (bytesOf s)) (j' := { j with state := st, result := s }) rfl rfl rfl rfl
   (by show Jb.ok _ n2.q.last; rw [HE.out]; exact ⟨HJO.out.id0, HJO.out.id1, HJO.out.prio, HJO.out.cl, HJO.out.tk, HJO.out.tr, by show 1 ≤ st; omega, hst5, HJO.out.wk, HJO.out.pt, hs⟩)
   ⟨HJF.out.pt0, fun e => by dsimp only at e; omega, fun e => by have := not_ended e; dsimp only at this; omega⟩
  have HT1 := Lib.hid t1
  rw [length_put] at t2
  have HK := Lib.hid ((hk.trans s2).trans t2)
  have HLL := Lib.hid hll
  clear hq2 hk s1 s2 t1 t2 hj2 hjq hk2 hb1 hll c0
  go_wp2_with fail
  go_ret
  rw [HR.out, HLL.out]
  refine ⟨rfl, ?_, HK.out⟩
  have t := HT1.out
  rw [put_put, length_put, HE.out] at t
  rw [HE.out]
  exact t
 ·rw [if_neg h0] at hR
  have HR := Lib.hid hR
  have h0' : (n1 == 0) = false := by rw [beq_eq_false_iff_ne]; exact h0
  clear hR hT hN hj hjo hjf h h0 hq1
  go_enter Tryz.func59, Tryz.ntmps59
  go_wp2_with fail
  refine HOV.out.mono ?_
  rintro e w1 ⟨rfl, hb1⟩
  go_wp2_with fail
  refine (HN.out w1 (HQ.out.below hb1)).mono ?_
  rintro e w2 ⟨rfl, hq2, hk2⟩
  have hk := (Kp.of_below (P := Mine P (.slice (some ⟨g, 0, none⟩) x.q.jobs.length cap)) hb1).trans hk2
  go_wp2_with fail
  go_ret
  rw [HR.out]
  exact ⟨rfl, hq2, hk⟩
end
/- Walks: a queue of jobs: Finish, Fail, Save, Give. Printed by gen_jb7.py. -/
section
open Go.RowKit Go.Shelf
/-- What a call does with a queue and its disk. -/
def Did (P : QP) (v : Value) (E : Value) (x' : Qst) (w : World) (e : Ending) (w' : World) : Prop := e = .returned E ∧ ∃ v', QD P v' x' w' ∧ Stp P v v' w w'
theorem held_job {x : Qst} {id : Int} {n k : Nat} {j : Jb} (h : x.held id n = .inr (k, j)) : x.q.jobs[k]? = some j ∧ j.state = 2 ∧ n ≤ 60000 ∧ (j.id : Int) = id := by
 unfold Qst.held at h
 split at h
 ·cases h
 split at h
 ·cases h
 ·rename_i k' hk'
  obtain ⟨j', hj', hid⟩ := findIdx_get hk'
  rw [hj'] at h
  dsimp only at h
  split at h
  ·cases h
  split at h
  ·cases h
  ·rename_i h1 h2
   injection h with h
   injection h with h3 h4
   subst h3 h4
   exact ⟨hj', by simpa using h1, by omega, by simpa using hid⟩
theorem held_ne {x : Qst} {id : Int} {n : Nat} (h : x.held id n = .inl 0) : False := by
 unfold Qst.held at h
 split at h
 ·injection h with h; cases h
 split at h
 ·injection h with h; cases h
 split at h
 ·injection h with h; cases h
 split at h
 ·injection h with h; cases h
 split at h
 ·injection h with h; cases h
 ·cases h
theorem Finish_did (P : QP) (v : Value) (x : Qst) (id : Int) (s : List UInt8) (w : World) (h : QD P v x w) :
  Calls Tryz.prog 16 #[.pointer (some ⟨P.p, 0, none⟩), .int .i64 id, strV s] w fun e w' => Did P v (.int .i64 (x.finish id 3 s).1) (x.finish id 3 s).2 w e w' := by
 have HH := Lib.hid (held_any P v x id s w h)
 have HQ := Lib.hid h
 obtain ⟨R, hR⟩ : ∃ R, R = x.finish id 3 s := ⟨_, rfl⟩
 rw [← hR]
 unfold Qst.finish at hR
 unfold strV at *
 cases hh : x.held id s.length with
 | inl er =>
  rw [hh] at hR HH
  dsimp only at hR
  subst hR
  have her : (er == 0) = false := by
   rw [beq_eq_false_iff_ne]
   rintro rfl
   exact held_ne hh
  clear hh h
  go_enter Tryz.func16, Tryz.ntmps16
  go_wp2_with fail
  refine HH.out.mono ?_
  rintro e w1 ⟨he, hb1⟩
  unfold heldP at he
  dsimp only at he
  subst he
  go_wp2_with fail
  go_ret
  exact ⟨rfl, v, HQ.out.below hb1, Stp.of_below hb1⟩
 | inr y =>
  obtain ⟨k, j⟩ := y
  obtain ⟨hj, hs2, hn, hid⟩ := held_job hh
  rw [hh] at hR HH
  dsimp only at hR
  have HR := Lib.hid hR
  have HJ := Lib.hid hj
  clear hh h hR hj hs2 hid
  go_enter Tryz.func16, Tryz.ntmps16
  go_wp2_with fail
  refine HH.out.mono ?_
  rintro e w1 ⟨he, hb1⟩
  unfold heldP at he
  dsimp only at he
  obtain ⟨⟨g, cap, rfl, he⟩, -⟩ := he
  subst he
  have HF := Lib.hid (finish_any P g cap k x j 3 s (by omega) (by omega) hn w1 (HQ.out.below hb1) HJ.out)
  unfold strV at HF
  go_wp2_with fail
  refine (show Calls Tryz.prog 59 #[.pointer (some ⟨P.p, 0, none⟩), .pointer (some ⟨g, k * 9, none⟩), .int .i64 3, .string (bytesOf s)] w1 _ from HF.out).mono ?_
  rintro e w2 ⟨rfl, hq2, hk2⟩
  go_wp2_with fail
  go_ret
  rw [HR.out]
  exact ⟨rfl, _, hq2, (Stp.of_below hb1).trans (Stp.of_kp hk2)⟩
theorem Fail_did (P : QP) (v : Value) (x : Qst) (id : Int) (s : List UInt8) (w : World) (h : QD P v x w) :
  Calls Tryz.prog 31 #[.pointer (some ⟨P.p, 0, none⟩), .int .i64 id, strV s] w fun e w' => Did P v (.int .i64 (x.finish id 4 s).1) (x.finish id 4 s).2 w e w' := by
 have HH := Lib.hid (held_any P v x id s w h)
 have HQ := Lib.hid h
 obtain ⟨R, hR⟩ : ∃ R, R = x.finish id 4 s := ⟨_, rfl⟩
 rw [← hR]
 unfold Qst.finish at hR
 unfold strV at *
 cases hh : x.held id s.length with
 | inl er =>
  rw [hh] at hR HH
  dsimp only at hR
  subst hR
  have her : (er == 0) = false := by
   rw [beq_eq_false_iff_ne]
   rintro rfl
   exact held_ne hh
  clear hh h
  go_enter Tryz.func31, Tryz.ntmps31
  go_wp2_with fail
  refine HH.out.mono ?_
  rintro e w1 ⟨he, hb1⟩
  unfold heldP at he
  dsimp only at he
  subst he
  go_wp2_with fail
  go_ret
  exact ⟨rfl, v, HQ.out.below hb1, Stp.of_below hb1⟩
 | inr y =>
  obtain ⟨k, j⟩ := y
  obtain ⟨hj, hs2, hn, hid⟩ := held_job hh
  rw [hh] at hR HH
  dsimp only at hR
  have HR := Lib.hid hR
  have HJ := Lib.hid hj
  clear hh h hR hj hs2 hid
  go_enter Tryz.func31, Tryz.ntmps31
  go_wp2_with fail
  refine HH.out.mono ?_
  rintro e w1 ⟨he, hb1⟩
  unfold heldP at he
  dsimp only at he
  obtain ⟨⟨g, cap, rfl, he⟩, -⟩ := he
  subst he
  have HF := Lib.hid (finish_any P g cap k x j 4 s (by omega) (by omega) hn w1 (HQ.out.below hb1) HJ.out)
  unfold strV at HF
  go_wp2_with fail
  refine (show Calls Tryz.prog 59 #[.pointer (some ⟨P.p, 0, none⟩), .pointer (some ⟨g, k * 9, none⟩), .int .i64 4, .string (bytesOf s)] w1 _ from HF.out).mono ?_
  rintro e w2 ⟨rfl, hq2, hk2⟩
  go_wp2_with fail
  go_ret
  rw [HR.out]
  exact ⟨rfl, _, hq2, (Stp.of_below hb1).trans (Stp.of_kp hk2)⟩
end
/- Walks: the reference's queue of jobs: a taken job, and its end. Printed by gen_rd5.py. -/
section
open Go.RowKit Go.Shelf
theorem RQD.job {P : RQP} {v : Value} {x : Qst} {w : World} (h : RQD P v x w) {k : Nat} {j : Jb} (hj : x.q.jobs[k]? = some j) : ∃ g cap, v = .slice (some ⟨g, 0, none⟩) x.q.jobs.length cap ∧ g < w.heap.size ∧ k < x.q.jobs.length ∧
  (∀ i u, i < 9 → j.cells[i]? = some u → w.cell? ⟨g, k * 9 + i, none⟩ = some u ∧ w.frozen? ⟨g, k * 9 + i, none⟩ = false) := by
 have hk : k < x.q.jobs.length := (List.getElem?_eq_some_iff.1 hj).1
 obtain ⟨g, cap, rfl⟩ := World.owns.pos h.ja (by omega)
 exact ⟨g, cap, rfl, (World.owns.facts h.ja).2.2.2.2, hk, fun i u hi hu => job_cell h.ja hj hi hu⟩
def rheldP (P : RQP) (v : Value) (x : Qst) (r : Int ⊕ (Nat × Jb)) (e : Ending) : Prop := match r with
 | .inl er => e = .returned (.tuple #[.pointer none, .int .i64 er])
 | .inr (k, j) => (∃ g cap, v = .slice (some ⟨g, 0, none⟩) x.q.jobs.length cap ∧ e = .returned (.tuple #[.pointer (some ⟨g, k * 9, none⟩), .int .i64 0])) ∧ x.q.jobs[k]? = some j
theorem rfheld_any (P : RQP) (v : Value) (x : Qst) (id : Int) (s : List UInt8) (w : World) (h : RQD P v x w) :
  Calls Tryz.prog 71 #[.pointer (some ⟨P.p, 0, none⟩), .int .i64 id, strV s] w fun e w' => rheldP P v x (x.held id s.length) e ∧ Below w.heap.size w w' := by
 obtain ⟨R, hR⟩ : ∃ R, R = x.held id s.length := ⟨_, rfl⟩
 rw [← hR]
 unfold Qst.held at hR
 obtain ⟨-, k1, -, k3, -, -, -⟩ := h.qa.cells
 have hsz : (bytesOf s).size = s.length := bytesOf_size s
 unfold strV
 by_cases hd : x.down = true
 ·rw [if_pos hd] at hR
  subst hR
  rw [hd] at k3
  clear hd
  go_enter Tryz.func71, Tryz.ntmps71
  go_wp2_with fail
  go_ret2
  exact ⟨rfl, Below.refl _ _⟩
 rw [if_neg hd] at hR
 have hd' : x.down = false := by simpa using hd
 rw [hd'] at k3
 have hlen := h.fine.ok.len
 have HI := Lib.hid (rfat_any P.p _ v x.q.last x.down x.q.jobs id w h.qa h.ja (by omega))
 clear hd
 cases hf : x.q.jobs.findIdx? (fun j => decide ((j.id : Int) = id)) with
 | none =>
  rw [hf] at hR HI
  dsimp only at hR
  subst hR
  clear hf
  rw [show placeI none = -1 from rfl] at HI
  go_enter Tryz.func71, Tryz.ntmps71
  go_wp2_with fail
  refine HI.out.mono ?_
  rintro e w2 ⟨rfl, rfl⟩
  have hb2 := Below.refl w2.heap.size w2
  clear k1 k3
  go_wp2_with fail
  go_ret2
  exact ⟨rfl, hb2⟩
 | some k =>
  obtain ⟨j, hj, hjid⟩ := findIdx_get hf
  rw [hf] at hR HI
  dsimp only at hR
  rw [hj] at hR
  dsimp only at hR
  rw [show placeI (some k) = (k : Int) from rfl] at HI
  have HQ := Lib.hid h
  have HJ := Lib.hid hj
  obtain ⟨g, cap, rfl, -, hk, -⟩ := h.job hj
  clear hf hjid h hj
  by_cases hst : j.state = 2
  ·rw [if_neg (by simpa using hst)] at hR
   by_cases hl : 60000 < s.length
   ·rw [if_pos hl] at hR
    subst hR
    have hl' : (60000 : Int) < (s.length : Int) := by omega
    go_enter Tryz.func71, Tryz.ntmps71
    go_wp2_with fail
    refine HI.out.mono ?_
    rintro e w2 ⟨rfl, rfl⟩
    have hb2 := Below.refl w2.heap.size w2
    clear k1 k3
    have hq2 := HQ.out.below hb2
    obtain ⟨-, y1, -⟩ := hq2.qa.cells
    obtain ⟨c4, -⟩ := job_cell hq2.ja HJ.out (by omega : 4 < 9) rfl
    rw [hst] at c4
    clear hq2
    go_wp2_with fail
    go_ret2
    exact ⟨rfl, hb2⟩
   ·rw [if_neg hl] at hR
    subst hR
    have hl' : ¬ (60000 : Int) < (s.length : Int) := by omega
    go_enter Tryz.func71, Tryz.ntmps71
    go_wp2_with fail
    refine HI.out.mono ?_
    rintro e w2 ⟨rfl, rfl⟩
    have hb2 := Below.refl w2.heap.size w2
    clear k1 k3
    have hq2 := HQ.out.below hb2
    obtain ⟨-, y1, -⟩ := hq2.qa.cells
    obtain ⟨c4, -⟩ := job_cell hq2.ja HJ.out (by omega : 4 < 9) rfl
    rw [hst] at c4
    clear hq2
    go_wp2_with fail
    go_ret2
    exact ⟨⟨⟨g, cap, rfl, rfl⟩, HJ.out⟩, hb2⟩
  ·rw [if_pos hst] at hR
   subst hR
   have hst' : ((j.state : Int) == 2) = false := by rw [beq_eq_false_iff_ne]; omega
   clear hst
   go_enter Tryz.func71, Tryz.ntmps71
   go_wp2_with fail
   refine HI.out.mono ?_
   rintro e w2 ⟨rfl, rfl⟩
   have hb2 := Below.refl w2.heap.size w2
   clear k1 k3
   have hq2 := HQ.out.below hb2
   obtain ⟨-, y1, -⟩ := hq2.qa.cells
   obtain ⟨c4, -⟩ := job_cell hq2.ja HJ.out (by omega : 4 < 9) rfl
   clear hq2
   go_wp2_with fail
   go_ret2
   exact ⟨rfl, hb2⟩
theorem RQD.set {P : RQP} {g cap k i : Nat} {x : Qst} {w : World} {j j' : Jb} (h : RQD P (.slice (some ⟨g, 0, none⟩) x.q.jobs.length cap) x w) (hj : x.q.jobs[k]? = some j) (hi : i < 9) (u : Value) (hc : j'.cells = j.cells.set i u)
  (h1 : j'.id = j.id) (h2 : j'.client = j.client) (h3 : j'.token = j.token) (ho : j'.ok x.q.last) (hf : j'.fine) :
  RQD P (.slice (some ⟨g, 0, none⟩) (x.q.put k j').jobs.length cap) { x with q := x.q.put k j' } (w.setCell ⟨g, k * 9 + i, none⟩ u) ∧ Kp (RMine P (.slice (some ⟨g, 0, none⟩) x.q.jobs.length cap)) w (w.setCell ⟨g, k * 9 + i, none⟩ u) := by
 have hn := owns_setAny h.ja (k * 9 + i) u
 rw [← jobsL_set x.q.jobs k j j' hj i hi u hc] at hn
 have hl : (x.q.put k j').jobs.length = x.q.jobs.length := List.length_set
 rw [hl]
 have hgp : ¬ g = P.p := fun e => h.qa.ne h.ja (by show some g = _; rw [e])
 refine ⟨⟨h.qa.other hgp _, ?_, h.dk.other (fun e => h.nv.1 (by show some g = _; rw [show g = P.d from e])) (fun e => h.nv.2 (by show some g = _; rw [show g = P.b from e])) _, h.np, h.nv, h.fine.put hj h1 h2 h3 ho hf, h.good⟩,
  (Kp.refl _ w).setCell (a := ⟨g, k * 9 + i, none⟩) (.inr (.inr (.inr rfl))) _⟩
 show World.owns _ _ _ _ _ (x.q.put k j').jobs.length _
 rw [hl]; exact hn
theorem rfend_any (P : RQP) (g cap k : Nat) (x : Qst) (j : Jb) (st : Nat) (s : List UInt8) (hst : 3 ≤ st) (hst5 : st ≤ 5) (hs : s.length ≤ 60000) (w : World) (h : RQD P (.slice (some ⟨g, 0, none⟩) x.q.jobs.length cap) x w) (hj : x.q.jobs[k]? = some j) :
  Calls Tryz.prog 73 #[.pointer (some ⟨P.p, 0, none⟩), .pointer (some ⟨g, k * 9, none⟩), .int .i64 (st : Int), strV s] w fun e w' =>
   e = .returned (.int .i64 (x.over k j st s).1) ∧ RQD P (.slice (some ⟨g, 0, none⟩) x.q.jobs.length cap) (x.over k j st s).2 w' ∧ Kp (RMine P (.slice (some ⟨g, 0, none⟩) x.q.jobs.length cap)) w w' := by
 have hjo := h.fine.ok.job j (List.mem_of_getElem? hj)
 have hjf := h.fine.job j (List.mem_of_getElem? hj)
 have hlast := h.fine.ok.last
 have c0 : w.cell? ⟨g, k * 9, none⟩ = some (.int .i64 j.id) := (job_cell h.ja hj (by omega : 0 < 9) rfl).1
 have HOV := Lib.hid (rfover_any j.id st s (by have := hjo.id1; omega) (by omega) (by omega) w)
 have hol : (overB j.id st s).length ≤ 100000000 := by
  unfold overB
  rw [List.length_append, List.length_append, recB_length, numB_length, textB_length]; omega
 obtain ⟨T, hT⟩ : ∃ T, T = overB j.id st s := ⟨_, rfl⟩
 rw [← hT] at HOV hol
 have HN := Lib.hid (fun W (hW : RQD P (.slice (some ⟨g, 0, none⟩) x.q.jobs.length cap) x W) => rfnote_any P _ x T hol W hW)
 have HQ := Lib.hid h
 have HJ := Lib.hid hj
 have HJO := Lib.hid hjo
 have HJF := Lib.hid hjf
 obtain ⟨R, hR⟩ : ∃ R, R = x.over k j st s := ⟨_, rfl⟩
 rw [← hR]
 unfold Qst.over Qst.noted at hR
 rw [← hT] at hR
 have hq1 := note_q x T
 obtain ⟨N, hN⟩ : ∃ N, N = x.note T := ⟨_, rfl⟩
 rw [← hN] at hR HN hq1
 obtain ⟨n1, n2⟩ := N
 dsimp only at hR HN hq1
 unfold strV at HOV HN ⊢
 by_cases h0 : n1 = 0
 ·rw [if_pos h0] at hR
  subst h0
  have HR := Lib.hid hR
  have HE := Lib.hid hq1
  clear hR hq1 hT hN hj hjo hjf h
  go_enter Tryz.func73, Tryz.ntmps73
  go_wp2_with fail
  refine HOV.out.mono ?_
  rintro e w1 ⟨rfl, hb1⟩
  go_wp2_with fail
  refine (HN.out w1 (HQ.out.below hb1)).mono ?_
  rintro e w2 ⟨rfl, hq2, hk2⟩
  have hk := (Kp.of_below (P := RMine P (.slice (some ⟨g, 0, none⟩) x.q.jobs.length cap)) hb1).trans hk2
  have hjq : n2.q.jobs[k]? = some j := by rw [HE.out]; exact HJ.out
  have hll : x.q.jobs.length = n2.q.jobs.length := by rw [HE.out]
  rw [hll] at hq2 hk
  obtain ⟨c4, f4⟩ := job_cell hq2.ja hjq (by omega : 4 < 9) rfl
  obtain ⟨s1, s2⟩ := hq2.set hjq (by omega : 4 < 9) (.int .i64 (st : Int)) (j' := { j with state := st }) rfl rfl rfl rfl
   (by rw [HE.out]; exact ⟨HJO.out.id0, HJO.out.id1, HJO.out.prio, HJO.out.cl, HJO.out.tk, HJO.out.tr, by show 1 ≤ st; omega, hst5, HJO.out.wk, HJO.out.pt, HJO.out.rs⟩)
   ⟨HJF.out.pt0, fun e => by dsimp only at e; omega, fun e => by have := not_ended e; dsimp only at this; omega⟩
  have hj2 : (n2.q.put k { j with state := st }).jobs[k]? = some { j with state := st } := put_get hjq
  obtain ⟨c8, f8⟩ := job_cell s1.ja hj2 (by omega : 8 < 9) rfl
  obtain ⟨t1, t2⟩ := RQD.set (x := { n2 with q := n2.q.put k { j with state := st } }) s1 hj2 (by omega : 8 < 9) (.string (bytesOf s)) (j' := { j with state := st, result := s }) rfl rfl rfl rfl
   (by show Jb.ok _ n2.q.last; rw [HE.out]; exact ⟨HJO.out.id0, HJO.out.id1, HJO.out.prio, HJO.out.cl, HJO.out.tk, HJO.out.tr, by show 1 ≤ st; omega, hst5, HJO.out.wk, HJO.out.pt, hs⟩)
   ⟨HJF.out.pt0, fun e => by dsimp only at e; omega, fun e => by have := not_ended e; dsimp only at this; omega⟩
  have HT1 := Lib.hid t1
  rw [length_put] at t2
  have HK := Lib.hid ((hk.trans s2).trans t2)
  have HLL := Lib.hid hll
  clear hq2 hk s1 s2 t1 t2 hj2 hjq hk2 hb1 hll c0
  go_wp2_with fail
  go_ret
  rw [HR.out, HLL.out]
  refine ⟨rfl, ?_, HK.out⟩
  have t := HT1.out
  rw [put_put, length_put, HE.out] at t
  rw [HE.out]
  exact t
 ·rw [if_neg h0] at hR
  have HR := Lib.hid hR
  have h0' : (n1 == 0) = false := by rw [beq_eq_false_iff_ne]; exact h0
  clear hR hT hN hj hjo hjf h h0 hq1
  go_enter Tryz.func73, Tryz.ntmps73
  go_wp2_with fail
  refine HOV.out.mono ?_
  rintro e w1 ⟨rfl, hb1⟩
  go_wp2_with fail
  refine (HN.out w1 (HQ.out.below hb1)).mono ?_
  rintro e w2 ⟨rfl, hq2, hk2⟩
  have hk := (Kp.of_below (P := RMine P (.slice (some ⟨g, 0, none⟩) x.q.jobs.length cap)) hb1).trans hk2
  go_wp2_with fail
  go_ret
  rw [HR.out]
  exact ⟨rfl, hq2, hk⟩
end
end Go.Proofs.YtoggmplkbiidhaaGreatDoor
