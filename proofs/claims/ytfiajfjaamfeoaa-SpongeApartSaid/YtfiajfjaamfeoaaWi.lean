/- Walks: the reference's lists of strings. -/
import Derived.Test.YtfiajfjaamfeoaaWh
import Derived.Deep.RegionHeld3
namespace Go.Proofs.Ytfiajfjaamfeoaa
open Go.RowKit
theorem refDigest_owns (l : List UInt8) (hs : l.length ≤ 1000000) (w : World) :
    Calls Try.prog 16 #[.string ⟨l.toArray⟩] w fun e w' => e = .returned (.string (runB (bytesOf l) 0 32)) ∧ Below w.heap.size w w' := refDigest_any (bytesOf l) (by simpa [bytesOf, ByteArray.size] using hs) w
set_option maxHeartbeats 4000000 in
theorem refList_any (d : UInt8) (l : List ByteArray) (hlong : longB l 20000 = false) (v : Value) (w : World) (hr : w.reads w.heap.size v (l.map Value.string)) :
    Calls Try.prog 19 #[byteV d, v] w fun e w' => e = .returned (.string (runB (bytesOf (listTo d l.length l)) 0 32)) ∧ Below w.heap.size w w' := by
  obtain ⟨i0, hi0, hz0, hz1, hz2⟩ := info_parts Try.info5'
  have hbk := longB_bulk l 20000 hlong
  have hln := bulk_len l
  obtain ⟨a, cap, rfl, hsh⟩ := reads_shape hr
  have HS := Lib.hid hsh
  clear hsh hr hlong
  go_enter Try.func19, Try.ntmps19
  go_wp2_with fail
  refine (four_any l.length (by omega) _).mono ?_
  rintro e w1 ⟨rfl, rfl⟩
  have how0 : ((w.alloc (.cells #[byteV d] 5)).alloc (.cells ((fourL l.length).map byteV).toArray 5)).owns w.heap.size 5 1 (.slice (some ⟨w.heap.size, 0, none⟩) 1 1) 1 ([d].map byteV) := by
    refine World.owns.alloc ⟨rfl, .inr ⟨w.heap.size, 1, #[byteV d], (0, 0), rfl, Nat.le_refl _, heap_alloc_new _ _, okFz_zero _, Nat.le_refl _, by unfold maxLen; omega, rfl, rfl⟩⟩ _
  have hnw := news_alloc (w.alloc (.cells #[byteV d] 5)) ((fourL l.length).map byteV) 5
  rw [World.size_alloc] at hnw
  have HN := Lib.hid hnw
  clear hnw
  go_wp2_with (at_builtin; refine wpList_append_owns _ rfl (.tmp 8) (.tmp 11) 41 rfl w.heap.size 5 i0 (.int .u8 0) 1 1 Try.underlying41 hi0 hz0 hz1 hz2 rfl (by decide) _ 1 _ rfl how0 ⟨w.heap.size + 1, 0, none⟩ 4 4 ((fourL l.length).map byteV) rfl rfl HN.out (by simp [fourL, Value.oneCell']) (by unfold maxLen; omega) (by omega) (by simp; omega) ?_; intro v1 w2 ho1 hg2 _; obtain ⟨g1, cap1, rfl⟩ := ho1.pos (by omega))
  have hB1 : Below w.heap.size w w2 := (((Below.refl _ w).alloc (Nat.le_refl _) _).alloc (by simp) _).grown hg2 (by simp; omega) (fun k e => by have := how0.lt _ e; omega)
  clear how0 hg2 HN
  go_loopw [5, 6] (fun v5 i wx => ∃ (k : Nat), k ≤ l.length ∧ i = .int .i64 k ∧ wx.owns w.heap.size 5 1 v5 (listTo d l.length (l.take k)).length ((listTo d l.length (l.take k)).map byteV) ∧ Below w.heap.size w wx) (fun _ i _ => l.length - (intOf i).toNat)
  case atStart =>
    refine ⟨0, by omega, rfl, ?_, hB1⟩
    have : listTo d l.length (l.take 0) = [d] ++ fourL l.length := by simp [listTo]
    rw [this, List.map_append]; exact ho1
  case round =>
    obtain ⟨k, hk, rfl, how, hB⟩ := hrel
    have hsz := hB.size
    by_cases hlt : k < l.length
    · obtain ⟨x, hxk⟩ : ∃ x, l[k]? = some x := ⟨l[k], List.getElem?_eq_getElem hlt⟩
      have hkI : (k : Int) < (l.length : Int) := by omega
      have hk0 : (0 : Int) ≤ (k : Int) := by omega
      have hxs := bulk_get l k x hxk
      obtain ⟨b, off, rfl, hb, hc⟩ := HS.out k x hxk
      have hcr : wr.cell? ⟨b, off + k, none⟩ = some (.string x) := (hB.cell (p := ⟨b, off + k, none⟩) hb).trans hc
      have hll := listTo_length d l.length (l.take k)
      have hbt := bulk_take l k
      have HX := Lib.hid hxk
      clear hxk hc
      go_wp2_with fail
      have hnw := news_alloc wr ((fourL x.size).map byteV) 5
      have HN := Lib.hid hnw
      clear hnw
      obtain ⟨g5, cap5, rfl⟩ := how.pos (by simp [listTo])
      have hbw : b < wr.heap.size := by omega
      go_region_held3 (fun w' => w'.cell? ⟨b, off + k, none⟩ = some (.string x))
        (first
          | go_keep
          | assumption)
        (first
          | (refine step_append_owns _ (by rfl) (.tmp 19) (.tmp 25) 41 (by rfl) w.heap.size 5 i0 (.int .u8 0) 1 1 Try.underlying41 hi0 hz0 hz1 hz2 rfl (by decide) _ _ _ (by rfl) ((how.alloc _).drew) ⟨wr.heap.size, 0, none⟩ 4 4 ((fourL x.size).map byteV) (by rfl) (by rfl) (fun j u h => HN.out j u h) (by simp [fourL, Value.oneCell']) (by unfold maxLen; omega) (by omega) (by simp; omega) ?_; intro v4 w4 hown4 hg4; have hk4 : w4.cell? ⟨b, off + k, none⟩ = some (.string x) := hg4.cell (a := ⟨b, off + k, none⟩) ((World.cell?_of_block (w := wr) (a := ⟨b, off + k, none⟩) (Below.heap_alloc wr _ b hbw)).trans hcr) (by intro e; have := how.lt _ e.symm; simp at this; omega))
          | (refine step_append_owns_string _ (by rfl) (.tmp 26) (.tmp 30) 41 9 (by rfl) w.heap.size 5 i0 Try.underlying41 Try.underlying9 hi0 hz0 hz1 hz2 v4 _ _ (by rfl) hown4 x (by rfl) (by unfold maxLen; omega) (by omega) (by have := hg4.size; simp at this; omega) ?_; intro v6 w6 hown6 hg6; have hk6 : w6.cell? ⟨b, off + k, none⟩ = some (.string x) := hg6.cell (a := ⟨b, off + k, none⟩) hk4 (by intro e; have := hown4.lt _ e.symm; simp at this; omega))
          | (go_simp; go_at_call 26; refine (four_any x.size (by omega) _).mono ?_; rintro e w3 ⟨rfl, rfl⟩))
      go_wp2
      go_roundw
      case rel =>
        have hb4 : Below w.heap.size w w4 := ((hB.alloc hsz _).drew).grown hg4 (by simp; omega) (fun k e => by have := how.lt _ e; omega)
        have hb6 : Below w.heap.size w w6 := hb4.grown hg6 hb4.size (fun k e => by have := hown4.lt _ e; omega)
        refine ⟨k + 1, by omega, by go_num, ?_, hb6⟩
        rw [take_snoc' _ _ _ HX.out, listTo_snoc, List.map_append, List.map_append, ← strCells_byteV]
        have hl : (listTo d l.length (l.take k) ++ fourL x.size ++ x.data.toList).length = (listTo d l.length (l.take k)).length + 4 + x.size := by
          simp only [List.length_append, fourL_length, Array.length_toList]; rfl
        rw [hl]; exact hown6
      case measure => simp [intOf]; omega
    · obtain rfl : k = l.length := by omega
      rw [List.take_length] at how
      have hll := listTo_length d l.length l
      have hp : 0 < (listTo d l.length l).length := by simp [listTo]
      obtain ⟨g5, cap5, rfl⟩ := how.pos hp
      have hcv := run_owns_string (P := Try.prog) (w := wr) 41 9 5 Try.underlying41 Try.underlying5 Try.underlying9 how (Nat.le_refl _) cap5
      rw [List.take_length] at hcv
      go_wp2_with (refine (refDigest_owns _ (by omega) _).mono ?_; rintro e w6 ⟨rfl, hb6⟩)
      go_ret
      exact ⟨rfl, hB.trans (hb6.mono hsz)⟩
end Go.Proofs.Ytfiajfjaamfeoaa
