/- Walks: lists of strings. -/
import Derived.Test.YtfiajfjaamfeoaaWg
namespace Go.Proofs.Ytfiajfjaamfeoaa
open Go.RowKit
set_option maxHeartbeats 1000000 in
theorem listfour_any (n : Nat) (hn : n ≤ 1000000000) (Bb base B0 k : Nat) (xs : List Value) (v : Value) (hk : k ≤ 100000000) (w : World) (hB1 : B0 ≤ Bb) (hB2 : B0 ≤ base) (hbs : base ≤ w.heap.size)
    (hc : w.heap[Bb]? = some (.cells #[v] 41)) (ho : w.owns base 5 1 v k xs) :
    Calls Try.prog 25 #[.int .i64 (n : Int), .pointer (some ⟨Bb, 0, none⟩)] w fun e w' => e = .returned (.tuple #[]) ∧ Below B0 w w' ∧ ∃ v', w'.heap[Bb]? = some (.cells #[v'] 41) ∧ w'.owns base 5 1 v' (k + 4) (xs ++ (fourL n).map byteV) := by
  have hcell : w.cell? ⟨Bb, 0, none⟩ = some v := cell_of_one hc
  have hfz : w.frozen? ⟨Bb, 0, none⟩ = false := free_of_one hc
  have hlt := lt_of_heap hc
  have hne := ho.ne hc (by decide)
  obtain ⟨i0, hi0, hz0, hz1, hz2⟩ := info_parts Try.info5'
  go_enter Try.func25, Try.ntmps25
  rw [fourL_val' n hn]
  go_wp2_with (at_builtin; refine wpList_append_owns _ rfl (.tmp 3) (.tmp 15) 41 rfl base 5 i0 (.int .u8 0) 1 1 Try.underlying41 hi0 hz0 hz1 hz2 rfl (by decide) v k xs rfl (ho.alloc _) ⟨w.heap.size, 0, none⟩ 4 4 _ rfl rfl (news_alloc _ _ _) (by simp [Value.oneCell']) (by unfold maxLen; omega) (by omega) (by simp; omega) ?_; intro v4 w4 hown4 hg4 _; obtain ⟨g4, cap4, rfl⟩ := hown4.pos (by omega); have hx4 : w4.heap[Bb]? = some (.cells #[v] 41) := (by rw [hg4.block _ (by simp; omega) (Ne.symm hne), Below.heap_alloc _ _ _ hlt]; exact hc); have hcell4 := cell_of_one hx4; have hfz4 := free_of_one hx4)
  go_end0
  have hb4 : Below B0 w w4 := ((Below.refl _ _).alloc (by omega) _).grown hg4 (by simp; omega) (fun k e => by have := ho.lt _ e; omega)
  refine ⟨rfl, hb4.setCell (by simpa using hB1) _, _, one_setCell hx4, hown4.setCell_ne (hown4.ne hx4 (by decide)) _⟩
theorem four_any (n : Nat) (hn : n ≤ 1000000000) (w : World) :
    Calls Try.prog 26 #[.int .i64 (n : Int)] w fun e w' => e = .returned (.slice (some ⟨w.heap.size, 0, none⟩) 4 4) ∧ w' = w.alloc (.cells ((fourL n).map byteV).toArray 5) := by
  go_enter Try.func26, Try.ntmps26
  rw [fourL_val' n hn]
  go_wp2
  go_ret
  exact ⟨rfl, rfl⟩
theorem Digest_owns (l : List UInt8) (hs : l.length ≤ 140737488351232) (w : World) :
    Calls Try.prog 12 #[.string ⟨l.toArray⟩] w fun e w' => e = .returned (.string (runB (bytesOf l) 0 32)) ∧ Below w.heap.size w w' := Digest_any (bytesOf l) (by simpa [bytesOf, ByteArray.size] using hs) w
set_option maxHeartbeats 2000000 in
theorem List_any (d : UInt8) (l : List ByteArray) (hlong : longB l 20000 = false) (v : Value) (w : World) (hr : w.reads w.heap.size v (l.map Value.string)) :
    Calls Try.prog 18 #[byteV d, v] w fun e w' => e = .returned (.string (runB (bytesOf (listTo d l.length l)) 0 32)) ∧ Below w.heap.size w w' := by
  obtain ⟨i0, hi0, hz0, hz1, hz2⟩ := info_parts Try.info5'
  have hbk := longB_bulk l 20000 hlong
  have hln := bulk_len l
  obtain ⟨a, cap, rfl, hsh⟩ := reads_shape hr
  have HS := Lib.hid hsh
  clear hsh hr hlong
  go_enter Try.func18, Try.ntmps18
  go_wp2_with fail
  have how0 : ((w.alloc (.cells #[byteV d] 5)).alloc (.cells #[.slice (some ⟨w.heap.size, 0, none⟩) 1 1] 41)).owns w.heap.size 5 1 (.slice (some ⟨w.heap.size, 0, none⟩) 1 1) 1 ([d].map byteV) := by
    refine World.owns.alloc ⟨rfl, .inr ⟨w.heap.size, 1, #[byteV d], (0, 0), rfl, Nat.le_refl _, heap_alloc_new _ _, okFz_zero _, Nat.le_refl _, by unfold maxLen; omega, rfl, rfl⟩⟩ _
  refine (listfour_any l.length (by omega) (w.heap.size + 1) w.heap.size w.heap.size 1 _ _ (by omega) _ (by omega) (Nat.le_refl _) (by simp; omega) (alloc_last _ _ (by simp)) how0).mono ?_
  rintro e w1 ⟨rfl, hb1, v1, hx1, ho1⟩
  have hB1 : Below w.heap.size w w1 := (((Below.refl _ w).alloc (Nat.le_refl _) _).alloc (by simp) _).trans hb1
  clear hb1 how0
  go_wp2
  go_loopw [18] (fun i wx => ∃ (k : Nat) (v5 : Value), k ≤ l.length ∧ i = .int .i64 k ∧ wx.heap[w.heap.size + 1]? = some (.cells #[v5] 41) ∧ wx.owns w.heap.size 5 1 v5 (listTo d l.length (l.take k)).length ((listTo d l.length (l.take k)).map byteV) ∧ Below w.heap.size w wx) (fun i _ => l.length - (intOf i).toNat)
  case atStart =>
    refine ⟨0, v1, by omega, rfl, hx1, ?_, hB1⟩
    have : listTo d l.length (l.take 0) = [d] ++ fourL l.length := by simp [listTo]
    rw [this, List.map_append]; exact ho1
  case round =>
    obtain ⟨k, v5, hk, rfl, hx, how, hB⟩ := hrel
    have hsz := hB.size
    by_cases hlt : k < l.length
    · obtain ⟨x, hxk⟩ : ∃ x, l[k]? = some x := ⟨l[k], List.getElem?_eq_getElem hlt⟩
      have hkI : (k : Int) < (l.length : Int) := by omega
      have hxs := bulk_get l k x hxk
      obtain ⟨b, off, rfl, hb, hc⟩ := HS.out k x hxk
      have hcr : wr.cell? ⟨b, off + k, none⟩ = some (.string x) := (hB.cell (p := ⟨b, off + k, none⟩) hb).trans hc
      have hll := listTo_length d l.length (l.take k)
      have hbt := bulk_take l k
      have HX := Lib.hid hxk
      clear hxk
      go_wp2_with fail
      refine (listfour_any x.size (by omega) (w.heap.size + 1) w.heap.size w.heap.size _ _ _ (by omega) _ (by omega) (Nat.le_refl _) hsz hx how).mono ?_
      rintro e w2 ⟨rfl, hb2, v2, hx2, ho2⟩
      have hB2 : Below w.heap.size w w2 := hB.trans hb2
      have hsz2 := hB2.size
      have hcell2 := cell_of_one hx2
      have hfz2 := free_of_one hx2
      have hne2 := ho2.ne hx2 (by decide)
      have hl2 := lt_of_heap hx2
      clear hb2 hcr
      go_wp2_with (at_builtin; refine wpList_append_owns_string _ rfl (.tmp 26) (.tmp 27) 41 9 rfl w.heap.size 5 i0 Try.underlying41 Try.underlying9 hi0 hz0 hz1 hz2 v2 _ _ rfl ho2 x rfl (by unfold maxLen; omega) (by omega) hsz2 ?_; intro v4 w4 hown4 hg4 _; obtain ⟨g4, cap4, rfl⟩ := hown4.pos (by omega); have hx4 : w4.heap[w.heap.size + 1]? = some (.cells #[v2] 41) := ((hg4.block _ hl2 (Ne.symm hne2)).trans hx2); have hcell4 := cell_of_one hx4; have hfz4 := free_of_one hx4)
      go_roundw
      case rel =>
        have hb4 : Below w.heap.size w w4 := hB2.grown hg4 hsz2 (fun k e => by have := ho2.lt _ e; omega)
        refine ⟨k + 1, _, by omega, by go_num, one_setCell hx4, ?_, hb4.setCell (by simp) _⟩
        have h4 := hown4.setCell_ne (a := ⟨w.heap.size + 1, 0, none⟩) (hown4.ne hx4 (by decide)) (.slice (some ⟨g4, 0, none⟩) ((listTo d l.length (l.take k)).length + 4 + x.size) cap4)
        rw [take_snoc' _ _ _ HX.out, listTo_snoc, List.map_append, List.map_append, ← strCells_byteV]
        have hl : (listTo d l.length (l.take k) ++ fourL x.size ++ x.data.toList).length = (listTo d l.length (l.take k)).length + 4 + x.size := by
          simp only [List.length_append, fourL_length, Array.length_toList]; rfl
        rw [hl]; exact h4
      case measure => simp [intOf]; omega
    · obtain rfl : k = l.length := by omega
      rw [List.take_length] at how
      have hll := listTo_length d l.length l
      have hp : 0 < (listTo d l.length l).length := by simp [listTo]
      obtain ⟨g5, cap5, rfl⟩ := how.pos hp
      have hcell2 := cell_of_one hx
      have hcv := run_owns_string (P := Try.prog) (w := wr) 41 9 5 Try.underlying41 Try.underlying5 Try.underlying9 how (Nat.le_refl _) cap5
      rw [List.take_length] at hcv
      go_wp2_with (refine (Digest_owns _ (by omega) _).mono ?_; rintro e w6 ⟨rfl, hb6⟩)
      go_ret
      exact ⟨rfl, hB.trans (hb6.mono hsz)⟩
end Go.Proofs.Ytfiajfjaamfeoaa
