/- Walks: the law of lists. -/
import Derived.Test.YtfiajfjaamfeoaaWj
namespace Go.Proofs.Ytfiajfjaamfeoaa
open Go.RowKit
theorem List_owns (d : UInt8) (l : List ByteArray) (hlong : longB l 20000 = false) (v : Value) (w : World) (hr : w.reads w.heap.size v (l.map Value.string)) :
    Calls Try.prog 18 #[.int .u8 (d.toNat : Int), v] w fun e w' => e = .returned (.string (runB (bytesOf (listTo d l.length l)) 0 32)) ∧ Below w.heap.size w w' := List_any d l hlong v w hr
theorem longB_mono (l : List ByteArray) (m n : Int) (h : longB l m = false) (hmn : m ≤ n) : longB l n = false := by
  induction l generalizing m n with
  | nil => rfl
  | cons x r ih =>
    rw [longB_cons] at h ⊢
    by_cases hx : m ≤ (x.size : Int)
    · rw [if_pos hx] at h; cases h
    · rw [if_neg hx] at h
      rw [if_neg (by omega)]
      exact ih _ _ h (by omega)
/-- A small number's four bytes. -/
theorem fourL_small (n : Nat) (h : n ≤ 5000) : (fourL n).map byteV = [.int .u8 0, .int .u8 0, .int .u8 ((n : Int) / 256), .int .u8 ((n : Int) % 256)] := by
  rw [fourL_val, show (n : Int) / 16777216 % 256 = 0 by omega, show (n : Int) / 65536 % 256 = 0 by omega, show (n : Int) / 256 % 256 = (n : Int) / 256 by omega]
set_option maxRecDepth 100000 in
set_option maxHeartbeats 4000000 in
theorem lists_law (d : UInt8) (l : List ByteArray) (hl : l.length ≤ 9223372036854775807) (v : Value) (w : World) (hr : w.reads w.heap.size v (l.map Value.string)) :
    Calls Try.prog 6 #[byteV d, v] w fun e w' => e = .returned (.bool true) ∧ Below w.heap.size w w' := by
  obtain ⟨i0, hi0, hz0, hz1, hz2⟩ := info_parts Try.info5'
  by_cases hlong : longB l 5000 = true
  · have HL := fun w (h : w.reads w.heap.size v (l.map Value.string)) => Long_any l 5000 (by omega) hl v w h
    rw [hlong] at HL
    go_enter Try.func6, Try.ntmps6
    go_wp2_with fail
    refine (HL _ hr).mono ?_
    rintro e w1 ⟨rfl, rfl⟩
    clear HL
    go_wp2_with fail
    refine (shown_any _).mono ?_
    rintro e w1 ⟨rfl, hb1⟩
    go_wp2
    go_ret
    exact ⟨rfl, hb1⟩
  · have hlong' : longB l 5000 = false := by simpa using hlong
    have HL := fun w (h : w.reads w.heap.size v (l.map Value.string)) => Long_any l 5000 (by omega) hl v w h
    rw [hlong'] at HL
    have hbk := longB_bulk l 5000 hlong'
    have hln := bulk_len l
    have hl2 := longB_mono l 5000 20000 hlong' (by omega)
    have HR := Lib.hid hr
    obtain ⟨a, cap, rfl, hsh⟩ := reads_shape hr
    have HS := Lib.hid hsh
    clear hsh hlong hlong'
    go_enter Try.func6, Try.ntmps6
    go_wp2_with fail
    refine (HL _ hr).mono ?_
    rintro e w1 ⟨rfl, rfl⟩
    clear HL hr
    go_wp2_with fail
    have how0 : (w.alloc (.cells #[byteV d, .int .u8 0, .int .u8 0, .int .u8 ((l.length : Int) / 256), .int .u8 ((l.length : Int) % 256)] 5)).owns w.heap.size 5 1 (.slice (some ⟨w.heap.size, 0, none⟩) 5 5) 5 ((listTo d l.length []).map byteV) := by
      have hq : (listTo d l.length []).map byteV = [byteV d, .int .u8 0, .int .u8 0, .int .u8 ((l.length : Int) / 256), .int .u8 ((l.length : Int) % 256)] := by
        rw [listTo, List.map_append, List.map_append, fourL_small l.length (by omega)]; rfl
      rw [hq]
      exact ⟨rfl, .inr ⟨w.heap.size, 5, _, (0, 0), rfl, Nat.le_refl _, heap_alloc_new _ _, okFz_zero _, Nat.le_refl _, by unfold maxLen; omega, rfl, rfl⟩⟩
    have hB0 : Below w.heap.size w (w.alloc (.cells #[byteV d, .int .u8 0, .int .u8 0, .int .u8 ((l.length : Int) / 256), .int .u8 ((l.length : Int) % 256)] 5)) := (Below.refl _ w).alloc (Nat.le_refl _) _
    go_loopw [5, 6] (fun v5 i wx => ∃ (k : Nat), k ≤ l.length ∧ i = .int .i64 k ∧ wx.owns w.heap.size 5 1 v5 (listTo d l.length (l.take k)).length ((listTo d l.length (l.take k)).map byteV) ∧ Below w.heap.size w wx) (fun _ i _ => l.length - (intOf i).toNat)
    case atStart => exact ⟨0, by omega, rfl, how0, hB0⟩
    case round =>
      clear how0 hB0
      obtain ⟨k, hk, rfl, how, hB⟩ := hrel
      have hsz := hB.size
      have hll := listTo_length d l.length (l.take k)
      have hbt := bulk_take l k
      obtain ⟨g5, cap5, rfl⟩ := how.pos (by simp [listTo])
      by_cases hlt : k < l.length
      · obtain ⟨x, hxk⟩ : ∃ x, l[k]? = some x := ⟨l[k], List.getElem?_eq_getElem hlt⟩
        have hkI : (k : Int) < (l.length : Int) := by omega
        have hk0 : (0 : Int) ≤ (k : Int) := by omega
        have hxs := bulk_get l k x hxk
        obtain ⟨b, off, rfl, hb, hc⟩ := HS.out k x hxk
        have hcr : wr.cell? ⟨b, off + k, none⟩ = some (.string x) := (hB.cell (p := ⟨b, off + k, none⟩) hb).trans hc
        have HX := Lib.hid hxk
        clear hxk hc
        go_wp2_with fail
        have HN := Lib.hid (news_alloc wr [.int .u8 0, .int .u8 0, .int .u8 (IntKind.u8.wrap (IntKind.i64.wrap ((x.size : Int) / 256))), .int .u8 (IntKind.u8.wrap (x.size : Int))] 5)
        have HQ : Hid ((fourL x.size).map byteV = [.int .u8 0, .int .u8 0, .int .u8 (IntKind.u8.wrap (IntKind.i64.wrap ((x.size : Int) / 256))), .int .u8 (IntKind.u8.wrap (x.size : Int))]) := by
          show _ = _
          rw [fourL_small x.size (by omega), IntWalk.i64_in _ (by omega), IntKind.wrap_u8, IntKind.wrap_u8, show (x.size : Int) / 256 % 256 = (x.size : Int) / 256 by omega]
        have hbw : b < wr.heap.size := by omega
        go_region_held3 (fun w' => w'.cell? ⟨b, off + k, none⟩ = some (.string x))
          (first
            | go_keep
            | assumption)
          (first
            | (refine step_append_owns _ (by rfl) (.tmp 25) (.tmp 39) 41 (by rfl) w.heap.size 5 i0 (.int .u8 0) 1 1 Try.underlying41 hi0 hz0 hz1 hz2 rfl (by decide) _ _ _ (by rfl) ((how.alloc _).drew) ⟨wr.heap.size, 0, none⟩ 4 4 _ (by rfl) (by rfl) (fun j u h => HN.out j u h) (by simp [Value.oneCell']) (by unfold maxLen; omega) (by omega) (by simp; omega) ?_; intro v4 w4 hown4 hg4; have hk4 : w4.cell? ⟨b, off + k, none⟩ = some (.string x) := hg4.cell (a := ⟨b, off + k, none⟩) ((World.cell?_of_block (w := wr) (a := ⟨b, off + k, none⟩) (Below.heap_alloc wr _ b hbw)).trans hcr) (by intro e; have := how.lt _ e.symm; simp at this; omega))
            | (refine step_append_owns_string _ (by rfl) (.tmp 40) (.tmp 44) 41 9 (by rfl) w.heap.size 5 i0 Try.underlying41 Try.underlying9 hi0 hz0 hz1 hz2 v4 _ _ (by rfl) hown4 x (by rfl) (by unfold maxLen; omega) (by omega) (by have := hg4.size; simp at this; omega) ?_; intro v6 w6 hown6 hg6; have hk6 : w6.cell? ⟨b, off + k, none⟩ = some (.string x) := hg6.cell (a := ⟨b, off + k, none⟩) hk4 (by intro e; have := hown4.lt _ e.symm; simp at this; omega)))
        go_wp2
        go_roundw
        case rel =>
          have hb4 : Below w.heap.size w w4 := ((hB.alloc hsz _).drew).grown hg4 (by simp; omega) (fun k e => by have := how.lt _ e; omega)
          have hb6 : Below w.heap.size w w6 := hb4.grown hg6 hb4.size (fun k e => by have := hown4.lt _ e; omega)
          refine ⟨k + 1, by omega, by go_num, ?_, hb6⟩
          rw [take_snoc' _ _ _ HX.out, listTo_snoc, List.map_append, List.map_append, ← strCells_byteV, HQ.out]
          have hl : (listTo d l.length (l.take k) ++ fourL x.size ++ x.data.toList).length = (listTo d l.length (l.take k)).length + 4 + x.size := by
            simp only [List.length_append, fourL_length, Array.length_toList]; rfl
          rw [hl]; exact hown6
        case measure => simp [intOf]; omega
      · obtain rfl : k = l.length := by omega
        rw [List.take_length] at how
        have hll := listTo_length d l.length l
        rw [List.take_length]
        go_wp2_with fail
        have hcv := fun W (h : W.owns w.heap.size 5 1 (.slice (some ⟨g5, 0, none⟩) (listTo d l.length l).length cap5) (listTo d l.length l).length ((listTo d l.length l).map byteV)) =>
          run_owns_string (P := Try.prog) (w := W) 41 9 5 Try.underlying41 Try.underlying5 Try.underlying9 h (Nat.le_refl _) cap5
        rw [List.take_length] at hcv
        have HC := Lib.hid hcv
        clear hcv
        have hrd : wr.drew.reads wr.drew.heap.size (.slice a l.length cap) (l.map Value.string) := (HR.out.below hB).mono hsz
        have HRD := Lib.hid hrd
        clear hrd
        have hc0 := HC.out wr.drew how.drew
        go_region_held3 (fun w' => (convert 41 9 (.slice (some ⟨g5, 0, none⟩) (listTo d l.length l).length cap5)).run Try.prog w' = .ok (.string ⟨(listTo d l.length l).toArray⟩) w')
          (first
            | assumption)
          (first
            | (go_simp; go_at_call 18; refine (List_any d l hl2 _ _ HRD.out).mono ?_; rintro e w3 ⟨rfl, hb3⟩; have hown3 := how.drew.below hb3; have hc3 := HC.out w3 hown3)
            | (go_simp; go_at_call 12; refine (Digest_owns _ (by omega) _).mono ?_; rintro e w4 ⟨rfl, hb4⟩; have hc4 := HC.out w4 (hown3.below hb4))
            | (go_simp; go_at_call 9; refine (shown_any _).mono ?_; rintro e w5 ⟨rfl, hb5⟩; have hc5 := HC.out w5 ((hown3.below hb4).below hb5)))
        have hB3 : Below w.heap.size w w3 := hB.drew.trans (hb3.mono hsz)
        have hB4 : Below w.heap.size w w4 := hB3.trans (hb4.mono hB3.size)
        have hB5 : Below w.heap.size w w5 := hB4.trans (hb5.mono hB4.size)
        go_wp2
        go_ret
        exact ⟨rfl, hB5⟩
end Go.Proofs.Ytfiajfjaamfeoaa
