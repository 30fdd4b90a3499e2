/- Laws of the disk: none. -/
import Derived.Test.YtjfmcobikadjhaaDL1
namespace Go.Proofs.Ytjfmcobikadjhaa
set_option linter.all false
open Go.RowKit Go.Shelf
set_option maxRecDepth 100000 in
set_option maxHeartbeats 4000000 in
theorem none_law (n k : Int) (s : ByteArray) (w : World) : Calls Try.prog 6 #[.int .i64 n, .int .i64 k, .string s] w fun e w' => e = .returned (.bool true) ∧ Below w.heap.size w w' := by
  go_enter Try.func6, Try.ntmps6
  go_upto_region 3 with (fail)
  have e0 : (((w.alloc (.cells #[.slice none 0 0, .slice none 0 0, .int .i64 0, .bool false] 52)).alloc (.cells #[.pointer none, .pointer (some ⟨w.heap.size, 0, none⟩)] 53)).heap[w.heap.size]? = some (.cells #[.slice none 0 0, .slice none 0 0, .int .i64 0, .bool false] 52)) := by
    rw [Below.heap_alloc _ _ _ (by simp)]; exact alloc_last _ _ rfl
  have e1 : (((w.alloc (.cells #[.slice none 0 0, .slice none 0 0, .int .i64 0, .bool false] 52)).alloc (.cells #[.pointer none, .pointer (some ⟨w.heap.size, 0, none⟩)] 53)).heap[w.heap.size + 1]? = some (.cells #[.pointer none, .pointer (some ⟨w.heap.size, 0, none⟩)] 53)) := alloc_last _ _ (by simp)
  have hB : Below w.heap.size w ((w.alloc (.cells #[.slice none 0 0, .slice none 0 0, .int .i64 0, .bool false] 52)).alloc (.cells #[.pointer none, .pointer (some ⟨w.heap.size, 0, none⟩)] 53)) := ((Below.refl _ w).alloc (Nat.le_refl _) _).alloc (by simp) _
  generalize ((w.alloc (.cells #[.slice none 0 0, .slice none 0 0, .int .i64 0, .bool false] 52)).alloc (.cells #[.pointer none, .pointer (some ⟨w.heap.size, 0, none⟩)] 53)) = W0 at e0 e1 hB ⊢
  have E0 := Lib.hid e0
  have E1 := Lib.hid e1
  have HB := Lib.hid hB
  clear e0 e1 hB
  go_loopw [8] (fun iv wr => ∃ i : Nat, i ≤ 2 ∧ iv = .int .i64 (i : Int) ∧ Hid (wr.heap[w.heap.size]? = some (.cells #[.slice none 0 0, .slice none 0 0, .int .i64 0, .bool false] 52)) ∧ Hid (wr.heap[w.heap.size + 1]? = some (.cells #[.pointer none, .pointer (some ⟨w.heap.size, 0, none⟩)] 53)) ∧ Hid (Below w.heap.size w wr)) (fun iv _ => 2 - (intOf iv).toNat)
  case atStart => exact ⟨0, by omega, rfl, E0.out, E1.out, HB.out⟩
  case round =>
    obtain ⟨i, hi, rfl, F0, F1, FB⟩ := hrel
    by_cases hlt : i < 2
    · obtain ⟨pv, hc, hN⟩ : ∃ pv, wr.cell? ⟨w.heap.size + 1, i, none⟩ = some (.pointer pv) ∧ Hid (∀ W, Below wr.heap.size wr W → NoneAt (.pointer pv) W) := by
        have h0 : wr.cell? ⟨w.heap.size, 0, none⟩ = some (.slice none 0 0) := by
          have := F0.out
          simp [World.cell?, this]
        have hc : i = 0 ∨ i = 1 := by omega
        rcases hc with rfl | rfl
        · exact ⟨none, by have := F1.out; simp [World.cell?, this], fun W _ => noneAt_nil W⟩
        · exact ⟨some ⟨w.heap.size, 0, none⟩, by have := F1.out; simp [World.cell?, this], fun W hW => noneAt_zero _ W ((hW.cell (p := ⟨w.heap.size, 0, none⟩) (World.block_lt_of_cell? wr _ h0)).trans h0)⟩
      have hi2 : (i : Int) < 2 := by omega
      go_wp2_with fail
      refine (Restart_none _ _ (hN.out _ (Below.refl _ _))).mono ?_
      rintro e w1 ⟨⟨v1, rfl⟩, rfl⟩
      go_wp2_with fail
      refine (Records_none _ _ (hN.out _ (Below.refl _ _))).mono ?_
      rintro e w1 ⟨rfl, rfl⟩
      go_wp2_with fail
      refine (Size_none _ _ (hN.out _ (Below.refl _ _))).mono ?_
      rintro e w1 ⟨rfl, rfl⟩
      go_wp2_with fail
      refine (Append_none _ _ _ (hN.out _ (Below.refl _ _))).mono ?_
      rintro e w1 ⟨rfl, rfl⟩
      have hB2 : Below wr.heap.size wr (wr.alloc (.cells #[.string s] 9)) := (Below.refl _ wr).alloc (Nat.le_refl _) _
      have hc2 : (wr.alloc (.cells #[.string s] 9)).cell? ⟨w.heap.size + 1, i, none⟩ = some (.pointer pv) := (hB2.cell (p := ⟨w.heap.size + 1, i, none⟩) (World.block_lt_of_cell? wr _ hc)).trans hc
      have HB2 := Lib.hid hB2
      clear hB2
      go_wp2_with fail
      refine (Rewrite_none _ _ _ (hN.out _ HB2.out)).mono ?_
      rintro e w1 ⟨rfl, rfl⟩
      go_wp2_with fail
      refine (Fuse_none _ _ _ (hN.out _ HB2.out)).mono ?_
      rintro e w1 ⟨rfl, rfl⟩
      go_wp2_with fail
      refine (Flip_none _ _ _ (hN.out _ HB2.out)).mono ?_
      rintro e w1 ⟨rfl, rfl⟩
      go_wp2_with fail
      refine (Failed_none _ _ (hN.out _ HB2.out)).mono ?_
      rintro e w1 ⟨rfl, rfl⟩
      go_wp2
      go_roundw
      case rel =>
        have l0 := lt_of_heap F0.out
        have l1 := lt_of_heap F1.out
        exact ⟨i + 1, by omega, by go_num, (HB2.out.block _ l0).trans F0.out, (HB2.out.block _ l1).trans F1.out, FB.out.trans (HB2.out.mono FB.out.size)⟩
      case measure => simp [intOf]; omega
    · have hi2 : ¬ (i : Int) < 2 := by omega
      have hsz := FB.out.size
      by_cases hbad : n < 64 ∨ 262144 < n
      · by_cases h64 : n < 64
        · go_wp2_with fail
          refine (New_no n hbad _).mono ?_
          rintro e w1 ⟨rfl, rfl⟩
          go_wp2_with fail
          refine (shown_any _).mono ?_
          rintro e w2 ⟨rfl, hb2⟩
          go_wp2
          go_ret
          exact ⟨rfl, FB.out.trans (hb2.mono hsz)⟩
        · have hmx : 262144 < n := by omega
          go_wp2_with fail
          refine (New_no n hbad _).mono ?_
          rintro e w1 ⟨rfl, rfl⟩
          go_wp2_with fail
          refine (shown_any _).mono ?_
          rintro e w2 ⟨rfl, hb2⟩
          go_wp2
          go_ret
          exact ⟨rfl, FB.out.trans (hb2.mono hsz)⟩
      · obtain ⟨m, rfl⟩ : ∃ m : Nat, n = (m : Int) := ⟨n.toNat, by omega⟩
        have h64 : ¬ (m : Int) < 64 := by omega
        have hmx : ¬ 262144 < (m : Int) := by omega
        have hN := Lib.hid (New_any m (by omega) (by omega) wr)
        clear hbad
        go_wp2_with fail
        refine hN.out.mono ?_
        rintro e w1 ⟨⟨p, b0, b1, rfl, -⟩, hb1⟩
        go_wp2_with fail
        refine (shown_any _).mono ?_
        rintro e w2 ⟨rfl, hb2⟩
        go_wp2
        go_ret
        exact ⟨rfl, FB.out.trans ((hb1.trans (hb2.mono hb1.size)).mono hsz)⟩
end Go.Proofs.Ytjfmcobikadjhaa
