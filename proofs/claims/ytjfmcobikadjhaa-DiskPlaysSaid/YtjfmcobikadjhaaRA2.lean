/- Walks: the reference's disk: eight bytes of a number. -/
import Derived.Test.YtjfmcobikadjhaaRA1
namespace Go.Proofs.Ytjfmcobikadjhaa
set_option linter.all false
open Go.RowKit Go.Shelf
attribute [local go_sem] Oper.semAt_some
theorem wbyte_nat (n k : Nat) (hn : n < 9223372036854775808) : (wbyte (wof (n : Int)) k).toNat = n / 2 ^ (56 - 8 * k) % 256 := by
  unfold wbyte
  rw [UInt8.toNat_ofNat', wof_toNat n (by omega)]
set_option maxRecDepth 100000 in
set_option maxHeartbeats 4000000 in
theorem reight_any (n : Nat) (hn : n < 9223372036854775808) (w : World) : Calls Try.prog 33 #[.int .i64 (n : Int)] w fun e w' => e = .returned (.string (bytesOf (eightL n))) ∧ Below w.heap.size w w' := by
  obtain ⟨i0, hi0, hiz, hiz1, hizb⟩ := info_parts infoByte
  go_enter Try.func33, Try.ntmps33
  go_wp2_with fail
  go_loopw [3, 4] (fun sv iv wr => ∃ (k : Nat) (va : Option Addr) (vc : Nat), k ≤ 8 ∧ iv = .int .i64 (56 - 8 * (k : Int)) ∧ sv = .slice va k vc ∧ Hid (wr.owns w.heap.size 5 1 (.slice va k vc) k ((wbytes (wof (n : Int)) k).map byteV)) ∧ Hid (Below w.heap.size w wr)) (fun _ iv _ => (64 + intOf iv).toNat)
  case atStart => exact ⟨0, none, 0, by omega, by go_num, rfl, World.owns_nil _ _ _ _, Below.refl _ _⟩
  case round =>
    obtain ⟨k, va, vc, hk, rfl, rfl, hO, hB⟩ := hrel
    have hz := hB.out.size
    by_cases hlt : k < 8
    · have h1 : (0 : Int) ≤ 56 - 8 * (k : Int) := by omega
      have hwb := wbytes_succ (wof (n : Int)) k
      have hwn := wbyte_nat n k hn
      have HWB := Lib.hid hwb
      obtain ⟨c, hc⟩ : ∃ c, c = wbyte (wof (n : Int)) k := ⟨_, rfl⟩
      rw [← hc] at hwn
      have HC := Lib.hid hc
      clear hwb hc
      have h8 : k = 0 ∨ k = 1 ∨ k = 2 ∨ k = 3 ∨ k = 4 ∨ k = 5 ∨ k = 6 ∨ k = 7 := by omega
      have hbt : (k = 0 → (n : Int) / 72057594037927936 = (c.toNat : Int)) ∧ (k = 1 → (n : Int) / 281474976710656 % 256 = (c.toNat : Int)) ∧ (k = 2 → (n : Int) / 1099511627776 % 256 = (c.toNat : Int)) ∧ (k = 3 → (n : Int) / 4294967296 % 256 = (c.toNat : Int)) ∧ (k = 4 → (n : Int) / 16777216 % 256 = (c.toNat : Int)) ∧ (k = 5 → (n : Int) / 65536 % 256 = (c.toNat : Int)) ∧ (k = 6 → (n : Int) / 256 % 256 = (c.toNat : Int)) ∧ (k = 7 → (n : Int) % 256 = (c.toNat : Int)) := by
        refine ⟨?_, ?_, ?_, ?_, ?_, ?_, ?_, ?_⟩ <;> (rintro rfl; simp at hwn; omega)
      obtain ⟨t0, t1, t2, t3, t4, t5, t6, t7⟩ := hbt
      rcases h8 with rfl | rfl | rfl | rfl | rfl | rfl | rfl | rfl
      · have hb := t0 rfl
        clear t0 t1 t2 t3 t4 t5 t6 t7 hwn
        go_wp2_with (at_builtin; refine wpList_append1 (W := wr) rfl (.tmp 9) (.tmp 14) 49 rfl w.heap.size 5 i0 (.int .u8 0) 1 Try.underlying49 hi0 hiz hiz1 hizb rfl (.slice va 0 vc) 0 ((wbytes (wof (n : Int)) 0).map byteV) rfl hO.out (byteV c) wr.heap.size rfl rfl rfl (by unfold maxLen; omega) (by omega) hz ?_; intro v5 w5 hown5 hg5a hg5 hz5; have HO5 := Lib.hid hown5; obtain ⟨g5, q5, rfl⟩ := hown5.succ; have HB5 := Lib.hid (hB.out.trans (below_grown hO.out hg5 w.heap.size (Nat.le_refl _) hz)); clear hown5 hg5a hg5)
        go_roundw
        case rel =>
          refine ⟨1, some ⟨g5, 0, none⟩, q5, by omega, by go_num, rfl, ?_, HB5.out⟩
          show w5.owns _ _ _ _ _ _
          rw [HWB.out, List.map_append, ← HC.out]
          exact HO5.out
        case measure => simp [intOf]
      · have hb := t1 rfl
        clear t0 t1 t2 t3 t4 t5 t6 t7 hwn
        go_wp2_with (at_builtin; refine wpList_append1 (W := wr) rfl (.tmp 9) (.tmp 14) 49 rfl w.heap.size 5 i0 (.int .u8 0) 1 Try.underlying49 hi0 hiz hiz1 hizb rfl (.slice va 1 vc) 1 ((wbytes (wof (n : Int)) 1).map byteV) rfl hO.out (byteV c) wr.heap.size rfl rfl rfl (by unfold maxLen; omega) (by omega) hz ?_; intro v5 w5 hown5 hg5a hg5 hz5; have HO5 := Lib.hid hown5; obtain ⟨g5, q5, rfl⟩ := hown5.succ; have HB5 := Lib.hid (hB.out.trans (below_grown hO.out hg5 w.heap.size (Nat.le_refl _) hz)); clear hown5 hg5a hg5)
        go_roundw
        case rel =>
          refine ⟨2, some ⟨g5, 0, none⟩, q5, by omega, by go_num, rfl, ?_, HB5.out⟩
          show w5.owns _ _ _ _ _ _
          rw [HWB.out, List.map_append, ← HC.out]
          exact HO5.out
        case measure => simp [intOf]
      · have hb := t2 rfl
        clear t0 t1 t2 t3 t4 t5 t6 t7 hwn
        go_wp2_with (at_builtin; refine wpList_append1 (W := wr) rfl (.tmp 9) (.tmp 14) 49 rfl w.heap.size 5 i0 (.int .u8 0) 1 Try.underlying49 hi0 hiz hiz1 hizb rfl (.slice va 2 vc) 2 ((wbytes (wof (n : Int)) 2).map byteV) rfl hO.out (byteV c) wr.heap.size rfl rfl rfl (by unfold maxLen; omega) (by omega) hz ?_; intro v5 w5 hown5 hg5a hg5 hz5; have HO5 := Lib.hid hown5; obtain ⟨g5, q5, rfl⟩ := hown5.succ; have HB5 := Lib.hid (hB.out.trans (below_grown hO.out hg5 w.heap.size (Nat.le_refl _) hz)); clear hown5 hg5a hg5)
        go_roundw
        case rel =>
          refine ⟨3, some ⟨g5, 0, none⟩, q5, by omega, by go_num, rfl, ?_, HB5.out⟩
          show w5.owns _ _ _ _ _ _
          rw [HWB.out, List.map_append, ← HC.out]
          exact HO5.out
        case measure => simp [intOf]
      · have hb := t3 rfl
        clear t0 t1 t2 t3 t4 t5 t6 t7 hwn
        go_wp2_with (at_builtin; refine wpList_append1 (W := wr) rfl (.tmp 9) (.tmp 14) 49 rfl w.heap.size 5 i0 (.int .u8 0) 1 Try.underlying49 hi0 hiz hiz1 hizb rfl (.slice va 3 vc) 3 ((wbytes (wof (n : Int)) 3).map byteV) rfl hO.out (byteV c) wr.heap.size rfl rfl rfl (by unfold maxLen; omega) (by omega) hz ?_; intro v5 w5 hown5 hg5a hg5 hz5; have HO5 := Lib.hid hown5; obtain ⟨g5, q5, rfl⟩ := hown5.succ; have HB5 := Lib.hid (hB.out.trans (below_grown hO.out hg5 w.heap.size (Nat.le_refl _) hz)); clear hown5 hg5a hg5)
        go_roundw
        case rel =>
          refine ⟨4, some ⟨g5, 0, none⟩, q5, by omega, by go_num, rfl, ?_, HB5.out⟩
          show w5.owns _ _ _ _ _ _
          rw [HWB.out, List.map_append, ← HC.out]
          exact HO5.out
        case measure => simp [intOf]
      · have hb := t4 rfl
        clear t0 t1 t2 t3 t4 t5 t6 t7 hwn
        go_wp2_with (at_builtin; refine wpList_append1 (W := wr) rfl (.tmp 9) (.tmp 14) 49 rfl w.heap.size 5 i0 (.int .u8 0) 1 Try.underlying49 hi0 hiz hiz1 hizb rfl (.slice va 4 vc) 4 ((wbytes (wof (n : Int)) 4).map byteV) rfl hO.out (byteV c) wr.heap.size rfl rfl rfl (by unfold maxLen; omega) (by omega) hz ?_; intro v5 w5 hown5 hg5a hg5 hz5; have HO5 := Lib.hid hown5; obtain ⟨g5, q5, rfl⟩ := hown5.succ; have HB5 := Lib.hid (hB.out.trans (below_grown hO.out hg5 w.heap.size (Nat.le_refl _) hz)); clear hown5 hg5a hg5)
        go_roundw
        case rel =>
          refine ⟨5, some ⟨g5, 0, none⟩, q5, by omega, by go_num, rfl, ?_, HB5.out⟩
          show w5.owns _ _ _ _ _ _
          rw [HWB.out, List.map_append, ← HC.out]
          exact HO5.out
        case measure => simp [intOf]
      · have hb := t5 rfl
        clear t0 t1 t2 t3 t4 t5 t6 t7 hwn
        go_wp2_with (at_builtin; refine wpList_append1 (W := wr) rfl (.tmp 9) (.tmp 14) 49 rfl w.heap.size 5 i0 (.int .u8 0) 1 Try.underlying49 hi0 hiz hiz1 hizb rfl (.slice va 5 vc) 5 ((wbytes (wof (n : Int)) 5).map byteV) rfl hO.out (byteV c) wr.heap.size rfl rfl rfl (by unfold maxLen; omega) (by omega) hz ?_; intro v5 w5 hown5 hg5a hg5 hz5; have HO5 := Lib.hid hown5; obtain ⟨g5, q5, rfl⟩ := hown5.succ; have HB5 := Lib.hid (hB.out.trans (below_grown hO.out hg5 w.heap.size (Nat.le_refl _) hz)); clear hown5 hg5a hg5)
        go_roundw
        case rel =>
          refine ⟨6, some ⟨g5, 0, none⟩, q5, by omega, by go_num, rfl, ?_, HB5.out⟩
          show w5.owns _ _ _ _ _ _
          rw [HWB.out, List.map_append, ← HC.out]
          exact HO5.out
        case measure => simp [intOf]
      · have hb := t6 rfl
        clear t0 t1 t2 t3 t4 t5 t6 t7 hwn
        go_wp2_with (at_builtin; refine wpList_append1 (W := wr) rfl (.tmp 9) (.tmp 14) 49 rfl w.heap.size 5 i0 (.int .u8 0) 1 Try.underlying49 hi0 hiz hiz1 hizb rfl (.slice va 6 vc) 6 ((wbytes (wof (n : Int)) 6).map byteV) rfl hO.out (byteV c) wr.heap.size rfl rfl rfl (by unfold maxLen; omega) (by omega) hz ?_; intro v5 w5 hown5 hg5a hg5 hz5; have HO5 := Lib.hid hown5; obtain ⟨g5, q5, rfl⟩ := hown5.succ; have HB5 := Lib.hid (hB.out.trans (below_grown hO.out hg5 w.heap.size (Nat.le_refl _) hz)); clear hown5 hg5a hg5)
        go_roundw
        case rel =>
          refine ⟨7, some ⟨g5, 0, none⟩, q5, by omega, by go_num, rfl, ?_, HB5.out⟩
          show w5.owns _ _ _ _ _ _
          rw [HWB.out, List.map_append, ← HC.out]
          exact HO5.out
        case measure => simp [intOf]
      · have hb := t7 rfl
        clear t0 t1 t2 t3 t4 t5 t6 t7 hwn
        go_wp2_with (at_builtin; refine wpList_append1 (W := wr) rfl (.tmp 9) (.tmp 14) 49 rfl w.heap.size 5 i0 (.int .u8 0) 1 Try.underlying49 hi0 hiz hiz1 hizb rfl (.slice va 7 vc) 7 ((wbytes (wof (n : Int)) 7).map byteV) rfl hO.out (byteV c) wr.heap.size rfl rfl rfl (by unfold maxLen; omega) (by omega) hz ?_; intro v5 w5 hown5 hg5a hg5 hz5; have HO5 := Lib.hid hown5; obtain ⟨g5, q5, rfl⟩ := hown5.succ; have HB5 := Lib.hid (hB.out.trans (below_grown hO.out hg5 w.heap.size (Nat.le_refl _) hz)); clear hown5 hg5a hg5)
        go_roundw
        case rel =>
          refine ⟨8, some ⟨g5, 0, none⟩, q5, by omega, by go_num, rfl, ?_, HB5.out⟩
          show w5.owns _ _ _ _ _ _
          rw [HWB.out, List.map_append, ← HC.out]
          exact HO5.out
        case measure => simp [intOf]
    · obtain rfl : k = 8 := by omega
      have h1 : ¬ (0 : Int) ≤ 56 - 8 * ((8 : Nat) : Int) := by omega
      obtain ⟨ga, cc, he⟩ := hO.out.succ
      injection he with he1 he2 he3
      subst he1
      clear he2 he3
      have hcv := run_owns_string (P := Try.prog) (w := wr) (m := 8) 49 9 5 Try.underlying49 Try.underlying5 Try.underlying9 hO.out (by rw [wbytes_length]; omega) vc
      have ht : (wbytes (wof (n : Int)) 8).take 8 = eightL n := by unfold eightL; rw [List.take_of_length_le (by rw [wbytes_length]; omega)]
      rw [ht] at hcv
      go_wp2
      go_ret
      exact ⟨rfl, hB.out⟩
end Go.Proofs.Ytjfmcobikadjhaa
