/- The reference's numbers with signs: a small integer; the negative; the integer of a form. -/
import Derived.Test.YtdfklcmiagmgaaaXR3
import Derived.Test.YtdfklcmiagmgaaaWQ2
namespace Go.Proofs.Ytdfklcmiagmgaaa
set_option linter.all false
open Go.RowKit Go.Shelf Go.WideNum
theorem SRet.bel {w w' : World} {s : Bool} {n : Nat} {e : Ending} (h : SRet w s n e w') : Below w.heap.size w w' := h.choose_spec.2.2
theorem two_raw (n : Nat) (hn : n < 4294967296) (W : World) : World.rawH (W.alloc (.cells #[.int .u32 ((n % 65536 : Nat) : Int), .int .u32 ((n / 65536 : Nat) : Int)] 47)) (.slice (some ⟨W.heap.size, 0, none⟩) 2 2) n 2 := by
  have e : ((List.range 2).map (dig 65536 n)).map u32V = [.int .u32 ((n % 65536 : Nat) : Int), .int .u32 ((n / 65536 : Nat) : Int)] := by
    have h1 : n / 65536 % 65536 = n / 65536 := by omega
    simp [List.range_succ, dig, u32V, h1]
  have h := reads_alloc_new W [.int .u32 ((n % 65536 : Nat) : Int), .int .u32 ((n / 65536 : Nat) : Int)] 47 2 (by simp) (by unfold maxLen; omega)
  show World.reads _ _ _ _
  rw [e]
  simpa using h
set_option maxRecDepth 100000 in
set_option maxHeartbeats 8000000 in
theorem word_any (n : Nat) (hn : n < 4294967296) (w : World) : Calls Try.prog 56 #[.int .u32 (n : Int)] w (SRet w false n) := by
  obtain ⟨x, hx⟩ : ∃ x, x = n % 65536 := ⟨_, rfl⟩
  obtain ⟨y, hy⟩ : ∃ x, x = n / 65536 := ⟨_, rfl⟩
  have hraw := two_raw n hn (w.alloc (.cells #[.bool false, .slice none 0 0] 63))
  rw [← hx, ← hy, show (w.alloc (.cells #[.bool false, .slice none 0 0] 63)).heap.size = w.heap.size + 1 by simp] at hraw
  have hb1 : Below w.heap.size w ((w.alloc (.cells #[.bool false, .slice none 0 0] 63)).alloc (.cells #[.int .u32 (x : Int), .int .u32 (y : Int)] 47)) := (((Below.refl _ w).alloc (Nat.le_refl _) _).alloc (by simp) _)
  have hg1 : ((w.alloc (.cells #[.bool false, .slice none 0 0] 63)).alloc (.cells #[.int .u32 (x : Int), .int .u32 (y : Int)] 47)).heap[w.heap.size]? = some (.cells #[.bool false, .slice none 0 0] 63) := by rw [Below.heap_alloc _ _ _ (by simp)]; exact heap_alloc_new w _
  have HR := Lib.hid hraw
  have HB1 := Lib.hid hb1
  have HG1 := Lib.hid hg1
  have t1 : (n : Int) % 65536 = (x : Int) := by omega
  have t2 : (n : Int) / 65536 = (y : Int) := by omega
  obtain ⟨HPOST, hpost⟩ : ∃ R, R = SRet w false n := ⟨_, rfl⟩
  rw [← hpost]
  have HP := Lib.hid hpost
  have hn2 : (n : Int) < 4294967296 := by omega
  have HN : Hid (n < 65536 ^ 2) := by show n < 65536 ^ 2; omega
  clear hpost hx hy hraw hb1 hg1 hn
  go_enter Try.func56, Try.ntmps56
  go_wp2_with fail
  (with_reducible refine (htrim_any false n 2 HN.out (by omega) _ _ HR.out).mono ?_)
  rintro e w5 ⟨v5, rfl, hn5, hb5⟩
  obtain ⟨a5, c5, rfl⟩ := reads_len hn5
  obtain ⟨L5, hL5⟩ : ∃ L, L = ((hw n).map u32V).length := ⟨_, rfl⟩
  rw [← hL5] at hn5 ⊢
  clear hL5
  have hg5 := (hb5.block w.heap.size (by simp; omega)).trans HG1.out
  have HB5 := Lib.hid (HB1.out.trans (hb5.mono HB1.out.size))
  have HN5 := Lib.hid hn5
  have HG5 := Lib.hid hg5
  obtain ⟨d0, d1, fz0, fz1⟩ := num_cells hg5
  have hlt5 := lt_of_heap hg5
  clear hn5 hb5 hg5 t1 t2
  go_wp2
  have m2 := num_set HG5.out (.bool false) (.slice a5 L5 c5)
  have hb9 : Below w.heap.size w ((w5.setCell ⟨w.heap.size, 0, none⟩ (.bool false)).setCell ⟨w.heap.size, 1, none⟩ (.slice a5 L5 c5)) := (HB5.out.setCell (by simp) _).setCell (by simp) _
  have hn9 := numH_set HN5.out HG5.out (.bool false) (.slice a5 L5 c5)
  obtain ⟨d20, d21, -, -⟩ := num_cells m2
  clear m2
  generalize (w5.setCell ⟨w.heap.size, 0, none⟩ (.bool false)).setCell ⟨w.heap.size, 1, none⟩ (.slice a5 L5 c5) = W9 at d20 d21 hb9 hn9 ⊢
  rw [HP.out]
  exact bodyPost_ret (v := .agg #[.bool false, .slice a5 L5 c5]) (by simp [results, Try.results56, go_sem, d20, d21]) rfl ⟨.slice a5 L5 c5, rfl, hn9, hb9⟩
set_option maxRecDepth 100000 in
set_option maxHeartbeats 8000000 in
theorem negative_any (s : Bool) (n L : Nat) (hn : n < 65536 ^ L) (hL : L ≤ 10000) (v : Value) (w : World) (hv : World.rawH w v n L) : Calls Try.prog 67 #[.agg #[.bool s, v]] w (SRet w (!s && decide (n ≠ 0)) n) := by
  obtain ⟨a, c, hva, -, -, -⟩ := rawH_words hv
  subst hva
  have HV : Hid (World.rawH w (.slice a L c) n L) := hv
  clear hv
  obtain ⟨W0, hW0⟩ : ∃ W0, W0 = (w.alloc (.cells #[.bool s, .slice a L c] 63)).alloc (.cells #[.bool false, .slice none 0 0] 63) := ⟨_, rfl⟩
  have g0 : W0.heap[w.heap.size]? = some (.cells #[.bool s, .slice a L c] 63) := by rw [hW0, Below.heap_alloc _ _ _ (by simp)]; exact heap_alloc_new w _
  have g1 : W0.heap[w.heap.size + 1]? = some (.cells #[.bool false, .slice none 0 0] 63) := by rw [hW0]; exact alloc_last _ _ (by simp)
  have hb0 : Below w.heap.size w W0 := by rw [hW0]; exact (((Below.refl _ w).alloc (Nat.le_refl _) _).alloc (by simp) _)
  have HB0 := Lib.hid hb0
  have HG1 := Lib.hid g1
  obtain ⟨c00, c01, f00, f01⟩ := num_cells g0
  have HW0 := Lib.hid hW0
  have HN := Lib.hid hn
  have HL := Lib.hid hL
  obtain ⟨S, hS⟩ : ∃ S, S = (!s && decide (n ≠ 0)) := ⟨_, rfl⟩
  rw [← hS]
  have htr := fun W => fun h => htrim_any (!s) n L hn hL (.slice a L c) W h
  rw [← hS] at htr
  have HTR := Lib.hid htr
  obtain ⟨HPOST, hpost⟩ : ∃ R, R = SRet w S n := ⟨_, rfl⟩
  rw [← hpost]
  have HP := Lib.hid hpost
  clear hb0 g0 g1 hW0 hn hL hS htr hpost
  go_enter Try.func67, Try.ntmps67
  go_upto_region 1 with (fail)
  rw [← HW0.out]
  go_wp2_with fail
  (with_reducible refine (HTR.out _ (rawH_below HV.out HB0.out)).mono ?_)
  rintro e w5 ⟨v5, rfl, hn5, hb5⟩
  obtain ⟨a5, c5, rfl⟩ := reads_len hn5
  obtain ⟨L5, hL5⟩ : ∃ L, L = ((hw n).map u32V).length := ⟨_, rfl⟩
  rw [← hL5] at hn5 ⊢
  clear hL5
  have hg5 := (hb5.block (w.heap.size + 1) (lt_of_heap HG1.out)).trans HG1.out
  have HB5 := Lib.hid (HB0.out.trans (hb5.mono HB0.out.size))
  have HN5 := Lib.hid hn5
  have HG5 := Lib.hid hg5
  obtain ⟨d0, d1, fz0, fz1⟩ := num_cells hg5
  clear hn5 hb5 hg5
  go_wp2
  have m2 := num_set HG5.out (.bool S) (.slice a5 L5 c5)
  have hb9 : Below w.heap.size w ((w5.setCell ⟨w.heap.size + 1, 0, none⟩ (.bool S)).setCell ⟨w.heap.size + 1, 1, none⟩ (.slice a5 L5 c5)) := (HB5.out.setCell (by simp) _).setCell (by simp) _
  have hn9 := numH_set HN5.out HG5.out (.bool S) (.slice a5 L5 c5)
  obtain ⟨d20, d21, -, -⟩ := num_cells m2
  clear m2
  generalize (w5.setCell ⟨w.heap.size + 1, 0, none⟩ (.bool S)).setCell ⟨w.heap.size + 1, 1, none⟩ (.slice a5 L5 c5) = W9 at d20 d21 hb9 hn9 ⊢
  rw [HP.out]
  exact bodyPost_ret (v := .agg #[.bool S, .slice a5 L5 c5]) (by simp [results, Try.results67, go_sem, d20, d21]) rfl ⟨.slice a5 L5 c5, rfl, hn9, hb9⟩
end Go.Proofs.Ytdfklcmiagmgaaa
