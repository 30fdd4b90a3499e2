/- Walks: the form of an integer. -/
import Derived.Test.YtdfklcmiagmgaaaWM7
namespace Go.Proofs.Ytdfklcmiagmgaaa
set_option linter.all false
open Go.RowKit Go.Shelf Go.WideNum
theorem two_new (x y : Nat) (w : World) : (w.alloc (.cells #[.int .u32 (x : Int), .int .u32 (y : Int)] 47)).reads (w.alloc (.cells #[.int .u32 (x : Int), .int .u32 (y : Int)] 47)).heap.size (.slice (some ⟨w.heap.size, 0, none⟩) 2 2) ([x, y].map u32V) := by
  have := reads_alloc_new w [u32V x, u32V y] 47 2 (by simp) (by unfold maxLen; omega)
  simpa [u32V] using this
theorem lim_big : 18446744073709551616 < lim := by
  unfold lim
  have h : (256 : Nat) ^ 9 ≤ 256 ^ 256 := Nat.pow_le_pow_right (by omega) (by omega)
  have h2 : (256 : Nat) ^ 9 = 4722366482869645213696 := by decide
  omega
theorem wide_set {W : World} {g : Nat} {u0 u1 : Value} (h : W.heap[g]? = some (.cells #[u0, u1] 23)) (neg : Bool) (s : ByteArray) :
    ((W.setCell ⟨g, 0, none⟩ (.bool neg)).setCell ⟨g, 1, none⟩ (.string s)).heap[g]? = some (.cells #[.bool neg, .string s] 23) := by
  simp [World.setCell, Array.getElem?_modify, h]
theorem wide_cells {W : World} {g : Nat} {neg : Bool} {s : ByteArray} (h : W.heap[g]? = some (.cells #[.bool neg, .string s] 23)) :
    W.cell? ⟨g, 0, none⟩ = some (.bool neg) ∧ W.cell? ⟨g, 1, none⟩ = some (.string s) ∧ ∀ o, W.frozen? ⟨g, o, none⟩ = false :=
  ⟨by rw [cell_of_row W _ _ _ _ (0, 0) h]; rfl, by rw [cell_of_row W _ _ _ _ (0, 0) h]; rfl, fun o => by simp [World.frozen?, h]⟩
set_option maxRecDepth 100000 in
set_option maxHeartbeats 4000000 in
theorem Of_any (n : Int) (h1 : -9223372036854775808 ≤ n) (h2 : n < 9223372036854775808) (w : World) :
    Calls Try.prog 20 #[.int .i64 n] w fun e w' => e = .returned (outZ n) ∧ Below w.heap.size w w' := by
  obtain ⟨m, hm⟩ : ∃ m, m = n.natAbs := ⟨_, rfl⟩
  obtain ⟨lo, hlo⟩ : ∃ lo, lo = m % 4294967296 := ⟨_, rfl⟩
  obtain ⟨hi, hhi⟩ : ∃ hi, hi = m / 4294967296 := ⟨_, rfl⟩
  have hv : valW 4294967296 [lo, hi] = m := by simp only [valW]; omega
  have hil : hi < 4294967296 := by omega
  have hlim : n.natAbs < lim := by have := lim_big; omega
  obtain ⟨nb, hnb⟩ : ∃ nb, nb = decide (n < 0) := ⟨_, rfl⟩
  have hz : zOf nb m = n := by
    rw [hnb, hm]; unfold zOf
    by_cases h : n < 0
    · rw [decide_eq_true h, if_pos rfl]; omega
    · rw [decide_eq_false h]; simp; omega
  have hform : ∀ (a : Option Addr) (W : World), W.reads W.heap.size (.slice a 2 2) ([lo, hi].map u32V) → Calls Try.prog 53 #[.slice a 2 2, .bool nb] W fun e w' => e = .returned (.tuple #[wideV nb (magB m), .int .i64 0]) ∧ Below W.heap.size W w' := by
    intro a W hr
    have := form_any [lo, hi] (by simp; omega) (by simp) nb (.slice a 2 2) W hr
    rw [hv] at this
    refine this.mono ?_
    rintro e w' ⟨rfl, hb⟩
    refine ⟨?_, hb⟩
    rw [outB_z nb, outE_z nb, hz, (outZ_in n hlim).1, (outZ_in n hlim).2, ← hnb, ← hm]
  have HF := Lib.hid hform
  have hout : outZ n = wideV nb (magB m) := by rw [(outZ_in n hlim).1, ← hnb, ← hm]
  rw [hout]
  obtain ⟨S, hS⟩ : ∃ S, S = magB m := ⟨_, rfl⟩
  rw [← hS] at HF ⊢
  unfold wideV at HF ⊢
  have t3 : (m : Int) % 4294967296 = (lo : Int) := by omega
  have t4 : (m : Int) / 4294967296 % 4294967296 = (hi : Int) := by omega
  by_cases hn : n < 0
  · obtain ⟨a, ha⟩ : ∃ a : Nat, (a : Int) = n + 18446744073709551616 := ⟨(n + 18446744073709551616).toNat, by omega⟩
    have t1 : IntKind.u64.wrap n = (a : Int) := by rw [IntKind.wrap_u64]; omega
    have t2 : IntKind.u64.wrap (-(a : Int)) = (m : Int) := by rw [IntKind.wrap_u64]; omega
    have hnb2 : nb = true := by rw [hnb]; exact decide_eq_true hn
    subst hnb2
    clear hnb ha hm hlo hhi hv hform hout hS hlim hz h1 h2
    go_enter Try.func20, Try.ntmps20
    go_wp2_with fail
    have hb0 : Below w.heap.size w ((w.alloc (.cells #[.bool false, .string ⟨#[]⟩] 23)).alloc (.cells #[.int .u32 (lo : Int), .int .u32 (hi : Int)] 47)) := ((Below.refl _ w).alloc (Nat.le_refl _) _).alloc (by simp) _
    have hg0 : ((w.alloc (.cells #[.bool false, .string ⟨#[]⟩] 23)).alloc (.cells #[.int .u32 (lo : Int), .int .u32 (hi : Int)] 47)).heap[w.heap.size]? = some (.cells #[.bool false, .string ⟨#[]⟩] 23) := by
      rw [Below.heap_alloc _ _ _ (by simp)]; exact heap_alloc_new w _
    have htw := two_new lo hi (w.alloc (.cells #[.bool false, .string ⟨#[]⟩] 23))
    have esz : (w.alloc (.cells #[.bool false, .string ⟨#[]⟩] 23)).heap.size = w.heap.size + 1 := World.size_alloc _ _
    simp only [esz] at htw
    clear esz
    generalize (w.alloc (.cells #[.bool false, .string ⟨#[]⟩] 23)).alloc (.cells #[.int .u32 (lo : Int), .int .u32 (hi : Int)] 47) = W1 at hb0 hg0 htw ⊢
    have hsz := hb0.size
    have hlt1 := lt_of_heap hg0
    (with_reducible refine (HF.out _ W1 htw).mono ?_)
    rintro e w3 ⟨rfl, hb3⟩
    have hg3 := (hb3.block _ hlt1).trans hg0
    have hsz3 := hb3.size
    have c0 : w3.cell? ⟨w.heap.size, 0, none⟩ = some (.bool false) := by rw [cell_of_row w3 _ _ _ _ (0, 0) hg3]; rfl
    have c1 : w3.cell? ⟨w.heap.size, 1, none⟩ = some (.string ⟨#[]⟩) := by rw [cell_of_row w3 _ _ _ _ (0, 0) hg3]; rfl
    have f0 : ∀ o, w3.frozen? ⟨w.heap.size, o, none⟩ = false := fun o => by simp [World.frozen?, hg3]
    have hsl : w.heap.size < w3.heap.size := by omega
    have hsn : ¬ w.heap.size = w3.heap.size := by omega
    have hsn2 : ¬ w3.heap.size = w.heap.size := by omega
    have HB := Lib.hid (hb0.trans (hb3.mono hsz))
    clear hg0 hb0 htw hb3 hlt1 hsz hsz3
    go_wp2
    have hg9 : (((w3.setCell ⟨w.heap.size, 0, none⟩ (.bool true)).setCell ⟨w.heap.size, 1, none⟩ (.string S)).alloc (.cells #[.bool true, .string S] 23)).heap[w.heap.size]? = some (.cells #[.bool true, .string S] 23) := by
      rw [Below.heap_alloc _ _ _ (by simp; omega)]; exact wide_set hg3 true S
    obtain ⟨d0, d1, -⟩ := wide_cells hg9
    have hb9 : Below w.heap.size w (((w3.setCell ⟨w.heap.size, 0, none⟩ (.bool true)).setCell ⟨w.heap.size, 1, none⟩ (.string S)).alloc (.cells #[.bool true, .string S] 23)) := ((HB.out.setCell (by simp) _).setCell (by simp) _).alloc (by simp; omega) _
    generalize ((w3.setCell ⟨w.heap.size, 0, none⟩ (.bool true)).setCell ⟨w.heap.size, 1, none⟩ (.string S)).alloc (.cells #[.bool true, .string S] 23) = W9 at d0 d1 hb9 ⊢
    exact bodyPost_ret (v := .agg #[.bool true, .string S]) (by simp [results, Try.results20, go_sem, d0, d1]) rfl ⟨rfl, hb9⟩
  · have t1 : IntKind.u64.wrap n = (m : Int) := by rw [IntKind.wrap_u64]; omega
    have t5 : (m : Int) / 4294967296 = (hi : Int) := by omega
    have t1b : n % 18446744073709551616 = (m : Int) := by omega
    have hnb2 : nb = false := by rw [hnb]; exact decide_eq_false hn
    subst hnb2
    have hnm : n = (m : Int) := by omega
    subst hnm
    clear hnb hm hlo hhi hv hform hout hS hlim hz h1 h2
    go_enter Try.func20, Try.ntmps20
    go_wp2_with fail
    have hb0 : Below w.heap.size w ((w.alloc (.cells #[.bool false, .string ⟨#[]⟩] 23)).alloc (.cells #[.int .u32 (lo : Int), .int .u32 (hi : Int)] 47)) := ((Below.refl _ w).alloc (Nat.le_refl _) _).alloc (by simp) _
    have hg0 : ((w.alloc (.cells #[.bool false, .string ⟨#[]⟩] 23)).alloc (.cells #[.int .u32 (lo : Int), .int .u32 (hi : Int)] 47)).heap[w.heap.size]? = some (.cells #[.bool false, .string ⟨#[]⟩] 23) := by
      rw [Below.heap_alloc _ _ _ (by simp)]; exact heap_alloc_new w _
    have htw := two_new lo hi (w.alloc (.cells #[.bool false, .string ⟨#[]⟩] 23))
    have esz : (w.alloc (.cells #[.bool false, .string ⟨#[]⟩] 23)).heap.size = w.heap.size + 1 := World.size_alloc _ _
    simp only [esz] at htw
    clear esz
    generalize (w.alloc (.cells #[.bool false, .string ⟨#[]⟩] 23)).alloc (.cells #[.int .u32 (lo : Int), .int .u32 (hi : Int)] 47) = W1 at hb0 hg0 htw ⊢
    have hsz := hb0.size
    have hlt1 := lt_of_heap hg0
    (with_reducible refine (HF.out _ W1 htw).mono ?_)
    rintro e w3 ⟨rfl, hb3⟩
    have hg3 := (hb3.block _ hlt1).trans hg0
    have hsz3 := hb3.size
    have c0 : w3.cell? ⟨w.heap.size, 0, none⟩ = some (.bool false) := by rw [cell_of_row w3 _ _ _ _ (0, 0) hg3]; rfl
    have c1 : w3.cell? ⟨w.heap.size, 1, none⟩ = some (.string ⟨#[]⟩) := by rw [cell_of_row w3 _ _ _ _ (0, 0) hg3]; rfl
    have f0 : ∀ o, w3.frozen? ⟨w.heap.size, o, none⟩ = false := fun o => by simp [World.frozen?, hg3]
    have hsl : w.heap.size < w3.heap.size := by omega
    have hsn : ¬ w.heap.size = w3.heap.size := by omega
    have hsn2 : ¬ w3.heap.size = w.heap.size := by omega
    have HB := Lib.hid (hb0.trans (hb3.mono hsz))
    clear hg0 hb0 htw hb3 hlt1 hsz hsz3
    go_wp2
    have hg9 : (((w3.setCell ⟨w.heap.size, 0, none⟩ (.bool false)).setCell ⟨w.heap.size, 1, none⟩ (.string S)).alloc (.cells #[.bool false, .string S] 23)).heap[w.heap.size]? = some (.cells #[.bool false, .string S] 23) := by
      rw [Below.heap_alloc _ _ _ (by simp; omega)]; exact wide_set hg3 false S
    obtain ⟨d0, d1, -⟩ := wide_cells hg9
    have hb9 : Below w.heap.size w (((w3.setCell ⟨w.heap.size, 0, none⟩ (.bool false)).setCell ⟨w.heap.size, 1, none⟩ (.string S)).alloc (.cells #[.bool false, .string S] 23)) := ((HB.out.setCell (by simp) _).setCell (by simp) _).alloc (by simp; omega) _
    generalize ((w3.setCell ⟨w.heap.size, 0, none⟩ (.bool false)).setCell ⟨w.heap.size, 1, none⟩ (.string S)).alloc (.cells #[.bool false, .string S] 23) = W9 at d0 d1 hb9 ⊢
    exact bodyPost_ret (v := .agg #[.bool false, .string S]) (by simp [results, Try.results20, go_sem, d0, d1]) rfl ⟨rfl, hb9⟩
end Go.Proofs.Ytdfklcmiagmgaaa
