/- Walks: a product: the number in the first words of an array. -/
import Derived.Test.YtdfklcmiagmgaaaWF4
namespace Go.Proofs.Ytdfklcmiagmgaaa
set_option linter.all false
open Go.RowKit Go.Shelf Go.WideNum
theorem one_u32 (l : List Nat) : ∀ u ∈ l.map u32V, u.oneCell' = true := fun u hu => by obtain ⟨x, _, rfl⟩ := List.mem_map.1 hu; rfl
theorem arr_len : Try.prog.arrayLen 89 = 134 := by kernel_rfl
theorem arr_und : Try.prog.underlying 89 = some (.array (Try.prog.arrayLen 89) (Try.prog.elem 89)) := by kernel_rfl
theorem arr_elem : Try.prog.elem 89 = 47 := by kernel_rfl
theorem slice_arr (g n : Nat) (hn : n ≤ 134) (W : World) : (Instr.sliceAt 89 (.pointer (some ⟨g, 0, none⟩)) none (some (.int .i64 (n : Int))) none).run Try.prog W = .ok (.slice (some ⟨g, 0, none⟩) n 134) W := by
  obtain ⟨i0, hi0, hiz, hiz1, hizb⟩ := info_parts infoU32
  rw [run_sliceAt_array_h W _ _ arr_und .i64 (n : Int) (by omega) (by rw [arr_len]; omega), arr_len, arr_elem]
  simp [sizeOf, typeInfo, hi0, hiz1, Result.andThen, slicedAt, Addr.add]
set_option maxRecDepth 100000 in
set_option maxHeartbeats 4000000 in
theorem whole_any (t : List Nat) (ht : t.length = 134) (hB : ∀ x ∈ t, x < 4294967296) (n : Nat) (hn : n ≤ 134) (w : World) :
    Calls Try.prog 76 #[.agg (t.map u32V).toArray, .int .i64 (n : Int)] w (NumRet w (valW 4294967296 (t.take n))) := by
  obtain ⟨i0, hi0, hiz, hiz1, hizb⟩ := info_parts infoU32
  obtain ⟨T, hT⟩ : ∃ T, T = (t.map u32V).toArray := ⟨_, rfl⟩
  have hTs : T.size = 134 := by rw [hT]; simp [ht]
  rw [← hT]
  obtain ⟨HPOST, hpost⟩ : ∃ X, X = NumRet w (valW 4294967296 (t.take n)) := ⟨_, rfl⟩
  rw [← hpost]
  have HP := Lib.hid hpost
  have HT := Lib.hid hT
  clear hpost hT
  have hsl := slice_arr (w.heap.size) n hn
  go_enter Try.func76, Try.ntmps76
  have hreads : ((w.alloc (.cells T 89)).alloc (.cells #[] 47)).reads (w.heap.size + 1) (.slice (some ⟨w.heap.size, 0, none⟩) n 134) ((t.take n).map u32V) := by
    refine ⟨some ⟨w.heap.size, 0, none⟩, 134, by simp [ht, Nat.min_eq_left hn], by simp, by simp [ht]; omega, by unfold maxLen; omega, fun j u hj => ⟨w.heap.size, 0, rfl, by omega, ?_⟩⟩
    rw [World.cell?_alloc_lt _ _ ⟨w.heap.size, 0 + j, none⟩ (by simp), cell_of_row _ _ _ T 89 (0, 0) (heap_alloc_new w _), HT.out, Nat.zero_add]
    have h1 : (t.map u32V)[j]? = some u := by
      rw [List.map_take, List.getElem?_take] at hj
      split at hj
      · exact hj
      · cases hj
    simpa using h1
  have hown0 : ((w.alloc (.cells T 89)).alloc (.cells #[] 47)).owns w.heap.size 47 1 (.slice (some ⟨w.heap.size + 1, 0, none⟩) 0 0) 0 [] :=
    ⟨rfl, .inr ⟨w.heap.size + 1, 0, #[], (0, 0), rfl, by omega, alloc_last _ _ (by simp), okFz_zero _, Nat.le_refl _, Nat.zero_le _, rfl, rfl⟩⟩
  have hl : ((t.take n).map u32V).length = n := by simp [ht, Nat.min_eq_left hn]
  have HR := Lib.hid hreads
  have HO := Lib.hid hown0
  have HL := Lib.hid hl
  have HTB := Lib.hid hB
  have HTL := Lib.hid ht
  clear hreads hown0 hl hB ht
  go_wp2_with (at_builtin; refine wpList_append_reads2 _ rfl (.tmp 5) (.tmp 7) 58 57 rfl w.heap.size 47 i0 (.int .u32 0) 4 Try.underlying58 Try.underlying57 hi0 hiz hiz1 hizb rfl (.slice (some ⟨w.heap.size + 1, 0, none⟩) 0 0) 0 [] rfl HO.out (w.heap.size + 1) (.slice (some ⟨w.heap.size, 0, none⟩) n 134) ((t.take n).map u32V) rfl HR.out (one_u32 _) (by rw [HL.out]; unfold maxLen; omega) (by rw [HL.out]; omega) (by simp; omega) ?_; intro v5 w5 hown5 hg5; have HO5 := Lib.hid hown5; have HB5 := Lib.hid ((((Below.refl _ w).alloc (Nat.le_refl _) _).alloc (by simp) _).trans ((below_grown HO.out hg5 w.heap.size (Nat.le_refl _) (by simp; omega)))); clear hown5 hg5)
  have ho6 : w5.owns w.heap.size 47 1 v5 (t.take n).length ((t.take n).map u32V) := by
    have := HO5.out
    rw [Nat.zero_add, List.nil_append, List.length_map] at this
    exact this
  have HO6 := Lib.hid ho6
  clear ho6
  have hlen : (t.take n).length ≤ 100000 := by have := HTL.out; rw [List.length_take]; omega
  (with_reducible refine (norm_own _ _ v5 w5 HO6.out hlen).mono ?_)
  rintro e w6 ⟨⟨v6, rfl, hown6⟩, rfl⟩
  have HO7 := Lib.hid hown6
  clear hown6
  go_wp2
  rw [HP.out]
  have h := HO7.out
  rw [trimL_words 4294967296 (by omega) (t.take n) (fun x hx => HTB.out x (List.mem_of_mem_take hx))] at h
  exact ⟨v6, rfl, h, HB5.out⟩
end Go.Proofs.Ytdfklcmiagmgaaa
