/- Walks: a system that is nil or was not made. -/
import Derived.Test.YtnjblppapmflhaaKF
namespace Go.Proofs.Ytnjblppapmflhaa
set_option linter.all false
open Go.RowKit Go.Shelf Go.WideNum PN
def NoSys (w : World) (v : Value) : Prop := v = .pointer none ∨ ∃ g, v = .pointer (some ⟨g, 0, none⟩) ∧ w.heap[g]? = some (.cells #[.slice none 0 0, .bool false, .string ⟨#[]⟩, .slice none 0 0, .bool false] 70)
theorem NoSys.below {w w' : World} {v : Value} (h : NoSys w v) (hb : Below w.heap.size w w') : NoSys w' v := by
  rcases h with h | ⟨g, h1, h2⟩
  · exact .inl h
  · exact .inr ⟨g, h1, (hb.block _ (lt_of_heap h2)).trans h2⟩
theorem none_no (v : Value) (w : World) (h : NoSys w v) : Calls Try.prog 38 #[v] w fun e w' => e = .returned (.bool true) ∧ w = w' := by
  rcases h with rfl | ⟨g, rfl, h1⟩
  · go_enter Try.func38, Try.ntmps38
    go_wp2
    go_ret
    exact ⟨rfl, rfl⟩
  · obtain ⟨-, -, -, -, c4, -⟩ := five_sys h1
    clear h1
    go_enter Try.func38, Try.ntmps38
    go_wp2
    go_ret
    exact ⟨rfl, rfl⟩
set_option maxHeartbeats 4000000 in
theorem Split_no (v : Value) (n : Bool) (s : ByteArray) (w : World) (h : NoSys w v) : Calls Try.prog 20 #[v, .agg #[.bool n, .string s]] w fun e w' => e = .returned (.tuple #[.slice none 0 0, .int .i64 1]) ∧ Below w.heap.size w w' := by
  have hab : Below w.heap.size w (w.alloc (.cells #[.bool n, .string s] 38)) := (Below.refl _ _).alloc (Nat.le_refl _) _
  have HN := Lib.hid (none_no v _ (h.below hab))
  clear h
  go_enter Try.func20, Try.ntmps20
  go_wp2_with fail
  (with_reducible refine (HN.out).mono ?_)
  rintro e w1 ⟨rfl, rfl⟩
  go_wp2
  go_ret2
  exact ⟨rfl, hab⟩
set_option maxHeartbeats 4000000 in
theorem Join_no (v r : Value) (hr : ∃ a n c, r = .slice a n c) (w : World) (h : NoSys w v) : Calls Try.prog 21 #[v, r] w fun e w' => e = .returned (.tuple #[.agg #[.bool false, .string ⟨#[]⟩], .int .i64 1]) ∧ Below w.heap.size w w' := by
  obtain ⟨a, n, c, rfl⟩ := hr
  have hab : Below w.heap.size w (w.alloc (.cells #[.bool false, .string ⟨#[]⟩] 38)) := (Below.refl _ _).alloc (Nat.le_refl _) _
  have HN := Lib.hid (none_no v _ (h.below hab))
  have hg : (w.alloc (.cells #[.bool false, .string ⟨#[]⟩] 38)).heap[w.heap.size]? = some (.cells #[.bool false, .string ⟨#[]⟩] 38) := heap_alloc_new w _
  clear h
  go_enter Try.func21, Try.ntmps21
  go_upto_region 1 with (fail)
  generalize w.alloc (.cells #[.bool false, .string ⟨#[]⟩] 38) = wa at hab hg HN ⊢
  obtain ⟨x0, x1, xf⟩ := wide_cells hg
  have m2 := wide_set hg false ⟨#[]⟩
  have hb9 := below_set2 (p := w.heap.size) hab (Nat.le_refl _) false ⟨#[]⟩
  clear hab hg
  go_wp2_with fail
  (with_reducible refine (HN.out).mono ?_)
  rintro e w1 ⟨rfl, rfl⟩
  go_wp2
  obtain ⟨d20, d21, -⟩ := wide_cells m2
  clear m2
  generalize (wa.setCell ⟨w.heap.size, 0, none⟩ (.bool false)).setCell ⟨w.heap.size, 1, none⟩ (.string ⟨#[]⟩) = W9 at d20 d21 hb9 ⊢
  exact bodyPost_ret (v := .tuple #[.agg #[.bool false, .string ⟨#[]⟩], .int .i64 1]) (by simp [results, Try.results21, go_sem, d20, d21]) rfl ⟨rfl, hb9⟩
set_option maxHeartbeats 4000000 in
theorem Convert_no (v r u : Value) (hr : ∃ a n c, r = .slice a n c) (w : World) (h : NoSys w v) : Calls Try.prog 32 #[v, r, u] w fun e w' => e = .returned (.tuple #[.slice none 0 0, .int .i64 1]) ∧ Below w.heap.size w w' := by
  obtain ⟨a, n, c, rfl⟩ := hr
  have HN := Lib.hid (none_no v _ h)
  clear h
  go_enter Try.func32, Try.ntmps32
  go_wp2_with fail
  (with_reducible refine (HN.out).mono ?_)
  rintro e w1 ⟨rfl, rfl⟩
  go_wp2
  go_ret2
  exact ⟨rfl, Below.refl _ _⟩
set_option maxHeartbeats 4000000 in
theorem Convert_to (b : Nat) (ps : List Nat) (r u : Value) (hr : ∃ a n c, r = .slice a n c) (w : World) (hs : SysAt w b ps) (h : NoSys w u) : Calls Try.prog 32 #[.pointer (some ⟨b, 0, none⟩), r, u] w fun e w' => e = .returned (.tuple #[.slice none 0 0, .int .i64 1]) ∧ Below w.heap.size w w' := by
  obtain ⟨a, n, c, rfl⟩ := hr
  have HN := Lib.hid (none_no u _ h)
  have HS := Lib.hid (none_sys b ps w hs)
  clear h hs
  go_enter Try.func32, Try.ntmps32
  go_wp2_with fail
  (with_reducible refine (HS.out).mono ?_)
  rintro e w1 ⟨rfl, rfl⟩
  go_wp2_with fail
  (with_reducible refine (HN.out).mono ?_)
  rintro e w1 ⟨rfl, rfl⟩
  go_wp2
  go_ret2
  exact ⟨rfl, Below.refl _ _⟩
set_option maxHeartbeats 4000000 in
theorem Drop_no (v r : Value) (hr : ∃ a n c, r = .slice a n c) (w : World) (h : NoSys w v) : Calls Try.prog 12 #[v, r] w fun e w' => e = .returned (.tuple #[.slice none 0 0, .int .i64 0, .int .i64 1]) ∧ Below w.heap.size w w' := by
  obtain ⟨a, n, c, rfl⟩ := hr
  have HN := Lib.hid (none_no v _ h)
  clear h
  go_enter Try.func12, Try.ntmps12
  go_wp2_with fail
  (with_reducible refine (HN.out).mono ?_)
  rintro e w1 ⟨rfl, rfl⟩
  go_wp2
  exact bodyPost_ret (v := .tuple #[.slice none 0 0, .int .i64 0, .int .i64 1]) (by simp [results, Try.results12, go_sem]) rfl ⟨rfl, Below.refl _ _⟩
set_option maxHeartbeats 4000000 in
theorem Scale_no (v r : Value) (t : Int) (hr : ∃ a n c, r = .slice a n c) (w : World) (h : NoSys w v) : Calls Try.prog 15 #[v, r, .int .u32 t] w fun e w' => e = .returned (.tuple #[.slice none 0 0, .int .i64 1]) ∧ Below w.heap.size w w' := by
  obtain ⟨a, n, c, rfl⟩ := hr
  have HN := Lib.hid (none_no v _ h)
  clear h
  go_enter Try.func15, Try.ntmps15
  go_wp2_with fail
  (with_reducible refine (HN.out).mono ?_)
  rintro e w1 ⟨rfl, rfl⟩
  go_wp2
  go_ret2
  exact ⟨rfl, Below.refl _ _⟩
set_option maxHeartbeats 4000000 in
theorem Moduli_no (v : Value) (w : World) (h : NoSys w v) : Calls Try.prog 36 #[v] w fun e w' => e = .returned (.slice none 0 0) ∧ Below w.heap.size w w' := by
  have HN := Lib.hid (none_no v _ h)
  clear h
  go_enter Try.func36, Try.ntmps36
  go_wp2_with fail
  (with_reducible refine (HN.out).mono ?_)
  rintro e w1 ⟨rfl, rfl⟩
  go_wp2
  go_ret
  exact ⟨rfl, Below.refl _ _⟩
set_option maxHeartbeats 4000000 in
theorem Product_no (v : Value) (w : World) (h : NoSys w v) : Calls Try.prog 27 #[v] w fun e w' => e = .returned (.agg #[.bool false, .string ⟨#[]⟩]) ∧ Below w.heap.size w w' := by
  have hab : Below w.heap.size w (w.alloc (.cells #[.bool false, .string ⟨#[]⟩] 38)) := (Below.refl _ _).alloc (Nat.le_refl _) _
  have HN := Lib.hid (none_no v _ (h.below hab))
  have hg : (w.alloc (.cells #[.bool false, .string ⟨#[]⟩] 38)).heap[w.heap.size]? = some (.cells #[.bool false, .string ⟨#[]⟩] 38) := heap_alloc_new w _
  clear h
  go_enter Try.func27, Try.ntmps27
  go_upto_region 1 with (fail)
  generalize w.alloc (.cells #[.bool false, .string ⟨#[]⟩] 38) = wa at hab hg HN ⊢
  obtain ⟨x0, x1, xf⟩ := wide_cells hg
  have m2 := wide_set hg false ⟨#[]⟩
  have hb9 := below_set2 (p := w.heap.size) hab (Nat.le_refl _) false ⟨#[]⟩
  clear hab hg
  go_wp2_with fail
  (with_reducible refine (HN.out).mono ?_)
  rintro e w1 ⟨rfl, rfl⟩
  go_wp2
  obtain ⟨d20, d21, -⟩ := wide_cells m2
  clear m2
  generalize (wa.setCell ⟨w.heap.size, 0, none⟩ (.bool false)).setCell ⟨w.heap.size, 1, none⟩ (.string ⟨#[]⟩) = W9 at d20 d21 hb9 ⊢
  exact bodyPost_ret (v := .agg #[.bool false, .string ⟨#[]⟩]) (by simp [results, Try.results27, go_sem, d20, d21]) rfl ⟨rfl, hb9⟩
end Go.Proofs.Ytnjblppapmflhaa
