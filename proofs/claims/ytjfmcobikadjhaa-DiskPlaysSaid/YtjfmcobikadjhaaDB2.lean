/- Walks: a disk: its smaller methods. -/
import Derived.Test.YtjfmcobikadjhaaDB1
namespace Go.Proofs.Ytjfmcobikadjhaa
set_option linter.all false
open Go.RowKit Go.Shelf
theorem writer_any (p b n : Nat) (w : World) :
    Calls Try.prog 29 #[.pointer (some ⟨p, 0, none⟩), .slice (some ⟨b, 0, none⟩) n n] w fun e w' => e = .returned (.func (.func 45) #[] #[.pointer (some ⟨w.heap.size, 0, none⟩), .pointer (some ⟨w.heap.size + 1, 0, none⟩)]) ∧
      w' = (w.alloc (.cells #[.pointer (some ⟨p, 0, none⟩)] 25)).alloc (.cells #[.slice (some ⟨b, 0, none⟩) n n] 49) := by
  go_enter Try.func29, Try.ntmps29
  go_wp2
  go_ret
  exact ⟨rfl, rfl⟩
theorem result_any (p b0 b1 : Nat) (d : Dk) (w : World) (hd : DiskAt w p b0 b1 d) :
    Calls Try.prog 31 #[.pointer (some ⟨p, 0, none⟩)] w fun e w' => e = .returned (.int .i64 (if d.failed = true then 9 else 0)) ∧ w = w' := by
  obtain ⟨-, -, -, k3, -, -⟩ := four_cells hd.at_
  cases hf : d.failed
  · rw [hf] at k3
    go_enter Try.func31, Try.ntmps31
    go_wp2
    go_ret
    exact ⟨rfl, rfl⟩
  · rw [hf] at k3
    go_enter Try.func31, Try.ntmps31
    go_wp2
    go_ret
    exact ⟨rfl, rfl⟩
/-! ### Failed, Fuse, Restart -/
def NoneAt (v : Value) (w : World) : Prop := Calls Try.prog 26 #[v] w fun e w' => e = .returned (.bool true) ∧ w = w'
theorem noneAt_nil (w : World) : NoneAt (.pointer none) w := none_nil w
theorem noneAt_zero (p : Nat) (w : World) (h : w.cell? ⟨p, 0, none⟩ = some (.slice none 0 0)) : NoneAt (.pointer (some ⟨p, 0, none⟩)) w := none_zero p w h
set_option maxRecDepth 100000 in
theorem Failed_any (p b0 b1 : Nat) (d : Dk) (w : World) (hd : DiskAt w p b0 b1 d) :
    Calls Try.prog 23 #[.pointer (some ⟨p, 0, none⟩)] w fun e w' => e = .returned (.bool d.failed) ∧ w = w' := by
  obtain ⟨k0, -, -, k3, -, -⟩ := four_cells hd.at_
  have HNO := Lib.hid (none_no p b0 d.size d.size w k0)
  clear hd
  go_enter Try.func23, Try.ntmps23
  go_wp2_with fail
  refine HNO.out.mono ?_
  rintro e w1 ⟨rfl, rfl⟩
  go_wp2
  go_ret
  exact ⟨rfl, rfl⟩
set_option maxRecDepth 100000 in
theorem Failed_none (v : Value) (w : World) (hn : NoneAt v w) : Calls Try.prog 23 #[v] w fun e w' => e = .returned (.bool false) ∧ w = w' := by
  have HNO := Lib.hid hn
  clear hn
  go_enter Try.func23, Try.ntmps23
  go_wp2_with fail
  refine HNO.out.mono ?_
  rintro e w1 ⟨rfl, rfl⟩
  go_wp2
  go_ret
  exact ⟨rfl, rfl⟩
def Dk.fused (d : Dk) (n : Int) : Int × Dk := if n < -1 then (2, d) else (0, { d with fuse := n })
set_option maxRecDepth 100000 in
theorem Fuse_any (p b0 b1 : Nat) (d : Dk) (n : Int) (w : World) (hd : DiskAt w p b0 b1 d) :
    Calls Try.prog 14 #[.pointer (some ⟨p, 0, none⟩), .int .i64 n] w fun e w' => e = .returned (.int .i64 (d.fused n).1) ∧ DiskAt w' p b0 b1 (d.fused n).2 ∧ Kp (three p b0 b1) w w' := by
  obtain ⟨k0, -, k2, -, f2, -⟩ := four_cells hd.at_
  have HNO := Lib.hid (none_no p b0 d.size d.size w k0)
  have HD := Lib.hid hd
  clear hd
  by_cases hn : n < -1
  · have h1 : d.fused n = (2, d) := if_pos hn
    rw [h1]
    go_enter Try.func14, Try.ntmps14
    go_wp2_with fail
    refine HNO.out.mono ?_
    rintro e w1 ⟨rfl, rfl⟩
    go_wp2
    go_ret
    exact ⟨rfl, HD.out, Kp.refl _ _⟩
  · have h1 : d.fused n = (0, { d with fuse := n }) := if_neg hn
    rw [h1]
    go_enter Try.func14, Try.ntmps14
    go_wp2_with fail
    refine HNO.out.mono ?_
    rintro e w1 ⟨rfl, rfl⟩
    go_wp2
    go_ret
    refine ⟨rfl, ⟨?_, ?_, ?_, HD.out.n01, HD.out.n0, HD.out.n1⟩, (Kp.refl _ w).setCell (Or.inl rfl) _⟩
    · simp [World.setCell, Array.getElem?_modify, HD.out.at_]
    · obtain ⟨t, ht⟩ := HD.out.a0; exact ⟨t, (Below.heap_setCell w ⟨p, 2, none⟩ _ b0 HD.out.n0).trans ht⟩
    · obtain ⟨t, ht⟩ := HD.out.a1; exact ⟨t, (Below.heap_setCell w ⟨p, 2, none⟩ _ b1 HD.out.n1).trans ht⟩
set_option maxRecDepth 100000 in
theorem Fuse_none (v : Value) (n : Int) (w : World) (hn : NoneAt v w) : Calls Try.prog 14 #[v, .int .i64 n] w fun e w' => e = .returned (.int .i64 1) ∧ w = w' := by
  have HNO := Lib.hid hn
  clear hn
  go_enter Try.func14, Try.ntmps14
  go_wp2_with fail
  refine HNO.out.mono ?_
  rintro e w1 ⟨rfl, rfl⟩
  go_wp2
  go_ret
  exact ⟨rfl, rfl⟩
set_option maxRecDepth 100000 in
theorem Restart_any (p b0 b1 : Nat) (d : Dk) (w : World) (hd : DiskAt w p b0 b1 d) :
    Calls Try.prog 15 #[.pointer (some ⟨p, 0, none⟩)] w fun e w' => (∃ v, e = .returned v) ∧ DiskAt w' p b0 b1 { d with fuse := -1, failed := false } ∧ Kp (three p b0 b1) w w' := by
  obtain ⟨k0, -, k2, k3, f2, f3⟩ := four_cells hd.at_
  have HNO := Lib.hid (none_no p b0 d.size d.size w k0)
  have HD := Lib.hid hd
  clear hd
  go_enter Try.func15, Try.ntmps15
  go_wp2_with fail
  refine HNO.out.mono ?_
  rintro e w1 ⟨rfl, rfl⟩
  go_wp2
  go_end0
  refine ⟨⟨_, rfl⟩, ⟨?_, ?_, ?_, HD.out.n01, HD.out.n0, HD.out.n1⟩, ((Kp.refl _ w).setCell (Or.inl rfl) _).setCell (Or.inl rfl) _⟩
  · simp [World.setCell, Array.getElem?_modify, HD.out.at_]
  · obtain ⟨t, ht⟩ := HD.out.a0; exact ⟨t, ((Below.heap_setCell _ ⟨p, 3, none⟩ _ b0 HD.out.n0).trans (Below.heap_setCell w ⟨p, 2, none⟩ _ b0 HD.out.n0)).trans ht⟩
  · obtain ⟨t, ht⟩ := HD.out.a1; exact ⟨t, ((Below.heap_setCell _ ⟨p, 3, none⟩ _ b1 HD.out.n1).trans (Below.heap_setCell w ⟨p, 2, none⟩ _ b1 HD.out.n1)).trans ht⟩
set_option maxRecDepth 100000 in
theorem Restart_none (v : Value) (w : World) (hn : NoneAt v w) : Calls Try.prog 15 #[v] w fun e w' => (∃ v, e = .returned v) ∧ w = w' := by
  have HNO := Lib.hid hn
  clear hn
  go_enter Try.func15, Try.ntmps15
  go_wp2_with fail
  refine HNO.out.mono ?_
  rintro e w1 ⟨rfl, rfl⟩
  go_wp2
  go_end0
  exact ⟨⟨_, rfl⟩, rfl⟩
set_option maxRecDepth 100000 in
theorem Append_none (v x : Value) (w : World) (hn : NoneAt v w) : Calls Try.prog 12 #[v, x] w fun e w' => e = .returned (.int .i64 1) ∧ w = w' := by
  have HNO := Lib.hid hn
  clear hn
  go_enter Try.func12, Try.ntmps12
  go_wp2_with fail
  refine HNO.out.mono ?_
  rintro e w1 ⟨rfl, rfl⟩
  go_wp2
  go_ret
  exact ⟨rfl, rfl⟩
set_option maxRecDepth 100000 in
theorem Rewrite_none (v x : Value) (w : World) (hn : NoneAt v w) : Calls Try.prog 13 #[v, x] w fun e w' => e = .returned (.int .i64 1) ∧ w = w' := by
  have HNO := Lib.hid hn
  clear hn
  go_enter Try.func13, Try.ntmps13
  go_wp2_with fail
  refine HNO.out.mono ?_
  rintro e w1 ⟨rfl, rfl⟩
  go_wp2
  go_ret
  exact ⟨rfl, rfl⟩
set_option maxRecDepth 100000 in
theorem Flip_none (v x : Value) (w : World) (hn : NoneAt v w) : Calls Try.prog 22 #[v, x] w fun e w' => e = .returned (.int .i64 1) ∧ w = w' := by
  have HNO := Lib.hid hn
  clear hn
  go_enter Try.func22, Try.ntmps22
  go_wp2_with fail
  refine HNO.out.mono ?_
  rintro e w1 ⟨rfl, rfl⟩
  go_wp2
  go_ret
  exact ⟨rfl, rfl⟩
set_option maxRecDepth 100000 in
theorem Size_none (v : Value) (w : World) (hn : NoneAt v w) : Calls Try.prog 11 #[v] w fun e w' => e = .returned (.tuple #[.int .i64 0, .int .i64 0]) ∧ w = w' := by
  have HNO := Lib.hid hn
  clear hn
  go_enter Try.func11, Try.ntmps11
  go_wp2_with fail
  refine HNO.out.mono ?_
  rintro e w1 ⟨rfl, rfl⟩
  go_wp2
  go_ret2
  exact ⟨rfl, rfl⟩
set_option maxRecDepth 100000 in
theorem Records_none (v : Value) (w : World) (hn : NoneAt v w) : Calls Try.prog 16 #[v] w fun e w' => e = .returned (.tuple #[.slice none 0 0, .int .i64 1]) ∧ w = w' := by
  have HNO := Lib.hid hn
  clear hn
  refine (callsIn_wide (n := 5)).1 ?_
  refine callsIn_of_wp_marks Try.func16 rfl trivial ?_ rfl
  simp only [Try.ntmps16, List.size_toArray, List.length_cons, List.length_nil, Nat.reduceAdd, Nat.reduceSub, Array.replicate_succ, Array.replicate_zero, List.push_toArray, List.append_toArray, List.nil_append, List.cons_append]
  gi_wp2_with fail
  refine ⟨trivial, (callsIn_wide.2 HNO.out).mono ?_⟩
  rintro e w1 ⟨rfl, rfl⟩
  gi_wp2
  refine postM_ret (v := .tuple #[.slice none 0 0, .int .i64 1]) (by simp [results, Try.results16, go_sem]) rfl ⟨rfl, rfl⟩
end Go.Proofs.Ytjfmcobikadjhaa
