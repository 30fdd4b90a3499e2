/- Walks: what the laws leave out. -/
import Derived.Test.YtpcpgmgpkegjlaaGC3
namespace Go.Proofs.Ytpcpgmgpkegjlaa
open Go.RowKit Go.Shelf Go.BigFrame
def smallRows (rs : List (List Nat)) (k : Nat) : Bool := (rs.take k).all fun r => decide (r.length ≤ 100)
def hugeB (rs : List (List Nat)) : Bool := !smallRows rs 60 || decide (60 < rs.length)
set_option maxRecDepth 100000 in
set_option maxHeartbeats 8000000 in
theorem huge_any (l1 : Int) (s1 : Bool) (v1 : Value) (xs : List (List Nat)) (B1 : Nat) (w : World) (h1 : w.rows u32V B1 v1 xs) (hB1 : B1 ≤ w.heap.size) :
    Calls Try.prog 28 #[.agg #[.int .i64 l1, .bool s1, v1]] w fun e w' => e = .returned (.bool (hugeB xs)) ∧ Below w.heap.size w w' := by
  have hl1 := h1.le
  obtain ⟨a1, c1, rfl, hc1, hm1, hs1⟩ := h1.shape
  obtain ⟨W0, hW0⟩ : ∃ W0, W0 = w.alloc (.cells #[.int .i64 l1, .bool s1, .slice a1 xs.length c1] 28) := ⟨_, rfl⟩
  have hB0 : Below w.heap.size w W0 := by rw [hW0]; exact (Below.refl _ w).alloc (Nat.le_refl _) _
  have g1 : W0.heap[w.heap.size]? = some (.cells #[.int .i64 l1, .bool s1, .slice a1 xs.length c1] 28) := by
    rw [hW0]; exact alloc_last _ _ rfl
  obtain ⟨hcw, -⟩ := bcell hB0
  obtain ⟨k0, k1, k2, -, -, -⟩ := elem_cells g1
  have HS1 : Hid (∀ (j : Nat) (r : List Nat), xs[j]? = some r → ∃ b off b2 c2, a1 = some ⟨b, off, none⟩ ∧ W0.cell? ⟨b, off + j, none⟩ = some (.slice b2 r.length c2)) := by
    intro j r hj
    obtain ⟨b, off, b2, c2, h1, h2, h3, h4⟩ := hs1 j r hj
    exact ⟨b, off, b2, c2, h1, by rw [hcw _ _ (by omega)]; exact h3⟩
  obtain ⟨l, hl⟩ : ∃ l, l = xs.length := ⟨_, rfl⟩
  rw [← hl] at hl1 hc1 k2 hW0
  have HW0 := Lib.hid hW0
  have HL := Lib.hid hl
  rw [← hl]
  clear hs1 hcw g1 h1 hl hW0
  go_enter Try.func28, Try.ntmps28
  go_upto_region 1 with (fail)
  rw [← HW0.out]
  go_wp2
  go_loop [3] (fun i => ∃ k : Nat, k ≤ l ∧ k ≤ 60 ∧ i = .int .i64 (k : Int) ∧ Hid (smallRows xs k = true)) (fun i => l - (intOf i).toNat)
  case atStart => exact ⟨0, Nat.zero_le _, by omega, rfl, by show _ = _; simp [smallRows]⟩
  case round =>
    obtain ⟨k, hk, hk6, rfl, hall⟩ := hrel
    by_cases hlt : k < l
    · by_cases hk60 : k < 60
      · obtain ⟨x, hx⟩ : ∃ x, xs[k]? = some x := ⟨xs[k]'(by have := HL.out; omega), List.getElem?_eq_getElem _⟩
        obtain ⟨b1, o1, p1, d1, rfl, hcx⟩ := HS1.out k x hx
        obtain ⟨m, hm⟩ : ∃ m, m = x.length := ⟨_, rfl⟩
        rw [← hm] at hcx
        have HX := Lib.hid hx
        have HM := Lib.hid hm
        clear hx hm
        by_cases hbig : 100 < m
        · have HF : Hid (smallRows xs 60 = false) := by
            show _ = _
            unfold smallRows
            rw [List.all_eq_false]
            refine ⟨x, ?_, by have := HM.out; simp; omega⟩
            exact List.mem_of_getElem? (i := k) (by rw [List.getElem?_take, if_pos hk60]; exact HX.out)
          go_wp2
          go_ret
          exact ⟨ret_bool (by unfold hugeB; rw [HF.out]; simp), hB0⟩
        · go_wp2
          go_round
          case rel => exact ⟨k + 1, by omega, by omega, by go_num, by show _ = _; unfold smallRows; rw [all_take_succ _ _ _ _ HX.out]; have h3 := hall.out; unfold smallRows at h3; rw [h3]; have := HM.out; simp; omega⟩
          case measure => simp [intOf]; omega
      · obtain rfl : k = 60 := by omega
        have HF : Hid (hugeB xs = true) := by show _ = _; unfold hugeB; have := HL.out; simp; right; omega
        go_wp2
        go_ret
        exact ⟨ret_bool (by rw [HF.out]), hB0⟩
    · obtain rfl : k = l := by omega
      have h2 := hall.out
      have HF : Hid (hugeB xs = false) := by
        show _ = _
        have h3 := HL.out
        unfold hugeB
        unfold smallRows at h2 ⊢
        rw [List.take_of_length_le (by omega)] at h2 ⊢
        rw [h2]
        simp; omega
      clear h2 hall
      go_wp2
      go_ret
      exact ⟨ret_bool (by rw [HF.out]; simp; omega), hB0⟩
end Go.Proofs.Ytpcpgmgpkegjlaa
