/- Walks: the law's integers that may be out of range. -/
import Derived.Test.YtdfklcmiagmgaaaWE2
import Derived.Test.YtdfklcmiagmgaaaWE3
namespace Go.Proofs.Ytdfklcmiagmgaaa
set_option linter.all false
open Go.RowKit Go.Shelf Go.WideNum
theorem try_cells {W : World} {g : Nat} {n : Bool} {s : ByteArray} {i : Bool} {T : TypeId} (h : W.heap[g]? = some (.cells #[.bool n, .string s, .bool i] T)) :
    W.cell? ⟨g, 0, none⟩ = some (.bool n) ∧ W.cell? ⟨g, 1, none⟩ = some (.string s) ∧ W.cell? ⟨g, 2, none⟩ = some (.bool i) ∧ ∀ o, W.frozen? ⟨g, o, none⟩ = false :=
  ⟨by rw [cell_of_row W _ _ _ _ (0, 0) h]; rfl, by rw [cell_of_row W _ _ _ _ (0, 0) h]; rfl, by rw [cell_of_row W _ _ _ _ (0, 0) h]; rfl, fun o => by simp [World.frozen?, h]⟩
theorem try_set {W : World} {g : Nat} {u0 u1 u2 : Value} {T : TypeId} (h : W.heap[g]? = some (.cells #[u0, u1, u2] T)) (n : Bool) (s : ByteArray) (i : Bool) :
    (((W.setCell ⟨g, 0, none⟩ (.bool n)).setCell ⟨g, 1, none⟩ (.string s)).setCell ⟨g, 2, none⟩ (.bool i)).heap[g]? = some (.cells #[.bool n, .string s, .bool i] T) := by
  simp [World.setCell, Array.getElem?_modify, h]
set_option maxRecDepth 100000 in
set_option maxHeartbeats 8000000 in
theorem trySum (na : Bool) (sa : ByteArray) (ia : Bool) (nb : Bool) (sb : ByteArray) (ib : Bool) (hsa : sa.size ≤ maxLen) (hsb : sb.size ≤ maxLen) (fb : Bool) (ft : ByteArray) (E : Int) (hop : opF (fun a b => a + b) na sa nb sb = (.agg #[.bool fb, .string ft], E)) (w : World) :
    Calls Try.prog 29 #[.agg #[.bool na, .string sa, .bool ia], .agg #[.bool nb, .string sb, .bool ib]] w fun e w' => e = .returned (.agg #[.bool fb, .string ft, .bool (ia && (ib && (E == 0)))]) ∧ Below w.heap.size w w' := by
  obtain ⟨R, hR⟩ : ∃ R, R = (ia && (ib && (E == 0))) := ⟨_, rfl⟩
  rw [← hR]
  have HR := Lib.hid hR
  clear hR
  obtain ⟨W0, hW0⟩ : ∃ W0, W0 = ((w.alloc (.cells #[.bool na, .string sa, .bool ia] 43)).alloc (.cells #[.bool nb, .string sb, .bool ib] 43)).alloc (.cells #[.bool false, .string ⟨#[]⟩, .bool false] 43) := ⟨_, rfl⟩
  have g0 : W0.heap[w.heap.size]? = some (.cells #[.bool na, .string sa, .bool ia] 43) := by rw [hW0]; repeat (first | (refine alloc_last _ _ ?_; simp only [World.size_alloc]; done) | (rw [Below.heap_alloc]; rotate_left; (simp only [World.size_alloc]; omega)))
  have g1 : W0.heap[w.heap.size + 1]? = some (.cells #[.bool nb, .string sb, .bool ib] 43) := by rw [hW0]; repeat (first | (refine alloc_last _ _ ?_; simp only [World.size_alloc]; done) | (rw [Below.heap_alloc]; rotate_left; (simp only [World.size_alloc]; omega)))
  have g2 : W0.heap[w.heap.size + 1 + 1]? = some (.cells #[.bool false, .string ⟨#[]⟩, .bool false] 43) := by rw [hW0]; repeat (first | (refine alloc_last _ _ ?_; simp only [World.size_alloc]; done) | (rw [Below.heap_alloc]; rotate_left; (simp only [World.size_alloc]; omega)))
  have hb0 : Below w.heap.size w W0 := by rw [hW0]; exact ((((Below.refl _ w).alloc (Nat.le_refl _) _).alloc (by simp) _).alloc (by simp; omega) _)
  have HB0 := Lib.hid hb0
  have HG0 := Lib.hid g0
  have HG1 := Lib.hid g1
  have HG2 := Lib.hid g2
  obtain ⟨c00, c01, c02, f0⟩ := try_cells g0
  obtain ⟨c10, c11, c12, f1⟩ := try_cells g1
  have HW0 := Lib.hid hW0
  have hadd : Hid (∀ W : World, Calls Try.prog 23 #[.agg #[.bool na, .string sa], .agg #[.bool nb, .string sb]] W fun e w' => e = .returned (.tuple #[.agg #[.bool fb, .string ft], .int .i64 E]) ∧ Below W.heap.size W w') := by
    show ∀ W : World, _
    intro W
    have := Add_any na sa nb sb hsa hsb W
    rwa [hop] at this
  clear hb0 g0 g1 g2 hW0 hop
  go_enter Try.func29, Try.ntmps29
  go_upto_region 1 with (fail)
  rw [← HW0.out]
  go_wp2_with fail
  (with_reducible refine (hadd.out _).mono ?_)
  rintro e w1 ⟨rfl, hb1⟩
  have k0 := (hb1.block _ (lt_of_heap HG0.out)).trans HG0.out
  have k1 := (hb1.block _ (lt_of_heap HG1.out)).trans HG1.out
  have k2 := (hb1.block _ (lt_of_heap HG2.out)).trans HG2.out
  have HK2 := Lib.hid k2
  have hl0 := lt_of_heap k0
  have hl1 := lt_of_heap k1
  have hl2 := lt_of_heap k2
  have HBw1 := Lib.hid (HB0.out.trans (hb1.mono HB0.out.size))
  clear c00 c01 c02 f0 c10 c11 c12 f1 hb1
  obtain ⟨c00, c01, c02, f0⟩ := try_cells k0
  obtain ⟨c10, c11, c12, f1⟩ := try_cells k1
  obtain ⟨c20, c21, c22, f2⟩ := try_cells k2
  clear k0 k1 k2
  have n0 : ¬ w.heap.size = w1.heap.size := by omega
  have n1 : ¬ w.heap.size + 1 = w1.heap.size := by omega
  have n2 : ¬ w.heap.size + 1 + 1 = w1.heap.size := by omega
  have HF : Hid (∀ W, W.heap[w.heap.size + 1 + 1]? = some (.cells #[.bool fb, .string ft, .bool R] 43) → Below w.heap.size w W → (results Try.f29 #[]).run Try.prog W = (results Try.f29 #[]).run Try.prog W) := fun W _ _ => rfl
  have fin : ∀ (a : Act), a.tmps.getD 4 undef = .pointer (some ⟨w.heap.size + 1 + 1, 0, none⟩) → a.defers = [] → bodyPost Try.prog Try.f29 (fun e w' => e = Ending.returned (Value.agg #[.bool fb, .string ft, .bool R]) ∧ Below w.heap.size w w') Exit.ret a ((((w1.setCell ⟨w.heap.size + 1 + 1, 0, none⟩ (.bool fb)).setCell ⟨w.heap.size + 1 + 1, 1, none⟩ (.string ft)).setCell ⟨w.heap.size + 1 + 1, 2, none⟩ (.bool R)).alloc (.cells #[.bool fb, .string ft] 23)) := by
    intro a ha hd
    have m2 := (Below.heap_alloc (((w1.setCell ⟨w.heap.size + 1 + 1, 0, none⟩ (.bool fb)).setCell ⟨w.heap.size + 1 + 1, 1, none⟩ (.string ft)).setCell ⟨w.heap.size + 1 + 1, 2, none⟩ (.bool R)) (.cells #[.bool fb, .string ft] 23) (w.heap.size + 1 + 1) (by simp; omega)).trans (try_set HK2.out fb ft R)
    have hb9 : Below w.heap.size w ((((w1.setCell ⟨w.heap.size + 1 + 1, 0, none⟩ (.bool fb)).setCell ⟨w.heap.size + 1 + 1, 1, none⟩ (.string ft)).setCell ⟨w.heap.size + 1 + 1, 2, none⟩ (.bool R)).alloc (.cells #[.bool fb, .string ft] 23)) := (((HBw1.out.setCell (by simp; omega) _).setCell (by simp; omega) _).setCell (by simp; omega) _).alloc (by simp; omega) _
    obtain ⟨d0, d1, d2, -⟩ := try_cells m2
    clear m2
    generalize ((((w1.setCell ⟨w.heap.size + 1 + 1, 0, none⟩ (.bool fb)).setCell ⟨w.heap.size + 1 + 1, 1, none⟩ (.string ft)).setCell ⟨w.heap.size + 1 + 1, 2, none⟩ (.bool R)).alloc (.cells #[.bool fb, .string ft] 23)) = W9 at d0 d1 d2 hb9 ⊢
    exact bodyPost_ret (v := .agg #[.bool fb, .string ft, .bool R]) (by simp [results, Try.results29, go_sem, d0, d1, d2, show a.tmps[4]?.getD undef = _ from by simpa using ha]) hd ⟨rfl, hb9⟩
  have FIN := Lib.hid fin
  clear fin HF
  cases ia with
  | false =>
    have hre : R = false := HR.out
    subst hre
    go_wp2
    exact FIN.out _ rfl rfl
  | true =>
    cases ib with
    | false =>
      have hre : R = false := HR.out
      subst hre
      go_wp2
      exact FIN.out _ rfl rfl
    | true =>
      by_cases h0 : E = 0
      · subst h0
        have hre : R = true := HR.out
        subst hre
        go_wp2
        exact FIN.out _ rfl rfl
      · have h0' : (E == 0) = false := by rw [beq_eq_false_iff_ne]; exact h0
        have hre : R = false := by rw [HR.out, h0']; rfl
        subst hre
        go_wp2
        exact FIN.out _ rfl rfl
set_option maxRecDepth 100000 in
set_option maxHeartbeats 8000000 in
theorem tryProd (na : Bool) (sa : ByteArray) (ia : Bool) (nb : Bool) (sb : ByteArray) (ib : Bool) (hsa : sa.size ≤ maxLen) (hsb : sb.size ≤ maxLen) (fb : Bool) (ft : ByteArray) (E : Int) (hop : opF (fun a b => a * b) na sa nb sb = (.agg #[.bool fb, .string ft], E)) (w : World) :
    Calls Try.prog 31 #[.agg #[.bool na, .string sa, .bool ia], .agg #[.bool nb, .string sb, .bool ib]] w fun e w' => e = .returned (.agg #[.bool fb, .string ft, .bool (ia && (ib && (E == 0)))]) ∧ Below w.heap.size w w' := by
  obtain ⟨R, hR⟩ : ∃ R, R = (ia && (ib && (E == 0))) := ⟨_, rfl⟩
  rw [← hR]
  have HR := Lib.hid hR
  clear hR
  obtain ⟨W0, hW0⟩ : ∃ W0, W0 = ((w.alloc (.cells #[.bool na, .string sa, .bool ia] 43)).alloc (.cells #[.bool nb, .string sb, .bool ib] 43)).alloc (.cells #[.bool false, .string ⟨#[]⟩, .bool false] 43) := ⟨_, rfl⟩
  have g0 : W0.heap[w.heap.size]? = some (.cells #[.bool na, .string sa, .bool ia] 43) := by rw [hW0]; repeat (first | (refine alloc_last _ _ ?_; simp only [World.size_alloc]; done) | (rw [Below.heap_alloc]; rotate_left; (simp only [World.size_alloc]; omega)))
  have g1 : W0.heap[w.heap.size + 1]? = some (.cells #[.bool nb, .string sb, .bool ib] 43) := by rw [hW0]; repeat (first | (refine alloc_last _ _ ?_; simp only [World.size_alloc]; done) | (rw [Below.heap_alloc]; rotate_left; (simp only [World.size_alloc]; omega)))
  have g2 : W0.heap[w.heap.size + 1 + 1]? = some (.cells #[.bool false, .string ⟨#[]⟩, .bool false] 43) := by rw [hW0]; repeat (first | (refine alloc_last _ _ ?_; simp only [World.size_alloc]; done) | (rw [Below.heap_alloc]; rotate_left; (simp only [World.size_alloc]; omega)))
  have hb0 : Below w.heap.size w W0 := by rw [hW0]; exact ((((Below.refl _ w).alloc (Nat.le_refl _) _).alloc (by simp) _).alloc (by simp; omega) _)
  have HB0 := Lib.hid hb0
  have HG0 := Lib.hid g0
  have HG1 := Lib.hid g1
  have HG2 := Lib.hid g2
  obtain ⟨c00, c01, c02, f0⟩ := try_cells g0
  obtain ⟨c10, c11, c12, f1⟩ := try_cells g1
  have HW0 := Lib.hid hW0
  have hadd : Hid (∀ W : World, Calls Try.prog 27 #[.agg #[.bool na, .string sa], .agg #[.bool nb, .string sb]] W fun e w' => e = .returned (.tuple #[.agg #[.bool fb, .string ft], .int .i64 E]) ∧ Below W.heap.size W w') := by
    show ∀ W : World, _
    intro W
    have := Mul_any na sa nb sb hsa hsb W
    rwa [hop] at this
  clear hb0 g0 g1 g2 hW0 hop
  go_enter Try.func31, Try.ntmps31
  go_upto_region 1 with (fail)
  rw [← HW0.out]
  go_wp2_with fail
  (with_reducible refine (hadd.out _).mono ?_)
  rintro e w1 ⟨rfl, hb1⟩
  have k0 := (hb1.block _ (lt_of_heap HG0.out)).trans HG0.out
  have k1 := (hb1.block _ (lt_of_heap HG1.out)).trans HG1.out
  have k2 := (hb1.block _ (lt_of_heap HG2.out)).trans HG2.out
  have HK2 := Lib.hid k2
  have hl0 := lt_of_heap k0
  have hl1 := lt_of_heap k1
  have hl2 := lt_of_heap k2
  have HBw1 := Lib.hid (HB0.out.trans (hb1.mono HB0.out.size))
  clear c00 c01 c02 f0 c10 c11 c12 f1 hb1
  obtain ⟨c00, c01, c02, f0⟩ := try_cells k0
  obtain ⟨c10, c11, c12, f1⟩ := try_cells k1
  obtain ⟨c20, c21, c22, f2⟩ := try_cells k2
  clear k0 k1 k2
  have n0 : ¬ w.heap.size = w1.heap.size := by omega
  have n1 : ¬ w.heap.size + 1 = w1.heap.size := by omega
  have n2 : ¬ w.heap.size + 1 + 1 = w1.heap.size := by omega
  have HF : Hid (∀ W, W.heap[w.heap.size + 1 + 1]? = some (.cells #[.bool fb, .string ft, .bool R] 43) → Below w.heap.size w W → (results Try.f31 #[]).run Try.prog W = (results Try.f31 #[]).run Try.prog W) := fun W _ _ => rfl
  have fin : ∀ (a : Act), a.tmps.getD 4 undef = .pointer (some ⟨w.heap.size + 1 + 1, 0, none⟩) → a.defers = [] → bodyPost Try.prog Try.f31 (fun e w' => e = Ending.returned (Value.agg #[.bool fb, .string ft, .bool R]) ∧ Below w.heap.size w w') Exit.ret a ((((w1.setCell ⟨w.heap.size + 1 + 1, 0, none⟩ (.bool fb)).setCell ⟨w.heap.size + 1 + 1, 1, none⟩ (.string ft)).setCell ⟨w.heap.size + 1 + 1, 2, none⟩ (.bool R)).alloc (.cells #[.bool fb, .string ft] 23)) := by
    intro a ha hd
    have m2 := (Below.heap_alloc (((w1.setCell ⟨w.heap.size + 1 + 1, 0, none⟩ (.bool fb)).setCell ⟨w.heap.size + 1 + 1, 1, none⟩ (.string ft)).setCell ⟨w.heap.size + 1 + 1, 2, none⟩ (.bool R)) (.cells #[.bool fb, .string ft] 23) (w.heap.size + 1 + 1) (by simp; omega)).trans (try_set HK2.out fb ft R)
    have hb9 : Below w.heap.size w ((((w1.setCell ⟨w.heap.size + 1 + 1, 0, none⟩ (.bool fb)).setCell ⟨w.heap.size + 1 + 1, 1, none⟩ (.string ft)).setCell ⟨w.heap.size + 1 + 1, 2, none⟩ (.bool R)).alloc (.cells #[.bool fb, .string ft] 23)) := (((HBw1.out.setCell (by simp; omega) _).setCell (by simp; omega) _).setCell (by simp; omega) _).alloc (by simp; omega) _
    obtain ⟨d0, d1, d2, -⟩ := try_cells m2
    clear m2
    generalize ((((w1.setCell ⟨w.heap.size + 1 + 1, 0, none⟩ (.bool fb)).setCell ⟨w.heap.size + 1 + 1, 1, none⟩ (.string ft)).setCell ⟨w.heap.size + 1 + 1, 2, none⟩ (.bool R)).alloc (.cells #[.bool fb, .string ft] 23)) = W9 at d0 d1 d2 hb9 ⊢
    exact bodyPost_ret (v := .agg #[.bool fb, .string ft, .bool R]) (by simp [results, Try.results31, go_sem, d0, d1, d2, show a.tmps[4]?.getD undef = _ from by simpa using ha]) hd ⟨rfl, hb9⟩
  have FIN := Lib.hid fin
  clear fin HF
  cases ia with
  | false =>
    have hre : R = false := HR.out
    subst hre
    go_wp2
    exact FIN.out _ rfl rfl
  | true =>
    cases ib with
    | false =>
      have hre : R = false := HR.out
      subst hre
      go_wp2
      exact FIN.out _ rfl rfl
    | true =>
      by_cases h0 : E = 0
      · subst h0
        have hre : R = true := HR.out
        subst hre
        go_wp2
        exact FIN.out _ rfl rfl
      · have h0' : (E == 0) = false := by rw [beq_eq_false_iff_ne]; exact h0
        have hre : R = false := by rw [HR.out, h0']; rfl
        subst hre
        go_wp2
        exact FIN.out _ rfl rfl
set_option maxRecDepth 100000 in
set_option maxHeartbeats 8000000 in
theorem tryEqual (na : Bool) (sa : ByteArray) (ia : Bool) (nb : Bool) (sb : ByteArray) (ib : Bool) (h : ia = true → ib = true → na = nb ∧ sa = sb) (w : World) :
    Calls Try.prog 30 #[.agg #[.bool na, .string sa, .bool ia], .agg #[.bool nb, .string sb, .bool ib]] w fun e w' => e = .returned (.bool true) ∧ Below w.heap.size w w' := by
  have HBE := Lib.hid (((Below.refl w.heap.size w).alloc (Nat.le_refl _) (.cells #[.bool na, .string sa, .bool ia] 43)).alloc (by simp) (.cells #[.bool nb, .string sb, .bool ib] 43))
  cases ia with
  | false =>
    clear h
    go_enter Try.func30, Try.ntmps30
    go_wp2
    go_ret
    exact ⟨rfl, HBE.out⟩
  | true =>
    cases ib with
    | false =>
      clear h
      go_enter Try.func30, Try.ntmps30
      go_wp2
      go_ret
      exact ⟨rfl, HBE.out⟩
    | true =>
      obtain ⟨rfl, rfl⟩ := h rfl rfl
      go_enter Try.func30, Try.ntmps30
      go_wp2
      go_ret
      exact ⟨rfl, HBE.out⟩
end Go.Proofs.Ytdfklcmiagmgaaa
