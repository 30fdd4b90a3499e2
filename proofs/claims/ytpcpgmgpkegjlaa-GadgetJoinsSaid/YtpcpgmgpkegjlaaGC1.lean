/- Walks: two lists of words, of rows, of elements are the same. -/
import Derived.Test.YtpcpgmgpkegjlaaGB6
namespace Go.Proofs.Ytpcpgmgpkegjlaa
open Go.RowKit Go.Shelf Go.BigFrame
theorem take_eq_succ {α : Type} (xs ys : List α) (k : Nat) (x : α) (h : xs.take k = ys.take k) (hx : xs[k]? = some x) (hy : ys[k]? = some x) : xs.take (k + 1) = ys.take (k + 1) := by
  rw [List.take_add_one, List.take_add_one, h, hx, hy]
set_option maxHeartbeats 4000000 in
theorem same5_any (v1 v2 : Value) (xs ys : List Nat) (B1 B2 : Nat) (w : World) (h1 : w.reads B1 v1 (xs.map u32V)) (h2 : w.reads B2 v2 (ys.map u32V)) :
    Calls Try.prog 34 #[v1, v2] w fun e w' => e = .returned (.bool (decide (xs = ys))) ∧ ∃ n, w' = w.drewN n := by
  have hl1 := h1.le_map
  have hl2 := h2.le_map
  obtain ⟨a1, c1, rfl, hc1, hm1, hs1⟩ := reads_u32 h1
  obtain ⟨a2, c2, rfl, hc2, hm2, hs2⟩ := reads_u32 h2
  have HS1 := Lib.hid hs1
  have HS2 := Lib.hid hs2
  clear hs1 hs2 h1 h2
  by_cases hlen : xs.length = ys.length
  · obtain ⟨m, hm⟩ : ∃ m, m = ys.length := ⟨_, rfl⟩
    have hxm : xs.length = m := by omega
    rw [← hm, hxm]
    rw [← hm] at hl2 hc2
    rw [hxm] at hl1 hc1
    have HXM := Lib.hid hxm
    have HYM := Lib.hid hm
    clear hxm hm hlen
    go_enter Try.func34, Try.ntmps34
    go_wp2
    go_loopw [5] (fun i wx => ∃ k n : Nat, k ≤ m ∧ i = .int .i64 (k : Int) ∧ wx = w.drewN n ∧ Hid (xs.take k = ys.take k)) (fun i _ => m - (intOf i).toNat)
    case atStart => exact ⟨0, 0, Nat.zero_le _, rfl, rfl, by show _ = _; simp⟩
    case round =>
      obtain ⟨k, n0, hk, rfl, rfl, hall⟩ := hrel
      by_cases hlt : k < m
      · obtain ⟨x, hx⟩ : ∃ x, xs[k]? = some x := ⟨xs[k]'(by have := HXM.out; omega), List.getElem?_eq_getElem _⟩
        obtain ⟨y, hy⟩ : ∃ x, ys[k]? = some x := ⟨ys[k]'(by have := HYM.out; omega), List.getElem?_eq_getElem _⟩
        obtain ⟨b1, o1, rfl, _, hcx⟩ := HS1.out k x hx
        obtain ⟨b2, o2, rfl, _, hcy⟩ := HS2.out k y hy
        have HX := Lib.hid hx
        have HY := Lib.hid hy
        clear hx hy
        have i1 : (0 : Int) ≤ (k : Int) := by omega
        have i2 : (k : Int) < (m : Int) := by omega
        by_cases hxy : x = y
        · subst hxy
          have hb : ((x : Int) != (x : Int)) = false := by simp
          go_upto_region 6 with (fail)
          go_quiet (fail)
          go_wp2
          go_roundw
          case rel => exact ⟨k + 1, _, by omega, by go_num, rfl, take_eq_succ _ _ _ _ hall.out HX.out HY.out⟩
          case measure => simp [intOf]; omega
        · have hb : ((x : Int) != (y : Int)) = true := by rw [bne_iff_ne]; omega
          go_upto_region 6 with (fail)
          go_quiet (fail)
          go_wp2
          go_ret
          refine ⟨ret_bool ?_, _, World.drewN_drewN _ _ _⟩
          symm
          rw [decide_eq_false_iff_not]
          intro e
          have h3 := HX.out
          rw [e, HY.out] at h3
          exact hxy (by simpa using h3.symm)
      · obtain rfl : k = m := by omega
        have h2 := hall.out
        rw [List.take_of_length_le (by have := HXM.out; omega), List.take_of_length_le (by have := HYM.out; omega)] at h2
        have HH := Lib.hid h2
        clear h2 hall
        go_wp2
        go_ret
        exact ⟨ret_bool (by simp [HH.out]), _, rfl⟩
  · obtain ⟨m, hm⟩ : ∃ m, m = ys.length := ⟨_, rfl⟩
    obtain ⟨l, hl⟩ : ∃ l, l = xs.length := ⟨_, rfl⟩
    have HF : Hid (decide (xs = ys) = false) := by
      show _ = _
      rw [decide_eq_false_iff_not]
      intro e
      exact hlen (by rw [e])
    have hb : ((l : Int) != (m : Int)) = true := by rw [bne_iff_ne]; omega
    rw [← hm, ← hl]
    rw [← hl] at hl1 hc1
    rw [← hm] at hl2 hc2
    clear hm hl HS1 HS2 hlen
    go_enter Try.func34, Try.ntmps34
    go_wp2
    go_ret
    exact ⟨ret_bool HF.out.symm, 0, rfl⟩
end Go.Proofs.Ytpcpgmgpkegjlaa
