/- Walks: two lists of rows of digits are the same. -/
import Derived.Test.YtpcpgmgpkegjlaaGC2
namespace Go.Proofs.Ytpcpgmgpkegjlaa
open Go.RowKit Go.Shelf Go.BigFrame
set_option maxRecDepth 100000 in
set_option maxHeartbeats 8000000 in
theorem same17_any (v1 v2 : Value) (xs ys : List (List Int)) (B1 B2 : Nat) (w : World) (h1 : w.rows i64V B1 v1 xs) (h2 : w.rows i64V B2 v2 ys) :
    Calls Try.prog 13 #[v1, v2] w fun e w' => e = .returned (.bool (decide (xs = ys))) ∧ ∃ n, w' = w.drewN n := by
  have hl1 := h1.le
  have hl2 := h2.le
  obtain ⟨a1, c1, rfl, hc1, hm1, hs1⟩ := h1.shape
  obtain ⟨a2, c2, rfl, hc2, hm2, hs2⟩ := h2.shape
  have HS1 := Lib.hid hs1
  have HS2 := Lib.hid hs2
  clear hs1 hs2 h1 h2
  obtain ⟨m, hm⟩ : ∃ m, m = ys.length := ⟨_, rfl⟩
  obtain ⟨l, hl⟩ : ∃ l, l = xs.length := ⟨_, rfl⟩
  obtain ⟨r, hr⟩ : ∃ r, r = decide (xs = ys) := ⟨_, rfl⟩
  rw [← hm, ← hl, ← hr]
  rw [← hm] at hl2 hc2
  rw [← hl] at hl1 hc1
  have HR := Lib.hid hr
  have HM := Lib.hid hm
  have HL := Lib.hid hl
  clear hm hl hr
  by_cases hlm : l = m
  · subst hlm
    have t3 : ((l : Int) != (l : Int)) = false := by simp
    go_enter Try.func13, Try.ntmps13
    go_wp2
    go_loopw [5] (fun i wx => ∃ k n : Nat, k ≤ l ∧ i = .int .i64 (k : Int) ∧ wx = w.drewN n ∧ Hid (xs.take k = ys.take k)) (fun i _ => l - (intOf i).toNat)
    case atStart => exact ⟨0, 0, Nat.zero_le _, rfl, rfl, by show _ = _; simp⟩
    case round =>
      obtain ⟨k, n0, hk, rfl, rfl, hall⟩ := hrel
      by_cases hlt : k < l
      · obtain ⟨x, hx⟩ : ∃ x, xs[k]? = some x := ⟨xs[k]'(by have := HL.out; omega), List.getElem?_eq_getElem _⟩
        obtain ⟨y, hy⟩ : ∃ x, ys[k]? = some x := ⟨ys[k]'(by have := HM.out; omega), List.getElem?_eq_getElem _⟩
        obtain ⟨b1, o1, p1, d1, rfl, -, hcx, hrx⟩ := HS1.out k x hx
        obtain ⟨b2, o2, p2, d2, rfl, -, hcy, hry⟩ := HS2.out k y hy
        have HX := Lib.hid hx
        have HY := Lib.hid hy
        have i1 : (0 : Int) ≤ (k : Int) := by omega
        have i2 : (k : Int) < (l : Int) := by omega
        obtain ⟨q1, e1, he1, -, -, hsx⟩ := reads_i64 hrx
        obtain ⟨q2, e2, he2, -, -, hsy⟩ := reads_i64 hry
        injection he1 with he1a _ he1c
        injection he2 with he2a _ he2c
        subst he1a he2a
        have hxl := hrx.le_map
        have hyl := hry.le_map
        have HSX := Lib.hid hsx
        have HSY := Lib.hid hsy
        obtain ⟨my, hmy⟩ : ∃ my, my = y.length := ⟨_, rfl⟩
        obtain ⟨mx, hmx⟩ : ∃ mx, mx = x.length := ⟨_, rfl⟩
        rw [← hmx] at hcx hxl
        rw [← hmy] at hcy hyl
        have HMX := Lib.hid hmx
        have HMY := Lib.hid hmy
        clear hx hy hrx hry hsx hsy hmx hmy he1c he2c
        by_cases hxy : mx = my
        · subst hxy
          have t4 : ((mx : Int) != (mx : Int)) = false := by simp
          go_upto_region 6 with (fail)
          go_quiet (fail)
          go_wp2
          go_loopw [6] (fun ii wx => ∃ j n : Nat, j ≤ mx ∧ ii = .int .i64 (j : Int) ∧ wx = w.drewN n ∧ Hid (x.take j = y.take j)) (fun ii _ => mx - (intOf ii).toNat)
          case atStart => exact ⟨0, _, Nat.zero_le _, rfl, rfl, by show _ = _; simp⟩
          case round =>
            obtain ⟨j, n1, hj, rfl, rfl, hall2⟩ := hrel
            by_cases hltj : j < mx
            · obtain ⟨u, hu⟩ : ∃ u, x[j]? = some u := ⟨x[j]'(by have := HMX.out; omega), List.getElem?_eq_getElem _⟩
              obtain ⟨v, hv⟩ : ∃ u, y[j]? = some u := ⟨y[j]'(by have := HMY.out; omega), List.getElem?_eq_getElem _⟩
              obtain ⟨b3, o3, rfl, _, hcu⟩ := HSX.out j u hu
              obtain ⟨b4, o4, rfl, _, hcv⟩ := HSY.out j v hv
              have HU := Lib.hid hu
              have HV := Lib.hid hv
              clear hu hv
              have i5 : (0 : Int) ≤ (j : Int) := by omega
              have i6 : (j : Int) < (mx : Int) := by omega
              by_cases huv : u = v
              · subst huv
                have t5 : (u != u) = false := by simp
                go_upto_region 11 with (fail)
                go_quiet (fail)
                go_wp2
                go_roundw
                case rel => exact ⟨j + 1, _, by omega, by go_num, rfl, take_eq_succ _ _ _ _ hall2.out HU.out HV.out⟩
                case measure => simp [intOf]; omega
              · have t5 : (u != v) = true := by rw [bne_iff_ne]; exact huv
                obtain rfl : r = false := by
                  rw [HR.out, decide_eq_false_iff_not]
                  intro e
                  have h3 := HX.out
                  rw [e, HY.out] at h3
                  injection h3 with h3
                  have h4 := HU.out
                  rw [← h3, HV.out] at h4
                  injection h4 with h4
                  exact huv h4.symm
                clear huv
                go_upto_region 11 with (fail)
                go_quiet (fail)
                go_wp2
                go_ret
                exact ⟨rfl, _, by first | rfl | exact World.drewN_drewN _ _ _⟩
            · obtain rfl : j = mx := by omega
              have h2 := hall2.out
              rw [List.take_of_length_le (by have := HMX.out; omega), List.take_of_length_le (by have := HMY.out; omega)] at h2
              have HEQ := Lib.hid h2
              clear h2 hall2
              go_wp2
              go_roundw
              case rel => exact ⟨k + 1, _, by omega, by go_num, rfl, take_eq_succ _ _ _ _ hall.out HX.out (by rw [HEQ.out]; exact HY.out)⟩
              case measure => simp [intOf]; omega
        · have t4 : ((mx : Int) != (my : Int)) = true := by rw [bne_iff_ne]; omega
          obtain rfl : r = false := by
            rw [HR.out, decide_eq_false_iff_not]
            intro e
            have h3 := HX.out
            rw [e, HY.out] at h3
            injection h3 with h3
            exact hxy (by rw [HMX.out, HMY.out, h3])
          clear hxy
          go_upto_region 6 with (fail)
          go_quiet (fail)
          go_wp2
          go_ret
          exact ⟨rfl, _, rfl⟩
      · obtain rfl : k = l := by omega
        have h2 := hall.out
        rw [List.take_of_length_le (by have := HL.out; omega), List.take_of_length_le (by have := HM.out; omega)] at h2
        obtain rfl : r = true := by rw [HR.out]; simp [h2]
        clear h2 hall
        go_wp2
        go_ret
        exact ⟨rfl, _, rfl⟩
  · have t3 : ((l : Int) != (m : Int)) = true := by rw [bne_iff_ne]; omega
    obtain rfl : r = false := by
      rw [HR.out]
      have : ¬ xs = ys := fun e => hlm (by rw [HL.out, HM.out, e])
      simp [this]
    clear hlm
    go_enter Try.func13, Try.ntmps13
    go_wp2
    go_ret
    exact ⟨rfl, 0, rfl⟩
end Go.Proofs.Ytpcpgmgpkegjlaa
