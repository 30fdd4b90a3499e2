/- Walks: the kit's functions on lists of strings. -/
import Derived.Test.YtjfmcobikadjhaaSPl
import Derived.Test.YtjfmcobikadjhaaProg
/- Walks: the small callers, and the kit's functions. -/
namespace Go.Proofs.Ytjfmcobikadjhaa
open Go.RowKit
theorem Long_any (l : List ByteArray) (m : Int) (hm : 0 ≤ m ∧ m ≤ 1000000) (hl : l.length ≤ 9223372036854775807) (v : Value) (w : World) (hr : w.reads w.heap.size v (l.map Value.string)) :
    Calls Try.prog 18 #[v, .int .i64 m] w fun e w' => e = .returned (.bool (longB l m)) ∧ w = w' := by
  obtain ⟨a, cap, rfl, _, _, _, hc⟩ := hr
  · simp only [List.length_map]
    have HC := Lib.hid hc
    clear hc
    go_enter Try.func18, Try.ntmps18
    go_wp2
    go_loop [1, 5] (fun t i => ∃ (k : Nat) (m' : Int), k ≤ l.length ∧ i = .int .i64 k ∧ t = .int .i64 m' ∧ 0 ≤ m' ∧ m' ≤ 1000000 ∧ longB (l.drop k) m' = longB l m) (fun _ i => l.length - (intOf i).toNat)
    case atStart => exact ⟨0, m, by omega, rfl, rfl, hm.1, hm.2, rfl⟩
    case round =>
      obtain ⟨k, m', hk, rfl, rfl, hm0, hm1, hlb⟩ := hrel
      have HL := Lib.hid hlb
      clear hlb
      by_cases hlt : k < l.length
      · obtain ⟨x, hx⟩ : ∃ x, l[k]? = some x := ⟨l[k], List.getElem?_eq_getElem hlt⟩
        obtain ⟨b, off, rfl, hb, hcell⟩ := HC.out k (.string x) (by simp [hx])
        have hld := Lib.hid (longB_drop l k x hx m')
        clear hx
        by_cases hge : m' ≤ (x.size : Int)
        · go_wp2
          go_ret
          refine ⟨?_, rfl⟩
          have h1 := hld.out
          rw [if_pos hge] at h1
          rw [← HL.out, h1]; rfl
        · go_wp2
          go_round
          case rel =>
            refine ⟨k + 1, m' - x.size - 1, by omega, by go_num, rfl, by omega, by omega, ?_⟩
            have h1 := hld.out
            rw [if_neg hge] at h1
            rw [← HL.out, h1]
          case measure => simp [intOf]; omega
      · go_wp2
        go_ret
        refine ⟨?_, rfl⟩
        rw [← HL.out, List.drop_eq_nil_of_le (by omega)]; rfl
theorem reads_shapeG {α : Type} {w : World} {B : Nat} {v : Value} {l : List α} {enc : α → Value} (h : w.reads B v (l.map enc)) :
    ∃ a cap, v = .slice a l.length cap ∧ ∀ j x, l[j]? = some x → ∃ b off, a = some ⟨b, off, none⟩ ∧ b < B ∧ w.cell? ⟨b, off + j, none⟩ = some (enc x) := by
  obtain ⟨a, cap, rfl, _, _, _, hc⟩ := h
  exact ⟨a, cap, by simp, fun j x hx => hc j _ (by simp [hx])⟩
theorem Same_any (l m : List ByteArray) (hl : l.length ≤ 9223372036854775807) (v u : Value) (w : World) (hr : w.reads w.heap.size v (l.map Value.string)) (hq : w.reads w.heap.size u (m.map Value.string)) :
    Calls Try.prog 17 #[v, u] w fun e w' => e = .returned (.bool (decide (l = m))) ∧ ∃ n, w' = w.drewN n := by
  have shape : ∀ (v : Value) (l : List ByteArray), w.reads w.heap.size v (l.map Value.string) → ∃ a cap, v = .slice a l.length cap ∧ ∀ j x, l[j]? = some x → ∃ b off, a = some ⟨b, off, none⟩ ∧ w.cell? ⟨b, off + j, none⟩ = some (.string x) := by
    intro v l h
    obtain ⟨a, cap, rfl, hc⟩ := reads_shapeG h
    exact ⟨a, cap, rfl, fun j x hx => by obtain ⟨b, off, h1, _, h2⟩ := hc j x hx; exact ⟨b, off, h1, h2⟩⟩
  obtain ⟨a, ca, rfl, ha⟩ := shape v l hr
  obtain ⟨b, cb, rfl, hb⟩ := shape u m hq
  have HA := Lib.hid ha
  have HB := Lib.hid hb
  clear ha hb shape hr hq
  by_cases hlen : l.length = m.length
  · have hne : ((l.length : Int) != (m.length : Int)) = false := by simp [hlen]
    have hl1 : l.length ≤ m.length := by omega
    have hl2 : m.length ≤ l.length := by omega
    have HL := Lib.hid hlen
    clear hlen
    go_enter Try.func17, Try.ntmps17
    go_wp2
    go_loopw [5] (fun i wx => ∃ k : Nat, k ≤ l.length ∧ i = .int .i64 k ∧ l.take k = m.take k ∧ ∃ n, wx = w.drewN n) (fun i _ => l.length - (intOf i).toNat)
    case atStart => exact ⟨0, by omega, rfl, by simp, 0, rfl⟩
    case round =>
      obtain ⟨k, hk, rfl, htk, n, rfl⟩ := hrel
      have HT := Lib.hid htk
      clear htk
      by_cases hlt : k < l.length
      · obtain ⟨x, hx⟩ : ∃ x, l[k]? = some x := ⟨l[k], List.getElem?_eq_getElem hlt⟩
        obtain ⟨y, hy⟩ : ∃ y, m[k]? = some y := ⟨m[k]'(by omega), List.getElem?_eq_getElem (by omega)⟩
        have hi1 : (k : Int) < (l.length : Int) := by omega
        have hi2 : (k : Int) < (m.length : Int) := by omega
        have hi0 : (0 : Int) ≤ (k : Int) := by omega
        obtain ⟨b1, o1, rfl, hc1⟩ := HA.out k x hx
        obtain ⟨b2, o2, rfl, hc2⟩ := HB.out k y hy
        have HX := Lib.hid hx
        have HY := Lib.hid hy
        clear hx hy
        by_cases hxy : x = y
        · have hs := str_beq x y hxy
          have HE := Lib.hid hxy
          clear hxy
          go_wp2
          refine wp_region_quiet_at (by kernel_rfl) (by kernel_rfl) ?_
          repeat (go_big_quiet_step (fail))
          refine wpQuiet_nil ?_
          rintro _ ⟨nq, rfl⟩
          go_wp2
          go_roundw
          case rel =>
            refine ⟨k + 1, by omega, by go_num, ?_, _, rfl⟩
            rw [take_snoc' _ _ _ HX.out, take_snoc' _ _ _ HY.out, HT.out, HE.out]
          case measure => simp [intOf]; omega
        · have hs := str_bne x y hxy
          go_wp2
          refine wp_region_quiet_at (by kernel_rfl) (by kernel_rfl) ?_
          repeat (go_big_quiet_step (fail))
          refine wpQuiet_nil ?_
          rintro _ ⟨nq, rfl⟩
          go_wp2
          go_ret
          refine ⟨?_, _, rfl⟩
          have hlm : l ≠ m := by
            intro h
            have h1 := HX.out
            rw [h, HY.out] at h1
            exact hxy (Option.some.inj h1).symm
          simp [hlm]
      · go_wp2
        go_ret
        refine ⟨?_, _, rfl⟩
        have h1 := HT.out
        rw [List.take_of_length_le (by omega), List.take_of_length_le (by omega)] at h1
        simp [h1]
  · have hne : ((l.length : Int) != (m.length : Int)) = true := by simp; omega
    go_enter Try.func17, Try.ntmps17
    go_wp2
    go_ret
    exact ⟨by simp; intro h; exact hlen (by rw [h]), 0, rfl⟩
end Go.Proofs.Ytjfmcobikadjhaa
