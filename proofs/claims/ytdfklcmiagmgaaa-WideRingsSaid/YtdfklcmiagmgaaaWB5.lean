/- Walks: the number of bits of a word. -/
import Derived.Lib.Strings
import Derived.Lib.Slices
import Derived.Lib.Small
import Derived.Lib.Walk
import Derived.Lib.BitFns
import Derived.Test.YtdfklcmiagmgaaaWB4
namespace Go.Proofs.Ytdfklcmiagmgaaa
set_option linter.all false
open Go.RowKit Go.Shelf Go.WideNum
theorem bitLen_bounds : ∀ (f x : Nat), x < 2 ^ f → x < 2 ^ Lib.bitLenAux f x ∧ (x ≠ 0 → 2 ^ Lib.bitLenAux f x ≤ 2 * x) ∧ Lib.bitLenAux f x ≤ f
  | 0, x, h => by
    have : x = 0 := by simpa using h
    subst this
    simp [Lib.bitLenAux]
  | f + 1, x, h => by
    unfold Lib.bitLenAux
    by_cases h0 : x = 0
    · subst h0; simp
    · rw [if_neg h0]
      obtain ⟨h1, h2, h3⟩ := bitLen_bounds f (x / 2) (by rw [Nat.pow_succ] at h; omega)
      rw [Nat.add_comm 1, Nat.pow_succ]
      refine ⟨by omega, fun _ => ?_, by omega⟩
      by_cases hx : x / 2 = 0
      · have : x = 1 := by omega
        subst this
        cases f <;> simp [Lib.bitLenAux]
      · have := h2 hx; omega
/-- How many bits a word has. -/
theorem bitLen_spec (x : Nat) (h : x < 4294967296) : x < 2 ^ Lib.bitLen x ∧ (x ≠ 0 → 2 ^ Lib.bitLen x ≤ 2 * x) ∧ Lib.bitLen x ≤ 32 := by
  have h1 := bitLen_bounds 64 x (by omega)
  refine ⟨h1.1, h1.2.1, ?_⟩
  unfold Lib.bitLen
  rw [Lib.bitLenAux_fuel 32 x (by omega) 64 (by omega)]
  exact (bitLen_bounds 32 x (by omega)).2.2
theorem idx8 (t : TypeId) (h : Try.prog.underlying t = some .string) (y : Nat) (hy : y ≤ 255) (w : World) : (Instr.index t (.string Lib.len8tab) (.int .u8 (y : Int))).run Try.prog w = .ok (.int .u8 (Lib.bitLen y : Int)) w := by
  rw [Lib.run_index_len8tab w t .u8 (y : Int) h (by omega) (by omega), Lib.len8_of (y : Int) (by omega) (by omega), Int.toNat_natCast]

theorem shr_facts (x : Nat) (h1 : x < 4294967296) : ∃ y k : Nat, y ≤ 255 ∧ Lib.bitLen x = k + Lib.bitLen y ∧
    ((x < 256 ∧ y = x ∧ k = 0) ∨ (256 ≤ x ∧ x < 65536 ∧ y = x / 256 ∧ k = 8) ∨ (65536 ≤ x ∧ x < 16777216 ∧ y = x / 65536 ∧ k = 16) ∨ (16777216 ≤ x ∧ y = x / 65536 / 256 ∧ k = 24)) := by
  by_cases a : x < 256
  · exact ⟨x, 0, by omega, by omega, by omega⟩
  · by_cases b : x < 65536
    · exact ⟨x / 256, 8, by omega, Lib.bitLen_shift8 x (by omega) (by omega), by omega⟩
    · by_cases c : x < 16777216
      · exact ⟨x / 65536, 16, by omega, Lib.bitLen_shift16 x (by omega) (by omega), by omega⟩
      · refine ⟨x / 65536 / 256, 24, by omega, ?_, by omega⟩
        have := Lib.bitLen_shift24 x (by omega) (by omega)
        rw [this, Nat.div_div_eq_div_mul]
set_option maxHeartbeats 4000000 in
set_option maxRecDepth 100000 in
theorem Len32_any (x : Nat) (w : World) (h1 : x < 4294967296) :
    Calls Try.prog 82 #[.int .u32 (x : Int)] w fun e w' => e = .returned (.int .i64 (Lib.bitLen x : Int)) ∧ w = w' := by
  obtain ⟨y, k, hy, hb, hc⟩ := shr_facts x h1
  have l8 := Lib.bitLen_le8' (y : Int) (by omega) (by omega)
  rw [Int.toNat_natCast] at l8
  have hidx := idx8 9 (by kernel_rfl) y hy
  obtain ⟨L, hL⟩ : ∃ L, L = Lib.bitLen y := ⟨_, rfl⟩
  rw [← hL] at l8 hidx hb
  have HB := Lib.hid hb
  obtain ⟨R, hR⟩ : ∃ R, R = Lib.bitLen x := ⟨_, rfl⟩
  rw [← hR] at HB ⊢
  have HR := Lib.hid hR
  have e8 : (L : Int) % 256 = (L : Int) := by omega
  clear hb hL hR
  rcases hc with ⟨c1, c2, rfl⟩ | ⟨c0, c1, c2, rfl⟩ | ⟨c0, c1, c2, rfl⟩ | ⟨c1, c2, rfl⟩
  · have t1 : ¬ (65536 : Int) ≤ (x : Int) := by omega
    have t2 : ¬ (256 : Int) ≤ (x : Int) := by omega
    subst c2
    obtain rfl : R = L := by have := HB.out; omega
    go_enter Try.func82, Try.ntmps82
    go_wp2
    go_ret
    exact ⟨rfl, rfl⟩
  · have t1 : ¬ (65536 : Int) ≤ (x : Int) := by omega
    have t2 : (256 : Int) ≤ (x : Int) := by omega
    have t3 : (x : Int) / 256 = (y : Int) := by omega
    have hre : R = 8 + L := HB.out
    subst hre
    clear c2
    go_enter Try.func82, Try.ntmps82
    go_wp2
    go_ret
    exact ⟨rfl, rfl⟩
  · have t1 : (65536 : Int) ≤ (x : Int) := by omega
    have t3 : (x : Int) / 65536 = (y : Int) := by omega
    have t2 : ¬ (256 : Int) ≤ (y : Int) := by omega
    have hre : R = 16 + L := HB.out
    subst hre
    clear c2
    go_enter Try.func82, Try.ntmps82
    go_wp2
    go_ret
    exact ⟨rfl, rfl⟩
  · have t1 : (65536 : Int) ≤ (x : Int) := by omega
    have t2 : (256 : Int) ≤ (x : Int) / 65536 := by omega
    have t3 : (x : Int) / 65536 / 256 = (y : Int) := by omega
    have hre : R = 24 + L := HB.out
    subst hre
    clear c2
    go_enter Try.func82, Try.ntmps82
    go_wp2
    go_ret
    exact ⟨rfl, rfl⟩
theorem lz_any (x : Nat) (w : World) (h1 : x < 4294967296) :
    Calls Try.prog 74 #[.int .u32 (x : Int)] w fun e w' => e = .returned (.int .i64 (((32 - Lib.bitLen x : Nat)) : Int)) ∧ w = w' := by
  have l := (bitLen_spec x h1).2.2
  obtain ⟨L, hL⟩ : ∃ L, L = Lib.bitLen x := ⟨_, rfl⟩
  rw [← hL] at l ⊢
  rw [show ((32 - L : Nat) : Int) = 32 - (L : Int) by omega]
  have HL := Lib.hid hL
  clear hL
  have hc := fun w => Len32_any x w h1
  go_enter Try.func74, Try.ntmps74
  go_wp2_with (go_at_call 82; refine (hc _).mono ?_; rw [← HL.out]; rintro e w' ⟨rfl, rfl⟩)
  go_ret
  exact ⟨rfl, rfl⟩
end Go.Proofs.Ytdfklcmiagmgaaa
