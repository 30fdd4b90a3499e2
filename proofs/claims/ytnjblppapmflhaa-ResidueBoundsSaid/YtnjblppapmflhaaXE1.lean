/- The reference: an absolute value times 2. -/
import Derived.Test.YtnjblppapmflhaaXC
namespace Go.Proofs.Ytnjblppapmflhaa
set_option linter.all false
open Go.RowKit Go.Shelf Go.WideNum
set_option maxRecDepth 100000 in
set_option maxHeartbeats 4000000 in
theorem hleft_any (A : Nat) (va : Value) (w : World) (hA : World.numH w va A) (hla : (hw A).length ≤ 4000) :
    Calls Try.prog 103 #[va, .int .i64 1] w (RawRet w (A * 2) ((hw A).length + 1)) := by
  obtain ⟨aa, p, ca, hp, rfl, hca, hma, hsa⟩ := numH_words hA
  clear hA
  have hva := hw_vlt A
  rw [← hp] at hla hva ⊢
  have HA := Lib.hid hsa
  have HVA := Lib.hid hva
  obtain ⟨HPOST, hpost⟩ : ∃ R, R = RawRet w (A * 2) (p + 1) := ⟨_, rfl⟩
  rw [← hpost]
  have HP := Lib.hid hpost
  clear hp hsa hva hpost
  have hmk : ∀ W : World, (Instr.makeSlice 22 (.int .i64 0) (.int .i64 0)).run Try.prog W = .ok (.slice (some ⟨W.heap.size, 0, none⟩) 0 0) (W.alloc (.cells (zrow 0) 23)) := fun W => make_u32 0 (by omega) W
  have hown0 : (w.alloc (.cells (zrow 0) 23)).owns w.heap.size 23 1 (.slice (some ⟨w.heap.size, 0, none⟩) 0 0) 0 (((List.range 0).map (dig 65536 (A * 2))).map u32V) := owns_zrow (l := 0) (base := w.heap.size) (heap_alloc_new w _) (Nat.le_refl _) (by omega) (by omega)
  have HO0 := Lib.hid hown0
  clear hown0
  go_enter Try.func103, Try.ntmps103
  go_wp2_with fail
  go_loopw [5, 6, 7] (fun sv cv iv wr => ∃ (i : Nat) (xa : Option Addr) (xc : Nat), i ≤ p ∧ iv = .int .i64 (i : Int) ∧ sv = .slice xa i xc ∧ cv = .int .u32 (carryM 65536 A 2 i : Int) ∧ Hid (wr.owns w.heap.size 23 1 (.slice xa i xc) i (((List.range i).map (dig 65536 (A * 2))).map u32V)) ∧ Hid (Below w.heap.size w wr)) (fun _ _ iv _ => p - (intOf iv).toNat)
  case atStart => exact ⟨0, _, _, Nat.zero_le _, rfl, rfl, by rw [carryM_zero]; rfl, HO0.out, (Below.refl _ w).alloc (Nat.le_refl _) _⟩
  case round =>
    obtain ⟨i, xa, xc, hi, rfl, rfl, rfl, hO, hB⟩ := hrel
    have hz := hB.out.size
    have hcl := carryM_lt (B := 65536) (by omega) A 2 i (by omega)
    by_cases hlt : i < p
    · obtain ⟨b, off, rfl, hbl, hx0⟩ := HA.out i hlt
      have hx : wr.cell? ⟨b, off + i, none⟩ = some (.int .u32 (dig 65536 A i : Int)) := (hB.out.cell (p := ⟨b, off + i, none⟩) hbl).trans hx0
      have HST := Lib.hid (mul_step (B := 65536) (by omega) A 2 i)
      have hd1 := hw_dig A i
      have hd3 := hw_dig (A * 2) i
      obtain ⟨x, ex⟩ : ∃ x, x = dig 65536 A i := ⟨_, rfl⟩
      obtain ⟨z, ez⟩ : ∃ x, x = dig 65536 (A * 2) i := ⟨_, rfl⟩
      obtain ⟨c, ec⟩ : ∃ x, x = carryM 65536 A 2 i := ⟨_, rfl⟩
      obtain ⟨d, ed⟩ : ∃ x, x = carryM 65536 A 2 (i + 1) := ⟨_, rfl⟩
      rw [← ex, ← ez, ← ec, ← ed] at HST
      rw [← ex] at hx hd1
      rw [← ez] at hd3
      rw [← ec] at hcl ⊢
      have EZ := Lib.hid ez
      have ED := Lib.hid ed
      obtain ⟨y, ey⟩ : ∃ y, y = 2 * x := ⟨_, rfl⟩
      have u1 : IntKind.u32.wrap ((x : Int) * 2) = (y : Int) := by rw [IntKind.wrap_u32]; omega
      have u2 : IntKind.u32.wrap ((x : Int) * 2 ^ 1) = (y : Int) := by rw [IntKind.wrap_u32]; omega
      have u3 : (x : Int) * 2 = (y : Int) := by omega
      have t1 : ((c : Int) + (y : Int)) % 65536 = (z : Int) := by have := HST.out; omega
      have t2 : ((c : Int) + (y : Int)) / 65536 = (d : Int) := by have := HST.out; omega
      have hy : y < 131072 := by omega
      clear ex ez ec ed hx0 ey
      go_wp2_with (at_builtin; refine app_u32 wr 22 Try.underlying22 rfl (.tmp 26) (.tmp 29) rfl w.heap.size (.slice xa i xc) i _ rfl hO.out (z : Int) wr.heap.size rfl rfl (by omega) hz ?_; intro v5 w5 hown5 hg5 hz5; have HO5 := Lib.hid hown5; obtain ⟨g5, q5, rfl⟩ := hown5.succ; have HB5 := Lib.hid (hB.out.trans (below_grown hO.out hg5 w.heap.size (Nat.le_refl _) hz)); clear hown5 hg5)
      go_roundw
      case rel =>
        refine ⟨i + 1, some ⟨g5, 0, none⟩, q5, by omega, by go_num, rfl, (by first | (rw [← ED.out, t2]; done) | rw [← ED.out]), ?_, HB5.out⟩
        show w5.owns _ _ _ _ _ _
        rw [List.range_succ, List.map_append, List.map_append]
        show w5.owns _ _ _ _ _ (_ ++ [u32V (dig 65536 (A * 2) i)])
        rw [← EZ.out]
        exact HO5.out
      case measure => simp [intOf]; omega
    · obtain rfl : i = p := by omega
      have hst := mul_step (B := 65536) (by omega) A 2 i
      have h2 : dig 65536 A i = 0 := dig_high (by omega) A i HVA.out
      have h3 : carryM 65536 A 2 (i + 1) = 0 := by
        unfold carryM
        rw [Nat.div_eq_of_lt]
        have h4 := Nat.lt_of_le_of_lt (Nat.mod_le A (65536 ^ (i + 1))) HVA.out
        have h5 := HVA.out
        have e1 : 65536 ^ (i + 1) = 65536 ^ i * 65536 := Nat.pow_succ ..
        generalize 65536 ^ (i + 1) = Q at *
        generalize 65536 ^ i = P at *
        omega
      rw [h2, h3] at hst
      obtain ⟨c, ec⟩ : ∃ x, x = carryM 65536 A 2 i := ⟨_, rfl⟩
      rw [← ec] at hst hcl ⊢
      have HC : Hid (c = dig 65536 (A * 2) i) := by show _ = _; omega
      clear hst h2 h3 ec
      go_wp2_with (at_builtin; refine app_u32 wr 22 Try.underlying22 rfl (.tmp 33) (.tmp 35) rfl w.heap.size (.slice xa i xc) i _ rfl hO.out (c : Int) wr.heap.size rfl rfl (by omega) hz ?_; intro v5 w5 hown5 hg5 hz5; have HO5 := Lib.hid hown5; have HB5 := Lib.hid (hB.out.trans (below_grown hO.out hg5 w.heap.size (Nat.le_refl _) hz)); clear hown5 hg5)
      rw [HP.out]
      refine ⟨v5, rfl, ?_, HB5.out⟩
      have h := HO5.out
      show World.reads _ _ _ _
      rw [List.range_succ, List.map_append, List.map_append]
      show World.reads _ _ _ (_ ++ [u32V (dig 65536 (A * 2) i)])
      rw [← HC.out]
      exact h.reads
end Go.Proofs.Ytnjblppapmflhaa
