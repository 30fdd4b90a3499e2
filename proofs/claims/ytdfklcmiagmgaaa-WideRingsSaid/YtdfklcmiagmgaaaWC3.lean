/- Walks: quotients and rests from zero on. -/
import Derived.Test.YtdfklcmiagmgaaaWC2
namespace Go.Proofs.Ytdfklcmiagmgaaa
set_option linter.all false
open Go.RowKit Go.Shelf Go.WideNum
theorem one_new (r : Nat) (hr : r < 4294967296) (h0 : r ≠ 0) (w : World) : World.numR (w.alloc (.cells #[.int .u32 (r : Int)] 47)) (.slice (some ⟨w.heap.size, 0, none⟩) 1 1) r := by
  have h1 := wd_len1 r h0 hr
  have hw : wd r = [r] := by
    apply List.ext_getElem?
    intro i
    cases i with
    | zero => rw [wd_get r 0 (by omega), h1.2]; rfl
    | succ i => rw [List.getElem?_eq_none (by omega)]; rfl
  unfold World.numR
  rw [hw]
  have := reads_alloc_new w [u32V r] 47 1 (by simp) (by unfold maxLen; omega)
  simpa [u32V] using this
theorem DivOK.run {A C : Nat} (h : DivOK A C) (va vb : Value) (w : World) (hA : World.numR w va A) (hC : World.numR w vb C) : Calls Try.prog 80 #[va, vb] w (DivRet w A C) := h va vb w hA hC
theorem numR_shape {w : World} {v : Value} {n : Nat} (h : World.numR w v n) : ∃ a c, v = .slice a (wd n).length c := by
  obtain ⟨a, c, rfl, -, -, -⟩ := reads_u32 h
  exact ⟨a, c, rfl⟩
theorem wd_pos {n : Nat} (h : n ≠ 0) : 0 < (wd n).length := by
  have := words_len0 (B := 4294967296) (by omega) n
  unfold wd; omega
set_option maxRecDepth 100000 in
set_option maxHeartbeats 4000000 in
theorem floor_any (A C : Nat) (an bn : Bool) (hC0 : C ≠ 0) (hD : DivOK A C) (hla : (wd A).length ≤ 1000) (hlc : (wd C).length ≤ 1000) (va vb : Value) (w : World) (hA : World.numR w va A) (hC : World.numR w vb C) :
    Calls Try.prog 68 #[va, .bool an, vb, .bool bn] w (FloorRet w A an C bn) := by
  obtain ⟨HPOST, hpost⟩ : ∃ R, R = FloorRet w A an C bn := ⟨_, rfl⟩
  rw [← hpost]
  have HP := Lib.hid hpost
  have HA : Hid (World.numR w va A) := hA
  have HC : Hid (World.numR w vb C) := hC
  have HD : Hid (DivOK A C) := hD
  clear hpost hD
  have hqlen : (wd (A / C)).length ≤ 1000 := by
    have h1 := wd_vlt A
    have h2 := words_length (B := 4294967296) (by omega) (A / C) (wd A).length (Nat.lt_of_le_of_lt (Nat.div_le_self A C) h1)
    unfold wd at *; omega
  have hrlen : (wd (A % C)).length ≤ 1000 := by
    have h1 := wd_vlt A
    have h2 := words_length (B := 4294967296) (by omega) (A % C) (wd A).length (Nat.lt_of_le_of_lt (Nat.mod_le A C) h1)
    unfold wd at *; omega
  have HQL := Lib.hid hqlen
  have HRL := Lib.hid hrlen
  have HLC := Lib.hid hlc
  have hrc : A % C ≤ C := Nat.le_of_lt (Nat.mod_lt A (by omega))
  have HRC := Lib.hid hrc
  obtain ⟨aa, ca, rfl⟩ := numR_shape hA
  obtain ⟨ab, cb, rfl⟩ := numR_shape hC
  clear hA hC hqlen hrlen hrc
  by_cases hcond : an = true ∧ A % C ≠ 0
  · obtain ⟨rfl, hr0⟩ := hcond
    have hrp := wd_pos hr0
    obtain ⟨Rl, hRl⟩ : ∃ Rl, Rl = (wd (A % C)).length := ⟨_, rfl⟩
    rw [← hRl] at hrp
    have hrp' : (0 : Int) < (Rl : Int) := by omega
    have HRL2 := Lib.hid hRl
    have HR0 := Lib.hid hr0
    clear hRl hr0
    go_enter Try.func68, Try.ntmps68
    go_wp2_with fail
    (with_reducible refine (HD.out.run _ _ w HA.out HC.out).mono ?_)
    rintro e w1 ⟨v, u, rfl, hq, hr, hb1⟩
    obtain ⟨va, vc, rfl⟩ := numR_shape hq
    obtain ⟨ua, uc, rfl⟩ := numR_shape hr
    rw [← HRL2.out] at hr ⊢
    have HQ : Hid (World.numR w1 (.slice va (wd (A / C)).length vc) (A / C)) := hq
    have HR : Hid (World.numR w1 (.slice ua Rl uc) (A % C)) := hr
    have HB1 := Lib.hid hb1
    clear hq hr hb1
    go_wp2_with fail
    have hb2 : Below w1.heap.size w1 (w1.alloc (.cells #[.int .u32 1] 47)) := (Below.refl _ _).alloc (Nat.le_refl _) _
    have hone : World.numR (w1.alloc (.cells #[.int .u32 1] 47)) (.slice (some ⟨w1.heap.size, 0, none⟩) 1 1) 1 := one_new 1 (by omega) (by omega) w1
    (with_reducible refine (plus_any (A / C) 1 _ _ _ (numR_below HQ.out hb2) hone (by have := HQL.out; omega) (by rw [(wd_len1 1 (by omega) (by omega)).1]; omega)).mono ?_)
    rintro e w3 hr3
    obtain ⟨v3, rfl, ho3, hb3⟩ := hr3
    have HR3 : Hid (NumRet _ (A / C + 1) (.returned v3) w3) := ⟨v3, rfl, ho3, hb3⟩
    have HB2 := Lib.hid hb2
    clear hone hb2 ho3 hb3
    have HB13 := Lib.hid (HB2.out.trans (HR3.out.bel.mono HB2.out.size))
    have HW13 := Lib.hid (HB1.out.trans (HB13.out.mono HB1.out.size))
    go_wp2_with fail
    (with_reducible refine (minus_any C (A % C) HRC.out _ _ _ (numR_below HC.out HW13.out) (numR_below HR.out HB13.out) (by have := HLC.out; omega) (by have := HRL.out; omega)).mono ?_)
    rintro e w4 hr4
    obtain ⟨v4, rfl, ho4, hb4⟩ := hr4
    have HR4 : Hid (NumRet w3 (C - A % C) (.returned v4) w4) := ⟨v4, rfl, ho4, hb4⟩
    clear ho4 hb4
    go_wp2
    rw [HP.out]
    refine bodyPost_ret (v := .tuple #[v3, .bool (true != bn), v4]) (by simp [results, Try.results68, go_sem]) rfl ⟨v3, v4, rfl, ?_, ?_, ?_⟩
    · rw [floorN, if_pos ⟨rfl, HR0.out⟩]
      exact numR_below HR3.out.numR HR4.out.bel
    · rw [floorR, if_pos ⟨rfl, HR0.out⟩]
      exact HR4.out.numR
    · exact HW13.out.trans (HR4.out.bel.mono HW13.out.size)
  · have hN : floorN A an C = A / C := by rw [floorN, if_neg hcond]
    have hR : floorR A an C = A % C := by rw [floorR, if_neg hcond]
    have HN := Lib.hid hN
    have HRR := Lib.hid hR
    obtain ⟨Rl, hRl⟩ : ∃ Rl, Rl = (wd (A % C)).length := ⟨_, rfl⟩
    have hcase : (an = false) ∨ (an = true ∧ Rl = 0) := by
      cases an with
      | false => exact Or.inl rfl
      | true =>
        refine Or.inr ⟨rfl, ?_⟩
        rw [hRl]
        have : A % C = 0 := by
          rcases Nat.eq_zero_or_pos (A % C) with h | h
          · exact h
          · exact absurd ⟨rfl, by omega⟩ hcond
        rw [this]; rfl
    have HRL2 := Lib.hid hRl
    clear hRl hN hR hcond
    rcases hcase with rfl | ⟨rfl, h0⟩
    · go_enter Try.func68, Try.ntmps68
      go_wp2_with fail
      (with_reducible refine (HD.out.run _ _ w HA.out HC.out).mono ?_)
      rintro e w1 ⟨v, u, rfl, hq, hr, hb1⟩
      obtain ⟨va, vc, rfl⟩ := numR_shape hq
      obtain ⟨ua, uc, rfl⟩ := numR_shape hr
      rw [← HRL2.out] at hr ⊢
      have HQ : Hid (World.numR w1 (.slice va (wd (A / C)).length vc) (A / C)) := hq
      have HR : Hid (World.numR w1 (.slice ua Rl uc) (A % C)) := hr
      have HB1 := Lib.hid hb1
      clear hq hr hb1
      go_wp2
      rw [HP.out]
      refine bodyPost_ret (v := .tuple #[.slice va (wd (A / C)).length vc, .bool (false != bn), .slice ua Rl uc]) (by simp [results, Try.results68, go_sem]) rfl ⟨_, _, rfl, ?_, ?_, HB1.out⟩
      · rw [HN.out]; exact HQ.out
      · rw [HRR.out]; exact HR.out
    · subst h0
      go_enter Try.func68, Try.ntmps68
      go_wp2_with fail
      (with_reducible refine (HD.out.run _ _ w HA.out HC.out).mono ?_)
      rintro e w1 ⟨v, u, rfl, hq, hr, hb1⟩
      obtain ⟨va, vc, rfl⟩ := numR_shape hq
      obtain ⟨ua, uc, rfl⟩ := numR_shape hr
      rw [← HRL2.out] at hr ⊢
      have HQ : Hid (World.numR w1 (.slice va (wd (A / C)).length vc) (A / C)) := hq
      have HR : Hid (World.numR w1 (.slice ua 0 uc) (A % C)) := hr
      have HB1 := Lib.hid hb1
      clear hq hr hb1
      go_wp2
      rw [HP.out]
      refine bodyPost_ret (v := .tuple #[.slice va (wd (A / C)).length vc, .bool (true != bn), .slice ua 0 uc]) (by simp [results, Try.results68, go_sem]) rfl ⟨_, _, rfl, ?_, ?_, HB1.out⟩
      · rw [HN.out]; exact HQ.out
      · rw [HRR.out]; exact HR.out
end Go.Proofs.Ytdfklcmiagmgaaa
