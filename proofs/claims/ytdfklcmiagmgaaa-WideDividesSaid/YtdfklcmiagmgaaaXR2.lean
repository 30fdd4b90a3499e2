/- The reference's numbers: sums and differences. -/
import Derived.Test.YtdfklcmiagmgaaaXR1
namespace Go.Proofs.Ytdfklcmiagmgaaa
set_option linter.all false
open Go.RowKit Go.Shelf Go.WideNum
/-- Where the words of a sum end. -/
theorem sum_more (A C i : Nat) : i < (hw (A + C)).length ↔ (i < (hw A).length ∨ i < (hw C).length ∨ 0 < carry 65536 A C i) := by
  constructor
  · intro h
    by_cases h1 : i < (hw A).length
    · exact .inl h1
    by_cases h2 : i < (hw C).length
    · exact .inr (.inl h2)
    refine .inr (.inr ?_)
    have e1 := Nat.lt_of_lt_of_le (hw_vlt A) (Nat.pow_le_pow_right (show 0 < 65536 by omega) (Nat.le_of_not_lt h1))
    have e2 := Nat.lt_of_lt_of_le (hw_vlt C) (Nat.pow_le_pow_right (show 0 < 65536 by omega) (Nat.le_of_not_lt h2))
    unfold carry
    rw [Nat.mod_eq_of_lt e1, Nat.mod_eq_of_lt e2]
    exact Nat.div_pos (hw_len_ge h) (Nat.pow_pos (by omega))
  · intro h
    rcases Nat.lt_or_ge i (hw (A + C)).length with h1 | h1
    · exact h1
    have e := Nat.lt_of_lt_of_le (hw_vlt (A + C)) (Nat.pow_le_pow_right (show 0 < 65536 by omega) h1)
    rcases h with h | h | h
    · have := hw_len_ge h; omega
    · have := hw_len_ge h; omega
    · have h2 : 65536 ^ i ≤ A % 65536 ^ i + C % 65536 ^ i := by
        rcases Nat.lt_or_ge (A % 65536 ^ i + C % 65536 ^ i) (65536 ^ i) with h3 | h3
        · unfold carry at h; rw [Nat.div_eq_of_lt h3] at h; omega
        · exact h3
      have h3 := Nat.mod_le A (65536 ^ i)
      have h4 := Nat.mod_le C (65536 ^ i)
      omega
set_option maxRecDepth 100000 in
set_option maxHeartbeats 4000000 in
theorem hplus_any (A C : Nat) (va vb : Value) (w : World) (hA : World.numH w va A) (hC : World.numH w vb C) (hla : (hw A).length ≤ 4000) (hlc : (hw C).length ≤ 4000) :
    Calls Try.prog 77 #[va, vb] w (HRet w (A + C)) := by
  obtain ⟨aa, p, ca, hp, rfl, hca, hma, hsa⟩ := numH_words hA
  obtain ⟨ab, q, cb, hq, rfl, hcb, hmb, hsb⟩ := numH_words hC
  clear hA hC
  rw [← hp] at hla
  rw [← hq] at hlc
  have HA := Lib.hid hsa
  have HC := Lib.hid hsb
  have HZA : Hid (∀ k, p ≤ k → dig 65536 A k = 0) := fun k hk => hw_high A k (by omega)
  have HZC : Hid (∀ k, q ≤ k → dig 65536 C k = 0) := fun k hk => hw_high C k (by omega)
  obtain ⟨L, hL⟩ : ∃ L, L = (hw (A + C)).length := ⟨_, rfl⟩
  have HMO : Hid (∀ i, i < L ↔ (i < p ∨ i < q ∨ 0 < carry 65536 A C i)) := fun i => by rw [hL, hp, hq]; exact sum_more A C i
  have HL := Lib.hid hL
  have hL2 : L ≤ 4001 := by
    obtain ⟨K, hK⟩ : ∃ K, K = 4000 := ⟨_, rfl⟩
    have e1 := Nat.lt_of_lt_of_le (hw_vlt A) (Nat.pow_le_pow_right (show 0 < 65536 by omega) (show (hw A).length ≤ K by omega))
    have e2 := Nat.lt_of_lt_of_le (hw_vlt C) (Nat.pow_le_pow_right (show 0 < 65536 by omega) (show (hw C).length ≤ K by omega))
    have h3 : A + C < 65536 ^ (K + 1) := by
      rw [Nat.pow_succ]
      generalize 65536 ^ K = P at *
      omega
    have := hw_len_le h3
    omega
  clear hp hq hsa hsb hL
  obtain ⟨HPOST, hpost⟩ : ∃ R, R = HRet w (A + C) := ⟨_, rfl⟩
  rw [← hpost]
  have HP := Lib.hid hpost
  clear hpost
  go_enter Try.func77, Try.ntmps77
  go_wp2_with fail
  go_loopw [5, 6, 7] (fun sv cv iv wr => ∃ (i : Nat) (xa : Option Addr) (xc : Nat), i ≤ L ∧ iv = .int .i64 (i : Int) ∧ sv = .slice xa i xc ∧ cv = .int .u32 (carry 65536 A C i : Int) ∧ Hid (wr.owns w.heap.size 47 1 (.slice xa i xc) i (((List.range i).map (dig 65536 (A + C))).map u32V)) ∧ Hid (Below w.heap.size w wr)) (fun _ _ iv _ => L - (intOf iv).toNat)
  case atStart => exact ⟨0, none, 0, Nat.zero_le _, rfl, rfl, by rw [carry_zero]; rfl, owns_nil _ _ _, Below.refl _ w⟩
  case round =>
    obtain ⟨i, xa, xc, hi, rfl, rfl, rfl, hO, hB⟩ := hrel
    have hz := hB.out.size
    have hmo := HMO.out i
    have HST := Lib.hid (add_step (B := 65536) (by omega) A C i)
    have hd1 := hw_dig A i
    have hd2 := hw_dig C i
    have hd3 := hw_dig (A + C) i
    have hc1 := carry_le (B := 65536) (by omega) A C i
    have hc2 := carry_le (B := 65536) (by omega) A C (i + 1)
    obtain ⟨x, ex⟩ : ∃ x, x = dig 65536 A i := ⟨_, rfl⟩
    obtain ⟨y, ey⟩ : ∃ x, x = dig 65536 C i := ⟨_, rfl⟩
    obtain ⟨z, ez⟩ : ∃ x, x = dig 65536 (A + C) i := ⟨_, rfl⟩
    obtain ⟨c, ec⟩ : ∃ x, x = carry 65536 A C i := ⟨_, rfl⟩
    obtain ⟨d, ed⟩ : ∃ x, x = carry 65536 A C (i + 1) := ⟨_, rfl⟩
    rw [← ex, ← ey, ← ez, ← ec, ← ed] at HST
    rw [← ex] at hd1
    rw [← ey] at hd2
    rw [← ez] at hd3
    rw [← ec] at hc1 hmo ⊢
    rw [← ed] at hc2
    have EX := Lib.hid ex
    have EY := Lib.hid ey
    have EZ := Lib.hid ez
    have ED := Lib.hid ed
    clear ex ey ez ec ed
    by_cases hlt : i < L
    · have hor := hmo.1 hlt
      clear hmo
      by_cases hip : i < p
      · obtain ⟨b, off, rfl, hbl, hx0⟩ := HA.out i hip
        have hx : wr.cell? ⟨b, off + i, none⟩ = some (.int .u32 (x : Int)) := (hB.out.cell (p := ⟨b, off + i, none⟩) hbl).trans (by rw [hx0, EX.out])
        have hip' : (i : Int) < (p : Int) := by omega
        clear hx0 hor
        by_cases hiq : i < q
        · obtain ⟨b2, off2, rfl, hbl2, hy0⟩ := HC.out i hiq
          have hy : wr.cell? ⟨b2, off2 + i, none⟩ = some (.int .u32 (y : Int)) := (hB.out.cell (p := ⟨b2, off2 + i, none⟩) hbl2).trans (by rw [hy0, EY.out])
          have hiq' : (i : Int) < (q : Int) := by omega
          have t1 : ((c : Int) + (x : Int) + (y : Int)) % 65536 = (z : Int) := by have := HST.out; omega
          have t2 : ((c : Int) + (x : Int) + (y : Int)) / 65536 = (d : Int) := by have := HST.out; omega
          clear hy0
          go_wp2_with (at_builtin; refine app_u32 wr 57 Try.underlying57 rfl (.tmp 44) (.tmp 47) rfl w.heap.size (.slice xa i xc) i _ rfl hO.out (z : Int) wr.heap.size rfl rfl (by omega) hz ?_; intro v5 w5 hown5 hg5 hz5; have HO5 := Lib.hid hown5; obtain ⟨g5, q5, rfl⟩ := hown5.succ; have HB5 := Lib.hid (hB.out.trans (below_grown hO.out hg5 w.heap.size (Nat.le_refl _) hz)); clear hown5 hg5)
          go_roundw
          case rel =>
            refine ⟨i + 1, _, q5, by omega, by go_num, rfl, (by first | (rw [← ED.out, t2]; done) | rw [← ED.out]), ?_, HB5.out⟩
            show w5.owns _ _ _ _ _ _
            rw [List.range_succ, List.map_append, List.map_append]
            show w5.owns _ _ _ _ _ (_ ++ [u32V (dig 65536 (A + C) i)])
            rw [← EZ.out]
            exact HO5.out
          case measure => simp [intOf]; omega
        · have hiq' : ¬ (i : Int) < (q : Int) := by omega
          have hy0 : y = 0 := by rw [EY.out]; exact HZC.out i (by omega)
          have t1 : ((c : Int) + (x : Int)) % 65536 = (z : Int) := by have := HST.out; omega
          have t2 : ((c : Int) + (x : Int)) / 65536 = (d : Int) := by have := HST.out; omega
          clear hy0
          go_wp2_with (at_builtin; refine app_u32 wr 57 Try.underlying57 rfl (.tmp 44) (.tmp 47) rfl w.heap.size (.slice xa i xc) i _ rfl hO.out (z : Int) wr.heap.size rfl rfl (by omega) hz ?_; intro v5 w5 hown5 hg5 hz5; have HO5 := Lib.hid hown5; obtain ⟨g5, q5, rfl⟩ := hown5.succ; have HB5 := Lib.hid (hB.out.trans (below_grown hO.out hg5 w.heap.size (Nat.le_refl _) hz)); clear hown5 hg5)
          go_roundw
          case rel =>
            refine ⟨i + 1, _, q5, by omega, by go_num, rfl, (by first | (rw [← ED.out, t2]; done) | rw [← ED.out]), ?_, HB5.out⟩
            show w5.owns _ _ _ _ _ _
            rw [List.range_succ, List.map_append, List.map_append]
            show w5.owns _ _ _ _ _ (_ ++ [u32V (dig 65536 (A + C) i)])
            rw [← EZ.out]
            exact HO5.out
          case measure => simp [intOf]; omega
      · have hip' : ¬ (i : Int) < (p : Int) := by omega
        have hx0 : x = 0 := by rw [EX.out]; exact HZA.out i (by omega)
        by_cases hiq : i < q
        · obtain ⟨b2, off2, rfl, hbl2, hy0⟩ := HC.out i hiq
          have hy : wr.cell? ⟨b2, off2 + i, none⟩ = some (.int .u32 (y : Int)) := (hB.out.cell (p := ⟨b2, off2 + i, none⟩) hbl2).trans (by rw [hy0, EY.out])
          have hiq' : (i : Int) < (q : Int) := by omega
          have t1 : ((c : Int) + (y : Int)) % 65536 = (z : Int) := by have := HST.out; omega
          have t2 : ((c : Int) + (y : Int)) / 65536 = (d : Int) := by have := HST.out; omega
          clear hy0 hx0 hor
          go_wp2_with (at_builtin; refine app_u32 wr 57 Try.underlying57 rfl (.tmp 44) (.tmp 47) rfl w.heap.size (.slice xa i xc) i _ rfl hO.out (z : Int) wr.heap.size rfl rfl (by omega) hz ?_; intro v5 w5 hown5 hg5 hz5; have HO5 := Lib.hid hown5; obtain ⟨g5, q5, rfl⟩ := hown5.succ; have HB5 := Lib.hid (hB.out.trans (below_grown hO.out hg5 w.heap.size (Nat.le_refl _) hz)); clear hown5 hg5)
          go_roundw
          case rel =>
            refine ⟨i + 1, _, q5, by omega, by go_num, rfl, (by first | (rw [← ED.out, t2]; done) | rw [← ED.out]), ?_, HB5.out⟩
            show w5.owns _ _ _ _ _ _
            rw [List.range_succ, List.map_append, List.map_append]
            show w5.owns _ _ _ _ _ (_ ++ [u32V (dig 65536 (A + C) i)])
            rw [← EZ.out]
            exact HO5.out
          case measure => simp [intOf]; omega
        · have hiq' : ¬ (i : Int) < (q : Int) := by omega
          have hy0 : y = 0 := by rw [EY.out]; exact HZC.out i (by omega)
          have hc0 : 0 < c := by omega
          have t0 : (0 : Int) < (c : Int) := by omega
          have t1 : (c : Int) % 65536 = (z : Int) := by have := HST.out; omega
          have t2 : (c : Int) / 65536 = (d : Int) := by have := HST.out; omega
          clear hy0 hx0 hor
          go_wp2_with (at_builtin; refine app_u32 wr 57 Try.underlying57 rfl (.tmp 44) (.tmp 47) rfl w.heap.size (.slice xa i xc) i _ rfl hO.out (z : Int) wr.heap.size rfl rfl (by omega) hz ?_; intro v5 w5 hown5 hg5 hz5; have HO5 := Lib.hid hown5; obtain ⟨g5, q5, rfl⟩ := hown5.succ; have HB5 := Lib.hid (hB.out.trans (below_grown hO.out hg5 w.heap.size (Nat.le_refl _) hz)); clear hown5 hg5)
          go_roundw
          case rel =>
            refine ⟨i + 1, _, q5, by omega, by go_num, rfl, (by first | (rw [← ED.out, t2]; done) | rw [← ED.out]), ?_, HB5.out⟩
            show w5.owns _ _ _ _ _ _
            rw [List.range_succ, List.map_append, List.map_append]
            show w5.owns _ _ _ _ _ (_ ++ [u32V (dig 65536 (A + C) i)])
            rw [← EZ.out]
            exact HO5.out
          case measure => simp [intOf]; omega
    · obtain rfl : i = L := by omega
      have hip' : ¬ (i : Int) < (p : Int) := fun h => hlt (hmo.2 (.inl (by omega)))
      have hiq' : ¬ (i : Int) < (q : Int) := fun h => hlt (hmo.2 (.inr (.inl (by omega))))
      have hc0 : c = 0 := by
        rcases Nat.eq_zero_or_pos c with h | h
        · exact h
        · exact absurd (hmo.2 (.inr (.inr h))) hlt
      have t0 : ¬ (0 : Int) < (c : Int) := by omega
      clear hc0 hmo
      go_wp2
      rw [HP.out]
      exact ⟨_, rfl, rawH_num hO.out.reads HL.out, hB.out⟩
set_option maxRecDepth 100000 in
set_option maxHeartbeats 4000000 in
theorem hminus_any (A C : Nat) (hAC : C ≤ A) (va vb : Value) (w : World) (hA : World.numH w va A) (hC : World.numH w vb C) (hla : (hw A).length ≤ 4000) (hlc : (hw C).length ≤ 4000) :
    Calls Try.prog 79 #[va, vb] w (RawRet w (A - C) (hw A).length) := by
  obtain ⟨aa, p, ca, hp, rfl, hca, hma, hsa⟩ := numH_words hA
  obtain ⟨ab, q, cb, hq, rfl, hcb, hmb, hsb⟩ := numH_words hC
  clear hA hC
  rw [← hp] at hla ⊢
  rw [← hq] at hlc
  obtain ⟨D, rfl⟩ : ∃ D, A = C + D := ⟨A - C, by omega⟩
  rw [show C + D - C = D by omega]
  clear hAC
  have HA := Lib.hid hsa
  have HC := Lib.hid hsb
  have HZC : Hid (∀ k, q ≤ k → dig 65536 C k = 0) := fun k hk => hw_high C k (by omega)
  clear hp hq hsa hsb
  obtain ⟨HPOST, hpost⟩ : ∃ R, R = RawRet w D p := ⟨_, rfl⟩
  rw [← hpost]
  have HP := Lib.hid hpost
  clear hpost
  go_enter Try.func79, Try.ntmps79
  go_wp2_with fail
  go_loopw [5, 6, 7] (fun sv cv iv wr => ∃ (i : Nat) (xa : Option Addr) (xc : Nat), i ≤ p ∧ iv = .int .i64 (i : Int) ∧ sv = .slice xa i xc ∧ cv = .int .u32 (carry 65536 C D i : Int) ∧ Hid (wr.owns w.heap.size 47 1 (.slice xa i xc) i (((List.range i).map (dig 65536 D)).map u32V)) ∧ Hid (Below w.heap.size w wr)) (fun _ _ iv _ => p - (intOf iv).toNat)
  case atStart => exact ⟨0, none, 0, Nat.zero_le _, rfl, rfl, by rw [carry_zero]; rfl, owns_nil _ _ _, Below.refl _ w⟩
  case round =>
    obtain ⟨i, xa, xc, hi, rfl, rfl, rfl, hO, hB⟩ := hrel
    have hz := hB.out.size
    by_cases hlt : i < p
    · have HST := Lib.hid (add_step (B := 65536) (by omega) C D i)
      have hd1 := hw_dig (C + D) i
      have hd2 := hw_dig C i
      have hd3 := hw_dig D i
      have hc1 := carry_le (B := 65536) (by omega) C D i
      have hc2 := carry_le (B := 65536) (by omega) C D (i + 1)
      obtain ⟨b, off, rfl, hbl, hx0⟩ := HA.out i hlt
      obtain ⟨x, ex⟩ : ∃ x, x = dig 65536 (C + D) i := ⟨_, rfl⟩
      obtain ⟨y, ey⟩ : ∃ x, x = dig 65536 C i := ⟨_, rfl⟩
      obtain ⟨z, ez⟩ : ∃ x, x = dig 65536 D i := ⟨_, rfl⟩
      obtain ⟨c, ec⟩ : ∃ x, x = carry 65536 C D i := ⟨_, rfl⟩
      obtain ⟨d, ed⟩ : ∃ x, x = carry 65536 C D (i + 1) := ⟨_, rfl⟩
      rw [← ex, ← ey, ← ez, ← ec, ← ed] at HST
      rw [← ex] at hd1 hx0
      rw [← ey] at hd2
      rw [← ez] at hd3
      rw [← ec] at hc1 ⊢
      rw [← ed] at hc2
      have EY := Lib.hid ey
      have EZ := Lib.hid ez
      have ED := Lib.hid ed
      have hx : wr.cell? ⟨b, off + i, none⟩ = some (.int .u32 (x : Int)) := (hB.out.cell (p := ⟨b, off + i, none⟩) hbl).trans hx0
      clear ex ey ez ec ed hx0
      by_cases hiq : i < q
      · obtain ⟨b2, off2, rfl, hbl2, hy0⟩ := HC.out i hiq
        have hy : wr.cell? ⟨b2, off2 + i, none⟩ = some (.int .u32 (y : Int)) := (hB.out.cell (p := ⟨b2, off2 + i, none⟩) hbl2).trans (by rw [hy0, EY.out])
        have hiq' : (i : Int) < (q : Int) := by omega
        clear hy0
        rcases (show d = 0 ∨ d = 1 by omega) with rfl | rfl
        · have t1 : decide ((x : Int) < (c : Int) + (y : Int)) = false := decide_eq_false (by have := HST.out; omega)
          have t1' : ¬ (x : Int) < (c : Int) + (y : Int) := by have := HST.out; omega
          have t2 : (x : Int) - ((c : Int) + (y : Int)) = (z : Int) := by have := HST.out; omega
          go_wp2_with (at_builtin; refine app_u32 wr 57 Try.underlying57 rfl (.tmp 36) (.tmp 40) rfl w.heap.size (.slice xa i xc) i _ rfl hO.out (z : Int) wr.heap.size rfl rfl (by omega) hz ?_; intro v5 w5 hown5 hg5 hz5; have HO5 := Lib.hid hown5; obtain ⟨g5, q5, rfl⟩ := hown5.succ; have HB5 := Lib.hid (hB.out.trans (below_grown hO.out hg5 w.heap.size (Nat.le_refl _) hz)); clear hown5 hg5)
          go_roundw
          case rel =>
            refine ⟨i + 1, _, q5, by omega, by go_num, rfl, (by rw [← ED.out]; rfl), ?_, HB5.out⟩
            show w5.owns _ _ _ _ _ _
            rw [List.range_succ, List.map_append, List.map_append]
            show w5.owns _ _ _ _ _ (_ ++ [u32V (dig 65536 D i)])
            rw [← EZ.out]
            exact HO5.out
          case measure => simp [intOf]; omega
        · have t1 : decide ((x : Int) < (c : Int) + (y : Int)) = true := decide_eq_true (by have := HST.out; omega)
          have t1' : (x : Int) < (c : Int) + (y : Int) := by have := HST.out; omega
          have t2 : (x : Int) + 65536 - ((c : Int) + (y : Int)) = (z : Int) := by have := HST.out; omega
          go_wp2_with (at_builtin; refine app_u32 wr 57 Try.underlying57 rfl (.tmp 36) (.tmp 40) rfl w.heap.size (.slice xa i xc) i _ rfl hO.out (z : Int) wr.heap.size rfl rfl (by omega) hz ?_; intro v5 w5 hown5 hg5 hz5; have HO5 := Lib.hid hown5; obtain ⟨g5, q5, rfl⟩ := hown5.succ; have HB5 := Lib.hid (hB.out.trans (below_grown hO.out hg5 w.heap.size (Nat.le_refl _) hz)); clear hown5 hg5)
          go_roundw
          case rel =>
            refine ⟨i + 1, _, q5, by omega, by go_num, rfl, (by rw [← ED.out]; rfl), ?_, HB5.out⟩
            show w5.owns _ _ _ _ _ _
            rw [List.range_succ, List.map_append, List.map_append]
            show w5.owns _ _ _ _ _ (_ ++ [u32V (dig 65536 D i)])
            rw [← EZ.out]
            exact HO5.out
          case measure => simp [intOf]; omega
      · have hiq' : ¬ (i : Int) < (q : Int) := by omega
        have hy0 : y = 0 := by rw [EY.out]; exact HZC.out i (by omega)
        subst hy0
        rcases (show d = 0 ∨ d = 1 by omega) with rfl | rfl
        · have t1 : decide ((x : Int) < (c : Int)) = false := decide_eq_false (by have := HST.out; omega)
          have t1' : ¬ (x : Int) < (c : Int) := by have := HST.out; omega
          have t2 : (x : Int) - ((c : Int)) = (z : Int) := by have := HST.out; omega
          go_wp2_with (at_builtin; refine app_u32 wr 57 Try.underlying57 rfl (.tmp 36) (.tmp 40) rfl w.heap.size (.slice xa i xc) i _ rfl hO.out (z : Int) wr.heap.size rfl rfl (by omega) hz ?_; intro v5 w5 hown5 hg5 hz5; have HO5 := Lib.hid hown5; obtain ⟨g5, q5, rfl⟩ := hown5.succ; have HB5 := Lib.hid (hB.out.trans (below_grown hO.out hg5 w.heap.size (Nat.le_refl _) hz)); clear hown5 hg5)
          go_roundw
          case rel =>
            refine ⟨i + 1, _, q5, by omega, by go_num, rfl, (by rw [← ED.out]; rfl), ?_, HB5.out⟩
            show w5.owns _ _ _ _ _ _
            rw [List.range_succ, List.map_append, List.map_append]
            show w5.owns _ _ _ _ _ (_ ++ [u32V (dig 65536 D i)])
            rw [← EZ.out]
            exact HO5.out
          case measure => simp [intOf]; omega
        · have t1 : decide ((x : Int) < (c : Int)) = true := decide_eq_true (by have := HST.out; omega)
          have t1' : (x : Int) < (c : Int) := by have := HST.out; omega
          have t2 : (x : Int) + 65536 - ((c : Int)) = (z : Int) := by have := HST.out; omega
          go_wp2_with (at_builtin; refine app_u32 wr 57 Try.underlying57 rfl (.tmp 36) (.tmp 40) rfl w.heap.size (.slice xa i xc) i _ rfl hO.out (z : Int) wr.heap.size rfl rfl (by omega) hz ?_; intro v5 w5 hown5 hg5 hz5; have HO5 := Lib.hid hown5; obtain ⟨g5, q5, rfl⟩ := hown5.succ; have HB5 := Lib.hid (hB.out.trans (below_grown hO.out hg5 w.heap.size (Nat.le_refl _) hz)); clear hown5 hg5)
          go_roundw
          case rel =>
            refine ⟨i + 1, _, q5, by omega, by go_num, rfl, (by rw [← ED.out]; rfl), ?_, HB5.out⟩
            show w5.owns _ _ _ _ _ _
            rw [List.range_succ, List.map_append, List.map_append]
            show w5.owns _ _ _ _ _ (_ ++ [u32V (dig 65536 D i)])
            rw [← EZ.out]
            exact HO5.out
          case measure => simp [intOf]; omega
    · obtain rfl : i = p := by omega
      go_wp2
      rw [HP.out]
      exact ⟨_, rfl, hO.out.reads, hB.out⟩
end Go.Proofs.Ytdfklcmiagmgaaa
