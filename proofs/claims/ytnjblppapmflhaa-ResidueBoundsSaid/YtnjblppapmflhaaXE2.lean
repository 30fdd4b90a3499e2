/- The reference: quotient and rest of absolute values, bit by bit. -/
import Derived.Test.YtnjblppapmflhaaXE1
namespace Go.Proofs.Ytnjblppapmflhaa
set_option linter.all false
open Go.RowKit Go.Shelf Go.WideNum
def LongRet (w : World) (A C : Nat) (e : Ending) (w' : World) : Prop := ∃ vq vr, e = .returned (.tuple #[vq, vr]) ∧ World.rawH w' vq (A / C) (hw A).length ∧ World.numH w' vr (A % C) ∧ Below w.heap.size w w'
theorem div_two (A j : Nat) : A / 2 ^ j = 2 * (A / 2 ^ (j + 1)) + dig 2 A j := by
  have := div_pow_succ 2 A j
  omega
/-- A binary digit more. -/
theorem long_step {C q R bt n : Nat} (hC : 0 < C) (hR : R < C) (hb : bt < 2) (hn : n = 2 * (q * C + R) + bt) :
    (2 * R + bt < C → n / C = 2 * q ∧ n % C = 2 * R + bt) ∧ (C ≤ 2 * R + bt → n / C = 2 * q + 1 ∧ n % C = 2 * R + bt - C) := by
  constructor
  · intro h
    have e : n = (2 * R + bt) + C * (2 * q) := by rw [hn, Nat.mul_add, ← Nat.mul_assoc, Nat.mul_comm (2 * q)]; omega
    rw [e]
    exact ⟨by rw [Nat.add_mul_div_left _ _ hC, Nat.div_eq_of_lt h, Nat.zero_add], by rw [Nat.add_mul_mod_self_left, Nat.mod_eq_of_lt h]⟩
  · intro h
    have e : n = (2 * R + bt - C) + C * (2 * q + 1) := by rw [hn, Nat.mul_add, Nat.mul_add, ← Nat.mul_assoc, Nat.mul_comm (2 * q)]; omega
    have h2 : 2 * R + bt - C < C := by omega
    rw [e]
    exact ⟨by rw [Nat.add_mul_div_left _ _ hC, Nat.div_eq_of_lt h2, Nat.zero_add], by rw [Nat.add_mul_mod_self_left, Nat.mod_eq_of_lt h2]⟩
theorem odd_mod (q S : Nat) (hS : 0 < S) : (2 * q + 1) % (2 * S) = 2 * (q % S) + 1 ∧ (2 * q) % (2 * S) = 2 * (q % S) ∧ (2 * q + 1) / (2 * S) = q / S ∧ (2 * q) / (2 * S) = q / S := by
  have h1 := Nat.mod_add_div q S
  have h2 := Nat.mod_lt q hS
  have e1 : 2 * q + 1 = (2 * (q % S) + 1) + 2 * S * (q / S) := by rw [Nat.mul_assoc]; omega
  have e2 : 2 * q = 2 * (q % S) + 2 * S * (q / S) := by rw [Nat.mul_assoc]; omega
  have p : 0 < 2 * S := by omega
  refine ⟨?_, ?_, ?_, ?_⟩
  · conv => lhs; rw [e1]
    rw [Nat.add_mul_mod_self_left, Nat.mod_eq_of_lt (by omega)]
  · rw [Nat.mul_mod_mul_left]
  · conv => lhs; rw [e1]
    rw [Nat.add_mul_div_left _ _ p, Nat.div_eq_of_lt (by omega), Nat.zero_add]
  · rw [Nat.mul_div_mul_left _ _ (by omega)]
/-- A binary digit is set. -/
theorem set_bit (q j m r : Nat) (hj : j = 16 * m + r) (hr : r < 16) (i : Nat) :
    dig 65536 ((2 * q + 1) * 2 ^ j) i = if i = m then dig 65536 (2 * q * 2 ^ j) m + 2 ^ r else dig 65536 (2 * q * 2 ^ j) i := by
  subst hj
  have e : ∀ z : Nat, z * 2 ^ (16 * m + r) = z * 2 ^ r * 65536 ^ m := fun z => by rw [pow16, Nat.pow_add, Nat.mul_assoc, Nat.mul_comm (2 ^ (16 * m))]
  rw [e, e]
  have hS : 65536 = 2 ^ r * (2 * 2 ^ (15 - r)) := by
    rw [← Nat.pow_succ', ← Nat.pow_add, show r + (15 - r + 1) = 16 by omega]
  obtain ⟨o1, o2, o3, o4⟩ := odd_mod q (2 ^ (15 - r)) (Nat.pow_pos (by omega))
  have hp : 0 < 2 ^ r := Nat.pow_pos (by omega)
  rcases Nat.lt_trichotomy i m with h | h | h
  · rw [if_neg (by omega), dig_shift_lo (by omega) _ _ _ h, dig_shift_lo (by omega) _ _ _ h]
  · subst h
    rw [if_pos rfl]
    have h1 : dig 65536 ((2 * q + 1) * 2 ^ r * 65536 ^ i) i = dig 65536 ((2 * q + 1) * 2 ^ r) 0 := dig_shift_hi (B := 65536) (by omega) ((2 * q + 1) * 2 ^ r) i 0
    have h2 : dig 65536 (2 * q * 2 ^ r * 65536 ^ i) i = dig 65536 (2 * q * 2 ^ r) 0 := dig_shift_hi (B := 65536) (by omega) (2 * q * 2 ^ r) i 0
    rw [h1, h2, dig_zero, dig_zero]
    have e1 : (2 * q + 1) * 2 ^ r % 65536 = 2 ^ r * (2 * (q % 2 ^ (15 - r)) + 1) := by
      conv => lhs; rw [hS, Nat.mul_comm, Nat.mul_mod_mul_left, o1]
    have e2 : 2 * q * 2 ^ r % 65536 = 2 ^ r * (2 * (q % 2 ^ (15 - r))) := by
      conv => lhs; rw [hS, Nat.mul_comm, Nat.mul_mod_mul_left, o2]
    rw [e1, e2, Nat.mul_add, Nat.mul_one]
  · rw [if_neg (by omega)]
    obtain ⟨d, rfl⟩ : ∃ d, i = m + (d + 1) := ⟨i - m - 1, by omega⟩
    rw [dig_shift_hi (by omega), dig_shift_hi (by omega), dig_succ, dig_succ]
    congr 1
    have e1 : (2 * q + 1) * 2 ^ r / 65536 = q / 2 ^ (15 - r) := by
      conv => lhs; rw [hS, Nat.mul_comm, Nat.mul_div_mul_left _ _ hp, o3]
    have e2 : 2 * q * 2 ^ r / 65536 = q / 2 ^ (15 - r) := by
      conv => lhs; rw [hS, Nat.mul_comm, Nat.mul_div_mul_left _ _ hp, o4]
    rw [e1, e2]
theorem one_raw (r : Nat) (hr : r < 65536) (W : World) : World.rawH (W.alloc (.cells #[.int .u32 (r : Int)] 23)) (.slice (some ⟨W.heap.size, 0, none⟩) 1 1) r 1 := by
  have e : ((List.range 1).map (dig 65536 r)).map u32V = [.int .u32 (r : Int)] := by
    simp [List.range_succ, dig, u32V, Nat.mod_eq_of_lt hr]
  have h := reads_alloc_new W [.int .u32 (r : Int)] 23 1 (by simp) (by unfold maxLen; omega)
  show World.reads _ _ _ _
  rw [e]
  simpa using h
theorem hw_one : (hw 1).length = 1 := by decide
set_option maxRecDepth 100000 in
set_option maxHeartbeats 8000000 in
theorem hlong_any (A C : Nat) (hC0 : C ≠ 0) (va vb : Value) (w : World) (hA : World.numH w va A) (hC : World.numH w vb C) (hla : (hw A).length ≤ 2000) (hlc : (hw C).length ≤ 2000) :
    Calls Try.prog 87 #[va, vb] w (LongRet w A C) := by
  have HA := Lib.hid hA
  have HC := Lib.hid hC
  obtain ⟨aa, p, ca, hp, rfl, hca, hma, hsa⟩ := numH_words hA
  obtain ⟨ab, q, cb, hq, rfl, hcb, hmb, hsb⟩ := numH_words hC
  obtain ⟨HPOST, hpost⟩ : ∃ R, R = LongRet w A C := ⟨_, rfl⟩
  rw [← hpost]
  have HP := Lib.hid hpost
  have HPA := Lib.hid hp
  have HPC := Lib.hid hq
  have HLA := Lib.hid hla
  have HLC := Lib.hid hlc
  have hp2 : p ≤ 2000 := by omega
  have hq2 : q ≤ 2000 := by omega
  have hCp : 0 < C := by omega
  clear hA hC hsa hpost hla hlc
  by_cases hq1 : q = 1
  · have hC16 : C < 65536 := by
      have h := hw_vlt C
      rw [← hq, hq1] at h; omega
    obtain ⟨b, off, rfl, hbl, hx⟩ := hsb 0 (by omega)
    have hd : dig 65536 C 0 = C := by rw [dig_zero, Nat.mod_eq_of_lt hC16]
    rw [hd, Nat.add_zero] at hx
    have hsh := hshort_any A C hCp hC16 _ w HA.out (by have := HLA.out; omega)
    unfold ShortRetH at hsh
    have HSH := Lib.hid hsh
    have hrl : A % C < 65536 := Nat.lt_trans (Nat.mod_lt A hCp) hC16
    obtain ⟨r, er⟩ : ∃ r, r = A % C := ⟨_, rfl⟩
    rw [← er] at HSH hrl
    have ER := Lib.hid er
    have HTR : Hid (∀ v W, World.rawH W v r 1 → Calls Try.prog 83 #[.agg #[.bool false, v]] W (SRet W false r)) := fun v W h => htrim_any false r 1 (by omega) (by omega) v W h
    have HRL := Lib.hid hrl
    subst hq1
    clear hq hp hsb hd hsh er hC16 hCp hrl hC0
    go_enter Try.func87, Try.ntmps87
    go_wp2_with fail
    (with_reducible refine (HSH.out).mono ?_)
    rintro e w1 ⟨v1, rfl, hr1, hb1⟩
    obtain ⟨a1, L1, c1, rfl⟩ : ∃ a L c, v1 = .slice a L c := by obtain ⟨x, y, h, -⟩ := rawH_words hr1; exact ⟨x, _, y, h⟩
    have hone := one_raw r HRL.out w1
    have hba : Below w1.heap.size w1 (w1.alloc (.cells #[.int .u32 (r : Int)] 23)) := (Below.refl _ _).alloc (Nat.le_refl _) _
    have HR1 := Lib.hid (rawH_below hr1 hba)
    have HB1 := Lib.hid (below_via hb1 hba)
    have HONE := Lib.hid hone
    clear hr1 hb1 hba hone
    go_wp2_with fail
    generalize w1.alloc (.cells #[.int .u32 (r : Int)] 23) = w2 at HR1 HB1 HONE ⊢
    (with_reducible refine (HTR.out _ _ HONE.out).mono ?_)
    rintro e w3 ⟨v3, rfl, hn3, hb3⟩
    obtain ⟨a3, L3, c3, rfl⟩ : ∃ a L c, v3 = .slice a L c := by obtain ⟨x, y, h⟩ := reads_len hn3; exact ⟨x, _, y, h⟩
    have hfld := field1 false a3 L3 c3
    have HR3 := Lib.hid (rawH_below HR1.out hb3)
    have HB3 := Lib.hid (below_via HB1.out hb3)
    have HN3 := Lib.hid hn3
    clear hn3 hb3
    go_wp2
    rw [HP.out]
    exact ⟨_, _, rfl, HR3.out, by rw [← ER.out]; exact HN3.out, HB3.out⟩
  · have t1 : ((q : Int) == 1) = false := by rw [beq_eq_false_iff_ne]; omega
    have hmk : ∀ W : World, (Instr.makeSlice 22 (.int .i64 (p : Int)) (.int .i64 (p : Int))).run Try.prog W = .ok (.slice (some ⟨W.heap.size, 0, none⟩) p p) (W.alloc (.cells (zrow p) 23)) := fun W => make_u32 p (by omega) W
    obtain ⟨M, hM⟩ : ∃ M, M = bitsN A := ⟨_, rfl⟩
    have HBI : Hid (∀ W, World.numH W (.slice aa p ca) A → Calls Try.prog 102 #[.slice aa p ca] W fun e w' => e = .returned (.int .i64 (M : Int)) ∧ W = w') := fun W h => by rw [hM]; exact hbits_any A _ W h (by have := HLA.out; omega)
    have hMp : M ≤ 16 * p := by
      rw [hM]
      refine bitsN_le ?_
      rw [← pow16, hp]
      exact hw_vlt A
    have hM2 : M ≤ 32000 := by omega
    have HM := Lib.hid hM
    have HBT : Hid (∀ (j : Nat) (W : World), j < M → World.numH W (.slice aa p ca) A → Calls Try.prog 104 #[.slice aa p ca, .int .i64 (j : Int)] W fun e w' => e = .returned (.int .u32 (dig 2 A j : Int)) ∧ W = w') := fun j W hj h => hbit_any A j (by omega) _ W h (by have := HLA.out; omega) _ rfl
    have HRC : Hid (∀ k, (hw (A / 2 ^ k % C)).length ≤ 2000) := fun k => hw_len_mono (Nat.le_of_lt (Nat.mod_lt _ hCp)) HLC.out
    clear hp hq hsb hM
    go_enter Try.func87, Try.ntmps87
    go_wp2_with fail
    have hb1 : Below w.heap.size w (w.alloc (.cells (zrow p) 23)) := (Below.refl _ w).alloc (Nat.le_refl _) _
    have hg1 : (w.alloc (.cells (zrow p) 23)).heap[w.heap.size]? = some (.cells (zrow p) 23) := heap_alloc_new w _
    have HB1 := Lib.hid hb1
    have HG1 := Lib.hid hg1
    clear hb1 hg1
    (with_reducible refine (HBI.out _ (numH_below HA.out HB1.out)).mono ?_)
    rintro e w1 ⟨rfl, rfl⟩
    go_wp2_with fail
    go_loopw [9, 10] (fun rv iv wr => ∃ (k : Nat) (xa : Option Addr) (xl xc : Nat), k ≤ M ∧ iv = .int .i64 ((k : Int) - 1) ∧ rv = .slice xa xl xc ∧ Hid (World.numH wr (.slice xa xl xc) (A / 2 ^ k % C)) ∧ Hid (wr.heap[w.heap.size]? = some (.cells (rowF (dig 65536 (A / 2 ^ k / C * 2 ^ k)) p) 23)) ∧ Hid (Below w.heap.size w wr)) (fun _ iv _ => (intOf iv + 1).toNat)
    case atStart =>
      have h0 : A / 2 ^ M = 0 := Nat.div_eq_of_lt (by rw [HM.out]; exact bitsN_vlt A)
      refine ⟨M, none, 0, 0, Nat.le_refl _, rfl, rfl, ?_, ?_, HB1.out⟩
      · show World.numH _ _ _
        rw [h0, Nat.zero_mod]; exact reads_nil _ _
      · show _ = _
        rw [h0, Nat.zero_div, Nat.zero_mul, rowF_congr (f' := fun _ => 0) (fun j hj => by simp [dig]), rowF_zero]
        exact HG1.out
    case round =>
      obtain ⟨k, xa, xl, xc, hk, rfl, rfl, hN, hG, hB⟩ := hrel
      clear hmk
      cases k with
      | zero =>
        have h0 : ¬ (0 : Int) ≤ ((0 : Nat) : Int) - 1 := by omega
        have hraw : World.rawH wr (.slice (some ⟨w.heap.size, 0, none⟩) p p) (A / C) p := by
          have h := hG.out
          rw [Nat.pow_zero, Nat.mul_one, Nat.div_one] at h
          exact rowF_raw (w := w) h (by omega)
        have hnn : World.numH wr (.slice xa xl xc) (A % C) := by
          have h := hN.out
          rw [Nat.pow_zero, Nat.div_one] at h
          exact h
        have HRAW := Lib.hid hraw
        have HNN := Lib.hid hnn
        clear hraw hnn
        go_wp2
        rw [HP.out]
        exact ⟨_, _, rfl, by rw [← HPA.out]; exact HRAW.out, HNN.out, hB.out⟩
      | succ j =>
        rw [show ((j + 1 : Nat) : Int) - 1 = (j : Int) by omega]
        obtain ⟨R, hR⟩ : ∃ R, R = A / 2 ^ (j + 1) % C := ⟨_, rfl⟩
        obtain ⟨Q, hQ⟩ : ∃ Q, Q = A / 2 ^ (j + 1) / C := ⟨_, rfl⟩
        obtain ⟨bt, hbt⟩ : ∃ bt, bt = dig 2 A j := ⟨_, rfl⟩
        have hbl : bt < 2 := by rw [hbt]; exact dig_lt (by omega) _ _
        have hRC : R < C := by rw [hR]; exact Nat.mod_lt _ hCp
        have hRl : (hw R).length ≤ 2000 := by rw [hR]; exact HRC.out _
        obtain ⟨hlo, hhi⟩ := long_step (C := C) (q := Q) (R := R) (bt := bt) (n := A / 2 ^ j) hCp hRC hbl (by
          rw [div_two A j, ← hbt]
          have h := Nat.mod_add_div (A / 2 ^ (j + 1)) C
          rw [← hR, ← hQ] at h
          rw [Nat.mul_comm Q]
          omega)
        rw [← hR] at hN
        rw [← hQ] at hG
        have hlft : Hid (∀ W, World.numH W (.slice xa xl xc) R → Calls Try.prog 103 #[.slice xa xl xc, .int .i64 1] W (RawRet W (R * 2) ((hw R).length + 1))) := fun W h => hleft_any R _ W h (by omega)
        have h2l : R * 2 < 65536 ^ ((hw R).length + 1) := by
          have h := hw_vlt R
          rw [Nat.pow_succ]
          generalize 65536 ^ (hw R).length = P at *
          omega
        have HTR : Hid (∀ v W, World.rawH W v (R * 2) ((hw R).length + 1) → Calls Try.prog 83 #[.agg #[.bool false, v]] W (SRet W false (R * 2))) := fun v W h => htrim_any false (R * 2) _ h2l (by omega) v W h
        have hl2 : (hw (R * 2)).length ≤ 2001 := Nat.le_trans (hw_len_le h2l) (by omega)
        have hbit := fun W h => HBT.out j W (by omega) h
        rw [← hbt] at hbit
        have HBIT : Hid (∀ W, World.numH W (.slice aa p ca) A → Calls Try.prog 104 #[.slice aa p ca, .int .i64 (j : Int)] W fun e w' => e = .returned (.int .u32 (bt : Int)) ∧ W = w') := hbit
        obtain ⟨n, hn⟩ : ∃ n, n = R * 2 + bt := ⟨_, rfl⟩
        have hnl : (hw n).length ≤ 2001 := by
          rw [hn]
          refine Nat.le_trans (hw_len_le (k := (hw R).length + 1) ?_) (by omega)
          have h := hw_vlt R
          rw [Nat.pow_succ]
          generalize 65536 ^ (hw R).length = P at *
          omega
        have HOR : Hid (∀ v W, World.numH W v n → World.numH W (.slice ab q cb) C → Calls Try.prog 85 #[v, .slice ab q cb] W fun e w' => e = .returned (.int .i64 (cmpN n C)) ∧ ∃ k, w' = W.drewN k) := fun v W h1 h2 => order_num n C v _ W h1 h2 (by omega) (by have := HLC.out; omega)
        have hQ2 : Q * 2 ^ (j + 1) = 2 * Q * 2 ^ j := by rw [Nat.pow_succ, Nat.mul_comm (2 ^ j), ← Nat.mul_assoc, Nat.mul_comm Q]
        rw [hQ2] at hG
        have HLO : Hid (n < C → A / 2 ^ j / C * 2 ^ j = 2 * Q * 2 ^ j ∧ A / 2 ^ j % C = n) := fun h => by
          obtain ⟨e1, e2⟩ := hlo (by omega)
          rw [e1, e2]
          exact ⟨rfl, by omega⟩
        have HHI : Hid (C ≤ n → A / 2 ^ j / C * 2 ^ j = (2 * Q + 1) * 2 ^ j ∧ A / 2 ^ j % C = n - C) := fun h => by
          obtain ⟨e1, e2⟩ := hhi (by omega)
          rw [e1, e2]
          exact ⟨rfl, by omega⟩
        have HNE := Lib.hid hn
        have hzw := lt_of_heap hG.out
        have HL2 := Lib.hid hl2
        have HNL := Lib.hid hnl
        have hjM : j < 32000 := by omega
        have HMJ : Hid (j < 16 * p) := by show _ < _; omega
        clear hlo hhi hR hQ hbt hRl h2l hbit hn hnl hQ2 hl2
        go_wp2_with fail
        (with_reducible refine (hlft.out _ hN.out).mono ?_)
        rintro e u1 ⟨v1, rfl, hr1, hb1⟩
        obtain ⟨a1, L1, c1, rfl⟩ : ∃ a L c, v1 = .slice a L c := by obtain ⟨x, y, h, -⟩ := rawH_words hr1; exact ⟨x, _, y, h⟩
        have HR1 := Lib.hid hr1
        have HD1 := Lib.hid hb1
        clear hr1 hb1
        go_wp2_with fail
        (with_reducible refine (HTR.out _ _ HR1.out).mono ?_)
        rintro e u2 ⟨v2, rfl, hn2, hb2⟩
        obtain ⟨a2, L2, c2, rfl⟩ : ∃ a L c, v2 = .slice a L c := by obtain ⟨x, y, h⟩ := reads_len hn2; exact ⟨x, _, y, h⟩
        have hfld := field1 false a2 L2 c2
        have HN2 := Lib.hid hn2
        have HD2 := Lib.hid (below_via HD1.out hb2)
        clear hn2 hb2
        go_wp2_with fail
        (with_reducible refine (HBIT.out _ (numH_below HA.out (hB.out.trans (HD2.out.mono hB.out.size)))).mono ?_)
        rintro e u3 ⟨rfl, rfl⟩
        clear hfld
        rcases (show bt = 0 ∨ bt = 1 by omega) with rfl | rfl
        · have HNN : Hid (World.numH u2 (.slice a2 L2 c2) n) := by show World.numH _ _ _; rw [HNE.out]; exact HN2.out
          clear hbl
          go_wp2_with fail
          (with_reducible refine (HOR.out _ _ HNN.out (numH_below HC.out (hB.out.trans (HD2.out.mono hB.out.size)))).mono ?_)
          rintro e u5 ⟨rfl, n5, hu5⟩
          have hb5 : Below u2.heap.size u2 u5 := by rw [hu5]; exact below_drewN (Below.refl _ _) _
          have HN5 := Lib.hid (numH_below HNN.out hb5)
          have HD5 := Lib.hid (below_via HD2.out hb5)
          clear hu5 hb5
          by_cases hlt : n < C
          · obtain ⟨l1, l2⟩ := HLO.out hlt
            have hcm : cmpN n C = -1 := by rw [cmpN, if_pos hlt]
            rw [hcm]
            have L1' := Lib.hid l1
            have L2' := Lib.hid l2
            clear l1 l2 hcm hlt
            go_wp2_with fail
            go_roundw
            case rel =>
              refine ⟨j, _, _, _, by omega, rfl, rfl, ?_, ?_, hB.out.trans (HD5.out.mono hB.out.size)⟩
              · show World.numH _ _ _; rw [L2'.out]; exact HN5.out
              · show _ = _; rw [L1'.out]; exact (HD5.out.block _ hzw).trans hG.out
            case measure => simp [intOf]
          · obtain ⟨l1, l2⟩ := HHI.out (by omega)
            obtain ⟨R5, hR5⟩ : ∃ R5, R5 = cmpN n C := ⟨_, rfl⟩
            rw [← hR5]
            have hge : (0 : Int) ≤ R5 := by rw [hR5, cmpN, if_neg hlt]; split <;> omega
            have hmi : Hid (∀ v W, World.numH W v n → World.numH W (.slice ab q cb) C → Calls Try.prog 86 #[v, .slice ab q cb] W (RawRet W (n - C) (hw n).length)) := fun v W h1 h2 => hminus_any n C (by omega) v _ W h1 h2 (by have := HNL.out; omega) (by have := HLC.out; omega)
            have HTR2 : Hid (∀ v W, World.rawH W v (n - C) (hw n).length → Calls Try.prog 83 #[.agg #[.bool false, v]] W (SRetO W false (n - C))) := fun v W h => htrim_own false (n - C) _ hw_lt_sub (by have := HNL.out; omega) v W h
            have L1' := Lib.hid l1
            have L2' := Lib.hid l2
            clear l1 l2 hR5 hlt
            go_wp2_with fail
            (with_reducible refine (hmi.out _ _ HN5.out (numH_below HC.out (hB.out.trans (HD5.out.mono hB.out.size)))).mono ?_)
            rintro e u6 ⟨v6, rfl, hr6, hb6⟩
            obtain ⟨a6, L6, c6, rfl⟩ : ∃ a L c, v6 = .slice a L c := by obtain ⟨x, y, h, -⟩ := rawH_words hr6; exact ⟨x, _, y, h⟩
            have HR6 := Lib.hid hr6
            have HD6 := Lib.hid (below_via HD5.out hb6)
            clear hr6 hb6
            go_wp2_with fail
            (with_reducible refine (HTR2.out _ _ HR6.out).mono ?_)
            rintro e u7 ⟨v7, rfl, hn7, hb7⟩
            obtain ⟨a7, L7, c7, rfl⟩ : ∃ a L c, v7 = .slice a L c := by obtain ⟨x, y, h⟩ := reads_len hn7.reads; exact ⟨x, _, y, h⟩
            have hfld := field1 false a7 L7 c7
            have HN7 := Lib.hid hn7
            have HD7 := Lib.hid (below_via HD6.out hb7)
            have HW6 : Hid (w.heap.size < u6.heap.size) := by show _ < _; exact Nat.lt_of_lt_of_le hzw HD6.out.size
            clear hn7 hb7
            go_wp2_with fail
            clear hfld
            obtain ⟨m, em⟩ : ∃ m, m = j / 16 := ⟨_, rfl⟩
            obtain ⟨r, er⟩ : ∃ m, m = j % 16 := ⟨_, rfl⟩
            have hsb := set_bit Q j m r (by omega) (by omega)
            have hg7 := (HD7.out.block _ hzw).trans hG.out
            have hmp : m < p := by have := HMJ.out; omega
            obtain ⟨hcu, hfu⟩ := rowF_cell hg7 m hmp
            have hd := hw_dig (2 * Q * 2 ^ j) m
            have hd2 := hw_dig ((2 * Q + 1) * 2 ^ j) m
            have hsm := hsb m
            rw [if_pos rfl] at hsm
            obtain ⟨pw, hpw⟩ : ∃ x, x = 2 ^ r := ⟨_, rfl⟩
            obtain ⟨x, ex⟩ : ∃ x, x = dig 65536 (2 * Q * 2 ^ j) m := ⟨_, rfl⟩
            obtain ⟨y, ey⟩ : ∃ x, x = dig 65536 ((2 * Q + 1) * 2 ^ j) m := ⟨_, rfl⟩
            rw [← ex] at hcu hd
            rw [← ey] at hd2
            rw [← ex, ← ey, ← hpw] at hsm
            have hpI : (2 : Int) ^ r = (pw : Int) := by rw [hpw]; simp
            have hpl : pw ≤ 65536 := by omega
            have v1 : IntKind.u32.wrap ((1 : Int) * 2 ^ r) = (pw : Int) := by rw [hpI, IntKind.wrap_u32]; omega
            have v2 : IntKind.u32.wrap ((2 : Int) ^ r) = (pw : Int) := by rw [hpI, IntKind.wrap_u32]; omega
            have v3 : IntKind.u32.wrap ((x : Int) + (pw : Int)) = (y : Int) := by rw [IntKind.wrap_u32]; omega
            have v3' : (x : Int) + (pw : Int) = (y : Int) := by omega
            have v3'' : ((x : Int) + (pw : Int)) % 4294967296 = (y : Int) := by omega
            have v4 : (j : Int) / 16 = (m : Int) := by omega
            have v5 : (j : Int) % 16 = (r : Int) := by omega
            have v6 : (j : Int).tmod 16 = (r : Int) := by rw [Int.tmod_eq_emod_of_nonneg (by omega)]; omega
            have v7 : (j : Int).tdiv 16 = (m : Int) := by rw [Int.tdiv_eq_ediv_of_nonneg (by omega)]; omega
            have v8 : IntKind.i64.wrap (m : Int) = (m : Int) := IntWalk.i64_in _ (by omega)
            have v9 : IntKind.i64.wrap (r : Int) = (r : Int) := IntWalk.i64_in _ (by omega)
            have v10 : (0 : Int) ≤ (m : Int) := by omega
            have v11 : (m : Int) < (p : Int) := by omega
            have v12 : (0 : Int) ≤ (r : Int) := by omega
            have HG7 := Lib.hid hg7
            have HSB := Lib.hid hsb
            have EY := Lib.hid ey
            clear hsb hg7 hd hd2 hsm hpw ex ey em er hge
            refine wp_region_line (fun w' => w'.cell? ⟨w.heap.size, m, none⟩ = some (.int .u32 (x : Int))) 13 (by kernel_rfl) hcu (fun hHeld => ?_)
            refine wpAnyT_take 0 (v := ?_) (by kernel_rfl) rfl (by kernel_rfl) (by decide) rfl (by kernel_rfl) (by kernel_rfl) (fun _ _ _ h => h) (Or.inl ⟨by rfl, ?_⟩) (by assumption) ?_
            rotate_left
            · (intro wq hSq; (try dsimp only at hSq); go_simp; try with_reducible rfl)
            try simp only [Act.put, List.setIfInBounds_toArray, List.set_cons_zero, List.set_cons_succ]
            refine wpAnyT_take 1 (v := ?_) (by kernel_rfl) rfl (by kernel_rfl) (by decide) rfl (by kernel_rfl) (by kernel_rfl) (fun _ _ _ h => h) (Or.inl ⟨by rfl, ?_⟩) (by assumption) ?_
            rotate_left
            · (intro wq hSq; (try dsimp only at hSq); go_simp; try with_reducible rfl)
            try simp only [Act.put, List.setIfInBounds_toArray, List.set_cons_zero, List.set_cons_succ]
            refine wpAnyT_take 2 (v := ?_) (by kernel_rfl) rfl (by kernel_rfl) (by decide) rfl (by kernel_rfl) (by kernel_rfl) (fun _ _ _ h => h) (Or.inl ⟨by rfl, ?_⟩) (by assumption) ?_
            rotate_left
            · (intro wq hSq; (try dsimp only at hSq); go_simp; try with_reducible rfl)
            try simp only [Act.put, List.setIfInBounds_toArray, List.set_cons_zero, List.set_cons_succ]
            refine wpAnyT_take 3 (v := ?_) (by kernel_rfl) rfl (by kernel_rfl) (by decide) rfl (by kernel_rfl) (by kernel_rfl) (fun _ _ _ h => h) (Or.inl ⟨by rfl, ?_⟩) (by assumption) ?_
            rotate_left
            · (intro wq hSq; (try dsimp only at hSq); go_simp; try with_reducible rfl)
            try simp only [Act.put, List.setIfInBounds_toArray, List.set_cons_zero, List.set_cons_succ]
            refine wpAnyT_take 4 (v := ?_) (by kernel_rfl) rfl (by kernel_rfl) (by decide) rfl (by kernel_rfl) (by kernel_rfl) (fun _ _ _ h => h) (Or.inl ⟨by rfl, ?_⟩) (by assumption) ?_
            rotate_left
            · (intro wq hSq; (try dsimp only at hSq); go_simp; try with_reducible rfl)
            try simp only [Act.put, List.setIfInBounds_toArray, List.set_cons_zero, List.set_cons_succ]
            refine wpAnyT_take 5 (v := ?_) (by kernel_rfl) rfl (by kernel_rfl) (by decide) rfl (by kernel_rfl) (by kernel_rfl) (fun _ _ _ h => h) (Or.inl ⟨by rfl, ?_⟩) (by assumption) ?_
            rotate_left
            · (intro wq hSq; (try dsimp only at hSq); go_simp; try with_reducible rfl)
            try simp only [Act.put, List.setIfInBounds_toArray, List.set_cons_zero, List.set_cons_succ]
            refine wpAnyT_take 6 (v := ?_) (by kernel_rfl) rfl (by kernel_rfl) (by decide) rfl (by kernel_rfl) (by kernel_rfl) (fun _ _ _ h => h) (Or.inl ⟨by rfl, ?_⟩) (by assumption) ?_
            rotate_left
            · (intro wq hSq; (try dsimp only at hSq); go_simp; try with_reducible rfl)
            try simp only [Act.put, List.setIfInBounds_toArray, List.set_cons_zero, List.set_cons_succ]
            refine wpAnyT_take 7 (v := ?_) (by kernel_rfl) rfl (by kernel_rfl) (by decide) rfl (by kernel_rfl) (by kernel_rfl) (fun _ _ _ h => h) (Or.inl ⟨by rfl, ?_⟩) (by assumption) ?_
            rotate_left
            · (intro wq hSq; (try dsimp only at hSq); go_simp; try with_reducible rfl)
            try simp only [Act.put, List.setIfInBounds_toArray, List.set_cons_zero, List.set_cons_succ]
            refine wpAnyT_take 8 (v := ?_) (by kernel_rfl) rfl (by kernel_rfl) (by decide) rfl (by kernel_rfl) (by kernel_rfl) (fun _ _ _ h => h) (Or.inl ⟨by rfl, ?_⟩) (by assumption) ?_
            rotate_left
            · (intro wq hSq; (try dsimp only at hSq); go_simp; try with_reducible rfl)
            try simp only [Act.put, List.setIfInBounds_toArray, List.set_cons_zero, List.set_cons_succ]
            refine wpAnyT_take 9 (v := ?_) (by kernel_rfl) rfl (by kernel_rfl) (by decide) rfl (by kernel_rfl) (by kernel_rfl) (fun _ _ _ h => h) (Or.inl ⟨by rfl, ?_⟩) (by assumption) ?_
            rotate_left
            · (intro wq hSq; (try dsimp only at hSq); go_simp; try with_reducible rfl)
            try simp only [Act.put, List.setIfInBounds_toArray, List.set_cons_zero, List.set_cons_succ]
            refine wpAnyT_take 10 (v := ?_) (by kernel_rfl) rfl (by kernel_rfl) (by decide) rfl (by kernel_rfl) (by kernel_rfl) (fun _ _ _ h => h) (Or.inl ⟨by rfl, ?_⟩) (by assumption) ?_
            rotate_left
            · (intro wq hSq; (try dsimp only at hSq); go_simp; try with_reducible rfl)
            try simp only [Act.put, List.setIfInBounds_toArray, List.set_cons_zero, List.set_cons_succ]
            refine wpAnyT_take 11 (v := ?_) (by kernel_rfl) rfl (by kernel_rfl) (by decide) rfl (by kernel_rfl) (by kernel_rfl) (fun _ _ _ h => h) (Or.inl ⟨by rfl, ?_⟩) (by assumption) ?_
            rotate_left
            · (intro wq hSq; (try dsimp only at hSq); go_simp; try with_reducible rfl)
            try simp only [Act.put, List.setIfInBounds_toArray, List.set_cons_zero, List.set_cons_succ]
            refine wpAnyT_take 12 (v := ?_) (by kernel_rfl) rfl (by kernel_rfl) (by decide) rfl (by kernel_rfl) (by kernel_rfl) (fun _ _ _ h => h) (Or.inl ⟨by rfl, ?_⟩) (by assumption) ?_
            rotate_left
            · (intro wq hSq; (try dsimp only at hSq); go_simp; try with_reducible rfl)
            try simp only [Act.put, List.setIfInBounds_toArray, List.set_cons_zero, List.set_cons_succ]
            refine wpAnyT_last (by kernel_rfl) (by kernel_rfl) rfl (fun K hK => ?_)
            go_simp
            refine hK.out _ _ ?_
            clear hK K hHeld
            go_wp2
            go_roundw
            case rel =>
              refine ⟨j, _, _, _, by omega, rfl, rfl, ?_, ?_, ?_⟩
              · show World.numH _ _ _
                rw [L2'.out]
                exact (World.owns.setCell HN7.out HW6.out _).reads
              · show _ = _
                rw [L1'.out]
                first | rw [v3'] | rw [v3''] | rw [v3] | skip
                rw [EY.out]
                exact rowF_set (f' := dig 65536 ((2 * Q + 1) * 2 ^ j)) HG7.out (fun i _ hi => by rw [HSB.out i, if_neg hi])
              · show Below _ _ _
                exact ((hB.out.trans (HD7.out.mono hB.out.size)).setCell (by simp) _).drew
            case measure => simp [intOf]
        · have hpl1 : Hid (∀ v W, World.numH W (.slice a2 L2 c2) (R * 2) → World.numH W v 1 → Calls Try.prog 84 #[.slice a2 L2 c2, v] W (HRet W (R * 2 + 1))) := fun v W h1 h2 => hplus_any (R * 2) 1 _ v W h1 h2 (by have := HL2.out; omega) (by rw [hw_one]; omega)
          have hone := rawH_num (one_raw 1 (by omega) u2) hw_one.symm
          have hba : Below u2.heap.size u2 (u2.alloc (.cells #[.int .u32 1] 23)) := (Below.refl _ _).alloc (Nat.le_refl _) _
          have HNB := Lib.hid (numH_below HN2.out hba)
          have HDB := Lib.hid (below_via HD2.out hba)
          have HONE : Hid (World.numH (u2.alloc (.cells #[.int .u32 1] 23)) (.slice (some ⟨u2.heap.size, 0, none⟩) 1 1) 1) := hone
          clear hone hba hbl
          go_wp2_with fail
          (with_reducible refine (hpl1.out _ _ HNB.out HONE.out).mono ?_)
          rintro e u4 ⟨v4, rfl, hn4, hb4⟩
          obtain ⟨a4, L4, c4, rfl⟩ : ∃ a L c, v4 = .slice a L c := by obtain ⟨x, y, h⟩ := reads_len hn4; exact ⟨x, _, y, h⟩
          have HD4 := Lib.hid (below_via HDB.out hb4)
          have HNN : Hid (World.numH u4 (.slice a4 L4 c4) n) := by show World.numH _ _ _; rw [HNE.out]; exact hn4
          clear hn4 hb4
          go_wp2_with fail
          (with_reducible refine (HOR.out _ _ HNN.out (numH_below HC.out (hB.out.trans (HD4.out.mono hB.out.size)))).mono ?_)
          rintro e u5 ⟨rfl, n5, hu5⟩
          have hb5 : Below u4.heap.size u4 u5 := by rw [hu5]; exact below_drewN (Below.refl _ _) _
          have HN5 := Lib.hid (numH_below HNN.out hb5)
          have HD5 := Lib.hid (below_via HD4.out hb5)
          clear hu5 hb5
          by_cases hlt : n < C
          · obtain ⟨l1, l2⟩ := HLO.out hlt
            have hcm : cmpN n C = -1 := by rw [cmpN, if_pos hlt]
            rw [hcm]
            have L1' := Lib.hid l1
            have L2' := Lib.hid l2
            clear l1 l2 hcm hlt
            go_wp2_with fail
            go_roundw
            case rel =>
              refine ⟨j, _, _, _, by omega, rfl, rfl, ?_, ?_, hB.out.trans (HD5.out.mono hB.out.size)⟩
              · show World.numH _ _ _; rw [L2'.out]; exact HN5.out
              · show _ = _; rw [L1'.out]; exact (HD5.out.block _ hzw).trans hG.out
            case measure => simp [intOf]
          · obtain ⟨l1, l2⟩ := HHI.out (by omega)
            obtain ⟨R5, hR5⟩ : ∃ R5, R5 = cmpN n C := ⟨_, rfl⟩
            rw [← hR5]
            have hge : (0 : Int) ≤ R5 := by rw [hR5, cmpN, if_neg hlt]; split <;> omega
            have hmi : Hid (∀ v W, World.numH W v n → World.numH W (.slice ab q cb) C → Calls Try.prog 86 #[v, .slice ab q cb] W (RawRet W (n - C) (hw n).length)) := fun v W h1 h2 => hminus_any n C (by omega) v _ W h1 h2 (by have := HNL.out; omega) (by have := HLC.out; omega)
            have HTR2 : Hid (∀ v W, World.rawH W v (n - C) (hw n).length → Calls Try.prog 83 #[.agg #[.bool false, v]] W (SRetO W false (n - C))) := fun v W h => htrim_own false (n - C) _ hw_lt_sub (by have := HNL.out; omega) v W h
            have L1' := Lib.hid l1
            have L2' := Lib.hid l2
            clear l1 l2 hR5 hlt
            go_wp2_with fail
            (with_reducible refine (hmi.out _ _ HN5.out (numH_below HC.out (hB.out.trans (HD5.out.mono hB.out.size)))).mono ?_)
            rintro e u6 ⟨v6, rfl, hr6, hb6⟩
            obtain ⟨a6, L6, c6, rfl⟩ : ∃ a L c, v6 = .slice a L c := by obtain ⟨x, y, h, -⟩ := rawH_words hr6; exact ⟨x, _, y, h⟩
            have HR6 := Lib.hid hr6
            have HD6 := Lib.hid (below_via HD5.out hb6)
            clear hr6 hb6
            go_wp2_with fail
            (with_reducible refine (HTR2.out _ _ HR6.out).mono ?_)
            rintro e u7 ⟨v7, rfl, hn7, hb7⟩
            obtain ⟨a7, L7, c7, rfl⟩ : ∃ a L c, v7 = .slice a L c := by obtain ⟨x, y, h⟩ := reads_len hn7.reads; exact ⟨x, _, y, h⟩
            have hfld := field1 false a7 L7 c7
            have HN7 := Lib.hid hn7
            have HD7 := Lib.hid (below_via HD6.out hb7)
            have HW6 : Hid (w.heap.size < u6.heap.size) := by show _ < _; exact Nat.lt_of_lt_of_le hzw HD6.out.size
            clear hn7 hb7
            go_wp2_with fail
            clear hfld
            obtain ⟨m, em⟩ : ∃ m, m = j / 16 := ⟨_, rfl⟩
            obtain ⟨r, er⟩ : ∃ m, m = j % 16 := ⟨_, rfl⟩
            have hsb := set_bit Q j m r (by omega) (by omega)
            have hg7 := (HD7.out.block _ hzw).trans hG.out
            have hmp : m < p := by have := HMJ.out; omega
            obtain ⟨hcu, hfu⟩ := rowF_cell hg7 m hmp
            have hd := hw_dig (2 * Q * 2 ^ j) m
            have hd2 := hw_dig ((2 * Q + 1) * 2 ^ j) m
            have hsm := hsb m
            rw [if_pos rfl] at hsm
            obtain ⟨pw, hpw⟩ : ∃ x, x = 2 ^ r := ⟨_, rfl⟩
            obtain ⟨x, ex⟩ : ∃ x, x = dig 65536 (2 * Q * 2 ^ j) m := ⟨_, rfl⟩
            obtain ⟨y, ey⟩ : ∃ x, x = dig 65536 ((2 * Q + 1) * 2 ^ j) m := ⟨_, rfl⟩
            rw [← ex] at hcu hd
            rw [← ey] at hd2
            rw [← ex, ← ey, ← hpw] at hsm
            have hpI : (2 : Int) ^ r = (pw : Int) := by rw [hpw]; simp
            have hpl : pw ≤ 65536 := by omega
            have v1 : IntKind.u32.wrap ((1 : Int) * 2 ^ r) = (pw : Int) := by rw [hpI, IntKind.wrap_u32]; omega
            have v2 : IntKind.u32.wrap ((2 : Int) ^ r) = (pw : Int) := by rw [hpI, IntKind.wrap_u32]; omega
            have v3 : IntKind.u32.wrap ((x : Int) + (pw : Int)) = (y : Int) := by rw [IntKind.wrap_u32]; omega
            have v3' : (x : Int) + (pw : Int) = (y : Int) := by omega
            have v3'' : ((x : Int) + (pw : Int)) % 4294967296 = (y : Int) := by omega
            have v4 : (j : Int) / 16 = (m : Int) := by omega
            have v5 : (j : Int) % 16 = (r : Int) := by omega
            have v6 : (j : Int).tmod 16 = (r : Int) := by rw [Int.tmod_eq_emod_of_nonneg (by omega)]; omega
            have v7 : (j : Int).tdiv 16 = (m : Int) := by rw [Int.tdiv_eq_ediv_of_nonneg (by omega)]; omega
            have v8 : IntKind.i64.wrap (m : Int) = (m : Int) := IntWalk.i64_in _ (by omega)
            have v9 : IntKind.i64.wrap (r : Int) = (r : Int) := IntWalk.i64_in _ (by omega)
            have v10 : (0 : Int) ≤ (m : Int) := by omega
            have v11 : (m : Int) < (p : Int) := by omega
            have v12 : (0 : Int) ≤ (r : Int) := by omega
            have HG7 := Lib.hid hg7
            have HSB := Lib.hid hsb
            have EY := Lib.hid ey
            clear hsb hg7 hd hd2 hsm hpw ex ey em er hge
            refine wp_region_line (fun w' => w'.cell? ⟨w.heap.size, m, none⟩ = some (.int .u32 (x : Int))) 13 (by kernel_rfl) hcu (fun hHeld => ?_)
            refine wpAnyT_take 0 (v := ?_) (by kernel_rfl) rfl (by kernel_rfl) (by decide) rfl (by kernel_rfl) (by kernel_rfl) (fun _ _ _ h => h) (Or.inl ⟨by rfl, ?_⟩) (by assumption) ?_
            rotate_left
            · (intro wq hSq; (try dsimp only at hSq); go_simp; try with_reducible rfl)
            try simp only [Act.put, List.setIfInBounds_toArray, List.set_cons_zero, List.set_cons_succ]
            refine wpAnyT_take 1 (v := ?_) (by kernel_rfl) rfl (by kernel_rfl) (by decide) rfl (by kernel_rfl) (by kernel_rfl) (fun _ _ _ h => h) (Or.inl ⟨by rfl, ?_⟩) (by assumption) ?_
            rotate_left
            · (intro wq hSq; (try dsimp only at hSq); go_simp; try with_reducible rfl)
            try simp only [Act.put, List.setIfInBounds_toArray, List.set_cons_zero, List.set_cons_succ]
            refine wpAnyT_take 2 (v := ?_) (by kernel_rfl) rfl (by kernel_rfl) (by decide) rfl (by kernel_rfl) (by kernel_rfl) (fun _ _ _ h => h) (Or.inl ⟨by rfl, ?_⟩) (by assumption) ?_
            rotate_left
            · (intro wq hSq; (try dsimp only at hSq); go_simp; try with_reducible rfl)
            try simp only [Act.put, List.setIfInBounds_toArray, List.set_cons_zero, List.set_cons_succ]
            refine wpAnyT_take 3 (v := ?_) (by kernel_rfl) rfl (by kernel_rfl) (by decide) rfl (by kernel_rfl) (by kernel_rfl) (fun _ _ _ h => h) (Or.inl ⟨by rfl, ?_⟩) (by assumption) ?_
            rotate_left
            · (intro wq hSq; (try dsimp only at hSq); go_simp; try with_reducible rfl)
            try simp only [Act.put, List.setIfInBounds_toArray, List.set_cons_zero, List.set_cons_succ]
            refine wpAnyT_take 4 (v := ?_) (by kernel_rfl) rfl (by kernel_rfl) (by decide) rfl (by kernel_rfl) (by kernel_rfl) (fun _ _ _ h => h) (Or.inl ⟨by rfl, ?_⟩) (by assumption) ?_
            rotate_left
            · (intro wq hSq; (try dsimp only at hSq); go_simp; try with_reducible rfl)
            try simp only [Act.put, List.setIfInBounds_toArray, List.set_cons_zero, List.set_cons_succ]
            refine wpAnyT_take 5 (v := ?_) (by kernel_rfl) rfl (by kernel_rfl) (by decide) rfl (by kernel_rfl) (by kernel_rfl) (fun _ _ _ h => h) (Or.inl ⟨by rfl, ?_⟩) (by assumption) ?_
            rotate_left
            · (intro wq hSq; (try dsimp only at hSq); go_simp; try with_reducible rfl)
            try simp only [Act.put, List.setIfInBounds_toArray, List.set_cons_zero, List.set_cons_succ]
            refine wpAnyT_take 6 (v := ?_) (by kernel_rfl) rfl (by kernel_rfl) (by decide) rfl (by kernel_rfl) (by kernel_rfl) (fun _ _ _ h => h) (Or.inl ⟨by rfl, ?_⟩) (by assumption) ?_
            rotate_left
            · (intro wq hSq; (try dsimp only at hSq); go_simp; try with_reducible rfl)
            try simp only [Act.put, List.setIfInBounds_toArray, List.set_cons_zero, List.set_cons_succ]
            refine wpAnyT_take 7 (v := ?_) (by kernel_rfl) rfl (by kernel_rfl) (by decide) rfl (by kernel_rfl) (by kernel_rfl) (fun _ _ _ h => h) (Or.inl ⟨by rfl, ?_⟩) (by assumption) ?_
            rotate_left
            · (intro wq hSq; (try dsimp only at hSq); go_simp; try with_reducible rfl)
            try simp only [Act.put, List.setIfInBounds_toArray, List.set_cons_zero, List.set_cons_succ]
            refine wpAnyT_take 8 (v := ?_) (by kernel_rfl) rfl (by kernel_rfl) (by decide) rfl (by kernel_rfl) (by kernel_rfl) (fun _ _ _ h => h) (Or.inl ⟨by rfl, ?_⟩) (by assumption) ?_
            rotate_left
            · (intro wq hSq; (try dsimp only at hSq); go_simp; try with_reducible rfl)
            try simp only [Act.put, List.setIfInBounds_toArray, List.set_cons_zero, List.set_cons_succ]
            refine wpAnyT_take 9 (v := ?_) (by kernel_rfl) rfl (by kernel_rfl) (by decide) rfl (by kernel_rfl) (by kernel_rfl) (fun _ _ _ h => h) (Or.inl ⟨by rfl, ?_⟩) (by assumption) ?_
            rotate_left
            · (intro wq hSq; (try dsimp only at hSq); go_simp; try with_reducible rfl)
            try simp only [Act.put, List.setIfInBounds_toArray, List.set_cons_zero, List.set_cons_succ]
            refine wpAnyT_take 10 (v := ?_) (by kernel_rfl) rfl (by kernel_rfl) (by decide) rfl (by kernel_rfl) (by kernel_rfl) (fun _ _ _ h => h) (Or.inl ⟨by rfl, ?_⟩) (by assumption) ?_
            rotate_left
            · (intro wq hSq; (try dsimp only at hSq); go_simp; try with_reducible rfl)
            try simp only [Act.put, List.setIfInBounds_toArray, List.set_cons_zero, List.set_cons_succ]
            refine wpAnyT_take 11 (v := ?_) (by kernel_rfl) rfl (by kernel_rfl) (by decide) rfl (by kernel_rfl) (by kernel_rfl) (fun _ _ _ h => h) (Or.inl ⟨by rfl, ?_⟩) (by assumption) ?_
            rotate_left
            · (intro wq hSq; (try dsimp only at hSq); go_simp; try with_reducible rfl)
            try simp only [Act.put, List.setIfInBounds_toArray, List.set_cons_zero, List.set_cons_succ]
            refine wpAnyT_take 12 (v := ?_) (by kernel_rfl) rfl (by kernel_rfl) (by decide) rfl (by kernel_rfl) (by kernel_rfl) (fun _ _ _ h => h) (Or.inl ⟨by rfl, ?_⟩) (by assumption) ?_
            rotate_left
            · (intro wq hSq; (try dsimp only at hSq); go_simp; try with_reducible rfl)
            try simp only [Act.put, List.setIfInBounds_toArray, List.set_cons_zero, List.set_cons_succ]
            refine wpAnyT_last (by kernel_rfl) (by kernel_rfl) rfl (fun K hK => ?_)
            go_simp
            refine hK.out _ _ ?_
            clear hK K hHeld
            go_wp2
            go_roundw
            case rel =>
              refine ⟨j, _, _, _, by omega, rfl, rfl, ?_, ?_, ?_⟩
              · show World.numH _ _ _
                rw [L2'.out]
                exact (World.owns.setCell HN7.out HW6.out _).reads
              · show _ = _
                rw [L1'.out]
                first | rw [v3'] | rw [v3''] | rw [v3] | skip
                rw [EY.out]
                exact rowF_set (f' := dig 65536 ((2 * Q + 1) * 2 ^ j)) HG7.out (fun i _ hi => by rw [HSB.out i, if_neg hi])
              · show Below _ _ _
                exact ((hB.out.trans (HD7.out.mono hB.out.size)).setCell (by simp) _).drew
            case measure => simp [intOf]
end Go.Proofs.Ytnjblppapmflhaa
