/- Walks: the long division. -/
import Derived.Test.YtnjblppapmflhaaXD5
namespace Go.Proofs.Ytnjblppapmflhaa
set_option linter.all false
open Go.RowKit Go.Shelf Go.WideNum
theorem owns_slice {W : World} {base n : Nat} {T : TypeId} {v : Value} {xs : List Value} (h : W.owns base T 1 v n xs) (hn : 0 < n) : ∃ g cap, v = .slice (some ⟨g, 0, none⟩) n cap ∧ n ≤ cap ∧ cap ≤ maxLen := by
  rcases h.2 with ⟨_, h0⟩ | ⟨g, cap, cur, fz, rfl, hb, hg, hf, hc, hm, _⟩
  · omega
  · exact ⟨g, cap, rfl, hc, hm⟩
theorem top_ne (C n : Nat) (hn : (wd C).length = n + 1) : dig 4294967296 C n ≠ 0 := by
  have h4 := words_trimmed (B := 4294967296) (by omega) C C (Nat.le_refl _)
  have h5 : (words 4294967296 C).getLast? = some (dig 4294967296 C n) := by
    rw [List.getLast?_eq_getElem?]
    unfold wd at hn
    rw [hn, Nat.add_sub_cancel]
    exact words_getE (by omega) C n (by omega)
  exact h4 _ h5
set_option maxRecDepth 100000 in
set_option maxHeartbeats 16000000 in
theorem divide_big (A C : Nat) (hC32 : 4294967296 ≤ C) (hAC : C ≤ A) (hla : (wd A).length ≤ 2000) : DivOK A C := by
  intro va vb w hA hC
  obtain ⟨HPOST, hpost⟩ : ∃ R, R = DivRet w A C := ⟨_, rfl⟩
  rw [← hpost]
  have HP := Lib.hid hpost
  have HA : Hid (World.numR w va A) := hA
  have HC : Hid (World.numR w vb C) := hC
  clear hpost
  have hlc : (wd C).length ≤ 2000 := wd_len_le2 hAC hla
  have hcmp := compare_num A C _ _ w hA hC hla hlc
  obtain ⟨aa, ca, rfl, -, -, -⟩ := reads_u32 hA
  obtain ⟨ab, cb, rfl, -, -, hsb⟩ := reads_u32 hC
  clear hA hC
  have hn2 : 1 < (wd C).length := words_lenlt (B := 4294967296) (by omega) C 1 (by omega)
  obtain ⟨k, hk⟩ : ∃ k, (wd C).length = k + 2 := ⟨(wd C).length - 2, by omega⟩
  obtain ⟨b, off, rfl, hbl, hx0⟩ := hsb (k + 1) _ (wd_get C (k + 1) (by omega))
  have hxn := top_ne C (k + 1) hk
  have hx32 := wd_dig C (k + 1)
  obtain ⟨x, ex⟩ : ∃ x, x = dig 4294967296 C (k + 1) := ⟨_, rfl⟩
  obtain ⟨b1, b2, b3⟩ := bitLen_spec x (by omega)
  have hbl0 : Lib.bitLen x ≠ 0 := fun h => by rw [h] at b1; omega
  obtain ⟨s, hs⟩ : ∃ s, s = 32 - Lib.bitLen x := ⟨_, rfl⟩
  have hs32 : s < 32 := by omega
  have hlz := fun W => lz_any x W (by omega)
  rw [← hs] at hlz
  have HLZ : Hid (∀ W, Calls Try.prog 90 #[.int .u32 (x : Int)] W fun e w' => e = .returned (.int .i64 (s : Int)) ∧ W = w') := hlz
  obtain ⟨p, hp⟩ : ∃ p, p = (wd A).length := ⟨_, rfl⟩
  obtain ⟨n, hn⟩ : ∃ n, n = (wd C).length := ⟨_, rfl⟩
  have hnk : n = k + 2 := by rw [hn, hk]
  obtain ⟨f1, f2, f3, f4, f5, f6, f7, f8⟩ := norm_facts A C s n p hn hp hAC (by omega) hs32 (by rw [show n - 1 = k + 1 by omega, ← ex, show 32 - s = Lib.bitLen x by omega]; exact b1)
  have hLCo : Hid (∀ W, World.numR W (.slice (some ⟨b, off, none⟩) n cb) C → Calls Try.prog 99 #[.slice (some ⟨b, off, none⟩) n cb, .int .i64 (s : Int)] W (NumRet W (C * 2 ^ s))) := fun W h => left_num C s (by omega) _ W h hlc _ rfl
  have hLAo : Hid (∀ W, World.numR W (.slice aa p ca) A → Calls Try.prog 99 #[.slice aa p ca, .int .i64 (s : Int)] W (NumRet W (A * 2 ^ s))) := fun W h => left_num A s (by omega) _ W h hla _ rfl
  have hpos2 : 0 < 2 ^ s := Nat.pow_pos (by omega)
  have hdivq : A * 2 ^ s / (C * 2 ^ s) = A / C := Nat.mul_div_mul_right _ _ hpos2
  have hmodq : A * 2 ^ s % (C * 2 ^ s) = A % C * 2 ^ s := Nat.mul_mod_mul_right _ _ _
  have hLaA : p ≤ (wd (A * 2 ^ s)).length := by
    rw [hp]; exact wd_len_le2 (Nat.le_mul_of_pos_right A hpos2) (Nat.le_refl _)
  obtain ⟨V, hV⟩ : ∃ V, V = C * 2 ^ s := ⟨_, rfl⟩
  obtain ⟨D, hD⟩ : ∃ D, D = A * 2 ^ s := ⟨_, rfl⟩
  rw [← hV] at f1 f2 f6 f7 hLCo hdivq hmodq
  rw [← hD] at f2 f3 f4 hLAo hdivq hmodq hLaA
  obtain ⟨m, hm⟩ : ∃ m, m = p + 1 - n := ⟨_, rfl⟩
  rw [← hm] at f2
  obtain ⟨R, hR⟩ : ∃ R, R = cmpN A C := ⟨_, rfl⟩
  rw [← hR] at hcmp
  have hR0 : ¬ R < 0 := by
    rw [hR, cmpN, if_neg (by omega)]
    split <;> omega
  rw [← ex] at hx0
  rw [← hn, ← hp] at hcmp ⊢
  rw [← hn] at HC hlc
  rw [← hp] at HA hla
  have HCMP := Lib.hid hcmp
  have HV1 := Lib.hid f1
  have HDV := Lib.hid f2
  have HDL := Lib.hid f3
  have HDLen := Lib.hid f4
  have HVB := Lib.hid f6
  have HVlo : Hid (4294967296 ^ (k + 1) ≤ V) := by rw [show k + 1 = n - 1 by omega]; exact f7
  have HQ := Lib.hid hdivq
  have HM := Lib.hid hmodq
  have HLaA := Lib.hid hLaA
  have HZD := Lib.hid (zeros_app D)
  have hn1 : (n : Int) - 1 = ((k + 1 : Nat) : Int) := by omega
  have hnne : ¬ (n : Int) = 1 := by omega
  have hki : ((k + 1 : Nat) : Int) < (n : Int) := by omega
  have hkp : (0 : Int) ≤ ((k + 1 : Nat) : Int) := by omega
  have hmI : (p : Int) + 1 - (n : Int) = (m : Int) := by omega
  have hm1 : 1 ≤ m := by omega
  have hm2 : m ≤ 2001 := by omega
  have HKN := Lib.hid hnk
  have hpp1 : m + n = p + 1 := by omega
  have HMN := Lib.hid hpp1
  clear hcmp f1 f2 f3 f4 f6 f7 hdivq hmodq hLaA hsb hR hV hD hm hxn hx32 ex b1 b2 b3 hbl0 hs hlz hpos2 hn hp hk hn2 hpp1 hnk
  go_enter Try.func109, Try.ntmps109
  go_wp2_with fail
  (with_reducible refine (HCMP.out).mono ?_)
  rintro e w1 ⟨rfl, n1, rfl⟩
  have hx : (w.drewN n1).cell? ⟨b, off + (k + 1), none⟩ = some (.int .u32 (x : Int)) := hx0
  clear hx0
  go_wp2_with fail
  (with_reducible refine (HLZ.out _).mono ?_)
  rintro e w2 ⟨rfl, rfl⟩
  have HC1 : Hid (World.numR (w.drewN n1) (.slice (some ⟨b, off, none⟩) n cb) C) := numR_drewN HC.out n1
  have HA1 : Hid (World.numR (w.drewN n1) (.slice aa p ca) A) := numR_drewN HA.out n1
  have HB1 : Hid (Below w.heap.size w (w.drewN n1)) := below_drewN (Below.refl _ _) n1
  clear hx
  generalize w.drewN n1 = w2 at HC1 HA1 HB1 ⊢
  go_wp2_with fail
  (with_reducible refine (hLCo.out _ HC1.out).mono ?_)
  rintro e w3 ⟨v3, rfl, ho3, hb3⟩
  rw [HV1.out] at ho3
  obtain ⟨gV, cV, rfl, hcV, hcVm⟩ := owns_slice ho3 (by have := HKN.out; omega)
  have HVC : Hid (∀ i, i < n → w3.cell? ⟨gV, i, none⟩ = some (.int .u32 (dig 4294967296 V i : Int))) := fun i hi => ho3.cell i _ (by
    have := wd_get V i (by rw [HV1.out]; exact hi)
    rw [List.getElem?_map, this]; rfl)
  have HVlt : Hid (gV < w3.heap.size) := (ho3.lt gV rfl).2
  have HA3 := Lib.hid (numR_below HA1.out hb3)
  have HB3 := Lib.hid (HB1.out.trans (hb3.mono HB1.out.size))
  clear hb3 ho3
  go_wp2_with fail
  (with_reducible refine (hLAo.out _ HA3.out).mono ?_)
  rintro e w4 ⟨v4, rfl, ho4, hb4⟩
  obtain ⟨La, hLa⟩ : ∃ L, L = (wd D).length := ⟨_, rfl⟩
  rw [← hLa] at ho4 HLaA HDLen HZD
  have hLa1 : 0 < La := by have := HLaA.out; have := HMN.out; have := HKN.out; omega
  clear hLa
  obtain ⟨g4, c4, rfl, -, -⟩ := owns_slice ho4 hLa1
  have hLap := HLaA.out
  have hLap2 := HDLen.out
  have HO4 := Lib.hid (ho4.alloc (.cells #[.int .u32 0, .int .u32 0] 23))
  have hz34 : w3.heap.size ≤ (w4.alloc (.cells #[.int .u32 0, .int .u32 0] 23)).heap.size := by have := hb4.size; simp; omega
  have HZ34 := Lib.hid hz34
  have HBX : Hid (∀ w5 : World, World.grownBy (w4.alloc (.cells #[.int .u32 0, .int .u32 0] 23)) w5 (Value.slice (some ⟨g4, 0, none⟩) La c4).ownBlock → Below w3.heap.size w3 w5) := fun w5 hg => (hb4.trans (((Below.refl w4.heap.size w4).alloc (Nat.le_refl _) (.cells #[.int .u32 0, .int .u32 0] 23)).mono hb4.size)).trans (below_grown HO4.out hg w3.heap.size (Nat.le_refl _) HZ34.out)
  obtain ⟨i0, hi0, hiz, hiz1, hizb⟩ := info_parts infoU32
  clear ho4 hb4 hz34
  have hLa3 : La ≤ 2001 := by omega
  have hmk : ∀ W : World, (Instr.makeSlice 98 (.int .i64 (m : Int)) (.int .i64 (m : Int))).run Try.prog W = .ok (.slice (some ⟨W.heap.size, 0, none⟩) m m) (W.alloc (.cells (zrow m) 23)) := fun W => make_nat m (by omega) W
  go_wp2_with (at_builtin; refine wpList_append_owns _ rfl (.tmp 56) (.tmp 57) 98 rfl w3.heap.size 23 i0 (.int .u32 0) 1 4 Try.underlying98 hi0 hiz hiz1 hizb rfl (by decide) (.slice (some ⟨g4, 0, none⟩) La c4) La _ rfl HO4.out ⟨w4.heap.size, 0, none⟩ 2 2 [.int .u32 0, .int .u32 0] rfl rfl (news_alloc w4 [.int .u32 0, .int .u32 0] 23) (by simp [Value.oneCell']) (by unfold maxLen; omega) (by omega) HZ34.out ?_; intro v5 w5 hown5 hg5 _; have HO5 := Lib.hid hown5; have HB5 := Lib.hid (HBX.out _ hg5); obtain ⟨gU, cU, rfl, hcU, hcUm⟩ := owns_slice hown5 (by omega); clear hown5 hg5; have hpcU : (p : Int) + 1 ≤ (cU : Int) := by omega)
  have hgU5 : gU < w5.heap.size := (HO5.out.lt gU rfl).2
  have h35 := HB5.out.size
  have hds : DSt w3 (w5.alloc (.cells (zrow m) 23)) gU (p + 1) cU w5.heap.size m (D % (V * 4294967296 ^ m)) (fun i => if m ≤ i then dig 4294967296 (D / V) i else 0) := by
    refine ⟨?_, ?_, HB5.out.alloc h35 _, by omega, h35⟩
    · have h1 := (World.owns.takeR HO5.out (show p + 1 ≤ La + 2 by omega) (by simp)).alloc (.cells (zrow m) 23)
      rw [HZD.out] at h1
      rw [Nat.mod_eq_of_lt HDV.out]
      simpa [← List.map_take, List.take_range, Nat.min_eq_left (show p + 1 ≤ La + 2 by omega)] using h1
    · rw [rowF_congr (f' := fun _ => 0) (fun j hj => if_neg (by omega)), rowF_zero]
      exact heap_alloc_new w5 _
  obtain ⟨gq, hgq⟩ : ∃ g, g = w5.heap.size := ⟨_, rfl⟩
  rw [← hgq] at hds ⊢
  have HDS := Lib.hid hds
  have HPC : Hid (p + 1 ≤ cU) := by show _ ≤ _; omega
  clear hds HO4 HZ34 HBX HO5 HB5 hgU5 h35 hgq hi0 hiz hiz1 hizb hmk HZD HLaA hLap hLap2 HDLen hpcU
  generalize w5.alloc (.cells (zrow m) 23) = w6 at HDS ⊢
  obtain ⟨k1, hk1⟩ : ∃ z, z = k + 1 := ⟨_, rfl⟩
  clear hn1 hki hkp
  have hn1 : (n : Int) - 1 = (k1 : Int) := by have := HKN.out; omega
  have hn2 : (n : Int) - 2 = (k : Int) := by have := HKN.out; omega
  have HK1 := Lib.hid hk1
  clear hk1
  go_loopw [13] (fun jv wr => ∃ kk : Nat, kk ≤ m ∧ jv = .int .i64 ((kk : Int) - 1) ∧ Hid (DSt w3 wr gU (p + 1) cU gq m (D % (V * 4294967296 ^ kk)) (fun i => if kk ≤ i then dig 4294967296 (D / V) i else 0))) (fun jv _ => (intOf jv + 1).toNat)
  case atStart => exact ⟨m, Nat.le_refl _, rfl, HDS.out⟩
  case round =>
    obtain ⟨kk, hkk, rfl, hS⟩ := hrel
    cases kk with
    | zero =>
      rw [Nat.pow_zero, Nat.mul_one, HM.out] at hS
      have hf : (fun i => if 0 ≤ i then dig 4294967296 (D / V) i else 0) = dig 4294967296 (A / C) := by
        funext i
        rw [if_pos (Nat.zero_le i), HQ.out]
      rw [hf] at hS
      have hV0 : 0 < V := Nat.lt_of_lt_of_le (Nat.pow_pos (by omega)) HVlo.out
      have hT : A % C * 2 ^ s < 4294967296 ^ n := by
        rw [← HM.out]
        exact Nat.lt_trans (Nat.mod_lt _ hV0) HVB.out
      have hQl : A / C < 4294967296 ^ m := by
        rw [← HQ.out]
        exact (Nat.div_lt_iff_lt_mul hV0).2 (by rw [Nat.mul_comm]; exact HDV.out)
      have hkn := HKN.out
      have hmn := HMN.out
      have hncU : n ≤ cU := by have := HPC.out; omega
      obtain ⟨R1, hn1q, hr1q⟩ := hS.out.finQ hQl (by omega)
      obtain ⟨R2, hn2u, hr2u⟩ := hS.out.fin hT (show n ≤ p + 1 by omega) (by omega)
      have hrt : ∀ W, World.numR W (.slice (some ⟨gU, 0, none⟩) R2 cU) (A % C * 2 ^ s) → Calls Try.prog 111 #[.slice (some ⟨gU, 0, none⟩) R2 cU, .int .i64 (s : Int)] W (NumRet W (A % C * 2 ^ s / 2 ^ s)) := fun W hW => right_any _ s hs32 _ W hW (by
        have := words_length (B := 4294967296) (by omega) (A % C * 2 ^ s) n hT
        unfold wd
        omega)
      rw [Nat.mul_div_cancel _ (Nat.pow_pos (by omega))] at hrt
      have HN1 := Lib.hid hn1q
      have HN2 := Lib.hid hn2u
      have HR1 := Lib.hid hr1q
      have HR2 := Lib.hid hr2u
      have HRT := Lib.hid hrt
      have hb34 := hS.out.2.2.1
      have HBW := Lib.hid (HB3.out.trans (hb34.mono HB3.out.size))
      have hwr0 : Below wr.heap.size wr wr.drew := (Below.refl _ _).drew
      clear hf hV0 hT hQl hkn hmn hn1q hr1q hn2u hr2u hrt hb34 hS
      have h0 : ¬ (0 : Int) ≤ ((0 : Nat) : Int) - 1 := by omega
      go_wp2_with fail
      go_region_held3 (fun _ => True) (trivial)
        (first
          | (go_simp; go_at_call 89; (with_reducible refine (HN1.out _ hwr0).mono ?_); rintro e w5 ⟨rfl, rfl⟩)
          | (go_simp; go_at_call 89; (with_reducible refine (HN2.out _ hwr0).mono ?_); rintro e w5 ⟨rfl, rfl⟩)
          | (go_simp; go_at_call 111; (with_reducible refine (HRT.out _ (HR2.out _ hwr0)).mono ?_); rintro e w8 hr8; obtain ⟨v8, rfl, ho8, hb8⟩ := hr8; have H8 : Hid (NumRet wr.drew (A % C) (.returned v8) w8) := ⟨v8, rfl, ho8, hb8⟩; clear ho8 hb8))
      all_goals
        go_wp2
        rw [HP.out]
        exact ⟨_, _, rfl, HR1.out _ H8.out.belD, H8.out.numR, HBW.out.trans (H8.out.belD.mono HBW.out.size)⟩
    | succ j =>
      rw [show ((j + 1 : Nat) : Int) - 1 = (j : Int) by omega]
      obtain ⟨X, hX⟩ : ∃ X, X = D % (V * 4294967296 ^ (j + 1)) := ⟨_, rfl⟩
      have hV0 : 0 < V := Nat.lt_of_lt_of_le (Nat.pow_pos (by omega)) HVlo.out
      have hXl : X < V * 4294967296 ^ (j + 1) := by rw [hX]; exact Nat.mod_lt _ (Nat.mul_pos hV0 (Nat.pow_pos (by omega)))
      have hrnd := rnd_of V X k j (by rw [← HKN.out]; exact HVB.out) HVlo.out hXl
      rw [← hX] at hS
      obtain ⟨hq1, hq2⟩ := quot_word (B := 4294967296) (A := D) (V := V) (j := j) (by omega) hV0
      rw [← hX] at hq1 hq2
      have HXL := Lib.hid hXl
      have HQ1 := Lib.hid hq1
      have HQ2 := Lib.hid hq2
      clear hX hXl hq1 hq2
      have hmn := HMN.out
      have hkn := HKN.out
      have hk1 := HK1.out
      rw [← hk1] at hrnd
      obtain ⟨jn, ejn⟩ : ∃ z, z = j + n := ⟨_, rfl⟩
      obtain ⟨jm, ejm⟩ : ∃ z, z = j + k1 := ⟨_, rfl⟩
      obtain ⟨jk, ejk⟩ : ∃ z, z = j + k := ⟨_, rfl⟩
      obtain ⟨cy1, -⟩ := hS.out.cell jn (by omega)
      obtain ⟨cy0, -⟩ := hS.out.cell jm (by omega)
      obtain ⟨cy2, -⟩ := hS.out.cell jk (by omega)
      have hbel := hS.out.2.2.1
      have cv1 := (hbel.cell (p := ⟨gV, k1, none⟩) HVlt.out).trans (HVC.out k1 (by omega))
      have cv2 := (hbel.cell (p := ⟨gV, k, none⟩) HVlt.out).trans (HVC.out k (by omega))
      rw [show j + (k + 2) = jn by omega, ← ejm, ← ejk] at hrnd
      obtain ⟨q, hq⟩ : ∃ q, q = X / 4294967296 ^ j / V := ⟨_, rfl⟩
      have hy1 := dig_lt (B := 4294967296) (by omega) X jn
      have hy0 := dig_lt (B := 4294967296) (by omega) X jm
      obtain ⟨y1, ey1⟩ : ∃ y, y = dig 4294967296 X jn := ⟨_, rfl⟩
      obtain ⟨y0, ey0⟩ : ∃ y, y = dig 4294967296 X jm := ⟨_, rfl⟩
      obtain ⟨y2, ey2⟩ : ∃ y, y = dig 4294967296 X jk := ⟨_, rfl⟩
      obtain ⟨v1, ev1⟩ : ∃ y, y = dig 4294967296 V k1 := ⟨_, rfl⟩
      obtain ⟨v2, ev2⟩ : ∃ y, y = dig 4294967296 V k := ⟨_, rfl⟩
      rw [← hq] at hrnd
      have HQE := Lib.hid hq
      rw [← ey1, ← ey0, ← ey2, ← ev1, ← ev2] at hrnd
      rw [← ey1] at cy1 hy1
      rw [← ey0] at cy0 hy0
      rw [← ey2] at cy2
      rw [← ev1] at cv1
      rw [← ev2] at cv2
      obtain ⟨pp, epp⟩ : ∃ z, z = y1 * 4294967296 := ⟨_, rfl⟩
      obtain ⟨top, etop⟩ : ∃ z, z = pp + y0 := ⟨_, rfl⟩
      have hor : bits .or .u64 (pp : Int) (y0 : Int) = (top : Int) := by
        have := or_lo .u64 (Or.inl rfl) 32 y1 y0 (by omega) (by simp only [if_true]; omega)
        rw [show y1 * 2 ^ 32 = pp by rw [epp], ← etop] at this
        exact this
      rw [← epp, ← etop] at hrnd
      have hpv := hrnd.pos
      have hpb := hrnd.v1B
      have hpt := hrnd.top64
      have hpv2 := hrnd.v2B
      have hpu2 := hrnd.u2B
      have HRND := Lib.hid hrnd
      have HPT := Lib.hid hpt
      have u1 : IntKind.u64.wrap ((y1 : Int) * 4294967296) = (pp : Int) := by rw [IntKind.wrap_u64]; omega
      have u1' : IntKind.u64.wrap ((y1 : Int) * 2 ^ 32) = (pp : Int) := by rw [IntKind.wrap_u64]; omega
      have u2 : IntKind.u64.wrap (y1 : Int) = (y1 : Int) := by rw [IntKind.wrap_u64]; omega
      have u3 : IntKind.u64.wrap (y0 : Int) = (y0 : Int) := by rw [IntKind.wrap_u64]; omega
      have u4 : IntKind.u64.wrap (v1 : Int) = (v1 : Int) := by rw [IntKind.wrap_u64]; omega
      have i1 : (j : Int) + (n : Int) = (jn : Int) := by omega
      have i2 : (jn : Int) - 1 = (jm : Int) := by omega
      have i3 : (jn : Int) < (p : Int) + 1 := by omega
      have i4 : (jm : Int) < (p : Int) + 1 := by omega
      have i5 : (k1 : Int) < (n : Int) := by omega
      have i6 : (jn : Int) ≤ 4000 := by omega
      have i7 : IntKind.i64.wrap (jn : Int) = (jn : Int) := by rw [IntKind.wrap_i64]; omega
      have i8 : IntKind.i64.wrap (jm : Int) = (jm : Int) := by rw [IntKind.wrap_i64]; omega
      have i9 : IntKind.i64.wrap (k1 : Int) = (k1 : Int) := by rw [IntKind.wrap_i64]; omega
      have EJN := Lib.hid ejn
      have EJM := Lib.hid ejm
      have EJK := Lib.hid ejk
      have EY1 := Lib.hid ey1
      have EY2 := Lib.hid ey2
      have EV1 := Lib.hid ev1
      have EV2 := Lib.hid ev2
      clear ey1 ey0 ey2 ev1 ev2 epp etop hrnd hbel hq hkn hmn hpt hk1 ejn ejm ejk
      go_wp2_with fail
      go_step3
      go_upto_region 14 with (fail)
      go_quiet (fail)
      have hS1 : DSt w3 (wr.drewN nq) gU (p + 1) cU gq m X (fun i => if j + 1 ≤ i then dig 4294967296 (D / V) i else 0) := hS.out.drewN nq
      have cz1 : (wr.drewN nq).cell? ⟨gV, k1, none⟩ = some (.int .u32 (v1 : Int)) := cv1
      have cz2 : (wr.drewN nq).cell? ⟨gV, k, none⟩ = some (.int .u32 (v2 : Int)) := cv2
      have cy2' : (wr.drewN nq).cell? ⟨gU, jk, none⟩ = some (.int .u32 (y2 : Int)) := cy2
      clear hS cv1 cv2 cy2 cy1 cy0 hor u1 u1' u2 u3
      generalize wr.drewN nq = wa at hS1 cz1 cz2 cy2' ⊢
      have HS1 := Lib.hid hS1
      obtain ⟨g0, eg0⟩ : ∃ z, z = top / v1 := ⟨_, rfl⟩
      obtain ⟨r0, er0⟩ : ∃ z, z = top % v1 := ⟨_, rfl⟩
      have t1 : (top : Int) / (v1 : Int) = (g0 : Int) := by rw [eg0, Int.natCast_ediv]
      have t1' : (top : Int).tdiv (v1 : Int) = (g0 : Int) := by rw [Int.tdiv_eq_ediv_of_nonneg (by omega), t1]
      have t2 : (top : Int) % (v1 : Int) = (r0 : Int) := by rw [er0, Int.natCast_emod]
      have t2' : (top : Int).tmod (v1 : Int) = (r0 : Int) := by rw [Int.tmod_eq_emod_of_nonneg (by omega), t2]
      have hgr : g0 * v1 + r0 = top := by rw [eg0, er0, Nat.mul_comm]; exact Nat.div_add_mod top v1
      have hr0 : r0 < v1 := by rw [er0]; exact Nat.mod_lt _ hpv
      have hqg0 : q ≤ g0 := by rw [eg0]; exact HRND.out.ge
      have hg64 : g0 ≤ top := by rw [eg0]; exact Nat.div_le_self _ _
      have t3 : IntKind.u64.wrap (g0 : Int) = (g0 : Int) := by have := HPT.out; rw [IntKind.wrap_u64]; omega
      have hv1n : ¬ v1 = 0 := by omega
      have hv1I : ¬ (v1 : Int) = 0 := by omega
      have hv1b : ((v1 : Int) == 0) = false := by rw [beq_eq_false_iff_ne]; omega
      have HGR := Lib.hid hgr
      have HR0 := Lib.hid hr0
      have HQG0 := Lib.hid hqg0
      have HG64 := Lib.hid hg64
      clear hS1 eg0 er0 hgr hr0 hqg0 hg64
      go_upto_region 15 with (fail)
      go_quiet (fail)
      have hS2 : DSt w3 (wa.drewN nq) gU (p + 1) cU gq m X (fun i => if j + 1 ≤ i then dig 4294967296 (D / V) i else 0) := HS1.out.drewN nq
      have cz1' : (wa.drewN nq).cell? ⟨gV, k1, none⟩ = some (.int .u32 (v1 : Int)) := cz1
      have cz2' : (wa.drewN nq).cell? ⟨gV, k, none⟩ = some (.int .u32 (v2 : Int)) := cz2
      have cy3 : (wa.drewN nq).cell? ⟨gU, jk, none⟩ = some (.int .u32 (y2 : Int)) := cy2'
      clear HS1 cz1 cz2 cy2' t1 t1' t2 t2' hv1b
      generalize wa.drewN nq = wb at hS2 cz1' cz2' cy3 ⊢
      have HS2 := Lib.hid hS2
      clear hS2 cz1' cz2' cy3
      have j1 : (jn : Int) - 2 = (jk : Int) := by have := EJN.out; have := EJK.out; have := HKN.out; omega
      have j2 : IntKind.i64.wrap (jk : Int) = (jk : Int) := by have := EJK.out; rw [IntKind.wrap_i64]; omega
      have j3 : IntKind.i64.wrap (k : Int) = (k : Int) := by have := HKN.out; rw [IntKind.wrap_i64]; omega
      have j4 : (jk : Int) < (p : Int) + 1 := by have := EJN.out; have := EJK.out; have := HKN.out; omega
      have j5 : (k : Int) < (n : Int) := by have := HKN.out; omega
      have j6 : IntKind.u64.wrap (v2 : Int) = (v2 : Int) := by rw [IntKind.wrap_u64]; omega
      have j7 : IntKind.u64.wrap (y2 : Int) = (y2 : Int) := by rw [IntKind.wrap_u64]; omega
      go_wp2_with fail
      go_step3
      go_upto_block 2 with fail
      go_cut [15, 16] from 110 to 145 (fun gv rv wx => ∃ g r : Nat, gv = .int .u64 (g : Int) ∧ rv = .int .u64 (r : Int) ∧ Hid (q ≤ g ∧ g ≤ q + 1 ∧ g < 4294967296) ∧ Hid (DSt w3 wx gU (p + 1) cU gq m X (fun i => if j + 1 ≤ i then dig 4294967296 (D / V) i else 0)))
      case first =>
        go_wp2_with fail
        go_loopw [15, 16] (fun gv rv wr => ∃ g r : Nat, gv = .int .u64 (g : Int) ∧ rv = .int .u64 (r : Int) ∧ g * v1 + r = top ∧ r < 4294967296 ∧ q ≤ g ∧ Hid (DSt w3 wr gU (p + 1) cU gq m X (fun i => if j + 1 ≤ i then dig 4294967296 (D / V) i else 0))) (fun gv _ _ => (intOf gv).toNat)
        case atStart => exact ⟨g0, r0, rfl, rfl, HGR.out, by have := HR0.out; omega, HQG0.out, HS2.out⟩
        case round =>
          obtain ⟨g, r, rfl, rfl, hg, hrB, hqg, hS⟩ := hrel
          have hgt : g ≤ top := by
            have : g * 1 ≤ g * v1 := Nat.mul_le_mul_left g hpv
            omega
          have hpt := HPT.out
          obtain ⟨cy2, -⟩ := hS.out.cell jk (by omega)
          have hbel := hS.out.2.2.1
          have cv1 := (hbel.cell (p := ⟨gV, k1, none⟩) HVlt.out).trans (HVC.out k1 (by omega))
          have cv2 := (hbel.cell (p := ⟨gV, k, none⟩) HVlt.out).trans (HVC.out k (by omega))
          rw [← EY2.out] at cy2
          rw [← EV1.out] at cv1
          rw [← EV2.out] at cv2
          by_cases hgB : 4294967296 ≤ g
          · have hgI : (4294967296 : Int) ≤ (g : Int) := by omega
            have hgD : decide ((4294967296 : Int) ≤ (g : Int)) = true := decide_eq_true hgI
            have hqg := HRND.out.down hg hqg (.inl hgB)
            obtain ⟨g1, eg1⟩ : ∃ z, z = g - 1 := ⟨_, rfl⟩
            obtain ⟨r1, er1⟩ : ∃ z, z = r + v1 := ⟨_, rfl⟩
            have HG1 : Hid (g1 * v1 + r1 = top) := by
              show _ = _
              rw [eg1, er1, ← hg]
              obtain ⟨z, rfl⟩ : ∃ z, g = z + 1 := ⟨g - 1, by omega⟩
              rw [Nat.add_sub_cancel, Nat.add_mul]
              omega
            have HQ1G : Hid (q ≤ g1) := by show _ ≤ _; omega
            have u7 : IntKind.u64.wrap ((g : Int) - 1) = (g1 : Int) := by rw [IntKind.wrap_u64]; omega
            have u8 : IntKind.u64.wrap ((r : Int) + (v1 : Int)) = (r1 : Int) := by rw [IntKind.wrap_u64]; omega
            have hg1lt : g1 < g := by omega
            go_upto_region 16 with (fail)
            go_quiet (fail)
            have cv1x : (wr.drewN nq).cell? ⟨gV, k1, none⟩ = some (.int .u32 (v1 : Int)) := cv1
            have hSX := hS.out.drewN nq
            clear cv1 cv2 cy2 hS hbel
            generalize wr.drewN nq = wx at cv1x hSX ⊢
            have HSX := Lib.hid hSX
            clear hSX
            clear hg eg1 er1 hpt hgt hqg hgI hgD hgB
            by_cases hrb : 4294967296 ≤ r1
            · have hrI : (4294967296 : Int) ≤ (r1 : Int) := by omega
              have hrD : decide ((4294967296 : Int) ≤ (r1 : Int)) = true := decide_eq_true hrI
              have hfin := HRND.out.fin2 HG1.out hrb
              have HFIN := Lib.hid hfin
              clear hfin hrb
              go_wp2
              go_meet
              case rel => exact ⟨g1, r1, rfl, rfl, ⟨HQ1G.out, HFIN.out.2, HFIN.out.1⟩, HSX.out⟩
            · have hrI : ¬ (4294967296 : Int) ≤ (r1 : Int) := by omega
              have hrD : decide ((4294967296 : Int) ≤ (r1 : Int)) = false := decide_eq_false hrI
              go_wp2
              go_roundw
              case rel => exact ⟨g1, r1, rfl, rfl, HG1.out, by omega, HQ1G.out, HSX.out⟩
              case measure => simp [intOf]; omega
          · have hgI : ¬ (4294967296 : Int) ≤ (g : Int) := by omega
            have hgD : decide ((4294967296 : Int) ≤ (g : Int)) = false := decide_eq_false hgI
            have hP64 : g * v2 < 4294967296 * 4294967296 := Nat.mul_lt_mul'' (by omega) hpv2
            obtain ⟨P, eP⟩ : ∃ z, z = g * v2 := ⟨_, rfl⟩
            obtain ⟨rr, err⟩ : ∃ z, z = r * 4294967296 := ⟨_, rfl⟩
            obtain ⟨W, eW⟩ : ∃ z, z = rr + y2 := ⟨_, rfl⟩
            rw [← eP] at hP64
            have uP : IntKind.u64.wrap ((g : Int) * (v2 : Int)) = (P : Int) := by
              rw [show ((g : Int) * (v2 : Int)) = (P : Int) by rw [eP]; simp, IntKind.wrap_u64]; omega
            have uR : IntKind.u64.wrap ((r : Int) * 4294967296) = (rr : Int) := by rw [IntKind.wrap_u64]; omega
            have uR' : IntKind.u64.wrap ((r : Int) * 2 ^ 32) = (rr : Int) := by rw [IntKind.wrap_u64]; omega
            have hor : bits .or .u64 (rr : Int) (y2 : Int) = (W : Int) := by
              have := or_lo .u64 (Or.inl rfl) 32 r y2 hpu2 (by simp only [if_true]; omega)
              rw [show r * 2 ^ 32 = rr by rw [err], ← eW] at this
              exact this
            by_cases ht : W < P
            · have hPI : (W : Int) < (P : Int) := by omega
              have hPD : decide ((W : Int) < (P : Int)) = true := decide_eq_true hPI
              have hqg := HRND.out.down hg hqg (.inr (by rw [← eP, ← err, ← eW]; exact ht))
              obtain ⟨g1, eg1⟩ : ∃ z, z = g - 1 := ⟨_, rfl⟩
              obtain ⟨r1, er1⟩ : ∃ z, z = r + v1 := ⟨_, rfl⟩
              have HG1 : Hid (g1 * v1 + r1 = top) := by
                show _ = _
                rw [eg1, er1, ← hg]
                obtain ⟨z, rfl⟩ : ∃ z, g = z + 1 := ⟨g - 1, by omega⟩
                rw [Nat.add_sub_cancel, Nat.add_mul]
                omega
              have HQ1G : Hid (q ≤ g1) := by show _ ≤ _; omega
              have u7 : IntKind.u64.wrap ((g : Int) - 1) = (g1 : Int) := by rw [IntKind.wrap_u64]; omega
              have u8 : IntKind.u64.wrap ((r : Int) + (v1 : Int)) = (r1 : Int) := by rw [IntKind.wrap_u64]; omega
              have hg1lt : g1 < g := by omega
              clear eP err eW hP64 ht
              clear eg1 er1 hpt
              go_upto_region 16 with (fail)
              go_quiet (fail)
              have cv1x : (wr.drewN nq).cell? ⟨gV, k1, none⟩ = some (.int .u32 (v1 : Int)) := cv1
              have hSX := hS.out.drewN nq
              clear cv1 cv2 cy2 hS hbel
              generalize wr.drewN nq = wx at cv1x hSX ⊢
              have HSX := Lib.hid hSX
              clear hSX
              clear hg hgt hqg hgI hgD hgB uP uR uR' hor hPI hPD
              by_cases hrb : 4294967296 ≤ r1
              · have hrI : (4294967296 : Int) ≤ (r1 : Int) := by omega
                have hrD : decide ((4294967296 : Int) ≤ (r1 : Int)) = true := decide_eq_true hrI
                have hfin := HRND.out.fin2 HG1.out hrb
                have HFIN := Lib.hid hfin
                clear hfin hrb
                go_wp2
                go_meet
                case rel => exact ⟨g1, r1, rfl, rfl, ⟨HQ1G.out, HFIN.out.2, HFIN.out.1⟩, HSX.out⟩
              · have hrI : ¬ (4294967296 : Int) ≤ (r1 : Int) := by omega
                have hrD : decide ((4294967296 : Int) ≤ (r1 : Int)) = false := decide_eq_false hrI
                go_wp2
                go_roundw
                case rel => exact ⟨g1, r1, rfl, rfl, HG1.out, by omega, HQ1G.out, HSX.out⟩
                case measure => simp [intOf]; omega
            · have hPI : ¬ (W : Int) < (P : Int) := by omega
              have hPD : decide ((W : Int) < (P : Int)) = false := decide_eq_false hPI
              have HFIN := Lib.hid (HRND.out.fin hg (by omega) (by rw [← eP, ← err, ← eW]; exact ht))
              have HQG := Lib.hid hqg
              have HGB : Hid (g < 4294967296) := by show _ < _; omega
              clear eP err eW hP64 ht
              clear hpt
              go_upto_region 16 with (fail)
              go_quiet (fail)
              have hSX := hS.out.drewN nq
              clear cv1 cv2 cy2 hS hbel
              generalize wr.drewN nq = wx at hSX ⊢
              have HSX := Lib.hid hSX
              clear hSX
              clear hg hgt hqg hgI hgD hgB uP uR uR' hor hPI hPD
              go_wp2
              go_meet
              case rel => exact ⟨g, r, rfl, rfl, ⟨HQG.out, HFIN.out, HGB.out⟩, HSX.out⟩
      case rest =>
        obtain ⟨g, r, rfl, rfl, HGQ, hS⟩ := hcut
        clear HS2 HGR HR0 HQG0 HG64 HRND HPT
        have hgB : g < 4294967296 := HGQ.out.2.2
        go_wp2_with fail
        go_loopw [17, 18, 148] (fun cv bv iv wr => ∃ i c b T : Nat, i ≤ n ∧ iv = .int .i64 (i : Int) ∧ cv = .int .u64 (c : Int) ∧ bv = .int .u64 (b : Int) ∧ Hid (SubSt 4294967296 V X g j i T b c) ∧ Hid (DSt w3 wr gU (p + 1) cU gq m T (fun i => if j + 1 ≤ i then dig 4294967296 (D / V) i else 0))) (fun _ _ iv _ => n - (intOf iv).toNat)
        case atStart => exact ⟨0, 0, 0, X, Nat.zero_le _, rfl, rfl, rfl, SubSt.start (by omega), hS.out⟩
        case round =>
          obtain ⟨i, c, b, T, hi, rfl, rfl, rfl, hSu, hS⟩ := hrel
          by_cases hlt : i < n
          · obtain ⟨ij, eij⟩ : ∃ z, z = i + j := ⟨_, rfl⟩
            have hmn := HMN.out
            have hkn := HKN.out
            have hejn := EJN.out
            have hij := hS.out.cell ij (by omega)
            obtain ⟨cu, fu⟩ := hij
            have hbel := hS.out.2.2.1
            have cv1 := (hbel.cell (p := ⟨gV, i, none⟩) HVlt.out).trans (HVC.out i hlt)
            rw [hSu.out.up ij (by omega)] at cu
            have hx := dig_lt (B := 4294967296) (by omega) X ij
            have hv := dig_lt (B := 4294967296) (by omega) V i
            have hstep : ∀ lo hi y b', g * dig 4294967296 V i + c = hi * 4294967296 + lo → hi < 4294967296 → y < 4294967296 → b' ≤ 1 → y + lo + b = dig 4294967296 X (i + j) + b' * 4294967296 → SubSt 4294967296 V X g j (i + 1) (setDig 4294967296 T (i + j) y) b' hi := fun lo hi y b' h1 h2 h3 h4 h5 => hSu.out.step (by omega) hgB h1 h2 h3 h4 h5
            rw [← eij] at hstep
            obtain ⟨x, ex⟩ : ∃ x, x = dig 4294967296 X ij := ⟨_, rfl⟩
            obtain ⟨v, ev⟩ : ∃ x, x = dig 4294967296 V i := ⟨_, rfl⟩
            rw [← ex] at cu hx hstep
            rw [← ev] at cv1 hv hstep
            have hcB := hSu.out.hc
            have hbB := hSu.out.hb
            obtain ⟨M, pw, lo, hi2, z, d, Tz, s1, s2, s3, s4, s5, s6, s7, s8, a1, a2, a3, a4, a5, a6, a7⟩ := sub_words g v c b x hgB hv hcB hbB hx
            have HST := Lib.hid (hstep lo hi2 z d s1 s2 s3 s4 s5)
            have HNX := Lib.hid (hS.out.set ij z (by omega) s3)
            have w1 : (i : Int) + (j : Int) = (ij : Int) := by omega
            have w2 : (ij : Int) < (p : Int) + 1 := by omega
            have w3' : IntKind.i64.wrap (ij : Int) = (ij : Int) := by rw [IntKind.wrap_i64]; omega
            have w4 : IntKind.u64.wrap (v : Int) = (v : Int) := by rw [IntKind.wrap_u64]; omega
            have w5 : IntKind.u64.wrap (x : Int) = (x : Int) := by rw [IntKind.wrap_u64]; omega
            have w6 : (i : Int) < (n : Int) := by omega
            have w7 : (M : Int) + (c : Int) = (pw : Int) := by omega
            have w8 : (ij : Int) ≤ 4000 := by omega
            clear hstep hSu hS hbel ex ev eij s1 s5 s7 hmn hkn hejn
            go_wp2_with fail
            go_roundw
            case rel => exact ⟨i + 1, hi2, d, _, by omega, by go_num, rfl, rfl, HST.out, HNX.out⟩
            case measure => simp [intOf]; omega
          · obtain rfl : n = i := by omega
            have hmn := HMN.out
            have hkn := HKN.out
            have hejn := EJN.out
            obtain ⟨cu, fu⟩ := hS.out.cell jn (by omega)
            rw [hSu.out.up jn (by omega)] at cu
            have hx := dig_lt (B := 4294967296) (by omega) X jn
            have hend : ∀ y d, y < 4294967296 → d ≤ 1 → y + b + c = dig 4294967296 X (n + j) + d * 4294967296 → (d = 0 → g = dig 4294967296 (D / V) j ∧ setDig 4294967296 T (n + j) y = D % (V * 4294967296 ^ j)) ∧
    (d = 1 → g = dig 4294967296 (D / V) j + 1 ∧ setDig 4294967296 T (n + j) y + V * 4294967296 ^ j = D % (V * 4294967296 ^ j) + 4294967296 ^ (n + j + 1) ∧ (∀ k, n + j + 1 ≤ k → dig 4294967296 (setDig 4294967296 T (n + j) y) k = 0)) :=
              fun y d h1 h2 h3 => sub_end hV0 HVB.out HXL.out HQ1.out HQ2.out hSu.out (by rw [← HQE.out]; exact HGQ.out.1) (by rw [← HQE.out]; exact HGQ.out.2.1) h1 h2 h3
            rw [show n + j = jn by omega] at hend
            obtain ⟨x, ex⟩ : ∃ x, x = dig 4294967296 X jn := ⟨_, rfl⟩
            rw [← ex] at cu hx hend
            have hcB := hSu.out.hc
            have hbB := hSu.out.hb
            obtain ⟨z, d, Tz, s1, s2, s3, a1, a2, a3⟩ := sub_lastW c b x hcB hbB hx
            have HEND := Lib.hid (hend z d s1 s2 s3)
            have hnx := hS.out.set jn z (by omega) s1
            obtain ⟨cq, fq⟩ := hnx.qcell j (by omega)
            have HNX := Lib.hid hnx
            have w5 : IntKind.u64.wrap (x : Int) = (x : Int) := by rw [IntKind.wrap_u64]; omega
            have w6 : ¬ (n : Int) < (n : Int) := by omega
            have w7 : (j : Int) < (m : Int) := by omega
            have w8 : (0 : Int) ≤ (j : Int) := by omega
            have w9 : IntKind.i64.wrap (j : Int) = (j : Int) := by rw [IntKind.wrap_i64]; omega
            have w10 : (g : Int) % 4294967296 = (g : Int) := by omega
            clear hend hSu hS ex s3 hnx
            rcases (show d = 0 ∨ d = 1 by omega) with rfl | rfl
            · have hE := HEND.out.1 rfl
              have HE := Lib.hid hE
              clear hE HEND hmn hkn hejn
              go_wp2_with fail
              go_roundw
              case rel => exact ⟨j, by omega, rfl, HNX.out.qend HE.out.2 HE.out.1⟩
              case measure => simp [intOf]
            · have hE := HEND.out.2 rfl
              obtain ⟨Y, eY⟩ : ∃ Y, Y = setDig 4294967296 T jn z := ⟨_, rfl⟩
              rw [← eY] at hE HNX
              obtain ⟨g1, eg1⟩ : ∃ g1, g = g1 + 1 := ⟨g - 1, by have := hE.1; omega⟩
              have u7 : IntKind.u64.wrap ((g : Int) - 1) = (g1 : Int) := by rw [IntKind.wrap_u64]; omega
              have hg1B : g1 < 4294967296 := by omega
              have w11 : (g1 : Int) % 4294967296 = (g1 : Int) := by omega
              have hg1 : g1 = dig 4294967296 (D / V) j := by have := hE.1; omega
              have HG1 := Lib.hid hg1
              have HE := Lib.hid hE.2
              clear hE HEND hmn hkn hejn eY eg1 cq fq hg1 w10
              go_wp2_with fail
              generalize wr.setCell ⟨gU, jn, none⟩ (.int .u32 (z : Int)) = wy at HNX ⊢
              clear cu fu
              go_loopw [17, 209] (fun cv iv wr => ∃ i c T : Nat, i ≤ n ∧ iv = .int .i64 (i : Int) ∧ cv = .int .u64 (c : Int) ∧ Hid (AddSt 4294967296 V Y j i T c) ∧ Hid (DSt w3 wr gU (p + 1) cU gq m T (fun i => if j + 1 ≤ i then dig 4294967296 (D / V) i else 0))) (fun _ iv _ => n - (intOf iv).toNat)
              case atStart => exact ⟨0, 0, Y, Nat.zero_le _, rfl, rfl, AddSt.start, HNX.out⟩
              case round =>
                obtain ⟨i, c, T, hi, rfl, rfl, hAd, hS⟩ := hrel
                by_cases hlt : i < n
                · obtain ⟨ij, eij⟩ : ∃ z, z = i + j := ⟨_, rfl⟩
                  have hmn := HMN.out
                  have hkn := HKN.out
                  obtain ⟨cu, fu⟩ := hS.out.cell ij (by omega)
                  have hbel := hS.out.2.2.1
                  have cv1 := (hbel.cell (p := ⟨gV, i, none⟩) HVlt.out).trans (HVC.out i hlt)
                  rw [hAd.out.up ij (by omega)] at cu
                  have hu := dig_lt (B := 4294967296) (by omega) Y ij
                  have hv := dig_lt (B := 4294967296) (by omega) V i
                  have hstep : ∀ y d, y < 4294967296 → d ≤ 1 → c + (dig 4294967296 Y (i + j) + dig 4294967296 V i) = y + d * 4294967296 → AddSt 4294967296 V Y j (i + 1) (setDig 4294967296 T (i + j) y) d := fun y d h1 h2 h3 => hAd.out.step (by omega) h1 h2 h3
                  rw [← eij] at hstep
                  obtain ⟨u, eu⟩ : ∃ x, x = dig 4294967296 Y ij := ⟨_, rfl⟩
                  obtain ⟨v, ev⟩ : ∃ x, x = dig 4294967296 V i := ⟨_, rfl⟩
                  rw [← eu] at cu hu hstep
                  rw [← ev] at cv1 hv hstep
                  have hc1 := hAd.out.hc
                  obtain ⟨t, s, z, d, e1, e2, s1, s2, s3, s4, a1, a2, a3, a4⟩ := add_words c u v hc1 hu hv
                  have HST := Lib.hid (hstep z d s1 s2 s3)
                  have w1 : (i : Int) + (j : Int) = (ij : Int) := by omega
                  have w2 : (ij : Int) < (p : Int) + 1 := by omega
                  have w3' : IntKind.i64.wrap (ij : Int) = (ij : Int) := by rw [IntKind.wrap_i64]; omega
                  have w3i : IntKind.i64.wrap (i : Int) = (i : Int) := by rw [IntKind.wrap_i64]; omega
                  have w4 : IntKind.u64.wrap (v : Int) = (v : Int) := by rw [IntKind.wrap_u64]; omega
                  have w5 : IntKind.u64.wrap (u : Int) = (u : Int) := by rw [IntKind.wrap_u64]; omega
                  have w6 : (i : Int) < (n : Int) := by omega
                  have w8 : (ij : Int) ≤ 4000 := by omega
                  have w9 : IntKind.u64.wrap (t : Int) = (t : Int) := by rw [IntKind.wrap_u64]; omega
                  have w10 : IntKind.u64.wrap (s : Int) = (s : Int) := by rw [IntKind.wrap_u64]; omega
                  clear hstep hAd hbel eu ev eij s3 hmn hkn e1 e2
                  go_upto_region 38 with (fail)
                  go_quiet (fail)
                  have cu' : (wr.drewN nq).cell? ⟨gU, ij, none⟩ = some (.int .u32 (u : Int)) := cu
                  have fu' : (wr.drewN nq).frozen? ⟨gU, ij, none⟩ = false := fu
                  have hS2 := hS.out.drewN nq
                  have HNX2 := Lib.hid (hS2.set ij z (by have := HMN.out; have := HKN.out; omega) s1)
                  clear hS2 hS cu fu cv1
                  generalize wr.drewN nq = wq at cu' fu' HNX2 ⊢
                  go_wp2_with fail
                  go_roundw
                  case rel => exact ⟨i + 1, d, _, by omega, by go_num, rfl, HST.out, HNX2.out⟩
                  case measure => simp [intOf]; omega
                · obtain rfl : n = i := by omega
                  have hmn := HMN.out
                  have hkn := HKN.out
                  have hejn := EJN.out
                  obtain ⟨cu, fu⟩ := hS.out.cell jn (by omega)
                  rw [hAd.out.up jn (by omega)] at cu
                  have hlast : setDig 4294967296 T (n + j) ((dig 4294967296 Y (n + j) + c) % 4294967296) = D % (V * 4294967296 ^ j) :=
                    hAd.out.last (by omega) HVB.out (Nat.mod_lt _ (Nat.mul_pos hV0 (Nat.pow_pos (by omega)))) (by rw [show n + j = jn by omega]; exact HE.out.1) (by rw [show n + j = jn by omega]; exact HE.out.2)
                  rw [show n + j = jn by omega] at hlast
                  obtain ⟨x, ex⟩ : ∃ x, x = dig 4294967296 Y jn := ⟨_, rfl⟩
                  have hx := dig_lt (B := 4294967296) (by omega) Y jn
                  rw [← ex] at cu hlast hx
                  have hc1 := hAd.out.hc
                  obtain ⟨z, ez⟩ : ∃ z, z = (x + c) % 4294967296 := ⟨_, rfl⟩
                  rw [← ez] at hlast
                  have hnx := hS.out.set jn z (by omega) (by omega)
                  obtain ⟨cq, fq⟩ := hnx.qcell j (by omega)
                  have HNX2 := Lib.hid hnx
                  have HL := Lib.hid hlast
                  have v1 : (c : Int) % 4294967296 = (c : Int) := by omega
                  have v2 : IntKind.u32.wrap ((x : Int) + (c : Int)) = (z : Int) := by rw [IntKind.wrap_u32]; omega
                  have v3 : ((x : Int) + (c : Int)) % 4294967296 = (z : Int) := by omega
                  clear hlast hAd hS hnx ex ez hmn hkn hejn
                  go_wp2_with fail
                  go_simp
                  go_wp2_with fail
                  go_roundw
                  case rel => exact ⟨j, by omega, rfl, HNX2.out.qend HL.out HG1.out⟩
                  case measure => simp [intOf]
end Go.Proofs.Ytnjblppapmflhaa
