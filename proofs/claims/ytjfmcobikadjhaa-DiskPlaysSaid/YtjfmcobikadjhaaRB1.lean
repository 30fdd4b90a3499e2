/- Walks: the reference's disk: all records are replaced. -/
import Derived.Test.YtjfmcobikadjhaaRA9
namespace Go.Proofs.Ytjfmcobikadjhaa
set_option linter.all false
open Go.RowKit Go.Shelf
set_option maxRecDepth 100000 in
set_option maxHeartbeats 40000000 in
theorem rRewrite_any (p b : Nat) (d : Dk) (l : List (List UInt8)) (v : Value) (w : World) (hv : w.reads w.heap.size v (l.map strV)) (hd : RDiskAt w p b d) (ho : d.ok) :
    Calls Try.prog 36 #[.pointer (some ⟨p, 0, none⟩), v] w fun e w' => e = .returned (.int .i64 (d.rewritten l).1) ∧ RDiskAt w' p b (d.rewritten l).2 ∧ Kp (two p b) w w' := by
  have HACT := Lib.hid (ractive_any p b d w hd ho)
  obtain ⟨k0, -, -, k3, -, -⟩ := four_cells hd.at_
  have HD := Lib.hid hd
  have HO := Lib.hid ho
  obtain ⟨E, hE⟩ : ∃ E, E = (rewS d.other d.size (d.gen + 1) l).err := ⟨_, rfl⟩
  have HRES : Hid (∀ W, RDiskAt W p b (d.put d.side (rewS d.other d.size (d.gen + 1) l)) → Calls Try.prog 53 #[.pointer (some ⟨p, 0, none⟩)] W fun e w' => e = .returned (.int .i64 E) ∧ W = w') := fun W h => by
    refine (rresult_any p b _ W h).mono ?_
    rintro e w' ⟨rfl, rfl⟩
    refine ⟨?_, rfl⟩
    rw [hE, show (d.put d.side (rewS d.other d.size (d.gen + 1) l)).failed = (rewS d.other d.size (d.gen + 1) l).failed by unfold Dk.put; split <;> rfl]
    rfl
  obtain ⟨R, hR⟩ : ∃ R, R = d.rewritten l := ⟨_, rfl⟩
  rw [← hR]
  unfold Dk.rewritten at hR
  rw [← hE] at hR
  clear hE
  have HRR := Lib.hid hR
  have h64 := ho.lo
  have hmx := ho.hi
  obtain ⟨a, cap, rfl, hn, hz, hcm, hc⟩ := hv
  obtain ⟨n, hnl⟩ : ∃ n, n = l.length := ⟨_, rfl⟩
  rw [List.length_map, ← hnl] at hz ⊢
  have HNL := Lib.hid hnl
  have HC : Hid (∀ (j : Nat) (s : List UInt8), l[j]? = some s → ∃ b off, a = some ⟨b, off, none⟩ ∧ b < w.heap.size ∧ w.cell? ⟨b, off + j, none⟩ = some (.string (bytesOf s))) := fun j s hs => hc j (strV s) (by simp [hs])
  have hn63 : n ≤ 9223372036854775807 := by unfold maxLen at hcm; omega
  clear hd ho hR hc hn hnl hcm
  cases hfd : d.failed
  case true =>
    rw [hfd] at k3
    have hRe : R = (9, d) := by rw [HRR.out, if_pos hfd]
    go_enter Try.func36, Try.ntmps36
    go_wp2
    go_ret
    rw [hRe]
    exact ⟨rfl, HD.out, Kp.refl _ _⟩
  case false =>
  rw [hfd] at k3
  have hnf : ¬ d.failed = true := by rw [hfd]; simp
  rw [if_neg hnf] at HRR
  clear hfd hnf
  obtain ⟨m, hm⟩ : ∃ m, m = d.size := ⟨_, rfl⟩
  rw [← hm] at k0 h64 hmx HRR HRES
  have HM := Lib.hid hm
  clear hm
  go_enter Try.func36, Try.ntmps36
  go_wp2_with fail
  go_loop [6] (fun i => ∃ k : Nat, k ≤ n ∧ i = .int .i64 (k : Int) ∧ Hid (∀ (j : Nat) (s : List UInt8), j < k → l[j]? = some s → s.length ≤ 65535)) (fun i => n - (intOf i).toNat)
  case atStart => exact ⟨0, Nat.zero_le _, rfl, fun j s hj => by omega⟩
  case round =>
    obtain ⟨k, hk, rfl, hsh⟩ := hrel
    by_cases hlt : k < n
    · obtain ⟨s, hs⟩ : ∃ s, l[k]? = some s := ⟨l[k]'(by rw [← HNL.out]; exact hlt), List.getElem?_eq_getElem _⟩
      obtain ⟨sb, off, rfl, hb, hcell⟩ := HC.out k s hs
      obtain ⟨q, hq⟩ : ∃ q, q = s.length := ⟨_, rfl⟩
      have hsz : (bytesOf s).size = q := by rw [hq]; rfl
      have hsz1 : ((bytesOf s).size : Int) = (q : Int) := by rw [hsz]
      have HS := Lib.hid hs
      have HQ := Lib.hid hq
      clear hs hq
      by_cases hlong : 65535 < q
      · have hl1 : (65535 : Int) < (q : Int) := by omega
        have hRe : R = (3, d) := by rw [HRR.out, if_pos (longAny_at l k s HS.out (by rw [← HQ.out]; exact hlong))]
        have HRE := Lib.hid hRe
        clear hRe
        go_wp2
        go_ret
        rw [HRE.out]
        exact ⟨rfl, HD.out, Kp.refl _ _⟩
      have hl1 : ¬ (65535 : Int) < (q : Int) := by omega
      have HSH : Hid (∀ (j : Nat) (s : List UInt8), j < k + 1 → l[j]? = some s → s.length ≤ 65535) := fun j s' hj hs' => by
        rcases Nat.lt_or_ge j k with h | h
        · exact hsh.out j s' h hs'
        · have e : j = k := by omega
          rw [e, HS.out] at hs'
          injection hs' with hs'
          rw [← hs', ← HQ.out]; omega
      go_wp2
      go_round
      case rel => exact ⟨k + 1, by omega, by go_num, HSH.out⟩
      case measure => simp [intOf]; omega
    obtain rfl : k = n := by omega
    have hla : longAny l = false := longAny_none l (fun j s hj => by
      have hlt : j < l.length := (List.getElem?_eq_some_iff.1 hj).1
      exact hsh.out j s (by rw [HNL.out]; exact hlt) hj)
    rw [hla, if_neg (by simp)] at HRR
    have HLA := Lib.hid hla
    clear hla hsh hlt hk
    go_wp2_with fail
    go_loop [5, 7] (fun nd i => ∃ (j N : Nat), j ≤ k ∧ i = .int .i64 (j : Int) ∧ nd = .int .i64 (N : Int) ∧ N ≤ m + 70000 ∧ Hid (N = sumR (l.take j))) (fun _ i => k - (intOf i).toNat)
    case atStart => exact ⟨0, 17, Nat.zero_le _, rfl, rfl, by omega, rfl⟩
    case round =>
      obtain ⟨j, N, hj, rfl, rfl, hNb, hN⟩ := hrel
      by_cases hgo : j < k ∧ N ≤ m
      · obtain ⟨hlt, hNm⟩ := hgo
        obtain ⟨s, hs⟩ : ∃ s, l[j]? = some s := ⟨l[j]'(by rw [← HNL.out]; exact hlt), List.getElem?_eq_getElem _⟩
        obtain ⟨sb, off, rfl, hb, hcell⟩ := HC.out j s hs
        obtain ⟨q, hq⟩ : ∃ q, q = s.length := ⟨_, rfl⟩
        have hsz : (bytesOf s).size = q := by rw [hq]; rfl
        have hsz1 : ((bytesOf s).size : Int) = (q : Int) := by rw [hsz]
        have hql : q ≤ 65535 := by
          rw [hq]
          rcases Nat.lt_or_ge 65535 s.length with h | h
          · have := longAny_at l j s hs h
            rw [HLA.out] at this; cases this
          · exact h
        have HNN : Hid (N + 13 + q = sumR (l.take (j + 1))) := by
          show _ = _
          rw [List.take_add_one, hs, hq]
          show _ = sumR (l.take j ++ [s])
          rw [sumR_snoc, hN.out]
        clear hs hq
        go_wp2
        go_round
        case rel => exact ⟨j + 1, N + 13 + q, by omega, by go_num, by go_num, by omega, HNN.out⟩
        case measure => simp [intOf]; omega
      have hNi : m < N ↔ m < sumR l := by
        rcases Nat.lt_or_ge j k with h | h
        · have h1 : m < N := by omega
          have h2 := sumR_take l j
          rw [← hN.out] at h2
          constructor
          · intro _; omega
          · intro _; exact h1
        · have e : l.take j = l := List.take_of_length_le (by rw [← HNL.out]; exact h)
          rw [hN.out, e]
      have HNI := Lib.hid hNi
      obtain ⟨x, hx⟩ : ∃ x, x = d.half := ⟨_, rfl⟩
      obtain ⟨y, hy⟩ : ∃ y, y = d.gen := ⟨_, rfl⟩
      rw [← hx, ← hy] at HACT
      rw [← hy] at HRR HRES
      have hyl : y < 9223372036854775808 := by rw [hy]; exact d.gen_lt
      have HX := Lib.hid hx
      have HY := Lib.hid hy
      clear hNi hx hy hN
      by_cases hjk : j < k
      · have hfull : m < N := by omega
        have hf1 : (m : Int) < (N : Int) := by omega
        clear hgo
        have hRe : R = (5, d) := by rw [HRR.out, if_pos (Or.inl (HNI.out.1 hfull))]
        have HRE := Lib.hid hRe
        clear hRe
        go_wp2_with fail
        refine HACT.out.mono ?_
        rintro e w2 ⟨rfl, hb2⟩
        have HD2 := Lib.hid (HD.out.kept hb2)
        have k0' : w2.cell? ⟨p, 0, none⟩ = some (.int .i64 (m : Int)) := by rw [HM.out]; exact (four_cells HD2.out.at_).1
        clear k0 k3
        go_wp2
        go_ret
        rw [HRE.out]
        exact ⟨rfl, HD2.out, Kp.of_below hb2⟩
      have hjk' : ¬ (j : Int) < (k : Int) := by omega
      clear hgo
      go_wp2_with fail
      refine HACT.out.mono ?_
      rintro e w2 ⟨rfl, hb2⟩
      have HD2 := Lib.hid (HD.out.kept hb2)
      have hS2 := hb2.size
      clear k0 k3
      have k0 : w2.cell? ⟨p, 0, none⟩ = some (.int .i64 (m : Int)) := by rw [HM.out]; exact (four_cells HD2.out.at_).1
      by_cases hfull : m < N
      · have hf1 : (m : Int) < (N : Int) := by omega
        have hRe : R = (5, d) := by rw [HRR.out, if_pos (Or.inl (HNI.out.1 hfull))]
        have HRE := Lib.hid hRe
        clear hRe
        go_wp2
        go_ret
        rw [HRE.out]
        exact ⟨rfl, HD2.out, Kp.of_below hb2⟩
      have hf1 : ¬ (m : Int) < (N : Int) := by omega
      by_cases hlast : y = 9223372036854775807
      · have hf2 : ((y : Int) == 9223372036854775807) = true := by rw [hlast]; rfl
        have hRe : R = (5, d) := by rw [HRR.out, if_pos (Or.inr hlast)]
        have HRE := Lib.hid hRe
        clear hRe hlast
        go_wp2
        go_ret
        rw [HRE.out]
        exact ⟨rfl, HD2.out, Kp.of_below hb2⟩
      have hf2 : ((y : Int) == 9223372036854775807) = false := by rw [beq_eq_false_iff_ne]; omega
      have hsum : sumR l ≤ m := by have := HNI.out; omega
      have hRe : R = (E, d.put d.side (rewS d.other m (y + 1) l)) := by
        rw [HRR.out, if_neg]
        rintro (h | h)
        · omega
        · exact hlast h
      have HRE := Lib.hid hRe
      obtain ⟨G, hG⟩ : ∃ G, G = y + 1 := ⟨_, rfl⟩
      have hwg : (y : Int) + 1 = (G : Int) := by omega
      rw [← hG] at HRE HRES
      have hGl : G < 9223372036854775808 := by omega
      have HSUM := Lib.hid hsum
      have HB2 := Lib.hid hb2
      have hc := half_nat (d := d)
      rw [← HX.out] at hc
      clear hRe hlast hsum hG hb2
      by_cases hx0 : x = 0
      · have hxb : (x == 0) = true := by rw [hx0]; rfl
        have hsd : d.side = ((1 : Nat) : Int) := by unfold Dk.side; rw [← HX.out, if_pos hx0]; rfl
        have hot : d.other = ⟨d.hf 1, d.fuse, d.failed⟩ := by unfold Dk.other; rw [← HX.out, if_pos hx0]; rfl
        rw [hsd, hot] at HRE HRES
        clear hsd hot hx0
        go_wp2_with fail
        go_loopw [11, 12] (fun tv i wr => ∃ j' : Nat, j' ≤ k ∧ i = .int .i64 (j' : Int) ∧ tv = .string (bytesOf (encT G (l.take j'))) ∧ Hid (Below w2.heap.size w2 wr)) (fun _ i _ => k - (intOf i).toNat)
        case atStart => exact ⟨0, Nat.zero_le _, rfl, rfl, Below.refl _ _⟩
        case round =>
          obtain ⟨j', hj', rfl, rfl, hB⟩ := hrel
          by_cases hlt : j' < k
          · obtain ⟨s, hs⟩ : ∃ s, l[j']? = some s := ⟨l[j']'(by rw [← HNL.out]; exact hlt), List.getElem?_eq_getElem _⟩
            obtain ⟨sb, off, rfl, hb, hcell0⟩ := HC.out j' s hs
            have hcell : wr.cell? ⟨sb, off + j', none⟩ = some (.string (bytesOf s)) := (hB.out.cell (p := ⟨sb, off + j', none⟩) (Nat.lt_of_lt_of_le hb hS2)).trans ((HB2.out.cell (p := ⟨sb, off + j', none⟩) hb).trans hcell0)
            have hsl : s.length ≤ 65535 := by
              rcases Nat.lt_or_ge 65535 s.length with h | h
              · have := longAny_at l j' s hs h
                rw [HLA.out] at this; cases this
              · exact h
            have htk : l.take (j' + 1) = l.take j' ++ [s] := by rw [List.take_add_one, hs]; rfl
            have hrm : (encT G (l.take j')).length + 13 + s.length + 17 ≤ m := by
              have h1 := sumR_take l (j' + 1)
              have h2 := encT_length G (l.take j')
              have h3 := HSUM.out
              rw [htk, sumR_snoc] at h1
              omega
            have hES : encT G (l.take (j' + 1)) = (encT G (l.take j') ++ [1]) ++ bodyL G (17 + (encT G (l.take j')).length) s := by
              rw [htk, encT_snoc, List.append_assoc]; rfl
            have HES := Lib.hid hES
            obtain ⟨T, hTe⟩ : ∃ T, T = encT G (l.take j') := ⟨_, rfl⟩
            rw [← hTe] at hrm HES ⊢
            obtain ⟨TL, hTL⟩ : ∃ TL, TL = T.length := ⟨_, rfl⟩
            rw [← hTL] at hrm HES
            obtain ⟨K17, hK17⟩ : ∃ L, L = 17 + TL := ⟨_, rfl⟩
            rw [← hK17] at HES
            have e17 : (17 : Int) + (TL : Int) = (K17 : Int) := by omega
            have hKb : K17 ≤ 1000000 := by omega
            obtain ⟨B, hBe⟩ : ∃ B, B = bodyL G K17 s := ⟨_, rfl⟩
            have hBl : B.length = 12 + s.length := by rw [hBe, bodyL_length]
            have HBC := Lib.hid (fun W => rbody_any G K17 s hGl hKb hsl W)
            rw [← hBe] at HBC HES
            have x1 : (bytesOf T).size = TL := by rw [hTL]; rfl
            have x2 : ((bytesOf T).size : Int) = (TL : Int) := by rw [x1]
            have x3 : (bytesOf (T ++ [1])).size = TL + 1 := by show (T ++ [1]).length = _; rw [List.length_append, hTL]; rfl
            have x4 : bytesOf T ++ (⟨#[1]⟩ : ByteArray) = bytesOf (T ++ [1]) := bytesOf_append T [1]
            have x5 : (⟨#[1]⟩ : ByteArray).size = 1 := rfl
            obtain ⟨BL, hBL⟩ : ∃ BL, BL = B.length := ⟨_, rfl⟩
            have x6 : (bytesOf B).size = BL := by rw [hBL]; rfl
            have x7 : bytesOf (T ++ [1]) ++ bytesOf B = bytesOf (T ++ [1] ++ B) := bytesOf_append _ _
            have x8 : BL ≤ 70000 := by omega
            have x9 : TL ≤ 262144 := by omega
            have x10 : ¬ 9223372036854775807 < TL + 1 := by omega
            have x11 : ¬ 9223372036854775807 < TL + 1 + BL := by omega
            clear hs hcell0 htk hES hTe hTL hK17 hBe hBl hBL hrm
            go_wp2_with fail
            refine (HBC.out _).mono ?_
            rintro e w6 ⟨rfl, hb6⟩
            have HB6 := Lib.hid (hB.out.trans (hb6.mono hB.out.size))
            clear hb6
            go_wp2
            go_roundw
            case rel => exact ⟨j' + 1, by omega, by go_num, by rw [HES.out]; simp, HB6.out⟩
            case measure => simp [intOf]; omega
          · obtain rfl : j' = k := by omega
            have htl : l.take j' = l := by rw [List.take_of_length_le (by rw [← HNL.out]; exact Nat.le_refl _)]
            rw [htl]
            have hTs := encT_length G l
            obtain ⟨T, hTe⟩ : ∃ T, T = encT G l := ⟨_, rfl⟩
            rw [← hTe] at hTs ⊢
            have hst : rewS ⟨d.hf 1, d.fuse, d.failed⟩ m G l = putS (putS (putS (putS ⟨d.hf 1, d.fuse, d.failed⟩ 0 [0]) 17 (padT (m - 17) T)) 1 (eightL G ++ shortL (eightL G))) 0 [1] := by rw [hTe]; rfl
            obtain ⟨M, hM⟩ : ∃ M, M = m - 17 := ⟨_, rfl⟩
            rw [← hM] at hst
            obtain ⟨TL, hTL⟩ : ∃ TL, TL = T.length := ⟨_, rfl⟩
            have hTM : TL ≤ M := by have := HSUM.out; omega
            obtain ⟨Z, hZ⟩ : ∃ Z, Z = M - TL := ⟨_, rfl⟩
            have hM17 : (m : Int) - 17 - (TL : Int) = (Z : Int) := by omega
            have hM17' : (m : Int) - 17 = (M : Int) := by omega
            have hM17'' : (M : Int) - (TL : Int) = (Z : Int) := by omega
            have hpl := padT_length M T (by omega)
            have hZb : Z ≤ 262144 := by omega
            have hTb : TL ≤ 262144 := by omega
            have hM2 : M + 17 = m := by omega
            have x1 : (bytesOf T).size = TL := by rw [hTL]; rfl
            have x2 : ((bytesOf T).size : Int) = (TL : Int) := by rw [x1]
            have x3 : (bytesOf (List.replicate Z (0 : UInt8))).size = Z := by show (List.replicate Z (0 : UInt8)).length = Z; simp
            have x4 : bytesOf T ++ bytesOf (List.replicate Z (0 : UInt8)) = bytesOf (padT M T) := by rw [bytesOf_append]; unfold padT; rw [hZ, hTL]
            have x5 : ¬ 9223372036854775807 < TL + Z := by omega
            have hmk : ∀ W : World, (Instr.makeSlice 49 (.int .i64 (Z : Int)) (.int .i64 (Z : Int))).run Try.prog W = .ok (.slice (some ⟨W.heap.size, 0, none⟩) Z Z) (W.alloc (.cells (zrow8 Z) 5)) := fun W => make_u8 Z Z (Nat.le_refl _) (by omega) W
            have hcv : (convert 49 9 (.slice (some ⟨wr.heap.size, 0, none⟩) Z Z)).run Try.prog (wr.alloc (.cells (zrow8 Z) 5)) = .ok (.string (bytesOf (List.replicate Z 0))) (wr.alloc (.cells (zrow8 Z) 5)) := by
              have hh : HalfAt (wr.alloc (.cells (zrow8 Z) 5)) wr.heap.size (List.replicate Z 0) := ⟨5, alloc_last _ _ rfl⟩
              have := hh.text 0 Z (by simp) Z
              rw [List.drop_zero, List.take_of_length_le (by simp)] at this
              exact this
            have HB3 : Hid (Below w2.heap.size w2 (wr.alloc (.cells (zrow8 Z) 5))) := hB.out.alloc hB.out.size _
            have HD3 := Lib.hid (HD2.out.kept HB3.out)
            have HP3 : Hid (RPen (wr.alloc (.cells (zrow8 Z) 5)) p b 1 d ⟨d.hf 1, d.fuse, d.failed⟩ (wr.alloc (.cells (zrow8 Z) 5))) := RPen.start HD3.out HO.out
            have HK3 : Hid (Kp (two p b) w (wr.alloc (.cells (zrow8 Z) 5))) := Kp.of_below (HB2.out.trans (HB3.out.mono hS2))
            have kr : wr.cell? ⟨p, 0, none⟩ = some (.int .i64 (m : Int)) := by rw [HM.out]; exact (four_cells (HD2.out.kept hB.out).at_).1
            have k3 : (wr.alloc (.cells (zrow8 Z) 5)).cell? ⟨p, 0, none⟩ = some (.int .i64 (m : Int)) := by rw [HM.out]; exact (four_cells HD3.out.at_).1
            have HPL := Lib.hid hpl
            have HM2 := Lib.hid hM2
            have HST := Lib.hid hst
            have HCALL : Hid (∀ (st : Wr) (W0 W : World), RPen W0 p b 1 d st W → ∀ (q : Nat) (s : List UInt8) (z : Int), q + s.length ≤ m → z = (m : Int) + (q : Int) → Calls Try.prog 51 #[.pointer (some ⟨p, 0, none⟩), .int .i64 z, .string (bytesOf s)] W fun e w' => (∃ v, e = .returned v) ∧ RPen W0 p b 1 d (putS st q s) w') := fun st W0 W h q s z hk hz => by
              have hmm := HM.out
              have := h.call HO.out (by omega) q s (by omega)
              rw [show ((1 * d.size + q : Nat) : Int) = z by rw [hz]; omega] at this
              exact this
            clear htl hTs hTe hM hTL hZ hpl hM2 hst hlt k0
            go_wp2_with fail
            refine (HCALL.out _ _ _ HP3.out 0 [0] _ (by simp; omega) (by omega)).mono ?_
            rintro e w9 ⟨⟨v9, rfl⟩, hp9⟩
            have HP9 := Lib.hid hp9
            clear hp9 HP3 kr k3 hcv hmk
            go_wp2_with fail
            refine (HCALL.out _ _ _ HP9.out 17 (padT M T) _ (by rw [HPL.out]; have := HM2.out; omega) (by omega)).mono ?_
            rintro e w10 ⟨⟨v10, rfl⟩, hp10⟩
            have HP10 := Lib.hid hp10
            clear hp10 HP9
            go_wp2_with fail
            refine (reight_any G hGl _).mono ?_
            rintro e w11 ⟨rfl, hb11⟩
            have HP11 := Lib.hid (HP10.out.below hb11)
            clear HP10 hb11
            go_wp2_with fail
            refine (reight_any G hGl _).mono ?_
            rintro e w12 ⟨rfl, hb12⟩
            have HP12 := Lib.hid (HP11.out.below hb12)
            clear HP11 hb12
            go_wp2_with fail
            refine (refShortN_any (eightL G) (by rw [eightL_length]; omega) _).mono ?_
            rintro e w13 ⟨rfl, hb13⟩
            have HP13 := Lib.hid (HP12.out.below hb13)
            clear HP12 hb13
            have z1 := eight_size G
            have z2 : (bytesOf (shortL (eightL G))).size = 8 := shortL_length _
            have z3 := bytesOf_append (eightL G) (shortL (eightL G))
            go_wp2_with fail
            refine (HCALL.out _ _ _ HP13.out 1 (eightL G ++ shortL (eightL G)) _ (by rw [List.length_append, eightL_length, shortL_length]; omega) (by omega)).mono ?_
            rintro e w14 ⟨⟨v14, rfl⟩, hp14⟩
            have HP14 := Lib.hid hp14
            clear hp14 HP13
            go_wp2_with fail
            refine (HCALL.out _ _ _ HP14.out 0 [1] _ (by simp; omega) (by omega)).mono ?_
            rintro e w15 ⟨⟨v15, rfl⟩, hp15⟩
            have hd15 := hp15.stop (by omega)
            rw [← HST.out] at hd15
            have HD15 := Lib.hid hd15
            have HK15 := Lib.hid (HK3.out.trans hp15.kp)
            clear hp15 hd15 HP14
            go_wp2_with fail
            refine (HRES.out _ HD15.out).mono ?_
            rintro e w16 ⟨rfl, rfl⟩
            go_wp2
            go_ret
            rw [HRE.out]
            exact ⟨rfl, HD15.out, HK15.out⟩
      · have hxb : (x == 0) = false := by rw [beq_eq_false_iff_ne]; exact hx0
        have hsd : d.side = ((0 : Nat) : Int) := by unfold Dk.side; rw [← HX.out, if_neg hx0]; rfl
        have hot : d.other = ⟨d.hf 0, d.fuse, d.failed⟩ := by unfold Dk.other; rw [← HX.out, if_neg hx0]; rfl
        rw [hsd, hot] at HRE HRES
        clear hsd hot hx0
        go_wp2_with fail
        go_loopw [11, 12] (fun tv i wr => ∃ j' : Nat, j' ≤ k ∧ i = .int .i64 (j' : Int) ∧ tv = .string (bytesOf (encT G (l.take j'))) ∧ Hid (Below w2.heap.size w2 wr)) (fun _ i _ => k - (intOf i).toNat)
        case atStart => exact ⟨0, Nat.zero_le _, rfl, rfl, Below.refl _ _⟩
        case round =>
          obtain ⟨j', hj', rfl, rfl, hB⟩ := hrel
          by_cases hlt : j' < k
          · obtain ⟨s, hs⟩ : ∃ s, l[j']? = some s := ⟨l[j']'(by rw [← HNL.out]; exact hlt), List.getElem?_eq_getElem _⟩
            obtain ⟨sb, off, rfl, hb, hcell0⟩ := HC.out j' s hs
            have hcell : wr.cell? ⟨sb, off + j', none⟩ = some (.string (bytesOf s)) := (hB.out.cell (p := ⟨sb, off + j', none⟩) (Nat.lt_of_lt_of_le hb hS2)).trans ((HB2.out.cell (p := ⟨sb, off + j', none⟩) hb).trans hcell0)
            have hsl : s.length ≤ 65535 := by
              rcases Nat.lt_or_ge 65535 s.length with h | h
              · have := longAny_at l j' s hs h
                rw [HLA.out] at this; cases this
              · exact h
            have htk : l.take (j' + 1) = l.take j' ++ [s] := by rw [List.take_add_one, hs]; rfl
            have hrm : (encT G (l.take j')).length + 13 + s.length + 17 ≤ m := by
              have h1 := sumR_take l (j' + 1)
              have h2 := encT_length G (l.take j')
              have h3 := HSUM.out
              rw [htk, sumR_snoc] at h1
              omega
            have hES : encT G (l.take (j' + 1)) = (encT G (l.take j') ++ [1]) ++ bodyL G (17 + (encT G (l.take j')).length) s := by
              rw [htk, encT_snoc, List.append_assoc]; rfl
            have HES := Lib.hid hES
            obtain ⟨T, hTe⟩ : ∃ T, T = encT G (l.take j') := ⟨_, rfl⟩
            rw [← hTe] at hrm HES ⊢
            obtain ⟨TL, hTL⟩ : ∃ TL, TL = T.length := ⟨_, rfl⟩
            rw [← hTL] at hrm HES
            obtain ⟨K17, hK17⟩ : ∃ L, L = 17 + TL := ⟨_, rfl⟩
            rw [← hK17] at HES
            have e17 : (17 : Int) + (TL : Int) = (K17 : Int) := by omega
            have hKb : K17 ≤ 1000000 := by omega
            obtain ⟨B, hBe⟩ : ∃ B, B = bodyL G K17 s := ⟨_, rfl⟩
            have hBl : B.length = 12 + s.length := by rw [hBe, bodyL_length]
            have HBC := Lib.hid (fun W => rbody_any G K17 s hGl hKb hsl W)
            rw [← hBe] at HBC HES
            have x1 : (bytesOf T).size = TL := by rw [hTL]; rfl
            have x2 : ((bytesOf T).size : Int) = (TL : Int) := by rw [x1]
            have x3 : (bytesOf (T ++ [1])).size = TL + 1 := by show (T ++ [1]).length = _; rw [List.length_append, hTL]; rfl
            have x4 : bytesOf T ++ (⟨#[1]⟩ : ByteArray) = bytesOf (T ++ [1]) := bytesOf_append T [1]
            have x5 : (⟨#[1]⟩ : ByteArray).size = 1 := rfl
            obtain ⟨BL, hBL⟩ : ∃ BL, BL = B.length := ⟨_, rfl⟩
            have x6 : (bytesOf B).size = BL := by rw [hBL]; rfl
            have x7 : bytesOf (T ++ [1]) ++ bytesOf B = bytesOf (T ++ [1] ++ B) := bytesOf_append _ _
            have x8 : BL ≤ 70000 := by omega
            have x9 : TL ≤ 262144 := by omega
            have x10 : ¬ 9223372036854775807 < TL + 1 := by omega
            have x11 : ¬ 9223372036854775807 < TL + 1 + BL := by omega
            clear hs hcell0 htk hES hTe hTL hK17 hBe hBl hBL hrm
            go_wp2_with fail
            refine (HBC.out _).mono ?_
            rintro e w6 ⟨rfl, hb6⟩
            have HB6 := Lib.hid (hB.out.trans (hb6.mono hB.out.size))
            clear hb6
            go_wp2
            go_roundw
            case rel => exact ⟨j' + 1, by omega, by go_num, by rw [HES.out]; simp, HB6.out⟩
            case measure => simp [intOf]; omega
          · obtain rfl : j' = k := by omega
            have htl : l.take j' = l := by rw [List.take_of_length_le (by rw [← HNL.out]; exact Nat.le_refl _)]
            rw [htl]
            have hTs := encT_length G l
            obtain ⟨T, hTe⟩ : ∃ T, T = encT G l := ⟨_, rfl⟩
            rw [← hTe] at hTs ⊢
            have hst : rewS ⟨d.hf 0, d.fuse, d.failed⟩ m G l = putS (putS (putS (putS ⟨d.hf 0, d.fuse, d.failed⟩ 0 [0]) 17 (padT (m - 17) T)) 1 (eightL G ++ shortL (eightL G))) 0 [1] := by rw [hTe]; rfl
            obtain ⟨M, hM⟩ : ∃ M, M = m - 17 := ⟨_, rfl⟩
            rw [← hM] at hst
            obtain ⟨TL, hTL⟩ : ∃ TL, TL = T.length := ⟨_, rfl⟩
            have hTM : TL ≤ M := by have := HSUM.out; omega
            obtain ⟨Z, hZ⟩ : ∃ Z, Z = M - TL := ⟨_, rfl⟩
            have hM17 : (m : Int) - 17 - (TL : Int) = (Z : Int) := by omega
            have hM17' : (m : Int) - 17 = (M : Int) := by omega
            have hM17'' : (M : Int) - (TL : Int) = (Z : Int) := by omega
            have hpl := padT_length M T (by omega)
            have hZb : Z ≤ 262144 := by omega
            have hTb : TL ≤ 262144 := by omega
            have hM2 : M + 17 = m := by omega
            have x1 : (bytesOf T).size = TL := by rw [hTL]; rfl
            have x2 : ((bytesOf T).size : Int) = (TL : Int) := by rw [x1]
            have x3 : (bytesOf (List.replicate Z (0 : UInt8))).size = Z := by show (List.replicate Z (0 : UInt8)).length = Z; simp
            have x4 : bytesOf T ++ bytesOf (List.replicate Z (0 : UInt8)) = bytesOf (padT M T) := by rw [bytesOf_append]; unfold padT; rw [hZ, hTL]
            have x5 : ¬ 9223372036854775807 < TL + Z := by omega
            have hmk : ∀ W : World, (Instr.makeSlice 49 (.int .i64 (Z : Int)) (.int .i64 (Z : Int))).run Try.prog W = .ok (.slice (some ⟨W.heap.size, 0, none⟩) Z Z) (W.alloc (.cells (zrow8 Z) 5)) := fun W => make_u8 Z Z (Nat.le_refl _) (by omega) W
            have hcv : (convert 49 9 (.slice (some ⟨wr.heap.size, 0, none⟩) Z Z)).run Try.prog (wr.alloc (.cells (zrow8 Z) 5)) = .ok (.string (bytesOf (List.replicate Z 0))) (wr.alloc (.cells (zrow8 Z) 5)) := by
              have hh : HalfAt (wr.alloc (.cells (zrow8 Z) 5)) wr.heap.size (List.replicate Z 0) := ⟨5, alloc_last _ _ rfl⟩
              have := hh.text 0 Z (by simp) Z
              rw [List.drop_zero, List.take_of_length_le (by simp)] at this
              exact this
            have HB3 : Hid (Below w2.heap.size w2 (wr.alloc (.cells (zrow8 Z) 5))) := hB.out.alloc hB.out.size _
            have HD3 := Lib.hid (HD2.out.kept HB3.out)
            have HP3 : Hid (RPen (wr.alloc (.cells (zrow8 Z) 5)) p b 0 d ⟨d.hf 0, d.fuse, d.failed⟩ (wr.alloc (.cells (zrow8 Z) 5))) := RPen.start HD3.out HO.out
            have HK3 : Hid (Kp (two p b) w (wr.alloc (.cells (zrow8 Z) 5))) := Kp.of_below (HB2.out.trans (HB3.out.mono hS2))
            have kr : wr.cell? ⟨p, 0, none⟩ = some (.int .i64 (m : Int)) := by rw [HM.out]; exact (four_cells (HD2.out.kept hB.out).at_).1
            have k3 : (wr.alloc (.cells (zrow8 Z) 5)).cell? ⟨p, 0, none⟩ = some (.int .i64 (m : Int)) := by rw [HM.out]; exact (four_cells HD3.out.at_).1
            have HPL := Lib.hid hpl
            have HM2 := Lib.hid hM2
            have HST := Lib.hid hst
            have HCALL : Hid (∀ (st : Wr) (W0 W : World), RPen W0 p b 0 d st W → ∀ (q : Nat) (s : List UInt8) (z : Int), q + s.length ≤ m → z = (0 : Int) + (q : Int) → Calls Try.prog 51 #[.pointer (some ⟨p, 0, none⟩), .int .i64 z, .string (bytesOf s)] W fun e w' => (∃ v, e = .returned v) ∧ RPen W0 p b 0 d (putS st q s) w') := fun st W0 W h q s z hk hz => by
              have hmm := HM.out
              have := h.call HO.out (by omega) q s (by omega)
              rw [show ((0 * d.size + q : Nat) : Int) = z by rw [hz]; omega] at this
              exact this
            clear htl hTs hTe hM hTL hZ hpl hM2 hst hlt k0
            go_wp2_with fail
            refine (HCALL.out _ _ _ HP3.out 0 [0] _ (by simp; omega) (by omega)).mono ?_
            rintro e w9 ⟨⟨v9, rfl⟩, hp9⟩
            have HP9 := Lib.hid hp9
            clear hp9 HP3 kr k3 hcv hmk
            go_wp2_with fail
            refine (HCALL.out _ _ _ HP9.out 17 (padT M T) _ (by rw [HPL.out]; have := HM2.out; omega) (by omega)).mono ?_
            rintro e w10 ⟨⟨v10, rfl⟩, hp10⟩
            have HP10 := Lib.hid hp10
            clear hp10 HP9
            go_wp2_with fail
            refine (reight_any G hGl _).mono ?_
            rintro e w11 ⟨rfl, hb11⟩
            have HP11 := Lib.hid (HP10.out.below hb11)
            clear HP10 hb11
            go_wp2_with fail
            refine (reight_any G hGl _).mono ?_
            rintro e w12 ⟨rfl, hb12⟩
            have HP12 := Lib.hid (HP11.out.below hb12)
            clear HP11 hb12
            go_wp2_with fail
            refine (refShortN_any (eightL G) (by rw [eightL_length]; omega) _).mono ?_
            rintro e w13 ⟨rfl, hb13⟩
            have HP13 := Lib.hid (HP12.out.below hb13)
            clear HP12 hb13
            have z1 := eight_size G
            have z2 : (bytesOf (shortL (eightL G))).size = 8 := shortL_length _
            have z3 := bytesOf_append (eightL G) (shortL (eightL G))
            go_wp2_with fail
            refine (HCALL.out _ _ _ HP13.out 1 (eightL G ++ shortL (eightL G)) _ (by rw [List.length_append, eightL_length, shortL_length]; omega) (by omega)).mono ?_
            rintro e w14 ⟨⟨v14, rfl⟩, hp14⟩
            have HP14 := Lib.hid hp14
            clear hp14 HP13
            go_wp2_with fail
            refine (HCALL.out _ _ _ HP14.out 0 [1] _ (by simp; omega) (by omega)).mono ?_
            rintro e w15 ⟨⟨v15, rfl⟩, hp15⟩
            have hd15 := hp15.stop (by omega)
            rw [← HST.out] at hd15
            have HD15 := Lib.hid hd15
            have HK15 := Lib.hid (HK3.out.trans hp15.kp)
            clear hp15 hd15 HP14
            go_wp2_with fail
            refine (HRES.out _ HD15.out).mono ?_
            rintro e w16 ⟨rfl, rfl⟩
            go_wp2
            go_ret
            rw [HRE.out]
            exact ⟨rfl, HD15.out, HK15.out⟩
end Go.Proofs.Ytjfmcobikadjhaa
