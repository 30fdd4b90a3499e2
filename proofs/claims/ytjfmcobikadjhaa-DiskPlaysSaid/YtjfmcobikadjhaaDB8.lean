/- Walks: a disk: all records are replaced. -/
import Derived.Test.YtjfmcobikadjhaaDB7
namespace Go.Proofs.Ytjfmcobikadjhaa
set_option linter.all false
open Go.RowKit Go.Shelf
def rewS (st : Wr) (n g : Nat) (l : List (List UInt8)) : Wr :=
  putS (putS (putS (putS st 0 [0]) 17 (padT (n - 17) (encT g l))) 1 (eightL g ++ shortL (eightL g))) 0 [1]
def Dk.other (d : Dk) : Wr := ⟨if d.half = 0 then d.h1 else d.h0, d.fuse, d.failed⟩
def Dk.side (d : Dk) : Int := if d.half = 0 then 1 else 0
def Dk.rewritten (d : Dk) (l : List (List UInt8)) : Int × Dk :=
  if d.failed = true then (9, d) else if longAny l = true then (3, d) else if d.size < sumR l ∨ d.gen = 9223372036854775807 then (5, d) else
    ((rewS d.other d.size (d.gen + 1) l).err, d.put d.side (rewS d.other d.size (d.gen + 1) l))
theorem longAny_at (l : List (List UInt8)) (k : Nat) (s : List UInt8) (hs : l[k]? = some s) (h : 65535 < s.length) : longAny l = true := by
  unfold longAny
  rw [List.any_eq_true]
  exact ⟨s, List.mem_of_getElem? hs, by simpa using h⟩
theorem longAny_none (l : List (List UInt8)) (h : ∀ (j : Nat) (s : List UInt8), l[j]? = some s → s.length ≤ 65535) : longAny l = false := by
  unfold longAny
  rw [List.any_eq_false]
  intro s hs
  obtain ⟨j, hj⟩ := List.mem_iff_getElem?.1 hs
  have := h j s hj
  simp; omega
theorem pad_text (n : Nat) (T : List UInt8) (h17 : 17 ≤ n) (h : T.length ≤ n - 17) : ((padT n T).drop 0).take (n - 17) = padT (n - 17) T := by
  unfold padT
  rw [List.drop_zero, List.take_append, List.take_of_length_le (by omega), List.take_replicate]
  congr 2
  omega
set_option maxRecDepth 100000 in
set_option maxHeartbeats 40000000 in
theorem Rewrite_any (p b0 b1 : Nat) (d : Dk) (l : List (List UInt8)) (v : Value) (w : World) (hv : w.reads w.heap.size v (l.map strV)) (hd : DiskAt w p b0 b1 d) (ho : d.ok) :
    Calls Try.prog 13 #[.pointer (some ⟨p, 0, none⟩), v] w fun e w' => e = .returned (.int .i64 (d.rewritten l).1) ∧ DiskAt w' p b0 b1 (d.rewritten l).2 ∧ Kp (three p b0 b1) w w' := by
  have HACT := Lib.hid (active_any p b0 b1 d w hd ho)
  obtain ⟨k0, -, -, k3, -, -⟩ := four_cells hd.at_
  have HNO := Lib.hid (none_no p b0 d.size d.size w k0)
  have HD := Lib.hid hd
  have HO := Lib.hid ho
  obtain ⟨E, hE⟩ : ∃ E, E = (rewS d.other d.size (d.gen + 1) l).err := ⟨_, rfl⟩
  have HRES : Hid (∀ W, DiskAt W p b0 b1 (d.put d.side (rewS d.other d.size (d.gen + 1) l)) → Calls Try.prog 31 #[.pointer (some ⟨p, 0, none⟩)] W fun e w' => e = .returned (.int .i64 E) ∧ W = w') := fun W h => by
    refine (result_any p b0 b1 _ W h).mono ?_
    rintro e w' ⟨rfl, rfl⟩
    refine ⟨?_, rfl⟩
    rw [hE, show (d.put d.side (rewS d.other d.size (d.gen + 1) l)).failed = (rewS d.other d.size (d.gen + 1) l).failed by unfold Dk.put; split <;> rfl]
    rfl
  obtain ⟨R, hR⟩ : ∃ R, R = d.rewritten l := ⟨_, rfl⟩
  rw [← hR]
  unfold Dk.rewritten at hR
  rw [← hE] at hR
  clear hE
  have HRR := Lib.hid hR
  have h64 := ho.lo
  have hmx := ho.hi
  have HRD := Lib.hid hv
  obtain ⟨a, cap, rfl, hn, hz, hcm, hc⟩ := hv
  obtain ⟨n, hnl⟩ : ∃ n, n = l.length := ⟨_, rfl⟩
  rw [List.length_map, ← hnl] at hz HRD ⊢
  have HNL := Lib.hid hnl
  have HC : Hid (∀ (j : Nat) (s : List UInt8), l[j]? = some s → ∃ b off, a = some ⟨b, off, none⟩ ∧ b < w.heap.size ∧ w.cell? ⟨b, off + j, none⟩ = some (.string (bytesOf s))) := fun j s hs => hc j (strV s) (by simp [hs])
  have hn63 : n ≤ 9223372036854775807 := by unfold maxLen at hcm; omega
  clear hd ho k0 hR hc hn hnl hcm
  cases hfd : d.failed
  case true =>
    rw [hfd] at k3
    have hRe : R = (9, d) := by rw [HRR.out, if_pos hfd]
    go_enter Try.func13, Try.ntmps13
    go_wp2_with fail
    refine HNO.out.mono ?_
    rintro e w1 ⟨rfl, rfl⟩
    go_wp2
    go_ret
    rw [hRe]
    exact ⟨rfl, HD.out, Kp.refl _ _⟩
  case false =>
  rw [hfd] at k3
  have hnf : ¬ d.failed = true := by rw [hfd]; simp
  rw [if_neg hnf] at HRR
  clear hfd hnf
  obtain ⟨k0, k1, -, -, -, -⟩ := four_cells HD.out.at_
  clear k1
  go_enter Try.func13, Try.ntmps13
  go_wp2_with fail
  refine HNO.out.mono ?_
  rintro e w1 ⟨rfl, rfl⟩
  go_wp2_with fail
  go_loop [6, 32] (fun nd i => ∃ k : Nat, k ≤ n ∧ i = .int .i64 (k : Int) ∧ nd = .int .i64 (needF d.size (l.take k) : Int) ∧ Hid (∀ (j : Nat) (s : List UInt8), j < k → l[j]? = some s → s.length ≤ 65535)) (fun _ i => n - (intOf i).toNat)
  case atStart => exact ⟨0, Nat.zero_le _, rfl, rfl, fun j s hj => by omega⟩
  case round =>
    obtain ⟨k, hk, rfl, rfl, hsh⟩ := hrel
    by_cases hlt : k < n
    · obtain ⟨s, hs⟩ : ∃ s, l[k]? = some s := ⟨l[k]'(by rw [← HNL.out]; exact hlt), List.getElem?_eq_getElem _⟩
      obtain ⟨b, off, rfl, hb, hcell⟩ := HC.out k s hs
      obtain ⟨m, hm⟩ : ∃ m, m = s.length := ⟨_, rfl⟩
      have hsz : (bytesOf s).size = m := by rw [hm]; rfl
      have hsz1 : ((bytesOf s).size : Int) = (m : Int) := by rw [hsz]
      have HS := Lib.hid hs
      have HM := Lib.hid hm
      clear hs hm
      by_cases hlong : 65535 < m
      · have hl1 : (65535 : Int) < (m : Int) := by omega
        have hRe : R = (3, d) := by rw [HRR.out, if_pos (longAny_at l k s HS.out (by rw [← HM.out]; exact hlong))]
        have HRE := Lib.hid hRe
        clear hRe
        go_wp2
        go_ret
        rw [HRE.out]
        exact ⟨rfl, HD.out, Kp.refl _ _⟩
      have hl1 : ¬ (65535 : Int) < (m : Int) := by omega
      have htk : l.take (k + 1) = l.take k ++ [s] := by rw [List.take_add_one, HS.out]; rfl
      have hnd := needF_snoc d.size (l.take k) s
      have hnb := needF_le d.size (l.take k) (by omega)
      rw [← htk, ← HM.out] at hnd
      have HND := Lib.hid hnd
      have HSH : Hid (∀ (j : Nat) (s : List UInt8), j < k + 1 → l[j]? = some s → s.length ≤ 65535) := fun j s' hj hs' => by
        rcases Nat.lt_or_ge j k with h | h
        · exact hsh.out j s' h hs'
        · have e : j = k := by omega
          rw [e, HS.out] at hs'
          injection hs' with hs'
          rw [← hs', ← HM.out]; omega
      obtain ⟨N, hN⟩ : ∃ N, N = needF d.size (l.take k) := ⟨_, rfl⟩
      rw [← hN] at hnb HND ⊢
      clear hnd htk hN
      by_cases hmin : N + 13 + m ≤ d.size + 1
      · have hmin1 : (N : Int) + 13 + (m : Int) ≤ (d.size : Int) + 1 := by omega
        have hmin2 : ¬ (d.size : Int) + 1 < (N : Int) + 13 + (m : Int) := by omega
        go_wp2
        go_round
        case rel => exact ⟨k + 1, by omega, by go_num, by rw [HND.out, Nat.min_eq_left hmin]; go_num, HSH.out⟩
        case measure => simp [intOf]; omega
      · have hmin1 : (d.size : Int) + 1 < (N : Int) + 13 + (m : Int) := by omega
        have hmin2 : ¬ (N : Int) + 13 + (m : Int) ≤ (d.size : Int) + 1 := by omega
        go_wp2
        go_round
        case rel => exact ⟨k + 1, by omega, by go_num, by rw [HND.out, Nat.min_eq_right (by omega)]; go_num, HSH.out⟩
        case measure => simp [intOf]; omega
    · obtain rfl : k = n := by omega
      have htl : l.take k = l := by rw [List.take_of_length_le (by rw [← HNL.out]; exact Nat.le_refl _)]
      have hla : longAny l = false := longAny_none l (fun j s hj => by
        have hlt : j < l.length := (List.getElem?_eq_some_iff.1 hj).1
        exact hsh.out j s (by rw [HNL.out]; exact hlt) hj)
      have hnd := needF_eq d.size l (by omega)
      rw [htl]
      rw [hla, if_neg (by simp)] at HRR
      obtain ⟨N, hN⟩ : ∃ N, N = needF d.size l := ⟨_, rfl⟩
      rw [← hN] at hnd ⊢
      have hNi : d.size < N ↔ d.size < sumR l := by omega
      have HNI := Lib.hid hNi
      have HLA := Lib.hid hla
      obtain ⟨x, hx⟩ : ∃ x, x = d.half := ⟨_, rfl⟩
      obtain ⟨y, hy⟩ : ∃ y, y = d.gen := ⟨_, rfl⟩
      rw [← hx, ← hy] at HACT
      rw [← hy] at HRR HRES
      have hyl : y < 9223372036854775808 := by have := d.gen_lt; omega
      have HX := Lib.hid hx
      have HY := Lib.hid hy
      have hnb : N ≤ d.size + 1 := by omega
      clear htl hla hnd hN hNi hx hy hsh hlt hk
      go_wp2_with fail
      refine HACT.out.mono ?_
      rintro e w2 ⟨rfl, hb2⟩
      have HD2 := Lib.hid (HD.out.kept hb2)
      clear k0 k3
      by_cases hfull : d.size < N
      · have hf1 : (d.size : Int) < (N : Int) := by omega
        have hRe : R = (5, d) := by rw [HRR.out, if_pos (Or.inl (HNI.out.1 hfull))]
        have HRE := Lib.hid hRe
        clear hRe
        go_wp2
        go_ret
        rw [HRE.out]
        exact ⟨rfl, HD2.out, Kp.of_below hb2⟩
      have hf1 : ¬ (d.size : Int) < (N : Int) := by omega
      by_cases hlast : y = 9223372036854775807
      · have hf2 : ((y : Int) == 9223372036854775807) = true := by rw [hlast]; rfl
        have hRe : R = (5, d) := by rw [HRR.out, if_pos (Or.inr hlast)]
        have HRE := Lib.hid hRe
        clear hRe hlast
        go_wp2
        go_ret
        rw [HRE.out]
        exact ⟨rfl, HD2.out, Kp.of_below hb2⟩
      have hf2 : ((y : Int) == 9223372036854775807) = false := by rw [beq_eq_false_iff_ne]; omega
      have hsum : sumR l ≤ d.size := by have := HNI.out; omega
      have hRe : R = (E, d.put d.side (rewS d.other d.size (y + 1) l)) := by
        rw [HRR.out, if_neg]
        rintro (h | h)
        · omega
        · exact hlast h
      have HRE := Lib.hid hRe
      obtain ⟨G, hG⟩ : ∃ G, G = y + 1 := ⟨_, rfl⟩
      have hwg : IntKind.u64.wrap ((y : Int) + 1) = (G : Int) := by rw [IntWalk.u64_in _ ⟨by omega, by omega⟩]; omega
      rw [← hG] at HRE HRES
      have hGl : G < 18446744073709551616 := by omega
      have HSUM := Lib.hid hsum
      have hmk : ∀ W : World, (Instr.makeSlice 49 (.int .i64 0) (.int .i64 (d.size : Int))).run Try.prog W = .ok (.slice (some ⟨W.heap.size, 0, none⟩) 0 d.size) (W.alloc (.cells (zrow8 d.size) 5)) := fun W => by
        simpa using make_u8 0 d.size (Nat.zero_le _) (by omega) W
      clear hRe hlast hsum hG
      obtain ⟨k0, k1, -, -, -, -⟩ := four_cells HD2.out.at_
      by_cases hx0 : x = 0
      · have hxb : (x == 0) = true := by rw [hx0]; rfl
        have hsd : d.side = 1 := by unfold Dk.side; rw [← HX.out, if_pos hx0]
        have hot : d.other = ⟨d.h1, d.fuse, d.failed⟩ := by unfold Dk.other; rw [← HX.out, if_pos hx0]
        rw [hsd, hot] at HRE HRES
        clear hsd hot hx0
        go_wp2_with fail
        have hS2 := hb2.size
        obtain ⟨tb, htb⟩ : ∃ tb, tb = w2.heap.size := ⟨_, rfl⟩
        have hl0 : Hid (TextAt (w2.alloc (.cells (zrow8 d.size) 5)) tb d.size (encT G (l.take 0))) := by
          have e : padT d.size [] = List.replicate d.size 0 := by unfold padT; simp
          show (w2.alloc _).heap[tb]? = _
          rw [htb, show encT G (l.take 0) = [] from rfl, e]
          exact alloc_last _ _ rfl
        have hB0 : Below w2.heap.size w2 (w2.alloc (.cells (zrow8 d.size) 5)) := (Below.refl _ _).alloc (Nat.le_refl _) _
        have hZ0 : w2.heap.size < (w2.alloc (.cells (zrow8 d.size) 5)).heap.size := by simp
        rw [← htb]
        have HTB := Lib.hid htb
        have HB2 := Lib.hid hb2
        clear k0 k1 hmk hb2 htb
        generalize w2.alloc (.cells (zrow8 d.size) 5) = w3 at hl0 hB0 hZ0 ⊢
        have HB0 := Lib.hid hB0
        have HZ0 := Lib.hid hZ0
        clear hB0 hZ0
        go_loopw [12, 78] (fun tv i wr => ∃ k' : Nat, k' ≤ k ∧ i = .int .i64 (k' : Int) ∧ tv = .slice (some ⟨tb, 0, none⟩) (encT G (l.take k')).length d.size ∧ Hid (TextAt wr tb d.size (encT G (l.take k'))) ∧ Hid (Below w2.heap.size w2 wr) ∧ w2.heap.size < wr.heap.size) (fun _ i _ => k - (intOf i).toNat)
        case atStart => exact ⟨0, Nat.zero_le _, rfl, rfl, hl0.out, HB0.out, HZ0.out⟩
        case round =>
          obtain ⟨k', hk', rfl, rfl, hT, hB, hZ⟩ := hrel
          have hTBl : w2.heap.size ≤ tb := by have := HTB.out; omega
          have hTBr : tb < wr.heap.size := by have := HTB.out; omega
          by_cases hlt : k' < k
          · obtain ⟨s, hs⟩ : ∃ s, l[k']? = some s := ⟨l[k']'(by rw [← HNL.out]; exact hlt), List.getElem?_eq_getElem _⟩
            obtain ⟨b, off, rfl, hb, hcell0⟩ := HC.out k' s hs
            have hcell : wr.cell? ⟨b, off + k', none⟩ = some (.string (bytesOf s)) := (hB.out.cell (p := ⟨b, off + k', none⟩) (Nat.lt_of_lt_of_le hb hS2)).trans ((HB2.out.cell (p := ⟨b, off + k', none⟩) hb).trans hcell0)
            have hsl : s.length ≤ 65535 := by
              rcases Nat.lt_or_ge 65535 s.length with h | h
              · have := longAny_at l k' s hs h
                rw [HLA.out] at this; cases this
              · exact h
            have htk : l.take (k' + 1) = l.take k' ++ [s] := by rw [List.take_add_one, hs]; rfl
            have hrm : (encT G (l.take k')).length + 13 + s.length + 17 ≤ d.size := by
              have h1 := sumR_take l (k' + 1)
              have h2 := encT_length G (l.take k')
              have h3 := HSUM.out
              rw [htk, sumR_snoc] at h1
              omega
            have hES : encT G (l.take (k' + 1)) = (encT G (l.take k') ++ [1]) ++ bodyL G (17 + (encT G (l.take k')).length) s := by
              rw [htk, encT_snoc, List.append_assoc]; rfl
            have HES := Lib.hid hES
            obtain ⟨T, hTe⟩ : ∃ T, T = encT G (l.take k') := ⟨_, rfl⟩
            rw [← hTe] at hrm HES hT ⊢
            obtain ⟨TL, hTL⟩ : ∃ TL, TL = T.length := ⟨_, rfl⟩
            rw [← hTL] at hrm HES ⊢
            obtain ⟨L1, hL1⟩ : ∃ L, L = TL + 1 := ⟨_, rfl⟩
            obtain ⟨K17, hK17⟩ : ∃ L, L = 17 + TL := ⟨_, rfl⟩
            rw [← hK17] at HES
            have e17 : (17 : Int) + (L1 : Int) - 1 = (K17 : Int) := by omega
            have hw4 : (wr.alloc (.cells #[.int .u8 1] 5)).cell? ⟨wr.heap.size, 0, none⟩ = some (byteV 1) := by
              have e : (wr.alloc (.cells #[.int .u8 1] 5)).heap[wr.heap.size]? = some (.cells #[.int .u8 1] 5) := alloc_last _ _ rfl
              unfold World.cell?; simp only [e]; rfl
            have hT4 : TextAt (wr.alloc (.cells #[.int .u8 1] 5)) tb d.size T := (Below.heap_alloc _ _ _ (by omega)).trans hT.out
            obtain ⟨w5, hr5, ht5, hk5⟩ := text_one (wr.alloc (.cells #[.int .u8 1] 5)) tb d.size T 1 49 hT4 (by omega) ⟨wr.heap.size, 0, none⟩ 1 hw4
            rw [← hTL, ← hL1] at hr5
            have hz5 := hk5.size
            simp only [World.size_alloc] at hz5
            have HB5 : Hid (Below w2.heap.size w2 w5) := (hB.out.alloc (Nat.le_of_lt hZ) _).trans (hk5.below (by simp; omega) (fun q e => by subst e; omega))
            have HT5 := Lib.hid ht5
            have HL1 := Lib.hid hL1
            have HTL := Lib.hid hTL
            have hTLb : TL + 30 + s.length ≤ d.size := by omega
            have hL1b : L1 ≤ d.size := by omega
            have hKb : K17 ≤ 1000000 := by omega
            clear hs hcell0 htk hES hTe hT4 hw4 ht5 hk5 hT hB hl0 hrm hL1 hTL hK17
            go_wp2_with (at_builtin; refine wpList_app_run _ rfl (.tmp 82) (.tmp 83) 49 49 rfl _ _ rfl rfl hr5 ?_)
            refine (body_any G K17 s hGl hKb hsl _).mono ?_
            rintro e w6 ⟨rfl, hb6⟩
            have ht6 : TextAt w6 tb d.size (T ++ [1]) := (hb6.block _ (by omega)).trans HT5.out
            obtain ⟨w7, hr7, ht7, hk7⟩ := text_str w6 tb d.size (T ++ [1]) (bodyL G K17 s) 49 ht6 (by rw [List.length_append, List.length_singleton, bodyL_length, ← HTL.out]; omega)
            rw [List.length_append, List.length_singleton, ← HTL.out, ← HL1.out] at hr7
            have hz6 := hb6.size
            have hz7 := hk7.size
            have HB7 : Hid (Below w2.heap.size w2 w7) := (HB5.out.trans (hb6.mono (by omega))).trans (hk7.below (by omega) (fun q e => by subst e; omega))
            have HT7 := Lib.hid ht7
            clear ht6 ht7 hb6 hk7 hr5
            go_wp2_with (at_builtin; refine wpList_app_run _ rfl (.tmp 85) (.tmp 92) 49 9 rfl _ _ rfl rfl hr7 ?_)
            go_roundw
            case rel =>
              refine ⟨k' + 1, by omega, by go_num, ?_, ?_, HB7.out, by omega⟩
              · rw [HES.out, List.length_append, List.length_append, List.length_singleton, ← HTL.out, ← HL1.out]
              · rw [HES.out]; exact HT7.out
            case measure => simp [intOf]; omega
          · obtain rfl : k' = k := by omega
            have htl : l.take k' = l := by rw [List.take_of_length_le (by rw [← HNL.out]; exact Nat.le_refl _)]
            rw [htl] at hT ⊢
            have hTs := encT_length G l
            obtain ⟨T, hTe⟩ : ∃ T, T = encT G l := ⟨_, rfl⟩
            rw [← hTe] at hT hTs ⊢
            have hst : rewS ⟨d.h1, d.fuse, d.failed⟩ d.size G l = putS (putS (putS (putS ⟨d.h1, d.fuse, d.failed⟩ 0 [0]) 17 (padT (d.size - 17) T)) 1 (eightL G ++ shortL (eightL G))) 0 [1] := by rw [hTe]; rfl
            obtain ⟨M, hM⟩ : ∃ M, M = d.size - 17 := ⟨_, rfl⟩
            rw [← hM] at hst
            have hM17 : (d.size : Int) - 17 = (M : Int) := by omega
            have hMs : M ≤ d.size := by omega
            have hTM : T.length ≤ M := by have := HSUM.out; omega
            have hM2 : M + 17 = d.size := by omega
            have hpl := padT_length M T hTM
            have hpt : ((padT d.size T).drop 0).take M = padT M T := by rw [hM]; exact pad_text d.size T (by omega) (by omega)
            have hpd : (padT d.size T).length = d.size := padT_length d.size T (by omega)
            have HPT := Lib.hid hpt
            have HPD := Lib.hid hpd
            have HPL := Lib.hid hpl
            have HM2 := Lib.hid hM2
            have HDr := Lib.hid (HD2.out.kept hB.out)
            have HST := Lib.hid hst
            have htn : ¬ two p b1 tb := by
              have h1 := lt_of_heap HD2.out.at_
              have h2 := HD2.out.a1.lt
              rintro (q | q) <;> omega
            have HTN := Lib.hid htn
            have hTL2 : T.length ≤ d.size := by omega
            have HWK : Hid (Below w.heap.size w wr) := HB2.out.trans (hB.out.mono hS2)
            clear htl hTs hTe hM hpt hpd hpl hM2 hst htn hlt hl0
            go_wp2_with fail
            refine (writer_any p b1 d.size _).mono ?_
            rintro e w8 ⟨rfl, hw8⟩
            have HP8 := Lib.hid (Pen.start (HDr.out.wr1 HO.out) hw8)
            obtain ⟨c1, hc1⟩ : ∃ c, c = wr.heap.size := ⟨_, rfl⟩
            obtain ⟨c2, hc2⟩ : ∃ c, c = wr.heap.size + 1 := ⟨_, rfl⟩
            rw [← hc2, ← hc1] at HP8 ⊢
            clear hw8 hc1 hc2
            go_wp2_with fail
            go_at_call 45
            refine (HP8.out.call 0 [0] (by simp; omega) hmx).mono ?_
            rintro e w9 ⟨⟨v9, rfl⟩, hp9⟩
            have HP9 := Lib.hid hp9
            have ht9 : TextAt w9 tb d.size T := (hp9.kp.block tb hTBr HTN.out).trans hT.out
            have hcv : ∀ c, (convert 49 9 (.slice (some ⟨tb, 0, none⟩) M c)).run Try.prog w9 = .ok (.string (bytesOf (padT M T))) w9 := fun c => by
              have := HalfAt.text ⟨_, ht9⟩ 0 M (by rw [HPD.out]; omega) c
              rw [HPT.out] at this
              exact this
            clear hp9 HP8 ht9
            go_wp2_with fail
            go_at_call 45
            refine (HP9.out.call 17 (padT M T) (by rw [HPL.out]; have := HM2.out; omega) hmx).mono ?_
            rintro e w10 ⟨⟨v10, rfl⟩, hp10⟩
            have HP10 := Lib.hid hp10
            clear hp10 HP9 hcv
            go_wp2_with fail
            refine (eightN_any G hGl _).mono ?_
            rintro e w11 ⟨rfl, hb11⟩
            have HP11 := Lib.hid (HP10.out.below hb11)
            clear HP10 hb11
            go_wp2_with fail
            refine (eightN_any G hGl _).mono ?_
            rintro e w12 ⟨rfl, hb12⟩
            have HP12 := Lib.hid (HP11.out.below hb12)
            clear HP11 hb12
            go_wp2_with fail
            refine (shortN_any (eightL G) (by rw [eightL_length]; omega) _).mono ?_
            rintro e w13 ⟨rfl, hb13⟩
            have HP13 := Lib.hid (HP12.out.below hb13)
            clear HP12 hb13
            have z1 := eight_size G
            have z2 : (bytesOf (shortL (eightL G))).size = 8 := shortL_length _
            have z3 := bytesOf_append (eightL G) (shortL (eightL G))
            go_wp2_with fail
            go_at_call 45
            refine (HP13.out.call 1 (eightL G ++ shortL (eightL G)) (by rw [List.length_append, eightL_length, shortL_length]; omega) hmx).mono ?_
            rintro e w14 ⟨⟨v14, rfl⟩, hp14⟩
            have HP14 := Lib.hid hp14
            clear hp14 HP13
            go_wp2_with fail
            go_at_call 45
            refine (HP14.out.call 0 [1] (by simp; omega) hmx).mono ?_
            rintro e w15 ⟨⟨v15, rfl⟩, hp15⟩
            have hd15 := HDr.out.back1 hp15.kp hp15.wr
            rw [← HST.out] at hd15
            have HD15 := Lib.hid hd15
            have HK15 := Lib.hid ((Kp.of_below (P := three p b0 b1) HWK.out).trans (hp15.kp.mono (fun k q => Or.elim q Or.inl (fun q => Or.inr (Or.inr q)))))
            clear hp15 hd15 HP14
            go_wp2_with fail
            refine (HRES.out _ HD15.out).mono ?_
            rintro e w16 ⟨rfl, rfl⟩
            go_wp2
            go_ret
            rw [HRE.out]
            exact ⟨rfl, HD15.out, HK15.out⟩
      · have hxb : (x == 0) = false := by rw [beq_eq_false_iff_ne]; exact hx0
        have hsd : d.side = 0 := by unfold Dk.side; rw [← HX.out, if_neg hx0]
        have hot : d.other = ⟨d.h0, d.fuse, d.failed⟩ := by unfold Dk.other; rw [← HX.out, if_neg hx0]
        rw [hsd, hot] at HRE HRES
        clear hsd hot hx0
        go_wp2_with fail
        have hS2 := hb2.size
        obtain ⟨tb, htb⟩ : ∃ tb, tb = w2.heap.size := ⟨_, rfl⟩
        have hl0 : Hid (TextAt (w2.alloc (.cells (zrow8 d.size) 5)) tb d.size (encT G (l.take 0))) := by
          have e : padT d.size [] = List.replicate d.size 0 := by unfold padT; simp
          show (w2.alloc _).heap[tb]? = _
          rw [htb, show encT G (l.take 0) = [] from rfl, e]
          exact alloc_last _ _ rfl
        have hB0 : Below w2.heap.size w2 (w2.alloc (.cells (zrow8 d.size) 5)) := (Below.refl _ _).alloc (Nat.le_refl _) _
        have hZ0 : w2.heap.size < (w2.alloc (.cells (zrow8 d.size) 5)).heap.size := by simp
        rw [← htb]
        have HTB := Lib.hid htb
        have HB2 := Lib.hid hb2
        clear k0 k1 hmk hb2 htb
        generalize w2.alloc (.cells (zrow8 d.size) 5) = w3 at hl0 hB0 hZ0 ⊢
        have HB0 := Lib.hid hB0
        have HZ0 := Lib.hid hZ0
        clear hB0 hZ0
        go_loopw [12, 78] (fun tv i wr => ∃ k' : Nat, k' ≤ k ∧ i = .int .i64 (k' : Int) ∧ tv = .slice (some ⟨tb, 0, none⟩) (encT G (l.take k')).length d.size ∧ Hid (TextAt wr tb d.size (encT G (l.take k'))) ∧ Hid (Below w2.heap.size w2 wr) ∧ w2.heap.size < wr.heap.size) (fun _ i _ => k - (intOf i).toNat)
        case atStart => exact ⟨0, Nat.zero_le _, rfl, rfl, hl0.out, HB0.out, HZ0.out⟩
        case round =>
          obtain ⟨k', hk', rfl, rfl, hT, hB, hZ⟩ := hrel
          have hTBl : w2.heap.size ≤ tb := by have := HTB.out; omega
          have hTBr : tb < wr.heap.size := by have := HTB.out; omega
          by_cases hlt : k' < k
          · obtain ⟨s, hs⟩ : ∃ s, l[k']? = some s := ⟨l[k']'(by rw [← HNL.out]; exact hlt), List.getElem?_eq_getElem _⟩
            obtain ⟨b, off, rfl, hb, hcell0⟩ := HC.out k' s hs
            have hcell : wr.cell? ⟨b, off + k', none⟩ = some (.string (bytesOf s)) := (hB.out.cell (p := ⟨b, off + k', none⟩) (Nat.lt_of_lt_of_le hb hS2)).trans ((HB2.out.cell (p := ⟨b, off + k', none⟩) hb).trans hcell0)
            have hsl : s.length ≤ 65535 := by
              rcases Nat.lt_or_ge 65535 s.length with h | h
              · have := longAny_at l k' s hs h
                rw [HLA.out] at this; cases this
              · exact h
            have htk : l.take (k' + 1) = l.take k' ++ [s] := by rw [List.take_add_one, hs]; rfl
            have hrm : (encT G (l.take k')).length + 13 + s.length + 17 ≤ d.size := by
              have h1 := sumR_take l (k' + 1)
              have h2 := encT_length G (l.take k')
              have h3 := HSUM.out
              rw [htk, sumR_snoc] at h1
              omega
            have hES : encT G (l.take (k' + 1)) = (encT G (l.take k') ++ [1]) ++ bodyL G (17 + (encT G (l.take k')).length) s := by
              rw [htk, encT_snoc, List.append_assoc]; rfl
            have HES := Lib.hid hES
            obtain ⟨T, hTe⟩ : ∃ T, T = encT G (l.take k') := ⟨_, rfl⟩
            rw [← hTe] at hrm HES hT ⊢
            obtain ⟨TL, hTL⟩ : ∃ TL, TL = T.length := ⟨_, rfl⟩
            rw [← hTL] at hrm HES ⊢
            obtain ⟨L1, hL1⟩ : ∃ L, L = TL + 1 := ⟨_, rfl⟩
            obtain ⟨K17, hK17⟩ : ∃ L, L = 17 + TL := ⟨_, rfl⟩
            rw [← hK17] at HES
            have e17 : (17 : Int) + (L1 : Int) - 1 = (K17 : Int) := by omega
            have hw4 : (wr.alloc (.cells #[.int .u8 1] 5)).cell? ⟨wr.heap.size, 0, none⟩ = some (byteV 1) := by
              have e : (wr.alloc (.cells #[.int .u8 1] 5)).heap[wr.heap.size]? = some (.cells #[.int .u8 1] 5) := alloc_last _ _ rfl
              unfold World.cell?; simp only [e]; rfl
            have hT4 : TextAt (wr.alloc (.cells #[.int .u8 1] 5)) tb d.size T := (Below.heap_alloc _ _ _ (by omega)).trans hT.out
            obtain ⟨w5, hr5, ht5, hk5⟩ := text_one (wr.alloc (.cells #[.int .u8 1] 5)) tb d.size T 1 49 hT4 (by omega) ⟨wr.heap.size, 0, none⟩ 1 hw4
            rw [← hTL, ← hL1] at hr5
            have hz5 := hk5.size
            simp only [World.size_alloc] at hz5
            have HB5 : Hid (Below w2.heap.size w2 w5) := (hB.out.alloc (Nat.le_of_lt hZ) _).trans (hk5.below (by simp; omega) (fun q e => by subst e; omega))
            have HT5 := Lib.hid ht5
            have HL1 := Lib.hid hL1
            have HTL := Lib.hid hTL
            have hTLb : TL + 30 + s.length ≤ d.size := by omega
            have hL1b : L1 ≤ d.size := by omega
            have hKb : K17 ≤ 1000000 := by omega
            clear hs hcell0 htk hES hTe hT4 hw4 ht5 hk5 hT hB hl0 hrm hL1 hTL hK17
            go_wp2_with (at_builtin; refine wpList_app_run _ rfl (.tmp 82) (.tmp 83) 49 49 rfl _ _ rfl rfl hr5 ?_)
            refine (body_any G K17 s hGl hKb hsl _).mono ?_
            rintro e w6 ⟨rfl, hb6⟩
            have ht6 : TextAt w6 tb d.size (T ++ [1]) := (hb6.block _ (by omega)).trans HT5.out
            obtain ⟨w7, hr7, ht7, hk7⟩ := text_str w6 tb d.size (T ++ [1]) (bodyL G K17 s) 49 ht6 (by rw [List.length_append, List.length_singleton, bodyL_length, ← HTL.out]; omega)
            rw [List.length_append, List.length_singleton, ← HTL.out, ← HL1.out] at hr7
            have hz6 := hb6.size
            have hz7 := hk7.size
            have HB7 : Hid (Below w2.heap.size w2 w7) := (HB5.out.trans (hb6.mono (by omega))).trans (hk7.below (by omega) (fun q e => by subst e; omega))
            have HT7 := Lib.hid ht7
            clear ht6 ht7 hb6 hk7 hr5
            go_wp2_with (at_builtin; refine wpList_app_run _ rfl (.tmp 85) (.tmp 92) 49 9 rfl _ _ rfl rfl hr7 ?_)
            go_roundw
            case rel =>
              refine ⟨k' + 1, by omega, by go_num, ?_, ?_, HB7.out, by omega⟩
              · rw [HES.out, List.length_append, List.length_append, List.length_singleton, ← HTL.out, ← HL1.out]
              · rw [HES.out]; exact HT7.out
            case measure => simp [intOf]; omega
          · obtain rfl : k' = k := by omega
            have htl : l.take k' = l := by rw [List.take_of_length_le (by rw [← HNL.out]; exact Nat.le_refl _)]
            rw [htl] at hT ⊢
            have hTs := encT_length G l
            obtain ⟨T, hTe⟩ : ∃ T, T = encT G l := ⟨_, rfl⟩
            rw [← hTe] at hT hTs ⊢
            have hst : rewS ⟨d.h0, d.fuse, d.failed⟩ d.size G l = putS (putS (putS (putS ⟨d.h0, d.fuse, d.failed⟩ 0 [0]) 17 (padT (d.size - 17) T)) 1 (eightL G ++ shortL (eightL G))) 0 [1] := by rw [hTe]; rfl
            obtain ⟨M, hM⟩ : ∃ M, M = d.size - 17 := ⟨_, rfl⟩
            rw [← hM] at hst
            have hM17 : (d.size : Int) - 17 = (M : Int) := by omega
            have hMs : M ≤ d.size := by omega
            have hTM : T.length ≤ M := by have := HSUM.out; omega
            have hM2 : M + 17 = d.size := by omega
            have hpl := padT_length M T hTM
            have hpt : ((padT d.size T).drop 0).take M = padT M T := by rw [hM]; exact pad_text d.size T (by omega) (by omega)
            have hpd : (padT d.size T).length = d.size := padT_length d.size T (by omega)
            have HPT := Lib.hid hpt
            have HPD := Lib.hid hpd
            have HPL := Lib.hid hpl
            have HM2 := Lib.hid hM2
            have HDr := Lib.hid (HD2.out.kept hB.out)
            have HST := Lib.hid hst
            have htn : ¬ two p b0 tb := by
              have h1 := lt_of_heap HD2.out.at_
              have h2 := HD2.out.a0.lt
              rintro (q | q) <;> omega
            have HTN := Lib.hid htn
            have hTL2 : T.length ≤ d.size := by omega
            have HWK : Hid (Below w.heap.size w wr) := HB2.out.trans (hB.out.mono hS2)
            clear htl hTs hTe hM hpt hpd hpl hM2 hst htn hlt hl0
            go_wp2_with fail
            refine (writer_any p b0 d.size _).mono ?_
            rintro e w8 ⟨rfl, hw8⟩
            have HP8 := Lib.hid (Pen.start (HDr.out.wr0 HO.out) hw8)
            obtain ⟨c1, hc1⟩ : ∃ c, c = wr.heap.size := ⟨_, rfl⟩
            obtain ⟨c2, hc2⟩ : ∃ c, c = wr.heap.size + 1 := ⟨_, rfl⟩
            rw [← hc2, ← hc1] at HP8 ⊢
            clear hw8 hc1 hc2
            go_wp2_with fail
            go_at_call 45
            refine (HP8.out.call 0 [0] (by simp; omega) hmx).mono ?_
            rintro e w9 ⟨⟨v9, rfl⟩, hp9⟩
            have HP9 := Lib.hid hp9
            have ht9 : TextAt w9 tb d.size T := (hp9.kp.block tb hTBr HTN.out).trans hT.out
            have hcv : ∀ c, (convert 49 9 (.slice (some ⟨tb, 0, none⟩) M c)).run Try.prog w9 = .ok (.string (bytesOf (padT M T))) w9 := fun c => by
              have := HalfAt.text ⟨_, ht9⟩ 0 M (by rw [HPD.out]; omega) c
              rw [HPT.out] at this
              exact this
            clear hp9 HP8 ht9
            go_wp2_with fail
            go_at_call 45
            refine (HP9.out.call 17 (padT M T) (by rw [HPL.out]; have := HM2.out; omega) hmx).mono ?_
            rintro e w10 ⟨⟨v10, rfl⟩, hp10⟩
            have HP10 := Lib.hid hp10
            clear hp10 HP9 hcv
            go_wp2_with fail
            refine (eightN_any G hGl _).mono ?_
            rintro e w11 ⟨rfl, hb11⟩
            have HP11 := Lib.hid (HP10.out.below hb11)
            clear HP10 hb11
            go_wp2_with fail
            refine (eightN_any G hGl _).mono ?_
            rintro e w12 ⟨rfl, hb12⟩
            have HP12 := Lib.hid (HP11.out.below hb12)
            clear HP11 hb12
            go_wp2_with fail
            refine (shortN_any (eightL G) (by rw [eightL_length]; omega) _).mono ?_
            rintro e w13 ⟨rfl, hb13⟩
            have HP13 := Lib.hid (HP12.out.below hb13)
            clear HP12 hb13
            have z1 := eight_size G
            have z2 : (bytesOf (shortL (eightL G))).size = 8 := shortL_length _
            have z3 := bytesOf_append (eightL G) (shortL (eightL G))
            go_wp2_with fail
            go_at_call 45
            refine (HP13.out.call 1 (eightL G ++ shortL (eightL G)) (by rw [List.length_append, eightL_length, shortL_length]; omega) hmx).mono ?_
            rintro e w14 ⟨⟨v14, rfl⟩, hp14⟩
            have HP14 := Lib.hid hp14
            clear hp14 HP13
            go_wp2_with fail
            go_at_call 45
            refine (HP14.out.call 0 [1] (by simp; omega) hmx).mono ?_
            rintro e w15 ⟨⟨v15, rfl⟩, hp15⟩
            have hd15 := HDr.out.back0 hp15.kp hp15.wr
            rw [← HST.out] at hd15
            have HD15 := Lib.hid hd15
            have HK15 := Lib.hid ((Kp.of_below (P := three p b0 b1) HWK.out).trans (hp15.kp.mono (fun k q => Or.elim q Or.inl (fun q => Or.inr (Or.inl q)))))
            clear hp15 hd15 HP14
            go_wp2_with fail
            refine (HRES.out _ HD15.out).mono ?_
            rintro e w16 ⟨rfl, rfl⟩
            go_wp2
            go_ret
            rw [HRE.out]
            exact ⟨rfl, HD15.out, HK15.out⟩
end Go.Proofs.Ytjfmcobikadjhaa
