/- The reference: the decimal text of a form. -/
import Derived.Test.YtdfklcmiagmgaaaXG1
import Derived.Test.YtdfklcmiagmgaaaWQ3
namespace Go.Proofs.Ytdfklcmiagmgaaa
set_option linter.all false
open Go.RowKit Go.Shelf Go.WideNum
/-- The lowest k digits as a text. -/
def decS (n k : Nat) : ByteArray := ⟨((decDig n k).reverse.map UInt8.ofNat).toArray⟩
theorem decS_zero (n : Nat) : decS n 0 = ⟨#[]⟩ := rfl
theorem decS_size (n k : Nat) : (decS n k).size = k := by
  show (List.toArray _).size = k
  simp [decDig]
theorem decS_succ (n k : Nat) : (⟨#[UInt8.ofNat (48 + dig 10 n k)]⟩ : ByteArray) ++ decS n k = decS n (k + 1) := by
  apply ByteArray.ext
  unfold decS
  rw [decDig_succ, List.reverse_append, List.map_append]
  simp [ByteArray.data_append]
theorem textB_dec (neg : Bool) (n : Nat) (hn : n ≠ 0) : textB neg n = (if neg then (⟨#[45]⟩ : ByteArray) else ⟨#[]⟩) ++ decS n (words 10 n).length := by
  unfold textB textL textN decS
  rw [if_neg hn]
  apply ByteArray.ext
  cases neg
  · simp [ByteArray.data_append]
  · simp [ByteArray.data_append]
/-- The length of a text in a slot. -/
def lenS : Value → Nat
  | .string s => s.size
  | _ => 0
theorem one_string (d : Nat) (hd : d < 256) (W : World) : (convert 67 9 (.slice (some ⟨W.heap.size, 0, none⟩) 1 1)).run Try.prog (W.alloc (.cells #[.int .u8 (d : Int)] 5)) = .ok (.string ⟨#[UInt8.ofNat d]⟩) (W.alloc (.cells #[.int .u8 (d : Int)] 5)) := by
  have ho : (W.alloc (.cells #[.int .u8 (d : Int)] 5)).owns 0 5 1 (.slice (some ⟨W.heap.size, 0, none⟩) 1 1) 1 ([d].map u8V) :=
    ⟨by simp, .inr ⟨W.heap.size, 1, _, (0, 0), rfl, Nat.zero_le _, heap_alloc_new W _, okFz_zero _, Nat.le_refl _, by unfold maxLen; omega, rfl, by simp [u8V]⟩⟩
  have := own_string ho (by simp; exact hd) 9 (by kernel_rfl)
  simpa using this
theorem field1 (s : Bool) (a : Option Addr) (n c : Nat) (W : World) : (Instr.field 63 (.agg #[.bool s, .slice a n c]) 1).run Try.prog W = .ok (.slice a n c) W := by kernel_rfl
theorem str_facts0 (s : ByteArray) (h0 : s.size ≠ 0) : ¬ s = (⟨#[]⟩ : ByteArray) ∧ s.toList.isEmpty = false := str_facts s h0
theorem str_nil (s : ByteArray) : (⟨#[]⟩ : ByteArray) ++ s = s := by
  apply ByteArray.ext
  simp [ByteArray.data_append]
theorem hw_pos {n : Nat} : 0 < (hw n).length ↔ n ≠ 0 := by
  have := words_len0 (B := 65536) (by omega) n
  unfold hw
  omega
theorem div_ten (n k : Nat) : n / 10 ^ k / 10 = n / 10 ^ (k + 1) := by rw [Nat.pow_succ, Nat.div_div_eq_div_mul]
set_option maxRecDepth 100000 in
set_option maxHeartbeats 8000000 in
theorem refText_any (neg : Bool) (s : ByteArray) (hs : s.size ≤ maxLen) (T : ByteArray) (E : Int) (hT : (if validB neg s then textB neg (numB s) else ⟨#[]⟩) = T) (hE : (if validB neg s then (0 : Int) else 2) = E) (w : World) :
    Calls Try.prog 15 #[.agg #[.bool neg, .string s]] w fun e w' => e = .returned (.tuple #[.string T, .int .i64 E]) ∧ Below w.heap.size w w' := by
  obtain ⟨HPOST, hpost⟩ : ∃ X : Ending → World → Prop, X = fun e w' => e = .returned (.tuple #[.string T, .int .i64 E]) ∧ Below w.heap.size w w' := ⟨_, rfl⟩
  rw [← hpost]
  have HP := Lib.hid hpost
  clear hpost
  obtain ⟨ok, hok⟩ : ∃ ok, ok = validB neg s := ⟨_, rfl⟩
  have HV := Lib.hid (refValid_wide neg s hs ok hok)
  rw [← hok] at hT hE
  have HOK := Lib.hid hok
  clear hok
  have hb0 : Below w.heap.size w (w.alloc (.cells #[.bool neg, .string s] 23)) := (Below.refl _ w).alloc (Nat.le_refl _) _
  have hg0 : (w.alloc (.cells #[.bool neg, .string s] 23)).heap[w.heap.size]? = some (.cells #[.bool neg, .string s] 23) := heap_alloc_new w _
  have HB0 := Lib.hid hb0
  have HG0 := Lib.hid hg0
  clear hb0 hg0
  cases ok with
  | false =>
    obtain rfl : (⟨#[]⟩ : ByteArray) = T := hT
    obtain rfl : (2 : Int) = E := hE
    go_enter Try.func15, Try.ntmps15
    go_wp2_with fail
    (with_reducible refine (HV.out _).mono ?_)
    rintro e w1 ⟨rfl, hb1⟩
    have HB1 := Lib.hid (HB0.out.trans (hb1.mono HB0.out.size))
    clear hb1
    go_wp2
    rw [HP.out]
    exact ⟨rfl, HB1.out⟩
  | true =>
    obtain rfl : (0 : Int) = E := hE
    obtain ⟨hlim, hmag, hnz, hs256⟩ := valid_spec neg s HOK.out.symm
    have hin := in_any neg s HOK.out.symm
    have hlen := hw_len129 hlim
    have HTT : Hid (textB neg (numB s) = T) := hT
    obtain ⟨n, en⟩ : ∃ n, n = numB s := ⟨_, rfl⟩
    rw [← en] at hin hlen HTT hnz
    have HIN := Lib.hid hin
    have HNZ := Lib.hid hnz
    have HLEN := Lib.hid hlen
    have HLIM : Hid (n < lim) := by show _ < _; rw [en]; exact hlim
    clear hT hlim hmag hnz en hin hlen
    go_enter Try.func15, Try.ntmps15
    go_wp2_with fail
    (with_reducible refine (HV.out _).mono ?_)
    rintro e w1 ⟨rfl, hb1⟩
    have hk1 := wide_hold (w := w) HG0.out hb1
    have HK1 := Lib.hid hk1
    have HB1 := Lib.hid (HB0.out.trans (hb1.mono HB0.out.size))
    obtain ⟨c0, c1, f0⟩ := wide_cells hk1
    clear hb1 hk1
    go_wp2_with fail
    (with_reducible refine (HIN.out _).mono ?_)
    rintro e w2 ⟨v2, rfl, hn2, hb2⟩
    obtain ⟨a2, L2, c2, rfl⟩ : ∃ a L c, v2 = .slice a L c := by obtain ⟨x, y, h⟩ := reads_len hn2; exact ⟨x, _, y, h⟩
    have HN2 := Lib.hid hn2
    have hfld := field1 neg a2 L2 c2
    have HK2 := Lib.hid (wide_hold (w := w) HK1.out hb2)
    have HB2 := Lib.hid (HB1.out.trans (hb2.mono HB1.out.size))
    clear hb2 hn2 c0 c1 f0
    go_wp2_with fail
    go_loopw [4, 5] (fun lv sv wr => ∃ (k : Nat) (a : Option Addr) (L c : Nat), k ≤ (words 10 n).length ∧ lv = .slice a L c ∧ sv = .string (decS n k) ∧ Hid (L = (hw (n / 10 ^ k)).length) ∧ Hid (World.numH wr (.slice a L c) (n / 10 ^ k)) ∧ Hid (Below w2.heap.size w2 wr)) (fun _ sv _ => (words 10 n).length - (lenS sv))
    case atStart =>
      refine ⟨0, a2, L2, c2, Nat.zero_le _, rfl, rfl, ?_, ?_, Below.refl _ w2⟩
      · show _ = _
        rw [Nat.pow_zero, Nat.div_one]
        obtain ⟨x, y, e⟩ := reads_len HN2.out
        injection e with _ e2 _
        rw [e2, List.length_map]
      · show World.numH _ _ _
        rw [Nat.pow_zero, Nat.div_one]; exact HN2.out
    case round =>
      obtain ⟨k, a, L, c, hk, rfl, rfl, hL, hN, hB⟩ := hrel
      clear hfld
      obtain ⟨m, em⟩ : ∃ m, m = n / 10 ^ k := ⟨_, rfl⟩
      rw [← em] at hL hN
      have hml : (hw m).length ≤ 129 := hw_len_mono (by rw [em]; exact Nat.div_le_self _ _) HLEN.out
      by_cases hm : m = 0
      · have hL0 : L = 0 := by rw [hL.out, hm]; rfl
        subst hL0
        have hkk : k = (words 10 n).length := by
          have := ten_zero (n := n) (j := k) (by rw [← em]; exact hm)
          omega
        have h0 : ¬ (0 : Int) < ((0 : Nat) : Int) := by omega
        obtain ⟨S, hS⟩ : ∃ S, S = decS n k := ⟨_, rfl⟩
        rw [← hS]
        have HS := Lib.hid hS
        have HKK := Lib.hid hkk
        have HBW := Lib.hid (HB2.out.trans (hB.out.mono HB2.out.size))
        obtain ⟨c0, c1, -⟩ := wide_cells (wide_hold (w := w) HK2.out hB.out)
        clear hS hkk em hml hm
        by_cases hn0 : n = 0
        · have hS0 : S = ⟨#[]⟩ := by
            rw [HS.out, HKK.out, hn0]; rfl
          have hneg : neg = false := by
            cases neg with
            | false => rfl
            | true => exact absurd hn0 (HNZ.out rfl)
          have hTT : T = ⟨#[48]⟩ := by
            rw [← HTT.out, hn0, hneg]; rfl
          subst hS0 hneg hTT
          clear hn0
          go_wp2
          rw [HP.out]
          exact ⟨rfl, HBW.out⟩
        · have hS0 : S.size ≠ 0 := by
            rw [HS.out, decS_size, HKK.out]
            have := ten_pos (n := n) (j := 0) (by rw [Nat.pow_zero, Nat.div_one]; exact hn0)
            omega
          obtain ⟨s1, s2⟩ := str_facts0 S hS0
          have hS617 : S.size ≤ 617 := by
            rw [HS.out, decS_size, HKK.out, ← numT_length]
            exact numT_len HLIM.out
          have hS617' : (S.size : Int) ≤ 617 := by omega
          have hTT := HTT.out
          rw [textB_dec neg n hn0, ← HKK.out, ← HS.out] at hTT
          clear hn0 hS0
          cases neg with
          | true =>
            have hTT2 : (⟨#[45]⟩ : ByteArray) ++ S = T := hTT
            have HT2 := Lib.hid hTT2
            clear hTT hTT2
            go_wp2
            rw [HP.out]
            exact ⟨by rw [HT2.out], HBW.out⟩
          | false =>
            have hTT2 : S = T := by rw [← hTT]; exact (str_nil S).symm
            have HT2 := Lib.hid hTT2
            clear hTT hTT2
            go_wp2
            rw [HP.out]
            exact ⟨by rw [HT2.out], HBW.out⟩
      · have hLp : 0 < L := by rw [hL.out]; exact hw_pos.2 hm
        have hL0 : (0 : Int) < (L : Int) := by omega
        have hkl : k < (words 10 n).length := ten_pos (by rw [← em]; exact hm)
        have hsh : Calls Try.prog 61 #[.slice a L c, .int .u32 10] wr (ShortRetH wr m 10) := hshort_any m 10 (by omega) (by omega) (.slice a L c) wr hN.out (by omega)
        have hdig : m % 10 = dig 10 n k := by rw [em]; rfl
        have hdiv : m / 10 = n / 10 ^ (k + 1) := by rw [em]; exact div_ten n k
        obtain ⟨d, ed⟩ : ∃ d, d = m % 10 := ⟨_, rfl⟩
        obtain ⟨q, eq⟩ : ∃ q, q = m / 10 := ⟨_, rfl⟩
        unfold ShortRetH at hsh
        rw [← ed, ← eq] at hsh
        rw [← ed] at hdig
        rw [← eq] at hdiv
        have hd10 : d < 10 := by omega
        have hql : q < 65536 ^ (hw m).length := Nat.lt_of_le_of_lt (by omega) (hw_vlt m)
        have HSH := Lib.hid hsh
        have HTR : Hid (∀ v W, World.rawH W v q (hw m).length → Calls Try.prog 62 #[.agg #[.bool false, v]] W (SRet W false q)) := fun v W h => htrim_any false q _ hql (by omega) v W h
        have HDG := Lib.hid hdig
        have HDV := Lib.hid hdiv
        obtain ⟨S, hS⟩ : ∃ S, S = decS n k := ⟨_, rfl⟩
        obtain ⟨S2, hS2⟩ : ∃ S, S = decS n (k + 1) := ⟨_, rfl⟩
        have hcat : (⟨#[UInt8.ofNat (48 + d)]⟩ : ByteArray) ++ S = S2 := by rw [hS, hS2, hdig]; exact decS_succ n k
        have HS2 := Lib.hid hS2
        have HSZ : Hid (S.size = k ∧ S2.size = k + 1) := ⟨by rw [hS, decS_size], by rw [hS2, decS_size]⟩
        have hS617 : S.size ≤ 617 := by
          have h1 := numT_len HLIM.out
          rw [numT_length] at h1
          rw [hS, decS_size]
          omega
        have hS617' : (S.size : Int) ≤ 617 := by omega
        rw [← hS]
        obtain ⟨x, hx⟩ : ∃ x, x = 48 + d := ⟨_, rfl⟩
        rw [← hx] at hcat
        have t1 : (48 : Int) + (d : Int) = (x : Int) := by omega
        have t2 : (x : Int) % 256 = (x : Int) := by omega
        have hd256 : Hid (x < 256) := by show _ < _; omega
        clear hsh hdig hdiv hql hS hS2 ed eq em hml hm hx
        go_wp2_with fail
        (with_reducible refine (HSH.out).mono ?_)
        rintro e w5 ⟨v5, rfl, hr5, hb5⟩
        obtain ⟨a5, L5, c5, rfl⟩ : ∃ a L c, v5 = .slice a L c := by obtain ⟨x, y, h, -⟩ := rawH_words hr5; exact ⟨x, _, y, h⟩
        have hcv := one_string x hd256.out w5
        have hba : Below wr.heap.size wr (w5.alloc (.cells #[.int .u8 (x : Int)] 5)) := hb5.alloc hb5.size _
        have hra := rawH_below (w' := w5.alloc (.cells #[.int .u8 (x : Int)] 5)) hr5 ((Below.refl w5.heap.size w5).alloc (Nat.le_refl _) _)
        have HBA := Lib.hid (below_via hB.out hba)
        have HRA := Lib.hid hra
        clear hba hra hr5 hb5
        go_wp2_with fail
        generalize w5.alloc (.cells #[.int .u8 (x : Int)] 5) = w6 at HBA HRA ⊢
        (with_reducible refine (HTR.out _ _ HRA.out).mono ?_)
        rintro e w7 ⟨v7, rfl, hn7, hb7⟩
        obtain ⟨a7, c7, e7⟩ := reads_len hn7
        rw [List.length_map] at e7
        subst e7
        obtain ⟨L7, hL7⟩ : ∃ L, L = (hw q).length := ⟨_, rfl⟩
        rw [← hL7] at hn7 ⊢
        have hfld := field1 false a7 L7 c7
        have HL7 := Lib.hid hL7
        have HN7 := Lib.hid hn7
        have HB7 := Lib.hid (below_via HBA.out hb7)
        clear hL7 hn7 hb7 hcv
        go_wp2_with fail
        go_roundw
        case rel => exact ⟨k + 1, a7, L7, c7, by omega, rfl, by rw [← HS2.out], by show _ = _; rw [← HDV.out]; exact HL7.out, by show World.numH _ _ _; rw [← HDV.out]; exact HN7.out, HB7.out⟩
        case measure =>
          obtain ⟨z1, z2⟩ := HSZ.out
          simp [lenS, z1, z2]; omega
end Go.Proofs.Ytdfklcmiagmgaaa
