/- The reference's numbers with signs: the integer of a form. -/
import Derived.Test.YtdfklcmiagmgaaaXR4
namespace Go.Proofs.Ytdfklcmiagmgaaa
set_option linter.all false
open Go.RowKit Go.Shelf Go.WideNum
theorem num_set1 {W : World} {g : Nat} {u0 u1 : Value} {T : TypeId} (h : W.heap[g]? = some (.cells #[u0, u1] T)) (y : Value) :
    (W.setCell ⟨g, 1, none⟩ y).heap[g]? = some (.cells #[u0, y] T) := by
  simp [World.setCell, Array.getElem?_modify, h]
theorem cell_other {W : World} {g b o : Nat} (hb : b ≠ g) (y : Value) : (W.setCell ⟨g, o, none⟩ y).heap[b]? = W.heap[b]? := by
  simp [World.setCell, Array.getElem?_modify, Ne.symm hb]
theorem pow2 (q : Nat) : 65536 ^ q = 256 ^ (2 * q) := by rw [show (65536 : Nat) = 256 ^ 2 by rfl, ← Nat.pow_mul]
theorem hw_halves (n : Nat) : (hw n).length = ((words 256 n).length + 1) / 2 := by
  obtain ⟨N, hN⟩ : ∃ N, N = (words 256 n).length := ⟨_, rfl⟩
  rw [← hN]
  have h1 : n < 256 ^ N := by rw [hN]; exact words_vlt (by omega) n
  have h2 : (hw n).length ≤ (N + 1) / 2 := hw_len_le (by rw [pow2]; exact Nat.lt_of_lt_of_le h1 (Nat.pow_le_pow_right (by omega) (by omega)))
  rcases Nat.eq_zero_or_pos N with h0 | h0
  · omega
  · have h3 : 256 ^ (N - 1) ≤ n := by
      rcases Nat.lt_or_ge n (256 ^ (N - 1)) with h | h
      · have := words_length (B := 256) (by omega) n (N - 1) h
        omega
      · exact h
    have h4 : (N - 1) / 2 < (hw n).length := words_lenlt (B := 65536) (by omega) n _ (by rw [pow2]; exact Nat.le_trans (Nat.pow_le_pow_right (by omega) (by omega)) h3)
    omega
theorem dig_halves (n k : Nat) : dig 65536 n k = dig 256 n (2 * k) + 256 * dig 256 n (2 * k + 1) := by
  unfold dig
  rw [pow2, Nat.pow_succ, ← Nat.div_div_eq_div_mul]
  generalize n / 256 ^ (2 * k) = m
  omega
set_option maxRecDepth 100000 in
set_option maxHeartbeats 8000000 in
theorem in_any (neg : Bool) (s : ByteArray) (hv : validB neg s = true) (w : World) : Calls Try.prog 60 #[.agg #[.bool neg, .string s]] w (SRet w neg (numB s)) := by
  obtain ⟨-, hmag, -, hs⟩ := valid_spec neg s hv
  obtain ⟨n, hn⟩ : ∃ n, n = numB s := ⟨_, rfl⟩
  rw [← hn] at hmag ⊢
  have hlen : (words 256 n).length = s.size := by
    rw [← magL_length, ← hmag]; rfl
  have HBY : Hid (∀ i (h : i < s.size), (s[i].toNat) = dig 256 n (s.size - 1 - i)) := fun i h => by rw [hn]; exact byte_dig s.data.toList i h
  obtain ⟨N, hN⟩ : ∃ N, N = s.size := ⟨_, rfl⟩
  have hM := hw_halves n
  rw [hlen, ← hN] at hM
  have HNL : Hid (n < 256 ^ N) := by show _ < _; rw [hN, ← hlen]; exact words_vlt (by omega) n
  have HN := Lib.hid hN
  have HM := Lib.hid hM
  have hs2 : N ≤ 256 := by omega
  have hNI : (s.size : Int) = (N : Int) := by rw [hN]
  clear hv hmag hn hlen hN hM hs
  obtain ⟨HPOST, hpost⟩ : ∃ R, R = SRet w neg n := ⟨_, rfl⟩
  rw [← hpost]
  have HP := Lib.hid hpost
  clear hpost
  go_enter Try.func60, Try.ntmps60
  go_wp2_with fail
  go_loopw [4] (fun iv wr => ∃ (k : Nat) (xa : Option Addr) (xc : Nat), 2 * k ≤ N + 1 ∧ iv = .int .i64 ((N : Int) - 1 - 2 * (k : Int)) ∧ Hid (wr.heap[w.heap.size]? = some (.cells #[.bool neg, .string s] 23)) ∧ Hid (wr.heap[w.heap.size + 1]? = some (.cells #[.bool false, .slice none 0 0] 63)) ∧ Hid (wr.heap[w.heap.size + 1 + 1]? = some (.cells #[.bool neg, .slice xa k xc] 63)) ∧ Hid (wr.owns (w.heap.size + 1 + 1 + 1) 47 1 (.slice xa k xc) k (((List.range k).map (dig 65536 n)).map u32V)) ∧ Hid (Below w.heap.size w wr) ∧ w.heap.size + 1 + 1 + 1 ≤ wr.heap.size) (fun iv _ => (intOf iv + 2).toNat)
  case atStart =>
    refine ⟨0, none, 0, by omega, by simp, ?_, ?_, ?_, owns_nil _ _ _, ?_, by simp⟩
    · show _ = _; rw [Below.heap_alloc _ _ _ (by simp; omega), Below.heap_alloc _ _ _ (by simp)]; exact heap_alloc_new w _
    · show _ = _; rw [Below.heap_alloc _ _ _ (by simp)]; exact alloc_last _ _ (by simp)
    · show _ = _; exact alloc_last _ _ (by simp)
    · show Below _ _ _
      exact ((((Below.refl _ w).alloc (Nat.le_refl _) _).alloc (by simp) _).alloc (by simp; omega) _)
  case round =>
    obtain ⟨k, xa, xc, hk, rfl, hG0, hG1, hG2, hO, hB, hz⟩ := hrel
    obtain ⟨c00, c01, f00⟩ := num_cells hG0.out
    obtain ⟨c20, c21, f20, f21⟩ := num_cells hG2.out
    by_cases hlt : 2 * k < N
    · obtain ⟨j, hj⟩ : ∃ j, j + 2 * k + 1 = N := ⟨N - 1 - 2 * k, by omega⟩
      rw [show (N : Int) - 1 - 2 * (k : Int) = (j : Int) by omega]
      have hNs := HN.out
      have hj1 : j < s.size := by omega
      have hj2 : (j : Int) < (s.size : Int) := by omega
      have hj0 : (0 : Int) ≤ (j : Int) := by omega
      have hbx := HBY.out j hj1
      rw [show s.size - 1 - j = 2 * k by omega] at hbx
      obtain ⟨x, ex⟩ : ∃ x, x = (s[j]'hj1).toNat := ⟨_, rfl⟩
      have hxx : ((s[j]'hj1).toNat : Int) = (x : Int) := by rw [ex]
      have hx256 : x < 256 := by rw [ex]; exact (s[j]'hj1).toNat_lt
      rw [← ex] at hbx
      have hz0 := dig_halves n k
      rw [← hbx] at hz0
      obtain ⟨z, ez⟩ : ∃ x, x = dig 65536 n k := ⟨_, rfl⟩
      rw [← ez] at hz0
      have EZ := Lib.hid ez
      clear ex ez hbx hNs
      by_cases hp : 0 < j
      · obtain ⟨m, rfl⟩ : ∃ m, j = m + 1 := ⟨j - 1, by omega⟩
        have hm1 : m < s.size := by omega
        have hby := HBY.out m hm1
        have hNs := HN.out
        rw [show s.size - 1 - m = 2 * k + 1 by omega] at hby
        obtain ⟨y, ey⟩ : ∃ x, x = (s[m]'hm1).toNat := ⟨_, rfl⟩
        have hyy : ((s[m]'hm1).toNat : Int) = (y : Int) := by rw [ey]
        have hy256 : y < 256 := by rw [ey]; exact (s[m]'hm1).toNat_lt
        rw [← ey] at hby
        rw [← hby] at hz0
        have hm0 : (0 : Int) ≤ (m : Int) := by omega
        have hm2 : (m : Int) < (s.size : Int) := by omega
        have hm3 : ((m + 1 : Nat) : Int) - 1 = (m : Int) := by omega
        have hp2 : (0 : Int) < ((m + 1 : Nat) : Int) := by omega
        have t1 : (x : Int) + 256 * (y : Int) = (z : Int) := by omega
        have HJ := Lib.hid hj
        clear ey hby hNs hz0
        go_wp2_with (at_builtin; refine app_u32 wr 57 Try.underlying57 rfl (.tmp 34) (.tmp 36) rfl (w.heap.size + 1 + 1 + 1) (.slice xa k xc) k _ rfl hO.out (z : Int) wr.heap.size rfl rfl (by omega) hz ?_; intro v5 w5 hown5 hg5 hz5; have HO5 := Lib.hid hown5; obtain ⟨g5, q5, rfl⟩ := hown5.succ; have hb5 := below_grown hO.out hg5 (w.heap.size + 1 + 1 + 1) (Nat.le_refl _) hz; have HB5 := Lib.hid hb5; have K0 := Lib.hid ((hb5.block _ (by omega)).trans hG0.out); have K1 := Lib.hid ((hb5.block _ (by omega)).trans hG1.out); have hk2 := (hb5.block _ (by omega)).trans hG2.out; have K2 := Lib.hid hk2; obtain ⟨e20, e21, i20, i21⟩ := num_cells hk2; clear hown5 hg5 hb5 hk2)
        go_roundw
        case rel =>
          refine ⟨k + 1, some ⟨g5, 0, none⟩, q5, by omega, by first | (congr 1; omega) | go_num, ?_, ?_, ?_, ?_, ?_, ?_⟩
          · show _ = _; rw [cell_other (by omega)]; exact K0.out
          · show _ = _; rw [cell_other (by omega)]; exact K1.out
          · show _ = _; exact num_set1 K2.out _
          · show World.owns _ _ _ _ _ _ _
            refine World.owns.setCell ?_ (by simp) _
            rw [List.range_succ, List.map_append, List.map_append]
            show w5.owns _ _ _ _ _ (_ ++ [u32V (dig 65536 n k)])
            rw [← EZ.out]
            exact HO5.out
          · show Below _ _ _
            exact (hB.out.trans (HB5.out.mono (by omega))).setCell (by simp; omega) _
          · simp; omega
        case measure => first | (simp [intOf]; done) | (simp [intOf]; omega)
      · obtain rfl : j = 0 := by omega
        have hd : dig 256 n (2 * k + 1) = 0 := dig_high (by omega) n _ (by rw [show 2 * k + 1 = N by omega]; exact HNL.out)
        rw [hd] at hz0
        obtain rfl : x = z := by omega
        clear hd hz0 hp
        go_wp2_with (at_builtin; refine app_u32 wr 57 Try.underlying57 rfl (.tmp 34) (.tmp 36) rfl (w.heap.size + 1 + 1 + 1) (.slice xa k xc) k _ rfl hO.out (x : Int) wr.heap.size rfl rfl (by omega) hz ?_; intro v5 w5 hown5 hg5 hz5; have HO5 := Lib.hid hown5; obtain ⟨g5, q5, rfl⟩ := hown5.succ; have hb5 := below_grown hO.out hg5 (w.heap.size + 1 + 1 + 1) (Nat.le_refl _) hz; have HB5 := Lib.hid hb5; have K0 := Lib.hid ((hb5.block _ (by omega)).trans hG0.out); have K1 := Lib.hid ((hb5.block _ (by omega)).trans hG1.out); have hk2 := (hb5.block _ (by omega)).trans hG2.out; have K2 := Lib.hid hk2; obtain ⟨e20, e21, i20, i21⟩ := num_cells hk2; clear hown5 hg5 hb5 hk2)
        go_roundw
        case rel =>
          refine ⟨k + 1, some ⟨g5, 0, none⟩, q5, by omega, by first | (congr 1; omega) | go_num, ?_, ?_, ?_, ?_, ?_, ?_⟩
          · show _ = _; rw [cell_other (by omega)]; exact K0.out
          · show _ = _; rw [cell_other (by omega)]; exact K1.out
          · show _ = _; exact num_set1 K2.out _
          · show World.owns _ _ _ _ _ _ _
            refine World.owns.setCell ?_ (by simp) _
            rw [List.range_succ, List.map_append, List.map_append]
            show w5.owns _ _ _ _ _ (_ ++ [u32V (dig 65536 n k)])
            rw [← EZ.out]
            exact HO5.out
          · show Below _ _ _
            exact (hB.out.trans (HB5.out.mono (by omega))).setCell (by simp; omega) _
          · simp; omega
        case measure => first | (simp [intOf]; done) | (simp [intOf]; omega)
    · have h0 : ¬ (0 : Int) ≤ (N : Int) - 1 - 2 * (k : Int) := by omega
      obtain rfl : k = (hw n).length := by have := HM.out; omega
      obtain ⟨d10, d11, f10, f11⟩ := num_cells hG1.out
      have hN : World.numH wr (.slice xa (hw n).length xc) n := rawH_num hO.out.reads rfl
      obtain ⟨k, hk'⟩ : ∃ k, k = (hw n).length := ⟨_, rfl⟩
      rw [← hk'] at hO hG2 hN h0 c21 hk hlt ⊢
      have HN2 := Lib.hid hN
      clear hN hk'
      go_wp2
      have m2 := num_set hG1.out (.bool neg) (.slice xa k xc)
      have hb9 : Below w.heap.size w ((wr.setCell ⟨w.heap.size + 1, 0, none⟩ (.bool neg)).setCell ⟨w.heap.size + 1, 1, none⟩ (.slice xa k xc)) := (hB.out.setCell (by simp) _).setCell (by simp) _
      have hn9 := numH_set HN2.out hG1.out (.bool neg) (.slice xa k xc)
      obtain ⟨d20, d21, -, -⟩ := num_cells m2
      clear m2 d10 d11 f10 f11
      generalize (wr.setCell ⟨w.heap.size + 1, 0, none⟩ (.bool neg)).setCell ⟨w.heap.size + 1, 1, none⟩ (.slice xa k xc) = W9 at d20 d21 hb9 hn9 ⊢
      rw [HP.out]
      exact bodyPost_ret (v := .agg #[.bool neg, .slice xa k xc]) (by simp [results, Try.results60, go_sem, d20, d21]) rfl ⟨.slice xa k xc, rfl, hn9, hb9⟩
end Go.Proofs.Ytdfklcmiagmgaaa
