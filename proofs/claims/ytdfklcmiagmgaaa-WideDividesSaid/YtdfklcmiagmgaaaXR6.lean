/- The reference's numbers with signs: the form of a number. -/
import Derived.Test.YtdfklcmiagmgaaaXR5
namespace Go.Proofs.Ytdfklcmiagmgaaa
set_option linter.all false
open Go.RowKit Go.Shelf Go.WideNum
theorem words_cons {B : Nat} (hB : 1 < B) (x : Nat) (h : x ≠ 0) : words B x = x % B :: words B (x / B) := by
  obtain ⟨f, rfl⟩ : ∃ f, x = f + 1 := ⟨x - 1, by omega⟩
  show wordsOf B (f + 1) (f + 1) = _
  rw [wordsOf, if_neg h]
  congr 1
  have hv : valW B (words B ((f + 1) / B)) = (f + 1) / B := val_words hB _ _ (Nat.le_refl _)
  have hd : (f + 1) / B ≤ f := by have := Nat.div_lt_self (show 0 < f + 1 by omega) hB; omega
  have := words_val hB (words B ((f + 1) / B)) (words_lt (by omega) _ _) (words_trimmed hB _ _ (Nat.le_refl _)) f (by rw [hv]; exact hd)
  rw [hv] at this
  exact this
/-- The bytes above the word k, the highest first. -/
def bytesH (n k : Nat) : List Nat := (words 256 (n / 65536 ^ k)).reverse
theorem bytesH_two (n k : Nat) (h : n / 65536 ^ (k + 1) ≠ 0 ∨ 256 ≤ dig 65536 n k) : bytesH n k = bytesH n (k + 1) ++ [dig 65536 n k / 256] ++ [dig 65536 n k % 256] := by
  unfold bytesH
  have e := div_pow_succ 65536 n k
  have hd := hw_dig n k
  generalize n / 65536 ^ (k + 1) = m at *
  generalize dig 65536 n k = d at *
  rw [e, words_cons (by omega) _ (by omega), words_cons (by omega) _ (by omega)]
  rw [show (d + 65536 * m) % 256 = d % 256 by omega, show (d + 65536 * m) / 256 % 256 = d / 256 by omega, show (d + 65536 * m) / 256 / 256 = m by omega]
  simp
theorem bytesH_one (n k : Nat) (h : n / 65536 ^ (k + 1) = 0) (h2 : dig 65536 n k < 256) (h0 : dig 65536 n k ≠ 0) : bytesH n k = bytesH n (k + 1) ++ [dig 65536 n k % 256] := by
  unfold bytesH
  have e := div_pow_succ 65536 n k
  rw [h] at e ⊢
  generalize dig 65536 n k = d at *
  rw [e, Nat.mul_zero, Nat.add_zero, words_cons (by omega) _ h0, Nat.div_eq_of_lt h2]
  rfl
theorem bytesH_nil (n k : Nat) : (bytesH n k).length = 0 ↔ n / 65536 ^ k = 0 := by
  unfold bytesH
  rw [List.length_reverse]
  exact words_len0 (by omega) _
theorem bytesH_top (n : Nat) : bytesH n (hw n).length = [] := by
  unfold bytesH
  rw [Nat.div_eq_of_lt (hw_vlt n)]; rfl
theorem bytesH_zero (n : Nat) : bytesH n 0 = (words 256 n).reverse := by simp [bytesH]
theorem bytesH_lt (n k : Nat) : ∀ x ∈ bytesH n k, x < 256 := fun x hx => words_lt (by omega) _ _ x (List.mem_reverse.1 hx)
theorem bytesH_len (n k L : Nat) (h : n < 65536 ^ L) : (bytesH n k).length ≤ 2 * L := by
  unfold bytesH
  rw [List.length_reverse]
  exact words_length (by omega) _ _ (by rw [← pow2]; exact Nat.lt_of_le_of_lt (Nat.div_le_self _ _) h)
theorem conv_nil (c : Nat) (hc : c = 0) (W : World) : (convert 67 9 (.slice none 0 c)).run Try.prog W = .ok (.string ⟨#[]⟩) W := by
  subst hc; kernel_rfl
/-- What out makes of the bytes. -/
theorem bytes_string {W : World} {base n m c : Nat} {a : Option Addr} (h : W.owns base 5 1 (.slice a m c) m ((bytesH n 0).map u8V)) :
    (convert 67 9 (.slice a m c)).run Try.prog W = .ok (.string (magB n)) W := by
  have e : (bytesH n 0).map UInt8.ofNat = magL n := by rw [bytesH_zero, List.map_reverse]; rfl
  unfold magB
  rw [← e]
  rcases h.2 with ⟨e1, e2⟩ | ⟨g, cap, cur, fz, e1, _⟩
  · injection e1 with e3 e4 e5
    subst e3 e4 e5
    have hl := h.1
    simp only [List.length_map, Nat.zero_mul] at hl
    rw [List.eq_nil_of_length_eq_zero hl]
    exact conv_nil 0 rfl W
  · injection e1 with e3 e4 e5
    subst e3 e5
    exact own_string h (bytesH_lt n 0) 9 (by kernel_rfl)
set_option maxRecDepth 100000 in
set_option maxHeartbeats 8000000 in
theorem hout_any (s : Bool) (n L : Nat) (hn : n < 65536 ^ L) (hL : L ≤ 10000) (v : Value) (w : World) (hv : World.rawH w v n L) :
    Calls Try.prog 57 #[.agg #[.bool s, v]] w (FormRet w s n) := by
  obtain ⟨a, c, hva, -, -, -⟩ := rawH_words hv
  subst hva
  have HV : Hid (World.rawH w (.slice a L c) n L) := hv
  clear hv
  obtain ⟨W0, hW0⟩ : ∃ W0, W0 = (w.alloc (.cells #[.bool s, .slice a L c] 63)).alloc (.cells #[.bool false, .string ⟨#[]⟩] 23) := ⟨_, rfl⟩
  have g0 : W0.heap[w.heap.size]? = some (.cells #[.bool s, .slice a L c] 63) := by rw [hW0, Below.heap_alloc _ _ _ (by simp)]; exact heap_alloc_new w _
  have g1 : W0.heap[w.heap.size + 1]? = some (.cells #[.bool false, .string ⟨#[]⟩] 23) := by rw [hW0]; exact alloc_last _ _ (by simp)
  have hb0 : Below w.heap.size w W0 := by rw [hW0]; exact (((Below.refl _ w).alloc (Nat.le_refl _) _).alloc (by simp) _)
  have HB0 := Lib.hid hb0
  have HG0 := Lib.hid g0
  have HG1 := Lib.hid g1
  obtain ⟨c00, c01, f00, f01⟩ := num_cells g0
  have HW0 := Lib.hid hW0
  obtain ⟨S, hS⟩ : ∃ S, S = (s && decide (n ≠ 0)) := ⟨_, rfl⟩
  have htr := fun W => fun h => htrim_any s n L hn hL (.slice a L c) W h
  rw [← hS] at htr
  have HTR := Lib.hid htr
  have HBL : Hid (∀ k, (bytesH n k).length ≤ 20000) := fun k => Nat.le_trans (bytesH_len n k L hn) (by omega)
  have HO : Hid (outB s n = (if n < lim then .agg #[.bool S, .string (magB n)] else .agg #[.bool false, .string ⟨#[]⟩]) ∧ outE n = if n < lim then 0 else 7) := by
    refine ⟨?_, rfl⟩
    unfold outB emptyW wideV
    rw [hS]
  have HML : Hid ((hw n).length ≤ 10000) := Nat.le_trans (hw_len_le hn) hL
  obtain ⟨HPOST, hpost⟩ : ∃ R, R = FormRet w s n := ⟨_, rfl⟩
  rw [← hpost]
  have HP := Lib.hid hpost
  clear hb0 g0 g1 hW0 hn hS htr hpost
  go_enter Try.func57, Try.ntmps57
  go_upto_region 1 with (fail)
  rw [← HW0.out]
  go_wp2_with fail
  (with_reducible refine (HTR.out _ (rawH_below HV.out HB0.out)).mono ?_)
  rintro e w5 ⟨v5, rfl, hn5, hb5⟩
  obtain ⟨a5, M, c5, hM, rfl, hc5, hm5, hs5⟩ := numH_words hn5
  have hg5 := (hb5.block (w.heap.size) (lt_of_heap HG0.out)).trans HG0.out
  have hg51 := (hb5.block (w.heap.size + 1) (lt_of_heap HG1.out)).trans HG1.out
  have HB5 := Lib.hid (HB0.out.trans (hb5.mono HB0.out.size))
  have HN5 := Lib.hid hn5
  have HG5 := Lib.hid hg5
  have HG51 := Lib.hid hg51
  have HM := Lib.hid hM
  have hM1 : M ≤ 10000 := by rw [hM]; exact HML.out
  have hML : (M : Int) ≤ 10000 := by omega
  clear c00 c01 f00 f01
  obtain ⟨d0, d1, fz0, fz1⟩ := num_cells hg5
  clear hn5 hb5 hg5 hg51 hs5 hM hm5
  go_wp2_with fail
  clear d0 d1 fz0 fz1
  have m2 := num_set HG5.out (.bool S) (.slice a5 M c5)
  have hb2 : Below w.heap.size w ((w5.setCell ⟨w.heap.size, 0, none⟩ (.bool S)).setCell ⟨w.heap.size, 1, none⟩ (.slice a5 M c5)) := (HB5.out.setCell (by simp) _).setCell (by simp) _
  have hn2 := numH_set HN5.out HG5.out (.bool S) (.slice a5 M c5)
  have hr2 := (two_other (W := w5) (p := w.heap.size) (.bool S) (.slice a5 M c5) (w.heap.size + 1) (by omega)).trans HG51.out
  generalize (w5.setCell ⟨w.heap.size, 0, none⟩ (.bool S)).setCell ⟨w.heap.size, 1, none⟩ (.slice a5 M c5) = W2 at m2 hb2 hn2 hr2 ⊢
  obtain ⟨a', M', c', hM', e', hc', hm', hs'⟩ := numH_words hn2
  injection e' with e1 e2 e3
  subst e1 e2 e3
  have HS2 := Lib.hid hs'
  have HM2 := Lib.hid m2
  have HB2 := Lib.hid hb2
  have HR2 := Lib.hid hr2
  clear m2 hb2 hn2 hr2 hM' hs' hm'
  go_loopw [4, 5] (fun bv iv wr => ∃ (k m : Nat) (xa : Option Addr) (xc : Nat), k ≤ M ∧ iv = .int .i64 ((k : Int) - 1) ∧ bv = .slice xa m xc ∧ Hid (m = (bytesH n k).length) ∧ Hid (wr.owns W2.heap.size 5 1 (.slice xa m xc) m ((bytesH n k).map u8V)) ∧ Hid (Below W2.heap.size W2 wr)) (fun _ iv _ => (intOf iv + 1).toNat)
  case atStart => exact ⟨M, 0, none, 0, Nat.le_refl _, rfl, rfl, by show _ = _; rw [HM.out, bytesH_top]; rfl, by show World.owns _ _ _ _ _ _ _; rw [HM.out, bytesH_top]; exact owns_nil _ _ _, Below.refl _ W2⟩
  case round =>
    obtain ⟨k, m, xa, xc, hk, rfl, rfl, hml, hO, hB⟩ := hrel
    have hz := hB.out.size
    have hgr := (hB.out.block _ (lt_of_heap HM2.out)).trans HM2.out
    obtain ⟨c0, c1, f0, f1⟩ := num_cells hgr
    clear hgr
    cases k with
    | zero =>
      have h0 : ¬ (0 : Int) ≤ ((0 : Nat) : Int) - 1 := by omega
      have hcv := bytes_string hO.out
      have hg1 := (hB.out.block _ (lt_of_heap HR2.out)).trans HR2.out
      obtain ⟨d0, d1, fz0, fz1⟩ := num_cells hg1
      have HG1 := Lib.hid hg1
      have hN : m = (words 256 n).length := by rw [hml.out, bytesH_zero, List.length_reverse]
      have hli := lim_iff n m hN
      have hbw := HB2.out.trans (hB.out.mono HB2.out.size)
      have HBW := Lib.hid hbw
      obtain ⟨mb, hmb⟩ : ∃ mb, mb = magB n := ⟨_, rfl⟩
      rw [← hmb] at hcv HO
      clear hg1 hN hbw hmb
      by_cases hlt : n < lim
      · have hm256 : ¬ (256 : Int) < (m : Int) := by have := hli.1 hlt; omega
        have HO1 := Lib.hid (show outB s n = .agg #[.bool S, .string mb] by rw [HO.out.1, if_pos hlt])
        have HO2 := Lib.hid (show outE n = 0 by rw [HO.out.2, if_pos hlt])
        clear hli hlt
        go_wp2
        have m2 := num_set HG1.out (.bool S) (.string mb)
        have hb9 : Below w.heap.size w ((wr.setCell ⟨w.heap.size + 1, 0, none⟩ (.bool S)).setCell ⟨w.heap.size + 1, 1, none⟩ (.string mb)) := (HBW.out.setCell (by simp) _).setCell (by simp) _
        obtain ⟨d20, d21, -, -⟩ := num_cells m2
        clear m2 d0 d1 fz0 fz1
        generalize (wr.setCell ⟨w.heap.size + 1, 0, none⟩ (.bool S)).setCell ⟨w.heap.size + 1, 1, none⟩ (.string mb) = W9 at d20 d21 hb9 ⊢
        rw [HP.out]
        exact bodyPost_ret (v := .tuple #[.agg #[.bool S, .string mb], .int .i64 0]) (by simp [results, Try.results57, go_sem, d20, d21]) rfl ⟨by rw [HO1.out, HO2.out], hb9⟩
      · have hm256 : (256 : Int) < (m : Int) := by
          rcases Nat.lt_or_ge 256 m with h | h
          · omega
          · exact absurd (hli.2 h) hlt
        have HO1 := Lib.hid (show outB s n = .agg #[.bool false, .string ⟨#[]⟩] by rw [HO.out.1, if_neg hlt])
        have HO2 := Lib.hid (show outE n = 7 by rw [HO.out.2, if_neg hlt])
        clear hli hlt
        go_wp2
        have m2 := num_set HG1.out (.bool false) (.string ⟨#[]⟩)
        have hb9 : Below w.heap.size w ((wr.setCell ⟨w.heap.size + 1, 0, none⟩ (.bool false)).setCell ⟨w.heap.size + 1, 1, none⟩ (.string ⟨#[]⟩)) := (HBW.out.setCell (by simp) _).setCell (by simp) _
        obtain ⟨d20, d21, -, -⟩ := num_cells m2
        clear m2 d0 d1 fz0 fz1
        generalize (wr.setCell ⟨w.heap.size + 1, 0, none⟩ (.bool false)).setCell ⟨w.heap.size + 1, 1, none⟩ (.string ⟨#[]⟩) = W9 at d20 d21 hb9 ⊢
        rw [HP.out]
        exact bodyPost_ret (v := .tuple #[.agg #[.bool false, .string ⟨#[]⟩], .int .i64 7]) (by simp [results, Try.results57, go_sem, d20, d21]) rfl ⟨by rw [HO1.out, HO2.out], hb9⟩
    | succ j =>
      rw [show ((j + 1 : Nat) : Int) - 1 = (j : Int) by omega]
      obtain ⟨b, off, rfl, hbl, hx0⟩ := HS2.out j (by omega)
      have hx := (hB.out.cell (p := ⟨b, off + j, none⟩) hbl).trans hx0
      have hdl := hw_dig n j
      have hnil := bytesH_nil n (j + 1)
      rw [← hml.out] at hnil
      have hm20 := HBL.out (j + 1)
      rw [← hml.out] at hm20
      have h2 := bytesH_two n j
      have h1 := bytesH_one n j
      have htop : j + 1 = M → dig 65536 n j ≠ 0 := fun h => hw_top (by rw [← HM.out]; exact h.symm)
      have hnz : n / 65536 ^ (j + 1) = 0 → dig 65536 n j ≠ 0 := fun h => by
        refine htop ?_
        have h3 := hw_len_le (n := n) (k := j + 1) (by
          rcases Nat.lt_or_ge n (65536 ^ (j + 1)) with h4 | h4
          · exact h4
          · have := Nat.div_pos h4 (Nat.pow_pos (show 0 < 65536 by omega)); omega)
        rw [← HM.out] at h3
        omega
      obtain ⟨d, ed⟩ : ∃ x, x = dig 65536 n j := ⟨_, rfl⟩
      rw [← ed] at hx hdl h2 h1 hnz
      obtain ⟨p, ep⟩ : ∃ x, x = d / 256 := ⟨_, rfl⟩
      obtain ⟨q, eq⟩ : ∃ x, x = d % 256 := ⟨_, rfl⟩
      rw [← ep, ← eq] at h2
      rw [← eq] at h1
      have t2 : (d : Int) / 256 = (p : Int) := by omega
      have t3 : (p : Int) % 256 = (p : Int) := by omega
      have t4 : (d : Int) % 256 = (q : Int) := by omega
      have t5 : (q : Int) % 256 = (q : Int) := by omega
      have hwl := lt_of_heap HM2.out
      have hjM : (j : Int) < (M : Int) := by omega
      have hj0 : (0 : Int) ≤ (j : Int) := by omega
      clear hx0 htop ep eq
      by_cases hd : 256 ≤ d
      · have HST := Lib.hid (h2 (.inr hd))
        have u1 : (256 : Int) ≤ (d : Int) := by omega
        clear h2 h1 hnil hnz ed
        go_wp2_with (first | (at_builtin; refine app_u8 wr rfl (.tmp 27) (.tmp 35) rfl W2.heap.size (.slice xa m xc) m _ rfl hO.out (p : Int) wr.heap.size rfl rfl (by omega) hz ?_; intro v6 w6 hown6 hg6 hz6; have HO6 := Lib.hid hown6; obtain ⟨g6, q6, rfl⟩ := hown6.succ; have hb6 := below_grown hO.out hg6 W2.heap.size (Nat.le_refl _) hz; have HB6 := Lib.hid (hB.out.trans hb6); have hz7 := Nat.le_trans hz (Nat.le_of_lt hz6); have k0 := (hb6.cell (p := ⟨w.heap.size, 0, none⟩) hwl).trans c0; have k1 := (hb6.cell (p := ⟨w.heap.size, 1, none⟩) hwl).trans c1; have kx := (hb6.cell (p := ⟨b, off + j, none⟩) hbl).trans hx; clear hown6 hg6 hb6 hz6) | (at_builtin; refine app_u8 w6 rfl (.tmp 37) (.tmp 45) rfl W2.heap.size (.slice (some ⟨g6, 0, none⟩) (m + 1) q6) (m + 1) _ rfl HO6.out (q : Int) w6.heap.size rfl rfl (by omega) hz7 ?_; intro v8 w8 hown8 hg8 hz8; have HO8 := Lib.hid hown8; obtain ⟨g8, q8, rfl⟩ := hown8.succ; have HB8 := Lib.hid (HB6.out.trans (below_grown HO6.out hg8 W2.heap.size (Nat.le_refl _) hz7)); clear hown8 hg8 hz8))
        go_roundw
        case rel =>
          refine ⟨j, m + 1 + 1, some ⟨g8, 0, none⟩, q8, by omega, by first | go_num | rfl, rfl, ?_, ?_, HB8.out⟩
          · show _ = _; rw [HST.out, hml.out]; simp
          · show World.owns _ _ _ _ _ _ _
            rw [HST.out, List.map_append, List.map_append]
            exact HO8.out
        case measure => first | (simp [intOf]; done) | (simp [intOf]; omega)
      · have u1 : ¬ (256 : Int) ≤ (d : Int) := by omega
        by_cases hm0 : n / 65536 ^ (j + 1) = 0
        · have HST := Lib.hid (h1 hm0 (by omega) (hnz hm0))
          have u2 : ¬ (0 : Int) < (m : Int) := by have := hnil.2 hm0; omega
          clear h2 h1 hnil hnz hm0 ed
          go_wp2_with (at_builtin; refine app_u8 wr rfl (.tmp 37) (.tmp 45) rfl W2.heap.size (.slice xa m xc) m _ rfl hO.out (q : Int) wr.heap.size rfl rfl (by omega) hz ?_; intro v8 w8 hown8 hg8 hz8; have HO8 := Lib.hid hown8; obtain ⟨g8, q8, rfl⟩ := hown8.succ; have HB8 := Lib.hid (hB.out.trans (below_grown hO.out hg8 W2.heap.size (Nat.le_refl _) hz)); clear hown8 hg8 hz8)
          go_roundw
          case rel =>
            refine ⟨j, m + 1, some ⟨g8, 0, none⟩, q8, by omega, by first | go_num | rfl, rfl, ?_, ?_, HB8.out⟩
            · show _ = _; rw [HST.out, hml.out]; simp
            · show World.owns _ _ _ _ _ _ _
              rw [HST.out, List.map_append]
              exact HO8.out
          case measure => first | (simp [intOf]; done) | (simp [intOf]; omega)
        · have HST := Lib.hid (h2 (.inl hm0))
          have u2 : (0 : Int) < (m : Int) := by
            rcases Nat.eq_zero_or_pos m with h | h
            · exact absurd (hnil.1 h) hm0
            · omega
          clear h2 h1 hnil hnz hm0 ed
          go_wp2_with (first | (at_builtin; refine app_u8 wr rfl (.tmp 27) (.tmp 35) rfl W2.heap.size (.slice xa m xc) m _ rfl hO.out (p : Int) wr.heap.size rfl rfl (by omega) hz ?_; intro v6 w6 hown6 hg6 hz6; have HO6 := Lib.hid hown6; obtain ⟨g6, q6, rfl⟩ := hown6.succ; have hb6 := below_grown hO.out hg6 W2.heap.size (Nat.le_refl _) hz; have HB6 := Lib.hid (hB.out.trans hb6); have hz7 := Nat.le_trans hz (Nat.le_of_lt hz6); have k0 := (hb6.cell (p := ⟨w.heap.size, 0, none⟩) hwl).trans c0; have k1 := (hb6.cell (p := ⟨w.heap.size, 1, none⟩) hwl).trans c1; have kx := (hb6.cell (p := ⟨b, off + j, none⟩) hbl).trans hx; clear hown6 hg6 hb6 hz6) | (at_builtin; refine app_u8 w6 rfl (.tmp 37) (.tmp 45) rfl W2.heap.size (.slice (some ⟨g6, 0, none⟩) (m + 1) q6) (m + 1) _ rfl HO6.out (q : Int) w6.heap.size rfl rfl (by omega) hz7 ?_; intro v8 w8 hown8 hg8 hz8; have HO8 := Lib.hid hown8; obtain ⟨g8, q8, rfl⟩ := hown8.succ; have HB8 := Lib.hid (HB6.out.trans (below_grown HO6.out hg8 W2.heap.size (Nat.le_refl _) hz7)); clear hown8 hg8 hz8))
          go_roundw
          case rel =>
            refine ⟨j, m + 1 + 1, some ⟨g8, 0, none⟩, q8, by omega, by first | go_num | rfl, rfl, ?_, ?_, HB8.out⟩
            · show _ = _; rw [HST.out, hml.out]; simp
            · show World.owns _ _ _ _ _ _ _
              rw [HST.out, List.map_append, List.map_append]
              exact HO8.out
          case measure => first | (simp [intOf]; done) | (simp [intOf]; omega)
end Go.Proofs.Ytdfklcmiagmgaaa
