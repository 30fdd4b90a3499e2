/- Helpers and walks, in one text. -/
import Derived.Test.YtkjlfjnncdkmlaaPF3
import Derived.Test.YtkjlfjnncdkmlaaPNa
import Derived.Test.YtkjlfjnncdkmlaaPN8
/- Wide integers: helpers and walks, in one text (XR6 XR7 XR8 XR9). -/
/- The reference's numbers with signs: the form of a number. -/
namespace Go.Proofs.Ytkjlfjnncdkmlaa
set_option linter.all false
open Go.RowKit Go.Shelf Go.WideNum
theorem words_cons {B : Nat} (hB : 1 < B) (x : Nat) (h : x ≠ 0) : words B x = x % B :: words B (x / B) := by
  obtain ⟨f, rfl⟩ : ∃ f, x = f + 1 := ⟨x - 1, by omega⟩
  show wordsOf B (f + 1) (f + 1) = _
  rw [wordsOf, if_neg h]
  congr 1
  have hv : valW B (words B ((f + 1) / B)) = (f + 1) / B := val_words hB _ _ (Nat.le_refl _)
  have hd : (f + 1) / B ≤ f := by have := Nat.div_lt_self (show 0 < f + 1 by omega) hB; omega
  have := words_val hB (words B ((f + 1) / B)) (words_lt (by omega) _ _) (words_trimmed hB _ _ (Nat.le_refl _)) f (by rw [hv]; exact hd)
  rw [hv] at this
  exact this
def bytesH (n k : Nat) : List Nat := (words 256 (n / 65536 ^ k)).reverse
theorem bytesH_two (n k : Nat) (h : n / 65536 ^ (k + 1) ≠ 0 ∨ 256 ≤ dig 65536 n k) : bytesH n k = bytesH n (k + 1) ++ [dig 65536 n k / 256] ++ [dig 65536 n k % 256] := by
  unfold bytesH
  have e := div_pow_succ 65536 n k
  have hd := hw_dig n k
  generalize n / 65536 ^ (k + 1) = m at *
  generalize dig 65536 n k = d at *
  rw [e, words_cons (by omega) _ (by omega), words_cons (by omega) _ (by omega)]
  rw [show (d + 65536 * m) % 256 = d % 256 by omega, show (d + 65536 * m) / 256 % 256 = d / 256 by omega, show (d + 65536 * m) / 256 / 256 = m by omega]
  simp
theorem bytesH_one (n k : Nat) (h : n / 65536 ^ (k + 1) = 0) (h2 : dig 65536 n k < 256) (h0 : dig 65536 n k ≠ 0) : bytesH n k = bytesH n (k + 1) ++ [dig 65536 n k % 256] := by
  unfold bytesH
  have e := div_pow_succ 65536 n k
  rw [h] at e ⊢
  generalize dig 65536 n k = d at *
  rw [e, Nat.mul_zero, Nat.add_zero, words_cons (by omega) _ h0, Nat.div_eq_of_lt h2]
  rfl
theorem bytesH_nil (n k : Nat) : (bytesH n k).length = 0 ↔ n / 65536 ^ k = 0 := by
  unfold bytesH
  rw [List.length_reverse]
  exact words_len0 (by omega) _
theorem bytesH_top (n : Nat) : bytesH n (hw n).length = [] := by
  unfold bytesH
  rw [Nat.div_eq_of_lt (hw_vlt n)]; rfl
theorem bytesH_zero (n : Nat) : bytesH n 0 = (words 256 n).reverse := by simp [bytesH]
theorem bytesH_lt (n k : Nat) : ∀ x ∈ bytesH n k, x < 256 := fun x hx => words_lt (by omega) _ _ x (List.mem_reverse.1 hx)
theorem bytesH_len (n k L : Nat) (h : n < 65536 ^ L) : (bytesH n k).length ≤ 2 * L := by
  unfold bytesH
  rw [List.length_reverse]
  exact words_length (by omega) _ _ (by rw [← pow2]; exact Nat.lt_of_le_of_lt (Nat.div_le_self _ _) h)
set_option maxRecDepth 100000 in
theorem conv_nil (c : Nat) (hc : c = 0) (W : World) : (convert 108 9 (.slice none 0 c)).run Try.prog W = .ok (.string ⟨#[]⟩) W := by
  subst hc; kernel_rfl
set_option maxRecDepth 100000 in
theorem bytes_string {W : World} {base n m c : Nat} {a : Option Addr} (h : W.owns base 5 1 (.slice a m c) m ((bytesH n 0).map u8V)) :
    (convert 108 9 (.slice a m c)).run Try.prog W = .ok (.string (magB n)) W := by
  have e : (bytesH n 0).map UInt8.ofNat = magL n := by rw [bytesH_zero, List.map_reverse]; rfl
  unfold magB
  rw [← e]
  rcases h.2 with ⟨e1, e2⟩ | ⟨g, cap, cur, fz, e1, _⟩
  · injection e1 with e3 e4 e5
    subst e3 e4 e5
    have hl := h.1
    simp only [List.length_map, Nat.zero_mul] at hl
    rw [List.eq_nil_of_length_eq_zero hl]
    exact conv_nil 0 rfl W
  · injection e1 with e3 e4 e5
    subst e3 e5
    exact own_string h (bytesH_lt n 0) 9 (by kernel_rfl)
set_option maxRecDepth 100000 in
set_option maxHeartbeats 8000000 in
theorem hout_any (s : Bool) (n L : Nat) (hn : n < 65536 ^ L) (hL : L ≤ 10000) (v : Value) (w : World) (hv : World.rawH w v n L) :
    Calls Try.prog 53 #[.agg #[.bool s, v]] w (FormRet w s n) := by
  obtain ⟨a, c, hva, -, -, -⟩ := rawH_words hv
  subst hva
  have HV : Hid (World.rawH w (.slice a L c) n L) := hv
  clear hv
  obtain ⟨W0, hW0⟩ : ∃ W0, W0 = (w.alloc (.cells #[.bool s, .slice a L c] 77)).alloc (.cells #[.bool false, .string ⟨#[]⟩] 42) := ⟨_, rfl⟩
  have g0 : W0.heap[w.heap.size]? = some (.cells #[.bool s, .slice a L c] 77) := by rw [hW0, Below.heap_alloc _ _ _ (by simp)]; exact heap_alloc_new w _
  have g1 : W0.heap[w.heap.size + 1]? = some (.cells #[.bool false, .string ⟨#[]⟩] 42) := by rw [hW0]; exact alloc_last _ _ (by simp)
  have hb0 : Below w.heap.size w W0 := by rw [hW0]; exact (((Below.refl _ w).alloc (Nat.le_refl _) _).alloc (by simp) _)
  have HB0 := Lib.hid hb0
  have HG0 := Lib.hid g0
  have HG1 := Lib.hid g1
  obtain ⟨c00, c01, f00, f01⟩ := num_cells g0
  have HW0 := Lib.hid hW0
  obtain ⟨S, hS⟩ : ∃ S, S = (s && decide (n ≠ 0)) := ⟨_, rfl⟩
  have htr := fun W => fun h => htrim_any s n L hn hL (.slice a L c) W h
  rw [← hS] at htr
  have HTR := Lib.hid htr
  have HBL : Hid (∀ k, (bytesH n k).length ≤ 20000) := fun k => Nat.le_trans (bytesH_len n k L hn) (by omega)
  have HO : Hid (outB s n = (if n < lim then .agg #[.bool S, .string (magB n)] else .agg #[.bool false, .string ⟨#[]⟩]) ∧ outE n = if n < lim then 0 else 7) := by
    refine ⟨?_, rfl⟩
    unfold outB emptyW wideV
    rw [hS]
  have HML : Hid ((hw n).length ≤ 10000) := Nat.le_trans (hw_len_le hn) hL
  obtain ⟨HPOST, hpost⟩ : ∃ R, R = FormRet w s n := ⟨_, rfl⟩
  rw [← hpost]
  have HP := Lib.hid hpost
  clear hb0 g0 g1 hW0 hn hS htr hpost
  go_enter Try.func53, Try.ntmps53
  go_upto_region 1 with (fail)
  rw [← HW0.out]
  go_wp2_with fail
  (with_reducible refine (HTR.out _ (rawH_below HV.out HB0.out)).mono ?_)
  rintro e w5 ⟨v5, rfl, hn5, hb5⟩
  obtain ⟨a5, M, c5, hM, rfl, hc5, hm5, hs5⟩ := numH_words hn5
  have hg5 := (hb5.block (w.heap.size) (lt_of_heap HG0.out)).trans HG0.out
  have hg51 := (hb5.block (w.heap.size + 1) (lt_of_heap HG1.out)).trans HG1.out
  have HB5 := Lib.hid (HB0.out.trans (hb5.mono HB0.out.size))
  have HN5 := Lib.hid hn5
  have HG5 := Lib.hid hg5
  have HG51 := Lib.hid hg51
  have HM := Lib.hid hM
  have hM1 : M ≤ 10000 := by rw [hM]; exact HML.out
  have hML : (M : Int) ≤ 10000 := by omega
  clear c00 c01 f00 f01
  obtain ⟨d0, d1, fz0, fz1⟩ := num_cells hg5
  clear hn5 hb5 hg5 hg51 hs5 hM hm5
  go_wp2_with fail
  clear d0 d1 fz0 fz1
  have m2 := num_set HG5.out (.bool S) (.slice a5 M c5)
  have hb2 : Below w.heap.size w ((w5.setCell ⟨w.heap.size, 0, none⟩ (.bool S)).setCell ⟨w.heap.size, 1, none⟩ (.slice a5 M c5)) := (HB5.out.setCell (by simp) _).setCell (by simp) _
  have hn2 := numH_set HN5.out HG5.out (.bool S) (.slice a5 M c5)
  have hr2 := (two_other (W := w5) (p := w.heap.size) (.bool S) (.slice a5 M c5) (w.heap.size + 1) (by omega)).trans HG51.out
  generalize (w5.setCell ⟨w.heap.size, 0, none⟩ (.bool S)).setCell ⟨w.heap.size, 1, none⟩ (.slice a5 M c5) = W2 at m2 hb2 hn2 hr2 ⊢
  obtain ⟨a', M', c', hM', e', hc', hm', hs'⟩ := numH_words hn2
  injection e' with e1 e2 e3
  subst e1 e2 e3
  have HS2 := Lib.hid hs'
  have HM2 := Lib.hid m2
  have HB2 := Lib.hid hb2
  have HR2 := Lib.hid hr2
  clear m2 hb2 hn2 hr2 hM' hs' hm'
  go_loopw [4, 5] (fun bv iv wr => ∃ (k m : Nat) (xa : Option Addr) (xc : Nat), k ≤ M ∧ iv = .int .i64 ((k : Int) - 1) ∧ bv = .slice xa m xc ∧ Hid (m = (bytesH n k).length) ∧ Hid (wr.owns W2.heap.size 5 1 (.slice xa m xc) m ((bytesH n k).map u8V)) ∧ Hid (Below W2.heap.size W2 wr)) (fun _ iv _ => (intOf iv + 1).toNat)
  case atStart => exact ⟨M, 0, none, 0, Nat.le_refl _, rfl, rfl, by show _ = _; rw [HM.out, bytesH_top]; rfl, by show World.owns _ _ _ _ _ _ _; rw [HM.out, bytesH_top]; exact owns_nil _ _ _, Below.refl _ W2⟩
  case round =>
    obtain ⟨k, m, xa, xc, hk, rfl, rfl, hml, hO, hB⟩ := hrel
    have hz := hB.out.size
    have hgr := (hB.out.block _ (lt_of_heap HM2.out)).trans HM2.out
    obtain ⟨c0, c1, f0, f1⟩ := num_cells hgr
    clear hgr
    cases k with
    | zero =>
      have h0 : ¬ (0 : Int) ≤ ((0 : Nat) : Int) - 1 := by omega
      have hcv := bytes_string hO.out
      have hg1 := (hB.out.block _ (lt_of_heap HR2.out)).trans HR2.out
      obtain ⟨d0, d1, fz0, fz1⟩ := num_cells hg1
      have HG1 := Lib.hid hg1
      have hN : m = (words 256 n).length := by rw [hml.out, bytesH_zero, List.length_reverse]
      have hli := lim_iff n m hN
      have hbw := HB2.out.trans (hB.out.mono HB2.out.size)
      have HBW := Lib.hid hbw
      obtain ⟨mb, hmb⟩ : ∃ mb, mb = magB n := ⟨_, rfl⟩
      rw [← hmb] at hcv HO
      clear hg1 hN hbw hmb
      by_cases hlt : n < lim
      · have hm256 : ¬ (256 : Int) < (m : Int) := by have := hli.1 hlt; omega
        have HO1 := Lib.hid (show outB s n = .agg #[.bool S, .string mb] by rw [HO.out.1, if_pos hlt])
        have HO2 := Lib.hid (show outE n = 0 by rw [HO.out.2, if_pos hlt])
        clear hli hlt
        go_wp2
        have m2 := num_set HG1.out (.bool S) (.string mb)
        have hb9 : Below w.heap.size w ((wr.setCell ⟨w.heap.size + 1, 0, none⟩ (.bool S)).setCell ⟨w.heap.size + 1, 1, none⟩ (.string mb)) := (HBW.out.setCell (by simp) _).setCell (by simp) _
        obtain ⟨d20, d21, -, -⟩ := num_cells m2
        clear m2 d0 d1 fz0 fz1
        generalize (wr.setCell ⟨w.heap.size + 1, 0, none⟩ (.bool S)).setCell ⟨w.heap.size + 1, 1, none⟩ (.string mb) = W9 at d20 d21 hb9 ⊢
        rw [HP.out]
        exact bodyPost_ret (v := .tuple #[.agg #[.bool S, .string mb], .int .i64 0]) (by simp [results, Try.results53, go_sem, d20, d21]) rfl ⟨by rw [HO1.out, HO2.out], hb9⟩
      · have hm256 : (256 : Int) < (m : Int) := by
          rcases Nat.lt_or_ge 256 m with h | h
          · omega
          · exact absurd (hli.2 h) hlt
        have HO1 := Lib.hid (show outB s n = .agg #[.bool false, .string ⟨#[]⟩] by rw [HO.out.1, if_neg hlt])
        have HO2 := Lib.hid (show outE n = 7 by rw [HO.out.2, if_neg hlt])
        clear hli hlt
        go_wp2
        have m2 := num_set HG1.out (.bool false) (.string ⟨#[]⟩)
        have hb9 : Below w.heap.size w ((wr.setCell ⟨w.heap.size + 1, 0, none⟩ (.bool false)).setCell ⟨w.heap.size + 1, 1, none⟩ (.string ⟨#[]⟩)) := (HBW.out.setCell (by simp) _).setCell (by simp) _
        obtain ⟨d20, d21, -, -⟩ := num_cells m2
        clear m2 d0 d1 fz0 fz1
        generalize (wr.setCell ⟨w.heap.size + 1, 0, none⟩ (.bool false)).setCell ⟨w.heap.size + 1, 1, none⟩ (.string ⟨#[]⟩) = W9 at d20 d21 hb9 ⊢
        rw [HP.out]
        exact bodyPost_ret (v := .tuple #[.agg #[.bool false, .string ⟨#[]⟩], .int .i64 7]) (by simp [results, Try.results53, go_sem, d20, d21]) rfl ⟨by rw [HO1.out, HO2.out], hb9⟩
    | succ j =>
      rw [show ((j + 1 : Nat) : Int) - 1 = (j : Int) by omega]
      obtain ⟨b, off, rfl, hbl, hx0⟩ := HS2.out j (by omega)
      have hx := (hB.out.cell (p := ⟨b, off + j, none⟩) hbl).trans hx0
      have hdl := hw_dig n j
      have hnil := bytesH_nil n (j + 1)
      rw [← hml.out] at hnil
      have hm20 := HBL.out (j + 1)
      rw [← hml.out] at hm20
      have h2 := bytesH_two n j
      have h1 := bytesH_one n j
      have htop : j + 1 = M → dig 65536 n j ≠ 0 := fun h => hw_top (by rw [← HM.out]; exact h.symm)
      have hnz : n / 65536 ^ (j + 1) = 0 → dig 65536 n j ≠ 0 := fun h => by
        refine htop ?_
        have h3 := hw_len_le (n := n) (k := j + 1) (by
          rcases Nat.lt_or_ge n (65536 ^ (j + 1)) with h4 | h4
          · exact h4
          · have := Nat.div_pos h4 (Nat.pow_pos (show 0 < 65536 by omega)); omega)
        rw [← HM.out] at h3
        omega
      obtain ⟨d, ed⟩ : ∃ x, x = dig 65536 n j := ⟨_, rfl⟩
      rw [← ed] at hx hdl h2 h1 hnz
      obtain ⟨p, ep⟩ : ∃ x, x = d / 256 := ⟨_, rfl⟩
      obtain ⟨q, eq⟩ : ∃ x, x = d % 256 := ⟨_, rfl⟩
      rw [← ep, ← eq] at h2
      rw [← eq] at h1
      have t2 : (d : Int) / 256 = (p : Int) := by omega
      have t3 : (p : Int) % 256 = (p : Int) := by omega
      have t4 : (d : Int) % 256 = (q : Int) := by omega
      have t5 : (q : Int) % 256 = (q : Int) := by omega
      have hwl := lt_of_heap HM2.out
      have hjM : (j : Int) < (M : Int) := by omega
      have hj0 : (0 : Int) ≤ (j : Int) := by omega
      clear hx0 htop ep eq
      by_cases hd : 256 ≤ d
      · have HST := Lib.hid (h2 (.inr hd))
        have u1 : (256 : Int) ≤ (d : Int) := by omega
        clear h2 h1 hnil hnz ed
        go_wp2_with (first | (at_builtin; refine app_u8 wr rfl (.tmp 27) (.tmp 35) rfl W2.heap.size (.slice xa m xc) m _ rfl hO.out (p : Int) wr.heap.size rfl rfl (by omega) hz ?_; intro v6 w6 hown6 hg6 hz6; have HO6 := Lib.hid hown6; obtain ⟨g6, q6, rfl⟩ := hown6.succ; have hb6 := below_grown hO.out hg6 W2.heap.size (Nat.le_refl _) hz; have HB6 := Lib.hid (hB.out.trans hb6); have hz7 := Nat.le_trans hz (Nat.le_of_lt hz6); have k0 := (hb6.cell (p := ⟨w.heap.size, 0, none⟩) hwl).trans c0; have k1 := (hb6.cell (p := ⟨w.heap.size, 1, none⟩) hwl).trans c1; have kx := (hb6.cell (p := ⟨b, off + j, none⟩) hbl).trans hx; clear hown6 hg6 hb6 hz6) | (at_builtin; refine app_u8 w6 rfl (.tmp 37) (.tmp 45) rfl W2.heap.size (.slice (some ⟨g6, 0, none⟩) (m + 1) q6) (m + 1) _ rfl HO6.out (q : Int) w6.heap.size rfl rfl (by omega) hz7 ?_; intro v8 w8 hown8 hg8 hz8; have HO8 := Lib.hid hown8; obtain ⟨g8, q8, rfl⟩ := hown8.succ; have HB8 := Lib.hid (HB6.out.trans (below_grown HO6.out hg8 W2.heap.size (Nat.le_refl _) hz7)); clear hown8 hg8 hz8))
        go_roundw
        case rel =>
          refine ⟨j, m + 1 + 1, some ⟨g8, 0, none⟩, q8, by omega, by first | go_num | rfl, rfl, ?_, ?_, HB8.out⟩
          · show _ = _; rw [HST.out, hml.out]; simp
          · show World.owns _ _ _ _ _ _ _
            rw [HST.out, List.map_append, List.map_append]
            exact HO8.out
        case measure => first | (simp [intOf]; done) | (simp [intOf]; omega)
      · have u1 : ¬ (256 : Int) ≤ (d : Int) := by omega
        by_cases hm0 : n / 65536 ^ (j + 1) = 0
        · have HST := Lib.hid (h1 hm0 (by omega) (hnz hm0))
          have u2 : ¬ (0 : Int) < (m : Int) := by have := hnil.2 hm0; omega
          clear h2 h1 hnil hnz hm0 ed
          go_wp2_with (at_builtin; refine app_u8 wr rfl (.tmp 37) (.tmp 45) rfl W2.heap.size (.slice xa m xc) m _ rfl hO.out (q : Int) wr.heap.size rfl rfl (by omega) hz ?_; intro v8 w8 hown8 hg8 hz8; have HO8 := Lib.hid hown8; obtain ⟨g8, q8, rfl⟩ := hown8.succ; have HB8 := Lib.hid (hB.out.trans (below_grown hO.out hg8 W2.heap.size (Nat.le_refl _) hz)); clear hown8 hg8 hz8)
          go_roundw
          case rel =>
            refine ⟨j, m + 1, some ⟨g8, 0, none⟩, q8, by omega, by first | go_num | rfl, rfl, ?_, ?_, HB8.out⟩
            · show _ = _; rw [HST.out, hml.out]; simp
            · show World.owns _ _ _ _ _ _ _
              rw [HST.out, List.map_append]
              exact HO8.out
          case measure => first | (simp [intOf]; done) | (simp [intOf]; omega)
        · have HST := Lib.hid (h2 (.inl hm0))
          have u2 : (0 : Int) < (m : Int) := by
            rcases Nat.eq_zero_or_pos m with h | h
            · exact absurd (hnil.1 h) hm0
            · omega
          clear h2 h1 hnil hnz hm0 ed
          go_wp2_with (first | (at_builtin; refine app_u8 wr rfl (.tmp 27) (.tmp 35) rfl W2.heap.size (.slice xa m xc) m _ rfl hO.out (p : Int) wr.heap.size rfl rfl (by omega) hz ?_; intro v6 w6 hown6 hg6 hz6; have HO6 := Lib.hid hown6; obtain ⟨g6, q6, rfl⟩ := hown6.succ; have hb6 := below_grown hO.out hg6 W2.heap.size (Nat.le_refl _) hz; have HB6 := Lib.hid (hB.out.trans hb6); have hz7 := Nat.le_trans hz (Nat.le_of_lt hz6); have k0 := (hb6.cell (p := ⟨w.heap.size, 0, none⟩) hwl).trans c0; have k1 := (hb6.cell (p := ⟨w.heap.size, 1, none⟩) hwl).trans c1; have kx := (hb6.cell (p := ⟨b, off + j, none⟩) hbl).trans hx; clear hown6 hg6 hb6 hz6) | (at_builtin; refine app_u8 w6 rfl (.tmp 37) (.tmp 45) rfl W2.heap.size (.slice (some ⟨g6, 0, none⟩) (m + 1) q6) (m + 1) _ rfl HO6.out (q : Int) w6.heap.size rfl rfl (by omega) hz7 ?_; intro v8 w8 hown8 hg8 hz8; have HO8 := Lib.hid hown8; obtain ⟨g8, q8, rfl⟩ := hown8.succ; have HB8 := Lib.hid (HB6.out.trans (below_grown HO6.out hg8 W2.heap.size (Nat.le_refl _) hz7)); clear hown8 hg8 hz8))
          go_roundw
          case rel =>
            refine ⟨j, m + 1 + 1, some ⟨g8, 0, none⟩, q8, by omega, by first | go_num | rfl, rfl, ?_, ?_, HB8.out⟩
            · show _ = _; rw [HST.out, hml.out]; simp
            · show World.owns _ _ _ _ _ _ _
              rw [HST.out, List.map_append, List.map_append]
              exact HO8.out
          case measure => first | (simp [intOf]; done) | (simp [intOf]; omega)
end Go.Proofs.Ytkjlfjnncdkmlaa

/- The reference's numbers with signs: the sum. -/
namespace Go.Proofs.Ytkjlfjnncdkmlaa
set_option linter.all false
open Go.RowKit Go.Shelf Go.WideNum
theorem SRet.back {w W : World} {s : Bool} {n : Nat} {e : Ending} {w' : World} (h : SRet W s n e w') (hb : Below w.heap.size w W) : SRet w s n e w' := by
  obtain ⟨v, h1, h2, h3⟩ := h
  exact ⟨v, h1, h2, hb.trans (h3.mono hb.size)⟩
end Go.Proofs.Ytkjlfjnncdkmlaa

/- The reference's numbers with signs: the product. -/

/- The reference: helpers of its exported functions. -/
namespace Go
section
variable {P : Program} {ops : Array Oper} {Q : Exit → Act → World → Prop} {S : World → Prop} {late : Nat → Bool}
theorem wpAnyD_keep (i : Nat) {o : Oper} {fuel : Nat} {listed : Array Bool} {a : Act} {w : World} (hr : Region.ready .any ops listed = [i]) (ho : ops.toList[i]? = some o)
    (h : ∀ K' : Act → World → Prop, Shut (∀ a w, S w → (S w → wpAnyD P ops Q S late fuel (listed.setIfInBounds i true) a w) → K' a w) → if Region.wanted o (yielded ops a.tmps) = true then Oper.wp P o a w K' Q else K' (a.put o.dst undef) w) :
    wpAnyD P ops Q S late (fuel + 1) listed a w := by
  refine ⟨fun h0 => (by rw [hr] at h0; cases h0), fun j hj => ?_⟩
  rw [hr] at hj
  obtain rfl : j = i := by simpa using hj
  exact wpOp_step (by simpa using ho) (fun K' hK => h K' (fun a w hS hW => hK a w ⟨fun _ _ => hS, hW hS⟩))
end
end Go
namespace Go.Proofs.Ytkjlfjnncdkmlaa
set_option linter.all false
open Go.RowKit Go.Shelf Go.WideNum
theorem hout_num (s : Bool) (n : Nat) (hl : (hw n).length ≤ 10000) (fb : Bool) (ft : ByteArray) (E : Int) (h1 : outZ (zOf s n) = .agg #[.bool fb, .string ft]) (h2 : errZ (zOf s n) = E) (v : Value) (w : World) (h : World.numH w v n) :
    Calls Try.prog 53 #[.agg #[.bool s, v]] w fun e w' => e = .returned (.tuple #[.agg #[.bool fb, .string ft], .int .i64 E]) ∧ Below w.heap.size w w' := by
  have := hout_any s n _ (hw_vlt n) hl v w (numH_raw h)
  unfold FormRet at this
  rw [outB_z, outE_z s, h1, h2] at this
  exact this
theorem wide_hold {w w' W : World} {g : Nat} {b : Bool} {s : ByteArray} (h : W.heap[g]? = some (.cells #[.bool b, .string s] 42)) (hb : Below W.heap.size W w') : w'.heap[g]? = some (.cells #[.bool b, .string s] 42) := (hb.block _ (lt_of_heap h)).trans h
end Go.Proofs.Ytkjlfjnncdkmlaa

/- Walks: the integer of 64 bits of a form: the program's. -/
namespace Go.Proofs.Ytkjlfjnncdkmlaa
set_option linter.all false
open Go.RowKit Go.Shelf Go.WideNum
theorem zeros_app (n : Nat) : (wd n).map u32V ++ [.int .u32 0, .int .u32 0] = ((List.range ((wd n).length + 2)).map (dig 4294967296 n)).map u32V := by
  rw [show (wd n).length + 2 = (wd n).length + 1 + 1 by omega, List.range_succ, List.range_succ]
  simp only [List.map_append, List.map_cons, List.map_nil]
  rw [wd_high n _ (Nat.le_refl _), wd_high n _ (Nat.le_succ _)]
  have h : (List.range (wd n).length).map (dig 4294967296 n) = wd n := by
    apply List.ext_getElem?
    intro i
    rcases Nat.lt_or_ge i (wd n).length with h | h
    · rw [wd_get n i h]; simp [h]
    · rw [List.getElem?_eq_none (by simpa using h), List.getElem?_eq_none h]
  rw [h]
  simp [u32V]
end Go.Proofs.Ytkjlfjnncdkmlaa

/- Plain: long division by words: the numbers of a round; the rows in memory. -/
namespace Go.Proofs.Ytkjlfjnncdkmlaa
set_option linter.all false
open Go.RowKit Go.Shelf Go.WideNum
theorem top_two {B X k : Nat} (hB : 0 < B) (h : X < B ^ (k + 2)) : X / B ^ k = dig B X (k + 1) * B + dig B X k := by
  have hp : 0 < B ^ k := Nat.pow_pos hB
  unfold dig
  have h1 : X / B ^ k < B * B := (Nat.div_lt_iff_lt_mul hp).2 (by rw [Nat.pow_succ, Nat.pow_succ] at h; rw [Nat.mul_assoc, Nat.mul_comm] at h; exact h)
  rw [Nat.pow_succ, ← Nat.div_div_eq_div_mul]
  obtain ⟨Y, hY⟩ : ∃ Y, Y = X / B ^ k := ⟨_, rfl⟩
  rw [← hY] at h1 ⊢
  have h2 : Y / B < B := (Nat.div_lt_iff_lt_mul hB).2 h1
  rw [Nat.mod_eq_of_lt h2]
  have := Nat.mod_add_div Y B
  rw [Nat.mul_comm] at this
  omega
theorem wd_len_le2 {A C k : Nat} (h : A ≤ C) (hc : (wd C).length ≤ k) : (wd A).length ≤ k := by
  have h1 := words_length (B := 4294967296) (by omega) A (wd C).length (Nat.lt_of_le_of_lt h (wd_vlt C))
  unfold wd at *; omega
theorem norm_facts (A C s n p : Nat) (hn : n = (wd C).length) (hp : p = (wd A).length) (hAC : C ≤ A) (hn2 : 2 ≤ n) (hs : s < 32) (htop : dig 4294967296 C (n - 1) < 2 ^ (32 - s)) :
    (wd (C * 2 ^ s)).length = n ∧ A * 2 ^ s < C * 2 ^ s * 4294967296 ^ (p + 1 - n) ∧ A * 2 ^ s < 4294967296 ^ (p + 1) ∧ (wd (A * 2 ^ s)).length ≤ p + 1 ∧ n ≤ p ∧ C * 2 ^ s < 4294967296 ^ n ∧ 4294967296 ^ (n - 1) ≤ C * 2 ^ s ∧ 0 < C := by
  have hp2 : 0 < 2 ^ s := Nat.pow_pos (by omega)
  have hCl := wd_vlt C
  have hAl := wd_vlt A
  rw [← hn] at hCl
  rw [← hp] at hAl
  have hClo : 4294967296 ^ (n - 1) ≤ C := by
    rcases Nat.lt_or_ge C (4294967296 ^ (n - 1)) with h | h
    · have := words_length (B := 4294967296) (by omega) C (n - 1) h
      unfold wd at hn
      omega
    · exact h
  have hC0 : 0 < C := Nat.lt_of_lt_of_le (Nat.pow_pos (by omega)) hClo
  have hnp : n ≤ p := by
    rcases Nat.lt_or_ge p n with h | h
    · exfalso
      have h1 : 4294967296 ^ p ≤ 4294967296 ^ (n - 1) := Nat.pow_le_pow_right (by omega) (by omega)
      omega
    · exact h
  have hpn : 0 < 4294967296 ^ (n - 1) := Nat.pow_pos (by omega)
  have hsplit : 4294967296 ^ n = 4294967296 ^ (n - 1) * 4294967296 := by rw [← Nat.pow_succ]; congr 1; omega
  have hVl : C * 2 ^ s < 4294967296 ^ n := by
    have h1 : dig 4294967296 C (n - 1) = C / 4294967296 ^ (n - 1) := by
      unfold dig
      refine Nat.mod_eq_of_lt ((Nat.div_lt_iff_lt_mul hpn).2 ?_)
      rw [Nat.mul_comm, ← hsplit]; exact hCl
    rw [h1] at htop
    obtain ⟨t, ht⟩ : ∃ t, t = C / 4294967296 ^ (n - 1) := ⟨_, rfl⟩
    rw [← ht] at htop
    have h2 : C < (t + 1) * 4294967296 ^ (n - 1) := by
      have h3 := Nat.mod_add_div C (4294967296 ^ (n - 1))
      have h4 := Nat.mod_lt C hpn
      rw [← ht, Nat.mul_comm] at h3
      rw [Nat.add_mul, Nat.one_mul]
      omega
    have h3 : (t + 1) * 4294967296 ^ (n - 1) * 2 ^ s ≤ 2 ^ (32 - s) * 4294967296 ^ (n - 1) * 2 ^ s := Nat.mul_le_mul_right _ (Nat.mul_le_mul_right _ htop)
    have h4 : 2 ^ (32 - s) * 4294967296 ^ (n - 1) * 2 ^ s = 4294967296 ^ n := by
      rw [hsplit, Nat.mul_right_comm, ← Nat.pow_add, show 32 - s + s = 32 by omega, Nat.mul_comm]
    have h5 : C * 2 ^ s < (t + 1) * 4294967296 ^ (n - 1) * 2 ^ s := (Nat.mul_lt_mul_right hp2).2 h2
    omega
  have hVlo : 4294967296 ^ (n - 1) ≤ C * 2 ^ s := Nat.le_trans hClo (Nat.le_mul_of_pos_right _ hp2)
  have h2s : 2 ^ s < 4294967296 := by rw [show (4294967296 : Nat) = 2 ^ 32 by rfl]; exact Nat.pow_lt_pow_right (by omega) hs
  have hA2 : A * 2 ^ s < 4294967296 ^ (p + 1) := by rw [Nat.pow_succ]; exact Nat.mul_lt_mul'' hAl h2s
  refine ⟨?_, ?_, hA2, words_length (by omega) _ _ hA2, hnp, hVl, hVlo, hC0⟩
  · have h1 := words_length (B := 4294967296) (by omega) _ _ hVl
    have h2 := words_lenlt (B := 4294967296) (by omega) _ _ hVlo
    unfold wd
    omega
  · have h1 : 4294967296 ^ p = 4294967296 ^ (n - 1) * 4294967296 ^ (p + 1 - n) := by rw [← Nat.pow_add]; congr 1; omega
    have h2 : 4294967296 ^ (n - 1) * 4294967296 ^ (p + 1 - n) ≤ C * 4294967296 ^ (p + 1 - n) := Nat.mul_le_mul_right _ hClo
    rw [Nat.mul_right_comm]
    exact (Nat.mul_lt_mul_right hp2).2 (by omega)
structure Rnd (V X k j v1 v2 top u2 q : Nat) : Prop where
  hV0 : 0 < V
  low : v1 * 4294967296 ^ (k + 1) ≤ V
  pos : 0 < v1
  v1B : v1 < 4294967296
  v2B : v2 < 4294967296
  hV : V / 4294967296 ^ k = v1 * 4294967296 + v2
  hU : X / 4294967296 ^ j / 4294967296 ^ k = top * 4294967296 + u2
  htop : top = X / 4294967296 ^ j / 4294967296 ^ (k + 1)
  topB : top < (v1 + 1) * 4294967296
  top64 : top < 18446744073709551616
  u2B : u2 < 4294967296
  hq : q = X / 4294967296 ^ j / V
  qB : q < 4294967296
theorem rnd_of (V X k j : Nat) (hVl : V < 4294967296 ^ (k + 2)) (hVlo : 4294967296 ^ (k + 1) ≤ V) (hX : X < V * 4294967296 ^ (j + 1)) :
    Rnd V X k j (dig 4294967296 V (k + 1)) (dig 4294967296 V k) (dig 4294967296 X (j + (k + 2)) * 4294967296 + dig 4294967296 X (j + (k + 1))) (dig 4294967296 X (j + k)) (X / 4294967296 ^ j / V) := by
  have hB : 0 < 4294967296 := by omega
  have hV0 : 0 < V := Nat.lt_of_lt_of_le (Nat.pow_pos hB) hVlo
  have hj : 0 < 4294967296 ^ j := Nat.pow_pos hB
  have hk : 0 < 4294967296 ^ k := Nat.pow_pos hB
  have hk1 : 0 < 4294967296 ^ (k + 1) := Nat.pow_pos hB
  have hd1 : dig 4294967296 V (k + 1) = V / 4294967296 ^ (k + 1) := by
    unfold dig
    refine Nat.mod_eq_of_lt ((Nat.div_lt_iff_lt_mul hk1).2 ?_)
    rw [Nat.mul_comm, ← Nat.pow_succ]; exact hVl
  have hXl : X < 4294967296 ^ (j + k + 1 + 2) := by
    refine Nat.lt_of_lt_of_le hX ?_
    rw [show j + k + 1 + 2 = (k + 2) + (j + 1) by omega, Nat.pow_add 4294967296 (k + 2)]
    exact Nat.mul_le_mul_right _ (Nat.le_of_lt hVl)
  have hUV : X / 4294967296 ^ j < V * 4294967296 := (Nat.div_lt_iff_lt_mul hj).2 (by rw [Nat.mul_assoc, Nat.mul_comm 4294967296, ← Nat.pow_succ]; exact hX)
  have htop : dig 4294967296 X (j + (k + 2)) * 4294967296 + dig 4294967296 X (j + (k + 1)) = X / 4294967296 ^ j / 4294967296 ^ (k + 1) := by
    rw [Nat.div_div_eq_div_mul, ← Nat.pow_add, show j + (k + 2) = j + (k + 1) + 1 by omega]
    exact (top_two (k := j + (k + 1)) hB (by rw [show j + (k + 1) + 2 = j + k + 1 + 2 by omega]; exact hXl)).symm
  have hx1 := dig_lt hB X (j + (k + 2))
  have hx2 := dig_lt hB X (j + (k + 1))
  have hx3 := dig_lt hB X (j + k)
  have hv1 := dig_lt hB V (k + 1)
  have hv2 := dig_lt hB V k
  have hlow : dig 4294967296 V (k + 1) * 4294967296 ^ (k + 1) ≤ V := by rw [hd1]; exact Nat.div_mul_le_self _ _
  have hhigh : V < (dig 4294967296 V (k + 1) + 1) * 4294967296 ^ (k + 1) := by
    have h3 := Nat.mod_add_div V (4294967296 ^ (k + 1))
    have h4 := Nat.mod_lt V hk1
    rw [Nat.mul_comm] at h3
    rw [hd1, Nat.add_mul, Nat.one_mul]
    omega
  refine ⟨hV0, hlow, ?_, hv1, hv2, top_two hB hVl, ?_, htop, ?_, by omega, hx3, rfl, (Nat.div_lt_iff_lt_mul hV0).2 (by rw [Nat.mul_comm]; exact hUV)⟩
  · rw [hd1]; exact Nat.div_pos hVlo hk1
  · have h1 : X / 4294967296 ^ j / 4294967296 ^ k = X / 4294967296 ^ (j + k) := by rw [Nat.div_div_eq_div_mul, ← Nat.pow_add]
    have h2 : X / 4294967296 ^ (j + (k + 1)) = X / 4294967296 ^ (j + k) / 4294967296 := by rw [← Nat.add_assoc, Nat.pow_succ, Nat.div_div_eq_div_mul]
    rw [htop, Nat.div_div_eq_div_mul _ _ (4294967296 ^ (k + 1)), ← Nat.pow_add, h2, h1]
    unfold dig
    have := Nat.mod_add_div (X / 4294967296 ^ (j + k)) 4294967296
    rw [Nat.mul_comm] at this
    omega
  · rw [htop]
    refine (Nat.div_lt_iff_lt_mul hk1).2 ?_
    have h5 : V * 4294967296 ≤ (dig 4294967296 V (k + 1) + 1) * 4294967296 ^ (k + 1) * 4294967296 := Nat.mul_le_mul_right _ (Nat.le_of_lt hhigh)
    rw [Nat.mul_right_comm] at h5
    omega
theorem Rnd.ge {V X k j v1 v2 top u2 q : Nat} (h : Rnd V X k j v1 v2 top u2 q) : q ≤ top / v1 := by
  rw [h.hq]
  exact guess_ge (B := 4294967296) h.low h.htop (by omega) h.pos
theorem Rnd.down {V X k j v1 v2 top u2 q g r : Nat} (h : Rnd V X k j v1 v2 top u2 q) (hg : g * v1 + r = top) (hq : q ≤ g) (ht : 4294967296 ≤ g ∨ r * 4294967296 + u2 < g * v2) : q < g := by
  rcases ht with ht | ht
  · have := h.qB; omega
  · have h1 := guess_gt (B := 4294967296) (V := V) (U := X / 4294967296 ^ j) (n := k) (g := g) (by omega) h.hV h.hU (by omega) (by rw [show top - g * v1 = r by omega]; exact ht)
    rw [h.hq]; exact h1
theorem Rnd.fin {V X k j v1 v2 top u2 q g r : Nat} (h : Rnd V X k j v1 v2 top u2 q) (hg : g * v1 + r = top) (hgB : g < 4294967296) (ht : ¬ r * 4294967296 + u2 < g * v2) : g ≤ q + 1 := by
  have h1 := guess_le (B := 4294967296) (V := V) (U := X / 4294967296 ^ j) (n := k) (g := g) (by omega) h.hV0 h.hV h.hU h.pos hgB (by omega) (by rw [show top - g * v1 = r by omega]; omega)
  rw [h.hq]; exact h1
theorem Rnd.fin2 {V X k j v1 v2 top u2 q g r : Nat} (h : Rnd V X k j v1 v2 top u2 q) (hg : g * v1 + r = top) (hr : 4294967296 ≤ r) : g < 4294967296 ∧ g ≤ q + 1 := by
  obtain ⟨h1, h2⟩ := guess_rest (B := 4294967296) (v1 := v1) (v2 := v2) (top := top) (u2 := u2) (g := g) h.pos h.v2B h.topB (by omega) (by omega)
  rw [show top - g * v1 = r by omega] at h2
  exact ⟨h1, h.fin hg h1 (by omega)⟩
def DSt (W2 w : World) (gU L cU gq m T : Nat) (f : Nat → Nat) : Prop :=
  w.owns W2.heap.size 22 1 (.slice (some ⟨gU, 0, none⟩) L cU) L (((List.range L).map (dig 4294967296 T)).map u32V) ∧
  w.heap[gq]? = some (.cells (rowF f m) 22) ∧ Below W2.heap.size W2 w ∧ gq ≠ gU ∧ W2.heap.size ≤ gq
theorem DSt.cell {W2 w : World} {gU L cU gq m T : Nat} {f : Nat → Nat} (h : DSt W2 w gU L cU gq m T f) (k : Nat) (hk : k < L) :
    w.cell? ⟨gU, k, none⟩ = some (.int .u32 (dig 4294967296 T k : Int)) ∧ w.frozen? ⟨gU, k, none⟩ = false :=
  ⟨h.1.cell k _ (by simp [u32V, hk]), owns_fz h.1 k hk⟩
theorem DSt.set {W2 w : World} {gU L cU gq m T : Nat} {f : Nat → Nat} (h : DSt W2 w gU L cU gq m T f) (k y : Nat) (hk : k < L) (hy : y < 4294967296) :
    DSt W2 (w.setCell ⟨gU, k, none⟩ (.int .u32 (y : Int))) gU L cU gq m (setDig 4294967296 T k y) f := by
  obtain ⟨h1, h2, h3, h4, h5⟩ := h
  have hlt := (h1.lt gU rfl).1
  refine ⟨?_, by rw [Below.heap_setCell _ _ _ _ h4]; exact h2, h3.setCell hlt _, h4, h5⟩
  have h6 := h1.setOwn k (.int .u32 (y : Int))
  have e : (((List.range L).map (dig 4294967296 T)).map u32V).set k (.int .u32 (y : Int)) = ((List.range L).map (dig 4294967296 (setDig 4294967296 T k y))).map u32V := by
    apply List.ext_getElem?
    intro i
    rcases Nat.lt_or_ge i L with hi | hi
    · by_cases hik : k = i
      · subst hik
        simp [hi, u32V, dig_setDig (show 0 < 4294967296 by omega) T k y hy]
      · simp [hi, u32V, List.getElem?_set, hik, dig_setDig (show 0 < 4294967296 by omega) T k y hy, Ne.symm hik]
    · rw [List.getElem?_eq_none (by simpa using hi), List.getElem?_eq_none (by simpa using hi)]
  rw [← e]; exact h6
theorem DSt.drew {W2 w : World} {gU L cU gq m T : Nat} {f : Nat → Nat} (h : DSt W2 w gU L cU gq m T f) : DSt W2 w.drew gU L cU gq m T f := ⟨h.1, h.2.1, h.2.2.1.drew, h.2.2.2⟩
theorem DSt.drewN {W2 w : World} {gU L cU gq m T : Nat} {f : Nat → Nat} (h : DSt W2 w gU L cU gq m T f) (n : Nat) : DSt W2 (w.drewN n) gU L cU gq m T f := ⟨h.1, h.2.1, below_drewN h.2.2.1 n, h.2.2.2⟩
theorem DSt.qcell {W2 w : World} {gU L cU gq m T : Nat} {f : Nat → Nat} (h : DSt W2 w gU L cU gq m T f) (k : Nat) (hk : k < m) :
    w.cell? ⟨gq, k, none⟩ = some (.int .u32 (f k : Int)) ∧ w.frozen? ⟨gq, k, none⟩ = false := rowF_cell h.2.1 k hk
theorem DSt.qset {W2 w : World} {gU L cU gq m T : Nat} {f f' : Nat → Nat} (h : DSt W2 w gU L cU gq m T f) (k : Nat) (hf : ∀ j, j < m → j ≠ k → f j = f' j) :
    DSt W2 (w.setCell ⟨gq, k, none⟩ (.int .u32 (f' k : Int))) gU L cU gq m T f' := by
  obtain ⟨h1, h2, h3, h4, h5⟩ := h
  exact ⟨h1.setCell_ne (by simp [Value.ownBlock]; exact Ne.symm h4) _, rowF_set h2 hf, h3.setCell h5 _, h4, h5⟩
end Go.Proofs.Ytkjlfjnncdkmlaa

/- Plain: long division by words: the words of a round, as the walk meets them. -/
namespace Go.Proofs.Ytkjlfjnncdkmlaa
set_option linter.all false
open Go.RowKit Go.Shelf Go.WideNum
theorem and_lo32 (y : Nat) (hy : y < 18446744073709551616) : bits .and .u64 (y : Int) 4294967295 = ((y % 4294967296 : Nat) : Int) := by
  show IntKind.u64.wrap ((BitVec.ofInt 64 _ &&& BitVec.ofInt 64 _).toNat : Int) = _
  rw [BitVec.ofInt_natCast, show (4294967295 : Int) = ((4294967295 : Nat) : Int) by rfl, BitVec.ofInt_natCast, BitVec.toNat_and, BitVec.toNat_ofNat, BitVec.toNat_ofNat, Nat.mod_eq_of_lt (by omega), Nat.mod_eq_of_lt (by omega), show (4294967295 : Nat) = 2 ^ 32 - 1 by rfl, Nat.and_two_pow_sub_one_eq_mod, IntKind.wrap_u64]
  omega
theorem wrap_sub2' (x c y z d : Nat) (h : x + 4294967296 * d = y + c + z) (hd : d ≤ 1) (hz : z < 4294967296) :
    ∃ T : Int, IntKind.u64.wrap (IntKind.u64.wrap ((x : Int) - (c : Int)) - (y : Int)) = T ∧ T % 4294967296 = (z : Int) ∧ T / 9223372036854775808 = (d : Int) := by
  refine ⟨_, rfl, ?_, ?_⟩ <;> rw [IntKind.wrap_u64, IntKind.wrap_u64] <;> rcases (show d = 0 ∨ d = 1 by omega) with rfl | rfl <;> omega
theorem sub_words (g v c b x : Nat) (hg : g < 4294967296) (hv : v < 4294967296) (hc : c < 4294967296) (hb : b ≤ 1) (hx : x < 4294967296) :
    ∃ (M pw lo hi z d : Nat) (T : Int), g * v + c = hi * 4294967296 + lo ∧ hi < 4294967296 ∧ z < 4294967296 ∧ d ≤ 1 ∧ z + lo + b = x + d * 4294967296 ∧ M ≤ 18446744065119617025 ∧ pw = M + c ∧ lo < 4294967296 ∧
      IntKind.u64.wrap ((g : Int) * (v : Int)) = (M : Int) ∧ IntKind.u64.wrap ((M : Int) + (c : Int)) = (pw : Int) ∧ (pw : Int) / 4294967296 = (hi : Int) ∧ bits .and .u64 (pw : Int) 4294967295 = (lo : Int) ∧
      IntKind.u64.wrap (IntKind.u64.wrap ((x : Int) - (b : Int)) - (lo : Int)) = T ∧ T % 4294967296 = (z : Int) ∧ T / 9223372036854775808 = (d : Int) := by
  have h1 : g * v ≤ 4294967295 * 4294967295 := Nat.mul_le_mul (by omega) (by omega)
  obtain ⟨M, hM⟩ : ∃ M, M = g * v := ⟨_, rfl⟩
  rw [← hM] at h1 ⊢
  have hand := and_lo32 (M + c) (by omega)
  obtain ⟨lo, hlo⟩ : ∃ lo, lo = (M + c) % 4294967296 := ⟨_, rfl⟩
  obtain ⟨hi, hhi⟩ : ∃ hi, hi = (M + c) / 4294967296 := ⟨_, rfl⟩
  rw [← hlo] at hand
  have hMw : IntKind.u64.wrap ((g : Int) * (v : Int)) = (M : Int) := by
    rw [show ((g : Int) * (v : Int)) = (M : Int) by rw [hM]; simp, IntKind.wrap_u64]; omega
  by_cases h : lo + b ≤ x
  · obtain ⟨T, t1, t2, t3⟩ := wrap_sub2' x b lo (x - lo - b) 0 (by omega) (by omega) (by omega)
    exact ⟨M, M + c, lo, hi, x - lo - b, 0, T, by omega, by omega, by omega, by omega, by omega, h1, rfl, by omega, hMw, by rw [IntKind.wrap_u64]; omega, by omega, hand, t1, t2, t3⟩
  · obtain ⟨T, t1, t2, t3⟩ := wrap_sub2' x b lo (x + 4294967296 - lo - b) 1 (by omega) (by omega) (by omega)
    exact ⟨M, M + c, lo, hi, x + 4294967296 - lo - b, 1, T, by omega, by omega, by omega, by omega, by omega, h1, rfl, by omega, hMw, by rw [IntKind.wrap_u64]; omega, by omega, hand, t1, t2, t3⟩
theorem sub_lastW (c b x : Nat) (hc : c < 4294967296) (hb : b ≤ 1) (hx : x < 4294967296) :
    ∃ (z d : Nat) (T : Int), z < 4294967296 ∧ d ≤ 1 ∧ z + b + c = x + d * 4294967296 ∧
      IntKind.u64.wrap (IntKind.u64.wrap ((x : Int) - (b : Int)) - (c : Int)) = T ∧ T % 4294967296 = (z : Int) ∧ T / 9223372036854775808 = (d : Int) := by
  by_cases h : c + b ≤ x
  · obtain ⟨T, t1, t2, t3⟩ := wrap_sub2' x b c (x - c - b) 0 (by omega) (by omega) (by omega)
    exact ⟨x - c - b, 0, T, by omega, by omega, by omega, t1, t2, t3⟩
  · obtain ⟨T, t1, t2, t3⟩ := wrap_sub2' x b c (x + 4294967296 - c - b) 1 (by omega) (by omega) (by omega)
    exact ⟨x + 4294967296 - c - b, 1, T, by omega, by omega, by omega, t1, t2, t3⟩
theorem sub_end {D V X g j n T b c y d : Nat} (hV0 : 0 < V) (hVn : V < 4294967296 ^ n) (hX : X < V * 4294967296 ^ (j + 1)) (hq1 : X / 4294967296 ^ j / V = dig 4294967296 (D / V) j) (hq2 : X - X / 4294967296 ^ j / V * V * 4294967296 ^ j = D % (V * 4294967296 ^ j))
    (h : SubSt 4294967296 V X g j n T b c) (hg1 : X / 4294967296 ^ j / V ≤ g) (hg2 : g ≤ X / 4294967296 ^ j / V + 1) (hy : y < 4294967296) (hd : d ≤ 1) (hst : y + b + c = dig 4294967296 X (n + j) + d * 4294967296) :
    (d = 0 → g = dig 4294967296 (D / V) j ∧ setDig 4294967296 T (n + j) y = D % (V * 4294967296 ^ j)) ∧
    (d = 1 → g = dig 4294967296 (D / V) j + 1 ∧ setDig 4294967296 T (n + j) y + V * 4294967296 ^ j = D % (V * 4294967296 ^ j) + 4294967296 ^ (n + j + 1) ∧ (∀ k, n + j + 1 ≤ k → dig 4294967296 (setDig 4294967296 T (n + j) y) k = 0)) := by
  have hl := h.last (by omega) hVn hV0 hX hg1 hg2 hy hd hst
  rw [hq1] at hl hq2
  rcases hl with ⟨rfl, h1, h2⟩ | ⟨rfl, h1, h2, h3⟩
  · exact ⟨fun _ => ⟨h1, by rw [h2, hq2]⟩, fun h => by omega⟩
  · refine ⟨fun h => by omega, fun _ => ⟨h1, ?_, h3⟩⟩
    have hqX : X / 4294967296 ^ j / V * V * 4294967296 ^ j ≤ X := Nat.le_trans (Nat.mul_le_mul_right _ (Nat.div_mul_le_self _ _)) (Nat.div_mul_le_self _ _)
    rw [hq1] at hqX
    rw [h1, Nat.add_mul, Nat.one_mul, Nat.add_mul] at h2
    generalize dig 4294967296 (D / V) j * V * 4294967296 ^ j = F at *
    omega
theorem add_words (c u v : Nat) (hc : c ≤ 1) (hu : u < 4294967296) (hv : v < 4294967296) :
    ∃ t s z d : Nat, t = u + v ∧ s = c + t ∧ z < 4294967296 ∧ d ≤ 1 ∧ c + (u + v) = z + d * 4294967296 ∧ s ≤ 8589934591 ∧ (u : Int) + (v : Int) = (t : Int) ∧ (c : Int) + (t : Int) = (s : Int) ∧ (s : Int) % 4294967296 = (z : Int) ∧ (s : Int) / 4294967296 = (d : Int) := by
  exact ⟨u + v, c + (u + v), (c + (u + v)) % 4294967296, (c + (u + v)) / 4294967296, rfl, rfl, by omega, by omega, by omega, by omega, by omega, by omega, by omega, by omega⟩
theorem q_upto (f : Nat → Nat) (j k : Nat) (h : k ≠ j) : (if j + 1 ≤ k then f k else 0) = (if j ≤ k then f k else 0) := by
  by_cases h1 : j ≤ k
  · rw [if_pos h1, if_pos (by omega)]
  · rw [if_neg h1, if_neg (by omega)]
theorem DSt.qend {W2 w : World} {gU L cU gq m T T' Q j g : Nat} (h : DSt W2 w gU L cU gq m T (fun i => if j + 1 ≤ i then dig 4294967296 Q i else 0)) (hT : T = T') (hg : g = dig 4294967296 Q j) :
    DSt W2 (w.setCell ⟨gq, j, none⟩ (.int .u32 (g : Int))) gU L cU gq m T' (fun i => if j ≤ i then dig 4294967296 Q i else 0) := by
  subst hT
  have e : g = (fun i => if j ≤ i then dig 4294967296 Q i else 0) j := by rw [hg]; exact (if_pos (Nat.le_refl j)).symm
  rw [e]
  exact h.qset (f' := fun i => if j ≤ i then dig 4294967296 Q i else 0) j (fun i _ hi => q_upto _ j i hi)
theorem DSt.fin {W2 w : World} {gU L cU gq m T n : Nat} {f : Nat → Nat} (h : DSt W2 w gU L cU gq m T f) (hT : T < 4294967296 ^ n) (hn : n ≤ L) (hL : L ≤ 100000) :
    ∃ R, (∀ W, Below w.heap.size w W → Calls Try.prog 115 #[.slice (some ⟨gU, 0, none⟩) n cU] W fun e w' => e = .returned (.slice (some ⟨gU, 0, none⟩) R cU) ∧ W = w') ∧
      (∀ W, Below w.heap.size w W → World.numR W (.slice (some ⟨gU, 0, none⟩) R cU) T) := by
  obtain ⟨l, hl⟩ : ∃ l, l = (List.range n).map (dig 4294967296 T) := ⟨_, rfl⟩
  have h1 := World.owns.takeR h.1 hn (by simp)
  have e1 : (((List.range L).map (dig 4294967296 T)).map u32V).take n = l.map u32V := by
    rw [hl, ← List.map_take, ← List.map_take, List.take_range, Nat.min_eq_left hn]
  rw [e1] at h1
  have hll : l.length = n := by rw [hl]; simp
  have h2 := World.owns.takeR h1 (show (trimL l).length ≤ n by have := trimL_len l; omega) (by simp)
  rw [← List.map_take, trimL_take] at h2
  have hw : trimL l = wd T := by rw [hl]; exact range_wd T n hT
  have hc2 : n ≤ cU := by
    rcases h1.2 with ⟨h0, -⟩ | ⟨g, cap, cur, fz, e, hb, hg, hf, hc, -⟩
    · cases h0
    · injection e with _ _ e3; omega
  rw [hw] at h2
  refine ⟨(trimL l).length, fun W hW => ?_, fun W hW => ?_⟩
  · refine norm_list l _ n rfl hll.symm _ cU (by omega) hc2 W (fun k x hk => ⟨gU, 0, rfl, ?_⟩)
    rcases Nat.lt_or_ge k n with hkn | hkn
    · have h3 := (h.cell k (by omega)).1
      have hk2 : x = dig 4294967296 T k := by
        rw [hl, List.getElem?_map, List.getElem?_range hkn] at hk
        injection hk with hk
        exact hk.symm
      rw [hk2, Nat.zero_add]
      have hlt := (h.1.lt gU rfl).2
      exact (hW.cell (p := ⟨gU, k, none⟩) hlt).trans h3
    · rw [List.getElem?_eq_none (by omega)] at hk
      cases hk
  · rw [hw]
    have h5 : World.numR w (.slice (some ⟨gU, 0, none⟩) (wd T).length cU) T := h2.reads
    exact numR_below h5 hW
theorem DSt.finQ {W2 w : World} {gU L cU gq m T Q : Nat} (h : DSt W2 w gU L cU gq m T (dig 4294967296 Q)) (hQ : Q < 4294967296 ^ m) (hm : m ≤ 100000) :
    ∃ R, (∀ W, Below w.heap.size w W → Calls Try.prog 115 #[.slice (some ⟨gq, 0, none⟩) m m] W fun e w' => e = .returned (.slice (some ⟨gq, 0, none⟩) R m) ∧ W = w') ∧
      (∀ W, Below w.heap.size w W → World.numR W (.slice (some ⟨gq, 0, none⟩) R m) Q) := by
  obtain ⟨R, HR⟩ : ∃ R, Hid (R = (trimL ((List.range m).map (dig 4294967296 Q))).length) := ⟨_, rfl⟩
  have hlt : gq < w.heap.size := (Array.getElem?_eq_some_iff.1 h.2.1).1
  refine ⟨R, fun W hW => norm_rowF _ _ _ R HR W _ ((hW.block _ hlt).trans h.2.1) hm, fun W hW => ?_⟩
  have h1 := (num_retF (w := W2) HR h.2.1 h.2.2.1 h.2.2.2.2 hm hQ).numR
  exact numR_below h1 hW
end Go.Proofs.Ytkjlfjnncdkmlaa

/- Walks: the long division. -/
namespace Go.Proofs.Ytkjlfjnncdkmlaa
set_option linter.all false
open Go.RowKit Go.Shelf Go.WideNum
theorem owns_slice {W : World} {base n : Nat} {T : TypeId} {v : Value} {xs : List Value} (h : W.owns base T 1 v n xs) (hn : 0 < n) : ∃ g cap, v = .slice (some ⟨g, 0, none⟩) n cap ∧ n ≤ cap ∧ cap ≤ maxLen := by
  rcases h.2 with ⟨_, h0⟩ | ⟨g, cap, cur, fz, rfl, hb, hg, hf, hc, hm, _⟩
  · omega
  · exact ⟨g, cap, rfl, hc, hm⟩
theorem top_ne (C n : Nat) (hn : (wd C).length = n + 1) : dig 4294967296 C n ≠ 0 := by
  have h4 := words_trimmed (B := 4294967296) (by omega) C C (Nat.le_refl _)
  have h5 : (words 4294967296 C).getLast? = some (dig 4294967296 C n) := by
    rw [List.getLast?_eq_getElem?]
    unfold wd at hn
    rw [hn, Nat.add_sub_cancel]
    exact words_getE (by omega) C n (by omega)
  exact h4 _ h5
set_option maxRecDepth 100000 in
set_option maxHeartbeats 16000000 in
theorem divide_big (A C : Nat) (hC32 : 4294967296 ≤ C) (hAC : C ≤ A) (hla : (wd A).length ≤ 2000) : DivOK A C := by
  intro va vb w hA hC
  obtain ⟨HPOST, hpost⟩ : ∃ R, R = DivRet w A C := ⟨_, rfl⟩
  rw [← hpost]
  have HP := Lib.hid hpost
  have HA : Hid (World.numR w va A) := hA
  have HC : Hid (World.numR w vb C) := hC
  clear hpost
  have hlc : (wd C).length ≤ 2000 := wd_len_le2 hAC hla
  have hcmp := compare_num A C _ _ w hA hC hla hlc
  obtain ⟨aa, ca, rfl, -, -, -⟩ := reads_u32 hA
  obtain ⟨ab, cb, rfl, -, -, hsb⟩ := reads_u32 hC
  clear hA hC
  have hn2 : 1 < (wd C).length := words_lenlt (B := 4294967296) (by omega) C 1 (by omega)
  obtain ⟨k, hk⟩ : ∃ k, (wd C).length = k + 2 := ⟨(wd C).length - 2, by omega⟩
  obtain ⟨b, off, rfl, hbl, hx0⟩ := hsb (k + 1) _ (wd_get C (k + 1) (by omega))
  have hxn := top_ne C (k + 1) hk
  have hx32 := wd_dig C (k + 1)
  obtain ⟨x, ex⟩ : ∃ x, x = dig 4294967296 C (k + 1) := ⟨_, rfl⟩
  obtain ⟨b1, b2, b3⟩ := bitLen_spec x (by omega)
  have hbl0 : Lib.bitLen x ≠ 0 := fun h => by rw [h] at b1; omega
  obtain ⟨s, hs⟩ : ∃ s, s = 32 - Lib.bitLen x := ⟨_, rfl⟩
  have hs32 : s < 32 := by omega
  have hlz := fun W => lz_any x W (by omega)
  rw [← hs] at hlz
  have HLZ : Hid (∀ W, Calls Try.prog 116 #[.int .u32 (x : Int)] W fun e w' => e = .returned (.int .i64 (s : Int)) ∧ W = w') := hlz
  obtain ⟨p, hp⟩ : ∃ p, p = (wd A).length := ⟨_, rfl⟩
  obtain ⟨n, hn⟩ : ∃ n, n = (wd C).length := ⟨_, rfl⟩
  have hnk : n = k + 2 := by rw [hn, hk]
  obtain ⟨f1, f2, f3, f4, f5, f6, f7, f8⟩ := norm_facts A C s n p hn hp hAC (by omega) hs32 (by rw [show n - 1 = k + 1 by omega, ← ex, show 32 - s = Lib.bitLen x by omega]; exact b1)
  have hLCo : Hid (∀ W, World.numR W (.slice (some ⟨b, off, none⟩) n cb) C → Calls Try.prog 123 #[.slice (some ⟨b, off, none⟩) n cb, .int .i64 (s : Int)] W (NumRet W (C * 2 ^ s))) := fun W h => left_num C s (by omega) _ W h hlc _ rfl
  have hLAo : Hid (∀ W, World.numR W (.slice aa p ca) A → Calls Try.prog 123 #[.slice aa p ca, .int .i64 (s : Int)] W (NumRet W (A * 2 ^ s))) := fun W h => left_num A s (by omega) _ W h hla _ rfl
  have hpos2 : 0 < 2 ^ s := Nat.pow_pos (by omega)
  have hdivq : A * 2 ^ s / (C * 2 ^ s) = A / C := Nat.mul_div_mul_right _ _ hpos2
  have hmodq : A * 2 ^ s % (C * 2 ^ s) = A % C * 2 ^ s := Nat.mul_mod_mul_right _ _ _
  have hLaA : p ≤ (wd (A * 2 ^ s)).length := by
    rw [hp]; exact wd_len_le2 (Nat.le_mul_of_pos_right A hpos2) (Nat.le_refl _)
  obtain ⟨V, hV⟩ : ∃ V, V = C * 2 ^ s := ⟨_, rfl⟩
  obtain ⟨D, hD⟩ : ∃ D, D = A * 2 ^ s := ⟨_, rfl⟩
  rw [← hV] at f1 f2 f6 f7 hLCo hdivq hmodq
  rw [← hD] at f2 f3 f4 hLAo hdivq hmodq hLaA
  obtain ⟨m, hm⟩ : ∃ m, m = p + 1 - n := ⟨_, rfl⟩
  rw [← hm] at f2
  obtain ⟨R, hR⟩ : ∃ R, R = cmpN A C := ⟨_, rfl⟩
  rw [← hR] at hcmp
  have hR0 : ¬ R < 0 := by
    rw [hR, cmpN, if_neg (by omega)]
    split <;> omega
  rw [← ex] at hx0
  rw [← hn, ← hp] at hcmp ⊢
  rw [← hn] at HC hlc
  rw [← hp] at HA hla
  have HCMP := Lib.hid hcmp
  have HV1 := Lib.hid f1
  have HDV := Lib.hid f2
  have HDL := Lib.hid f3
  have HDLen := Lib.hid f4
  have HVB := Lib.hid f6
  have HVlo : Hid (4294967296 ^ (k + 1) ≤ V) := by rw [show k + 1 = n - 1 by omega]; exact f7
  have HQ := Lib.hid hdivq
  have HM := Lib.hid hmodq
  have HLaA := Lib.hid hLaA
  have HZD := Lib.hid (zeros_app D)
  have hn1 : (n : Int) - 1 = ((k + 1 : Nat) : Int) := by omega
  have hnne : ¬ (n : Int) = 1 := by omega
  have hki : ((k + 1 : Nat) : Int) < (n : Int) := by omega
  have hkp : (0 : Int) ≤ ((k + 1 : Nat) : Int) := by omega
  have hmI : (p : Int) + 1 - (n : Int) = (m : Int) := by omega
  have hm1 : 1 ≤ m := by omega
  have hm2 : m ≤ 2001 := by omega
  have HKN := Lib.hid hnk
  have hpp1 : m + n = p + 1 := by omega
  have HMN := Lib.hid hpp1
  clear hcmp f1 f2 f3 f4 f6 f7 hdivq hmodq hLaA hsb hR hV hD hm hxn hx32 ex b1 b2 b3 hbl0 hs hlz hpos2 hn hp hk hn2 hpp1 hnk
  go_enter Try.func130, Try.ntmps130
  go_wp2_with fail
  (with_reducible refine (HCMP.out).mono ?_)
  rintro e w1 ⟨rfl, n1, rfl⟩
  have hx : (w.drewN n1).cell? ⟨b, off + (k + 1), none⟩ = some (.int .u32 (x : Int)) := hx0
  clear hx0
  go_wp2_with fail
  (with_reducible refine (HLZ.out _).mono ?_)
  rintro e w2 ⟨rfl, rfl⟩
  have HC1 : Hid (World.numR (w.drewN n1) (.slice (some ⟨b, off, none⟩) n cb) C) := numR_drewN HC.out n1
  have HA1 : Hid (World.numR (w.drewN n1) (.slice aa p ca) A) := numR_drewN HA.out n1
  have HB1 : Hid (Below w.heap.size w (w.drewN n1)) := below_drewN (Below.refl _ _) n1
  clear hx
  generalize w.drewN n1 = w2 at HC1 HA1 HB1 ⊢
  go_wp2_with fail
  (with_reducible refine (hLCo.out _ HC1.out).mono ?_)
  rintro e w3 ⟨v3, rfl, ho3, hb3⟩
  rw [HV1.out] at ho3
  obtain ⟨gV, cV, rfl, hcV, hcVm⟩ := owns_slice ho3 (by have := HKN.out; omega)
  have HVC : Hid (∀ i, i < n → w3.cell? ⟨gV, i, none⟩ = some (.int .u32 (dig 4294967296 V i : Int))) := fun i hi => ho3.cell i _ (by
    have := wd_get V i (by rw [HV1.out]; exact hi)
    rw [List.getElem?_map, this]; rfl)
  have HVlt : Hid (gV < w3.heap.size) := (ho3.lt gV rfl).2
  have HA3 := Lib.hid (numR_below HA1.out hb3)
  have HB3 := Lib.hid (HB1.out.trans (hb3.mono HB1.out.size))
  clear hb3 ho3
  go_wp2_with fail
  (with_reducible refine (hLAo.out _ HA3.out).mono ?_)
  rintro e w4 ⟨v4, rfl, ho4, hb4⟩
  obtain ⟨La, hLa⟩ : ∃ L, L = (wd D).length := ⟨_, rfl⟩
  rw [← hLa] at ho4 HLaA HDLen HZD
  have hLa1 : 0 < La := by have := HLaA.out; have := HMN.out; have := HKN.out; omega
  clear hLa
  obtain ⟨g4, c4, rfl, -, -⟩ := owns_slice ho4 hLa1
  have hLap := HLaA.out
  have hLap2 := HDLen.out
  have HO4 := Lib.hid (ho4.alloc (.cells #[.int .u32 0, .int .u32 0] 22))
  have hz34 : w3.heap.size ≤ (w4.alloc (.cells #[.int .u32 0, .int .u32 0] 22)).heap.size := by have := hb4.size; simp; omega
  have HZ34 := Lib.hid hz34
  have HBX : Hid (∀ w5 : World, World.grownBy (w4.alloc (.cells #[.int .u32 0, .int .u32 0] 22)) w5 (Value.slice (some ⟨g4, 0, none⟩) La c4).ownBlock → Below w3.heap.size w3 w5) := fun w5 hg => (hb4.trans (((Below.refl w4.heap.size w4).alloc (Nat.le_refl _) (.cells #[.int .u32 0, .int .u32 0] 22)).mono hb4.size)).trans (below_grown HO4.out hg w3.heap.size (Nat.le_refl _) HZ34.out)
  obtain ⟨i0, hi0, hiz, hiz1, hizb⟩ := info_parts infoU32
  clear ho4 hb4 hz34
  have hLa3 : La ≤ 2001 := by omega
  have hmk : ∀ W : World, (Instr.makeSlice 117 (.int .i64 (m : Int)) (.int .i64 (m : Int))).run Try.prog W = .ok (.slice (some ⟨W.heap.size, 0, none⟩) m m) (W.alloc (.cells (zrow m) 22)) := fun W => make_nat m (by omega) W
  go_wp2_with (at_builtin; refine wpList_append_owns _ rfl (.tmp 56) (.tmp 57) 117 rfl w3.heap.size 22 i0 (.int .u32 0) 1 4 Try.underlying117 hi0 hiz hiz1 hizb rfl (by decide) (.slice (some ⟨g4, 0, none⟩) La c4) La _ rfl HO4.out ⟨w4.heap.size, 0, none⟩ 2 2 [.int .u32 0, .int .u32 0] rfl rfl (news_alloc w4 [.int .u32 0, .int .u32 0] 22) (by simp [Value.oneCell']) (by unfold maxLen; omega) (by omega) HZ34.out ?_; intro v5 w5 hown5 hg5 _; have HO5 := Lib.hid hown5; have HB5 := Lib.hid (HBX.out _ hg5); obtain ⟨gU, cU, rfl, hcU, hcUm⟩ := owns_slice hown5 (by omega); clear hown5 hg5; have hpcU : (p : Int) + 1 ≤ (cU : Int) := by omega)
  have hgU5 : gU < w5.heap.size := (HO5.out.lt gU rfl).2
  have h35 := HB5.out.size
  have hds : DSt w3 (w5.alloc (.cells (zrow m) 22)) gU (p + 1) cU w5.heap.size m (D % (V * 4294967296 ^ m)) (fun i => if m ≤ i then dig 4294967296 (D / V) i else 0) := by
    refine ⟨?_, ?_, HB5.out.alloc h35 _, by omega, h35⟩
    · have h1 := (World.owns.takeR HO5.out (show p + 1 ≤ La + 2 by omega) (by simp)).alloc (.cells (zrow m) 22)
      rw [HZD.out] at h1
      rw [Nat.mod_eq_of_lt HDV.out]
      simpa [← List.map_take, List.take_range, Nat.min_eq_left (show p + 1 ≤ La + 2 by omega)] using h1
    · rw [rowF_congr (f' := fun _ => 0) (fun j hj => if_neg (by omega)), rowF_zero]
      exact heap_alloc_new w5 _
  obtain ⟨gq, hgq⟩ : ∃ g, g = w5.heap.size := ⟨_, rfl⟩
  rw [← hgq] at hds ⊢
  have HDS := Lib.hid hds
  have HPC : Hid (p + 1 ≤ cU) := by show _ ≤ _; omega
  clear hds HO4 HZ34 HBX HO5 HB5 hgU5 h35 hgq hi0 hiz hiz1 hizb hmk HZD HLaA hLap hLap2 HDLen hpcU
  generalize w5.alloc (.cells (zrow m) 22) = w6 at HDS ⊢
  obtain ⟨k1, hk1⟩ : ∃ z, z = k + 1 := ⟨_, rfl⟩
  clear hn1 hki hkp
  have hn1 : (n : Int) - 1 = (k1 : Int) := by have := HKN.out; omega
  have hn2 : (n : Int) - 2 = (k : Int) := by have := HKN.out; omega
  have HK1 := Lib.hid hk1
  clear hk1
  go_loopw [13] (fun jv wr => ∃ kk : Nat, kk ≤ m ∧ jv = .int .i64 ((kk : Int) - 1) ∧ Hid (DSt w3 wr gU (p + 1) cU gq m (D % (V * 4294967296 ^ kk)) (fun i => if kk ≤ i then dig 4294967296 (D / V) i else 0))) (fun jv _ => (intOf jv + 1).toNat)
  case atStart => exact ⟨m, Nat.le_refl _, rfl, HDS.out⟩
  case round =>
    obtain ⟨kk, hkk, rfl, hS⟩ := hrel
    cases kk with
    | zero =>
      rw [Nat.pow_zero, Nat.mul_one, HM.out] at hS
      have hf : (fun i => if 0 ≤ i then dig 4294967296 (D / V) i else 0) = dig 4294967296 (A / C) := by
        funext i
        rw [if_pos (Nat.zero_le i), HQ.out]
      rw [hf] at hS
      have hV0 : 0 < V := Nat.lt_of_lt_of_le (Nat.pow_pos (by omega)) HVlo.out
      have hT : A % C * 2 ^ s < 4294967296 ^ n := by
        rw [← HM.out]
        exact Nat.lt_trans (Nat.mod_lt _ hV0) HVB.out
      have hQl : A / C < 4294967296 ^ m := by
        rw [← HQ.out]
        exact (Nat.div_lt_iff_lt_mul hV0).2 (by rw [Nat.mul_comm]; exact HDV.out)
      have hkn := HKN.out
      have hmn := HMN.out
      have hncU : n ≤ cU := by have := HPC.out; omega
      obtain ⟨R1, hn1q, hr1q⟩ := hS.out.finQ hQl (by omega)
      obtain ⟨R2, hn2u, hr2u⟩ := hS.out.fin hT (show n ≤ p + 1 by omega) (by omega)
      have hrt : ∀ W, World.numR W (.slice (some ⟨gU, 0, none⟩) R2 cU) (A % C * 2 ^ s) → Calls Try.prog 132 #[.slice (some ⟨gU, 0, none⟩) R2 cU, .int .i64 (s : Int)] W (NumRet W (A % C * 2 ^ s / 2 ^ s)) := fun W hW => right_any _ s hs32 _ W hW (by
        have := words_length (B := 4294967296) (by omega) (A % C * 2 ^ s) n hT
        unfold wd
        omega)
      rw [Nat.mul_div_cancel _ (Nat.pow_pos (by omega))] at hrt
      have HN1 := Lib.hid hn1q
      have HN2 := Lib.hid hn2u
      have HR1 := Lib.hid hr1q
      have HR2 := Lib.hid hr2u
      have HRT := Lib.hid hrt
      have hb34 := hS.out.2.2.1
      have HBW := Lib.hid (HB3.out.trans (hb34.mono HB3.out.size))
      have hwr0 : Below wr.heap.size wr wr.drew := (Below.refl _ _).drew
      clear hf hV0 hT hQl hkn hmn hn1q hr1q hn2u hr2u hrt hb34 hS
      have h0 : ¬ (0 : Int) ≤ ((0 : Nat) : Int) - 1 := by omega
      go_wp2_with fail
      go_region_held3 (fun _ => True) (trivial)
        (first
          | (go_simp; go_at_call 115; (with_reducible refine (HN1.out _ hwr0).mono ?_); rintro e w5 ⟨rfl, rfl⟩)
          | (go_simp; go_at_call 115; (with_reducible refine (HN2.out _ hwr0).mono ?_); rintro e w5 ⟨rfl, rfl⟩)
          | (go_simp; go_at_call 132; (with_reducible refine (HRT.out _ (HR2.out _ hwr0)).mono ?_); rintro e w8 hr8; obtain ⟨v8, rfl, ho8, hb8⟩ := hr8; have H8 : Hid (NumRet wr.drew (A % C) (.returned v8) w8) := ⟨v8, rfl, ho8, hb8⟩; clear ho8 hb8))
      all_goals
        go_wp2
        rw [HP.out]
        exact ⟨_, _, rfl, HR1.out _ H8.out.belD, H8.out.numR, HBW.out.trans (H8.out.belD.mono HBW.out.size)⟩
    | succ j =>
      rw [show ((j + 1 : Nat) : Int) - 1 = (j : Int) by omega]
      obtain ⟨X, hX⟩ : ∃ X, X = D % (V * 4294967296 ^ (j + 1)) := ⟨_, rfl⟩
      have hV0 : 0 < V := Nat.lt_of_lt_of_le (Nat.pow_pos (by omega)) HVlo.out
      have hXl : X < V * 4294967296 ^ (j + 1) := by rw [hX]; exact Nat.mod_lt _ (Nat.mul_pos hV0 (Nat.pow_pos (by omega)))
      have hrnd := rnd_of V X k j (by rw [← HKN.out]; exact HVB.out) HVlo.out hXl
      rw [← hX] at hS
      obtain ⟨hq1, hq2⟩ := quot_word (B := 4294967296) (A := D) (V := V) (j := j) (by omega) hV0
      rw [← hX] at hq1 hq2
      have HXL := Lib.hid hXl
      have HQ1 := Lib.hid hq1
      have HQ2 := Lib.hid hq2
      clear hX hXl hq1 hq2
      have hmn := HMN.out
      have hkn := HKN.out
      have hk1 := HK1.out
      rw [← hk1] at hrnd
      obtain ⟨jn, ejn⟩ : ∃ z, z = j + n := ⟨_, rfl⟩
      obtain ⟨jm, ejm⟩ : ∃ z, z = j + k1 := ⟨_, rfl⟩
      obtain ⟨jk, ejk⟩ : ∃ z, z = j + k := ⟨_, rfl⟩
      obtain ⟨cy1, -⟩ := hS.out.cell jn (by omega)
      obtain ⟨cy0, -⟩ := hS.out.cell jm (by omega)
      obtain ⟨cy2, -⟩ := hS.out.cell jk (by omega)
      have hbel := hS.out.2.2.1
      have cv1 := (hbel.cell (p := ⟨gV, k1, none⟩) HVlt.out).trans (HVC.out k1 (by omega))
      have cv2 := (hbel.cell (p := ⟨gV, k, none⟩) HVlt.out).trans (HVC.out k (by omega))
      rw [show j + (k + 2) = jn by omega, ← ejm, ← ejk] at hrnd
      obtain ⟨q, hq⟩ : ∃ q, q = X / 4294967296 ^ j / V := ⟨_, rfl⟩
      have hy1 := dig_lt (B := 4294967296) (by omega) X jn
      have hy0 := dig_lt (B := 4294967296) (by omega) X jm
      obtain ⟨y1, ey1⟩ : ∃ y, y = dig 4294967296 X jn := ⟨_, rfl⟩
      obtain ⟨y0, ey0⟩ : ∃ y, y = dig 4294967296 X jm := ⟨_, rfl⟩
      obtain ⟨y2, ey2⟩ : ∃ y, y = dig 4294967296 X jk := ⟨_, rfl⟩
      obtain ⟨v1, ev1⟩ : ∃ y, y = dig 4294967296 V k1 := ⟨_, rfl⟩
      obtain ⟨v2, ev2⟩ : ∃ y, y = dig 4294967296 V k := ⟨_, rfl⟩
      rw [← hq] at hrnd
      have HQE := Lib.hid hq
      rw [← ey1, ← ey0, ← ey2, ← ev1, ← ev2] at hrnd
      rw [← ey1] at cy1 hy1
      rw [← ey0] at cy0 hy0
      rw [← ey2] at cy2
      rw [← ev1] at cv1
      rw [← ev2] at cv2
      obtain ⟨pp, epp⟩ : ∃ z, z = y1 * 4294967296 := ⟨_, rfl⟩
      obtain ⟨top, etop⟩ : ∃ z, z = pp + y0 := ⟨_, rfl⟩
      have hor : bits .or .u64 (pp : Int) (y0 : Int) = (top : Int) := by
        have := or_lo .u64 (Or.inl rfl) 32 y1 y0 (by omega) (by simp only [if_true]; omega)
        rw [show y1 * 2 ^ 32 = pp by rw [epp], ← etop] at this
        exact this
      rw [← epp, ← etop] at hrnd
      have hpv := hrnd.pos
      have hpb := hrnd.v1B
      have hpt := hrnd.top64
      have hpv2 := hrnd.v2B
      have hpu2 := hrnd.u2B
      have HRND := Lib.hid hrnd
      have HPT := Lib.hid hpt
      have u1 : IntKind.u64.wrap ((y1 : Int) * 4294967296) = (pp : Int) := by rw [IntKind.wrap_u64]; omega
      have u1' : IntKind.u64.wrap ((y1 : Int) * 2 ^ 32) = (pp : Int) := by rw [IntKind.wrap_u64]; omega
      have u2 : IntKind.u64.wrap (y1 : Int) = (y1 : Int) := by rw [IntKind.wrap_u64]; omega
      have u3 : IntKind.u64.wrap (y0 : Int) = (y0 : Int) := by rw [IntKind.wrap_u64]; omega
      have u4 : IntKind.u64.wrap (v1 : Int) = (v1 : Int) := by rw [IntKind.wrap_u64]; omega
      have i1 : (j : Int) + (n : Int) = (jn : Int) := by omega
      have i2 : (jn : Int) - 1 = (jm : Int) := by omega
      have i3 : (jn : Int) < (p : Int) + 1 := by omega
      have i4 : (jm : Int) < (p : Int) + 1 := by omega
      have i5 : (k1 : Int) < (n : Int) := by omega
      have i6 : (jn : Int) ≤ 4000 := by omega
      have i7 : IntKind.i64.wrap (jn : Int) = (jn : Int) := by rw [IntKind.wrap_i64]; omega
      have i8 : IntKind.i64.wrap (jm : Int) = (jm : Int) := by rw [IntKind.wrap_i64]; omega
      have i9 : IntKind.i64.wrap (k1 : Int) = (k1 : Int) := by rw [IntKind.wrap_i64]; omega
      have EJN := Lib.hid ejn
      have EJM := Lib.hid ejm
      have EJK := Lib.hid ejk
      have EY1 := Lib.hid ey1
      have EY2 := Lib.hid ey2
      have EV1 := Lib.hid ev1
      have EV2 := Lib.hid ev2
      clear ey1 ey0 ey2 ev1 ev2 epp etop hrnd hbel hq hkn hmn hpt hk1 ejn ejm ejk
      go_wp2_with fail
      go_step3
      go_upto_region 14 with (fail)
      go_quiet (fail)
      have hS1 : DSt w3 (wr.drewN nq) gU (p + 1) cU gq m X (fun i => if j + 1 ≤ i then dig 4294967296 (D / V) i else 0) := hS.out.drewN nq
      have cz1 : (wr.drewN nq).cell? ⟨gV, k1, none⟩ = some (.int .u32 (v1 : Int)) := cv1
      have cz2 : (wr.drewN nq).cell? ⟨gV, k, none⟩ = some (.int .u32 (v2 : Int)) := cv2
      have cy2' : (wr.drewN nq).cell? ⟨gU, jk, none⟩ = some (.int .u32 (y2 : Int)) := cy2
      clear hS cv1 cv2 cy2 cy1 cy0 hor u1 u1' u2 u3
      generalize wr.drewN nq = wa at hS1 cz1 cz2 cy2' ⊢
      have HS1 := Lib.hid hS1
      obtain ⟨g0, eg0⟩ : ∃ z, z = top / v1 := ⟨_, rfl⟩
      obtain ⟨r0, er0⟩ : ∃ z, z = top % v1 := ⟨_, rfl⟩
      have t1 : (top : Int) / (v1 : Int) = (g0 : Int) := by rw [eg0, Int.natCast_ediv]
      have t1' : (top : Int).tdiv (v1 : Int) = (g0 : Int) := by rw [Int.tdiv_eq_ediv_of_nonneg (by omega), t1]
      have t2 : (top : Int) % (v1 : Int) = (r0 : Int) := by rw [er0, Int.natCast_emod]
      have t2' : (top : Int).tmod (v1 : Int) = (r0 : Int) := by rw [Int.tmod_eq_emod_of_nonneg (by omega), t2]
      have hgr : g0 * v1 + r0 = top := by rw [eg0, er0, Nat.mul_comm]; exact Nat.div_add_mod top v1
      have hr0 : r0 < v1 := by rw [er0]; exact Nat.mod_lt _ hpv
      have hqg0 : q ≤ g0 := by rw [eg0]; exact HRND.out.ge
      have hg64 : g0 ≤ top := by rw [eg0]; exact Nat.div_le_self _ _
      have t3 : IntKind.u64.wrap (g0 : Int) = (g0 : Int) := by have := HPT.out; rw [IntKind.wrap_u64]; omega
      have hv1n : ¬ v1 = 0 := by omega
      have hv1I : ¬ (v1 : Int) = 0 := by omega
      have hv1b : ((v1 : Int) == 0) = false := by rw [beq_eq_false_iff_ne]; omega
      have HGR := Lib.hid hgr
      have HR0 := Lib.hid hr0
      have HQG0 := Lib.hid hqg0
      have HG64 := Lib.hid hg64
      clear hS1 eg0 er0 hgr hr0 hqg0 hg64
      go_upto_region 15 with (fail)
      go_quiet (fail)
      have hS2 : DSt w3 (wa.drewN nq) gU (p + 1) cU gq m X (fun i => if j + 1 ≤ i then dig 4294967296 (D / V) i else 0) := HS1.out.drewN nq
      have cz1' : (wa.drewN nq).cell? ⟨gV, k1, none⟩ = some (.int .u32 (v1 : Int)) := cz1
      have cz2' : (wa.drewN nq).cell? ⟨gV, k, none⟩ = some (.int .u32 (v2 : Int)) := cz2
      have cy3 : (wa.drewN nq).cell? ⟨gU, jk, none⟩ = some (.int .u32 (y2 : Int)) := cy2'
      clear HS1 cz1 cz2 cy2' t1 t1' t2 t2' hv1b
      generalize wa.drewN nq = wb at hS2 cz1' cz2' cy3 ⊢
      have HS2 := Lib.hid hS2
      clear hS2 cz1' cz2' cy3
      have j1 : (jn : Int) - 2 = (jk : Int) := by have := EJN.out; have := EJK.out; have := HKN.out; omega
      have j2 : IntKind.i64.wrap (jk : Int) = (jk : Int) := by have := EJK.out; rw [IntKind.wrap_i64]; omega
      have j3 : IntKind.i64.wrap (k : Int) = (k : Int) := by have := HKN.out; rw [IntKind.wrap_i64]; omega
      have j4 : (jk : Int) < (p : Int) + 1 := by have := EJN.out; have := EJK.out; have := HKN.out; omega
      have j5 : (k : Int) < (n : Int) := by have := HKN.out; omega
      have j6 : IntKind.u64.wrap (v2 : Int) = (v2 : Int) := by rw [IntKind.wrap_u64]; omega
      have j7 : IntKind.u64.wrap (y2 : Int) = (y2 : Int) := by rw [IntKind.wrap_u64]; omega
      go_wp2_with fail
      go_step3
      go_upto_block 2 with fail
      go_cut [15, 16] from 110 to 145 (fun gv rv wx => ∃ g r : Nat, gv = .int .u64 (g : Int) ∧ rv = .int .u64 (r : Int) ∧ Hid (q ≤ g ∧ g ≤ q + 1 ∧ g < 4294967296) ∧ Hid (DSt w3 wx gU (p + 1) cU gq m X (fun i => if j + 1 ≤ i then dig 4294967296 (D / V) i else 0)))
      case first =>
        go_wp2_with fail
        go_loopw [15, 16] (fun gv rv wr => ∃ g r : Nat, gv = .int .u64 (g : Int) ∧ rv = .int .u64 (r : Int) ∧ g * v1 + r = top ∧ r < 4294967296 ∧ q ≤ g ∧ Hid (DSt w3 wr gU (p + 1) cU gq m X (fun i => if j + 1 ≤ i then dig 4294967296 (D / V) i else 0))) (fun gv _ _ => (intOf gv).toNat)
        case atStart => exact ⟨g0, r0, rfl, rfl, HGR.out, by have := HR0.out; omega, HQG0.out, HS2.out⟩
        case round =>
          obtain ⟨g, r, rfl, rfl, hg, hrB, hqg, hS⟩ := hrel
          have hgt : g ≤ top := by
            have : g * 1 ≤ g * v1 := Nat.mul_le_mul_left g hpv
            omega
          have hpt := HPT.out
          obtain ⟨cy2, -⟩ := hS.out.cell jk (by omega)
          have hbel := hS.out.2.2.1
          have cv1 := (hbel.cell (p := ⟨gV, k1, none⟩) HVlt.out).trans (HVC.out k1 (by omega))
          have cv2 := (hbel.cell (p := ⟨gV, k, none⟩) HVlt.out).trans (HVC.out k (by omega))
          rw [← EY2.out] at cy2
          rw [← EV1.out] at cv1
          rw [← EV2.out] at cv2
          by_cases hgB : 4294967296 ≤ g
          · have hgI : (4294967296 : Int) ≤ (g : Int) := by omega
            have hgD : decide ((4294967296 : Int) ≤ (g : Int)) = true := decide_eq_true hgI
            have hqg := HRND.out.down hg hqg (.inl hgB)
            obtain ⟨g1, eg1⟩ : ∃ z, z = g - 1 := ⟨_, rfl⟩
            obtain ⟨r1, er1⟩ : ∃ z, z = r + v1 := ⟨_, rfl⟩
            have HG1 : Hid (g1 * v1 + r1 = top) := by
              show _ = _
              rw [eg1, er1, ← hg]
              obtain ⟨z, rfl⟩ : ∃ z, g = z + 1 := ⟨g - 1, by omega⟩
              rw [Nat.add_sub_cancel, Nat.add_mul]
              omega
            have HQ1G : Hid (q ≤ g1) := by show _ ≤ _; omega
            have u7 : IntKind.u64.wrap ((g : Int) - 1) = (g1 : Int) := by rw [IntKind.wrap_u64]; omega
            have u8 : IntKind.u64.wrap ((r : Int) + (v1 : Int)) = (r1 : Int) := by rw [IntKind.wrap_u64]; omega
            have hg1lt : g1 < g := by omega
            go_upto_region 16 with (fail)
            go_quiet (fail)
            have cv1x : (wr.drewN nq).cell? ⟨gV, k1, none⟩ = some (.int .u32 (v1 : Int)) := cv1
            have hSX := hS.out.drewN nq
            clear cv1 cv2 cy2 hS hbel
            generalize wr.drewN nq = wx at cv1x hSX ⊢
            have HSX := Lib.hid hSX
            clear hSX
            clear hg eg1 er1 hpt hgt hqg hgI hgD hgB
            by_cases hrb : 4294967296 ≤ r1
            · have hrI : (4294967296 : Int) ≤ (r1 : Int) := by omega
              have hrD : decide ((4294967296 : Int) ≤ (r1 : Int)) = true := decide_eq_true hrI
              have hfin := HRND.out.fin2 HG1.out hrb
              have HFIN := Lib.hid hfin
              clear hfin hrb
              go_wp2
              go_meet
              case rel => exact ⟨g1, r1, rfl, rfl, ⟨HQ1G.out, HFIN.out.2, HFIN.out.1⟩, HSX.out⟩
            · have hrI : ¬ (4294967296 : Int) ≤ (r1 : Int) := by omega
              have hrD : decide ((4294967296 : Int) ≤ (r1 : Int)) = false := decide_eq_false hrI
              go_wp2
              go_roundw
              case rel => exact ⟨g1, r1, rfl, rfl, HG1.out, by omega, HQ1G.out, HSX.out⟩
              case measure => simp [intOf]; omega
          · have hgI : ¬ (4294967296 : Int) ≤ (g : Int) := by omega
            have hgD : decide ((4294967296 : Int) ≤ (g : Int)) = false := decide_eq_false hgI
            have hP64 : g * v2 < 4294967296 * 4294967296 := Nat.mul_lt_mul'' (by omega) hpv2
            obtain ⟨P, eP⟩ : ∃ z, z = g * v2 := ⟨_, rfl⟩
            obtain ⟨rr, err⟩ : ∃ z, z = r * 4294967296 := ⟨_, rfl⟩
            obtain ⟨W, eW⟩ : ∃ z, z = rr + y2 := ⟨_, rfl⟩
            rw [← eP] at hP64
            have uP : IntKind.u64.wrap ((g : Int) * (v2 : Int)) = (P : Int) := by
              rw [show ((g : Int) * (v2 : Int)) = (P : Int) by rw [eP]; simp, IntKind.wrap_u64]; omega
            have uR : IntKind.u64.wrap ((r : Int) * 4294967296) = (rr : Int) := by rw [IntKind.wrap_u64]; omega
            have uR' : IntKind.u64.wrap ((r : Int) * 2 ^ 32) = (rr : Int) := by rw [IntKind.wrap_u64]; omega
            have hor : bits .or .u64 (rr : Int) (y2 : Int) = (W : Int) := by
              have := or_lo .u64 (Or.inl rfl) 32 r y2 hpu2 (by simp only [if_true]; omega)
              rw [show r * 2 ^ 32 = rr by rw [err], ← eW] at this
              exact this
            by_cases ht : W < P
            · have hPI : (W : Int) < (P : Int) := by omega
              have hPD : decide ((W : Int) < (P : Int)) = true := decide_eq_true hPI
              have hqg := HRND.out.down hg hqg (.inr (by rw [← eP, ← err, ← eW]; exact ht))
              obtain ⟨g1, eg1⟩ : ∃ z, z = g - 1 := ⟨_, rfl⟩
              obtain ⟨r1, er1⟩ : ∃ z, z = r + v1 := ⟨_, rfl⟩
              have HG1 : Hid (g1 * v1 + r1 = top) := by
                show _ = _
                rw [eg1, er1, ← hg]
                obtain ⟨z, rfl⟩ : ∃ z, g = z + 1 := ⟨g - 1, by omega⟩
                rw [Nat.add_sub_cancel, Nat.add_mul]
                omega
              have HQ1G : Hid (q ≤ g1) := by show _ ≤ _; omega
              have u7 : IntKind.u64.wrap ((g : Int) - 1) = (g1 : Int) := by rw [IntKind.wrap_u64]; omega
              have u8 : IntKind.u64.wrap ((r : Int) + (v1 : Int)) = (r1 : Int) := by rw [IntKind.wrap_u64]; omega
              have hg1lt : g1 < g := by omega
              clear eP err eW hP64 ht
              clear eg1 er1 hpt
              go_upto_region 16 with (fail)
              go_quiet (fail)
              have cv1x : (wr.drewN nq).cell? ⟨gV, k1, none⟩ = some (.int .u32 (v1 : Int)) := cv1
              have hSX := hS.out.drewN nq
              clear cv1 cv2 cy2 hS hbel
              generalize wr.drewN nq = wx at cv1x hSX ⊢
              have HSX := Lib.hid hSX
              clear hSX
              clear hg hgt hqg hgI hgD hgB uP uR uR' hor hPI hPD
              by_cases hrb : 4294967296 ≤ r1
              · have hrI : (4294967296 : Int) ≤ (r1 : Int) := by omega
                have hrD : decide ((4294967296 : Int) ≤ (r1 : Int)) = true := decide_eq_true hrI
                have hfin := HRND.out.fin2 HG1.out hrb
                have HFIN := Lib.hid hfin
                clear hfin hrb
                go_wp2
                go_meet
                case rel => exact ⟨g1, r1, rfl, rfl, ⟨HQ1G.out, HFIN.out.2, HFIN.out.1⟩, HSX.out⟩
              · have hrI : ¬ (4294967296 : Int) ≤ (r1 : Int) := by omega
                have hrD : decide ((4294967296 : Int) ≤ (r1 : Int)) = false := decide_eq_false hrI
                go_wp2
                go_roundw
                case rel => exact ⟨g1, r1, rfl, rfl, HG1.out, by omega, HQ1G.out, HSX.out⟩
                case measure => simp [intOf]; omega
            · have hPI : ¬ (W : Int) < (P : Int) := by omega
              have hPD : decide ((W : Int) < (P : Int)) = false := decide_eq_false hPI
              have HFIN := Lib.hid (HRND.out.fin hg (by omega) (by rw [← eP, ← err, ← eW]; exact ht))
              have HQG := Lib.hid hqg
              have HGB : Hid (g < 4294967296) := by show _ < _; omega
              clear eP err eW hP64 ht
              clear hpt
              go_upto_region 16 with (fail)
              go_quiet (fail)
              have hSX := hS.out.drewN nq
              clear cv1 cv2 cy2 hS hbel
              generalize wr.drewN nq = wx at hSX ⊢
              have HSX := Lib.hid hSX
              clear hSX
              clear hg hgt hqg hgI hgD hgB uP uR uR' hor hPI hPD
              go_wp2
              go_meet
              case rel => exact ⟨g, r, rfl, rfl, ⟨HQG.out, HFIN.out, HGB.out⟩, HSX.out⟩
      case rest =>
        obtain ⟨g, r, rfl, rfl, HGQ, hS⟩ := hcut
        clear HS2 HGR HR0 HQG0 HG64 HRND HPT
        have hgB : g < 4294967296 := HGQ.out.2.2
        go_wp2_with fail
        go_loopw [17, 18, 148] (fun cv bv iv wr => ∃ i c b T : Nat, i ≤ n ∧ iv = .int .i64 (i : Int) ∧ cv = .int .u64 (c : Int) ∧ bv = .int .u64 (b : Int) ∧ Hid (SubSt 4294967296 V X g j i T b c) ∧ Hid (DSt w3 wr gU (p + 1) cU gq m T (fun i => if j + 1 ≤ i then dig 4294967296 (D / V) i else 0))) (fun _ _ iv _ => n - (intOf iv).toNat)
        case atStart => exact ⟨0, 0, 0, X, Nat.zero_le _, rfl, rfl, rfl, SubSt.start (by omega), hS.out⟩
        case round =>
          obtain ⟨i, c, b, T, hi, rfl, rfl, rfl, hSu, hS⟩ := hrel
          by_cases hlt : i < n
          · obtain ⟨ij, eij⟩ : ∃ z, z = i + j := ⟨_, rfl⟩
            have hmn := HMN.out
            have hkn := HKN.out
            have hejn := EJN.out
            have hij := hS.out.cell ij (by omega)
            obtain ⟨cu, fu⟩ := hij
            have hbel := hS.out.2.2.1
            have cv1 := (hbel.cell (p := ⟨gV, i, none⟩) HVlt.out).trans (HVC.out i hlt)
            rw [hSu.out.up ij (by omega)] at cu
            have hx := dig_lt (B := 4294967296) (by omega) X ij
            have hv := dig_lt (B := 4294967296) (by omega) V i
            have hstep : ∀ lo hi y b', g * dig 4294967296 V i + c = hi * 4294967296 + lo → hi < 4294967296 → y < 4294967296 → b' ≤ 1 → y + lo + b = dig 4294967296 X (i + j) + b' * 4294967296 → SubSt 4294967296 V X g j (i + 1) (setDig 4294967296 T (i + j) y) b' hi := fun lo hi y b' h1 h2 h3 h4 h5 => hSu.out.step (by omega) hgB h1 h2 h3 h4 h5
            rw [← eij] at hstep
            obtain ⟨x, ex⟩ : ∃ x, x = dig 4294967296 X ij := ⟨_, rfl⟩
            obtain ⟨v, ev⟩ : ∃ x, x = dig 4294967296 V i := ⟨_, rfl⟩
            rw [← ex] at cu hx hstep
            rw [← ev] at cv1 hv hstep
            have hcB := hSu.out.hc
            have hbB := hSu.out.hb
            obtain ⟨M, pw, lo, hi2, z, d, Tz, s1, s2, s3, s4, s5, s6, s7, s8, a1, a2, a3, a4, a5, a6, a7⟩ := sub_words g v c b x hgB hv hcB hbB hx
            have HST := Lib.hid (hstep lo hi2 z d s1 s2 s3 s4 s5)
            have HNX := Lib.hid (hS.out.set ij z (by omega) s3)
            have w1 : (i : Int) + (j : Int) = (ij : Int) := by omega
            have w2 : (ij : Int) < (p : Int) + 1 := by omega
            have w3' : IntKind.i64.wrap (ij : Int) = (ij : Int) := by rw [IntKind.wrap_i64]; omega
            have w4 : IntKind.u64.wrap (v : Int) = (v : Int) := by rw [IntKind.wrap_u64]; omega
            have w5 : IntKind.u64.wrap (x : Int) = (x : Int) := by rw [IntKind.wrap_u64]; omega
            have w6 : (i : Int) < (n : Int) := by omega
            have w7 : (M : Int) + (c : Int) = (pw : Int) := by omega
            have w8 : (ij : Int) ≤ 4000 := by omega
            clear hstep hSu hS hbel ex ev eij s1 s5 s7 hmn hkn hejn
            go_wp2_with fail
            go_roundw
            case rel => exact ⟨i + 1, hi2, d, _, by omega, by go_num, rfl, rfl, HST.out, HNX.out⟩
            case measure => simp [intOf]; omega
          · obtain rfl : n = i := by omega
            have hmn := HMN.out
            have hkn := HKN.out
            have hejn := EJN.out
            obtain ⟨cu, fu⟩ := hS.out.cell jn (by omega)
            rw [hSu.out.up jn (by omega)] at cu
            have hx := dig_lt (B := 4294967296) (by omega) X jn
            have hend : ∀ y d, y < 4294967296 → d ≤ 1 → y + b + c = dig 4294967296 X (n + j) + d * 4294967296 → (d = 0 → g = dig 4294967296 (D / V) j ∧ setDig 4294967296 T (n + j) y = D % (V * 4294967296 ^ j)) ∧
    (d = 1 → g = dig 4294967296 (D / V) j + 1 ∧ setDig 4294967296 T (n + j) y + V * 4294967296 ^ j = D % (V * 4294967296 ^ j) + 4294967296 ^ (n + j + 1) ∧ (∀ k, n + j + 1 ≤ k → dig 4294967296 (setDig 4294967296 T (n + j) y) k = 0)) :=
              fun y d h1 h2 h3 => sub_end hV0 HVB.out HXL.out HQ1.out HQ2.out hSu.out (by rw [← HQE.out]; exact HGQ.out.1) (by rw [← HQE.out]; exact HGQ.out.2.1) h1 h2 h3
            rw [show n + j = jn by omega] at hend
            obtain ⟨x, ex⟩ : ∃ x, x = dig 4294967296 X jn := ⟨_, rfl⟩
            rw [← ex] at cu hx hend
            have hcB := hSu.out.hc
            have hbB := hSu.out.hb
            obtain ⟨z, d, Tz, s1, s2, s3, a1, a2, a3⟩ := sub_lastW c b x hcB hbB hx
            have HEND := Lib.hid (hend z d s1 s2 s3)
            have hnx := hS.out.set jn z (by omega) s1
            obtain ⟨cq, fq⟩ := hnx.qcell j (by omega)
            have HNX := Lib.hid hnx
            have w5 : IntKind.u64.wrap (x : Int) = (x : Int) := by rw [IntKind.wrap_u64]; omega
            have w6 : ¬ (n : Int) < (n : Int) := by omega
            have w7 : (j : Int) < (m : Int) := by omega
            have w8 : (0 : Int) ≤ (j : Int) := by omega
            have w9 : IntKind.i64.wrap (j : Int) = (j : Int) := by rw [IntKind.wrap_i64]; omega
            have w10 : (g : Int) % 4294967296 = (g : Int) := by omega
            clear hend hSu hS ex s3 hnx
            rcases (show d = 0 ∨ d = 1 by omega) with rfl | rfl
            · have hE := HEND.out.1 rfl
              have HE := Lib.hid hE
              clear hE HEND hmn hkn hejn
              go_wp2_with fail
              go_roundw
              case rel => exact ⟨j, by omega, rfl, HNX.out.qend HE.out.2 HE.out.1⟩
              case measure => simp [intOf]
            · have hE := HEND.out.2 rfl
              obtain ⟨Y, eY⟩ : ∃ Y, Y = setDig 4294967296 T jn z := ⟨_, rfl⟩
              rw [← eY] at hE HNX
              obtain ⟨g1, eg1⟩ : ∃ g1, g = g1 + 1 := ⟨g - 1, by have := hE.1; omega⟩
              have u7 : IntKind.u64.wrap ((g : Int) - 1) = (g1 : Int) := by rw [IntKind.wrap_u64]; omega
              have hg1B : g1 < 4294967296 := by omega
              have w11 : (g1 : Int) % 4294967296 = (g1 : Int) := by omega
              have hg1 : g1 = dig 4294967296 (D / V) j := by have := hE.1; omega
              have HG1 := Lib.hid hg1
              have HE := Lib.hid hE.2
              clear hE HEND hmn hkn hejn eY eg1 cq fq hg1 w10
              go_wp2_with fail
              generalize wr.setCell ⟨gU, jn, none⟩ (.int .u32 (z : Int)) = wy at HNX ⊢
              clear cu fu
              go_loopw [17, 209] (fun cv iv wr => ∃ i c T : Nat, i ≤ n ∧ iv = .int .i64 (i : Int) ∧ cv = .int .u64 (c : Int) ∧ Hid (AddSt 4294967296 V Y j i T c) ∧ Hid (DSt w3 wr gU (p + 1) cU gq m T (fun i => if j + 1 ≤ i then dig 4294967296 (D / V) i else 0))) (fun _ iv _ => n - (intOf iv).toNat)
              case atStart => exact ⟨0, 0, Y, Nat.zero_le _, rfl, rfl, AddSt.start, HNX.out⟩
              case round =>
                obtain ⟨i, c, T, hi, rfl, rfl, hAd, hS⟩ := hrel
                by_cases hlt : i < n
                · obtain ⟨ij, eij⟩ : ∃ z, z = i + j := ⟨_, rfl⟩
                  have hmn := HMN.out
                  have hkn := HKN.out
                  obtain ⟨cu, fu⟩ := hS.out.cell ij (by omega)
                  have hbel := hS.out.2.2.1
                  have cv1 := (hbel.cell (p := ⟨gV, i, none⟩) HVlt.out).trans (HVC.out i hlt)
                  rw [hAd.out.up ij (by omega)] at cu
                  have hu := dig_lt (B := 4294967296) (by omega) Y ij
                  have hv := dig_lt (B := 4294967296) (by omega) V i
                  have hstep : ∀ y d, y < 4294967296 → d ≤ 1 → c + (dig 4294967296 Y (i + j) + dig 4294967296 V i) = y + d * 4294967296 → AddSt 4294967296 V Y j (i + 1) (setDig 4294967296 T (i + j) y) d := fun y d h1 h2 h3 => hAd.out.step (by omega) h1 h2 h3
                  rw [← eij] at hstep
                  obtain ⟨u, eu⟩ : ∃ x, x = dig 4294967296 Y ij := ⟨_, rfl⟩
                  obtain ⟨v, ev⟩ : ∃ x, x = dig 4294967296 V i := ⟨_, rfl⟩
                  rw [← eu] at cu hu hstep
                  rw [← ev] at cv1 hv hstep
                  have hc1 := hAd.out.hc
                  obtain ⟨t, s, z, d, e1, e2, s1, s2, s3, s4, a1, a2, a3, a4⟩ := add_words c u v hc1 hu hv
                  have HST := Lib.hid (hstep z d s1 s2 s3)
                  have w1 : (i : Int) + (j : Int) = (ij : Int) := by omega
                  have w2 : (ij : Int) < (p : Int) + 1 := by omega
                  have w3' : IntKind.i64.wrap (ij : Int) = (ij : Int) := by rw [IntKind.wrap_i64]; omega
                  have w3i : IntKind.i64.wrap (i : Int) = (i : Int) := by rw [IntKind.wrap_i64]; omega
                  have w4 : IntKind.u64.wrap (v : Int) = (v : Int) := by rw [IntKind.wrap_u64]; omega
                  have w5 : IntKind.u64.wrap (u : Int) = (u : Int) := by rw [IntKind.wrap_u64]; omega
                  have w6 : (i : Int) < (n : Int) := by omega
                  have w8 : (ij : Int) ≤ 4000 := by omega
                  have w9 : IntKind.u64.wrap (t : Int) = (t : Int) := by rw [IntKind.wrap_u64]; omega
                  have w10 : IntKind.u64.wrap (s : Int) = (s : Int) := by rw [IntKind.wrap_u64]; omega
                  clear hstep hAd hbel eu ev eij s3 hmn hkn e1 e2
                  go_upto_region 38 with (fail)
                  go_quiet (fail)
                  have cu' : (wr.drewN nq).cell? ⟨gU, ij, none⟩ = some (.int .u32 (u : Int)) := cu
                  have fu' : (wr.drewN nq).frozen? ⟨gU, ij, none⟩ = false := fu
                  have hS2 := hS.out.drewN nq
                  have HNX2 := Lib.hid (hS2.set ij z (by have := HMN.out; have := HKN.out; omega) s1)
                  clear hS2 hS cu fu cv1
                  generalize wr.drewN nq = wq at cu' fu' HNX2 ⊢
                  go_wp2_with fail
                  go_roundw
                  case rel => exact ⟨i + 1, d, _, by omega, by go_num, rfl, HST.out, HNX2.out⟩
                  case measure => simp [intOf]; omega
                · obtain rfl : n = i := by omega
                  have hmn := HMN.out
                  have hkn := HKN.out
                  have hejn := EJN.out
                  obtain ⟨cu, fu⟩ := hS.out.cell jn (by omega)
                  rw [hAd.out.up jn (by omega)] at cu
                  have hlast : setDig 4294967296 T (n + j) ((dig 4294967296 Y (n + j) + c) % 4294967296) = D % (V * 4294967296 ^ j) :=
                    hAd.out.last (by omega) HVB.out (Nat.mod_lt _ (Nat.mul_pos hV0 (Nat.pow_pos (by omega)))) (by rw [show n + j = jn by omega]; exact HE.out.1) (by rw [show n + j = jn by omega]; exact HE.out.2)
                  rw [show n + j = jn by omega] at hlast
                  obtain ⟨x, ex⟩ : ∃ x, x = dig 4294967296 Y jn := ⟨_, rfl⟩
                  have hx := dig_lt (B := 4294967296) (by omega) Y jn
                  rw [← ex] at cu hlast hx
                  have hc1 := hAd.out.hc
                  obtain ⟨z, ez⟩ : ∃ z, z = (x + c) % 4294967296 := ⟨_, rfl⟩
                  rw [← ez] at hlast
                  have hnx := hS.out.set jn z (by omega) (by omega)
                  obtain ⟨cq, fq⟩ := hnx.qcell j (by omega)
                  have HNX2 := Lib.hid hnx
                  have HL := Lib.hid hlast
                  have v1 : (c : Int) % 4294967296 = (c : Int) := by omega
                  have v2 : IntKind.u32.wrap ((x : Int) + (c : Int)) = (z : Int) := by rw [IntKind.wrap_u32]; omega
                  have v3 : ((x : Int) + (c : Int)) % 4294967296 = (z : Int) := by omega
                  clear hlast hAd hS hnx ex ez hmn hkn hejn
                  go_wp2_with fail
                  go_simp
                  go_wp2_with fail
                  go_roundw
                  case rel => exact ⟨j, by omega, rfl, HNX2.out.qend HL.out HG1.out⟩
                  case measure => simp [intOf]
end Go.Proofs.Ytkjlfjnncdkmlaa

/- Walks: the product of two forms. -/
namespace Go.Proofs.Ytkjlfjnncdkmlaa
set_option linter.all false
open Go.RowKit Go.Shelf Go.WideNum
set_option maxRecDepth 100000 in
set_option maxHeartbeats 8000000 in
theorem Mul_any (na : Bool) (sa : ByteArray) (nb : Bool) (sb : ByteArray) (hsa : sa.size ≤ maxLen) (hsb : sb.size ≤ maxLen) (w : World) :
    Calls Try.prog 87 #[.agg #[.bool na, .string sa], .agg #[.bool nb, .string sb]] w fun e w' => e = .returned (.tuple #[(opF (fun a b => a * b) na sa nb sb).1, .int .i64 (opF (fun a b => a * b) na sa nb sb).2]) ∧ Below w.heap.size w w' := by
  obtain ⟨HPOST, hpost⟩ : ∃ X : Ending → World → Prop, X = fun e w' => e = .returned (.tuple #[(opF (fun a b => a * b) na sa nb sb).1, .int .i64 (opF (fun a b => a * b) na sa nb sb).2]) ∧ Below w.heap.size w w' := ⟨_, rfl⟩
  rw [← hpost]
  have HP := Lib.hid hpost
  clear hpost
  obtain ⟨W0, hW0⟩ : ∃ W0, W0 = ((w.alloc (.cells #[.bool na, .string sa] 42)).alloc (.cells #[.bool nb, .string sb] 42)).alloc (.cells #[.bool false, .string ⟨#[]⟩] 42) := ⟨_, rfl⟩
  have g0 : W0.heap[w.heap.size]? = some (.cells #[.bool na, .string sa] 42) := by rw [hW0]; repeat (first | (refine alloc_last _ _ ?_; simp only [World.size_alloc]; done) | (rw [Below.heap_alloc]; rotate_left; (simp only [World.size_alloc]; omega)))
  have g1 : W0.heap[w.heap.size + 1]? = some (.cells #[.bool nb, .string sb] 42) := by rw [hW0]; repeat (first | (refine alloc_last _ _ ?_; simp only [World.size_alloc]; done) | (rw [Below.heap_alloc]; rotate_left; (simp only [World.size_alloc]; omega)))
  have g2 : W0.heap[w.heap.size + 1 + 1]? = some (.cells #[.bool false, .string ⟨#[]⟩] 42) := by rw [hW0]; repeat (first | (refine alloc_last _ _ ?_; simp only [World.size_alloc]; done) | (rw [Below.heap_alloc]; rotate_left; (simp only [World.size_alloc]; omega)))
  have hb0 : Below w.heap.size w W0 := by rw [hW0]; exact ((((Below.refl _ w).alloc (Nat.le_refl _) _).alloc (by simp) _).alloc (by simp; omega) _)
  have HB0 := Lib.hid hb0
  have HG0 := Lib.hid g0
  have HG1 := Lib.hid g1
  have HG2 := Lib.hid g2
  obtain ⟨c00, c01, f0⟩ := wide_cells g0
  obtain ⟨c10, c11, f1⟩ := wide_cells g1
  have HW0 := Lib.hid hW0
  clear hb0 g0 g1 g2 hW0
  go_enter Try.func87, Try.ntmps87
  go_upto_region 1 with (fail)
  rw [← HW0.out]
  go_wp2_with fail
  obtain ⟨ok, hok⟩ : ∃ ok, ok = (validB na sa && validB nb sb) := ⟨_, rfl⟩
  have hval := valid2_any na sa nb sb hsa hsb (W0.alloc (.cells #[.bool na, .string sa, .bool nb, .string sb] 42)) W0.heap.size (heap_alloc_new W0 _)
  rw [← hok] at hval
  have HOK := Lib.hid hok
  clear hok
  (with_reducible refine hval.mono ?_)
  clear hval
  rintro e w1 ⟨rfl, hb1⟩
  have hb01 : Below W0.heap.size W0 w1 := ((Below.refl _ W0).alloc (Nat.le_refl _) _).trans (hb1.mono (by simp))
  have k0 := (hb01.block _ (lt_of_heap HG0.out)).trans HG0.out
  have k1 := (hb01.block _ (lt_of_heap HG1.out)).trans HG1.out
  have k2 := (hb01.block _ (lt_of_heap HG2.out)).trans HG2.out
  have HK2 := Lib.hid k2
  have HBw1 := Lib.hid (HB0.out.trans (hb01.mono HB0.out.size))
  clear c00 c01 f0 c10 c11 f1 hb1
  obtain ⟨c00, c01, f0⟩ := wide_cells k0
  obtain ⟨c10, c11, f1⟩ := wide_cells k1
  obtain ⟨e20, e21, f2⟩ := wide_cells k2
  have hl0 := lt_of_heap k0
  have hl1 := lt_of_heap k1
  have hl2 := lt_of_heap k2
  clear k0 k1 k2 hb01
  cases ok with
  | false =>
    have hres : Hid (opF (fun a b => a * b) na sa nb sb = (emptyW, 2)) := by show _ = _; unfold opF; rw [← HOK.out]; rfl
    go_wp2
    have m2 := wide_set HK2.out false ⟨#[]⟩
    have hb9 := below_set2 (p := w.heap.size + 1 + 1) HBw1.out (by omega) false ⟨#[]⟩
    obtain ⟨d20, d21, -⟩ := wide_cells m2
    clear m2 e20 e21 f2
    generalize (w1.setCell ⟨w.heap.size + 1 + 1, 0, none⟩ (.bool false)).setCell ⟨w.heap.size + 1 + 1, 1, none⟩ (.string ⟨#[]⟩) = W9 at d20 d21 hb9 ⊢
    rw [HP.out]
    exact bodyPost_ret (v := .tuple #[emptyW, .int .i64 2]) (by simp [results, Try.results87, go_sem, d20, d21]; rfl) rfl ⟨by rw [hres.out], hb9⟩
  | true =>
    have hv : validB na sa = true ∧ validB nb sb = true := by
      have := HOK.out
      cases h1 : validB na sa <;> cases h2 : validB nb sb <;> rw [h1, h2] at this <;> first | exact ⟨rfl, rfl⟩ | cases this
    obtain ⟨l1, -, -, s256a⟩ := valid_spec na sa hv.1
    obtain ⟨l2, -, -, s256b⟩ := valid_spec nb sb hv.2
    have hofA : Hid (∀ W : World, Calls Try.prog 106 #[.agg #[.bool na, .string sa]] W (NumRet W (numB sa))) := of_wide na sa (by omega)
    have hofB : Hid (∀ W : World, Calls Try.prog 106 #[.agg #[.bool nb, .string sb]] W (NumRet W (numB sb))) := of_wide nb sb (by omega)
    have hwa := wd_len65 l1
    have hwb := wd_len65 l2
    have hres : opF (fun a b => a * b) na sa nb sb = (outZ ((fun a b => a * b) (zV na sa) (zV nb sb)), errZ ((fun a b => a * b) (zV na sa) (zV nb sb))) := by unfold opF; rw [← HOK.out]; rfl
    unfold zV at hres
    obtain ⟨A, hA⟩ : ∃ A, A = numB sa := ⟨_, rfl⟩
    obtain ⟨C, hC⟩ : ∃ C, C = numB sb := ⟨_, rfl⟩
    rw [← hA, ← hC] at hres
    rw [← hA] at hofA hwa
    rw [← hC] at hofB hwb
    have HSUM : Hid (∀ (va vb : Value) (W : World), World.numR W va A → World.numR W vb C → Calls Try.prog 105 #[va, vb] W fun e w' => (∃ v, e = .returned v ∧ World.numR w' v (A * C)) ∧ Below W.heap.size W w') := fun va vb W h1 h2 => times_num A C va vb W h1 h2 (by omega)
    obtain ⟨S, hS⟩ : ∃ S, S = (na != nb) := ⟨_, rfl⟩
    obtain ⟨M, hMM⟩ : ∃ M, M = A * C := ⟨_, rfl⟩
    have hML : (wd M).length ≤ 128 := by rw [hMM]; exact wd_len_prod hwa hwb
    rw [show (fun a b => a * b) (zOf na A) (zOf nb C) = zOf S M by rw [hS, hMM]; exact (mul_z A na C nb).symm] at hres
    rw [← hMM] at HSUM
    have hff : ∃ fb ft, outZ (zOf S M) = .agg #[.bool fb, .string ft] ∧ ∀ (v : Value) (W : World) (S' : Bool), World.numR W v M → S' = S → Calls Try.prog 102 #[v, .bool S'] W fun e w' => e = .returned (.tuple #[.agg #[.bool fb, .string ft], .int .i64 (errZ (zOf S M))]) ∧ Below W.heap.size W w' := by
      have hwide : ∃ b t, outB S M = .agg #[.bool b, .string t] := by unfold outB emptyW wideV; split <;> exact ⟨_, _, rfl⟩
      obtain ⟨b, t, hbt⟩ := hwide
      refine ⟨b, t, by rw [← outB_z]; exact hbt, fun v W S' h hS => ?_⟩
      subst hS
      obtain ⟨b', t', h1, h2⟩ := form_numZ M S' v W h (by omega)
      rw [← outB_z, hbt] at h1
      rwa [← h1] at h2
    obtain ⟨fb, ft, hf1, hf2⟩ := hff
    obtain ⟨E, hE⟩ : ∃ E, E = errZ (zOf S M) := ⟨_, rfl⟩
    rw [hf1, ← hE] at hres
    rw [← hE] at hf2
    have HFF := Lib.hid hf2
    have HRES := Lib.hid hres
    skip
    clear hres hf1 hf2 hE hA hC l1 l2 hwa hwb hv hML hMM
    go_wp2_with fail
    go_region_held3 (fun w' => (w'.cell? ⟨w.heap.size, 0, none⟩ = some (.bool na) ∧ w'.cell? ⟨w.heap.size, 1, none⟩ = some (.string sa) ∧ w'.cell? ⟨w.heap.size + 1, 0, none⟩ = some (.bool nb) ∧ w'.cell? ⟨w.heap.size + 1, 1, none⟩ = some (.string sb)))
      (first | exact ⟨c00, c01, c10, c11⟩ | (refine ⟨?_, ?_, ?_, ?_⟩ <;> assumption) | exact ⟨(World.cell?_of_block (a := ⟨w.heap.size, 0, none⟩) (wide_other (p := w.heap.size) (q := w.heap.size + 1 + 1) (by omega) fb ft)).trans q0, (World.cell?_of_block (a := ⟨w.heap.size, 1, none⟩) (wide_other (p := w.heap.size) (q := w.heap.size + 1 + 1) (by omega) fb ft)).trans q1, (World.cell?_of_block (a := ⟨w.heap.size + 1, 0, none⟩) (wide_other (p := w.heap.size + 1) (q := w.heap.size + 1 + 1) (by omega) fb ft)).trans q2, (World.cell?_of_block (a := ⟨w.heap.size + 1, 1, none⟩) (wide_other (p := w.heap.size + 1) (q := w.heap.size + 1 + 1) (by omega) fb ft)).trans q3⟩)
      (first
        | (go_simp; go_at_call 106; (with_reducible refine (hofA.out _).mono ?_); rintro e w5 ⟨v5, rfl, ho5, hb5⟩; have H5 : Hid (NumRet _ A (.returned v5) w5) := ⟨v5, rfl, ho5, hb5⟩; have a0 := (hb5.cell (p := ⟨w.heap.size, 0, none⟩) hl0).trans c00; have a1 := (hb5.cell (p := ⟨w.heap.size, 1, none⟩) hl0).trans c01; have a2 := (hb5.cell (p := ⟨w.heap.size + 1, 0, none⟩) hl1).trans c10; have a3 := (hb5.cell (p := ⟨w.heap.size + 1, 1, none⟩) hl1).trans c11; have ha0 := Nat.lt_of_lt_of_le hl0 hb5.size; have ha1 := Nat.lt_of_lt_of_le hl1 hb5.size;  clear ho5 hb5)
        | (go_simp; go_at_call 106; (with_reducible refine (hofB.out _).mono ?_); rintro e w6 ⟨v6, rfl, ho6, hb6⟩; have H6 : Hid (NumRet _ C (.returned v6) w6) := ⟨v6, rfl, ho6, hb6⟩; have b0 := (hb6.cell (p := ⟨w.heap.size, 0, none⟩) ha0).trans a0; have b1 := (hb6.cell (p := ⟨w.heap.size, 1, none⟩) ha0).trans a1; have b2 := (hb6.cell (p := ⟨w.heap.size + 1, 0, none⟩) ha1).trans a2; have b3 := (hb6.cell (p := ⟨w.heap.size + 1, 1, none⟩) ha1).trans a3; have hb_0 := Nat.lt_of_lt_of_le ha0 hb6.size; have hb_1 := Nat.lt_of_lt_of_le ha1 hb6.size;  clear ho6 hb6)
        | (go_simp; go_at_call 105; (with_reducible refine (HSUM.out _ _ _ (numR_below H5.out.numR H6.out.bel) H6.out.numR).mono ?_); rintro e w7 ⟨⟨v7, rfl, h7⟩, hb7⟩; have H7 : Hid (World.numR w7 v7 M) := h7; have HB7 := Lib.hid hb7; have d0 := (hb7.cell (p := ⟨w.heap.size, 0, none⟩) hb_0).trans b0; have d1 := (hb7.cell (p := ⟨w.heap.size, 1, none⟩) hb_0).trans b1; have d2 := (hb7.cell (p := ⟨w.heap.size + 1, 0, none⟩) hb_1).trans b2; have d3 := (hb7.cell (p := ⟨w.heap.size + 1, 1, none⟩) hb_1).trans b3; have hd_0 := Nat.lt_of_lt_of_le hb_0 hb7.size; have hd_1 := Nat.lt_of_lt_of_le hb_1 hb7.size;  clear h7 hb7)
        | (go_simp; go_at_call 102; (with_reducible refine (HFF.out _ _ _ H7.out ((bne_eq na nb).trans hS.symm)).mono ?_); rintro e w8 ⟨rfl, hb8⟩; have q0 := (hb8.cell (p := ⟨w.heap.size, 0, none⟩) hd_0).trans d0; have q1 := (hb8.cell (p := ⟨w.heap.size, 1, none⟩) hd_0).trans d1; have q2 := (hb8.cell (p := ⟨w.heap.size + 1, 0, none⟩) hd_1).trans d2; have q3 := (hb8.cell (p := ⟨w.heap.size + 1, 1, none⟩) hd_1).trans d3; have hq_0 := Nat.lt_of_lt_of_le hd_0 hb8.size; have hq_1 := Nat.lt_of_lt_of_le hd_1 hb8.size;  have HB8 := Lib.hid (H5.out.belD.trans (((H6.out.bel.trans (HB7.out.mono H6.out.bel.size)).trans (hb8.mono (Nat.le_trans H6.out.bel.size HB7.out.size))).mono H5.out.belD.size)); have K28 := (HB8.out.block _ hl2).trans HK2.out; have HK28 := Lib.hid K28; obtain ⟨e28, e29, f28⟩ := wide_cells K28; clear hb8 K28))
    all_goals
      go_wp2
      have m2 := wide_set HK28.out fb ft
      have hb9 := below_set2 (p := w.heap.size + 1 + 1) (HBw1.out.trans (HB8.out.mono HBw1.out.size)) (by omega) fb ft
      obtain ⟨d20, d21, -⟩ := wide_cells m2
      clear m2
      generalize (w8.setCell ⟨w.heap.size + 1 + 1, 0, none⟩ (.bool fb)).setCell ⟨w.heap.size + 1 + 1, 1, none⟩ (.string ft) = W9 at d20 d21 hb9 ⊢
      rw [HP.out]
      exact bodyPost_ret (v := .tuple #[.agg #[.bool fb, .string ft], .int .i64 E]) (by simp [results, Try.results87, go_sem, d20, d21]) rfl ⟨by rw [HRES.out], hb9⟩
end Go.Proofs.Ytkjlfjnncdkmlaa

/- Drawn regions in which an extraction may come behind the first late store: it may be thought to come ahead of it. -/
namespace Go
open Go.RowKit Go.Shelf
section
variable {P : Program} {ops : Array Oper} {Q : Exit → Act → World → Prop}
def moreAfter (e : Nat) (o : Oper) : Oper := { o with after := o.after.push ⟨e, .data⟩ }
def withEdge (ops : Array Oper) (k e : Nat) : Array Oper := (ops.toList.modify k (moreAfter e)).toArray
theorem withEdge_get (ops : Array Oper) (k e j : Nat) : (withEdge ops k e)[j]? = if k = j then (ops[j]?).map (moreAfter e) else ops[j]? := by
  unfold withEdge
  rw [List.getElem?_toArray, List.getElem?_modify]
  simp only [Array.getElem?_toList]
  split <;> simp
theorem wpOp_withEdge (k e i : Nat) (K : Act → World → Prop) (a : Act) (w : World) : wpOp P (withEdge ops k e) Q i K a w = wpOp P ops Q i K a w := by
  have hy : yielded (withEdge ops k e) a.tmps = yielded ops a.tmps := yielded_congr (fun j => by
    rw [withEdge_get]
    split
    · cases ops[j]? <;> rfl
    · rfl) _
  unfold wpOp
  rw [withEdge_get, hy]
  by_cases hki : k = i
  · rw [if_pos hki]; cases ops[i]? <;> rfl
  · rw [if_neg hki]
def waitsFor (ops : Array Oper) (k j : Nat) : Bool := ((ops[k]?).map fun o => o.after.any fun e => Region.binds .any e && e.on == j).getD false
theorem waitsFor_listed {k j : Nat} {listed : Array Bool} (h : waitsFor ops k j = true) (hr : k ∈ Region.ready .any ops listed) : listed.getD j false = true := by
  obtain ⟨-, o, ho, hall⟩ := mem_ready.1 hr
  unfold waitsFor at h
  simp only [ho, Option.map_some, Option.getD_some] at h
  obtain ⟨e, he, h1⟩ := Array.any_eq_true'.1 h
  simp only [Bool.and_eq_true, beq_iff_eq] at h1
  rw [← h1.2]
  exact hall e he h1.1
def pureE (oe : Oper) : Bool := (match oe.op with | .extract .. => true | _ => false) && oe.guard.isNone
def edgeB (ops : Array Oper) (k e : Nat) : Bool := e != k && Region.noSelect ops && match ops[e]? with
  | none => false
  | some oe => pureE oe && oe.after.all (fun x => !Region.binds .any x || waitsFor ops k x.on) && (List.range ops.size).all fun j => j == e || waitsFor ops k j || waitsFor ops j e || match ops[j]? with
    | some oj => oe.apart ops oj
    | none => true
theorem pure_yields {oe : Oper} {e : Nat} (he : ops[e]? = some oe) (hp : pureE oe = true) {K : Act → World → Prop} {a : Act} {w : World} (h : wpOp P ops Q e K a w) : ∃ v, Yields P ops oe v a ∧ K (a.put oe.dst v) w := by
  unfold pureE at hp
  simp only [Bool.and_eq_true] at hp
  obtain ⟨h1, h2⟩ := hp
  have hw : ∀ y, Region.wanted oe y = true := fun y => by
    unfold Region.wanted
    cases hg : oe.guard with
    | none => rfl
    | some x => rw [hg] at h2; cases h2
  unfold wpOp at h
  simp only [he, hw, if_true] at h
  cases hop : oe.op with
  | extract t ix =>
    have hx : execOp a.eval oe = (do pure (.value (← Instr.extract (a.eval t) ix)) : Sem Next) := by unfold execOp; rw [hop]
    have hbad : ∀ m, execOp a.eval oe = (do pure (.value (← (stuck m : Sem Value))) : Sem Next) → False := fun m hm => by
      rcases h with h | ⟨h, -⟩
      · unfold Oper.wp at h; rw [hm] at h; exact h
      · unfold Oper.asks at h; rw [hm] at h; exact absurd h.1 (by show ¬ noRoomEvent ∈ (#[] : Array Event); simp)
    generalize a.eval t = u at hx
    cases u with
    | tuple vs =>
      cases hv : vs[ix]? with
      | some v =>
        have hm : execOp a.eval oe = (do pure (.value (← (pure v : Sem Value))) : Sem Next) := by rw [hx]; simp only [Instr.extract, hv]
        have hr : ∀ w, (execOp a.eval oe).run P w = .ok (.value v) w := fun w => by rw [hm]; rfl
        refine ⟨v, .inl ⟨hw _, hr⟩, ?_⟩
        rcases h with h | ⟨h, -⟩
        · unfold Oper.wp at h; rw [hr] at h; exact h
        · unfold Oper.asks at h; rw [hm] at h; exact absurd h.1 (by show ¬ noRoomEvent ∈ (#[] : Array Event); simp)
      | none => exact (hbad "Extract: no such component" (by rw [hx]; simp only [Instr.extract, hv])).elim
    | _ => exact (hbad "Extract: tuple expected" (by rw [hx]; rfl)).elim
  | _ => rw [hop] at h1; cases h1
theorem wpAny_edge {k e : Nat} {oe : Oper} (he : ops[e]? = some oe) (hB : edgeB ops k e = true) (hQ : ∀ v c a w, Q (.panic c) (a.put oe.dst v) w → Q (.panic c) a w) :
    ∀ (fuel : Nat) (listed : Array Bool) (a : Act) (w : World), e < listed.size → wpAny P .any (withEdge ops k e) Q fuel listed a w → wpAny P .any ops Q fuel listed a w := by
  unfold edgeB at hB
  rw [he] at hB
  simp only [Bool.and_eq_true, bne_iff_ne, ne_eq, List.all_eq_true, List.mem_range, Array.all_eq_true_iff_forall_mem, Bool.or_eq_true, Bool.not_eq_true', beq_iff_eq] at hB
  obtain ⟨⟨hek, hs⟩, ⟨hp, hin⟩, hfree⟩ := hB
  have hsub : ∀ listed j, j ∈ Region.ready .any (withEdge ops k e) listed → j ∈ Region.ready .any ops listed := fun listed j hj => by
    obtain ⟨h1, o, ho, h2⟩ := mem_ready.1 hj
    rw [withEdge_get] at ho
    split at ho
    · cases hoj : ops[j]? with
      | none => rw [hoj] at ho; cases ho
      | some o' =>
        rw [hoj] at ho
        injection ho with ho
        subst ho
        exact mem_ready.2 ⟨h1, o', hoj, fun x hx hb => h2 x (Array.mem_push_of_mem _ hx) hb⟩
    · exact mem_ready.2 ⟨h1, o, ho, h2⟩
  have hsup : ∀ listed j, j ∈ Region.ready .any ops listed → (j = k → listed.getD e false = true) → j ∈ Region.ready .any (withEdge ops k e) listed := fun listed j hj hk => by
    obtain ⟨h1, o, ho, h2⟩ := mem_ready.1 hj
    by_cases hjk : k = j
    · refine mem_ready.2 ⟨h1, moreAfter e o, by rw [withEdge_get, if_pos hjk, ho]; rfl, fun x hx hb => ?_⟩
      rcases Array.mem_push.1 hx with hx | hx
      · exact h2 x hx hb
      · subst hx; exact hk hjk.symm
    · exact mem_ready.2 ⟨h1, o, by rw [withEdge_get, if_neg hjk]; exact ho, h2⟩
  have hre : ∀ listed, k ∈ Region.ready .any ops listed → listed.getD e true = false → e ∈ Region.ready .any ops listed := fun listed hk hl =>
    mem_ready.2 ⟨hl, oe, he, fun x hx hb => by
      rcases hin x hx with h | h
      · rw [h] at hb; cases hb
      · exact waitsFor_listed h hk⟩
  have hcase : ∀ listed : Array Bool, e < listed.size → (k ∈ Region.ready .any ops listed ∧ listed.getD e true = false) ∨ (∀ j, j ∈ Region.ready .any ops listed → j ∈ Region.ready .any (withEdge ops k e) listed) := fun listed hsz => by
    by_cases hk : k ∈ Region.ready .any ops listed
    · cases hl : listed.getD e true with
      | false => exact .inl ⟨hk, rfl⟩
      | true =>
        refine .inr fun j hj => hsup listed j hj fun _ => ?_
        simpa [hsz] using hl
    · exact .inr fun j hj => hsup listed j hj fun h => absurd (h ▸ hj) hk
  intro fuel
  induction fuel with
  | zero =>
    intro listed a w hsz H
    refine ⟨?_, H.2⟩
    rcases hcase listed hsz with ⟨hk, hl⟩ | h
    · have := hsup listed e (hre listed hk hl) (fun h => absurd h hek)
      rw [H.1] at this; cases this
    · refine List.eq_nil_iff_forall_not_mem.2 fun j hj => ?_
      have := h j hj
      rw [H.1] at this; cases this
  | succ fuel ih =>
    intro listed a w hsz H
    rcases hcase listed hsz with ⟨hk, hl⟩ | h
    · have her := hre listed hk hl
      have h1 := H.2 e (hsup listed e her (fun h => absurd h hek))
      rw [wpOp_withEdge] at h1
      obtain ⟨v, hy, h2⟩ := pure_yields he hp h1
      refine wpAny_first he (Region.noSelect_spec hs) (hQ v) fuel listed a w (fun j oj hj hje hun hno => ?_) her hy (ih _ _ _ (by simpa using hsz) h2)
      have := hfree j (Array.getElem?_eq_some_iff.1 hj).1
      rcases this with ((h | h) | h) | h
      · exact absurd h hje
      · have := waitsFor_listed h hk
        exact (unlisted_not hun this).elim
      · unfold waitsFor at h
        simp only [hj, Option.map_some, Option.getD_some] at h
        obtain ⟨x, hx, h1⟩ := Array.any_eq_true'.1 h
        simp only [Bool.and_eq_true, beq_iff_eq] at h1
        exact absurd h1.2 (hno x hx h1.1)
      · rw [hj] at h; exact h
    · refine ⟨fun h0 => H.1 ?_, fun j hj => ?_⟩
      · refine List.eq_nil_iff_forall_not_mem.2 fun j hj => ?_
        have := hsub listed j hj
        rw [h0] at this; cases this
      · have h1 := H.2 j (h j hj)
        rw [wpOp_withEdge] at h1
        exact wpOp_mono (fun a' w' => ih _ a' w' (by simpa using hsz)) h1
theorem wp_region_AE {id : Nat} {a : Act} {w : World} (k e : Nat) {oe : Oper} (B : Nat) (S F : World → Prop) (late : Nat → Bool) (hm : P.follows .mixedOrders = true) (he : ops.toList[e]? = some oe) (hB : edgeB ops k e = true)
    (hQ : ∀ v c a w, Q (.panic c) (a.put oe.dst v) w → Q (.panic c) a w) (hw : waitsA (withEdge ops k e) late = true) (hF : Fact B S F) (hFw : F w.drew)
    (h : Fact B S F → wpAnyA P (withEdge ops k e) Q B S late (fun fuel listed a w => wpAny P .any (withEdge ops k e) Q fuel listed a w) ops.size (Array.replicate ops.size false) a F) : (Code.region id ops true).wp P Q a w := by
  have he' : ops[e]? = some oe := by simpa using he
  exact wp_region_any hm (wpAny_edge he' hB hQ _ _ _ _ (by rw [Array.size_replicate]; exact (Array.getElem?_eq_some_iff.1 he').1) (wpAny_of_A (waitsA_spec hw) _ _ _ F _ (h hF) hFw))
end
end Go

/- Wide integers: helpers and walks, in one text (XG1 XG2 XG3). -/
/- The reference: an absolute value divided by a number below 2^16. -/

/- The reference: the decimal text of a form. -/

/- The reference: the integer of a text. -/

/- Wide integers: helpers and walks, in one text (XC1 XC2 XC3 XC4). -/
/- How many binary digits a form has. -/

/- The reference: two numbers with signs compared; the number of binary digits of a form, both. -/

/- Binary digits, comparisons: both. -/

/- Comparisons, negatives, absolute values and maxima: both. -/
namespace Go.Proofs.Ytkjlfjnncdkmlaa
set_option linter.all false
open Go.RowKit Go.Shelf Go.WideNum
def maxF (na : Bool) (sa : ByteArray) (nb : Bool) (sb : ByteArray) : Bool × ByteArray × Int := match cmpF na sa nb sb with
  | (c, E) => if E = 0 then (if c < 0 then (nb, sb, 0) else (na, sa, 0)) else (false, ⟨#[]⟩, E)
theorem Cmp_res (na : Bool) (sa : ByteArray) (nb : Bool) (sb : ByteArray) (hsa : sa.size ≤ maxLen) (hsb : sb.size ≤ maxLen) (R E : Int) (h : cmpF na sa nb sb = (R, E)) (w : World) :
    Calls Try.prog 95 #[.agg #[.bool na, .string sa], .agg #[.bool nb, .string sb]] w fun e w' => e = .returned (.tuple #[.int .i64 R, .int .i64 E]) ∧ Below w.heap.size w w' := by
  have := Cmp_any na sa nb sb hsa hsb w
  rwa [h] at this
set_option maxRecDepth 100000 in
set_option maxHeartbeats 8000000 in
theorem Max_any (na : Bool) (sa : ByteArray) (nb : Bool) (sb : ByteArray) (hsa : sa.size ≤ maxLen) (hsb : sb.size ≤ maxLen) (w : World) :
    Calls Try.prog 74 #[.agg #[.bool na, .string sa], .agg #[.bool nb, .string sb]] w fun e w' => e = .returned (.tuple #[.agg #[.bool (maxF na sa nb sb).1, .string (maxF na sa nb sb).2.1], .int .i64 (maxF na sa nb sb).2.2]) ∧ Below w.heap.size w w' := by
  obtain ⟨HPOST, hpost⟩ : ∃ X : Ending → World → Prop, X = fun e w' => e = .returned (.tuple #[.agg #[.bool (maxF na sa nb sb).1, .string (maxF na sa nb sb).2.1], .int .i64 (maxF na sa nb sb).2.2]) ∧ Below w.heap.size w w' := ⟨_, rfl⟩
  rw [← hpost]
  have HP := Lib.hid hpost
  clear hpost
  obtain ⟨c, E, hc⟩ : ∃ c E, cmpF na sa nb sb = (c, E) := ⟨_, _, rfl⟩
  have HC := Lib.hid (Cmp_res na sa nb sb hsa hsb c E hc)
  have HH0 : Hid (maxF na sa nb sb = if E = 0 then (if c < 0 then (nb, sb, 0) else (na, sa, 0)) else (false, ⟨#[]⟩, E)) := by show _ = _; unfold maxF; rw [hc]
  have hE : E = 0 ∨ E = 2 := by
    unfold cmpF at hc
    split at hc <;> (injection hc with _ h2; omega)
  clear hc
  obtain ⟨W0, hW0⟩ : ∃ W0, W0 = ((w.alloc (.cells #[.bool na, .string sa] 42)).alloc (.cells #[.bool nb, .string sb] 42)).alloc (.cells #[.bool false, .string ⟨#[]⟩] 42) := ⟨_, rfl⟩
  have g0 : W0.heap[w.heap.size]? = some (.cells #[.bool na, .string sa] 42) := by rw [hW0, Below.heap_alloc _ _ _ (by simp; omega), Below.heap_alloc _ _ _ (by simp)]; exact heap_alloc_new w _
  have g1 : W0.heap[w.heap.size + 1]? = some (.cells #[.bool nb, .string sb] 42) := by rw [hW0, Below.heap_alloc _ _ _ (by simp)]; exact alloc_last _ _ (by simp)
  have g2 : W0.heap[w.heap.size + 1 + 1]? = some (.cells #[.bool false, .string ⟨#[]⟩] 42) := by rw [hW0]; exact alloc_last _ _ (by simp)
  have hb0 : Below w.heap.size w W0 := by rw [hW0]; exact ((((Below.refl _ w).alloc (Nat.le_refl _) _).alloc (by simp) _).alloc (by simp; omega) _)
  have HB0 := Lib.hid hb0
  have HG0 := Lib.hid g0
  have HG1 := Lib.hid g1
  have HG2 := Lib.hid g2
  have HW0 := Lib.hid hW0
  obtain ⟨c00, c01, f0⟩ := wide_cells g0
  obtain ⟨c10, c11, f1⟩ := wide_cells g1
  clear hb0 g0 g1 g2 hW0
  go_enter Try.func74, Try.ntmps74
  go_upto_region 1 with (fail)
  rw [← HW0.out]
  go_wp2_with fail
  (with_reducible refine (HC.out _).mono ?_)
  rintro e w1 ⟨rfl, hb1⟩
  have HK0 := Lib.hid (wide_hold (w := W0) HG0.out hb1)
  have HK1 := Lib.hid (wide_hold (w := W0) HG1.out hb1)
  have HK2 := Lib.hid (wide_hold (w := W0) HG2.out hb1)
  have HB1 := Lib.hid (HB0.out.trans (hb1.mono HB0.out.size))
  clear c00 c01 f0 c10 c11 f1 hb1
  obtain ⟨c00, c01, -⟩ := wide_cells HK0.out
  obtain ⟨c10, c11, -⟩ := wide_cells HK1.out
  obtain ⟨d0, d1, f2⟩ := wide_cells HK2.out
  rcases hE with rfl | rfl
  · by_cases hlt : c < 0
    · have HH : Hid (maxF na sa nb sb = (nb, sb, 0)) := by show _ = _; rw [HH0.out, if_pos rfl, if_pos hlt]
      clear HH0
      go_wp2
      have m2 := wide_set HK2.out nb sb
      have hb9 := below_set2 (p := w.heap.size + 1 + 1) HB1.out (by omega) nb sb
      clear d0 d1 f2
      obtain ⟨d20, d21, -⟩ := wide_cells m2
      clear m2
      generalize (w1.setCell ⟨w.heap.size + 1 + 1, 0, none⟩ (.bool nb)).setCell ⟨w.heap.size + 1 + 1, 1, none⟩ (.string sb) = W9 at d20 d21 hb9 ⊢
      rw [HP.out]
      exact bodyPost_ret (v := .tuple #[.agg #[.bool nb, .string sb], .int .i64 0]) (by simp [results, Try.results74, go_sem, d20, d21]) rfl ⟨by rw [HH.out], hb9⟩
    · have HH : Hid (maxF na sa nb sb = (na, sa, 0)) := by show _ = _; rw [HH0.out, if_pos rfl, if_neg hlt]
      clear HH0
      go_wp2
      have m2 := wide_set HK2.out na sa
      have hb9 := below_set2 (p := w.heap.size + 1 + 1) HB1.out (by omega) na sa
      clear d0 d1 f2
      obtain ⟨d20, d21, -⟩ := wide_cells m2
      clear m2
      generalize (w1.setCell ⟨w.heap.size + 1 + 1, 0, none⟩ (.bool na)).setCell ⟨w.heap.size + 1 + 1, 1, none⟩ (.string sa) = W9 at d20 d21 hb9 ⊢
      rw [HP.out]
      exact bodyPost_ret (v := .tuple #[.agg #[.bool na, .string sa], .int .i64 0]) (by simp [results, Try.results74, go_sem, d20, d21]) rfl ⟨by rw [HH.out], hb9⟩
  · have HH : Hid (maxF na sa nb sb = (false, ⟨#[]⟩, 2)) := by show _ = _; rw [HH0.out, if_neg (by decide)]
    clear HH0
    go_wp2
    have m2 := wide_set HK2.out false ⟨#[]⟩
    have hb9 := below_set2 (p := w.heap.size + 1 + 1) HB1.out (by omega) false ⟨#[]⟩
    clear d0 d1 f2
    obtain ⟨d20, d21, -⟩ := wide_cells m2
    clear m2
    generalize (w1.setCell ⟨w.heap.size + 1 + 1, 0, none⟩ (.bool false)).setCell ⟨w.heap.size + 1 + 1, 1, none⟩ (.string ⟨#[]⟩) = W9 at d20 d21 hb9 ⊢
    rw [HP.out]
    exact bodyPost_ret (v := .tuple #[.agg #[.bool false, .string ⟨#[]⟩], .int .i64 2]) (by simp [results, Try.results74, go_sem, d20, d21]) rfl ⟨by rw [HH.out], hb9⟩
end Go.Proofs.Ytkjlfjnncdkmlaa

/- The reference: an absolute value times 2. -/

/- The reference: quotient and rest of absolute values, bit by bit. -/

/- The reference: quotient and rest with signs, the rest from zero on. -/
namespace Go.Proofs.Ytkjlfjnncdkmlaa
set_option linter.all false
open Go.RowKit Go.Shelf Go.WideNum
theorem hold {w w' : World} {g : Nat} {o : Obj} (h : w.heap[g]? = some o) (hb : Below w.heap.size w w') : w'.heap[g]? = some o := (hb.block _ (lt_of_heap h)).trans h
end Go.Proofs.Ytkjlfjnncdkmlaa

/- The reference: division of forms. -/

/- The reference: the balanced remainder. -/

/- The reference: the quotient to the nearest. -/

/- Walks: the quotient to the nearest. -/
namespace Go.Proofs.Ytkjlfjnncdkmlaa
set_option linter.all false
open Go.RowKit Go.Shelf Go.WideNum
def DivAll : Prop := ∀ A C : Nat, C ≠ 0 → (wd A).length ≤ 200 → (wd C).length ≤ 200 → DivOK A C
end Go.Proofs.Ytkjlfjnncdkmlaa

/- Both programs: the rest by a word. -/

/- The reference: sums, differences and products of forms. -/

/- Wide integers: helpers and walks, in one text (XF2 XF3). -/
/- Walks: the integer of 64 bits of a form: the reference's. -/

/- Walks: the form of an integer of 64 bits: the reference's. -/
namespace Go.Proofs.Ytkjlfjnncdkmlaa
set_option linter.all false
open Go.RowKit Go.Shelf Go.WideNum
set_option maxRecDepth 100000 in
set_option maxHeartbeats 8000000 in
theorem refOf_any (n : Int) (h1 : -9223372036854775808 ≤ n) (h2 : n < 9223372036854775808) (fb : Bool) (ft : ByteArray) (hout : outZ n = .agg #[.bool fb, .string ft]) (w : World) :
    Calls Try.prog 16 #[.int .i64 n] w fun e w' => e = .returned (.agg #[.bool fb, .string ft]) ∧ Below w.heap.size w w' := by
  obtain ⟨HPOST, hpost⟩ : ∃ X : Ending → World → Prop, X = fun e w' => e = .returned (.agg #[.bool fb, .string ft]) ∧ Below w.heap.size w w' := ⟨_, rfl⟩
  rw [← hpost]
  have HP := Lib.hid hpost
  clear hpost
  obtain ⟨m, hm⟩ : ∃ m, m = n.natAbs := ⟨_, rfl⟩
  obtain ⟨sg, hsg⟩ : ∃ b, b = decide (n < 0) := ⟨_, rfl⟩
  have hzo : zOf sg m = n := by
    rw [hsg, hm]; unfold zOf
    by_cases h : n < 0
    · simp [h]; omega
    · simp [h]; omega
  have hm64 : m < 18446744073709551616 := by omega
  have hml : (hw m).length ≤ 4 := hw_len_le (by omega)
  have HOUT : Hid (∀ v W, World.numH W v m → Calls Try.prog 53 #[.agg #[.bool sg, v]] W fun e w' => e = .returned (.tuple #[.agg #[.bool fb, .string ft], .int .i64 (errZ n)]) ∧ Below W.heap.size W w') := fun v W h => hout_num sg m (by omega) fb ft (errZ n) (by rw [hzo]; exact hout) (by rw [hzo]) v W h
  obtain ⟨EE, hEE⟩ : ∃ EE, EE = errZ n := ⟨_, rfl⟩
  rw [← hEE] at HOUT
  have HML := Lib.hid hml
  have hcase : (n < 0 ∧ sg = true ∧ IntKind.u64.wrap (-(IntKind.u64.wrap n)) = (m : Int)) ∨ (¬ n < 0 ∧ sg = false ∧ IntKind.u64.wrap n = (m : Int)) := by
    by_cases h : n < 0
    · left
      refine ⟨h, by rw [hsg, decide_eq_true h], ?_⟩
      rw [IntKind.wrap_u64, IntKind.wrap_u64]; omega
    · right
      refine ⟨h, by rw [hsg, decide_eq_false h], ?_⟩
      rw [IntKind.wrap_u64]; omega
  have HCASE := Lib.hid hcase
  clear hcase hsg hzo hout hEE hml
  obtain ⟨W0, hW0⟩ : ∃ W0, W0 = (w.alloc (.cells #[.bool false, .string ⟨#[]⟩] 42)).alloc (.cells #[.bool sg, .slice none 0 0] 77) := ⟨_, rfl⟩
  have g0 : W0.heap[w.heap.size]? = some (.cells #[.bool false, .string ⟨#[]⟩] 42) := by rw [hW0, Below.heap_alloc _ _ _ (by simp)]; exact heap_alloc_new w _
  have g1 : W0.heap[w.heap.size + 1]? = some (.cells #[.bool sg, .slice none 0 0] 77) := by rw [hW0]; exact alloc_last _ _ (by simp)
  have hb0 : Below w.heap.size w W0 := by rw [hW0]; exact (((Below.refl _ w).alloc (Nat.le_refl _) _).alloc (by simp) _)
  have hz0 : W0.heap.size = w.heap.size + 1 + 1 := by rw [hW0]; simp
  have HB0 := Lib.hid hb0
  have HG0 := Lib.hid g0
  have HG1 := Lib.hid g1
  have HZ0 := Lib.hid hz0
  have HW0 := Lib.hid hW0
  clear hb0 g0 g1 hz0 hW0
  go_enter Try.func16, Try.ntmps16
  go_upto_if 13 with (fail)
  go_cut [4] (fun nv wx => nv = .int .u64 (m : Int) ∧ wx = W0)
  case first =>
    rcases HCASE.out with ⟨hn, hsg, hu⟩ | ⟨hn, hsg, hu⟩
    · have hd : decide (n < 0) = true := decide_eq_true hn
      subst hsg
      clear hm
      go_wp2
      go_meet
      case rel => exact ⟨by first | rfl | rw [hu], HW0.out.symm⟩
    · have hd : decide (n < 0) = false := decide_eq_false hn
      subst hsg
      clear hm
      go_wp2
      go_meet
      case rel => exact ⟨by first | rfl | rw [hu], HW0.out.symm⟩
  case rest =>
    obtain ⟨rfl, rfl⟩ := hcut
    obtain ⟨M, hM⟩ : ∃ M, M = (hw m).length := ⟨_, rfl⟩
    have HM := Lib.hid hM
    have hM4 : M ≤ 4 := by rw [hM]; exact HML.out
    clear hm hM HCASE
    go_wp2_with fail
    go_loopw [4] (fun nv wr => ∃ (k : Nat) (xa : Option Addr) (xc : Nat), k ≤ M ∧ nv = .int .u64 ((m / 65536 ^ k : Nat) : Int) ∧ Hid (wr.heap[w.heap.size]? = some (.cells #[.bool false, .string ⟨#[]⟩] 42)) ∧ Hid (wr.heap[w.heap.size + 1]? = some (.cells #[.bool sg, .slice xa k xc] 77)) ∧ Hid (wr.owns (w.heap.size + 1 + 1) 22 1 (.slice xa k xc) k (((List.range k).map (dig 65536 m)).map u32V)) ∧ Hid (Below w.heap.size w wr) ∧ w.heap.size + 1 + 1 ≤ wr.heap.size) (fun nv _ => (intOf nv).toNat)
    case atStart => exact ⟨0, none, 0, Nat.zero_le _, by rw [Nat.pow_zero, Nat.div_one], HG0.out, HG1.out, owns_nil _ _ _, HB0.out, by rw [HZ0.out]; exact Nat.le_refl _⟩
    case round =>
      obtain ⟨k, xa, xc, hk, rfl, hG0, hG1, hO, hB, hz⟩ := hrel
      obtain ⟨c10, c11, f10, f11⟩ := num_cells hG1.out
      by_cases hlt : k < M
      · have hst := div_pow_succ 65536 m k
        have hdl := hw_dig m k
        have hge : 65536 ^ k ≤ m := hw_len_ge (by rw [← HM.out]; exact hlt)
        have hpos : 0 < m / 65536 ^ k := Nat.div_pos hge (Nat.pow_pos (by omega))
        have hle := Nat.div_le_self m (65536 ^ k)
        obtain ⟨r, er⟩ : ∃ r, r = m / 65536 ^ k := ⟨_, rfl⟩
        obtain ⟨z, ez⟩ : ∃ r, r = dig 65536 m k := ⟨_, rfl⟩
        obtain ⟨q, eq⟩ : ∃ r, r = m / 65536 ^ (k + 1) := ⟨_, rfl⟩
        rw [← er, ← ez, ← eq] at hst
        rw [← er] at hpos hle
        rw [← ez] at hdl
        rw [← er]
        have EZ := Lib.hid ez
        have EQ := Lib.hid eq
        have t0 : (0 : Int) < (r : Int) := by omega
        have t1 : (r : Int) % 65536 = (z : Int) := by omega
        have t2 : (z : Int) % 4294967296 = (z : Int) := by omega
        have t3 : (r : Int) / 65536 = (q : Int) := by omega
        have HRQ : Hid (q < r) := by show q < r; omega
        have hr64 : r < 18446744073709551616 := by omega
        clear er ez eq hst hge hpos
        go_wp2_with (at_builtin; refine app_u32 wr 23 Try.underlying23 rfl (.tmp 19) (.tmp 23) rfl (w.heap.size + 1 + 1) (.slice xa k xc) k _ rfl hO.out (z : Int) wr.heap.size rfl rfl (by omega) hz ?_; intro v5 w5 hown5 hg5 hz5; have HO5 := Lib.hid hown5; obtain ⟨g5, q5, rfl⟩ := hown5.succ; have hb5 := below_grown hO.out hg5 (w.heap.size + 1 + 1) (Nat.le_refl _) hz; have HB5 := Lib.hid hb5; have K0 := Lib.hid ((hb5.block _ (by omega)).trans hG0.out); have hk1 := (hb5.block _ (by omega)).trans hG1.out; have K1 := Lib.hid hk1; obtain ⟨e10, e11, i10, i11⟩ := num_cells hk1; clear hown5 hg5 hb5 hk1)
        go_roundw
        case rel =>
          refine ⟨k + 1, some ⟨g5, 0, none⟩, q5, by omega, by first | (rw [← EQ.out]; done) | (rw [t3, ← EQ.out]), ?_, ?_, ?_, ?_, ?_⟩
          · show _ = _; rw [cell_other (by omega)]; exact K0.out
          · show _ = _; exact num_set1 K1.out _
          · show World.owns _ _ _ _ _ _ _
            refine World.owns.setCell ?_ (by simp) _
            rw [List.range_succ, List.map_append, List.map_append]
            show w5.owns _ _ _ _ _ (_ ++ [u32V (dig 65536 m k)])
            rw [← EZ.out]
            exact HO5.out
          · show Below _ _ _
            exact (hB.out.trans (HB5.out.mono (by omega))).setCell (by simp) _
          · simp; omega
        case measure =>
          have := HRQ.out
          first | (simp [intOf, t3]; done) | (simp [intOf, t3]; omega) | (simp [intOf]; omega)
      · obtain rfl : k = M := by omega
        have h0 : m / 65536 ^ k = 0 := Nat.div_eq_of_lt (by rw [HM.out]; exact hw_vlt m)
        rw [h0]
        have hnum : World.numH wr (.slice xa k xc) m := rawH_num hO.out.reads HM.out
        have t0 : ¬ (0 : Int) < ((0 : Nat) : Int) := by omega
        have HNUM := Lib.hid hnum
        clear h0 hnum
        go_wp2_with fail
        (with_reducible refine (HOUT.out _ _ HNUM.out).mono ?_)
        rintro e w6 ⟨rfl, hb6⟩
        have hg6 := wide_hold (w := wr) hG0.out hb6
        have HB6 := Lib.hid (hB.out.trans (hb6.mono hB.out.size))
        have hz6 := hb6.size
        have ha6 : (w6.alloc (.cells #[.bool fb, .string ft] 42)).heap[w.heap.size]? = some (.cells #[.bool false, .string ⟨#[]⟩] 42) := by rw [Below.heap_alloc _ _ _ (by omega)]; exact hg6
        have ha7 : (w6.alloc (.cells #[.bool fb, .string ft] 42)).heap[w6.heap.size]? = some (.cells #[.bool fb, .string ft] 42) := heap_alloc_new w6 _
        have hb7 : Below w.heap.size w (w6.alloc (.cells #[.bool fb, .string ft] 42)) := HB6.out.alloc HB6.out.size _
        clear c10 c11 f10 f11 hb6
        obtain ⟨d0, d1, fd⟩ := wide_cells ha6
        obtain ⟨i0, i1, -⟩ := wide_cells ha7
        have HA6 := Lib.hid ha6
        have HB7 := Lib.hid hb7
        clear ha6 ha7 hb7 hg6
        go_wp2
        have m2 := wide_set HA6.out fb ft
        have hb9 : Below w.heap.size w (((w6.alloc (.cells #[.bool fb, .string ft] 42)).setCell ⟨w.heap.size, 0, none⟩ (.bool fb)).setCell ⟨w.heap.size, 1, none⟩ (.string ft)) := (HB7.out.setCell (by simp) _).setCell (by simp) _
        clear d0 d1 fd i0 i1
        obtain ⟨d20, d21, -⟩ := wide_cells m2
        clear m2
        generalize ((w6.alloc (.cells #[.bool fb, .string ft] 42)).setCell ⟨w.heap.size, 0, none⟩ (.bool fb)).setCell ⟨w.heap.size, 1, none⟩ (.string ft) = W9 at d20 d21 hb9 ⊢
        rw [HP.out]
        exact bodyPost_ret (v := .agg #[.bool fb, .string ft]) (by simp [results, Try.results16, go_sem, d20, d21]) rfl ⟨rfl, hb9⟩
end Go.Proofs.Ytkjlfjnncdkmlaa

/- Walks: integers of many words, by value: calls whose results lie in range. -/
namespace Go.Proofs.Ytkjlfjnncdkmlaa
set_option linter.all false
open Go.RowKit Go.Shelf Go.WideNum
theorem div_all : DivAll := fun A C hC hla hlc => by
  by_cases hs : A < C ∨ C < 4294967296
  · exact divide_small A C hC hs (by omega) (by omega)
  · exact divide_big A C (by omega) (by omega) (by omega)
theorem div_valid (na : Bool) (sa : ByteArray) (nb : Bool) (sb : ByteArray) (ha : validB na sa = true) (hb : validB nb sb = true) (h0 : sb.size ≠ 0) : DivOK (numB sa) (numB sb) := by
  obtain ⟨l1, -, -, -⟩ := valid_spec na sa ha
  obtain ⟨l2, hmg, -, -⟩ := valid_spec nb sb hb
  have h1 := wd_len65 l1
  have h2 := wd_len65 l2
  exact div_all _ _ (fun h => by rw [h] at hmg; exact h0 (by rw [← hmg]; rfl)) (by omega) (by omega)
def zN (z : Int) : Bool := decide (z < 0)
def zT (z : Int) : ByteArray := magB z.natAbs
def InR (z : Int) : Prop := z.natAbs < lim
theorem lim_words : lim = 4294967296 ^ 64 := by unfold lim; rw [show (4294967296 : Nat) = 256 ^ 4 by rfl, ← Nat.pow_mul]
theorem inR_of {z : Int} {k : Nat} (h : z.natAbs < 4294967296 ^ k) (hk : k ≤ 64) : InR z := by
  unfold InR
  rw [lim_words]
  exact Nat.lt_of_lt_of_le h (Nat.pow_le_pow_right (by omega) hk)
theorem inR_small {z : Int} (h : z.natAbs < 18446744073709551616) : InR z := inR_of (k := 2) (Nat.lt_of_lt_of_le h (by decide)) (by omega)
theorem outZ_zW {z : Int} (h : InR z) : outZ z = .agg #[.bool (zN z), .string (zT z)] ∧ errZ z = 0 := outZ_in z h
theorem z_valid {z : Int} (h : InR z) : validB (zN z) (zT z) = true ∧ zV (zN z) (zT z) = z := by
  obtain ⟨v1, v2⟩ := valid_magB (decide (z < 0)) z.natAbs h (fun hn => by have := of_decide_eq_true hn; omega)
  refine ⟨v1, ?_⟩
  unfold zV zOf zT zN
  rw [v2]
  by_cases hn : z < 0
  · rw [decide_eq_true hn, if_pos rfl]; omega
  · rw [decide_eq_false hn, if_neg (by decide)]; omega
theorem z_size {z : Int} (h : InR z) : (zT z).size ≤ maxLen := by
  have := (valid_spec _ _ (z_valid h).1).2.2.2
  unfold maxLen; omega
theorem opF_z (f : Int → Int → Int) {x y : Int} (hx : InR x) (hy : InR y) (h : InR (f x y)) : opF f (zN x) (zT x) (zN y) (zT y) = (.agg #[.bool (zN (f x y)), .string (zT (f x y))], 0) := by
  unfold opF
  rw [(z_valid hx).1, (z_valid hy).1, (z_valid hx).2, (z_valid hy).2, if_pos (by rfl), (outZ_zW h).1, (outZ_zW h).2]
def WideOk (z : Int) (w : World) (e : Ending) (w' : World) : Prop := e = .returned (.tuple #[.agg #[.bool (zN z), .string (zT z)], .int .i64 0]) ∧ Below w.heap.size w w'
theorem Mul_z (x y : Int) (hx : InR x) (hy : InR y) (h : InR (x * y)) (w : World) :
    Calls Try.prog 87 #[.agg #[.bool (zN x), .string (zT x)], .agg #[.bool (zN y), .string (zT y)]] w (WideOk (x * y) w) := by
  have := Mul_any (zN x) (zT x) (zN y) (zT y) (z_size hx) (z_size hy) w
  rwa [opF_z (fun a b => a * b) hx hy h] at this
theorem Add_z (x y : Int) (hx : InR x) (hy : InR y) (h : InR (x + y)) (w : World) :
    Calls Try.prog 108 #[.agg #[.bool (zN x), .string (zT x)], .agg #[.bool (zN y), .string (zT y)]] w (WideOk (x + y) w) := by
  have := Add_any (zN x) (zT x) (zN y) (zT y) (z_size hx) (z_size hy) w
  rwa [opF_z (fun a b => a + b) hx hy h] at this
theorem Of_z (n : Int) (h1 : -9223372036854775808 ≤ n) (h2 : n < 9223372036854775808) (w : World) :
    Calls Try.prog 85 #[.int .i64 n] w fun e w' => e = .returned (.agg #[.bool (zN n), .string (zT n)]) ∧ Below w.heap.size w w' := by
  have := Of_any n h1 h2 w
  rwa [(outZ_zW (inR_small (by omega))).1] at this
theorem refOf_z (n : Int) (h1 : -9223372036854775808 ≤ n) (h2 : n < 9223372036854775808) (w : World) :
    Calls Try.prog 16 #[.int .i64 n] w fun e w' => e = .returned (.agg #[.bool (zN n), .string (zT n)]) ∧ Below w.heap.size w w' :=
  refOf_any n h1 h2 _ _ (outZ_zW (inR_small (by omega))).1 w
theorem pos_of {m : Int} (h : InR m) (h0 : 0 < m) : posB (zN m) (zT m) = true := by
  unfold posB
  have h1 := (z_valid h).1
  have h2 : zN m = false := decide_eq_false (by omega)
  have h3 : (zT m).size ≠ 0 := fun h3 => by
    have h4 := (z_valid h).2
    have h5 : zT m = ⟨#[]⟩ := by
      apply ByteArray.ext
      exact Array.eq_empty_of_size_eq_zero h3
    rw [h5, h2] at h4
    have : zV false ⟨#[]⟩ = 0 := by kernel_rfl
    omega
  rw [h2] at h1 ⊢
  simp [h1, h3]
theorem balZ_abs (x m : Int) (h0 : 0 < m) : -m < balZ x m ∧ balZ x m < m := by
  have h1 := Int.emod_nonneg x (show m ≠ 0 by omega)
  have h2 := Int.emod_lt_of_pos x h0
  unfold balZ
  split <;> omega
theorem balF_z {x m : Int} (hx : InR x) (hm : InR m) (h0 : 0 < m) : balF (zN x) (zT x) (zN m) (zT m) = (.agg #[.bool (zN (balZ x m)), .string (zT (balZ x m))], 0) := by
  have hb := balZ_abs x m h0
  have hr : InR (balZ x m) := by unfold InR at *; omega
  unfold balF
  rw [(z_valid hx).1, pos_of hm h0, (z_valid hx).2, (z_valid hm).2, if_pos (by rfl), (outZ_zW hr).1, (outZ_zW hr).2]
theorem Balanced_z (x m : Int) (hx : InR x) (hm : InR m) (h0 : 0 < m) (w : World) :
    Calls Try.prog 109 #[.agg #[.bool (zN x), .string (zT x)], .agg #[.bool (zN m), .string (zT m)]] w (WideOk (balZ x m) w) := by
  have := Balanced_any (zN x) (zT x) (zN m) (zT m) (z_size hx) (z_size hm) (div_valid _ _ _ _) w
  rwa [balF_z hx hm h0] at this
end Go.Proofs.Ytkjlfjnncdkmlaa

/- Wide integers: helpers and walks, in one text (KA1 KA2 KA3 KA4 KA5 KA6 KA7). -/
/- Plain: what the rule of Euclid leaves; walks: residues. -/
namespace Go.Proofs.Ytkjlfjnncdkmlaa
set_option linter.all false
open Go.RowKit
def invX (r s : Nat) (x y : Int) : Int := if _h : s = 0 then x else invX s (r % s) y (wrap64 (x - wrap64 (((r / s : Nat) : Int) * y)))
termination_by s
decreasing_by exact Nat.mod_lt _ (Nat.pos_of_ne_zero (by assumption))
theorem invX_step (r s : Nat) (x y : Int) (h : s ≠ 0) : invX r s x y = invX s (r % s) y (wrap64 (x - wrap64 (((r / s : Nat) : Int) * y))) := by
  rw [invX, dif_neg h]
theorem invX_end (r : Nat) (x y : Int) : invX r 0 x y = x := by rw [invX]; simp
theorem dvdM {m b : Int} (k : Int) (h : m ∣ b) : m ∣ k * b := by
  obtain ⟨c, rfl⟩ := h
  exact ⟨k * c, Int.mul_left_comm _ _ _⟩
theorem invX_spec {m a : Nat} (hm : m < 4294967296) : ∀ (n s r U V : Nat) (x y : Int), s ≤ n → s < r → V * r + U * s = m → U ≤ m → ((x = -(U : Int) ∧ y = (V : Int)) ∨ (x = (U : Int) ∧ y = -(V : Int))) →
    (m : Int) ∣ x * a - r → (m : Int) ∣ y * a - s → ∃ u : Int, invX r s x y = u ∧ -(m : Int) ≤ u ∧ u ≤ m ∧ (m : Int) ∣ u * a - (Nat.gcd r s : Nat) := by
  intro n
  induction n with
  | zero =>
    intro s r U V x y h1 h2 h3 h4 h5 h6 h7
    obtain rfl : s = 0 := by omega
    refine ⟨x, invX_end _ _ _, ?_, ?_, by rw [Nat.gcd_zero_right]; exact h6⟩ <;> omega
  | succ n ih =>
    intro s r U V x y h1 h2 h3 h4 h5 h6 h7
    by_cases hs : s = 0
    · subst hs
      refine ⟨x, invX_end _ _ _, ?_, ?_, by rw [Nat.gcd_zero_right]; exact h6⟩ <;> omega
    · obtain ⟨k, hk⟩ : ∃ k, k = r / s := ⟨_, rfl⟩
      obtain ⟨t, ht⟩ : ∃ t, t = r % s := ⟨_, rfl⟩
      have hdm : s * k + t = r := by rw [hk, ht]; exact Nat.div_add_mod r s
      have hts : t < s := by rw [ht]; exact Nat.mod_lt _ (by omega)
      obtain ⟨W, hW⟩ : ∃ W, W = k * V := ⟨_, rfl⟩
      have hVs : (U + W) * s + V * t = m := by
        rw [← h3, ← hdm, hW, Nat.add_mul, Nat.mul_add]
        have : k * V * s = V * (s * k) := by simp only [Nat.mul_comm, Nat.mul_left_comm]
        omega
      have hUW : U + W ≤ m := by
        have : (U + W) * 1 ≤ (U + W) * s := Nat.mul_le_mul_left _ (by omega)
        omega
      have hV : V ≤ m := by
        have : V * 1 ≤ V * r := Nat.mul_le_mul_left _ (by omega)
        omega
      have e1 : ((k : Nat) : Int) * y = (if y = (V : Int) then (W : Int) else -(W : Int)) := by
        rcases h5 with ⟨_, h5⟩ | ⟨_, h5⟩
        · rw [if_pos h5, h5, hW]; simp
        · by_cases h0 : V = 0
          · rw [h5, hW, h0]; simp
          · rw [if_neg (by omega), h5, hW, Int.mul_neg]; simp
      have e2 : wrap64 (((k : Nat) : Int) * y) = ((k : Nat) : Int) * y := by
        rw [e1]
        split <;> exact IntWalk.wrap64_in _ (by omega)
      have hnew : ∃ z : Int, z = x - ((k : Nat) : Int) * y ∧ ((y = -(V : Int) ∧ z = ((U + W : Nat) : Int)) ∨ (y = (V : Int) ∧ z = -((U + W : Nat) : Int))) := by
        refine ⟨_, rfl, ?_⟩
        rcases h5 with ⟨h5, h6⟩ | ⟨h5, h6⟩
        · refine Or.inr ⟨h6, ?_⟩
          rw [e1, if_pos h6]; omega
        · refine Or.inl ⟨h6, ?_⟩
          by_cases h0 : V = 0
          · have : W = 0 := by rw [hW, h0]; simp
            rw [e1, this]; split <;> omega
          · rw [e1, if_neg (by omega)]; omega
      obtain ⟨z, hz, hz2⟩ := hnew
      have e3 : wrap64 (x - wrap64 (((r / s : Nat) : Int) * y)) = z := by
        rw [← hk, e2, ← hz]
        exact IntWalk.wrap64_in _ (by omega)
      rw [invX_step r s x y hs, e3, ← ht]
      obtain ⟨u, q1, q2, q3, q4⟩ := ih t s V (U + W) y z (by omega) hts hVs hV (by omega) h7 (by
        have h8 := Int.dvd_sub h6 (dvdM (k : Int) h7)
        have e4 : x * a - r - (k : Int) * (y * a - s) = z * a - t := by
          have e5 : ((s * k + t : Nat) : Int) = (r : Int) := by rw [hdm]
          rw [Int.natCast_add, Int.natCast_mul] at e5
          rw [hz, ← e5, Int.mul_sub, Int.sub_mul, Int.mul_comm (s : Int), Int.mul_assoc]
          omega
        rwa [e4] at h8)
      refine ⟨u, q1, q2, q3, ?_⟩
      rwa [show Nat.gcd s t = Nat.gcd r s by rw [ht, Nat.gcd_comm s, ← Nat.gcd_rec, Nat.gcd_comm]] at q4
theorem inv_val {m a x : Nat} (hm : m < 4294967296) (h2 : 2 ≤ m) (ha : a < m) (hx : x < m) (h : a * x % m = 1) :
    Nat.gcd m a = 1 ∧ ((invX m a 0 1 < 0 ∧ invX m a 0 1 + (m : Int) = (x : Int)) ∨ (¬ invX m a 0 1 < 0 ∧ invX m a 0 1 = (x : Int))) := by
  have hg : Nat.gcd m a = 1 := by
    obtain ⟨g, hg⟩ : ∃ g, g = Nat.gcd m a := ⟨_, rfl⟩
    have g1 : g ∣ m := by rw [hg]; exact Nat.gcd_dvd_left _ _
    have g2 : g ∣ a * x := Nat.dvd_trans (by rw [hg]; exact Nat.gcd_dvd_right _ _) ⟨x, rfl⟩
    have g3 : g ∣ a * x % m := (Nat.dvd_mod_iff g1).2 g2
    rw [h, Nat.dvd_one] at g3
    rw [← hg, g3]
  obtain ⟨u, q1, q2, q3, q4⟩ := invX_spec (m := m) (a := a) hm a a m 0 1 0 1 (Nat.le_refl _) ha (by omega) (by omega) (Or.inl ⟨rfl, rfl⟩) ⟨-1, by omega⟩ ⟨0, by omega⟩
  rw [hg] at q4
  rw [q1]
  refine ⟨hg, ?_⟩
  have hx0 : x ≠ 0 := fun h0 => by rw [h0, Nat.mul_zero, Nat.zero_mod] at h; omega
  -- u = x modulo m
  have q5 : (m : Int) ∣ (a : Int) * x - 1 := by
    have h3 := Nat.div_add_mod (a * x) m
    rw [h] at h3
    refine ⟨((a * x / m : Nat) : Int), ?_⟩
    have : ((m * (a * x / m) + 1 : Nat) : Int) = ((a * x : Nat) : Int) := by rw [h3]
    rw [Int.natCast_add, Int.natCast_mul, Int.natCast_mul] at this
    omega
  have q6 : (m : Int) ∣ u - x := by
    have h3 := Int.dvd_sub (dvdM u q5) (dvdM (x : Int) q4)
    have e : u * ((a : Int) * x - 1) - (x : Int) * (u * a - ((1 : Nat) : Int)) = -(u - x) := by
      rw [Int.mul_sub, Int.mul_sub, show u * ((a : Int) * x) = (x : Int) * (u * a) by rw [← Int.mul_assoc, Int.mul_comm]]
      simp
      omega
    rw [e] at h3
    exact Int.dvd_neg.1 h3
  obtain ⟨c, hc⟩ := q6
  have hm0 : (0 : Int) < m := by omega
  rcases Int.lt_or_le c (-1) with h3 | h3
  · have : (m : Int) * c ≤ (m : Int) * (-2) := Int.mul_le_mul_of_nonneg_left (by omega) (by omega)
    omega
  · rcases Int.lt_or_le 0 c with h4 | h4
    · have : (m : Int) * 1 ≤ (m : Int) * c := Int.mul_le_mul_of_nonneg_left (by omega) (by omega)
      omega
    · rcases (show c = -1 ∨ c = 0 by omega) with rfl | rfl
      · left; omega
      · right; omega
end Go.Proofs.Ytkjlfjnncdkmlaa

/- Walks: the program's calculation with residues, in range. -/
namespace Go.Proofs.Ytkjlfjnncdkmlaa
set_option linter.all false
open Go.RowKit Go.Shelf
def U32Ok (x : Nat) (w : World) (e : Ending) (w' : World) : Prop := e = .returned (.tuple #[.int .u32 (x : Int), .int .i64 0]) ∧ Below w.heap.size w w'
theorem fits1 {a n : Nat} (ha : a < n) (h2 : 2 ≤ n) (hn : n ≤ 2147483647) : fitsB n [a] = true := by unfold fitsB; simp; omega
set_option maxHeartbeats 4000000 in
theorem Inverse_in (a n x : Nat) (ha : a < n) (h2 : 2 ≤ n) (hn : n ≤ 2147483647) (hx : x < n) (hax : a * x % n = 1) (w : World) :
    Calls Try.prog 86 #[.int .u32 (a : Int), .int .u32 (n : Int)] w (U32Ok x w) := by
  have hF : ∀ W v, W.reads (w.heap.size + 1) v ([a].map u32V) → Calls Try.prog 103 #[.int .u32 (n : Int), v] W fun e w' => e = .returned (.bool true) ∧ W = w' := fun W v h => by
    have := fits_any n v [a] _ W h
    rwa [fits1 ha h2 hn] at this
  have HF := Lib.hid hF
  obtain ⟨hg, hiv⟩ := inv_val (by omega) h2 ha hx hax
  have HG := Lib.hid hg
  have HIV := Lib.hid hiv
  clear hF hg hiv hax
  go_enter Try.func86, Try.ntmps86
  go_wp2_with fail
  (with_reducible refine (HF.out _ _ (reads_alloc_new w [u32V a] 22 1 (by simp) (by simp [maxLen]))).mono ?_)
  rintro e w1 ⟨rfl, rfl⟩
  clear HF
  go_wp2
  go_loop [6, 7, 8, 9] (fun r s x y => ∃ (rn sn : Nat) (xn yn : Int), rn < 4294967296 ∧ sn < 4294967296 ∧ r = .int .i64 (rn : Int) ∧ s = .int .i64 (sn : Int) ∧ x = .int .i64 xn ∧ y = .int .i64 yn ∧ Hid (Nat.gcd rn sn = 1) ∧ Hid (invX rn sn xn yn = invX n a 0 1)) (fun _ s _ _ => (intOf s).toNat)
  case atStart => exact ⟨n, a, 0, 1, by omega, by omega, rfl, rfl, rfl, rfl, HG.out, rfl⟩
  case round =>
    obtain ⟨r, s, u, y, hr, hs, rfl, rfl, rfl, rfl, hgcd, hinv⟩ := hrel
    by_cases hs0 : s = 0
    · have t0 : ((s : Int) != 0) = false := by rw [hs0]; rfl
      have hgr : r = 1 := by have := hgcd.out; rw [hs0, Nat.gcd_zero_right] at this; exact this
      have hxe : u = invX n a 0 1 := by have := hinv.out; rw [hs0, invX_end] at this; exact this
      have hiv := HIV.out
      rw [← hxe] at hiv
      have t1 : ((r : Int) != 1) = false := by rw [hgr]; rfl
      clear hgcd hinv hs0 hgr hxe
      rcases hiv with ⟨h1, h3⟩ | ⟨h1, h3⟩
      · have h5 : (u + (n : Int)) % 4294967296 = (x : Int) := by omega
        go_wp2
        go_ret2
        exact ⟨rfl, (Below.refl _ _).alloc (Nat.le_refl _) _⟩
      · have h5 : u % 4294967296 = (x : Int) := by omega
        go_wp2
        go_ret2
        exact ⟨rfl, (Below.refl _ _).alloc (Nat.le_refl _) _⟩
    · have t0 : ((s : Int) != 0) = true := by rw [bne_iff_ne]; omega
      obtain ⟨k, hk⟩ : ∃ k, k = r / s := ⟨_, rfl⟩
      obtain ⟨t, ht⟩ : ∃ t, t = r % s := ⟨_, rfl⟩
      have hkr : k ≤ r := by rw [hk]; exact Nat.div_le_self _ _
      have hts : t < s := by rw [ht]; exact Nat.mod_lt _ (by omega)
      have hdm : s * k + t = r := by rw [hk, ht]; exact Nat.div_add_mod r s
      obtain ⟨ks, hks⟩ : ∃ ks, ks = k * s := ⟨_, rfl⟩
      have e0 : (r : Int) / (s : Int) = (k : Int) := by rw [hk]; simp
      have e1 : (k : Int) * (s : Int) = (ks : Int) := by rw [hks]; simp
      have e2 : (r : Int) - (ks : Int) = (t : Int) := by rw [hks, Nat.mul_comm]; omega
      have hks2 : ks ≤ r := by rw [hks, Nat.mul_comm]; omega
      have HK := Lib.hid hk
      have HT := Lib.hid ht
      have hs1 : 0 < s := by omega
      clear hk ht hks hdm hs0
      go_wp2
      refine ⟨⟨s, t, y, _, hs, by omega, rfl, rfl, rfl, rfl, ?_, ?_⟩, by simp [intOf]; omega⟩
      · show Nat.gcd s t = _
        rw [← hgcd.out, HT.out, Nat.gcd_comm s, ← Nat.gcd_rec, Nat.gcd_comm]
      · show invX s t y _ = _
        rw [← hinv.out, invX_step r s u y (by omega), HT.out, HK.out]
end Go.Proofs.Ytkjlfjnncdkmlaa

/- Walks: the reference's calculation with residues, in range. -/

/- Walks: powers; strong tests; whether a number is a prime. -/
namespace Go.Proofs.Ytkjlfjnncdkmlaa
set_option linter.all false
open Go.RowKit Go.Shelf PN
def PwSt (a E n x e o : Nat) : Prop := x < n ∧ o < n ∧ o * x ^ e % n = a ^ E % n
theorem PwSt.start {a E n : Nat} (ha : a < n) (hn : 2 ≤ n) : PwSt a E n a E 1 := ⟨ha, by omega, by rw [Nat.one_mul]⟩
theorem PwSt.even {a E n x e o : Nat} (h : PwSt a E n x e o) (he : e % 2 = 0) : PwSt a E n (x * x % n) (e / 2) o := by
  obtain ⟨h1, h2, h3⟩ := h
  refine ⟨Nat.mod_lt _ (by omega), h2, ?_⟩
  rw [← h3, Nat.mul_mod, ← Nat.pow_mod, ← Nat.mul_mod, ← Nat.pow_two, ← Nat.pow_mul]
  congr 3; omega
theorem PwSt.odd {a E n x e o : Nat} (h : PwSt a E n x e o) (he : e % 2 = 1) : PwSt a E n (x * x % n) (e / 2) (o * x % n) := by
  obtain ⟨h1, h2, h3⟩ := h
  refine ⟨Nat.mod_lt _ (by omega), Nat.mod_lt _ (by omega), ?_⟩
  rw [← h3, Nat.mul_mod, ← Nat.pow_mod, Nat.mod_mod, ← Nat.mul_mod, ← Nat.pow_two, ← Nat.pow_mul, Nat.mul_assoc, ← Nat.pow_succ']
  congr 3; omega
theorem PwSt.fin {a E n x o : Nat} (h : PwSt a E n x 0 o) : o = a ^ E % n := by
  obtain ⟨h1, h2, h3⟩ := h
  rw [Nat.pow_zero, Nat.mul_one, Nat.mod_eq_of_lt h2] at h3
  exact h3
theorem and1_64 (y : Nat) (hy : y < 18446744073709551616) : bits .and .u64 (y : Int) 1 = ((y % 2 : Nat) : Int) := by
  show IntKind.u64.wrap ((BitVec.ofInt 64 _ &&& BitVec.ofInt 64 _).toNat : Int) = _
  rw [BitVec.ofInt_natCast, show (1 : Int) = ((1 : Nat) : Int) by rfl, BitVec.ofInt_natCast, BitVec.toNat_and, BitVec.toNat_ofNat, BitVec.toNat_ofNat, Nat.mod_eq_of_lt (by omega), Nat.mod_eq_of_lt (by omega), Nat.and_one_is_mod, IntKind.wrap_u64]
  omega
theorem and1_32 (y : Nat) (hy : y < 4294967296) : bits .and .u32 (y : Int) 1 = ((y % 2 : Nat) : Int) := by
  show IntKind.u32.wrap ((BitVec.ofInt 32 _ &&& BitVec.ofInt 32 _).toNat : Int) = _
  rw [BitVec.ofInt_natCast, show (1 : Int) = ((1 : Nat) : Int) by rfl, BitVec.ofInt_natCast, BitVec.toNat_and, BitVec.toNat_ofNat, BitVec.toNat_ofNat, Nat.mod_eq_of_lt (by omega), Nat.mod_eq_of_lt (by omega), Nat.and_one_is_mod, IntKind.wrap_u32]
  omega
set_option maxHeartbeats 2000000 in
theorem prod1_any (a b n p : Nat) (ha : a < 4294967296) (hb : b < 4294967296) (h0 : 0 < n) (hn : n < 4294967296) (w : World) (hp : w.cell? ⟨p, 0, none⟩ = some (.int .u64 (n : Int))) :
    Calls Try.prog 127 #[.int .u32 (a : Int), .int .u32 (b : Int), .pointer (some ⟨p, 0, none⟩)] w fun e w' => e = .returned (.int .u32 ((a * b % n : Nat) : Int)) ∧ w = w' := by
  have hm := Nat.mod_lt (a * b) h0
  have hab : a * b ≤ 4294967295 * 4294967295 := Nat.mul_le_mul (by omega) (by omega)
  obtain ⟨m, em⟩ : ∃ m, m = a * b := ⟨_, rfl⟩
  have e1 : IntKind.u64.wrap ((a : Int) * (b : Int)) = (m : Int) := by
    rw [show ((a : Int) * (b : Int)) = (m : Int) by rw [em]; simp, IntKind.wrap_u64]; omega
  rw [← em] at hm hab ⊢
  obtain ⟨x, ex⟩ : ∃ x, x = m % n := ⟨_, rfl⟩
  have e2 : (m : Int) % (n : Int) = (x : Int) := by rw [ex]; simp
  have e4 : ((n : Int) == 0) = false := by rw [beq_eq_false_iff_ne]; omega
  rw [← ex] at hm ⊢
  have e5 : (x : Int) % 4294967296 = (x : Int) := by omega
  clear em ex
  go_enter Try.func127, Try.ntmps127
  go_wp2
  go_ret
  exact ⟨rfl, rfl⟩
set_option maxHeartbeats 2000000 in
theorem product_any (n : Nat) (hn : n < 4294967296) (w : World) :
    Calls Try.prog 114 #[.int .u32 (n : Int)] w fun e w' => e = .returned (.func (.func 127) #[] #[.pointer (some ⟨w.heap.size, 0, none⟩)]) ∧ w' = w.alloc (.cells #[.int .u64 (n : Int)] 66) := by
  go_enter Try.func114, Try.ntmps114
  go_wp2
  go_ret
  exact ⟨rfl, rfl⟩
set_option maxHeartbeats 4000000 in
theorem power_any (a E n : Nat) (ha : a < n) (h2 : 2 ≤ n) (hn : n < 4294967296) (hE : E < 18446744073709551616) (w : World) :
    Calls Try.prog 101 #[.int .u32 (a : Int), .int .u64 (E : Int), .int .u32 (n : Int)] w fun e w' => e = .returned (.int .u32 ((a ^ E % n : Nat) : Int)) ∧ Below w.heap.size w w' := by
  obtain ⟨R, hR⟩ : ∃ R, R = a ^ E % n := ⟨_, rfl⟩
  rw [← hR]
  have HR := Lib.hid hR
  have HP := Lib.hid (fun W => product_any n hn W)
  have HT : Hid (∀ (x y : Nat) (W : World), x < n → y < n → W.cell? ⟨w.heap.size, 0, none⟩ = some (.int .u64 (n : Int)) → Calls Try.prog 127 #[.int .u32 (x : Int), .int .u32 (y : Int), .pointer (some ⟨w.heap.size, 0, none⟩)] W fun e w' => e = .returned (.int .u32 ((x * y % n : Nat) : Int)) ∧ W = w') :=
    fun x y W hx hy hc => prod1_any x y n _ (by omega) (by omega) (by omega) hn W hc
  clear hR
  go_enter Try.func101, Try.ntmps101
  go_wp2_with fail
  (with_reducible refine (HP.out _).mono ?_)
  rintro e w1 ⟨rfl, rfl⟩
  have hc : (w.alloc (.cells #[.int .u64 (n : Int)] 66)).cell? ⟨w.heap.size, 0, none⟩ = some (.int .u64 (n : Int)) := by rw [cell_of_row _ _ 0 _ _ (0, 0) (heap_alloc_new w _)]; rfl
  have hb : Below w.heap.size w (w.alloc (.cells #[.int .u64 (n : Int)] 66)) := (Below.refl _ _).alloc (Nat.le_refl _) _
  generalize w.alloc (.cells #[.int .u64 (n : Int)] 66) = W at hc hb ⊢
  have HC := Lib.hid hc
  have HB := Lib.hid hb
  clear hc hb
  go_wp2_with fail
  go_loop [0, 1, 8] (fun xv ev ov => ∃ x e o : Nat, xv = .int .u32 (x : Int) ∧ ev = .int .u64 (e : Int) ∧ ov = .int .u32 (o : Int) ∧ e < 18446744073709551616 ∧ Hid (PwSt a E n x e o)) (fun _ ev _ => (intOf ev).toNat)
  case atStart => exact ⟨a, E, 1, rfl, rfl, rfl, hE, PwSt.start ha h2⟩
  case round =>
    obtain ⟨x, e, o, rfl, rfl, rfl, he, hS⟩ := hrel
    by_cases h0 : e = 0
    · subst h0
      have hro := hS.out.fin
      rw [← HR.out] at hro
      subst hro
      go_wp2
      go_ret
      exact ⟨rfl, HB.out⟩
    · have hpos : (0 : Int) < (e : Int) := by omega
      have hand := and1_64 e he
      have hx : x < n := hS.out.1
      have ho : o < n := hS.out.2.1
      have HTx := Lib.hid (HT.out x x W hx hx HC.out)
      have HTo := Lib.hid (HT.out o x W ho hx HC.out)
      obtain ⟨x2, ex2⟩ : ∃ z, z = x * x % n := ⟨_, rfl⟩
      obtain ⟨o2, eo2⟩ : ∃ z, z = o * x % n := ⟨_, rfl⟩
      obtain ⟨h, eh⟩ : ∃ z, z = e / 2 := ⟨_, rfl⟩
      have hh : (e : Int) / 2 = (h : Int) := by omega
      have hhlt : h < e := by omega
      rcases Nat.mod_two_eq_zero_or_one e with hpar | hpar
      · have HN := Lib.hid (hS.out.even hpar)
        rw [hpar] at hand
        rw [← ex2, ← eh] at HN
        rw [← ex2] at HTx
        clear hS eh ex2 eo2 HTo hpar h0
        go_wp2_with fail
        (with_reducible refine (HTx.out).mono ?_)
        rintro ee w1 ⟨rfl, rfl⟩
        go_wp2
        go_round
        case rel => exact ⟨x2, h, o, rfl, rfl, rfl, by omega, HN.out⟩
        case measure => simp [intOf]; omega
      · have HN := Lib.hid (hS.out.odd hpar)
        rw [hpar] at hand
        rw [← ex2, ← eh, ← eo2] at HN
        rw [← ex2] at HTx
        rw [← eo2] at HTo
        clear hS eh ex2 eo2 hpar h0
        go_wp2_with fail
        (with_reducible refine (HTo.out).mono ?_)
        rintro ee w1 ⟨rfl, rfl⟩
        go_wp2_with fail
        (with_reducible refine (HTx.out).mono ?_)
        rintro ee w1 ⟨rfl, rfl⟩
        go_wp2
        go_round
        case rel => exact ⟨x2, h, o2, rfl, rfl, rfl, by omega, HN.out⟩
        case measure => simp [intOf]; omega
end Go.Proofs.Ytkjlfjnncdkmlaa

/- Walks: strong tests; whether a number is a prime. -/
namespace Go.Proofs.Ytkjlfjnncdkmlaa
set_option linter.all false
open Go.RowKit Go.Shelf PN
theorem odd_unique : ∀ (k s d e : Nat), d * 2 ^ k = e * 2 ^ s → d % 2 = 1 → e % 2 = 1 → d = e ∧ k = s
  | 0, 0, d, e, h, _, _ => by simp at h; exact ⟨h, rfl⟩
  | 0, s + 1, d, e, h, h1, _ => by
    rw [Nat.pow_zero, Nat.mul_one, Nat.pow_succ, ← Nat.mul_assoc] at h
    omega
  | k + 1, 0, d, e, h, _, h2 => by
    rw [Nat.pow_zero, Nat.mul_one, Nat.pow_succ, ← Nat.mul_assoc] at h
    omega
  | k + 1, s + 1, d, e, h, h1, h2 => by
    rw [Nat.pow_succ, Nat.pow_succ, ← Nat.mul_assoc, ← Nat.mul_assoc] at h
    obtain ⟨h3, h4⟩ := odd_unique k s d e (by omega) h1 h2
    exact ⟨h3, by omega⟩
theorem Sp_iff {a n d k : Nat} (h : n - 1 = d * 2 ^ k) (hd : d % 2 = 1) : Sp a n ↔ (a ^ d % n = 1 ∨ ∃ r, r < k ∧ a ^ (d * 2 ^ r) % n = n - 1) := by
  constructor
  · rintro ⟨d', s, h1, h2, h3⟩
    obtain ⟨rfl, rfl⟩ := odd_unique k s d d' (by rw [← h, h1]) hd h2
    exact h3
  · intro h3
    exact ⟨d, k, h, hd, h3⟩
theorem sq_pow (a d r n : Nat) : a ^ (d * 2 ^ r) % n * (a ^ (d * 2 ^ r) % n) % n = a ^ (d * 2 ^ (r + 1)) % n := by
  rw [← Nat.mul_mod, ← Nat.pow_add, Nat.pow_succ, ← Nat.mul_assoc]
  congr 2; omega
theorem em_bool (P : Prop) : ∃ b : Bool, b = true ↔ P := by
  rcases Classical.em P with h | h
  · exact ⟨true, fun _ => h, fun _ => rfl⟩
  · exact ⟨false, fun h2 => (by cases h2), fun h2 => absurd h2 h⟩
set_option maxHeartbeats 4000000 in
theorem passes_any (a n : Nat) (ha : a < 4294967296) (h2 : 2 < n) (ho : n % 2 = 1) (hn : n < 4294967296) (b : Bool) (hb : b = true ↔ Sp a n) (w : World) :
    Calls Try.prog 84 #[.int .u32 (a : Int), .int .u32 (n : Int)] w fun e w' => e = .returned (.bool b) ∧ Below w.heap.size w w' := by
  have HB := Lib.hid hb
  obtain ⟨a1, ea1⟩ : ∃ z, z = a % n := ⟨_, rfl⟩
  have ha1 : a1 < n := by rw [ea1]; exact Nat.mod_lt _ (by omega)
  have HA1 := Lib.hid ea1
  have hm : (a : Int) % (n : Int) = (a1 : Int) := by rw [ea1]; simp
  have hn0 : ((n : Int) == 0) = false := by rw [beq_eq_false_iff_ne]; omega
  obtain ⟨m, em⟩ : ∃ m, m = n - 1 := ⟨_, rfl⟩
  have em1 : (n : Int) - 1 = (m : Int) := by omega
  have HM : Hid (m = n - 1) := em
  have hmlt : m < 4294967296 := by omega
  have hm2 : 2 ≤ m := by omega
  clear hb ea1 em
  go_enter Try.func84, Try.ntmps84
  go_wp2_with fail
  go_loop [5, 6] (fun dv kv => ∃ d k : Nat, dv = .int .u32 (d : Int) ∧ kv = .int .i64 (k : Int) ∧ 0 < d ∧ d < 4294967296 ∧ k ≤ 4294967296 - d ∧ Hid (m = d * 2 ^ k)) (fun dv _ => (intOf dv).toNat)
  case atStart => exact ⟨m, 0, rfl, rfl, by omega, hmlt, by omega, by show _ = _; simp⟩
  case round =>
    obtain ⟨d, k, rfl, rfl, hd0, hdl, hk, hS⟩ := hrel
    have hand := and1_32 d hdl
    rcases Nat.mod_two_eq_zero_or_one d with hpar | hpar
    · rw [hpar] at hand
      obtain ⟨h, eh⟩ : ∃ z, z = d / 2 := ⟨_, rfl⟩
      have hh : (d : Int) / 2 = (h : Int) := by omega
      have hS2 : Hid (m = h * 2 ^ (k + 1)) := by
        show _ = _
        rw [hS.out, Nat.pow_succ', ← Nat.mul_assoc]
        congr 1; omega
      have hh0 : 0 < h := by omega
      have hhd : h < d := by omega
      clear eh hS hpar
      go_wp2_with fail
      go_round
      case rel => exact ⟨h, k + 1, rfl, by go_num, hh0, by omega, by omega, hS2.out⟩
      case measure => simp [intOf]; omega
    · rw [hpar] at hand
      have hiff := Sp_iff (a := a) (n := n) (d := d) (k := k) (by rw [← HM.out]; exact hS.out) hpar
      have HIFF := Lib.hid hiff
      have hk1 : 1 ≤ k := by
        rcases Nat.eq_zero_or_pos k with h | h
        · have h3 := hS.out
          rw [h, Nat.pow_zero, Nat.mul_one] at h3
          have := HM.out
          omega
        · exact h
      have hpw : ∀ r, a1 ^ r % n = a ^ r % n := fun r => by rw [HA1.out, ← Nat.pow_mod]
      have hpow := fun W => power_any a1 d n ha1 (by omega) hn (by omega) W
      rw [hpw] at hpow
      obtain ⟨x, ex⟩ : ∃ x, x = a ^ d % n := ⟨_, rfl⟩
      have hxn : x < n := by rw [ex]; exact Nat.mod_lt _ (by omega)
      have hpow2 : ∀ W : World, Calls Try.prog 101 #[.int .u32 (a1 : Int), .int .u64 (d : Int), .int .u32 (n : Int)] W fun e w' => e = .returned (.int .u32 (x : Int)) ∧ Below W.heap.size W w' := fun W => by rw [ex]; exact hpow W
      have HPW := Lib.hid hpow2
      have HX := Lib.hid ex
      clear hpow hpow2 hpw ex hiff hpar
      have hmd : ¬ (n : Int) = 0 := by omega
      go_wp2_with fail
      (with_reducible refine (HPW.out _).mono ?_)
      rintro e w1 ⟨rfl, hb1⟩
      have HB1 := Lib.hid hb1
      clear hb1
      by_cases hx1 : x = 1
      · obtain rfl : b = true := HB.out.2 (HIFF.out.2 (Or.inl (by rw [← HX.out]; exact hx1)))
        have t1 : ((x : Int) == 1) = true := by rw [beq_iff_eq]; omega
        clear hx1
        go_wp2
        go_ret
        exact ⟨rfl, HB1.out⟩
      · have t1 : ((x : Int) == 1) = false := by rw [beq_eq_false_iff_ne]; omega
        by_cases hxm : x = m
        · obtain rfl : b = true := HB.out.2 (HIFF.out.2 (Or.inr ⟨0, hk1, by rw [Nat.pow_zero, Nat.mul_one, ← HX.out, ← HM.out]; exact hxm⟩))
          have t2 : ((x : Int) == (m : Int)) = true := by rw [beq_iff_eq]; omega
          clear hxm
          go_wp2
          go_ret
          exact ⟨rfl, HB1.out⟩
        · have t2 : ((x : Int) == (m : Int)) = false := by rw [beq_eq_false_iff_ne]; omega
          have HNX : Hid (¬ a ^ d % n = 1) := by show ¬ _; rw [← HX.out]; exact hx1
          have HST : Hid (∀ r, r ≤ 0 → ¬ a ^ (d * 2 ^ r) % n = n - 1) := fun r hr => by
            obtain rfl : r = 0 := by omega
            rw [Nat.pow_zero, Nat.mul_one, ← HX.out, ← HM.out]; exact hxm
          have HX0 : Hid (x = a ^ (d * 2 ^ 0) % n) := by show _ = _; rw [Nat.pow_zero, Nat.mul_one]; exact HX.out
          clear hx1 hxm
          go_wp2_with fail
          go_loop [7, 34] (fun xv iv => ∃ x r : Nat, xv = .int .u32 (x : Int) ∧ iv = .int .i64 (r : Int) ∧ r + 1 ≤ k ∧ x < n ∧ Hid (x = a ^ (d * 2 ^ r) % n) ∧ Hid (∀ r', r' ≤ r → ¬ a ^ (d * 2 ^ r') % n = n - 1)) (fun _ iv => k - (intOf iv).toNat)
          case atStart => exact ⟨x, 0, rfl, rfl, hk1, hxn, HX0.out, HST.out⟩
          case round =>
            obtain ⟨x, r, rfl, rfl, hr, hxn, hX, hno⟩ := hrel
            by_cases hlt : r + 1 < k
            · have hlt' : (r : Int) < (k : Int) - 1 := by omega
              have hm := Nat.mod_lt (x * x) (show 0 < n by omega)
              have hab : x * x ≤ 4294967295 * 4294967295 := Nat.mul_le_mul (by omega) (by omega)
              have HY : Hid (x * x % n = a ^ (d * 2 ^ (r + 1)) % n) := by show _ = _; rw [hX.out]; exact sq_pow a d r n
              obtain ⟨q, eq⟩ : ∃ m, m = x * x := ⟨_, rfl⟩
              have e1 : IntKind.u64.wrap ((x : Int) * (x : Int)) = (q : Int) := by
                rw [show ((x : Int) * (x : Int)) = (q : Int) by rw [eq]; simp, IntKind.wrap_u64]; omega
              rw [← eq] at hm hab HY
              obtain ⟨y, ey⟩ : ∃ x, x = q % n := ⟨_, rfl⟩
              have e2 : (q : Int) % (n : Int) = (y : Int) := by rw [ey]; simp
              rw [← ey] at hm HY
              have e5 : (y : Int) % 4294967296 = (y : Int) := by omega
              clear eq ey hX
              by_cases hym : y = m
              · obtain rfl : b = true := HB.out.2 (HIFF.out.2 (Or.inr ⟨r + 1, hlt, by rw [← HY.out, ← HM.out]; exact hym⟩))
                have t3 : ((y : Int) == (m : Int)) = true := by rw [beq_iff_eq]; omega
                clear hym
                go_wp2
                go_ret
                exact ⟨rfl, HB1.out⟩
              · have t3 : ((y : Int) == (m : Int)) = false := by rw [beq_eq_false_iff_ne]; omega
                have HNO2 : Hid (∀ r', r' ≤ r + 1 → ¬ a ^ (d * 2 ^ r') % n = n - 1) := fun r' hr' => by
                  rcases (show r' ≤ r ∨ r' = r + 1 by omega) with h | h
                  · exact hno.out r' h
                  · rw [h, ← HY.out, ← HM.out]; exact hym
                clear hym hno
                go_wp2_with fail
                go_round
                case rel => exact ⟨y, r + 1, rfl, by go_num, by omega, hm, HY.out, HNO2.out⟩
                case measure => simp [intOf]; omega
            · have hlt' : ¬ (r : Int) < (k : Int) - 1 := by omega
              obtain rfl : b = false := by
                cases hb3 : b
                · rfl
                · rcases HIFF.out.1 (HB.out.1 hb3) with h | ⟨r', h3, h4⟩
                  · exact absurd h HNX.out
                  · exact absurd h4 (hno.out r' (by omega))
              clear hno hX
              go_wp2
              go_ret
              exact ⟨rfl, HB1.out⟩
end Go.Proofs.Ytkjlfjnncdkmlaa

/- Walks: the reference's strong test; whether a number is a prime. -/
namespace Go.Proofs.Ytkjlfjnncdkmlaa
set_option linter.all false
open Go.RowKit Go.Shelf PN
def sml : List Nat := [2, 3, 5, 7, 11, 13, 61]
def PrimeP (n : Nat) : Prop := 2 ≤ n ∧ (n ∈ sml ∨ ((∀ p ∈ sml, ¬ p ∣ n) ∧ Ps n))
theorem sml_sp : ∀ p ∈ sml, p ∈ sp := by decide
theorem PrimeP.pr {n : Nat} (h : PrimeP n) (hn : n < 2147483648) : Pr n := by
  obtain ⟨h2, h3 | ⟨h3, h4⟩⟩ := h
  · exact sp_pr (sml_sp n h3)
  · refine exact (by omega) hn ?_ ?_ ?_ h4
    · have := h3 2 (by simp [sml]); omega
    · exact fun h => h3 7 (by simp [sml]) (Nat.dvd_of_mod_eq_zero h)
    · exact fun h => h3 61 (by simp [sml]) (Nat.dvd_of_mod_eq_zero h)
theorem sp_of (a n d s : Nat) (h : (Nat.beq (n - 1) (d * 2 ^ s) && Nat.beq (d % 2) 1 && (Nat.beq (a ^ d % n) 1 || (List.range s).any fun r => Nat.beq (a ^ (d * 2 ^ r) % n) (n - 1))) = true) : Sp a n := by
  rw [Bool.and_eq_true, Bool.and_eq_true, Bool.or_eq_true] at h
  obtain ⟨⟨h1, h2⟩, h3⟩ := h
  refine ⟨d, s, beqN.1 h1, beqN.1 h2, ?_⟩
  rcases h3 with h3 | h3
  · exact Or.inl (beqN.1 h3)
  · rw [List.any_eq_true] at h3
    obtain ⟨r, hr, h4⟩ := h3
    exact Or.inr ⟨r, by simpa using hr, beqN.1 h4⟩
end Go.Proofs.Ytkjlfjnncdkmlaa

/- Walks: whether a number is a prime, by the program and by the reference. -/
namespace Go.Proofs.Ytkjlfjnncdkmlaa
set_option linter.all false
open Go.RowKit Go.Shelf PN
theorem sml_eq {p n : Nat} (hp : p ∈ sml) (h2 : 2 ≤ n) (hd : p ∣ n) : PrimeP n ↔ n = p := by
  constructor
  · rintro ⟨_, h3 | ⟨h3, _⟩⟩
    · exact ((sp_pr (sml_sp p hp)).eq_of_dvd (sp_pr (sml_sp n h3)) hd).symm
    · exact absurd hd (h3 p hp)
  · rintro rfl
    exact ⟨h2, Or.inl hp⟩
theorem no_div (n : Nat) : (∀ j, j < 7 → ∀ p, sml[j]? = some p → ¬ p ∣ n) → ∀ p ∈ sml, ¬ p ∣ n := by
  intro h p hp
  obtain ⟨j, hj, rfl⟩ := List.mem_iff_getElem.1 hp
  exact h j (by simpa [sml] using hj) _ (List.getElem?_eq_getElem hj)
theorem no_div_succ {n k q : Nat} (h : ∀ j, j < k → ∀ p, sml[j]? = some p → ¬ p ∣ n) (hq : sml[k]? = some q) (hd : ¬ q ∣ n) : ∀ j, j < k + 1 → ∀ p, sml[j]? = some p → ¬ p ∣ n := by
  intro j hj p hp
  rcases (show j < k ∨ j = k by omega) with h1 | rfl
  · exact h j h1 p hp
  · rw [hq] at hp
    injection hp with hp
    rw [← hp]; exact hd
theorem prime_ps {n : Nat} (h2 : 2 ≤ n) (h : ∀ p ∈ sml, ¬ p ∣ n) : PrimeP n ↔ Ps n := by
  constructor
  · rintro ⟨_, h3 | ⟨_, h4⟩⟩
    · exact absurd (Nat.dvd_refl n) (h n h3)
    · exact h4
  · exact fun h4 => ⟨h2, Or.inr ⟨h, h4⟩⟩
set_option maxRecDepth 100000 in
set_option maxHeartbeats 8000000 in
theorem Prime_any (n : Nat) (hn : n < 4294967296) (b : Bool) (hb : b = true ↔ PrimeP n) (w : World) :
    Calls Try.prog 49 #[.int .u32 (n : Int)] w fun e w' => e = .returned (.bool b) ∧ Below w.heap.size w w' := by
  have HB := Lib.hid hb
  clear hb
  by_cases h2 : 2 ≤ n
  · have h2' : ¬ (n : Int) < 2 := by omega
    obtain ⟨b2, hb2⟩ := em_bool (Sp 2 n)
    obtain ⟨b7, hb7⟩ := em_bool (Sp 7 n)
    obtain ⟨b61, hb61⟩ := em_bool (Sp 61 n)
    have HB2 := Lib.hid hb2
    have HB7 := Lib.hid hb7
    have HB61 := Lib.hid hb61
    clear hb2 hb7 hb61
    have i70 : ∀ w, (Instr.index 96 (.agg #[.int .u32 2, .int .u32 3, .int .u32 5, .int .u32 7, .int .u32 11, .int .u32 13, .int .u32 61]) (.int .i64 0)).run Try.prog w = .ok (.int .u32 2) w := fun _ => by kernel_rfl
    have i71 : ∀ w, (Instr.index 96 (.agg #[.int .u32 2, .int .u32 3, .int .u32 5, .int .u32 7, .int .u32 11, .int .u32 13, .int .u32 61]) (.int .i64 1)).run Try.prog w = .ok (.int .u32 3) w := fun _ => by kernel_rfl
    have i72 : ∀ w, (Instr.index 96 (.agg #[.int .u32 2, .int .u32 3, .int .u32 5, .int .u32 7, .int .u32 11, .int .u32 13, .int .u32 61]) (.int .i64 2)).run Try.prog w = .ok (.int .u32 5) w := fun _ => by kernel_rfl
    have i73 : ∀ w, (Instr.index 96 (.agg #[.int .u32 2, .int .u32 3, .int .u32 5, .int .u32 7, .int .u32 11, .int .u32 13, .int .u32 61]) (.int .i64 3)).run Try.prog w = .ok (.int .u32 7) w := fun _ => by kernel_rfl
    have i74 : ∀ w, (Instr.index 96 (.agg #[.int .u32 2, .int .u32 3, .int .u32 5, .int .u32 7, .int .u32 11, .int .u32 13, .int .u32 61]) (.int .i64 4)).run Try.prog w = .ok (.int .u32 11) w := fun _ => by kernel_rfl
    have i75 : ∀ w, (Instr.index 96 (.agg #[.int .u32 2, .int .u32 3, .int .u32 5, .int .u32 7, .int .u32 11, .int .u32 13, .int .u32 61]) (.int .i64 5)).run Try.prog w = .ok (.int .u32 13) w := fun _ => by kernel_rfl
    have i76 : ∀ w, (Instr.index 96 (.agg #[.int .u32 2, .int .u32 3, .int .u32 5, .int .u32 7, .int .u32 11, .int .u32 13, .int .u32 61]) (.int .i64 6)).run Try.prog w = .ok (.int .u32 61) w := fun _ => by kernel_rfl
    have i30 : ∀ w, (Instr.index 97 (.agg #[.int .u32 2, .int .u32 7, .int .u32 61]) (.int .i64 0)).run Try.prog w = .ok (.int .u32 2) w := fun _ => by kernel_rfl
    have i31 : ∀ w, (Instr.index 97 (.agg #[.int .u32 2, .int .u32 7, .int .u32 61]) (.int .i64 1)).run Try.prog w = .ok (.int .u32 7) w := fun _ => by kernel_rfl
    have i32 : ∀ w, (Instr.index 97 (.agg #[.int .u32 2, .int .u32 7, .int .u32 61]) (.int .i64 2)).run Try.prog w = .ok (.int .u32 61) w := fun _ => by kernel_rfl
    go_enter Try.func49, Try.ntmps49
    go_wp2_with fail
    go_loop [10] (fun iv => ∃ k : Nat, iv = .int .i64 (k : Int) ∧ k ≤ 7 ∧ Hid (∀ j, j < k → ∀ p, sml[j]? = some p → ¬ p ∣ n)) (fun iv => 7 - (intOf iv).toNat)
    case atStart => exact ⟨0, rfl, by omega, fun j hj => by omega⟩
    case round =>
      obtain ⟨k, rfl, hk, hno⟩ := hrel
      rcases (show k = 0 ∨ k = 1 ∨ k = 2 ∨ k = 3 ∨ k = 4 ∨ k = 5 ∨ k = 6 ∨ k = 7 by omega) with rfl | rfl | rfl | rfl | rfl | rfl | rfl | rfl
      · by_cases hd : 2 ∣ n
        · have e1 : (n : Int) % 2 = 0 := by omega
          have hiff := sml_eq (p := 2) (n := n) (by simp [sml]) h2 hd
          clear hno hd
          by_cases hp : n = 2
          · obtain rfl : b = true := HB.out.2 (hiff.2 hp)
            have e2 : ((n : Int) == 2) = true := by rw [beq_iff_eq]; omega
            clear hp hiff
            go_wp2
            go_ret
            exact ⟨rfl, Below.refl _ _⟩
          · obtain rfl : b = false := by
              cases h : b
              · rfl
              · exact absurd (hiff.1 (HB.out.1 h)) hp
            have e2 : ((n : Int) == 2) = false := by rw [beq_eq_false_iff_ne]; omega
            clear hp hiff
            go_wp2
            go_ret
            exact ⟨rfl, Below.refl _ _⟩
        · have e1 : ((n : Int) % 2 == 0) = false := by rw [beq_eq_false_iff_ne]; omega
          have HNO := Lib.hid (no_div_succ hno.out (q := 2) rfl hd)
          clear hno hd
          go_wp2_with fail
          go_round
          case rel => exact ⟨1, rfl, by omega, HNO.out⟩
          case measure => simp [intOf]
      · by_cases hd : 3 ∣ n
        · have e1 : (n : Int) % 3 = 0 := by omega
          have hiff := sml_eq (p := 3) (n := n) (by simp [sml]) h2 hd
          clear hno hd
          by_cases hp : n = 3
          · obtain rfl : b = true := HB.out.2 (hiff.2 hp)
            have e2 : ((n : Int) == 3) = true := by rw [beq_iff_eq]; omega
            clear hp hiff
            go_wp2
            go_ret
            exact ⟨rfl, Below.refl _ _⟩
          · obtain rfl : b = false := by
              cases h : b
              · rfl
              · exact absurd (hiff.1 (HB.out.1 h)) hp
            have e2 : ((n : Int) == 3) = false := by rw [beq_eq_false_iff_ne]; omega
            clear hp hiff
            go_wp2
            go_ret
            exact ⟨rfl, Below.refl _ _⟩
        · have e1 : ((n : Int) % 3 == 0) = false := by rw [beq_eq_false_iff_ne]; omega
          have HNO := Lib.hid (no_div_succ hno.out (q := 3) rfl hd)
          clear hno hd
          go_wp2_with fail
          go_round
          case rel => exact ⟨2, rfl, by omega, HNO.out⟩
          case measure => simp [intOf]
      · by_cases hd : 5 ∣ n
        · have e1 : (n : Int) % 5 = 0 := by omega
          have hiff := sml_eq (p := 5) (n := n) (by simp [sml]) h2 hd
          clear hno hd
          by_cases hp : n = 5
          · obtain rfl : b = true := HB.out.2 (hiff.2 hp)
            have e2 : ((n : Int) == 5) = true := by rw [beq_iff_eq]; omega
            clear hp hiff
            go_wp2
            go_ret
            exact ⟨rfl, Below.refl _ _⟩
          · obtain rfl : b = false := by
              cases h : b
              · rfl
              · exact absurd (hiff.1 (HB.out.1 h)) hp
            have e2 : ((n : Int) == 5) = false := by rw [beq_eq_false_iff_ne]; omega
            clear hp hiff
            go_wp2
            go_ret
            exact ⟨rfl, Below.refl _ _⟩
        · have e1 : ((n : Int) % 5 == 0) = false := by rw [beq_eq_false_iff_ne]; omega
          have HNO := Lib.hid (no_div_succ hno.out (q := 5) rfl hd)
          clear hno hd
          go_wp2_with fail
          go_round
          case rel => exact ⟨3, rfl, by omega, HNO.out⟩
          case measure => simp [intOf]
      · by_cases hd : 7 ∣ n
        · have e1 : (n : Int) % 7 = 0 := by omega
          have hiff := sml_eq (p := 7) (n := n) (by simp [sml]) h2 hd
          clear hno hd
          by_cases hp : n = 7
          · obtain rfl : b = true := HB.out.2 (hiff.2 hp)
            have e2 : ((n : Int) == 7) = true := by rw [beq_iff_eq]; omega
            clear hp hiff
            go_wp2
            go_ret
            exact ⟨rfl, Below.refl _ _⟩
          · obtain rfl : b = false := by
              cases h : b
              · rfl
              · exact absurd (hiff.1 (HB.out.1 h)) hp
            have e2 : ((n : Int) == 7) = false := by rw [beq_eq_false_iff_ne]; omega
            clear hp hiff
            go_wp2
            go_ret
            exact ⟨rfl, Below.refl _ _⟩
        · have e1 : ((n : Int) % 7 == 0) = false := by rw [beq_eq_false_iff_ne]; omega
          have HNO := Lib.hid (no_div_succ hno.out (q := 7) rfl hd)
          clear hno hd
          go_wp2_with fail
          go_round
          case rel => exact ⟨4, rfl, by omega, HNO.out⟩
          case measure => simp [intOf]
      · by_cases hd : 11 ∣ n
        · have e1 : (n : Int) % 11 = 0 := by omega
          have hiff := sml_eq (p := 11) (n := n) (by simp [sml]) h2 hd
          clear hno hd
          by_cases hp : n = 11
          · obtain rfl : b = true := HB.out.2 (hiff.2 hp)
            have e2 : ((n : Int) == 11) = true := by rw [beq_iff_eq]; omega
            clear hp hiff
            go_wp2
            go_ret
            exact ⟨rfl, Below.refl _ _⟩
          · obtain rfl : b = false := by
              cases h : b
              · rfl
              · exact absurd (hiff.1 (HB.out.1 h)) hp
            have e2 : ((n : Int) == 11) = false := by rw [beq_eq_false_iff_ne]; omega
            clear hp hiff
            go_wp2
            go_ret
            exact ⟨rfl, Below.refl _ _⟩
        · have e1 : ((n : Int) % 11 == 0) = false := by rw [beq_eq_false_iff_ne]; omega
          have HNO := Lib.hid (no_div_succ hno.out (q := 11) rfl hd)
          clear hno hd
          go_wp2_with fail
          go_round
          case rel => exact ⟨5, rfl, by omega, HNO.out⟩
          case measure => simp [intOf]
      · by_cases hd : 13 ∣ n
        · have e1 : (n : Int) % 13 = 0 := by omega
          have hiff := sml_eq (p := 13) (n := n) (by simp [sml]) h2 hd
          clear hno hd
          by_cases hp : n = 13
          · obtain rfl : b = true := HB.out.2 (hiff.2 hp)
            have e2 : ((n : Int) == 13) = true := by rw [beq_iff_eq]; omega
            clear hp hiff
            go_wp2
            go_ret
            exact ⟨rfl, Below.refl _ _⟩
          · obtain rfl : b = false := by
              cases h : b
              · rfl
              · exact absurd (hiff.1 (HB.out.1 h)) hp
            have e2 : ((n : Int) == 13) = false := by rw [beq_eq_false_iff_ne]; omega
            clear hp hiff
            go_wp2
            go_ret
            exact ⟨rfl, Below.refl _ _⟩
        · have e1 : ((n : Int) % 13 == 0) = false := by rw [beq_eq_false_iff_ne]; omega
          have HNO := Lib.hid (no_div_succ hno.out (q := 13) rfl hd)
          clear hno hd
          go_wp2_with fail
          go_round
          case rel => exact ⟨6, rfl, by omega, HNO.out⟩
          case measure => simp [intOf]
      · by_cases hd : 61 ∣ n
        · have e1 : (n : Int) % 61 = 0 := by omega
          have hiff := sml_eq (p := 61) (n := n) (by simp [sml]) h2 hd
          clear hno hd
          by_cases hp : n = 61
          · obtain rfl : b = true := HB.out.2 (hiff.2 hp)
            have e2 : ((n : Int) == 61) = true := by rw [beq_iff_eq]; omega
            clear hp hiff
            go_wp2
            go_ret
            exact ⟨rfl, Below.refl _ _⟩
          · obtain rfl : b = false := by
              cases h : b
              · rfl
              · exact absurd (hiff.1 (HB.out.1 h)) hp
            have e2 : ((n : Int) == 61) = false := by rw [beq_eq_false_iff_ne]; omega
            clear hp hiff
            go_wp2
            go_ret
            exact ⟨rfl, Below.refl _ _⟩
        · have e1 : ((n : Int) % 61 == 0) = false := by rw [beq_eq_false_iff_ne]; omega
          have HNO := Lib.hid (no_div_succ hno.out (q := 61) rfl hd)
          clear hno hd
          go_wp2_with fail
          go_round
          case rel => exact ⟨7, rfl, by omega, HNO.out⟩
          case measure => simp [intOf]
      · have hall := no_div n hno.out
        have hps := prime_ps h2 hall
        have HPS := Lib.hid hps
        have h3 : n % 2 = 1 := by have := hall 2 (by simp [sml]); omega
        have h4 : 2 < n := by omega
        have HC2 : Hid (∀ W : World, Calls Try.prog 84 #[.int .u32 2, .int .u32 (n : Int)] W fun e w' => e = .returned (.bool b2) ∧ Below W.heap.size W w') := fun W => passes_any 2 n (by omega) h4 h3 hn b2 HB2.out W
        have HC7 : Hid (∀ W : World, Calls Try.prog 84 #[.int .u32 7, .int .u32 (n : Int)] W fun e w' => e = .returned (.bool b7) ∧ Below W.heap.size W w') := fun W => passes_any 7 n (by omega) h4 h3 hn b7 HB7.out W
        have HC61 : Hid (∀ W : World, Calls Try.prog 84 #[.int .u32 61, .int .u32 (n : Int)] W fun e w' => e = .returned (.bool b61) ∧ Below W.heap.size W w') := fun W => passes_any 61 n (by omega) h4 h3 hn b61 HB61.out W
        have hbb : b = (b2 && (b7 && b61)) := by
          rw [Bool.eq_iff_iff, HB.out, hps]
          simp [Ps, HB2.out, HB7.out, HB61.out]
        clear hno hall hps h3 h4
        go_wp2_with fail
        go_loopw [22] (fun iv wr => ∃ k : Nat, iv = .int .i64 (k : Int) ∧ k ≤ 3 ∧ (0 < k → b2 = true) ∧ (1 < k → b7 = true) ∧ (2 < k → b61 = true) ∧ Below w.heap.size w wr) (fun iv _ => 3 - (intOf iv).toNat)
        case atStart => exact ⟨0, rfl, by omega, fun h => by omega, fun h => by omega, fun h => by omega, Below.refl _ _⟩
        case round =>
          obtain ⟨k, rfl, hk, k2, k7, k61, hbl⟩ := hrel
          have HBL := Lib.hid hbl
          clear hbl
          rcases (show k = 0 ∨ k = 1 ∨ k = 2 ∨ k = 3 by omega) with rfl | rfl | rfl | rfl
          · clear k2 k7 k61
            go_wp2_with fail
            (with_reducible refine (HC2.out _).mono ?_)
            rintro e w1 ⟨rfl, hb1⟩
            have HB1 := Lib.hid (HBL.out.trans (hb1.mono HBL.out.size))
            clear hb1
            cases hbv : b2 with
            | false =>
              obtain rfl : b = false := by rw [hbb, hbv]; simp
              clear hbb
              go_wp2
              go_ret
              exact ⟨rfl, HB1.out⟩
            | true =>
              clear hbb
              go_wp2_with fail
              go_roundw
              case rel => exact ⟨1, rfl, by omega, fun _ => hbv, fun h => by omega, fun h => by omega, HB1.out⟩
              case measure => simp [intOf]
          · have K2 := k2 (by omega)
            clear k2 k7 k61
            go_wp2_with fail
            (with_reducible refine (HC7.out _).mono ?_)
            rintro e w1 ⟨rfl, hb1⟩
            have HB1 := Lib.hid (HBL.out.trans (hb1.mono HBL.out.size))
            clear hb1
            cases hbv : b7 with
            | false =>
              obtain rfl : b = false := by rw [hbb, hbv]; simp
              clear hbb
              go_wp2
              go_ret
              exact ⟨rfl, HB1.out⟩
            | true =>
              clear hbb
              go_wp2_with fail
              go_roundw
              case rel => exact ⟨2, rfl, by omega, fun _ => K2, fun _ => hbv, fun h => by omega, HB1.out⟩
              case measure => simp [intOf]
          · have K2 := k2 (by omega)
            have K7 := k7 (by omega)
            clear k2 k7 k61
            go_wp2_with fail
            (with_reducible refine (HC61.out _).mono ?_)
            rintro e w1 ⟨rfl, hb1⟩
            have HB1 := Lib.hid (HBL.out.trans (hb1.mono HBL.out.size))
            clear hb1
            cases hbv : b61 with
            | false =>
              obtain rfl : b = false := by rw [hbb, hbv]; simp
              clear hbb
              go_wp2
              go_ret
              exact ⟨rfl, HB1.out⟩
            | true =>
              clear hbb
              go_wp2_with fail
              go_roundw
              case rel => exact ⟨3, rfl, by omega, fun _ => K2, fun _ => K7, fun _ => hbv, HB1.out⟩
              case measure => simp [intOf]
          · obtain rfl : b = true := by rw [hbb, k2 (by omega), k7 (by omega), k61 (by omega)]; rfl
            clear hbb k2 k7 k61
            go_wp2
            go_ret
            exact ⟨rfl, HBL.out⟩
  · have h2' : (n : Int) < 2 := by omega
    obtain rfl : b = false := by
      cases h : b
      · rfl
      · have := (HB.out.1 h).1; omega
    clear h2
    go_enter Try.func49, Try.ntmps49
    go_wp2
    go_ret
    exact ⟨rfl, Below.refl _ _⟩
end Go.Proofs.Ytkjlfjnncdkmlaa

/- Wide integers: helpers and walks, in one text (KC1 KC2). -/
/- Plain: systems of primes; the integer with given residues. -/
namespace Go.Proofs.Ytkjlfjnncdkmlaa
set_option linter.all false
open Go.RowKit PN
def Cg (m : Nat) (a b : Int) : Prop := (m : Int) ∣ a - b
theorem Cg.refl (m : Nat) (a : Int) : Cg m a a := ⟨0, by omega⟩
theorem Cg.symm {m : Nat} {a b : Int} (h : Cg m a b) : Cg m b a := by
  obtain ⟨c, hc⟩ := h; exact ⟨-c, by rw [Int.mul_neg]; omega⟩
theorem Cg.trans {m : Nat} {a b c : Int} (h : Cg m a b) (k : Cg m b c) : Cg m a c := by
  obtain ⟨x, hx⟩ := h; obtain ⟨y, hy⟩ := k; exact ⟨x + y, by rw [Int.mul_add]; omega⟩
theorem Cg.add {m : Nat} {a b c d : Int} (h : Cg m a b) (k : Cg m c d) : Cg m (a + c) (b + d) := by
  obtain ⟨x, hx⟩ := h; obtain ⟨y, hy⟩ := k; exact ⟨x + y, by rw [Int.mul_add]; omega⟩
theorem Cg.neg {m : Nat} {a b : Int} (h : Cg m a b) : Cg m (-a) (-b) := by
  obtain ⟨x, hx⟩ := h; exact ⟨-x, by rw [Int.mul_neg]; omega⟩
theorem Cg.sub {m : Nat} {a b c d : Int} (h : Cg m a b) (k : Cg m c d) : Cg m (a - c) (b - d) := by
  have := h.add k.neg
  rwa [← Int.sub_eq_add_neg, ← Int.sub_eq_add_neg] at this
theorem Cg.mul {m : Nat} {a b c d : Int} (h : Cg m a b) (k : Cg m c d) : Cg m (a * c) (b * d) := by
  have h1 : (m : Int) ∣ a * (c - d) := dvdM a k
  have h2 : (m : Int) ∣ d * (a - b) := dvdM d h
  have h3 := Int.dvd_add h1 h2
  unfold Cg
  rwa [show a * (c - d) + d * (a - b) = a * c - b * d by rw [Int.mul_sub, Int.mul_sub, Int.mul_comm d a, Int.mul_comm d b]; omega] at h3
theorem Cg.of_mod {m : Nat} {a : Int} : Cg m (a % m) a := by
  have := Int.mul_ediv_add_emod a m
  exact ⟨-(a / m), by rw [Int.mul_neg]; omega⟩
theorem Cg.modN {m a : Nat} : Cg m ((a % m : Nat) : Int) a := by
  rw [Int.natCast_emod]; exact Cg.of_mod
theorem Cg.zero {m : Nat} : Cg m (m : Int) 0 := ⟨1, by omega⟩
theorem Cg.eqN {m a b : Nat} (h : Cg m (a : Int) (b : Int)) (ha : a < m) (hb : b < m) : a = b := by
  obtain ⟨c, hc⟩ := h
  rcases Int.lt_or_le c 0 with h1 | h1
  · have : (m : Int) * c ≤ (m : Int) * (-1) := Int.mul_le_mul_of_nonneg_left (by omega) (by omega)
    omega
  · rcases Int.lt_or_le 0 c with h2 | h2
    · have : (m : Int) * 1 ≤ (m : Int) * c := Int.mul_le_mul_of_nonneg_left (by omega) (by omega)
      omega
    · have : c = 0 := by omega
      subst this
      omega
def invN (a n : Nat) : Nat := (invX n a 0 1 % (n : Int)).toNat
theorem invN_spec {a n : Nat} (h2 : 2 ≤ n) (hn : n < 4294967296) (ha : a < n) (hg : Nat.gcd n a = 1) : invN a n < n ∧ a * invN a n % n = 1 ∧ Cg n ((a : Int) * (invN a n : Nat)) 1 := by
  obtain ⟨u, q1, q2, q3, q4⟩ := invX_spec (m := n) (a := a) hn a a n 0 1 0 1 (Nat.le_refl _) ha (by omega) (by omega) (Or.inl ⟨rfl, rfl⟩) ⟨-1, by omega⟩ ⟨0, by omega⟩
  rw [hg] at q4
  unfold invN
  rw [q1]
  have h3 := Int.emod_nonneg u (show (n : Int) ≠ 0 by omega)
  have h4 := Int.emod_lt_of_pos u (show (0 : Int) < n by omega)
  obtain ⟨x, hx⟩ : ∃ x : Nat, x = (u % (n : Int)).toNat := ⟨_, rfl⟩
  have hx2 : (x : Int) = u % (n : Int) := by omega
  rw [← hx]
  have h5 : Cg n ((a : Int) * (x : Int)) 1 := by
    have h6 : Cg n ((x : Int) * a) (u * a) := (by rw [hx2]; exact Cg.of_mod : Cg n (x : Int) u).mul (Cg.refl n a)
    have h7 : Cg n (u * a) 1 := q4
    rw [Int.mul_comm]
    exact h6.trans h7
  refine ⟨by omega, ?_, h5⟩
  have h6 : Cg n ((a * x % n : Nat) : Int) ((1 : Nat) : Int) := Cg.modN.trans (by rw [Int.natCast_mul]; exact h5)
  exact h6.eqN (Nat.mod_lt _ (by omega)) (by omega)
/-! ### Lists of primes -/
def prodL : List Nat → Nat
  | [] => 1
  | p :: l => p * prodL l
theorem prodL_append (l m : List Nat) : prodL (l ++ m) = prodL l * prodL m := by
  induction l with
  | nil => simp [prodL]
  | cons p l ih => simp [prodL, ih, Nat.mul_assoc]
theorem prodL_snoc (l : List Nat) (p : Nat) : prodL (l ++ [p]) = prodL l * p := by rw [prodL_append]; simp [prodL]
theorem prodL_pos {l : List Nat} (h : ∀ p ∈ l, 0 < p) : 0 < prodL l := by
  induction l with
  | nil => simp [prodL]
  | cons p l ih => exact Nat.mul_pos (h p (by simp)) (ih fun q hq => h q (by simp [hq]))
theorem prodL_lt {l : List Nat} (h : ∀ p ∈ l, p < 4294967296) : prodL l ≤ 4294967296 ^ l.length := by
  induction l with
  | nil => simp [prodL]
  | cons p l ih =>
    rw [List.length_cons, Nat.pow_succ']
    exact Nat.mul_le_mul (Nat.le_of_lt (h p (by simp))) (ih fun q hq => h q (by simp [hq]))
def OkAt (l : List Nat) (p : Nat) : Prop := p % 2 = 1 ∧ p ≤ 2147483647 ∧ p ∉ l ∧ PrimeP p
def SysTo (ps : List Nat) (k : Nat) : Prop := ∀ i, i < k → ∀ p, ps[i]? = some p → OkAt (ps.take i) p
def SysP (ps : List Nat) : Prop := 1 ≤ ps.length ∧ ps.length ≤ 25 ∧ SysTo ps ps.length
def Sep (ps : List Nat) : Prop := ∀ i p, ps[i]? = some p → Pr p ∧ p % 2 = 1 ∧ p ≤ 2147483647 ∧ p ∉ ps.take i
theorem SysP.sep {ps : List Nat} (h : SysP ps) : Sep ps := by
  intro i p hp
  obtain ⟨h1, h2, h3, h4⟩ := h.2.2 i (List.getElem?_eq_some_iff.1 hp).1 p hp
  exact ⟨h4.pr (by omega), h1, h2, h3⟩
theorem Sep.take {ps : List Nat} (h : Sep ps) (k : Nat) : Sep (ps.take k) := by
  intro i p hp
  rw [List.getElem?_take] at hp
  split at hp
  · rename_i hik
    obtain ⟨h1, h2, h3, h4⟩ := h i p hp
    refine ⟨h1, h2, h3, ?_⟩
    rwa [List.take_take, Nat.min_eq_left (by omega)]
  · cases hp
theorem Sep.mem {ps : List Nat} (h : Sep ps) {p : Nat} (hp : p ∈ ps) : Pr p ∧ p % 2 = 1 ∧ p ≤ 2147483647 := by
  obtain ⟨i, hi⟩ := List.mem_iff_getElem?.1 hp
  obtain ⟨h1, h2, h3, -⟩ := h i p hi
  exact ⟨h1, h2, h3⟩
theorem Sep.big {ps : List Nat} (h : Sep ps) {p : Nat} (hp : p ∈ ps) : 3 ≤ p := by
  obtain ⟨h1, h2, -⟩ := h.mem hp
  have := h1.1
  omega
theorem pr_cop {p q : Nat} (hp : Pr p) (hq : Pr q) (hne : p ≠ q) : Nat.Coprime p q := hp.cop fun hd => hne (hp.eq_of_dvd hq hd)
theorem cop_prodL {p : Nat} {l : List Nat} (hp : Pr p) (h : ∀ q ∈ l, Pr q) (hn : p ∉ l) : Nat.Coprime p (prodL l) := by
  induction l with
  | nil => simp [prodL]
  | cons q l ih =>
    simp only [List.mem_cons, not_or] at hn
    exact Nat.Coprime.mul_right (pr_cop hp (h q (by simp)) hn.1) (ih (fun r hr => h r (by simp [hr])) hn.2)
theorem take_succ' {ps : List Nat} {i p : Nat} (h : ps[i]? = some p) : ps.take (i + 1) = ps.take i ++ [p] := by
  rw [List.take_add_one, h]; rfl
theorem Sep.dvd {ps : List Nat} (h : Sep ps) (z : Int) (hz : ∀ p ∈ ps, (p : Int) ∣ z) : ((prodL ps : Nat) : Int) ∣ z := by
  have key : ∀ k, k ≤ ps.length → ((prodL (ps.take k) : Nat) : Int) ∣ z := by
    intro k
    induction k with
    | zero => intro _; simp [prodL]
    | succ k ih =>
      intro hk
      have hp : ps[k]? = some ps[k] := List.getElem?_eq_getElem (by omega)
      rw [take_succ' hp, prodL_snoc]
      obtain ⟨h1, _, _, h4⟩ := h k _ hp
      have h5 := cop_prodL h1 (fun q hq => (h.mem (List.mem_of_mem_take hq)).1) h4
      have h6 := Int.natAbs_dvd_natAbs.2 (ih (by omega))
      have h7 := Int.natAbs_dvd_natAbs.2 (hz _ (List.mem_of_getElem? hp))
      rw [Int.natAbs_natCast] at h6 h7
      have h8 := Nat.Coprime.mul_dvd_of_dvd_of_dvd (Nat.coprime_comm.1 h5) h6 h7
      exact Int.natAbs_dvd_natAbs.1 (by rwa [Int.natAbs_natCast])
  have := key ps.length (Nat.le_refl _)
  rwa [List.take_length] at this
def IsCrt (ps rs : List Nat) (x : Nat) : Prop := x < prodL ps ∧ ∀ i p r : Nat, ps[i]? = some p → rs[i]? = some r → Cg p (x : Int) (r : Int)
theorem IsCrt.uniq {ps rs : List Nat} (hs : Sep ps) (hl : rs.length = ps.length) {x y : Nat} (hx : IsCrt ps rs x) (hy : IsCrt ps rs y) : x = y := by
  have h1 : Cg (prodL ps) (x : Int) (y : Int) := hs.dvd _ fun p hp => by
    obtain ⟨i, hi⟩ := List.mem_iff_getElem?.1 hp
    have hil : i < rs.length := by rw [hl]; exact (List.getElem?_eq_some_iff.1 hi).1
    have hr : rs[i]? = some rs[i] := List.getElem?_eq_getElem hil
    exact (hx.2 i p _ hi hr).trans (hy.2 i p _ hi hr).symm
  exact h1.eqN hx.1 hy.1
theorem IsCrt.step {ps rs : List Nat} {i p r x d : Nat} (hs : Sep ps) (hp : ps[i]? = some p) (hr : rs[i]? = some r) (hx : IsCrt (ps.take i) (rs.take i) x) (hd : d < p) (hc : Cg p ((x + prodL (ps.take i) * d : Nat) : Int) (r : Int)) :
    IsCrt (ps.take (i + 1)) (rs.take (i + 1)) (x + prodL (ps.take i) * d) := by
  have hpl : i < ps.length := (List.getElem?_eq_some_iff.1 hp).1
  have hrl : i < rs.length := (List.getElem?_eq_some_iff.1 hr).1
  rw [take_succ' hp, take_succ' hr]
  refine ⟨?_, fun k q s hq hs' => ?_⟩
  · rw [prodL_snoc]
    have h1 := hx.1
    have h2 : prodL (ps.take i) * (d + 1) ≤ prodL (ps.take i) * p := Nat.mul_le_mul_left _ hd
    rw [Nat.mul_add, Nat.mul_one] at h2
    omega
  · rcases Nat.lt_trichotomy k i with hlt | rfl | hgt
    · rw [List.getElem?_append_left (by rw [List.length_take]; omega)] at hq hs'
      have h1 := hx.2 k q s hq hs'
      have hqm : q ∈ ps.take i := List.mem_of_getElem? hq
      have h2 : q ∣ prodL (ps.take i) := by
        obtain ⟨a, b, hab⟩ := List.append_of_mem hqm
        rw [hab, prodL_append]
        exact ⟨prodL a * prodL b, by simp [prodL, Nat.mul_left_comm]⟩
      have h3 : Cg q ((prodL (ps.take i) * d : Nat) : Int) 0 := by
        obtain ⟨c, hc⟩ := h2
        rw [hc]
        exact ⟨((c * d : Nat) : Int), by simp [Int.mul_assoc]⟩
      have h4 := h1.add h3
      rw [Int.add_zero] at h4
      rwa [Int.natCast_add]
    · rw [List.getElem?_append_right (by rw [List.length_take]; omega)] at hq hs'
      rw [List.length_take, Nat.min_eq_left (by omega)] at hq hs'
      simp at hq hs'
      subst hq hs'
      exact hc
    · rw [List.getElem?_append_right (by rw [List.length_take]; omega), List.length_take, Nat.min_eq_left (by omega)] at hq
      obtain ⟨m, hm⟩ := Nat.exists_eq_succ_of_ne_zero (show k - i ≠ 0 by omega)
      rw [hm] at hq
      simp at hq
end Go.Proofs.Ytkjlfjnncdkmlaa

/- Plain: digits of mixed radix; the integer prime by prime; division by the last prime. -/
namespace Go.Proofs.Ytkjlfjnncdkmlaa
set_option linter.all false
open Go.RowKit PN
def gst (p q o d : Nat) : Nat := (d + p - o % p) % p * invN (q % p) p % p
def gfold (p : Nat) : List Nat → List Nat → Nat → Nat
  | q :: qs, o :: os, d => gfold p qs os (gst p q o d)
  | _, _, d => d
theorem gfold_nil (p d : Nat) (os : List Nat) : gfold p [] os d = d := by cases os <;> rfl
theorem gfold_snoc (p q o : Nat) : ∀ (qs os : List Nat) (d : Nat), qs.length = os.length → gfold p (qs ++ [q]) (os ++ [o]) d = gst p q o (gfold p qs os d)
  | [], [], d, _ => rfl
  | [], o' :: os, d, h => by simp at h
  | q' :: qs, [], d, h => by simp at h
  | q' :: qs, o' :: os, d, h => gfold_snoc p q o qs os (gst p q' o' d) (by simpa using h)
def digL (ps rs : List Nat) : Nat → List Nat
  | 0 => []
  | i + 1 => digL ps rs i ++ [gfold (ps.getD i 0) (ps.take i) (digL ps rs i) (rs.getD i 0)]
def dgt (ps rs : List Nat) (i : Nat) : Nat := gfold (ps.getD i 0) (ps.take i) (digL ps rs i) (rs.getD i 0)
theorem digL_len (ps rs : List Nat) : ∀ i, (digL ps rs i).length = i
  | 0 => rfl
  | i + 1 => by simp [digL, digL_len ps rs i]
theorem digL_map (ps rs : List Nat) : ∀ i, digL ps rs i = (List.range i).map (dgt ps rs)
  | 0 => rfl
  | i + 1 => by rw [List.range_succ, List.map_append, ← digL_map ps rs i]; rfl
theorem digL_get (ps rs : List Nat) {i k : Nat} (h : k < i) : (digL ps rs i)[k]? = some (dgt ps rs k) := by
  rw [digL_map, List.getElem?_map, List.getElem?_range h]; rfl
def mvL : List Nat → List Nat → Nat
  | p :: ps, d :: ds => d + p * mvL ps ds
  | _, _ => 0
theorem mvL_snoc (p d : Nat) : ∀ (ps ds : List Nat), ps.length = ds.length → mvL (ps ++ [p]) (ds ++ [d]) = mvL ps ds + prodL ps * d
  | [], [], _ => by simp [mvL, prodL]
  | [], _ :: _, h => by simp at h
  | _ :: _, [], h => by simp at h
  | q :: ps, e :: ds, h => by
    show e + q * mvL (ps ++ [p]) (ds ++ [d]) = e + q * mvL ps ds + q * prodL ps * d
    rw [mvL_snoc p d ps ds (by simpa using h), Nat.mul_add, Nat.mul_assoc]
    omega
theorem gst_cg {p q o d : Nat} (hp : 2 ≤ p) (hp2 : p < 4294967296) (hg : Nat.gcd p (q % p) = 1) : gst p q o d < p ∧ Cg p ((q : Int) * (gst p q o d : Nat)) ((d : Int) - o) := by
  obtain ⟨h1, h2, h3⟩ := invN_spec hp hp2 (Nat.mod_lt q (by omega)) hg
  refine ⟨Nat.mod_lt _ (by omega), ?_⟩
  have h4 : Cg p ((gst p q o d : Nat) : Int) (((d : Int) - o) * (invN (q % p) p : Nat)) := by
    refine Cg.modN.trans ?_
    rw [Int.natCast_mul]
    refine Cg.mul ?_ (Cg.refl _ _)
    refine Cg.modN.trans ?_
    have h5 : o % p < p := Nat.mod_lt _ (by omega)
    rw [show ((d + p - o % p : Nat) : Int) = ((d : Int) - ((o % p : Nat) : Int)) + p by omega]
    have h6 := ((Cg.refl p (d : Int)).sub (Cg.modN (m := p) (a := o))).add Cg.zero
    rwa [Int.add_zero] at h6
  have h5 : Cg p ((q : Int) * (invN (q % p) p : Nat)) 1 := ((Cg.modN (m := p) (a := q)).symm.mul (Cg.refl _ _)).trans h3
  have h6 := (Cg.refl p (q : Int)).mul h4
  refine h6.trans ?_
  rw [Int.mul_left_comm]
  have h7 := (Cg.refl p ((d : Int) - o)).mul h5
  rwa [Int.mul_one] at h7
theorem Sep.gcd_mod {ps : List Nat} (h : Sep ps) {i k p q : Nat} (hp : ps[i]? = some p) (hq : ps[k]? = some q) (hki : k < i) : Nat.gcd p (q % p) = 1 := by
  obtain ⟨h1, _, _, h4⟩ := h i p hp
  obtain ⟨k1, _, _, _⟩ := h k q hq
  have hne : p ≠ q := fun e => h4 (by rw [e]; exact List.mem_of_getElem? (by rw [List.getElem?_take, if_pos hki]; exact hq))
  have h5 := pr_cop h1 k1 hne
  rw [Nat.gcd_comm, ← Nat.gcd_rec]
  exact h5
def RowP (ps rs : List Nat) : Prop := rs.length = ps.length ∧ ∀ i p r : Nat, ps[i]? = some p → rs[i]? = some r → r < p
theorem getD_some {l : List Nat} {i x : Nat} (h : l[i]? = some x) : l.getD i 0 = x := by simp [List.getD, h]
theorem garner_in {ps rs : List Nat} (hs : Sep ps) (hr : RowP ps rs) {i p r : Nat} (hp : ps[i]? = some p) (hri : rs[i]? = some r) :
    ∀ k, k ≤ i → gfold p (ps.take k) (digL ps rs k) r < p ∧ Cg p (((mvL (ps.take k) (digL ps rs k) : Nat) : Int) + (prodL (ps.take k) : Nat) * (gfold p (ps.take k) (digL ps rs k) r : Nat)) (r : Int) := by
  have hil : i < ps.length := (List.getElem?_eq_some_iff.1 hp).1
  obtain ⟨p1, _, p3, _⟩ := hs i p hp
  intro k
  induction k with
  | zero =>
    intro _
    refine ⟨hr.2 i p r hp hri, ?_⟩
    simp [digL, gfold_nil, mvL, prodL]
    exact Cg.refl _ _
  | succ k ih =>
    intro hk
    obtain ⟨h1, h2⟩ := ih (by omega)
    have hq : ps[k]? = some ps[k] := List.getElem?_eq_getElem (by omega)
    have hlen : (ps.take k).length = (digL ps rs k).length := by rw [digL_len, List.length_take]; omega
    obtain ⟨g1, g2⟩ := gst_cg (o := dgt ps rs k) (d := gfold p (ps.take k) (digL ps rs k) r) p1.1 (by omega) (hs.gcd_mod hp hq (by omega))
    have e1 : digL ps rs (k + 1) = digL ps rs k ++ [dgt ps rs k] := rfl
    rw [take_succ' hq, e1, gfold_snoc p _ _ _ _ _ hlen, mvL_snoc _ _ _ _ hlen, prodL_snoc]
    refine ⟨g1, ?_⟩
    refine Cg.trans ?_ h2
    rw [Int.natCast_add, Int.natCast_mul, Int.natCast_mul, Int.mul_assoc]
    have h3 := (Cg.refl p ((prodL (ps.take k) : Nat) : Int)).mul g2
    rw [Int.mul_sub] at h3
    have h4 := (Cg.refl p (((mvL (ps.take k) (digL ps rs k) : Nat) : Int) + (prodL (ps.take k) : Nat) * (dgt ps rs k : Nat))).add h3
    rwa [show ((mvL (ps.take k) (digL ps rs k) : Nat) : Int) + (prodL (ps.take k) : Nat) * (dgt ps rs k : Nat) + (((prodL (ps.take k) : Nat) : Int) * (gfold p (ps.take k) (digL ps rs k) r : Nat) - (prodL (ps.take k) : Nat) * (dgt ps rs k : Nat)) = ((mvL (ps.take k) (digL ps rs k) : Nat) : Int) + (prodL (ps.take k) : Nat) * (gfold p (ps.take k) (digL ps rs k) r : Nat) by omega] at h4
theorem dgt_eq {ps rs : List Nat} {i p r : Nat} (hp : ps[i]? = some p) (hri : rs[i]? = some r) : dgt ps rs i = gfold p (ps.take i) (digL ps rs i) r := by
  unfold dgt; rw [getD_some hp, getD_some hri]
theorem garner {ps rs : List Nat} (hs : Sep ps) (hr : RowP ps rs) : ∀ i, i ≤ ps.length → IsCrt (ps.take i) (rs.take i) (mvL (ps.take i) (digL ps rs i)) := by
  intro i
  induction i with
  | zero => intro _; exact ⟨by simp [mvL, prodL], fun k q s hq => by simp at hq⟩
  | succ i ih =>
    intro hi
    have hp : ps[i]? = some ps[i] := List.getElem?_eq_getElem (by omega)
    have hrl : i < rs.length := by rw [hr.1]; omega
    have hri : rs[i]? = some rs[i] := List.getElem?_eq_getElem hrl
    obtain ⟨g1, g2⟩ := garner_in hs hr hp hri i (Nat.le_refl _)
    have hlen : (ps.take i).length = (digL ps rs i).length := by rw [digL_len, List.length_take]; omega
    have e1 : digL ps rs (i + 1) = digL ps rs i ++ [dgt ps rs i] := rfl
    have h2 := (ih (by omega)).step hs hp hri (d := dgt ps rs i) (by rw [dgt_eq hp hri]; exact g1) (by rw [Int.natCast_add, Int.natCast_mul, dgt_eq hp hri]; exact g2)
    rwa [take_succ' hp, e1, mvL_snoc _ _ _ _ hlen, ← take_succ' hp]
theorem garner_all {ps rs : List Nat} (hs : Sep ps) (hr : RowP ps rs) : IsCrt ps rs (mvL ps (digL ps rs ps.length)) := by
  have := garner hs hr ps.length (Nat.le_refl _)
  rwa [List.take_length, show rs.take ps.length = rs by rw [← hr.1, List.take_length]] at this
theorem dgt_lt {ps rs : List Nat} (hs : Sep ps) (hr : RowP ps rs) {i p : Nat} (hp : ps[i]? = some p) : dgt ps rs i < p := by
  have hil : i < ps.length := (List.getElem?_eq_some_iff.1 hp).1
  have hrl : i < rs.length := by rw [hr.1]; omega
  have hri : rs[i]? = some rs[i] := List.getElem?_eq_getElem hrl
  rw [dgt_eq hp hri]
  exact (garner_in hs hr hp hri i (Nat.le_refl _)).1
theorem mvL_drop {ps ds : List Nat} {k p d : Nat} (hp : ps[k]? = some p) (hd : ds[k]? = some d) : mvL (ps.drop k) (ds.drop k) = d + p * mvL (ps.drop (k + 1)) (ds.drop (k + 1)) := by
  obtain ⟨h1, h2⟩ := List.getElem?_eq_some_iff.1 hp
  obtain ⟨h3, h4⟩ := List.getElem?_eq_some_iff.1 hd
  rw [List.drop_eq_getElem_cons h1, List.drop_eq_getElem_cons h3, h2, h4]
  rfl
theorem mvL_lt : ∀ (ps ds : List Nat), (∀ p ∈ ps, 0 < p) → (∀ i p d : Nat, ps[i]? = some p → ds[i]? = some d → d < p) → mvL ps ds < prodL ps
  | [], ds, _, _ => by cases ds <;> simp [mvL, prodL]
  | p :: ps, [], h, _ => by
    show 0 < prodL (p :: ps)
    exact prodL_pos h
  | p :: ps, d :: ds, h, hd => by
    show d + p * mvL ps ds < p * prodL ps
    have h1 := mvL_lt ps ds (fun q hq => h q (by simp [hq])) (fun i q e hq he => hd (i + 1) q e (by simpa using hq) (by simpa using he))
    have h2 := hd 0 p d rfl rfl
    have h3 : p * (mvL ps ds + 1) ≤ p * prodL ps := Nat.mul_le_mul_left _ h1
    rw [Nat.mul_add, Nat.mul_one] at h3
    omega
end Go.Proofs.Ytkjlfjnncdkmlaa

/- Wide integers: helpers and walks, in one text (KD1 KD2 KD3 KD4). -/
/- Walks: a system of the program's; whether residues are a row; residues of an integer. -/
namespace Go.Proofs.Ytkjlfjnncdkmlaa
set_option linter.all false
open Go.RowKit Go.Shelf Go.WideNum PN
def invRow (ps : List Nat) (i : Nat) : List Nat := (ps.take i).map fun q => invN (q % ps.getD i 0) (ps.getD i 0)
def invRows (ps : List Nat) : List (List Nat) := (List.range ps.length).map (invRow ps)
def SysAt (w : World) (b : Nat) (ps : List Nat) : Prop := ∃ lv iv, w.heap[b]? = some (.cells #[lv, .bool (zN (prodL ps)), .string (zT (prodL ps)), iv, .bool true] 102) ∧ w.reads w.heap.size lv (ps.map u32V) ∧ w.rows u32V w.heap.size iv (invRows ps)
theorem SysAt.below {w w' : World} {b : Nat} {ps : List Nat} (h : SysAt w b ps) (hb : Below w.heap.size w w') : SysAt w' b ps := by
  obtain ⟨lv, iv, h1, h2, h3⟩ := h
  exact ⟨lv, iv, (hb.block _ (lt_of_heap h1)).trans h1, (h2.below hb).mono hb.size, (h3.below hb).mono hb.size⟩
theorem SysAt.drewN {w : World} {b : Nat} {ps : List Nat} (h : SysAt w b ps) (n : Nat) : SysAt (w.drewN n) b ps := h
theorem SysAt.drew {w : World} {b : Nat} {ps : List Nat} (h : SysAt w b ps) : SysAt w.drew b ps := h
theorem SysAt.alloc {w : World} {b : Nat} {ps : List Nat} (h : SysAt w b ps) (o : Obj) : SysAt (w.alloc o) b ps := h.below ((Below.refl _ _).alloc (Nat.le_refl _) _)
theorem five_sys {w : World} {b : Nat} {v0 v1 v2 v3 v4 : Value} {T : TypeId} (h : w.heap[b]? = some (.cells #[v0, v1, v2, v3, v4] T)) :
    w.cell? ⟨b, 0, none⟩ = some v0 ∧ w.cell? ⟨b, 1, none⟩ = some v1 ∧ w.cell? ⟨b, 2, none⟩ = some v2 ∧ w.cell? ⟨b, 3, none⟩ = some v3 ∧ w.cell? ⟨b, 4, none⟩ = some v4 ∧
    w.frozen? ⟨b, 0, none⟩ = false ∧ w.frozen? ⟨b, 1, none⟩ = false ∧ w.frozen? ⟨b, 2, none⟩ = false ∧ w.frozen? ⟨b, 3, none⟩ = false :=
  ⟨by rw [cell_of_row w b 0 _ _ (0, 0) h]; rfl, by rw [cell_of_row w b 1 _ _ (0, 0) h]; rfl, by rw [cell_of_row w b 2 _ _ (0, 0) h]; rfl, by rw [cell_of_row w b 3 _ _ (0, 0) h]; rfl, by rw [cell_of_row w b 4 _ _ (0, 0) h]; rfl,
   by simp [World.frozen?, h], by simp [World.frozen?, h], by simp [World.frozen?, h], by simp [World.frozen?, h]⟩
theorem none_sys (b : Nat) (ps : List Nat) (w : World) (h : SysAt w b ps) : Calls Try.prog 88 #[.pointer (some ⟨b, 0, none⟩)] w fun e w' => e = .returned (.bool false) ∧ w = w' := by
  obtain ⟨lv, iv, h1, -, -⟩ := h
  obtain ⟨-, -, -, -, c4, -⟩ := five_sys h1
  clear h1
  go_enter Try.func88, Try.ntmps88
  go_wp2
  go_ret
  exact ⟨rfl, rfl⟩
theorem rowP_to {ps rs : List Nat} (h : ∀ j, j < ps.length → ∀ p r : Nat, ps[j]? = some p → rs[j]? = some r → r < p) (hl : rs.length = ps.length) : RowP ps rs :=
  ⟨hl, fun i p r hp hr => h i (List.getElem?_eq_some_iff.1 hp).1 p r hp hr⟩
set_option maxHeartbeats 4000000 in
theorem row_any (b : Nat) (ps rs : List Nat) (rv : Value) (w : World) (hs : SysAt w b ps) (hr : w.reads w.heap.size rv (rs.map u32V)) (ok : Bool) (hok : ok = true ↔ RowP ps rs) :
    Calls Try.prog 89 #[.pointer (some ⟨b, 0, none⟩), rv] w fun e w' => e = .returned (.bool ok) ∧ w = w' := by
  obtain ⟨lv, iv, h1, h2, -⟩ := hs
  obtain ⟨c0, -⟩ := five_sys h1
  have hl1 := hr.le_map
  have hl2 := h2.le_map
  obtain ⟨ra, rc, rfl, hrc, hrm, hrs⟩ := reads_u32 hr
  obtain ⟨pa, pc, rfl, hpc, hpm, hps⟩ := reads_u32 h2
  have HOK := Lib.hid hok
  have HR := Lib.hid hrs
  have HS := Lib.hid hps
  clear h1 h2 hr hrs hps hok
  by_cases hlen : rs.length = ps.length
  · have HLEN := Lib.hid hlen
    obtain ⟨n, hn⟩ : ∃ n, n = ps.length := ⟨_, rfl⟩
    rw [hlen, ← hn] at hl1 hrc ⊢
    rw [← hn] at hpc hl2 c0
    have HN := Lib.hid hn
    clear hlen hn
    have t0 : ((n : Int) != (n : Int)) = false := by simp
    go_enter Try.func89, Try.ntmps89
    go_wp2_with fail
    go_loop [17] (fun iv => ∃ k : Nat, k ≤ n ∧ iv = .int .i64 (k : Int) ∧ Hid (∀ j, j < k → ∀ p r : Nat, ps[j]? = some p → rs[j]? = some r → r < p)) (fun iv => n - (intOf iv).toNat)
    case atStart => exact ⟨0, Nat.zero_le _, rfl, fun j hj => by omega⟩
    case round =>
      obtain ⟨k, hk, rfl, hall⟩ := hrel
      by_cases hlt : k < n
      · have hkp : k < ps.length := by rw [← HN.out]; exact hlt
        have hkr : k < rs.length := by rw [HLEN.out]; exact hkp
        obtain ⟨p, hp⟩ : ∃ p, ps[k]? = some p := ⟨ps[k], List.getElem?_eq_getElem hkp⟩
        obtain ⟨r, hr⟩ : ∃ r, rs[k]? = some r := ⟨rs[k], List.getElem?_eq_getElem hkr⟩
        obtain ⟨b1, o1, rfl, _, d1⟩ := HR.out k r hr
        obtain ⟨b2, o2, rfl, _, d2⟩ := HS.out k p hp
        have HP := Lib.hid hp
        have HRR := Lib.hid hr
        clear hp hr hkp hkr
        by_cases hrp : r < p
        · have hnge : ¬ (p : Int) ≤ (r : Int) := by omega
          have HALL : Hid (∀ j, j < k + 1 → ∀ p r : Nat, ps[j]? = some p → rs[j]? = some r → r < p) := fun j hj p' r' hp' hr' => by
            rcases (show j < k ∨ j = k by omega) with h | rfl
            · exact hall.out j h p' r' hp' hr'
            · rw [HP.out] at hp'; rw [HRR.out] at hr'
              injection hp' with hp'; injection hr' with hr'
              omega
          clear hall
          go_wp2_with fail
          go_round
          case rel => exact ⟨k + 1, by omega, by go_num, HALL.out⟩
          case measure => simp [intOf]; omega
        · have hge : (p : Int) ≤ (r : Int) := by omega
          obtain rfl : ok = false := by
            cases h : ok
            · rfl
            · exact absurd ((HOK.out.1 h).2 k p r HP.out HRR.out) hrp
          clear hall
          go_wp2
          go_ret
          exact ⟨rfl, rfl⟩
      · obtain rfl : ok = true := HOK.out.2 (rowP_to (fun j hj => hall.out j (by have := HN.out; omega)) HLEN.out)
        clear hall
        go_wp2
        go_ret
        exact ⟨rfl, rfl⟩
  · obtain rfl : ok = false := by
      cases h : ok
      · rfl
      · exact absurd (HOK.out.1 h).1 hlen
    have t0 : ((rs.length : Int) != (ps.length : Int)) = true := by rw [bne_iff_ne]; omega
    go_enter Try.func89, Try.ntmps89
    go_wp2
    go_ret
    exact ⟨rfl, rfl⟩
def RowRet (w : World) (rs : List Nat) (e : Ending) (w' : World) : Prop := ∃ v, e = .returned v ∧ w'.owns w.heap.size 22 1 v rs.length (rs.map u32V) ∧ Below w.heap.size w w'
theorem rowF_owns {W : World} {base g n : Nat} {f : Nat → Nat} (hg : W.heap[g]? = some (.cells (rowF f n) 22)) (hb : base ≤ g) (hn : n ≤ 100000) : W.owns base 22 1 (.slice (some ⟨g, 0, none⟩) n n) n (((List.range n).map f).map u32V) := by
  refine ⟨by simp, .inr ⟨g, n, _, (0, 0), rfl, hb, hg, okFz_zero _, Nat.le_refl _, by unfold maxLen; omega, by simp [rowF], ?_⟩⟩
  simp only [rowF, Nat.mul_one]
  exact List.take_of_length_le (by simp)
theorem make_words (n : Nat) (hn : n ≤ 100000) (W : World) : (Instr.makeSlice 23 (.int .i64 (n : Int)) (.int .i64 (n : Int))).run Try.prog W = .ok (.slice (some ⟨W.heap.size, 0, none⟩) n n) (W.alloc (.cells (zrow n) 22)) := make_u322 n n (Nat.le_refl _) hn W
end Go.Proofs.Ytkjlfjnncdkmlaa

/- Walks: digits of mixed radix. -/
namespace Go.Proofs.Ytkjlfjnncdkmlaa
set_option linter.all false
open Go.RowKit Go.Shelf Go.WideNum PN
theorem one_cell {W : World} {b : Nat} {v : Value} {T : TypeId} (h : W.heap[b]? = some (.cells #[v] T)) : W.cell? ⟨b, 0, none⟩ = some v ∧ W.frozen? ⟨b, 0, none⟩ = false :=
  ⟨by rw [cell_of_row W b 0 _ _ (0, 0) h]; rfl, by simp [World.frozen?, h]⟩
theorem one_set {W : World} {b : Nat} {v u : Value} {T : TypeId} (h : W.heap[b]? = some (.cells #[v] T)) : (W.setCell ⟨b, 0, none⟩ u).heap[b]? = some (.cells #[u] T) := by
  simp [World.setCell, Array.getElem?_modify, h]
theorem set_other {W : World} {b k o : Nat} {u : Value} {X : Option Obj} (h : W.heap[k]? = X) (hne : k ≠ b) : (W.setCell ⟨b, o, none⟩ u).heap[k]? = X := by
  rw [Below.heap_setCell _ _ _ _ (by simpa using hne)]; exact h
set_option maxHeartbeats 4000000 in
theorem step1_any (pd pmm po pss pi g n b k i d m o iv B : Nat) (ra : Option Addr) (rc il ic : Nat) (ib io rb ro : Nat) (rl : Nat) (w : World)
    (cd : w.cell? ⟨pd, 0, none⟩ = some (.int .u64 (d : Int))) (fd : w.frozen? ⟨pd, 0, none⟩ = false) (cm : w.cell? ⟨pmm, 0, none⟩ = some (.int .u64 (m : Int)))
    (co : w.cell? ⟨po, 0, none⟩ = some (.slice (some ⟨g, 0, none⟩) n n)) (cs : w.cell? ⟨pss, 0, none⟩ = some (.pointer (some ⟨b, 0, none⟩))) (ci : w.cell? ⟨pi, 0, none⟩ = some (.int .i64 (i : Int)))
    (ck : w.cell? ⟨g, k, none⟩ = some (.int .u32 (o : Int))) (cv : w.cell? ⟨b, 3, none⟩ = some (.slice (some ⟨ib, io, none⟩) il ic))
    (cr : w.cell? ⟨ib, io + i, none⟩ = some (.slice (some ⟨rb, ro, none⟩) rl rc)) (cx : w.cell? ⟨rb, ro + k, none⟩ = some (.int .u32 (iv : Int)))
    (hk : k < n) (hn : n ≤ 100) (hi : i < il) (hic : il ≤ ic) (hil : il ≤ 100) (hkr : k < rl) (hrl : rl ≤ 100) (hrc : rl ≤ rc) (hd : d < m) (hm0 : 2 ≤ m) (hm : m ≤ 2147483647) (ho : o < 4294967296) (hiv : iv < m) (z : Nat) (hz : z = (d + m - o % m) % m * iv % m) :
    Calls Try.prog 119 #[.int .i64 (k : Int), .pointer (some ⟨pd, 0, none⟩), .pointer (some ⟨pmm, 0, none⟩), .pointer (some ⟨po, 0, none⟩), .pointer (some ⟨pss, 0, none⟩), .pointer (some ⟨pi, 0, none⟩)] w
      fun e w' => (∃ v, e = .returned v) ∧ ∃ nq, w' = (w.setCell ⟨pd, 0, none⟩ (.int .u64 (z : Int))).drewN nq := by
  have h0 : ((m : Int) == 0) = false := by rw [beq_eq_false_iff_ne]; omega
  have h0' : ¬ m = 0 := by omega
  have e0 : (d : Int) + (m : Int) = ((d + m : Nat) : Int) := by omega
  obtain ⟨dm, edm⟩ : ∃ y, y = d + m := ⟨_, rfl⟩
  obtain ⟨om, eom⟩ : ∃ y, y = o % m := ⟨_, rfl⟩
  obtain ⟨df, edf⟩ : ∃ y, y = dm - om := ⟨_, rfl⟩
  obtain ⟨dr, edr⟩ : ∃ y, y = df % m := ⟨_, rfl⟩
  obtain ⟨pr, epr⟩ : ∃ y, y = dr * iv := ⟨_, rfl⟩
  have hom : om < m := by rw [eom]; exact Nat.mod_lt _ (by omega)
  have hdr : dr < m := by rw [edr]; exact Nat.mod_lt _ (by omega)
  have hpr : pr < 2147483647 * 2147483647 := by rw [epr]; exact Nat.mul_lt_mul'' (by omega) (by omega)
  have hz2 : z = pr % m := by rw [hz, epr, edr, edf, eom, edm]
  have f1 : IntKind.u64.wrap ((d : Int) + (m : Int)) = (dm : Int) := by rw [IntKind.wrap_u64]; omega
  have f2 : IntKind.u64.wrap (o : Int) = (o : Int) := by rw [IntKind.wrap_u64]; omega
  have f3 : (o : Int).tmod (m : Int) = (om : Int) := by rw [Int.tmod_eq_emod_of_nonneg (by omega), eom, Int.natCast_emod]
  have f4 : IntKind.u64.wrap ((dm : Int) - (om : Int)) = (df : Int) := by rw [IntKind.wrap_u64]; omega
  have f5 : (df : Int).tmod (m : Int) = (dr : Int) := by rw [Int.tmod_eq_emod_of_nonneg (by omega), edr, Int.natCast_emod]
  have f6 : IntKind.u64.wrap (iv : Int) = (iv : Int) := by rw [IntKind.wrap_u64]; omega
  have f7 : IntKind.u64.wrap ((dr : Int) * (iv : Int)) = (pr : Int) := by
    rw [show ((dr : Int) * (iv : Int)) = (pr : Int) by rw [epr]; simp, IntKind.wrap_u64]; omega
  have f8 : (pr : Int).tmod (m : Int) = (z : Int) := by rw [Int.tmod_eq_emod_of_nonneg (by omega), hz2, Int.natCast_emod]
  have g1 : (k : Int) < (n : Int) := by omega
  have g2 : (i : Int) < (il : Int) := by omega
  have g3 : (k : Int) < (rl : Int) := by omega
  have g4 : (0 : Int) ≤ (k : Int) := by omega
  have g5 : (0 : Int) ≤ (i : Int) := by omega
  clear hz hz2 epr edr edf eom edm e0
  go_enter Try.func119, Try.ntmps119
  go_wp2_with fail
  with_reducible first | refine wp_region_quiet_tail_at 27 (by kernel_rfl) (by kernel_rfl) ?_ | refine wp_region_quiet_tail_lit 27 (by kernel_rfl) (by kernel_rfl) ?_
  simp only [List.take_succ_cons, List.take_zero, List.drop_succ_cons, List.drop_zero]
  repeat (go_big_quiet_step (fail))
  refine wpQuiet_nil ?_
  rintro _ ⟨nq, rfl⟩
  have cd2 : (w.drewN nq).cell? ⟨pd, 0, none⟩ = some (.int .u64 (d : Int)) := cd
  have fd2 : (w.drewN nq).frozen? ⟨pd, 0, none⟩ = false := fd
  go_wp2
  go_end0
  exact ⟨⟨_, rfl⟩, nq, rfl⟩
def dgrow (ps rs : List Nat) (n k : Nat) : Array Value := rowF (fun i => if i < k then dgt ps rs i else 0) n
theorem dgrow_zero (ps rs : List Nat) (n : Nat) : dgrow ps rs n 0 = zrow n := by unfold dgrow; rw [rowF_congr (f' := fun _ => 0) (fun j _ => if_neg (by omega)), rowF_zero]
structure DgSt (w wr : World) (b n : Nat) (ps rs : List Nat) (k : Nat) : Prop where
  h0 : wr.heap[w.heap.size]? = some (.cells #[.pointer (some ⟨b, 0, none⟩)] 122)
  h1 : wr.heap[w.heap.size + 1]? = some (.cells (dgrow ps rs n k) 22)
  h2 : wr.heap[w.heap.size + 2]? = some (.cells #[.slice (some ⟨w.heap.size + 1, 0, none⟩) n n] 23)
  bel : Below w.heap.size w wr
theorem DgSt.below {w wr w' : World} {b n k : Nat} {ps rs : List Nat} (h : DgSt w wr b n ps rs k) (hs : w.heap.size + 3 ≤ wr.heap.size) (hb : Below wr.heap.size wr w') : DgSt w w' b n ps rs k :=
  ⟨(hb.block _ (by omega)).trans h.h0, (hb.block _ (by omega)).trans h.h1, (hb.block _ (by omega)).trans h.h2, h.bel.trans (hb.mono h.bel.size)⟩
theorem DgSt.size {w wr : World} {b n k : Nat} {ps rs : List Nat} (h : DgSt w wr b n ps rs k) : w.heap.size + 3 ≤ wr.heap.size := by
  have := lt_of_heap h.h2; omega
theorem DgSt.set {w wr : World} {b n k : Nat} {ps rs : List Nat} (h : DgSt w wr b n ps rs k) {g o : Nat} (hg : w.heap.size + 3 ≤ g) (u : Value) : DgSt w (wr.setCell ⟨g, o, none⟩ u) b n ps rs k :=
  ⟨set_other h.h0 (by omega), set_other h.h1 (by omega), set_other h.h2 (by omega), h.bel.setCell (by simp; omega) _⟩
theorem DgSt.drewN {w wr : World} {b n k : Nat} {ps rs : List Nat} (h : DgSt w wr b n ps rs k) (m : Nat) : DgSt w (wr.drewN m) b n ps rs k := ⟨h.h0, h.h1, h.h2, below_drewN h.bel m⟩
theorem invRows_get {ps : List Nat} {i p : Nat} (hp : ps[i]? = some p) : (invRows ps)[i]? = some ((ps.take i).map fun q => invN (q % p) p) := by
  have hil : i < ps.length := (List.getElem?_eq_some_iff.1 hp).1
  unfold invRows invRow
  rw [List.getElem?_map, List.getElem?_range hil]
  simp only [Option.map_some, getD_some hp]
theorem DgSt.push {w wr : World} {b n k : Nat} {ps rs : List Nat} (h : DgSt w wr b n ps rs k) : DgSt w (wr.setCell ⟨w.heap.size + 1, k, none⟩ (.int .u32 (dgt ps rs k : Int))) b n ps rs (k + 1) := by
  refine ⟨set_other h.h0 (by omega), ?_, set_other h.h2 (by omega), h.bel.setCell (by simp) _⟩
  have h5 := rowF_set (k := k) (f' := fun i => if i < k + 1 then dgt ps rs i else 0) h.h1 (fun j hj hne => by
    by_cases h : j < k
    · rw [if_pos h, if_pos (by omega)]
    · rw [if_neg h, if_neg (by omega)])
  rw [show (if k < k + 1 then dgt ps rs k else 0) = dgt ps rs k by rw [if_pos (by omega)]] at h5
  exact h5
structure InSt (w wr : World) (b n : Nat) (ps rs : List Nat) (k q0 p r j : Nat) : Prop where
  dg : DgSt w wr b n ps rs k
  h0 : wr.heap[q0]? = some (.cells #[.int .i64 (k : Int)] 3)
  h1 : wr.heap[q0 + 1]? = some (.cells #[.int .u64 (p : Int)] 66)
  h2 : wr.heap[q0 + 2]? = some (.cells #[.int .u64 (gfold p (ps.take j) (digL ps rs j) r : Int)] 66)
theorem InSt.set {w wr : World} {b n : Nat} {ps rs : List Nat} {k q0 p r j : Nat} (h : InSt w wr b n ps rs k q0 p r j) (hq : w.heap.size + 3 ≤ q0) :
    InSt w (wr.setCell ⟨q0 + 2, 0, none⟩ (.int .u64 (gfold p (ps.take (j + 1)) (digL ps rs (j + 1)) r : Int))) b n ps rs k q0 p r (j + 1) :=
  ⟨h.dg.set (by omega) _, set_other h.h0 (by omega), set_other h.h1 (by omega), one_set h.h2⟩
theorem InSt.drewN {w wr : World} {b n : Nat} {ps rs : List Nat} {k q0 p r j : Nat} (h : InSt w wr b n ps rs k q0 p r j) (m : Nat) : InSt w (wr.drewN m) b n ps rs k q0 p r j := ⟨h.dg.drewN m, h.h0, h.h1, h.h2⟩
set_option maxHeartbeats 8000000 in
theorem digits_any (b : Nat) (ps rs : List Nat) (rv : Value) (w : World) (hs : SysAt w b ps) (hsep : Sep ps) (hlen : ps.length ≤ 25) (hr : w.reads w.heap.size rv (rs.map u32V)) (hrow : RowP ps rs) :
    Calls Try.prog 107 #[.pointer (some ⟨b, 0, none⟩), rv] w (RowRet w (digL ps rs ps.length)) := by
  obtain ⟨HPOST, hpost⟩ : ∃ R, R = RowRet w (digL ps rs ps.length) := ⟨_, rfl⟩
  rw [← hpost]
  have HP := Lib.hid hpost
  clear hpost
  obtain ⟨lv, iv, h1, h2, h3⟩ := hs
  have hbw := lt_of_heap h1
  obtain ⟨c0, -, -, c3, -⟩ := five_sys h1
  have hl2 := h2.le_map
  have hl1 := hr.le_map
  obtain ⟨pa, pc, rfl, hpc, hpm, hps⟩ := reads_u32 h2
  obtain ⟨ra, rc, rfl, hrc, hrm, hrs⟩ := reads_u32 hr
  obtain ⟨ia, ic, rfl, hic, him, hi3⟩ := h3.shape
  have HS := Lib.hid hps
  have HR := Lib.hid hrs
  have HI := Lib.hid hi3
  have HSEP := Lib.hid hsep
  have HROW := Lib.hid hrow
  have hlr := hrow.1
  have hli : (invRows ps).length = ps.length := by simp [invRows]
  obtain ⟨n, hn⟩ : ∃ n, n = ps.length := ⟨_, rfl⟩
  rw [hli, ← hn] at hic c3
  rw [hlr, ← hn] at hrc hl1 ⊢
  rw [← hn] at hpc hl2 c0 hlen
  have HN := Lib.hid hn
  have HLR := Lib.hid hlr
  have hmk := make_words n (by omega)
  have HC0 := Lib.hid c0
  have HC3 := Lib.hid c3
  clear h1 h2 h3 hr hps hrs hi3 hn hlr hli hsep hrow c3
  have HBW := Lib.hid hbw
  go_enter Try.func107, Try.ntmps107
  go_upto_region 2 with (fail)
  generalize hwa : ((w.alloc (.cells #[.pointer (some ⟨b, 0, none⟩)] 122)).alloc (.cells (zrow n) 22)).alloc (.cells #[.slice (some ⟨w.heap.size + 1, 0, none⟩) n n] 23) = wa
  have hst : DgSt w wa b n ps rs 0 := by
    refine ⟨?_, ?_, ?_, ?_⟩
    · rw [← hwa, Below.heap_alloc _ _ _ (by simp; omega), Below.heap_alloc _ _ _ (by simp)]; exact heap_alloc_new w _
    · rw [← hwa, Below.heap_alloc _ _ _ (by simp), dgrow_zero]; exact alloc_last _ _ (by simp)
    · rw [← hwa]; exact alloc_last _ _ (by simp)
    · rw [← hwa]; exact (((Below.refl _ _).alloc (Nat.le_refl _) _).alloc (by simp) _).alloc (by simp; omega) _
  have hsz : w.heap.size + 3 ≤ wa.heap.size := by rw [← hwa]; simp
  clear hwa c0
  have HST := Lib.hid hst
  have HSZ := Lib.hid hsz
  have c0 := (hst.bel.cell (p := ⟨b, 0, none⟩) hbw).trans HC0.out
  obtain ⟨s0, -⟩ := one_cell hst.h0
  clear hst hsz hbw
  go_wp2_with fail
  clear c0 s0
  go_loopw [20] (fun iv wr => ∃ k : Nat, k ≤ n ∧ iv = .int .i64 (k : Int) ∧ Hid (DgSt w wr b n ps rs k)) (fun iv _ => n - (intOf iv).toNat)
  case atStart => exact ⟨0, Nat.zero_le _, rfl, HST.out⟩
  case round =>
    obtain ⟨k, hk, rfl, hS⟩ := hrel
    obtain ⟨wo, rfl⟩ : ∃ x, x = wr := ⟨_, rfl⟩
    by_cases hlt : k < n
    · have hkp : k < ps.length := by rw [← HN.out]; exact hlt
      have hkr : k < rs.length := by rw [HLR.out]; exact hkp
      obtain ⟨p, hp⟩ : ∃ p, ps[k]? = some p := ⟨ps[k], List.getElem?_eq_getElem hkp⟩
      obtain ⟨r, hr⟩ : ∃ r, rs[k]? = some r := ⟨rs[k], List.getElem?_eq_getElem hkr⟩
      obtain ⟨b2, o2, rfl, hb2l, d2⟩ := HS.out k p hp
      obtain ⟨b1, o1, rfl, hb1l, d1⟩ := HR.out k r hr
      obtain ⟨ib, io, rb2, rc2, rfl, hibl, hic2, hrd⟩ := HI.out k _ (invRows_get hp)
      have e2 := (hS.out.bel.cell (p := ⟨b2, o2 + k, none⟩) hb2l).trans d2
      have e1 := (hS.out.bel.cell (p := ⟨b1, o1 + k, none⟩) hb1l).trans d1
      obtain ⟨p1, p2, p3, p4⟩ := HSEP.out k p hp
      have hp2 : 2 ≤ p := p1.1
      have hrp : r < p := HROW.out.2 k p r hp hr
      have hrow := garner_in HSEP.out HROW.out hp hr
      have hdk := dgt_eq hp hr
      have HRD := Lib.hid hrd
      have HIC2 := Lib.hid hic2
      have HGI := Lib.hid hrow
      have HDK := Lib.hid hdk
      have HP2 := Lib.hid hp
      have w1 : IntKind.u64.wrap (p : Int) = (p : Int) := by rw [IntKind.wrap_u64]; omega
      have w2 : IntKind.u64.wrap (r : Int) = (r : Int) := by rw [IntKind.wrap_u64]; omega
      have w3 : (k : Int) < (n : Int) := by omega
      have hsz := hS.out.size
      have lt1 : b1 < wo.heap.size := by omega
      have lt2 : b1 < wo.heap.size + 1 := by omega
      have lt3 : b1 < wo.heap.size + 1 + 1 := by omega
      have ne1 : ¬ b1 = wo.heap.size := by omega
      have ne2 : ¬ b1 = wo.heap.size + 1 := by omega
      clear d1 d2 hrd hic2 hrow hdk p4 hp hr hkp hkr p1 p2
      go_upto_region 8 with (fail)
      generalize hwb : ((wo.alloc (.cells #[.int .i64 (k : Int)] 3)).alloc (.cells #[.int .u64 (p : Int)] 66)).alloc (.cells #[.int .u64 (r : Int)] 66) = wb
      have hg0 : wb.heap[wo.heap.size]? = some (.cells #[.int .i64 (k : Int)] 3) := by rw [← hwb, Below.heap_alloc _ _ _ (by simp; omega), Below.heap_alloc _ _ _ (by simp)]; exact heap_alloc_new wo _
      have hg1 : wb.heap[wo.heap.size + 1]? = some (.cells #[.int .u64 (p : Int)] 66) := by rw [← hwb, Below.heap_alloc _ _ _ (by simp)]; exact alloc_last _ _ (by simp)
      have hg2 : wb.heap[wo.heap.size + 2]? = some (.cells #[.int .u64 (r : Int)] 66) := by rw [← hwb]; exact alloc_last _ _ (by simp)
      have hwob : Below wo.heap.size wo wb := by rw [← hwb]; exact (((Below.refl _ _).alloc (Nat.le_refl _) _).alloc (by simp) _).alloc (by simp; omega) _
      have hDS := hS.out.below hsz hwob
      obtain ⟨q0, hq0⟩ : ∃ q0, q0 = wo.heap.size := ⟨_, rfl⟩
      rw [← hq0] at hg0 hg1 hg2 ⊢
      have hq3 : w.heap.size + 3 ≤ q0 := by rw [hq0]; exact hsz
      obtain ⟨i0, -⟩ := one_cell hg0
      have HIN : Hid (InSt w wb b n ps rs k q0 p r 0) := ⟨hDS, hg0, hg1, by rw [hg2]; simp [gfold_nil]⟩
      clear hwb hg0 hg1 hg2 hwob hDS hq0 hsz hS e1 e2
      go_wp2_with fail
      clear i0
      go_loopw [34] (fun jv wr => ∃ j : Nat, j ≤ k ∧ jv = .int .i64 (j : Int) ∧ Hid (InSt w wr b n ps rs k q0 p r j)) (fun jv _ => k - (intOf jv).toNat)
      case atStart => exact ⟨0, Nat.zero_le _, rfl, HIN.out⟩
      case round =>
        obtain ⟨j, hj, rfl, hI⟩ := hrel
        by_cases hjk : j < k
        · obtain ⟨q, hq⟩ : ∃ q, ps[j]? = some q := ⟨ps[j]'(by have := HN.out; omega), List.getElem?_eq_getElem _⟩
          obtain ⟨iw, hiw⟩ : ∃ x, x = invN (q % p) p := ⟨_, rfl⟩
          have hrowj : ((ps.take k).map fun q => invN (q % p) p)[j]? = some iw := by rw [List.getElem?_map, List.getElem?_take, if_pos hjk, hq, hiw]; rfl
          obtain ⟨a3, c3', hsl, h31, h32, h33⟩ := reads_u32 HRD.out
          obtain ⟨b3, o3, rfl, hb3l, d3⟩ := h33 j iw hrowj
          injection hsl with hsl1 hsl2 hsl3
          have hrl : ((ps.take k).map fun q => invN (q % p) p).length = k := by rw [List.length_map, List.length_take]; have := HN.out; omega
          obtain ⟨g1, g2⟩ := HGI.out j (by omega)
          obtain ⟨d, hd⟩ : ∃ d, d = gfold p (ps.take j) (digL ps rs j) r := ⟨_, rfl⟩
          rw [← hd] at g1
          obtain ⟨-, i2, -⟩ := invN_spec hp2 (by omega) (Nat.mod_lt q (by omega)) (HSEP.out.gcd_mod HP2.out hq hjk)
          obtain ⟨i1, -, -⟩ := invN_spec hp2 (by omega) (Nat.mod_lt q (by omega)) (HSEP.out.gcd_mod HP2.out hq hjk)
          rw [← hiw] at i1
          obtain ⟨k0, -⟩ := one_cell hI.out.h0
          obtain ⟨k1, -⟩ := one_cell hI.out.h1
          obtain ⟨k2, k2f⟩ := one_cell hI.out.h2
          rw [← hd] at k2
          obtain ⟨m0, -⟩ := one_cell hI.out.dg.h0
          obtain ⟨m2, -⟩ := one_cell hI.out.dg.h2
          have hdj := dgt_lt HSEP.out HROW.out hq
          obtain ⟨m1, -⟩ := rowF_cell hI.out.dg.h1 j (by omega)
          rw [if_pos hjk] at m1
          have hbl := hI.out.dg.bel
          have n1 := (hbl.cell (p := ⟨b, 3, none⟩) HBW.out).trans HC3.out
          have n2 := (hbl.cell (p := ⟨ib, io + k, none⟩) hibl).trans HIC2.out
          have n3 := (hbl.cell (p := ⟨b3, o3 + j, none⟩) hb3l).trans d3
          rw [hsl1, hrl] at n2
          obtain ⟨hqp, -, hqb, -⟩ := HSEP.out j q hq
          have hstep := step1_any (q0 + 2) (q0 + 1) (w.heap.size + 2) w.heap.size q0 (w.heap.size + 1) n b j k d p (dgt ps rs j) iw 0 (some ⟨ib, io, none⟩) rc2 n ic ib io b3 o3 k wr k2 k2f k1 m2 m0 k0 m1 n1 n2 n3 (by omega) (by omega) hlt hic (by omega) hjk (by omega) (by rw [hrl, ← hsl3] at h31; exact h31) g1 hp2 p3 (by omega) i1 (gst p q (dgt ps rs j) d) (by unfold gst; rw [hiw])
          have HSTEP := Lib.hid hstep
          have hlen2 : (ps.take j).length = (digL ps rs j).length := by rw [digL_len, List.length_take]; have := HN.out; omega
          have HNEXT : Hid (gst p q (dgt ps rs j) d = gfold p (ps.take (j + 1)) (digL ps rs (j + 1)) r) := by
            show _ = _
            rw [take_succ' hq, show digL ps rs (j + 1) = digL ps rs j ++ [dgt ps rs j] by rfl, gfold_snoc _ _ _ _ _ _ hlen2, ← hd]
          have t1 : (j : Int) < (k : Int) := by omega
          clear hstep n1 n2 n3 m0 m1 m2 k0 k1 k2 k2f hbl hdj i2 g2 hd hsl1 hsl2 hsl3 hrl h31 h32 h33 d3 hrowj hiw hq hlen2 hqp hqb
          go_wp2_with fail
          (with_reducible refine (HSTEP.out).mono ?_)
          rintro e w5 ⟨⟨v5, rfl⟩, nq, rfl⟩
          clear HSTEP
          go_wp2_with fail
          go_roundw
          case rel => exact ⟨j + 1, by omega, by go_num, by
            show InSt _ _ _ _ _ _ _ _ _ _ _
            rw [HNEXT.out]
            exact (hI.out.set hq3).drewN nq⟩
          case measure => simp [intOf]; omega
        · obtain rfl : j = k := by omega
          obtain ⟨k0, -⟩ := one_cell hI.out.h0
          obtain ⟨k2, k2f⟩ := one_cell hI.out.h2
          obtain ⟨m2, -⟩ := one_cell hI.out.dg.h2
          obtain ⟨m1, m1f⟩ := rowF_cell hI.out.dg.h1 j (by omega)
          rw [if_neg (by omega)] at m1
          rw [← HDK.out] at k2
          have hdl := dgt_lt HSEP.out HROW.out HP2.out
          obtain ⟨d, hd⟩ : ∃ d, d = dgt ps rs j := ⟨_, rfl⟩
          rw [← hd] at k2 hdl
          have HD := Lib.hid hd
          have hdm : (d : Int) % 4294967296 = (d : Int) := by omega
          have t2 : ¬ (j : Int) < (j : Int) := by omega
          clear hd
          go_wp2_with fail
          go_roundw
          case rel =>
            refine ⟨j + 1, by omega, by go_num, ?_⟩
            have := hI.out.dg.push
            rw [← HD.out] at this
            exact this
          case measure => simp [intOf]; omega
    · obtain rfl : k = n := by omega
      obtain ⟨m2, -⟩ := one_cell hS.out.h2
      have hg2 := hS.out.h1
      unfold dgrow at hg2
      rw [rowF_congr (f' := dgt ps rs) (fun j hj => if_pos hj)] at hg2
      have HO := Lib.hid (rowF_owns (base := w.heap.size) hg2 (by omega) (by omega))
      have t2 : ¬ (k : Int) < (k : Int) := by omega
      clear hg2
      go_wp2
      rw [HP.out]
      refine ⟨_, rfl, ?_, hS.out.bel⟩
      rw [digL_len, ← HN.out, digL_map]
      exact HO.out
end Go.Proofs.Ytkjlfjnncdkmlaa

/- Walks: the integer of a row. -/
namespace Go.Proofs.Ytkjlfjnncdkmlaa
set_option linter.all false
open Go.RowKit Go.Shelf Go.WideNum PN
theorem zN_nat (n : Nat) : zN ((n : Nat) : Int) = false := decide_eq_false (by omega)
structure JSt (w wr : World) (xb : Bool) (xt : ByteArray) (lv : Value) (n : Nat) (ds : List Nat) : Prop where
  h0 : wr.heap[w.heap.size]? = some (.cells #[.bool false, .string ⟨#[]⟩] 42)
  h1 : wr.heap[w.heap.size + 1]? = some (.cells #[.bool xb, .string xt] 42)
  ol : wr.owns (w.heap.size + 2) 22 1 lv n (ds.map u32V)
  bel : Below w.heap.size w wr
theorem JSt.size {w wr : World} {xb : Bool} {xt : ByteArray} {lv : Value} {n : Nat} {ds : List Nat} (h : JSt w wr xb xt lv n ds) : w.heap.size + 2 ≤ wr.heap.size := by
  have := lt_of_heap h.h1; omega
theorem JSt.below {w wr w' : World} {xb : Bool} {xt : ByteArray} {lv : Value} {n : Nat} {ds : List Nat} (h : JSt w wr xb xt lv n ds) (hb : Below wr.heap.size wr w') : JSt w w' xb xt lv n ds := by
  have hs := h.size
  exact ⟨(hb.block _ (by omega)).trans h.h0, (hb.block _ (by omega)).trans h.h1, h.ol.below hb, h.bel.trans (hb.mono h.bel.size)⟩
theorem JSt.set {w wr : World} {xb : Bool} {xt : ByteArray} {lv : Value} {n : Nat} {ds : List Nat} (h : JSt w wr xb xt lv n ds) (yb : Bool) (yt : ByteArray) : JSt w ((wr.setCell ⟨w.heap.size + 1, 0, none⟩ (.bool yb)).setCell ⟨w.heap.size + 1, 1, none⟩ (.string yt)) yb yt lv n ds := by
  refine ⟨?_, wide_set h.h1 _ _, ?_, ?_⟩
  · exact (wide_other (W := wr) (p := w.heap.size) (q := w.heap.size + 1) (by omega) _ _).trans h.h0
  · exact (h.ol.setCell (by simp) _).setCell (by simp) _
  · exact (h.bel.setCell (by simp) _).setCell (by simp) _
set_option maxRecDepth 100000 in
set_option maxHeartbeats 8000000 in
theorem join_any (b : Nat) (ps rs : List Nat) (rv : Value) (x : Nat) (w : World) (hs : SysAt w b ps) (hsys : SysP ps) (hr : w.reads w.heap.size rv (rs.map u32V)) (hrow : RowP ps rs) (hx : IsCrt ps rs x) (fb : Bool) (ft : ByteArray) (hfb : fb = zN (balZ x (prodL ps : Nat))) (hft : ft = zT (balZ x (prodL ps : Nat))) :
    Calls Try.prog 90 #[.pointer (some ⟨b, 0, none⟩), rv] w fun e w' => e = .returned (.agg #[.bool fb, .string ft]) ∧ Below w.heap.size w w' := by
  obtain ⟨HPOST, hpost⟩ : ∃ R : Ending → World → Prop, R = fun e w' => e = .returned (.agg #[.bool fb, .string ft]) ∧ Below w.heap.size w w' := ⟨_, rfl⟩
  rw [← hpost]
  have HP := Lib.hid hpost
  clear hpost
  have hsep := hsys.sep
  have hlen := hsys.2.1
  have hn1 := hsys.1
  have hdig := fun (W : World) (h1 : SysAt W b ps) (h2 : W.reads W.heap.size rv (rs.map u32V)) => digits_any b ps rs rv W h1 hsep hlen h2 hrow
  have hval : mvL ps (digL ps rs ps.length) = x := (garner_all hsep hrow).uniq hsep hrow.1 hx
  have hdl : ∀ i p : Nat, ps[i]? = some p → dgt ps rs i < p := fun i p hp => dgt_lt hsep hrow hp
  obtain ⟨ds, hds⟩ : ∃ ds, ds = digL ps rs ps.length := ⟨_, rfl⟩
  rw [← hds] at hdig hval
  have hdsl : ds.length = ps.length := by rw [hds, digL_len]
  have hdget : ∀ i, i < ps.length → ds[i]? = some (dgt ps rs i) := fun i hi => by rw [hds]; exact digL_get ps rs hi
  have hQ : prodL ps ≤ 4294967296 ^ 25 := Nat.le_trans (prodL_lt (fun p hp => by have := (hsep.mem hp).2.2; omega)) (Nat.pow_le_pow_right (by omega) hlen)
  have hbound : ∀ k, mvL (ps.drop k) (ds.drop k) < prodL (ps.drop k) := fun k => by
    refine mvL_lt _ _ (fun p hp => (hsep.mem (List.mem_of_mem_drop hp)).1.pos) (fun i p d hp hd => ?_)
    rw [List.getElem?_drop] at hp hd
    have hi : k + i < ps.length := (List.getElem?_eq_some_iff.1 hp).1
    rw [hdget _ hi] at hd
    injection hd with hd
    rw [← hd]; exact hdl _ _ hp
  have hbound2 : ∀ k, k ≤ ps.length → mvL (ps.drop k) (ds.drop k) < 4294967296 ^ (ps.length - k) := fun k hk => by
    have h1 := prodL_lt (l := ps.drop k) (fun p hp => by have := (hsep.mem (List.mem_of_mem_drop hp)).2.2; omega)
    rw [List.length_drop] at h1
    exact Nat.lt_of_lt_of_le (hbound k) h1
  have HDIG := Lib.hid hdig
  have HVAL := Lib.hid hval
  have HDL := Lib.hid hdl
  have HDS := Lib.hid hdsl
  have HDG := Lib.hid hdget
  have HQ := Lib.hid hQ
  have HBD := Lib.hid hbound2
  have HSEP := Lib.hid hsep
  have HSYS := Lib.hid hs
  have HR := Lib.hid hr
  have HFB := Lib.hid hfb
  have HFT := Lib.hid hft
  have HX := Lib.hid hx
  obtain ⟨lv, iv, h1, h2, -⟩ := hs
  have hbw := lt_of_heap h1
  obtain ⟨c0, c1, c2, -⟩ := five_sys h1
  have hl2 := h2.le_map
  obtain ⟨pa, pc, rfl, hpc, hpm, hps⟩ := reads_u32 h2
  have HS := Lib.hid hps
  obtain ⟨n, hn⟩ : ∃ n, n = ps.length := ⟨_, rfl⟩
  rw [← hn] at hpc hl2 c0 hlen hn1
  have HN := Lib.hid hn
  obtain ⟨qb, hqb⟩ : ∃ z, z = zN ((prodL ps : Nat) : Int) := ⟨_, rfl⟩
  obtain ⟨qt, hqt⟩ : ∃ z, z = zT ((prodL ps : Nat) : Int) := ⟨_, rfl⟩
  rw [← hqb] at c1
  rw [← hqt] at c2
  have HQB := Lib.hid hqb
  have HQT := Lib.hid hqt
  have HC0 := Lib.hid c0
  have HC1 := Lib.hid c1
  have HC2 := Lib.hid c2
  clear h1 h2 hps hn hsep hdig hval hdl hds hdsl hdget hQ hbound hbound2 hr hfb hft hx hqb hqt hsys c0 c1 c2 hrow
  go_enter Try.func90, Try.ntmps90
  go_upto_region 2 with (fail)
  generalize hwa : (w.alloc (.cells #[.bool false, .string ⟨#[]⟩] 42)).alloc (.cells #[.bool false, .string ⟨#[]⟩] 42) = wa
  have ha0 : wa.heap[w.heap.size]? = some (.cells #[.bool false, .string ⟨#[]⟩] 42) := by rw [← hwa, Below.heap_alloc _ _ _ (by simp)]; exact heap_alloc_new w _
  have ha1 : wa.heap[w.heap.size + 1]? = some (.cells #[.bool false, .string ⟨#[]⟩] 42) := by rw [← hwa]; exact alloc_last _ _ (by simp)
  have hab : Below w.heap.size w wa := by rw [← hwa]; exact ((Below.refl _ _).alloc (Nat.le_refl _) _).alloc (by simp) _
  have hasz : wa.heap.size = w.heap.size + 2 := by rw [← hwa]; simp
  clear hwa
  have HSA := Lib.hid (HSYS.out.below hab)
  have HRA := Lib.hid ((HR.out.below hab).mono hab.size)
  have HA0 := Lib.hid ha0
  have HA1 := Lib.hid ha1
  have HAB := Lib.hid hab
  have HASZ := Lib.hid hasz
  clear ha0 ha1 hab hasz
  go_wp2_with fail
  (with_reducible refine (HDIG.out _ HSA.out HRA.out).mono ?_)
  rintro e w1 ⟨v, rfl, ho, hb1⟩
  rw [HDS.out, ← HN.out, HASZ.out] at ho
  have HJ : Hid (JSt w w1 false ⟨#[]⟩ v n ds) := ⟨(hb1.block _ (lt_of_heap HA0.out)).trans HA0.out, (hb1.block _ (lt_of_heap HA1.out)).trans HA1.out, ho, HAB.out.trans (hb1.mono HAB.out.size)⟩
  obtain ⟨la, lc, rfl, hlc, hlm, -⟩ := ho.at_
  clear ho hb1 HSA HRA HA0 HA1 HAB HASZ
  go_wp2_with fail
  go_loopw [7] (fun iv wr => ∃ k : Nat, k ≤ n ∧ iv = .int .i64 ((k : Int) - 1) ∧ Hid (JSt w wr (zN ((mvL (ps.drop k) (ds.drop k) : Nat) : Int)) (zT ((mvL (ps.drop k) (ds.drop k) : Nat) : Int)) (.slice la n lc) n ds)) (fun iv _ => (intOf iv + 1).toNat)
  case atStart => exact ⟨n, Nat.le_refl _, rfl, by
    show JSt _ _ _ _ _ _ _
    rw [HN.out, List.drop_eq_nil_of_le (Nat.le_refl _)]
    have := HJ.out
    rw [← HN.out]
    exact this⟩
  case round =>
    obtain ⟨kk, hkk, rfl, hJ⟩ := hrel
    obtain ⟨wo, rfl⟩ : ∃ x, x = wr := ⟨_, rfl⟩
    cases kk with
    | zero =>
      have hmv : mvL (ps.drop 0) (ds.drop 0) = x := by rw [List.drop_zero, List.drop_zero]; exact HVAL.out
      rw [hmv] at hJ
      have hxl : x < 4294967296 ^ 25 := Nat.lt_of_lt_of_le HX.out.1 HQ.out
      have rX : InR (x : Int) := inR_of (k := 25) (by rw [Int.natAbs_natCast]; exact hxl) (by omega)
      have hq0 : 0 < prodL ps := Nat.lt_of_le_of_lt (Nat.zero_le _) HX.out.1
      have rQ : InR ((prodL ps : Nat) : Int) := by
        unfold InR; rw [Int.natAbs_natCast, lim_words]
        exact Nat.lt_of_le_of_lt HQ.out (Nat.pow_lt_pow_right (by omega) (by omega))
      have hbal := fun W => Balanced_z (x : Int) ((prodL ps : Nat) : Int) rX rQ (by omega) W
      unfold WideOk at hbal
      obtain ⟨xb, hxb⟩ : ∃ z, z = zN (x : Int) := ⟨_, rfl⟩
      obtain ⟨xt, hxt⟩ : ∃ z, z = zT (x : Int) := ⟨_, rfl⟩
      rw [← hxb, ← hxt] at hbal hJ
      rw [← HQB.out, ← HQT.out, ← HFB.out, ← HFT.out] at hbal
      have HBAL := Lib.hid hbal
      have hJs := hJ.out.size
      have c1 := (hJ.out.bel.cell (p := ⟨b, 1, none⟩) hbw).trans HC1.out
      have c2 := (hJ.out.bel.cell (p := ⟨b, 2, none⟩) hbw).trans HC2.out
      obtain ⟨x0, x1, -⟩ := wide_cells hJ.out.h1
      have HKEEP : Hid (∀ w', Below wo.heap.size wo w' → w'.cell? ⟨w.heap.size + 1, 0, none⟩ = some (.bool xb) ∧ w'.cell? ⟨w.heap.size + 1, 1, none⟩ = some (.string xt) ∧ w'.cell? ⟨b, 1, none⟩ = some (.bool qb) ∧ w'.cell? ⟨b, 2, none⟩ = some (.string qt)) := fun w' hb =>
        ⟨(hb.cell (p := ⟨w.heap.size + 1, 0, none⟩) (by show w.heap.size + 1 < _; omega)).trans x0, (hb.cell (p := ⟨w.heap.size + 1, 1, none⟩) (by show w.heap.size + 1 < _; omega)).trans x1, (hb.cell (p := ⟨b, 1, none⟩) (by show b < _; omega)).trans c1, (hb.cell (p := ⟨b, 2, none⟩) (by show b < _; omega)).trans c2⟩
      have t0 : ¬ (0 : Int) ≤ ((0 : Nat) : Int) - 1 := by omega
      clear hbal hxb hxt rX rQ hxl hq0 hmv
      go_wp2_with fail
      refine wp_region_late (fun w' => w'.cell? ⟨w.heap.size + 1, 0, none⟩ = some (.bool xb) ∧ w'.cell? ⟨w.heap.size + 1, 1, none⟩ = some (.string xt) ∧ w'.cell? ⟨b, 1, none⟩ = some (.bool qb) ∧ w'.cell? ⟨b, 2, none⟩ = some (.string qt)) (fun j => decide (j = 9)) (by kernel_rfl) ⟨x0, x1, c1, c2⟩ (fun hHeld => ?_)
      refine wpAnyD_take 0 (v := ?_) (by kernel_rfl) (by kernel_rfl) rfl (by kernel_rfl) (by kernel_rfl) (fun _ _ _ h => h) (Or.inl ⟨by rfl, ?_⟩) (by assumption) ?_
      rotate_left
      · (intro wq hSq; (try dsimp only at hSq); go_simp; try with_reducible rfl)
      try simp only [Act.put, List.setIfInBounds_toArray, List.set_cons_zero, List.set_cons_succ]
      refine wpAnyD_take 1 (v := ?_) (by kernel_rfl) (by kernel_rfl) rfl (by kernel_rfl) (by kernel_rfl) (fun _ _ _ h => h) (Or.inl ⟨by rfl, ?_⟩) (by assumption) ?_
      rotate_left
      · (intro wq hSq; (try dsimp only at hSq); go_simp; try with_reducible rfl)
      try simp only [Act.put, List.setIfInBounds_toArray, List.set_cons_zero, List.set_cons_succ]
      refine wpAnyD_take 2 (v := ?_) (by kernel_rfl) (by kernel_rfl) rfl (by kernel_rfl) (by kernel_rfl) (fun _ _ _ h => h) (Or.inl ⟨by rfl, ?_⟩) (by assumption) ?_
      rotate_left
      · (intro wq hSq; (try dsimp only at hSq); go_simp; try with_reducible rfl)
      try simp only [Act.put, List.setIfInBounds_toArray, List.set_cons_zero, List.set_cons_succ]
      refine wpAnyD_take 3 (v := ?_) (by kernel_rfl) (by kernel_rfl) rfl (by kernel_rfl) (by kernel_rfl) (fun _ _ _ h => h) (Or.inl ⟨by rfl, ?_⟩) (by assumption) ?_
      rotate_left
      · (intro wq hSq; (try dsimp only at hSq); go_simp; try with_reducible rfl)
      try simp only [Act.put, List.setIfInBounds_toArray, List.set_cons_zero, List.set_cons_succ]
      refine wpAnyD_take 4 (v := ?_) (by kernel_rfl) (by kernel_rfl) rfl (by kernel_rfl) (by kernel_rfl) (fun _ _ _ h => h) (Or.inl ⟨by rfl, ?_⟩) (by assumption) ?_
      rotate_left
      · (intro wq hSq; (try dsimp only at hSq); go_simp; try with_reducible rfl)
      try simp only [Act.put, List.setIfInBounds_toArray, List.set_cons_zero, List.set_cons_succ]
      refine wpAnyD_keep 5 (by kernel_rfl) rfl (fun K hK => ?_)
      go_simp
      go_at_call 109
      (with_reducible refine (HBAL.out _).mono ?_)
      rintro e w5 ⟨rfl, hb5⟩
      have hb5' : Below wo.heap.size wo w5 := ((Below.refl wo.heap.size wo).drew).trans hb5
      refine hK.out _ _ (HKEEP.out w5 hb5') (fun hHeld3 => ?_)
      have HJ5 := Lib.hid (hJ.out.below hb5')
      clear hK K hHeld hb5 hb5' x0 x1 c1 c2
      try simp only [Act.put, List.setIfInBounds_toArray, List.set_cons_zero, List.set_cons_succ]
      refine wpAnyD_takeW 6 (v := ?_) (by kernel_rfl) rfl (by kernel_rfl) (by kernel_rfl) (fun _ _ _ h => h) (Or.inl ⟨by rfl, ?_⟩) ?_
      rotate_left
      · (intro wq hSq; (try dsimp only at hSq); go_simp; try with_reducible rfl)
      try simp only [Act.put, List.setIfInBounds_toArray, List.set_cons_zero, List.set_cons_succ]
      refine wpAnyD_takeW 7 (v := ?_) (by kernel_rfl) rfl (by kernel_rfl) (by kernel_rfl) (fun _ _ _ h => h) (Or.inl ⟨by rfl, ?_⟩) ?_
      rotate_left
      · (intro wq hSq; (try dsimp only at hSq); go_simp; try with_reducible rfl)
      try simp only [Act.put, List.setIfInBounds_toArray, List.set_cons_zero, List.set_cons_succ]
      refine wpAnyD_takeW 8 (v := ?_) (by kernel_rfl) rfl (by kernel_rfl) (by kernel_rfl) (fun _ _ _ h => h) (Or.inl ⟨by rfl, ?_⟩) ?_
      rotate_left
      · (intro wq hSq; (try dsimp only at hSq); go_simp; try with_reducible rfl)
      try simp only [Act.put, List.setIfInBounds_toArray, List.set_cons_zero, List.set_cons_succ]
      refine wpAnyD_step 9 (by kernel_rfl) rfl rfl (fun K hK => ?_)
      obtain ⟨x0, x1, xf⟩ := wide_cells HJ5.out.h1
      go_simp
      refine hK.out _ _ ?_
      clear hK K hHeld3 x0 x1 xf
      refine wpAnyD_end (by kernel_rfl) ?_
      have hJ7 := HJ5.out.set fb ft
      generalize (w5.setCell ⟨w.heap.size + 1, 0, none⟩ (.bool fb)).setCell ⟨w.heap.size + 1, 1, none⟩ (.string ft) = w7 at hJ7 ⊢
      obtain ⟨x0, x1, -⟩ := wide_cells hJ7.h1
      obtain ⟨r0, r1, rf⟩ := wide_cells hJ7.h0
      have m2 := wide_set hJ7.h0 fb ft
      have hb9 := below_set2 (p := w.heap.size) hJ7.bel (Nat.le_refl _) fb ft
      clear hJ7
      go_wp2
      obtain ⟨d20, d21, -⟩ := wide_cells m2
      clear m2
      generalize (w7.setCell ⟨w.heap.size, 0, none⟩ (.bool fb)).setCell ⟨w.heap.size, 1, none⟩ (.string ft) = W9 at d20 d21 hb9 ⊢
      rw [HP.out]
      exact bodyPost_ret (v := .agg #[.bool fb, .string ft]) (by simp [results, Try.results90, go_sem, d20, d21]) rfl ⟨rfl, hb9⟩
    | succ j =>
      rw [show ((j + 1 : Nat) : Int) - 1 = (j : Int) by omega]
      have hjp : j < ps.length := by rw [← HN.out]; omega
      obtain ⟨p, hp⟩ : ∃ p, ps[j]? = some p := ⟨ps[j], List.getElem?_eq_getElem hjp⟩
      have hdj := HDG.out j hjp
      obtain ⟨d, hd⟩ : ∃ d, d = dgt ps rs j := ⟨_, rfl⟩
      rw [← hd] at hdj
      obtain ⟨b2, o2, rfl, hb2l, d2⟩ := HS.out j p hp
      obtain ⟨lb, rfl, hlb1, hlb2, hlc2⟩ := (show ∃ lb, la = some ⟨lb, 0, none⟩ ∧ w.heap.size + 2 ≤ lb ∧ lb < wo.heap.size ∧ wo.cell? ⟨lb, j, none⟩ = some (.int .u32 (d : Int)) from by
        obtain ⟨a', c', hv, -, -, hc⟩ := hJ.out.ol.at_
        injection hv with hv1 hv2 hv3
        obtain ⟨g, q1, q2, q3, q4⟩ := hc j (.int .u32 (d : Int)) (by rw [List.getElem?_map, hdj]; rfl)
        exact ⟨g, hv1.trans q1, q2, q3, q4⟩)
      obtain ⟨p1, p2, p3, p4⟩ := HSEP.out j p hp
      have hpd : d < p := by rw [hd]; exact HDL.out j p hp
      have hdrop := mvL_drop hp hdj
      have hbj := HBD.out j (by omega)
      obtain ⟨X, hX⟩ : ∃ X, X = mvL (ps.drop (j + 1)) (ds.drop (j + 1)) := ⟨_, rfl⟩
      obtain ⟨Z, hZ⟩ : ∃ Z, Z = mvL (ps.drop j) (ds.drop j) := ⟨_, rfl⟩
      rw [← hX] at hdrop hJ
      rw [← hZ] at hdrop hbj
      obtain ⟨Y, hY⟩ : ∃ Y, Y = X * p := ⟨_, rfl⟩
      rw [Nat.mul_comm p, ← hY] at hdrop
      have hXY : X ≤ Y := by rw [hY]; exact Nat.le_mul_of_pos_right X p1.pos
      have hk25 : ps.length - j ≤ 64 := by rw [← HN.out]; omega
      have rX : InR (X : Int) := inR_of (k := ps.length - j) (by rw [Int.natAbs_natCast]; omega) hk25
      have rY : InR (Y : Int) := inR_of (k := ps.length - j) (by rw [Int.natAbs_natCast]; omega) hk25
      have rZ : InR (Z : Int) := inR_of (k := ps.length - j) (by rw [Int.natAbs_natCast]; omega) hk25
      have rp : InR (p : Int) := inR_small (by omega)
      have rd : InR (d : Int) := inR_small (by omega)
      have eY : (X : Int) * (p : Int) = (Y : Int) := by rw [hY]; simp
      have eZ : (Y : Int) + (d : Int) = (Z : Int) := by omega
      have hmul := fun W => Mul_z (X : Int) (p : Int) rX rp (by rw [eY]; exact rY) W
      have hadd := fun W => Add_z (Y : Int) (d : Int) rY rd (by rw [eZ]; exact rZ) W
      have hofp := fun W => Of_z (p : Int) (by omega) (by omega) W
      have hofd := fun W => Of_z (d : Int) (by omega) (by omega) W
      unfold WideOk at hmul hadd
      rw [eY] at hmul
      rw [eZ] at hadd
      have HZ : Hid (Z = mvL (ps.drop j) (ds.drop j)) := hZ
      obtain ⟨xb, hxb⟩ : ∃ z, z = zN (X : Int) := ⟨_, rfl⟩
      obtain ⟨xt, hxt⟩ : ∃ z, z = zT (X : Int) := ⟨_, rfl⟩
      obtain ⟨yb, hyb⟩ : ∃ z, z = zN (Y : Int) := ⟨_, rfl⟩
      obtain ⟨yt, hyt⟩ : ∃ z, z = zT (Y : Int) := ⟨_, rfl⟩
      obtain ⟨zb, hzb⟩ : ∃ z, z = zN (Z : Int) := ⟨_, rfl⟩
      obtain ⟨zt, hzt⟩ : ∃ z, z = zT (Z : Int) := ⟨_, rfl⟩
      obtain ⟨pb, hpb⟩ : ∃ z, z = zN (p : Int) := ⟨_, rfl⟩
      obtain ⟨pt, hpt⟩ : ∃ z, z = zT (p : Int) := ⟨_, rfl⟩
      obtain ⟨db, hdb⟩ : ∃ z, z = zN (d : Int) := ⟨_, rfl⟩
      obtain ⟨dt, hdt⟩ : ∃ z, z = zT (d : Int) := ⟨_, rfl⟩
      rw [← hxb, ← hxt] at hmul hJ
      rw [← hpb, ← hpt] at hmul hofp
      rw [← hyb, ← hyt] at hmul hadd
      rw [← hdb, ← hdt] at hadd hofd
      rw [← hzb, ← hzt] at hadd
      have HMUL := Lib.hid hmul
      have HADD := Lib.hid hadd
      have HOFP := Lib.hid hofp
      have HOFD := Lib.hid hofd
      have HZB := Lib.hid hzb
      have HZT := Lib.hid hzt
      have hJs := hJ.out.size
      have c0 := (hJ.out.bel.cell (p := ⟨b, 0, none⟩) hbw).trans HC0.out
      have e1 := (hJ.out.bel.cell (p := ⟨b2, o2 + j, none⟩) hb2l).trans d2
      obtain ⟨x0, x1, -⟩ := wide_cells hJ.out.h1
      have HKEEP : Hid (∀ w', Below wo.heap.size wo w' → w'.cell? ⟨w.heap.size + 1, 0, none⟩ = some (.bool xb) ∧ w'.cell? ⟨w.heap.size + 1, 1, none⟩ = some (.string xt) ∧ w'.cell? ⟨b, 0, none⟩ = some (.slice (some ⟨b2, o2, none⟩) n pc) ∧ w'.cell? ⟨b2, o2 + j, none⟩ = some (.int .u32 (p : Int))) := fun w' hb =>
        ⟨(hb.cell (p := ⟨w.heap.size + 1, 0, none⟩) (by show w.heap.size + 1 < _; omega)).trans x0, (hb.cell (p := ⟨w.heap.size + 1, 1, none⟩) (by show w.heap.size + 1 < _; omega)).trans x1, (hb.cell (p := ⟨b, 0, none⟩) (by show b < _; omega)).trans c0, (hb.cell (p := ⟨b2, o2 + j, none⟩) (by show b2 < _; omega)).trans e1⟩
      have HLC := Lib.hid hlc2
      have t1 : (0 : Int) ≤ (j : Int) := by omega
      have t2 : (j : Int) < (n : Int) := by omega
      have w64p : IntKind.i64.wrap (p : Int) = (p : Int) := by rw [IntKind.wrap_i64]; omega
      have w64d : IntKind.i64.wrap (d : Int) = (d : Int) := by rw [IntKind.wrap_i64]; omega
      clear hmul hadd hofp hofd hzb hzt hxb hxt hyb hyt hpb hpt hdb hdt hX hZ hY hXY hbj hdrop hp hd hdj d2 p1 p2 p4 rX rY rZ rp rd eY eZ hk25 hjp hlc2 hpd
      go_wp2_with fail
      refine wp_region_late (fun w' => w'.cell? ⟨w.heap.size + 1, 0, none⟩ = some (.bool xb) ∧ w'.cell? ⟨w.heap.size + 1, 1, none⟩ = some (.string xt) ∧ w'.cell? ⟨b, 0, none⟩ = some (.slice (some ⟨b2, o2, none⟩) n pc) ∧ w'.cell? ⟨b2, o2 + j, none⟩ = some (.int .u32 (p : Int))) (fun j => decide (j = 14)) (by kernel_rfl) ⟨x0, x1, c0, e1⟩ (fun hHeld => ?_)
      refine wpAnyD_take 0 (v := ?_) (by kernel_rfl) (by kernel_rfl) rfl (by kernel_rfl) (by kernel_rfl) (fun _ _ _ h => h) (Or.inl ⟨by rfl, ?_⟩) (by assumption) ?_
      rotate_left
      · (intro wq hSq; (try dsimp only at hSq); go_simp; try with_reducible rfl)
      try simp only [Act.put, List.setIfInBounds_toArray, List.set_cons_zero, List.set_cons_succ]
      refine wpAnyD_take 1 (v := ?_) (by kernel_rfl) (by kernel_rfl) rfl (by kernel_rfl) (by kernel_rfl) (fun _ _ _ h => h) (Or.inl ⟨by rfl, ?_⟩) (by assumption) ?_
      rotate_left
      · (intro wq hSq; (try dsimp only at hSq); go_simp; try with_reducible rfl)
      try simp only [Act.put, List.setIfInBounds_toArray, List.set_cons_zero, List.set_cons_succ]
      refine wpAnyD_take 2 (v := ?_) (by kernel_rfl) (by kernel_rfl) rfl (by kernel_rfl) (by kernel_rfl) (fun _ _ _ h => h) (Or.inl ⟨by rfl, ?_⟩) (by assumption) ?_
      rotate_left
      · (intro wq hSq; (try dsimp only at hSq); go_simp; try with_reducible rfl)
      try simp only [Act.put, List.setIfInBounds_toArray, List.set_cons_zero, List.set_cons_succ]
      refine wpAnyD_take 3 (v := ?_) (by kernel_rfl) (by kernel_rfl) rfl (by kernel_rfl) (by kernel_rfl) (fun _ _ _ h => h) (Or.inl ⟨by rfl, ?_⟩) (by assumption) ?_
      rotate_left
      · (intro wq hSq; (try dsimp only at hSq); go_simp; try with_reducible rfl)
      try simp only [Act.put, List.setIfInBounds_toArray, List.set_cons_zero, List.set_cons_succ]
      refine wpAnyD_take 4 (v := ?_) (by kernel_rfl) (by kernel_rfl) rfl (by kernel_rfl) (by kernel_rfl) (fun _ _ _ h => h) (Or.inl ⟨by rfl, ?_⟩) (by assumption) ?_
      rotate_left
      · (intro wq hSq; (try dsimp only at hSq); go_simp; try with_reducible rfl)
      try simp only [Act.put, List.setIfInBounds_toArray, List.set_cons_zero, List.set_cons_succ]
      refine wpAnyD_take 5 (v := ?_) (by kernel_rfl) (by kernel_rfl) rfl (by kernel_rfl) (by kernel_rfl) (fun _ _ _ h => h) (Or.inl ⟨by rfl, ?_⟩) (by assumption) ?_
      rotate_left
      · (intro wq hSq; (try dsimp only at hSq); go_simp; try with_reducible rfl)
      try simp only [Act.put, List.setIfInBounds_toArray, List.set_cons_zero, List.set_cons_succ]
      refine wpAnyD_take 6 (v := ?_) (by kernel_rfl) (by kernel_rfl) rfl (by kernel_rfl) (by kernel_rfl) (fun _ _ _ h => h) (Or.inl ⟨by rfl, ?_⟩) (by assumption) ?_
      rotate_left
      · (intro wq hSq; (try dsimp only at hSq); go_simp; try with_reducible rfl)
      try simp only [Act.put, List.setIfInBounds_toArray, List.set_cons_zero, List.set_cons_succ]
      refine wpAnyD_take 7 (v := ?_) (by kernel_rfl) (by kernel_rfl) rfl (by kernel_rfl) (by kernel_rfl) (fun _ _ _ h => h) (Or.inl ⟨by rfl, ?_⟩) (by assumption) ?_
      rotate_left
      · (intro wq hSq; (try dsimp only at hSq); go_simp; try with_reducible rfl)
      try simp only [Act.put, List.setIfInBounds_toArray, List.set_cons_zero, List.set_cons_succ]
      refine wpAnyD_take 8 (v := ?_) (by kernel_rfl) (by kernel_rfl) rfl (by kernel_rfl) (by kernel_rfl) (fun _ _ _ h => h) (Or.inl ⟨by rfl, ?_⟩) (by assumption) ?_
      rotate_left
      · (intro wq hSq; (try dsimp only at hSq); go_simp; try with_reducible rfl)
      try simp only [Act.put, List.setIfInBounds_toArray, List.set_cons_zero, List.set_cons_succ]
      refine wpAnyD_keep 9 (by kernel_rfl) rfl (fun K hK => ?_)
      go_simp
      go_at_call 85
      (with_reducible refine (HOFP.out _).mono ?_)
      rintro e w5 ⟨rfl, hb5⟩
      have hb5' : Below wo.heap.size wo w5 := ((Below.refl wo.heap.size wo).drew).trans hb5
      refine hK.out _ _ (HKEEP.out w5 hb5') (fun hHeld3 => ?_)
      have HB5 := Lib.hid hb5'
      clear hK K hHeld hb5 hb5' x0 x1 c0 e1
      try simp only [Act.put, List.setIfInBounds_toArray, List.set_cons_zero, List.set_cons_succ]
      refine wpAnyD_keep 10 (by kernel_rfl) rfl (fun K hK => ?_)
      go_simp
      go_at_call 87
      (with_reducible refine (HMUL.out _).mono ?_)
      rintro e w6 ⟨rfl, hb6⟩
      have hb6' : Below wo.heap.size wo w6 := below_via HB5.out hb6
      refine hK.out _ _ (HKEEP.out w6 hb6') (fun hHeld4 => ?_)
      have HJ6 := Lib.hid (hJ.out.below hb6')
      have HB6 := Lib.hid hb6'
      clear hK K hHeld3 hb6 hb6' HB5
      try simp only [Act.put, List.setIfInBounds_toArray, List.set_cons_zero, List.set_cons_succ]
      refine wpAnyD_takeW 11 (v := ?_) (by kernel_rfl) rfl (by kernel_rfl) (by kernel_rfl) (fun _ _ _ h => h) (Or.inl ⟨by rfl, ?_⟩) ?_
      rotate_left
      · (intro wq hSq; (try dsimp only at hSq); go_simp; try with_reducible rfl)
      try simp only [Act.put, List.setIfInBounds_toArray, List.set_cons_zero, List.set_cons_succ]
      refine wpAnyD_takeW 12 (v := ?_) (by kernel_rfl) rfl (by kernel_rfl) (by kernel_rfl) (fun _ _ _ h => h) (Or.inl ⟨by rfl, ?_⟩) ?_
      rotate_left
      · (intro wq hSq; (try dsimp only at hSq); go_simp; try with_reducible rfl)
      try simp only [Act.put, List.setIfInBounds_toArray, List.set_cons_zero, List.set_cons_succ]
      refine wpAnyD_takeW 13 (v := ?_) (by kernel_rfl) rfl (by kernel_rfl) (by kernel_rfl) (fun _ _ _ h => h) (Or.inl ⟨by rfl, ?_⟩) ?_
      rotate_left
      · (intro wq hSq; (try dsimp only at hSq); go_simp; try with_reducible rfl)
      try simp only [Act.put, List.setIfInBounds_toArray, List.set_cons_zero, List.set_cons_succ]
      refine wpAnyD_step 14 (by kernel_rfl) rfl rfl (fun K hK => ?_)
      obtain ⟨x0, x1, xf⟩ := wide_cells HJ6.out.h1
      go_simp
      refine hK.out _ _ ?_
      clear hK K hHeld4 x0 x1 xf
      refine wpAnyD_end (by kernel_rfl) ?_
      have hJ7 := HJ6.out.set yb yt
      have hl7 : ((w6.setCell ⟨w.heap.size + 1, 0, none⟩ (.bool yb)).setCell ⟨w.heap.size + 1, 1, none⟩ (.string yt)).cell? ⟨lb, j, none⟩ = some (.int .u32 (d : Int)) :=
        (World.cell?_of_block (a := ⟨lb, j, none⟩) (wide_other (p := lb) (q := w.heap.size + 1) (by omega) yb yt)).trans ((HB6.out.cell (p := ⟨lb, j, none⟩) hlb2).trans HLC.out)
      have hs7 : lb < ((w6.setCell ⟨w.heap.size + 1, 0, none⟩ (.bool yb)).setCell ⟨w.heap.size + 1, 1, none⟩ (.string yt)).heap.size := by simp; exact Nat.lt_of_lt_of_le hlb2 HB6.out.size
      generalize (w6.setCell ⟨w.heap.size + 1, 0, none⟩ (.bool yb)).setCell ⟨w.heap.size + 1, 1, none⟩ (.string yt) = w7 at hJ7 hl7 hs7 ⊢
      have hJs7 := hJ7.size
      obtain ⟨x0, x1, -⟩ := wide_cells hJ7.h1
      have HJ7 := Lib.hid hJ7
      have HKEEP7 : Hid (∀ w', Below w7.heap.size w7 w' → w'.cell? ⟨w.heap.size + 1, 0, none⟩ = some (.bool yb) ∧ w'.cell? ⟨w.heap.size + 1, 1, none⟩ = some (.string yt) ∧ w'.cell? ⟨lb, j, none⟩ = some (.int .u32 (d : Int))) := fun w' hb =>
        ⟨(hb.cell (p := ⟨w.heap.size + 1, 0, none⟩) (by show w.heap.size + 1 < _; omega)).trans x0, (hb.cell (p := ⟨w.heap.size + 1, 1, none⟩) (by show w.heap.size + 1 < _; omega)).trans x1, (hb.cell (p := ⟨lb, j, none⟩) (by show lb < _; omega)).trans hl7⟩
      clear hJ7 hJ HJ6 HB6 HKEEP hlb2 HLC
      go_wp2_with fail
      refine wp_region_late (fun w' => w'.cell? ⟨w.heap.size + 1, 0, none⟩ = some (.bool yb) ∧ w'.cell? ⟨w.heap.size + 1, 1, none⟩ = some (.string yt) ∧ w'.cell? ⟨lb, j, none⟩ = some (.int .u32 (d : Int))) (fun j => decide (j = 11)) (by kernel_rfl) ⟨x0, x1, hl7⟩ (fun hHeld => ?_)
      refine wpAnyD_take 0 (v := ?_) (by kernel_rfl) (by kernel_rfl) rfl (by kernel_rfl) (by kernel_rfl) (fun _ _ _ h => h) (Or.inl ⟨by rfl, ?_⟩) (by assumption) ?_
      rotate_left
      · (intro wq hSq; (try dsimp only at hSq); go_simp; try with_reducible rfl)
      try simp only [Act.put, List.setIfInBounds_toArray, List.set_cons_zero, List.set_cons_succ]
      refine wpAnyD_take 1 (v := ?_) (by kernel_rfl) (by kernel_rfl) rfl (by kernel_rfl) (by kernel_rfl) (fun _ _ _ h => h) (Or.inl ⟨by rfl, ?_⟩) (by assumption) ?_
      rotate_left
      · (intro wq hSq; (try dsimp only at hSq); go_simp; try with_reducible rfl)
      try simp only [Act.put, List.setIfInBounds_toArray, List.set_cons_zero, List.set_cons_succ]
      refine wpAnyD_take 2 (v := ?_) (by kernel_rfl) (by kernel_rfl) rfl (by kernel_rfl) (by kernel_rfl) (fun _ _ _ h => h) (Or.inl ⟨by rfl, ?_⟩) (by assumption) ?_
      rotate_left
      · (intro wq hSq; (try dsimp only at hSq); go_simp; try with_reducible rfl)
      try simp only [Act.put, List.setIfInBounds_toArray, List.set_cons_zero, List.set_cons_succ]
      refine wpAnyD_take 3 (v := ?_) (by kernel_rfl) (by kernel_rfl) rfl (by kernel_rfl) (by kernel_rfl) (fun _ _ _ h => h) (Or.inl ⟨by rfl, ?_⟩) (by assumption) ?_
      rotate_left
      · (intro wq hSq; (try dsimp only at hSq); go_simp; try with_reducible rfl)
      try simp only [Act.put, List.setIfInBounds_toArray, List.set_cons_zero, List.set_cons_succ]
      refine wpAnyD_take 4 (v := ?_) (by kernel_rfl) (by kernel_rfl) rfl (by kernel_rfl) (by kernel_rfl) (fun _ _ _ h => h) (Or.inl ⟨by rfl, ?_⟩) (by assumption) ?_
      rotate_left
      · (intro wq hSq; (try dsimp only at hSq); go_simp; try with_reducible rfl)
      try simp only [Act.put, List.setIfInBounds_toArray, List.set_cons_zero, List.set_cons_succ]
      refine wpAnyD_take 5 (v := ?_) (by kernel_rfl) (by kernel_rfl) rfl (by kernel_rfl) (by kernel_rfl) (fun _ _ _ h => h) (Or.inl ⟨by rfl, ?_⟩) (by assumption) ?_
      rotate_left
      · (intro wq hSq; (try dsimp only at hSq); go_simp; try with_reducible rfl)
      try simp only [Act.put, List.setIfInBounds_toArray, List.set_cons_zero, List.set_cons_succ]
      refine wpAnyD_keep 6 (by kernel_rfl) rfl (fun K hK => ?_)
      go_simp
      go_at_call 85
      (with_reducible refine (HOFD.out _).mono ?_)
      rintro e w8 ⟨rfl, hb8⟩
      have hb8' : Below w7.heap.size w7 w8 := ((Below.refl w7.heap.size w7).drew).trans hb8
      refine hK.out _ _ (HKEEP7.out w8 hb8') (fun hHeld3 => ?_)
      have HB8 := Lib.hid hb8'
      clear hK K hHeld hb8 hb8' x0 x1 hl7
      try simp only [Act.put, List.setIfInBounds_toArray, List.set_cons_zero, List.set_cons_succ]
      refine wpAnyD_keep 7 (by kernel_rfl) rfl (fun K hK => ?_)
      go_simp
      go_at_call 108
      (with_reducible refine (HADD.out _).mono ?_)
      rintro e w9 ⟨rfl, hb9⟩
      have hb9' : Below w7.heap.size w7 w9 := below_via HB8.out hb9
      refine hK.out _ _ (HKEEP7.out w9 hb9') (fun hHeld4 => ?_)
      have HJ9 := Lib.hid (HJ7.out.below hb9')
      clear hK K hHeld3 hb9 hb9' HB8
      try simp only [Act.put, List.setIfInBounds_toArray, List.set_cons_zero, List.set_cons_succ]
      refine wpAnyD_takeW 8 (v := ?_) (by kernel_rfl) rfl (by kernel_rfl) (by kernel_rfl) (fun _ _ _ h => h) (Or.inl ⟨by rfl, ?_⟩) ?_
      rotate_left
      · (intro wq hSq; (try dsimp only at hSq); go_simp; try with_reducible rfl)
      try simp only [Act.put, List.setIfInBounds_toArray, List.set_cons_zero, List.set_cons_succ]
      refine wpAnyD_takeW 9 (v := ?_) (by kernel_rfl) rfl (by kernel_rfl) (by kernel_rfl) (fun _ _ _ h => h) (Or.inl ⟨by rfl, ?_⟩) ?_
      rotate_left
      · (intro wq hSq; (try dsimp only at hSq); go_simp; try with_reducible rfl)
      try simp only [Act.put, List.setIfInBounds_toArray, List.set_cons_zero, List.set_cons_succ]
      refine wpAnyD_takeW 10 (v := ?_) (by kernel_rfl) rfl (by kernel_rfl) (by kernel_rfl) (fun _ _ _ h => h) (Or.inl ⟨by rfl, ?_⟩) ?_
      rotate_left
      · (intro wq hSq; (try dsimp only at hSq); go_simp; try with_reducible rfl)
      try simp only [Act.put, List.setIfInBounds_toArray, List.set_cons_zero, List.set_cons_succ]
      refine wpAnyD_step 11 (by kernel_rfl) rfl rfl (fun K hK => ?_)
      obtain ⟨x0, x1, xf⟩ := wide_cells HJ9.out.h1
      go_simp
      refine hK.out _ _ ?_
      clear hK K hHeld4 x0 x1 xf
      refine wpAnyD_end (by kernel_rfl) ?_
      go_wp2_with fail
      go_roundw
      case rel => exact ⟨j, by omega, rfl, by
        show JSt _ _ _ _ _ _ _
        rw [← HZ.out, ← HZB.out, ← HZT.out]
        exact HJ9.out.set zb zt⟩
      case measure => simp [intOf]
end Go.Proofs.Ytkjlfjnncdkmlaa

/- Walks: division by the last prime. -/

/- Wide integers: helpers and walks, in one text (KC3 KD5 KD6 KD7). -/
/- Plain: what division by the last prime leaves. -/
namespace Go.Proofs.Ytkjlfjnncdkmlaa
set_option linter.all false
open Go.RowKit PN
theorem balZ_cg (x : Int) (m : Nat) : Cg m (balZ x m) x := by
  unfold balZ
  split
  · have h := (Cg.of_mod (m := m) (a := x)).sub Cg.zero
    rwa [Int.sub_zero] at h
  · exact Cg.of_mod
theorem Cg.of_dvd {m n : Nat} {a b : Int} (h : Cg n a b) (hd : m ∣ n) : Cg m a b := Int.dvd_trans (Int.natCast_dvd_natCast.2 hd) h
def crtN (ps rs : List Nat) : Nat := mvL ps (digL ps rs ps.length)
def joinZ (ps rs : List Nat) : Int := balZ (crtN ps rs : Nat) (prodL ps : Nat)
theorem crtN_ok {ps rs : List Nat} (hs : Sep ps) (hr : RowP ps rs) : IsCrt ps rs (crtN ps rs) := garner_all hs hr
theorem prodL_pos' {ps : List Nat} (hs : Sep ps) : 0 < prodL ps := prodL_pos fun p hp => (hs.mem hp).1.pos
theorem prodL_le25 {ps : List Nat} (hs : Sep ps) (hl : ps.length ≤ 25) : prodL ps ≤ 4294967296 ^ 25 :=
  Nat.le_trans (prodL_lt (fun p hp => by have := (hs.mem hp).2.2; omega)) (Nat.pow_le_pow_right (by omega) hl)
theorem inR_prodL {ps : List Nat} (hs : Sep ps) (hl : ps.length ≤ 25) : InR ((prodL ps : Nat) : Int) := by
  unfold InR; rw [Int.natAbs_natCast, lim_words]
  exact Nat.lt_of_le_of_lt (prodL_le25 hs hl) (Nat.pow_lt_pow_right (by omega) (by omega))
theorem joinZ_abs {ps rs : List Nat} (hs : Sep ps) : (joinZ ps rs).natAbs < prodL ps := by
  have := balZ_abs ((crtN ps rs : Nat) : Int) ((prodL ps : Nat) : Int) (by have := prodL_pos' hs; omega)
  unfold joinZ
  omega
theorem inR_joinZ {ps rs : List Nat} (hs : Sep ps) (hl : ps.length ≤ 25) : InR (joinZ ps rs) := by
  have := joinZ_abs (rs := rs) hs
  have h2 := inR_prodL hs hl
  unfold InR at *
  omega
end Go.Proofs.Ytkjlfjnncdkmlaa

/- Walks: the methods of a system. -/
namespace Go.Proofs.Ytkjlfjnncdkmlaa
set_option linter.all false
open Go.RowKit Go.Shelf Go.WideNum PN
def RowE (w : World) (l : List Nat) (E : Int) (e : Ending) (w' : World) : Prop := ∃ v, e = .returned (.tuple #[v, .int .i64 E]) ∧ w'.owns w.heap.size 22 1 v l.length (l.map u32V) ∧ Below w.heap.size w w'
theorem RowE.nil {w w' : World} (E : Int) (h : Below w.heap.size w w') : RowE w [] E (.returned (.tuple #[.slice none 0 0, .int .i64 E])) w' := ⟨_, rfl, World.owns_nil _ _ _ _, h⟩
theorem RowE.of {w w1 : World} {l : List Nat} {v : Value} (h : RowRet w l (.returned v) w1) (E : Int) : RowE w l E (.returned (.tuple #[v, .int .i64 E])) w1 := by
  obtain ⟨v', hv, h1, h2⟩ := h
  injection hv with hv
  subst hv
  exact ⟨_, rfl, h1, h2⟩
theorem RowRet.back {w w1 w2 : World} {l : List Nat} {e : Ending} (h : RowRet w1 l e w2) (hb : Below w.heap.size w w1) : RowRet w l e w2 := by
  obtain ⟨v, rfl, h1, h2⟩ := h
  exact ⟨v, rfl, h1.mono hb.size, hb.trans (h2.mono hb.size)⟩
theorem RowRet.shape {w w1 : World} {l : List Nat} {e : Ending} (h : RowRet w l e w1) : ∃ a n c, e = .returned (.slice a n c) := by
  obtain ⟨v, rfl, h1, -⟩ := h
  obtain ⟨a, c, rfl, -⟩ := h1.at_
  exact ⟨a, _, c, rfl⟩
theorem owns_empty (W : World) : (W.alloc (.cells #[] 22)).owns W.heap.size 22 1 (.slice (some ⟨W.heap.size, 0, none⟩) 0 0) 0 [] :=
  ⟨by simp, .inr ⟨W.heap.size, 0, #[], (0, 0), rfl, Nat.le_refl _, heap_alloc_new W _, okFz_zero _, Nat.le_refl _, Nat.zero_le _, by simp, by simp⟩⟩
def FormE (w : World) (z : Int) (E : Int) (e : Ending) (w' : World) : Prop := e = .returned (.tuple #[.agg #[.bool (zN z), .string (zT z)], .int .i64 E]) ∧ Below w.heap.size w w'
theorem zT_zero : zT 0 = ⟨#[]⟩ := by kernel_rfl
theorem zN_zero : zN 0 = false := by kernel_rfl
theorem row_any' (b : Nat) (ps rs : List Nat) (rv : Value) (ok : Bool) (hok : ok = true ↔ RowP ps rs) (w W : World) (hs : SysAt W b ps) (hr : w.reads w.heap.size rv (rs.map u32V)) (hb : Below w.heap.size w W) :
    Calls Try.prog 89 #[.pointer (some ⟨b, 0, none⟩), rv] W fun e w' => e = .returned (.bool ok) ∧ W = w' := row_any b ps rs rv W hs ((hr.below hb).mono hb.size) ok hok
set_option maxHeartbeats 4000000 in
theorem Join_any (b : Nat) (ps rs : List Nat) (rv : Value) (w : World) (hs : SysAt w b ps) (hsys : SysP ps) (hr : w.reads w.heap.size rv (rs.map u32V)) (ok : Bool) (hok : ok = true ↔ RowP ps rs) :
    Calls Try.prog 51 #[.pointer (some ⟨b, 0, none⟩), rv] w (FormE w (if ok then joinZ ps rs else 0) (if ok then 0 else 2)) := by
  obtain ⟨HPOST, hpost⟩ : ∃ R, R = FormE w (if ok then joinZ ps rs else 0) (if ok then 0 else 2) := ⟨_, rfl⟩
  rw [← hpost]
  have HP := Lib.hid hpost
  have HNO : Hid (∀ W, SysAt W b ps → Calls Try.prog 88 #[.pointer (some ⟨b, 0, none⟩)] W fun e w' => e = .returned (.bool false) ∧ W = w') := fun W h => none_sys b ps W h
  have HSA := Lib.hid (hs.alloc (.cells #[.bool false, .string ⟨#[]⟩] 42))
  have hab : Below w.heap.size w (w.alloc (.cells #[.bool false, .string ⟨#[]⟩] 42)) := (Below.refl _ _).alloc (Nat.le_refl _) _
  have hg : (w.alloc (.cells #[.bool false, .string ⟨#[]⟩] 42)).heap[w.heap.size]? = some (.cells #[.bool false, .string ⟨#[]⟩] 42) := heap_alloc_new w _
  have HROW := Lib.hid (row_any' b ps rs rv ok hok w _ HSA.out hr hab)
  have HRA := Lib.hid ((hr.below hab).mono hab.size)
  have HOK := Lib.hid hok
  obtain ⟨ra, rc, rfl, -⟩ := reads_u32 hr
  clear hpost hs hr hok
  go_enter Try.func51, Try.ntmps51
  go_upto_region 1 with (fail)
  generalize w.alloc (.cells #[.bool false, .string ⟨#[]⟩] 42) = wa at hab hg HSA HROW HRA ⊢
  have HG := Lib.hid hg
  have HAB := Lib.hid hab
  clear hab hg
  go_wp2_with fail
  (with_reducible refine (HNO.out _ HSA.out).mono ?_)
  rintro e w1 ⟨rfl, rfl⟩
  go_wp2_with fail
  (with_reducible refine (HROW.out).mono ?_)
  rintro e w1 ⟨rfl, rfl⟩
  cases ok with
  | false =>
    obtain ⟨x0, x1, xf⟩ := wide_cells HG.out
    go_wp2
    have m2 := wide_set HG.out false ⟨#[]⟩
    have hb9 := below_set2 (p := w.heap.size) HAB.out (Nat.le_refl _) false ⟨#[]⟩
    obtain ⟨d20, d21, -⟩ := wide_cells m2
    clear m2 x0 x1 xf
    generalize (wa.setCell ⟨w.heap.size, 0, none⟩ (.bool false)).setCell ⟨w.heap.size, 1, none⟩ (.string ⟨#[]⟩) = W9 at d20 d21 hb9 ⊢
    rw [HP.out]
    exact bodyPost_ret (v := .tuple #[.agg #[.bool false, .string ⟨#[]⟩], .int .i64 2]) (by simp [results, Try.results51, go_sem, d20, d21]) rfl ⟨by simp only [Bool.false_eq_true, if_false, zN_zero, zT_zero], hb9⟩
  | true =>
    have hrow := HOK.out.1 rfl
    obtain ⟨jb, hjb⟩ : ∃ z, z = zN (joinZ ps rs) := ⟨_, rfl⟩
    obtain ⟨jt, hjt⟩ : ∃ z, z = zT (joinZ ps rs) := ⟨_, rfl⟩
    have HJ := Lib.hid (join_any b ps rs _ (crtN ps rs) wa HSA.out hsys HRA.out hrow (crtN_ok hsys.sep hrow) jb jt hjb hjt)
    have HJB := Lib.hid hjb
    have HJT := Lib.hid hjt
    clear hjb hjt hrow
    go_wp2_with fail
    (with_reducible refine (HJ.out).mono ?_)
    rintro e w2 ⟨rfl, hb2⟩
    have hg2 := (hb2.block _ (lt_of_heap HG.out)).trans HG.out
    have hbw2 := HAB.out.trans (hb2.mono HAB.out.size)
    obtain ⟨x0, x1, xf⟩ := wide_cells hg2
    have m2 := wide_set hg2 jb jt
    have hb9 := below_set2 (p := w.heap.size) hbw2 (Nat.le_refl _) jb jt
    clear hg2 hb2 hbw2
    go_wp2
    obtain ⟨d20, d21, -⟩ := wide_cells m2
    clear m2 x0 x1 xf
    generalize (w2.setCell ⟨w.heap.size, 0, none⟩ (.bool jb)).setCell ⟨w.heap.size, 1, none⟩ (.string jt) = W9 at d20 d21 hb9 ⊢
    rw [HP.out]
    exact bodyPost_ret (v := .tuple #[.agg #[.bool jb, .string jt], .int .i64 0]) (by simp [results, Try.results51, go_sem, d20, d21]) rfl ⟨by simp only [if_true, HJB.out, HJT.out], hb9⟩
end Go.Proofs.Ytkjlfjnncdkmlaa

/- Walks: conversion, and division by the last prime. -/
namespace Go.Proofs.Ytkjlfjnncdkmlaa
set_option linter.all false
open Go.RowKit Go.Shelf Go.WideNum PN
def lastP (ps : List Nat) : Nat := ps.getD (ps.length - 1) 0
theorem last_get {ps : List Nat} (h : 1 ≤ ps.length) : ps[ps.length - 1]? = some (lastP ps) := by
  have h1 : ps.length - 1 < ps.length := by omega
  have h2 : ps[ps.length - 1]? = some (ps[ps.length - 1]) := List.getElem?_eq_getElem h1
  unfold lastP
  rw [getD_some h2]; exact h2
theorem SysP.last {ps : List Nat} (h : SysP ps) : Pr (lastP ps) ∧ lastP ps % 2 = 1 ∧ lastP ps ≤ 2147483647 ∧ 3 ≤ lastP ps := by
  have h1 := last_get h.1
  obtain ⟨a, b, c, -⟩ := h.sep _ _ h1
  exact ⟨a, b, c, h.sep.big (List.mem_of_getElem? h1)⟩
theorem RowP.last {ps rs : List Nat} (h : RowP ps rs) (h1 : 1 ≤ ps.length) : lastP rs < lastP ps := by
  have h2 := last_get h1
  have h3 := last_get (ps := rs) (by rw [h.1]; exact h1)
  rw [h.1] at h3
  exact h.2 _ _ _ h2 h3
end Go.Proofs.Ytkjlfjnncdkmlaa

/- Walks: division by the last prime of what is left after a multiple. -/

/- Plain: the least integer of a row; norms. -/
namespace Go.Proofs.Ytkjlfjnncdkmlaa
set_option linter.all false
open PN
theorem balZ_min {a b : Int} {m : Nat} (hm : 0 < m) (h : Cg m a b) : (balZ a (m : Int)).natAbs ≤ b.natAbs := by
  have h1 := Int.emod_nonneg a (show (m : Int) ≠ 0 by omega)
  have h2 := Int.emod_lt_of_pos a (show (0 : Int) < m by omega)
  obtain ⟨u, hu⟩ := (Cg.of_mod (m := m) (a := a)).trans h
  unfold balZ
  obtain ⟨r, hr⟩ : ∃ r, r = a % (m : Int) := ⟨_, rfl⟩
  rw [← hr] at h1 h2 hu ⊢
  have hb : b = r - (m : Int) * u := by omega
  obtain ⟨s, hs⟩ : ∃ s, s = (m : Int) * u := ⟨_, rfl⟩
  rw [← hs] at hb
  rcases Int.lt_or_le 0 u with hu1 | hu1
  · have : (m : Int) * 1 ≤ (m : Int) * u := Int.mul_le_mul_of_nonneg_left (by omega) (by omega)
    split <;> omega
  · have : (m : Int) * u ≤ (m : Int) * 0 := Int.mul_le_mul_of_nonneg_left hu1 (by omega)
    rw [← hs] at this
    split <;> omega
theorem join_cgQ {ps rs : List Nat} (hs : SysP ps) (hr : RowP ps rs) {z : Int} (hz : ∀ i p r : Nat, ps[i]? = some p → rs[i]? = some r → Cg p z (r : Int)) : Cg (prodL ps) (crtN ps rs : Nat) z := by
  obtain ⟨-, h2⟩ := crtN_ok hs.sep hr
  refine hs.sep.dvd _ fun p hp => ?_
  obtain ⟨i, hi⟩ := List.mem_iff_getElem?.1 hp
  have hil : i < rs.length := by rw [hr.1]; exact (List.getElem?_eq_some_iff.1 hi).1
  have hri : rs[i]? = some rs[i] := List.getElem?_eq_getElem hil
  exact (h2 i p _ hi hri).trans (hz i p _ hi hri).symm
theorem join_min {ps rs : List Nat} (hs : SysP ps) (hr : RowP ps rs) {z : Int} (hz : ∀ i p r : Nat, ps[i]? = some p → rs[i]? = some r → Cg p z (r : Int)) : (joinZ ps rs).natAbs ≤ z.natAbs :=
  balZ_min (prodL_pos' hs.sep) (join_cgQ hs hr hz)
theorem join_small {ps rs : List Nat} (hs : SysP ps) (hr : RowP ps rs) {z : Int} (hz : ∀ i p r : Nat, ps[i]? = some p → rs[i]? = some r → Cg p z (r : Int)) (h : 2 * z.natAbs < prodL ps) : joinZ ps rs = z := by
  have h1 := join_min hs hr hz
  have h2 : Cg (prodL ps) (joinZ ps rs) z := (balZ_cg _ _).trans (join_cgQ hs hr hz)
  obtain ⟨u, hu⟩ := h2
  rcases Int.lt_or_le 0 u with hu1 | hu1
  · have : ((prodL ps : Nat) : Int) * 1 ≤ ((prodL ps : Nat) : Int) * u := Int.mul_le_mul_of_nonneg_left (by omega) (by omega)
    omega
  · rcases Int.lt_or_le u 0 with hu2 | hu2
    · have : ((prodL ps : Nat) : Int) * u ≤ ((prodL ps : Nat) : Int) * (-1) := Int.mul_le_mul_of_nonneg_left (by omega) (by omega)
      omega
    · have : u = 0 := by omega
      subst this
      omega
end Go.Proofs.Ytkjlfjnncdkmlaa

/- Plain: balanced coefficients and norms of elements. -/
namespace Go.Proofs.Ytkjlfjnncdkmlaa.G
set_option linter.all false
def colL (rows : List (List Nat)) (j : Nat) : List Nat := rows.map fun r => r.getD j 0
def wC (ml : List Nat) (rows : List (List Nat)) (j : Nat) : Int := joinZ ml (colL rows j)
theorem col_row {n : Nat} {ml : List Nat} {rows : List (List Nat)} (h : EltOk n ml rows) {j : Nat} (hj : j < n) : RowP ml (colL rows j) := by
  refine ⟨by unfold colL; rw [List.length_map, h.1], fun i p r hp hr => ?_⟩
  unfold colL at hr
  rw [List.getElem?_map] at hr
  obtain ⟨x, hx, rfl⟩ := Option.map_eq_some_iff.1 hr
  obtain ⟨k1, q, k2, k3⟩ := h.2 i x hx
  rw [hp] at k2
  injection k2 with k2
  subst k2
  refine k3 _ ?_
  rw [List.getD_eq_getElem?_getD, List.getElem?_eq_getElem (by omega)]
  exact List.getElem_mem _
theorem cg_of {q : Nat} {a b : Int} (h : ∃ u, a = b + (q : Int) * u) : Cg q a b := by obtain ⟨u, rfl⟩ := h; exact ⟨u, by omega⟩
section
variable {n : Nat} {ml : List Nat} {xs ys : List (List Nat)} (hs : SysP ml) (hx : EltOk n ml xs)
include hs hx
end
def maxN (f : Nat → Int) : Nat → Nat
  | 0 => 0
  | k + 1 => max (maxN f k) (f k).natAbs
section
variable {n : Nat} {ml : List Nat} {xs ys : List (List Nat)} (hs : SysP ml) (hx : EltOk n ml xs)
include hs hx
end
end Go.Proofs.Ytkjlfjnncdkmlaa.G
