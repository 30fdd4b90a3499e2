/- Wide integers: helpers and walks, in one text (XR6 XR7 XR8 XR9). -/
import Derived.Test.YtnjblppapmflhaaXRa
import Derived.Test.YtnjblppapmflhaaWE1
/- The reference's numbers with signs: the form of a number. -/
namespace Go.Proofs.Ytnjblppapmflhaa
set_option linter.all false
open Go.RowKit Go.Shelf Go.WideNum
theorem words_cons {B : Nat} (hB : 1 < B) (x : Nat) (h : x ≠ 0) : words B x = x % B :: words B (x / B) := by
  obtain ⟨f, rfl⟩ : ∃ f, x = f + 1 := ⟨x - 1, by omega⟩
  show wordsOf B (f + 1) (f + 1) = _
  rw [wordsOf, if_neg h]
  congr 1
  have hv : valW B (words B ((f + 1) / B)) = (f + 1) / B := val_words hB _ _ (Nat.le_refl _)
  have hd : (f + 1) / B ≤ f := by have := Nat.div_lt_self (show 0 < f + 1 by omega) hB; omega
  have := words_val hB (words B ((f + 1) / B)) (words_lt (by omega) _ _) (words_trimmed hB _ _ (Nat.le_refl _)) f (by rw [hv]; exact hd)
  rw [hv] at this
  exact this
/-- The bytes above the word k, the highest first. -/
def bytesH (n k : Nat) : List Nat := (words 256 (n / 65536 ^ k)).reverse
theorem bytesH_two (n k : Nat) (h : n / 65536 ^ (k + 1) ≠ 0 ∨ 256 ≤ dig 65536 n k) : bytesH n k = bytesH n (k + 1) ++ [dig 65536 n k / 256] ++ [dig 65536 n k % 256] := by
  unfold bytesH
  have e := div_pow_succ 65536 n k
  have hd := hw_dig n k
  generalize n / 65536 ^ (k + 1) = m at *
  generalize dig 65536 n k = d at *
  rw [e, words_cons (by omega) _ (by omega), words_cons (by omega) _ (by omega)]
  rw [show (d + 65536 * m) % 256 = d % 256 by omega, show (d + 65536 * m) / 256 % 256 = d / 256 by omega, show (d + 65536 * m) / 256 / 256 = m by omega]
  simp
theorem bytesH_one (n k : Nat) (h : n / 65536 ^ (k + 1) = 0) (h2 : dig 65536 n k < 256) (h0 : dig 65536 n k ≠ 0) : bytesH n k = bytesH n (k + 1) ++ [dig 65536 n k % 256] := by
  unfold bytesH
  have e := div_pow_succ 65536 n k
  rw [h] at e ⊢
  generalize dig 65536 n k = d at *
  rw [e, Nat.mul_zero, Nat.add_zero, words_cons (by omega) _ h0, Nat.div_eq_of_lt h2]
  rfl
theorem bytesH_nil (n k : Nat) : (bytesH n k).length = 0 ↔ n / 65536 ^ k = 0 := by
  unfold bytesH
  rw [List.length_reverse]
  exact words_len0 (by omega) _
theorem bytesH_top (n : Nat) : bytesH n (hw n).length = [] := by
  unfold bytesH
  rw [Nat.div_eq_of_lt (hw_vlt n)]; rfl
theorem bytesH_zero (n : Nat) : bytesH n 0 = (words 256 n).reverse := by simp [bytesH]
theorem bytesH_lt (n k : Nat) : ∀ x ∈ bytesH n k, x < 256 := fun x hx => words_lt (by omega) _ _ x (List.mem_reverse.1 hx)
theorem bytesH_len (n k L : Nat) (h : n < 65536 ^ L) : (bytesH n k).length ≤ 2 * L := by
  unfold bytesH
  rw [List.length_reverse]
  exact words_length (by omega) _ _ (by rw [← pow2]; exact Nat.lt_of_le_of_lt (Nat.div_le_self _ _) h)
set_option maxRecDepth 100000 in
theorem conv_nil (c : Nat) (hc : c = 0) (W : World) : (convert 110 9 (.slice none 0 c)).run Try.prog W = .ok (.string ⟨#[]⟩) W := by
  subst hc; kernel_rfl
set_option maxRecDepth 100000 in
/-- What out makes of the bytes. -/
theorem bytes_string {W : World} {base n m c : Nat} {a : Option Addr} (h : W.owns base 5 1 (.slice a m c) m ((bytesH n 0).map u8V)) :
    (convert 110 9 (.slice a m c)).run Try.prog W = .ok (.string (magB n)) W := by
  have e : (bytesH n 0).map UInt8.ofNat = magL n := by rw [bytesH_zero, List.map_reverse]; rfl
  unfold magB
  rw [← e]
  rcases h.2 with ⟨e1, e2⟩ | ⟨g, cap, cur, fz, e1, _⟩
  · injection e1 with e3 e4 e5
    subst e3 e4 e5
    have hl := h.1
    simp only [List.length_map, Nat.zero_mul] at hl
    rw [List.eq_nil_of_length_eq_zero hl]
    exact conv_nil 0 rfl W
  · injection e1 with e3 e4 e5
    subst e3 e5
    exact own_string h (bytesH_lt n 0) 9 (by kernel_rfl)
set_option maxRecDepth 100000 in
set_option maxHeartbeats 8000000 in
theorem hout_any (s : Bool) (n L : Nat) (hn : n < 65536 ^ L) (hL : L ≤ 10000) (v : Value) (w : World) (hv : World.rawH w v n L) :
    Calls Try.prog 55 #[.agg #[.bool s, v]] w (FormRet w s n) := by
  obtain ⟨a, c, hva, -, -, -⟩ := rawH_words hv
  subst hva
  have HV : Hid (World.rawH w (.slice a L c) n L) := hv
  clear hv
  obtain ⟨W0, hW0⟩ : ∃ W0, W0 = (w.alloc (.cells #[.bool s, .slice a L c] 86)).alloc (.cells #[.bool false, .string ⟨#[]⟩] 38) := ⟨_, rfl⟩
  have g0 : W0.heap[w.heap.size]? = some (.cells #[.bool s, .slice a L c] 86) := by rw [hW0, Below.heap_alloc _ _ _ (by simp)]; exact heap_alloc_new w _
  have g1 : W0.heap[w.heap.size + 1]? = some (.cells #[.bool false, .string ⟨#[]⟩] 38) := by rw [hW0]; exact alloc_last _ _ (by simp)
  have hb0 : Below w.heap.size w W0 := by rw [hW0]; exact (((Below.refl _ w).alloc (Nat.le_refl _) _).alloc (by simp) _)
  have HB0 := Lib.hid hb0
  have HG0 := Lib.hid g0
  have HG1 := Lib.hid g1
  obtain ⟨c00, c01, f00, f01⟩ := num_cells g0
  have HW0 := Lib.hid hW0
  obtain ⟨S, hS⟩ : ∃ S, S = (s && decide (n ≠ 0)) := ⟨_, rfl⟩
  have htr := fun W => fun h => htrim_any s n L hn hL (.slice a L c) W h
  rw [← hS] at htr
  have HTR := Lib.hid htr
  have HBL : Hid (∀ k, (bytesH n k).length ≤ 20000) := fun k => Nat.le_trans (bytesH_len n k L hn) (by omega)
  have HO : Hid (outB s n = (if n < lim then .agg #[.bool S, .string (magB n)] else .agg #[.bool false, .string ⟨#[]⟩]) ∧ outE n = if n < lim then 0 else 7) := by
    refine ⟨?_, rfl⟩
    unfold outB emptyW wideV
    rw [hS]
  have HML : Hid ((hw n).length ≤ 10000) := Nat.le_trans (hw_len_le hn) hL
  obtain ⟨HPOST, hpost⟩ : ∃ R, R = FormRet w s n := ⟨_, rfl⟩
  rw [← hpost]
  have HP := Lib.hid hpost
  clear hb0 g0 g1 hW0 hn hS htr hpost
  go_enter Try.func55, Try.ntmps55
  go_upto_region 1 with (fail)
  rw [← HW0.out]
  go_wp2_with fail
  (with_reducible refine (HTR.out _ (rawH_below HV.out HB0.out)).mono ?_)
  rintro e w5 ⟨v5, rfl, hn5, hb5⟩
  obtain ⟨a5, M, c5, hM, rfl, hc5, hm5, hs5⟩ := numH_words hn5
  have hg5 := (hb5.block (w.heap.size) (lt_of_heap HG0.out)).trans HG0.out
  have hg51 := (hb5.block (w.heap.size + 1) (lt_of_heap HG1.out)).trans HG1.out
  have HB5 := Lib.hid (HB0.out.trans (hb5.mono HB0.out.size))
  have HN5 := Lib.hid hn5
  have HG5 := Lib.hid hg5
  have HG51 := Lib.hid hg51
  have HM := Lib.hid hM
  have hM1 : M ≤ 10000 := by rw [hM]; exact HML.out
  have hML : (M : Int) ≤ 10000 := by omega
  clear c00 c01 f00 f01
  obtain ⟨d0, d1, fz0, fz1⟩ := num_cells hg5
  clear hn5 hb5 hg5 hg51 hs5 hM hm5
  go_wp2_with fail
  clear d0 d1 fz0 fz1
  have m2 := num_set HG5.out (.bool S) (.slice a5 M c5)
  have hb2 : Below w.heap.size w ((w5.setCell ⟨w.heap.size, 0, none⟩ (.bool S)).setCell ⟨w.heap.size, 1, none⟩ (.slice a5 M c5)) := (HB5.out.setCell (by simp) _).setCell (by simp) _
  have hn2 := numH_set HN5.out HG5.out (.bool S) (.slice a5 M c5)
  have hr2 := (two_other (W := w5) (p := w.heap.size) (.bool S) (.slice a5 M c5) (w.heap.size + 1) (by omega)).trans HG51.out
  generalize (w5.setCell ⟨w.heap.size, 0, none⟩ (.bool S)).setCell ⟨w.heap.size, 1, none⟩ (.slice a5 M c5) = W2 at m2 hb2 hn2 hr2 ⊢
  obtain ⟨a', M', c', hM', e', hc', hm', hs'⟩ := numH_words hn2
  injection e' with e1 e2 e3
  subst e1 e2 e3
  have HS2 := Lib.hid hs'
  have HM2 := Lib.hid m2
  have HB2 := Lib.hid hb2
  have HR2 := Lib.hid hr2
  clear m2 hb2 hn2 hr2 hM' hs' hm'
  go_loopw [4, 5] (fun bv iv wr => ∃ (k m : Nat) (xa : Option Addr) (xc : Nat), k ≤ M ∧ iv = .int .i64 ((k : Int) - 1) ∧ bv = .slice xa m xc ∧ Hid (m = (bytesH n k).length) ∧ Hid (wr.owns W2.heap.size 5 1 (.slice xa m xc) m ((bytesH n k).map u8V)) ∧ Hid (Below W2.heap.size W2 wr)) (fun _ iv _ => (intOf iv + 1).toNat)
  case atStart => exact ⟨M, 0, none, 0, Nat.le_refl _, rfl, rfl, by show _ = _; rw [HM.out, bytesH_top]; rfl, by show World.owns _ _ _ _ _ _ _; rw [HM.out, bytesH_top]; exact owns_nil _ _ _, Below.refl _ W2⟩
  case round =>
    obtain ⟨k, m, xa, xc, hk, rfl, rfl, hml, hO, hB⟩ := hrel
    have hz := hB.out.size
    have hgr := (hB.out.block _ (lt_of_heap HM2.out)).trans HM2.out
    obtain ⟨c0, c1, f0, f1⟩ := num_cells hgr
    clear hgr
    cases k with
    | zero =>
      have h0 : ¬ (0 : Int) ≤ ((0 : Nat) : Int) - 1 := by omega
      have hcv := bytes_string hO.out
      have hg1 := (hB.out.block _ (lt_of_heap HR2.out)).trans HR2.out
      obtain ⟨d0, d1, fz0, fz1⟩ := num_cells hg1
      have HG1 := Lib.hid hg1
      have hN : m = (words 256 n).length := by rw [hml.out, bytesH_zero, List.length_reverse]
      have hli := lim_iff n m hN
      have hbw := HB2.out.trans (hB.out.mono HB2.out.size)
      have HBW := Lib.hid hbw
      obtain ⟨mb, hmb⟩ : ∃ mb, mb = magB n := ⟨_, rfl⟩
      rw [← hmb] at hcv HO
      clear hg1 hN hbw hmb
      by_cases hlt : n < lim
      · have hm256 : ¬ (256 : Int) < (m : Int) := by have := hli.1 hlt; omega
        have HO1 := Lib.hid (show outB s n = .agg #[.bool S, .string mb] by rw [HO.out.1, if_pos hlt])
        have HO2 := Lib.hid (show outE n = 0 by rw [HO.out.2, if_pos hlt])
        clear hli hlt
        go_wp2
        have m2 := num_set HG1.out (.bool S) (.string mb)
        have hb9 : Below w.heap.size w ((wr.setCell ⟨w.heap.size + 1, 0, none⟩ (.bool S)).setCell ⟨w.heap.size + 1, 1, none⟩ (.string mb)) := (HBW.out.setCell (by simp) _).setCell (by simp) _
        obtain ⟨d20, d21, -, -⟩ := num_cells m2
        clear m2 d0 d1 fz0 fz1
        generalize (wr.setCell ⟨w.heap.size + 1, 0, none⟩ (.bool S)).setCell ⟨w.heap.size + 1, 1, none⟩ (.string mb) = W9 at d20 d21 hb9 ⊢
        rw [HP.out]
        exact bodyPost_ret (v := .tuple #[.agg #[.bool S, .string mb], .int .i64 0]) (by simp [results, Try.results55, go_sem, d20, d21]) rfl ⟨by rw [HO1.out, HO2.out], hb9⟩
      · have hm256 : (256 : Int) < (m : Int) := by
          rcases Nat.lt_or_ge 256 m with h | h
          · omega
          · exact absurd (hli.2 h) hlt
        have HO1 := Lib.hid (show outB s n = .agg #[.bool false, .string ⟨#[]⟩] by rw [HO.out.1, if_neg hlt])
        have HO2 := Lib.hid (show outE n = 7 by rw [HO.out.2, if_neg hlt])
        clear hli hlt
        go_wp2
        have m2 := num_set HG1.out (.bool false) (.string ⟨#[]⟩)
        have hb9 : Below w.heap.size w ((wr.setCell ⟨w.heap.size + 1, 0, none⟩ (.bool false)).setCell ⟨w.heap.size + 1, 1, none⟩ (.string ⟨#[]⟩)) := (HBW.out.setCell (by simp) _).setCell (by simp) _
        obtain ⟨d20, d21, -, -⟩ := num_cells m2
        clear m2 d0 d1 fz0 fz1
        generalize (wr.setCell ⟨w.heap.size + 1, 0, none⟩ (.bool false)).setCell ⟨w.heap.size + 1, 1, none⟩ (.string ⟨#[]⟩) = W9 at d20 d21 hb9 ⊢
        rw [HP.out]
        exact bodyPost_ret (v := .tuple #[.agg #[.bool false, .string ⟨#[]⟩], .int .i64 7]) (by simp [results, Try.results55, go_sem, d20, d21]) rfl ⟨by rw [HO1.out, HO2.out], hb9⟩
    | succ j =>
      rw [show ((j + 1 : Nat) : Int) - 1 = (j : Int) by omega]
      obtain ⟨b, off, rfl, hbl, hx0⟩ := HS2.out j (by omega)
      have hx := (hB.out.cell (p := ⟨b, off + j, none⟩) hbl).trans hx0
      have hdl := hw_dig n j
      have hnil := bytesH_nil n (j + 1)
      rw [← hml.out] at hnil
      have hm20 := HBL.out (j + 1)
      rw [← hml.out] at hm20
      have h2 := bytesH_two n j
      have h1 := bytesH_one n j
      have htop : j + 1 = M → dig 65536 n j ≠ 0 := fun h => hw_top (by rw [← HM.out]; exact h.symm)
      have hnz : n / 65536 ^ (j + 1) = 0 → dig 65536 n j ≠ 0 := fun h => by
        refine htop ?_
        have h3 := hw_len_le (n := n) (k := j + 1) (by
          rcases Nat.lt_or_ge n (65536 ^ (j + 1)) with h4 | h4
          · exact h4
          · have := Nat.div_pos h4 (Nat.pow_pos (show 0 < 65536 by omega)); omega)
        rw [← HM.out] at h3
        omega
      obtain ⟨d, ed⟩ : ∃ x, x = dig 65536 n j := ⟨_, rfl⟩
      rw [← ed] at hx hdl h2 h1 hnz
      obtain ⟨p, ep⟩ : ∃ x, x = d / 256 := ⟨_, rfl⟩
      obtain ⟨q, eq⟩ : ∃ x, x = d % 256 := ⟨_, rfl⟩
      rw [← ep, ← eq] at h2
      rw [← eq] at h1
      have t2 : (d : Int) / 256 = (p : Int) := by omega
      have t3 : (p : Int) % 256 = (p : Int) := by omega
      have t4 : (d : Int) % 256 = (q : Int) := by omega
      have t5 : (q : Int) % 256 = (q : Int) := by omega
      have hwl := lt_of_heap HM2.out
      have hjM : (j : Int) < (M : Int) := by omega
      have hj0 : (0 : Int) ≤ (j : Int) := by omega
      clear hx0 htop ep eq
      by_cases hd : 256 ≤ d
      · have HST := Lib.hid (h2 (.inr hd))
        have u1 : (256 : Int) ≤ (d : Int) := by omega
        clear h2 h1 hnil hnz ed
        go_wp2_with (first | (at_builtin; refine app_u8 wr rfl (.tmp 27) (.tmp 35) rfl W2.heap.size (.slice xa m xc) m _ rfl hO.out (p : Int) wr.heap.size rfl rfl (by omega) hz ?_; intro v6 w6 hown6 hg6 hz6; have HO6 := Lib.hid hown6; obtain ⟨g6, q6, rfl⟩ := hown6.succ; have hb6 := below_grown hO.out hg6 W2.heap.size (Nat.le_refl _) hz; have HB6 := Lib.hid (hB.out.trans hb6); have hz7 := Nat.le_trans hz (Nat.le_of_lt hz6); have k0 := (hb6.cell (p := ⟨w.heap.size, 0, none⟩) hwl).trans c0; have k1 := (hb6.cell (p := ⟨w.heap.size, 1, none⟩) hwl).trans c1; have kx := (hb6.cell (p := ⟨b, off + j, none⟩) hbl).trans hx; clear hown6 hg6 hb6 hz6) | (at_builtin; refine app_u8 w6 rfl (.tmp 37) (.tmp 45) rfl W2.heap.size (.slice (some ⟨g6, 0, none⟩) (m + 1) q6) (m + 1) _ rfl HO6.out (q : Int) w6.heap.size rfl rfl (by omega) hz7 ?_; intro v8 w8 hown8 hg8 hz8; have HO8 := Lib.hid hown8; obtain ⟨g8, q8, rfl⟩ := hown8.succ; have HB8 := Lib.hid (HB6.out.trans (below_grown HO6.out hg8 W2.heap.size (Nat.le_refl _) hz7)); clear hown8 hg8 hz8))
        go_roundw
        case rel =>
          refine ⟨j, m + 1 + 1, some ⟨g8, 0, none⟩, q8, by omega, by first | go_num | rfl, rfl, ?_, ?_, HB8.out⟩
          · show _ = _; rw [HST.out, hml.out]; simp
          · show World.owns _ _ _ _ _ _ _
            rw [HST.out, List.map_append, List.map_append]
            exact HO8.out
        case measure => first | (simp [intOf]; done) | (simp [intOf]; omega)
      · have u1 : ¬ (256 : Int) ≤ (d : Int) := by omega
        by_cases hm0 : n / 65536 ^ (j + 1) = 0
        · have HST := Lib.hid (h1 hm0 (by omega) (hnz hm0))
          have u2 : ¬ (0 : Int) < (m : Int) := by have := hnil.2 hm0; omega
          clear h2 h1 hnil hnz hm0 ed
          go_wp2_with (at_builtin; refine app_u8 wr rfl (.tmp 37) (.tmp 45) rfl W2.heap.size (.slice xa m xc) m _ rfl hO.out (q : Int) wr.heap.size rfl rfl (by omega) hz ?_; intro v8 w8 hown8 hg8 hz8; have HO8 := Lib.hid hown8; obtain ⟨g8, q8, rfl⟩ := hown8.succ; have HB8 := Lib.hid (hB.out.trans (below_grown hO.out hg8 W2.heap.size (Nat.le_refl _) hz)); clear hown8 hg8 hz8)
          go_roundw
          case rel =>
            refine ⟨j, m + 1, some ⟨g8, 0, none⟩, q8, by omega, by first | go_num | rfl, rfl, ?_, ?_, HB8.out⟩
            · show _ = _; rw [HST.out, hml.out]; simp
            · show World.owns _ _ _ _ _ _ _
              rw [HST.out, List.map_append]
              exact HO8.out
          case measure => first | (simp [intOf]; done) | (simp [intOf]; omega)
        · have HST := Lib.hid (h2 (.inl hm0))
          have u2 : (0 : Int) < (m : Int) := by
            rcases Nat.eq_zero_or_pos m with h | h
            · exact absurd (hnil.1 h) hm0
            · omega
          clear h2 h1 hnil hnz hm0 ed
          go_wp2_with (first | (at_builtin; refine app_u8 wr rfl (.tmp 27) (.tmp 35) rfl W2.heap.size (.slice xa m xc) m _ rfl hO.out (p : Int) wr.heap.size rfl rfl (by omega) hz ?_; intro v6 w6 hown6 hg6 hz6; have HO6 := Lib.hid hown6; obtain ⟨g6, q6, rfl⟩ := hown6.succ; have hb6 := below_grown hO.out hg6 W2.heap.size (Nat.le_refl _) hz; have HB6 := Lib.hid (hB.out.trans hb6); have hz7 := Nat.le_trans hz (Nat.le_of_lt hz6); have k0 := (hb6.cell (p := ⟨w.heap.size, 0, none⟩) hwl).trans c0; have k1 := (hb6.cell (p := ⟨w.heap.size, 1, none⟩) hwl).trans c1; have kx := (hb6.cell (p := ⟨b, off + j, none⟩) hbl).trans hx; clear hown6 hg6 hb6 hz6) | (at_builtin; refine app_u8 w6 rfl (.tmp 37) (.tmp 45) rfl W2.heap.size (.slice (some ⟨g6, 0, none⟩) (m + 1) q6) (m + 1) _ rfl HO6.out (q : Int) w6.heap.size rfl rfl (by omega) hz7 ?_; intro v8 w8 hown8 hg8 hz8; have HO8 := Lib.hid hown8; obtain ⟨g8, q8, rfl⟩ := hown8.succ; have HB8 := Lib.hid (HB6.out.trans (below_grown HO6.out hg8 W2.heap.size (Nat.le_refl _) hz7)); clear hown8 hg8 hz8))
          go_roundw
          case rel =>
            refine ⟨j, m + 1 + 1, some ⟨g8, 0, none⟩, q8, by omega, by first | go_num | rfl, rfl, ?_, ?_, HB8.out⟩
            · show _ = _; rw [HST.out, hml.out]; simp
            · show World.owns _ _ _ _ _ _ _
              rw [HST.out, List.map_append, List.map_append]
              exact HO8.out
          case measure => first | (simp [intOf]; done) | (simp [intOf]; omega)
end Go.Proofs.Ytnjblppapmflhaa

/- The reference's numbers with signs: the sum. -/
namespace Go.Proofs.Ytnjblppapmflhaa
set_option linter.all false
open Go.RowKit Go.Shelf Go.WideNum
theorem hw_len_add {A C : Nat} (ha : (hw A).length ≤ 4000) (hc : (hw C).length ≤ 4000) : (hw (A + C)).length ≤ 4001 := by
  obtain ⟨K, hK⟩ : ∃ K, K = 4000 := ⟨_, rfl⟩
  rw [← hK] at ha hc
  have e1 := Nat.lt_of_lt_of_le (hw_vlt A) (Nat.pow_le_pow_right (show 0 < 65536 by omega) ha)
  have e2 := Nat.lt_of_lt_of_le (hw_vlt C) (Nat.pow_le_pow_right (show 0 < 65536 by omega) hc)
  have h3 : A + C < 65536 ^ (K + 1) := by
    rw [Nat.pow_succ]
    generalize 65536 ^ K = P at *
    omega
  have := hw_len_le h3
  omega
theorem hw_lt_sub {A C : Nat} : A - C < 65536 ^ (hw A).length := Nat.lt_of_le_of_lt (Nat.sub_le _ _) (hw_vlt A)
theorem SRet.back {w W : World} {s : Bool} {n : Nat} {e : Ending} {w' : World} (h : SRet W s n e w') (hb : Below w.heap.size w W) : SRet w s n e w' := by
  obtain ⟨v, h1, h2, h3⟩ := h
  exact ⟨v, h1, h2, hb.trans (h3.mono hb.size)⟩
theorem lt_of_cell {w : World} {b o : Nat} {v : Value} (h : w.cell? ⟨b, o, none⟩ = some v) : b < w.heap.size := by
  rcases Nat.lt_or_ge b w.heap.size with h1 | h1
  · exact h1
  · rw [World.cell?, Array.getElem?_eq_none h1] at h; cases h
theorem noInt_numv (s : Bool) (v : Value) (hv : ∀ z, v ≠ .int .u32 z) : noInt #[.bool s, v] := by
  intro u hu z e
  subst e
  have : Value.int .u32 z = v := by simpa using hu
  exact hv z this.symm
set_option maxRecDepth 100000 in
set_option maxHeartbeats 8000000 in
theorem hadd_any (an : Bool) (A : Nat) (va : Value) (bn : Bool) (C : Nat) (vb : Value) (w : World) (hA : World.numH w va A) (hC : World.numH w vb C) (hla : (hw A).length ≤ 4000) (hlc : (hw C).length ≤ 4000) :
    Calls Try.prog 56 #[.agg #[.bool an, va], .agg #[.bool bn, vb]] w (SRet w (sumS A an C bn && decide (sumN A an C bn ≠ 0)) (sumN A an C bn)) := by
  have HA : Hid (World.numH w va A) := hA
  have HC : Hid (World.numH w vb C) := hC
  obtain ⟨aa, p, ca, -, rfl, -, -, -⟩ := numH_words hA
  obtain ⟨ab, q, cb, -, rfl, -, -, -⟩ := numH_words hC
  clear hA hC
  obtain ⟨W0, hW0⟩ : ∃ W0, W0 = ((w.alloc (.cells #[.bool an, .slice aa p ca] 86)).alloc (.cells #[.bool bn, .slice ab q cb] 86)).alloc (.cells #[.bool false, .slice none 0 0] 86) := ⟨_, rfl⟩
  have g0 : W0.heap[w.heap.size]? = some (.cells #[.bool an, .slice aa p ca] 86) := by rw [hW0, Below.heap_alloc _ _ _ (by simp; omega), Below.heap_alloc _ _ _ (by simp)]; exact heap_alloc_new w _
  have g1 : W0.heap[w.heap.size + 1]? = some (.cells #[.bool bn, .slice ab q cb] 86) := by rw [hW0, Below.heap_alloc _ _ _ (by simp)]; exact alloc_last _ _ (by simp)
  have g2 : W0.heap[w.heap.size + 1 + 1]? = some (.cells #[.bool false, .slice none 0 0] 86) := by rw [hW0]; exact alloc_last _ _ (by simp)
  have hb0 : Below w.heap.size w W0 := by rw [hW0]; exact ((((Below.refl _ w).alloc (Nat.le_refl _) _).alloc (by simp) _).alloc (by simp; omega) _)
  have HB0 := Lib.hid hb0
  have HG0 := Lib.hid g0
  have HG1 := Lib.hid g1
  have HG2 := Lib.hid g2
  obtain ⟨c00, c01, f00, f01⟩ := num_cells g0
  obtain ⟨c10, c11, f10, f11⟩ := num_cells g1
  have HW0 := Lib.hid hW0
  have HNA := Lib.hid (numH_below HA.out hb0)
  have HNC := Lib.hid (numH_below HC.out hb0)
  obtain ⟨S, hS⟩ : ∃ S, S = (sumS A an C bn && decide (sumN A an C bn ≠ 0)) := ⟨_, rfl⟩
  obtain ⟨N, hN⟩ : ∃ N, N = sumN A an C bn := ⟨_, rfl⟩
  rw [← hN] at hS ⊢
  rw [← hS]
  obtain ⟨HPOST, hpost⟩ : ∃ R, R = SRet w S N := ⟨_, rfl⟩
  rw [← hpost]
  have HP := Lib.hid hpost
  clear hb0 g0 g1 g2 hW0 hpost
  have hz0 : w.heap.size < W0.heap.size := lt_of_heap HG0.out
  have hz1 : w.heap.size + 1 < W0.heap.size := lt_of_heap HG1.out
  have hz2 : w.heap.size + 1 + 1 < W0.heap.size := lt_of_heap HG2.out
  by_cases hab : an = bn
  · subst hab
    have e1 : sumN A an C an = A + C := by unfold sumN; simp
    have e2 : sumS A an C an = an := by unfold sumS; simp
    rw [e1] at hN
    rw [e2] at hS
    subst hN
    have HCA := Lib.hid (hplus_any A C _ _ W0.drew HNA.out.drew HNC.out.drew hla hlc)
    have HTR : Hid (∀ v W, World.rawH W v (A + C) (hw (A + C)).length → Calls Try.prog 83 #[.agg #[.bool an, v]] W (SRet W S (A + C))) := fun v W h => by rw [hS]; exact htrim_any an (A + C) _ (hw_vlt _) (Nat.le_trans (hw_len_add hla hlc) (by omega)) v W h
    have HRAW : Hid (∀ v W, World.numH W v (A + C) → World.rawH W v (A + C) (hw (A + C)).length) := fun v W h => numH_raw h
    have hnn : (an == an) = true := by simp
    have HBW := HB0
    have HGR := HG2
    clear hS e1 e2
    go_enter Try.func56, Try.ntmps56
    go_upto_region 1 with (fail)
    rw [← HW0.out]
    go_wp2_with fail
    refine wp_region_line (fun w' => w'.cell? ⟨w.heap.size, 0, none⟩ = some (.bool an) ∧ w'.cell? ⟨w.heap.size, 1, none⟩ = some (.slice aa p ca) ∧ w'.cell? ⟨w.heap.size + 1, 1, none⟩ = some (.slice ab q cb)) 9 (by kernel_rfl) ⟨c00, c01, c11⟩ (fun hHeld => ?_)
    refine wpAnyT_take 0 (v := ?_) (by kernel_rfl) rfl (by kernel_rfl) (by decide) rfl (by kernel_rfl) (by kernel_rfl) (fun _ _ _ h => h) (Or.inl ⟨by rfl, ?_⟩) (by assumption) ?_
    rotate_left
    · (intro wq hSq; (try dsimp only at hSq); go_simp; try with_reducible rfl)
    try simp only [Act.put, List.setIfInBounds_toArray, List.set_cons_zero, List.set_cons_succ]
    refine wpAnyT_take 1 (v := ?_) (by kernel_rfl) rfl (by kernel_rfl) (by decide) rfl (by kernel_rfl) (by kernel_rfl) (fun _ _ _ h => h) (Or.inl ⟨by rfl, ?_⟩) (by assumption) ?_
    rotate_left
    · (intro wq hSq; (try dsimp only at hSq); go_simp; try with_reducible rfl)
    try simp only [Act.put, List.setIfInBounds_toArray, List.set_cons_zero, List.set_cons_succ]
    refine wpAnyT_take 2 (v := ?_) (by kernel_rfl) rfl (by kernel_rfl) (by decide) rfl (by kernel_rfl) (by kernel_rfl) (fun _ _ _ h => h) (Or.inl ⟨by rfl, ?_⟩) (by assumption) ?_
    rotate_left
    · (intro wq hSq; (try dsimp only at hSq); go_simp; try with_reducible rfl)
    try simp only [Act.put, List.setIfInBounds_toArray, List.set_cons_zero, List.set_cons_succ]
    refine wpAnyT_take 3 (v := ?_) (by kernel_rfl) rfl (by kernel_rfl) (by decide) rfl (by kernel_rfl) (by kernel_rfl) (fun _ _ _ h => h) (Or.inl ⟨by rfl, ?_⟩) (by assumption) ?_
    rotate_left
    · (intro wq hSq; (try dsimp only at hSq); go_simp; try with_reducible rfl)
    try simp only [Act.put, List.setIfInBounds_toArray, List.set_cons_zero, List.set_cons_succ]
    refine wpAnyT_take 4 (v := ?_) (by kernel_rfl) rfl (by kernel_rfl) (by decide) rfl (by kernel_rfl) (by kernel_rfl) (fun _ _ _ h => h) (Or.inl ⟨by rfl, ?_⟩) (by assumption) ?_
    rotate_left
    · (intro wq hSq; (try dsimp only at hSq); go_simp; try with_reducible rfl)
    try simp only [Act.put, List.setIfInBounds_toArray, List.set_cons_zero, List.set_cons_succ]
    refine wpAnyT_take 5 (v := ?_) (by kernel_rfl) rfl (by kernel_rfl) (by decide) rfl (by kernel_rfl) (by kernel_rfl) (fun _ _ _ h => h) (Or.inl ⟨by rfl, ?_⟩) (by assumption) ?_
    rotate_left
    · (intro wq hSq; (try dsimp only at hSq); go_simp; try with_reducible rfl)
    try simp only [Act.put, List.setIfInBounds_toArray, List.set_cons_zero, List.set_cons_succ]
    refine wpAnyT_step 6 (by kernel_rfl) rfl (fun K hK => ?_)
    go_simp
    go_at_call 84
    (with_reducible refine (HCA.out).mono ?_)
    rintro e w5 ⟨v5, rfl, hn5, hb5⟩
    obtain ⟨a5, L5, c5, rfl⟩ : ∃ a5 L5 c5, v5 = .slice a5 L5 c5 := by obtain ⟨x, y, h⟩ := reads_len hn5; exact ⟨x, _, y, h⟩
    have hb05 : Below W0.heap.size W0 w5 := ((Below.refl _ _).drew).trans hb5
    have k0 := (hb05.cell (p := ⟨w.heap.size, 0, none⟩) hz0).trans c00
    have k1 := (hb05.cell (p := ⟨w.heap.size, 1, none⟩) hz0).trans c01
    have k2 := (hb05.cell (p := ⟨w.heap.size + 1, 1, none⟩) hz1).trans c11
    have hg5 := (hb05.block _ hz2).trans HGR.out
    have hbw5 := HBW.out.trans (hb05.mono HBW.out.size)
    have hn5' := HRAW.out _ _ hn5
    refine hK.out _ _ ⟨k0, k1, k2⟩ (fun hHeld2 => ?_)
    have HB5 := Lib.hid hbw5
    have HN5 := Lib.hid hn5'
    have HG5 := Lib.hid hg5
    clear hb5 hn5 hb05 hg5 hbw5 hn5' hK K hHeld
    try simp only [Act.put, List.setIfInBounds_toArray, List.set_cons_zero, List.set_cons_succ]
    refine wpAnyT_take 7 (v := ?_) (by kernel_rfl) rfl (by kernel_rfl) (by decide) rfl (by kernel_rfl) (by kernel_rfl) (fun _ _ _ h => h) (Or.inl ⟨by rfl, ?_⟩) (by assumption) ?_
    rotate_left
    · (intro wq hSq; (try dsimp only at hSq); go_simp; try with_reducible rfl)
    try simp only [Act.put, List.setIfInBounds_toArray, List.set_cons_zero, List.set_cons_succ]
    refine wpAnyT_step 8 (by kernel_rfl) rfl (fun K hK => ?_)
    go_simp
    go_at_call 83
    (with_reducible refine (HTR.out _ _ HN5.out).mono ?_)
    rintro e w6 ⟨v6, rfl, hn6, hb6⟩
    obtain ⟨a6, L6, c6, rfl⟩ : ∃ a5 L5 c5, v6 = .slice a5 L5 c5 := by obtain ⟨x, y, h⟩ := reads_len hn6; exact ⟨x, _, y, h⟩
    have hz5 := HB5.out.size
    have i0 := (hb6.cell (p := ⟨w.heap.size, 0, none⟩) (lt_of_cell k0)).trans k0
    have i1 := (hb6.cell (p := ⟨w.heap.size, 1, none⟩) (lt_of_cell k1)).trans k1
    have i2 := (hb6.cell (p := ⟨w.heap.size + 1, 1, none⟩) (lt_of_cell k2)).trans k2
    have hg6 := (hb6.block _ (lt_of_heap HG5.out)).trans HG5.out
    have hbw6 := HB5.out.trans (hb6.mono HB5.out.size)
    refine hK.out _ _ ⟨i0, i1, i2⟩ (fun hHeld3 => ?_)
    have HB6 := Lib.hid hbw6
    have HN6 := Lib.hid hn6
    have HG6 := Lib.hid hg6
    obtain ⟨d0, d1, fz0, fz1⟩ := num_cells hg6
    clear hb6 hn6 hg6 hbw6 hz5 k0 k1 k2 hK K hHeld2
    try simp only [Act.put, List.setIfInBounds_toArray, List.set_cons_zero, List.set_cons_succ]
    refine wpAnyT_last (by kernel_rfl) (by kernel_rfl) rfl (fun K hK => ?_)
    go_simp
    refine hK.out _ _ ?_
    clear hK K hHeld3
    have m2 := num_set HG6.out (.bool S) (.slice a6 L6 c6)
    have hb9 : Below w.heap.size w ((w6.setCell ⟨w.heap.size + 1 + 1, 0, none⟩ (.bool S)).setCell ⟨w.heap.size + 1 + 1, 1, none⟩ (.slice a6 L6 c6)) := (HB6.out.setCell (by simp; omega) _).setCell (by simp; omega) _
    have hn9 := numH_set HN6.out HG6.out (.bool S) (.slice a6 L6 c6)
    obtain ⟨d20, d21, -, -⟩ := num_cells m2
    clear m2 d0 d1 fz0 fz1 i0 i1 i2
    generalize (w6.setCell ⟨w.heap.size + 1 + 1, 0, none⟩ (.bool S)).setCell ⟨w.heap.size + 1 + 1, 1, none⟩ (.slice a6 L6 c6) = W9 at d20 d21 hb9 hn9 ⊢
    have HB9 := Lib.hid hb9
    have HN9 := Lib.hid hn9
    clear hb9 hn9
    go_wp2
    rw [HP.out]
    exact bodyPost_ret (v := .agg #[.bool S, .slice a6 L6 c6]) (by simp [results, Try.results56, go_sem, d20, d21]) rfl ⟨.slice a6 L6 c6, rfl, HN9.out, HB9.out⟩
  · obtain rfl : bn = !an := by cases an <;> cases bn <;> first | rfl | exact absurd rfl hab
    have hnn : (an == !an) = false := by cases an <;> rfl
    have HOR := Lib.hid (order_num A C _ _ W0 HNA.out HNC.out hla hlc)
    by_cases hlt : A < C
    · have e1 : sumN A an C (!an) = C - A := by unfold sumN; rw [if_neg hab, if_pos hlt]
      have e2 : sumS A an C (!an) = !an := by unfold sumS; rw [if_neg hab, if_pos hlt]
      rw [e1] at hN
      rw [e2] at hS
      obtain ⟨R, hR⟩ : ∃ R, R = cmpN A C := ⟨_, rfl⟩
      rw [← hR] at HOR
      obtain rfl : R = -1 := by rw [hR, cmpN, if_pos hlt]
      subst hN
      have HNT := Lib.hid hnn
      have HMN : Hid (∀ W va vb, World.numH W va C → World.numH W vb A → Calls Try.prog 86 #[va, vb] W (RawRet W (C - A) (hw C).length)) := fun W va vb h1 h2 => hminus_any C A (Nat.le_of_lt hlt) va vb W h1 h2 hlc hla
      have HTR : Hid (∀ v W, World.rawH W v (C - A) (hw C).length → Calls Try.prog 83 #[.agg #[.bool (!an), v]] W (SRet W S (C - A))) := fun v W h => by rw [hS]; exact htrim_any (!an) (C - A) _ hw_lt_sub (Nat.le_trans hlc (by omega)) v W h
      have HRAW : Hid (∀ v W, World.rawH W v (C - A) (hw C).length → World.rawH W v (C - A) (hw C).length) := fun v W h => h
      clear hS e1 e2 hR
      go_enter Try.func56, Try.ntmps56
      go_upto_region 1 with (fail)
      rw [← HW0.out]
      go_wp2_with fail
      (with_reducible refine (HOR.out).mono ?_)
      rintro e Wa ⟨rfl, n1, hw1⟩
      have hbd : Below W0.heap.size W0 Wa := by rw [hw1]; exact below_drewN (Below.refl _ _) n1
      have ga := (hbd.block _ hz0).trans HG0.out
      have gb := (hbd.block _ hz1).trans HG1.out
      have gr := (hbd.block _ hz2).trans HG2.out
      have hna := numH_below HNA.out hbd
      have hnc := numH_below HNC.out hbd
      have hbw := HB0.out.trans (hbd.mono HB0.out.size)
      replace hz0 := Nat.lt_of_lt_of_le hz0 hbd.size
      replace hz1 := Nat.lt_of_lt_of_le hz1 hbd.size
      replace hz2 := Nat.lt_of_lt_of_le hz2 hbd.size
      clear hbd c00 c01 c10 c11 f00 f01 f10 f11 hw1
      have HA1 := Lib.hid ga
      have HA2 := Lib.hid gb
      have HA3 := Lib.hid gr
      have HA4 := Lib.hid hna
      have HA5 := Lib.hid hnc
      have HA6 := Lib.hid hbw
      obtain ⟨c00, c01, f00, f01⟩ := num_cells ga
      obtain ⟨c10, c11, f10, f11⟩ := num_cells gb
      clear ga gb gr hna hnc hbw
      go_wp2_with fail
      have ga := HA1.out
      have gb := HA2.out
      have gr := HA3.out
      have hna := HA4.out
      have hnc := HA5.out
      have hbw := HA6.out
      clear c00 c01 c10 c11 f00 f01 f10 f11
      have ga1 := num_set ga (.bool (!an)) (.slice ab q cb)
      have gb1 := (two_other (W := Wa) (p := w.heap.size) (.bool (!an)) (.slice ab q cb) (w.heap.size + 1) (by omega)).trans gb
      have gr1 := (two_other (W := Wa) (p := w.heap.size) (.bool (!an)) (.slice ab q cb) (w.heap.size + 1 + 1) (by omega)).trans gr
      have hna1 := numH_set hna ga (.bool (!an)) (.slice ab q cb)
      have hnc1 := numH_set hnc ga (.bool (!an)) (.slice ab q cb)
      have hbw1 : Below w.heap.size w ((Wa.setCell ⟨w.heap.size, 0, none⟩ (.bool (!an))).setCell ⟨w.heap.size, 1, none⟩ (.slice ab q cb)) := (hbw.setCell (by simp) _).setCell (by simp) _
      have hs1 : ((Wa.setCell ⟨w.heap.size, 0, none⟩ (.bool (!an))).setCell ⟨w.heap.size, 1, none⟩ (.slice ab q cb)).heap.size = Wa.heap.size := by simp
      clear ga gb gr hna hnc hbw
      generalize (Wa.setCell ⟨w.heap.size, 0, none⟩ (.bool (!an))).setCell ⟨w.heap.size, 1, none⟩ (.slice ab q cb) = Wb at ga1 gb1 gr1 hna1 hnc1 hbw1 hs1 ⊢
      rw [← hs1] at hz0 hz1 hz2
      clear hs1
      have ga := (two_other (W := Wb) (p := w.heap.size + 1) (.bool an) (.slice aa p ca) (w.heap.size) (by omega)).trans ga1
      have gb := num_set gb1 (.bool an) (.slice aa p ca)
      have gr := (two_other (W := Wb) (p := w.heap.size + 1) (.bool an) (.slice aa p ca) (w.heap.size + 1 + 1) (by omega)).trans gr1
      have hna := numH_set hna1 gb1 (.bool an) (.slice aa p ca)
      have hnc := numH_set hnc1 gb1 (.bool an) (.slice aa p ca)
      have hbw : Below w.heap.size w ((Wb.setCell ⟨w.heap.size + 1, 0, none⟩ (.bool an)).setCell ⟨w.heap.size + 1, 1, none⟩ (.slice aa p ca)) := (hbw1.setCell (by simp) _).setCell (by simp) _
      have hs1 : ((Wb.setCell ⟨w.heap.size + 1, 0, none⟩ (.bool an)).setCell ⟨w.heap.size + 1, 1, none⟩ (.slice aa p ca)).heap.size = Wb.heap.size := by simp
      clear ga1 gb1 gr1 hna1 hnc1 hbw1
      generalize (Wb.setCell ⟨w.heap.size + 1, 0, none⟩ (.bool an)).setCell ⟨w.heap.size + 1, 1, none⟩ (.slice aa p ca) = W1 at ga gb gr hna hnc hbw hs1 ⊢
      rw [← hs1] at hz0 hz1 hz2
      obtain ⟨q00, q01, -, -⟩ := num_cells ga
      obtain ⟨-, q11, -, -⟩ := num_cells gb
      have HGR := Lib.hid gr
      have HBW := Lib.hid hbw
      have HCA := Lib.hid (HMN.out W1.drew _ _ hnc.drew hna.drew)
      clear hs1 ga gb gr hna hnc hbw
      refine wp_region_line (fun w' => w'.cell? ⟨w.heap.size, 0, none⟩ = some (.bool (!an)) ∧ w'.cell? ⟨w.heap.size, 1, none⟩ = some (.slice ab q cb) ∧ w'.cell? ⟨w.heap.size + 1, 1, none⟩ = some (.slice aa p ca)) 9 (by kernel_rfl) ⟨q00, q01, q11⟩ (fun hHeld => ?_)
      refine wpAnyT_take 0 (v := ?_) (by kernel_rfl) rfl (by kernel_rfl) (by decide) rfl (by kernel_rfl) (by kernel_rfl) (fun _ _ _ h => h) (Or.inl ⟨by rfl, ?_⟩) (by assumption) ?_
      rotate_left
      · (intro wq hSq; (try dsimp only at hSq); go_simp; try with_reducible rfl)
      try simp only [Act.put, List.setIfInBounds_toArray, List.set_cons_zero, List.set_cons_succ]
      refine wpAnyT_take 1 (v := ?_) (by kernel_rfl) rfl (by kernel_rfl) (by decide) rfl (by kernel_rfl) (by kernel_rfl) (fun _ _ _ h => h) (Or.inl ⟨by rfl, ?_⟩) (by assumption) ?_
      rotate_left
      · (intro wq hSq; (try dsimp only at hSq); go_simp; try with_reducible rfl)
      try simp only [Act.put, List.setIfInBounds_toArray, List.set_cons_zero, List.set_cons_succ]
      refine wpAnyT_take 2 (v := ?_) (by kernel_rfl) rfl (by kernel_rfl) (by decide) rfl (by kernel_rfl) (by kernel_rfl) (fun _ _ _ h => h) (Or.inl ⟨by rfl, ?_⟩) (by assumption) ?_
      rotate_left
      · (intro wq hSq; (try dsimp only at hSq); go_simp; try with_reducible rfl)
      try simp only [Act.put, List.setIfInBounds_toArray, List.set_cons_zero, List.set_cons_succ]
      refine wpAnyT_take 3 (v := ?_) (by kernel_rfl) rfl (by kernel_rfl) (by decide) rfl (by kernel_rfl) (by kernel_rfl) (fun _ _ _ h => h) (Or.inl ⟨by rfl, ?_⟩) (by assumption) ?_
      rotate_left
      · (intro wq hSq; (try dsimp only at hSq); go_simp; try with_reducible rfl)
      try simp only [Act.put, List.setIfInBounds_toArray, List.set_cons_zero, List.set_cons_succ]
      refine wpAnyT_take 4 (v := ?_) (by kernel_rfl) rfl (by kernel_rfl) (by decide) rfl (by kernel_rfl) (by kernel_rfl) (fun _ _ _ h => h) (Or.inl ⟨by rfl, ?_⟩) (by assumption) ?_
      rotate_left
      · (intro wq hSq; (try dsimp only at hSq); go_simp; try with_reducible rfl)
      try simp only [Act.put, List.setIfInBounds_toArray, List.set_cons_zero, List.set_cons_succ]
      refine wpAnyT_take 5 (v := ?_) (by kernel_rfl) rfl (by kernel_rfl) (by decide) rfl (by kernel_rfl) (by kernel_rfl) (fun _ _ _ h => h) (Or.inl ⟨by rfl, ?_⟩) (by assumption) ?_
      rotate_left
      · (intro wq hSq; (try dsimp only at hSq); go_simp; try with_reducible rfl)
      try simp only [Act.put, List.setIfInBounds_toArray, List.set_cons_zero, List.set_cons_succ]
      refine wpAnyT_step 6 (by kernel_rfl) rfl (fun K hK => ?_)
      go_simp
      go_at_call 86
      (with_reducible refine (HCA.out).mono ?_)
      rintro e w5 ⟨v5, rfl, hn5, hb5⟩
      obtain ⟨a5, L5, c5, rfl⟩ : ∃ a5 L5 c5, v5 = .slice a5 L5 c5 := by obtain ⟨x, y, h⟩ := reads_len hn5; exact ⟨x, _, y, h⟩
      have hb05 : Below W1.heap.size W1 w5 := ((Below.refl _ _).drew).trans hb5
      have k0 := (hb05.cell (p := ⟨w.heap.size, 0, none⟩) hz0).trans q00
      have k1 := (hb05.cell (p := ⟨w.heap.size, 1, none⟩) hz0).trans q01
      have k2 := (hb05.cell (p := ⟨w.heap.size + 1, 1, none⟩) hz1).trans q11
      have hg5 := (hb05.block _ hz2).trans HGR.out
      have hbw5 := HBW.out.trans (hb05.mono HBW.out.size)
      have hn5' := HRAW.out _ _ hn5
      refine hK.out _ _ ⟨k0, k1, k2⟩ (fun hHeld2 => ?_)
      have HB5 := Lib.hid hbw5
      have HN5 := Lib.hid hn5'
      have HG5 := Lib.hid hg5
      clear hb5 hn5 hb05 hg5 hbw5 hn5' hK K hHeld
      try simp only [Act.put, List.setIfInBounds_toArray, List.set_cons_zero, List.set_cons_succ]
      refine wpAnyT_take 7 (v := ?_) (by kernel_rfl) rfl (by kernel_rfl) (by decide) rfl (by kernel_rfl) (by kernel_rfl) (fun _ _ _ h => h) (Or.inl ⟨by rfl, ?_⟩) (by assumption) ?_
      rotate_left
      · (intro wq hSq; (try dsimp only at hSq); go_simp; try with_reducible rfl)
      try simp only [Act.put, List.setIfInBounds_toArray, List.set_cons_zero, List.set_cons_succ]
      refine wpAnyT_step 8 (by kernel_rfl) rfl (fun K hK => ?_)
      go_simp
      go_at_call 83
      (with_reducible refine (HTR.out _ _ HN5.out).mono ?_)
      rintro e w6 ⟨v6, rfl, hn6, hb6⟩
      obtain ⟨a6, L6, c6, rfl⟩ : ∃ a5 L5 c5, v6 = .slice a5 L5 c5 := by obtain ⟨x, y, h⟩ := reads_len hn6; exact ⟨x, _, y, h⟩
      have hz5 := HB5.out.size
      have i0 := (hb6.cell (p := ⟨w.heap.size, 0, none⟩) (lt_of_cell k0)).trans k0
      have i1 := (hb6.cell (p := ⟨w.heap.size, 1, none⟩) (lt_of_cell k1)).trans k1
      have i2 := (hb6.cell (p := ⟨w.heap.size + 1, 1, none⟩) (lt_of_cell k2)).trans k2
      have hg6 := (hb6.block _ (lt_of_heap HG5.out)).trans HG5.out
      have hbw6 := HB5.out.trans (hb6.mono HB5.out.size)
      refine hK.out _ _ ⟨i0, i1, i2⟩ (fun hHeld3 => ?_)
      have HB6 := Lib.hid hbw6
      have HN6 := Lib.hid hn6
      have HG6 := Lib.hid hg6
      obtain ⟨d0, d1, fz0, fz1⟩ := num_cells hg6
      clear hb6 hn6 hg6 hbw6 hz5 k0 k1 k2 hK K hHeld2
      try simp only [Act.put, List.setIfInBounds_toArray, List.set_cons_zero, List.set_cons_succ]
      refine wpAnyT_last (by kernel_rfl) (by kernel_rfl) rfl (fun K hK => ?_)
      go_simp
      refine hK.out _ _ ?_
      clear hK K hHeld3
      have m2 := num_set HG6.out (.bool S) (.slice a6 L6 c6)
      have hb9 : Below w.heap.size w ((w6.setCell ⟨w.heap.size + 1 + 1, 0, none⟩ (.bool S)).setCell ⟨w.heap.size + 1 + 1, 1, none⟩ (.slice a6 L6 c6)) := (HB6.out.setCell (by simp; omega) _).setCell (by simp; omega) _
      have hn9 := numH_set HN6.out HG6.out (.bool S) (.slice a6 L6 c6)
      obtain ⟨d20, d21, -, -⟩ := num_cells m2
      clear m2 d0 d1 fz0 fz1 i0 i1 i2
      generalize (w6.setCell ⟨w.heap.size + 1 + 1, 0, none⟩ (.bool S)).setCell ⟨w.heap.size + 1 + 1, 1, none⟩ (.slice a6 L6 c6) = W9 at d20 d21 hb9 hn9 ⊢
      have HB9 := Lib.hid hb9
      have HN9 := Lib.hid hn9
      clear hb9 hn9
      go_wp2
      rw [HP.out]
      exact bodyPost_ret (v := .agg #[.bool S, .slice a6 L6 c6]) (by simp [results, Try.results56, go_sem, d20, d21]) rfl ⟨.slice a6 L6 c6, rfl, HN9.out, HB9.out⟩
    · have e1 : sumN A an C (!an) = A - C := by unfold sumN; rw [if_neg hab, if_neg hlt]
      have e2 : sumS A an C (!an) = an := by unfold sumS; rw [if_neg hab, if_neg hlt]
      rw [e1] at hN
      rw [e2] at hS
      obtain ⟨R, hR⟩ : ∃ R, R = cmpN A C := ⟨_, rfl⟩
      rw [← hR] at HOR
      have hR0 : ¬ R < 0 := by rw [hR, cmpN, if_neg hlt]; split <;> omega
      subst hN
      have HMN : Hid (∀ W va vb, World.numH W va A → World.numH W vb C → Calls Try.prog 86 #[va, vb] W (RawRet W (A - C) (hw A).length)) := fun W va vb h1 h2 => hminus_any A C (Nat.le_of_not_lt hlt) va vb W h1 h2 hla hlc
      have HTR : Hid (∀ v W, World.rawH W v (A - C) (hw A).length → Calls Try.prog 83 #[.agg #[.bool an, v]] W (SRet W S (A - C))) := fun v W h => by rw [hS]; exact htrim_any an (A - C) _ hw_lt_sub (Nat.le_trans hla (by omega)) v W h
      have HRAW : Hid (∀ v W, World.rawH W v (A - C) (hw A).length → World.rawH W v (A - C) (hw A).length) := fun v W h => h
      clear hS e1 e2 hR
      go_enter Try.func56, Try.ntmps56
      go_upto_region 1 with (fail)
      rw [← HW0.out]
      go_wp2_with fail
      (with_reducible refine (HOR.out).mono ?_)
      rintro e Wa ⟨rfl, n1, hw1⟩
      have hbd : Below W0.heap.size W0 Wa := by rw [hw1]; exact below_drewN (Below.refl _ _) n1
      have ga := (hbd.block _ hz0).trans HG0.out
      have gb := (hbd.block _ hz1).trans HG1.out
      have gr := (hbd.block _ hz2).trans HG2.out
      have hna := numH_below HNA.out hbd
      have hnc := numH_below HNC.out hbd
      have hbw := HB0.out.trans (hbd.mono HB0.out.size)
      replace hz0 := Nat.lt_of_lt_of_le hz0 hbd.size
      replace hz1 := Nat.lt_of_lt_of_le hz1 hbd.size
      replace hz2 := Nat.lt_of_lt_of_le hz2 hbd.size
      clear hbd c00 c01 c10 c11 f00 f01 f10 f11 hw1
      obtain ⟨q00, q01, -, -⟩ := num_cells ga
      obtain ⟨-, q11, -, -⟩ := num_cells gb
      have HGR := Lib.hid gr
      have HBW := Lib.hid hbw
      have HCA := Lib.hid (HMN.out Wa.drew _ _ hna.drew hnc.drew)
      clear ga gb gr hna hnc hbw
      go_wp2_with fail
      refine wp_region_line (fun w' => w'.cell? ⟨w.heap.size, 0, none⟩ = some (.bool an) ∧ w'.cell? ⟨w.heap.size, 1, none⟩ = some (.slice aa p ca) ∧ w'.cell? ⟨w.heap.size + 1, 1, none⟩ = some (.slice ab q cb)) 9 (by kernel_rfl) ⟨q00, q01, q11⟩ (fun hHeld => ?_)
      refine wpAnyT_take 0 (v := ?_) (by kernel_rfl) rfl (by kernel_rfl) (by decide) rfl (by kernel_rfl) (by kernel_rfl) (fun _ _ _ h => h) (Or.inl ⟨by rfl, ?_⟩) (by assumption) ?_
      rotate_left
      · (intro wq hSq; (try dsimp only at hSq); go_simp; try with_reducible rfl)
      try simp only [Act.put, List.setIfInBounds_toArray, List.set_cons_zero, List.set_cons_succ]
      refine wpAnyT_take 1 (v := ?_) (by kernel_rfl) rfl (by kernel_rfl) (by decide) rfl (by kernel_rfl) (by kernel_rfl) (fun _ _ _ h => h) (Or.inl ⟨by rfl, ?_⟩) (by assumption) ?_
      rotate_left
      · (intro wq hSq; (try dsimp only at hSq); go_simp; try with_reducible rfl)
      try simp only [Act.put, List.setIfInBounds_toArray, List.set_cons_zero, List.set_cons_succ]
      refine wpAnyT_take 2 (v := ?_) (by kernel_rfl) rfl (by kernel_rfl) (by decide) rfl (by kernel_rfl) (by kernel_rfl) (fun _ _ _ h => h) (Or.inl ⟨by rfl, ?_⟩) (by assumption) ?_
      rotate_left
      · (intro wq hSq; (try dsimp only at hSq); go_simp; try with_reducible rfl)
      try simp only [Act.put, List.setIfInBounds_toArray, List.set_cons_zero, List.set_cons_succ]
      refine wpAnyT_take 3 (v := ?_) (by kernel_rfl) rfl (by kernel_rfl) (by decide) rfl (by kernel_rfl) (by kernel_rfl) (fun _ _ _ h => h) (Or.inl ⟨by rfl, ?_⟩) (by assumption) ?_
      rotate_left
      · (intro wq hSq; (try dsimp only at hSq); go_simp; try with_reducible rfl)
      try simp only [Act.put, List.setIfInBounds_toArray, List.set_cons_zero, List.set_cons_succ]
      refine wpAnyT_take 4 (v := ?_) (by kernel_rfl) rfl (by kernel_rfl) (by decide) rfl (by kernel_rfl) (by kernel_rfl) (fun _ _ _ h => h) (Or.inl ⟨by rfl, ?_⟩) (by assumption) ?_
      rotate_left
      · (intro wq hSq; (try dsimp only at hSq); go_simp; try with_reducible rfl)
      try simp only [Act.put, List.setIfInBounds_toArray, List.set_cons_zero, List.set_cons_succ]
      refine wpAnyT_take 5 (v := ?_) (by kernel_rfl) rfl (by kernel_rfl) (by decide) rfl (by kernel_rfl) (by kernel_rfl) (fun _ _ _ h => h) (Or.inl ⟨by rfl, ?_⟩) (by assumption) ?_
      rotate_left
      · (intro wq hSq; (try dsimp only at hSq); go_simp; try with_reducible rfl)
      try simp only [Act.put, List.setIfInBounds_toArray, List.set_cons_zero, List.set_cons_succ]
      refine wpAnyT_step 6 (by kernel_rfl) rfl (fun K hK => ?_)
      go_simp
      go_at_call 86
      (with_reducible refine (HCA.out).mono ?_)
      rintro e w5 ⟨v5, rfl, hn5, hb5⟩
      obtain ⟨a5, L5, c5, rfl⟩ : ∃ a5 L5 c5, v5 = .slice a5 L5 c5 := by obtain ⟨x, y, h⟩ := reads_len hn5; exact ⟨x, _, y, h⟩
      have hb05 : Below Wa.heap.size Wa w5 := ((Below.refl _ _).drew).trans hb5
      have k0 := (hb05.cell (p := ⟨w.heap.size, 0, none⟩) hz0).trans q00
      have k1 := (hb05.cell (p := ⟨w.heap.size, 1, none⟩) hz0).trans q01
      have k2 := (hb05.cell (p := ⟨w.heap.size + 1, 1, none⟩) hz1).trans q11
      have hg5 := (hb05.block _ hz2).trans HGR.out
      have hbw5 := HBW.out.trans (hb05.mono HBW.out.size)
      have hn5' := HRAW.out _ _ hn5
      refine hK.out _ _ ⟨k0, k1, k2⟩ (fun hHeld2 => ?_)
      have HB5 := Lib.hid hbw5
      have HN5 := Lib.hid hn5'
      have HG5 := Lib.hid hg5
      clear hb5 hn5 hb05 hg5 hbw5 hn5' hK K hHeld
      try simp only [Act.put, List.setIfInBounds_toArray, List.set_cons_zero, List.set_cons_succ]
      refine wpAnyT_take 7 (v := ?_) (by kernel_rfl) rfl (by kernel_rfl) (by decide) rfl (by kernel_rfl) (by kernel_rfl) (fun _ _ _ h => h) (Or.inl ⟨by rfl, ?_⟩) (by assumption) ?_
      rotate_left
      · (intro wq hSq; (try dsimp only at hSq); go_simp; try with_reducible rfl)
      try simp only [Act.put, List.setIfInBounds_toArray, List.set_cons_zero, List.set_cons_succ]
      refine wpAnyT_step 8 (by kernel_rfl) rfl (fun K hK => ?_)
      go_simp
      go_at_call 83
      (with_reducible refine (HTR.out _ _ HN5.out).mono ?_)
      rintro e w6 ⟨v6, rfl, hn6, hb6⟩
      obtain ⟨a6, L6, c6, rfl⟩ : ∃ a5 L5 c5, v6 = .slice a5 L5 c5 := by obtain ⟨x, y, h⟩ := reads_len hn6; exact ⟨x, _, y, h⟩
      have hz5 := HB5.out.size
      have i0 := (hb6.cell (p := ⟨w.heap.size, 0, none⟩) (lt_of_cell k0)).trans k0
      have i1 := (hb6.cell (p := ⟨w.heap.size, 1, none⟩) (lt_of_cell k1)).trans k1
      have i2 := (hb6.cell (p := ⟨w.heap.size + 1, 1, none⟩) (lt_of_cell k2)).trans k2
      have hg6 := (hb6.block _ (lt_of_heap HG5.out)).trans HG5.out
      have hbw6 := HB5.out.trans (hb6.mono HB5.out.size)
      refine hK.out _ _ ⟨i0, i1, i2⟩ (fun hHeld3 => ?_)
      have HB6 := Lib.hid hbw6
      have HN6 := Lib.hid hn6
      have HG6 := Lib.hid hg6
      obtain ⟨d0, d1, fz0, fz1⟩ := num_cells hg6
      clear hb6 hn6 hg6 hbw6 hz5 k0 k1 k2 hK K hHeld2
      try simp only [Act.put, List.setIfInBounds_toArray, List.set_cons_zero, List.set_cons_succ]
      refine wpAnyT_last (by kernel_rfl) (by kernel_rfl) rfl (fun K hK => ?_)
      go_simp
      refine hK.out _ _ ?_
      clear hK K hHeld3
      have m2 := num_set HG6.out (.bool S) (.slice a6 L6 c6)
      have hb9 : Below w.heap.size w ((w6.setCell ⟨w.heap.size + 1 + 1, 0, none⟩ (.bool S)).setCell ⟨w.heap.size + 1 + 1, 1, none⟩ (.slice a6 L6 c6)) := (HB6.out.setCell (by simp; omega) _).setCell (by simp; omega) _
      have hn9 := numH_set HN6.out HG6.out (.bool S) (.slice a6 L6 c6)
      obtain ⟨d20, d21, -, -⟩ := num_cells m2
      clear m2 d0 d1 fz0 fz1 i0 i1 i2
      generalize (w6.setCell ⟨w.heap.size + 1 + 1, 0, none⟩ (.bool S)).setCell ⟨w.heap.size + 1 + 1, 1, none⟩ (.slice a6 L6 c6) = W9 at d20 d21 hb9 hn9 ⊢
      have HB9 := Lib.hid hb9
      have HN9 := Lib.hid hn9
      clear hb9 hn9
      go_wp2
      rw [HP.out]
      exact bodyPost_ret (v := .agg #[.bool S, .slice a6 L6 c6]) (by simp [results, Try.results56, go_sem, d20, d21]) rfl ⟨.slice a6 L6 c6, rfl, HN9.out, HB9.out⟩
end Go.Proofs.Ytnjblppapmflhaa

/- The reference's numbers with signs: the product. -/
namespace Go.Proofs.Ytnjblppapmflhaa
set_option linter.all false
open Go.RowKit Go.Shelf Go.WideNum
theorem list_dig {B : Nat} (hB : 0 < B) (t : List Nat) (L : Nat) (ht : t.length = L) (hl : ∀ x ∈ t, x < B) : t = (List.range L).map (dig B (valW B t)) := by
  apply List.ext_getElem
  · simp [ht]
  · intro i h1 h2
    rw [List.getElem_map, List.getElem_range, valW_dig hB t hl, List.getD_eq_getElem?_getD, List.getElem?_eq_getElem h1]
    rfl
theorem zrow_map (n : Nat) : zrow n = ((List.replicate n 0).map u32V).toArray := by simp [zrow, u32V]
set_option maxRecDepth 100000 in
set_option maxHeartbeats 8000000 in
theorem hmul_any (an : Bool) (A : Nat) (va : Value) (bn : Bool) (C : Nat) (vb : Value) (w : World) (hA : World.numH w va A) (hC : World.numH w vb C) (hla : (hw A).length ≤ 4000) (hlc : (hw C).length ≤ 4000) :
    Calls Try.prog 60 #[.agg #[.bool an, va], .agg #[.bool bn, vb]] w (SRet w ((an != bn) && decide (A * C ≠ 0)) (A * C)) := by
  obtain ⟨aa, p, ca, hp, rfl, hca, hma, hsa⟩ := numH_words hA
  obtain ⟨ab, q, cb, hq, rfl, hcb, hmb, hsb⟩ := numH_words hC
  clear hA hC
  have hva := hw_vlt A
  have hvc := hw_vlt C
  rw [← hp] at hla hva
  rw [← hq] at hlc hvc
  have HA := Lib.hid hsa
  have HC := Lib.hid hsb
  have HVA := Lib.hid hva
  have HVC := Lib.hid hvc
  obtain ⟨sg, hsg⟩ : ∃ sg, sg = (an != bn) := ⟨_, rfl⟩
  rw [← hsg]
  have HSG := Lib.hid hsg
  obtain ⟨S, hS⟩ : ∃ S, S = (sg && decide (A * C ≠ 0)) := ⟨_, rfl⟩
  rw [← hS]
  have HTR : Hid (∀ v W, World.rawH W v (A * C) (p + q) → Calls Try.prog 83 #[.agg #[.bool sg, v]] W (SRet W S (A * C))) := fun v W h => by
    rw [hS]
    exact htrim_any sg (A * C) _ (by rw [Nat.pow_add]; exact Nat.mul_lt_mul'' hva hvc) (by omega) v W h
  obtain ⟨HPOST, hpost⟩ : ∃ R, R = SRet w S (A * C) := ⟨_, rfl⟩
  rw [← hpost]
  have HP := Lib.hid hpost
  have hmk : ∀ W : World, (Instr.makeSlice 22 (.int .i64 ((p : Int) + (q : Int))) (.int .i64 ((p : Int) + (q : Int)))).run Try.prog W = .ok (.slice (some ⟨W.heap.size, 0, none⟩) (p + q) (p + q)) (W.alloc (.cells (zrow (p + q)) 23)) := fun W => make_u32 (p + q) (by omega) W
  clear hp hq hsa hsb hva hvc hpost hS hsg hma hmb
  obtain ⟨W0, hW0⟩ : ∃ W0, W0 = ((w.alloc (.cells #[.bool an, .slice aa p ca] 86)).alloc (.cells #[.bool bn, .slice ab q cb] 86)).alloc (.cells #[.bool false, .slice none 0 0] 86) := ⟨_, rfl⟩
  have g0 : W0.heap[w.heap.size]? = some (.cells #[.bool an, .slice aa p ca] 86) := by rw [hW0, Below.heap_alloc _ _ _ (by simp; omega), Below.heap_alloc _ _ _ (by simp)]; exact heap_alloc_new w _
  have g1 : W0.heap[w.heap.size + 1]? = some (.cells #[.bool bn, .slice ab q cb] 86) := by rw [hW0, Below.heap_alloc _ _ _ (by simp)]; exact alloc_last _ _ (by simp)
  have g2 : W0.heap[w.heap.size + 1 + 1]? = some (.cells #[.bool false, .slice none 0 0] 86) := by rw [hW0]; exact alloc_last _ _ (by simp)
  have hb0 : Below w.heap.size w W0 := by rw [hW0]; exact ((((Below.refl _ w).alloc (Nat.le_refl _) _).alloc (by simp) _).alloc (by simp; omega) _)
  have HB0 := Lib.hid hb0
  have HG0 := Lib.hid g0
  have HG1 := Lib.hid g1
  have HG2 := Lib.hid g2
  obtain ⟨c00, c01, f00, f01⟩ := num_cells g0
  obtain ⟨c10, c11, f10, f11⟩ := num_cells g1
  have HW0 := Lib.hid hW0
  have hz0 : w.heap.size < W0.heap.size := lt_of_heap HG0.out
  have hz1 : w.heap.size + 1 < W0.heap.size := lt_of_heap HG1.out
  have hz2 : w.heap.size + 1 + 1 < W0.heap.size := lt_of_heap HG2.out
  clear hb0 g0 g1 g2 hW0
  go_enter Try.func60, Try.ntmps60
  go_upto_region 1 with (fail)
  rw [← HW0.out]
  go_wp2_with fail
  go_loopw [6] (fun iv wr => ∃ (i : Nat) (t : List Nat), i ≤ p ∧ iv = .int .i64 (i : Int) ∧ MulSt 65536 A C i 0 0 t q (p + q) ∧ wr.heap[W0.heap.size]? = some (.cells (t.map u32V).toArray 23) ∧ Below W0.heap.size W0 wr) (fun iv _ => p - (intOf iv).toNat)
  case atStart => exact ⟨0, List.replicate (p + q) 0, Nat.zero_le _, rfl, MulSt.start (by omega) rfl, by rw [← zrow_map]; exact heap_alloc_new W0 _, (Below.refl _ W0).alloc (Nat.le_refl _) _⟩
  case round =>
    obtain ⟨i, t, hi, rfl, hM, hg, hb⟩ := hrel
    have hz3 := lt_of_heap hg
    clear c00 c01 c10 c11 f00 f01 f10 f11 hmk
    by_cases hlt : i < p
    · obtain ⟨b, off, rfl, hbl, hx0⟩ := HA.out i hlt
      obtain ⟨wo, hwo⟩ : ∃ x, x = wr := ⟨_, rfl⟩
      rw [← hwo] at hg hb ⊢
      clear hwo
      obtain ⟨c00, c01, f00, f01⟩ := num_cells ((hb.block _ hz0).trans HG0.out)
      have HM := Lib.hid hM
      have HG := Lib.hid hg
      have HB := Lib.hid hb
      clear hM hg hb
      go_wp2_with fail
      clear c00 c01 f00 f01
      go_loopw [7, 8] (fun cv kv wr => ∃ (k c : Nat) (t : List Nat), k ≤ q ∧ kv = .int .i64 (k : Int) ∧ cv = .int .u32 (c : Int) ∧ MulSt 65536 A C i k c t q (p + q) ∧ wr.heap[W0.heap.size]? = some (.cells (t.map u32V).toArray 23) ∧ Below W0.heap.size W0 wr) (fun _ kv _ => q - (intOf kv).toNat)
      case atStart => exact ⟨0, 0, t, Nat.zero_le _, rfl, rfl, HM.out, HG.out, HB.out⟩
      case round =>
        obtain ⟨k, c, t2, hk, rfl, rfl, hM, hg, hb⟩ := hrel
        obtain ⟨c00, c01, f00, f01⟩ := num_cells ((hb.block _ hz0).trans HG0.out)
        obtain ⟨c10, c11, f10, f11⟩ := num_cells ((hb.block _ hz1).trans HG1.out)
        by_cases hkt : k < q
        · obtain ⟨b2, off2, rfl, hbl2, hy0⟩ := HC.out k hkt
          have hx := (hb.cell (p := ⟨b, off + i, none⟩) (show b < W0.heap.size by omega)).trans ((HB0.out.cell (p := ⟨b, off + i, none⟩) hbl).trans hx0)
          have hy := (hb.cell (p := ⟨b2, off2 + k, none⟩) (show b2 < W0.heap.size by omega)).trans ((HB0.out.cell (p := ⟨b2, off2 + k, none⟩) hbl2).trans hy0)
          obtain ⟨hs, hM2⟩ := hM.step (by omega) hkt (by omega)
          obtain ⟨hcu, hfu⟩ := arr_cell hg (i + k) (by rw [hM.len]; omega)
          have hxd := hw_dig A i
          have hyd := hw_dig C k
          have hvd := getD_lt (B := 65536) (by omega) hM.low (i + k)
          have hcd := hM.clt
          obtain ⟨x, ex⟩ : ∃ x, x = dig 65536 A i := ⟨_, rfl⟩
          obtain ⟨y, ey⟩ : ∃ x, x = dig 65536 C k := ⟨_, rfl⟩
          obtain ⟨v, ev⟩ : ∃ x, x = t2.getD (i + k) 0 := ⟨_, rfl⟩
          rw [← ex] at hx hs hM2 hxd
          rw [← ey] at hy hs hM2 hyd
          rw [← ev] at hcu hs hM2 hvd
          obtain ⟨m, em⟩ : ∃ m, m = x * y := ⟨_, rfl⟩
          rw [← em] at hs hM2
          obtain ⟨n1, en⟩ : ∃ n, n = c + v := ⟨_, rfl⟩
          obtain ⟨s, es⟩ : ∃ n, n = n1 + m := ⟨_, rfl⟩
          rw [show c + (v + m) = s by omega] at hs hM2
          have w1 : IntKind.u32.wrap ((x : Int) * (y : Int)) = (m : Int) := by
            rw [← Int.natCast_mul, ← em, IntKind.wrap_u32]
            omega
          have w2 : IntKind.u32.wrap ((c : Int) + (v : Int)) = (n1 : Int) := by rw [IntKind.wrap_u32]; omega
          have w3 : IntKind.u32.wrap ((n1 : Int) + (m : Int)) = (s : Int) := by rw [IntKind.wrap_u32]; omega
          obtain ⟨j, ej⟩ : ∃ j, j = i + k := ⟨_, rfl⟩
          have w7 : IntKind.i64.wrap ((i : Int) + (k : Int)) = (j : Int) := by rw [ej]; exact IntWalk.i64_in _ (by omega)
          have w8 : (0 : Int) ≤ (j : Int) := by omega
          have w9 : (j : Int) < ((p + q : Nat) : Int) := by omega
          have w9' : (j : Int) < (p : Int) + (q : Int) := by omega
          have w10 : (i : Int) < (p : Int) := by omega
          have w11 : (k : Int) < (q : Int) := by omega
          have w12 : (i : Int) + (k : Int) = (j : Int) := by omega
          have w13 : IntKind.i64.wrap (j : Int) = (j : Int) := IntWalk.i64_in _ (by omega)
          rw [← ej] at hcu hfu hM2
          have HG2 := Lib.hid hg
          have HM2 := Lib.hid hM2
          clear hx0 hy0 ex ey ev em en es ej hg hM hM2
          go_wp2_with fail
          refine wp_region_heldL (fun w' => w'.cell? ⟨W0.heap.size, j, none⟩ = some (.int .u32 (v : Int)) ∧ w'.cell? ⟨w.heap.size, 1, none⟩ = some (.slice (some ⟨b, off, none⟩) p ca) ∧ w'.cell? ⟨w.heap.size + 1, 1, none⟩ = some (.slice (some ⟨b2, off2, none⟩) q cb) ∧ w'.cell? ⟨b, off + i, none⟩ = some (.int .u32 (x : Int)) ∧ w'.cell? ⟨b2, off2 + k, none⟩ = some (.int .u32 (y : Int))) (by kernel_rfl) ⟨hcu, c01, c11, hx, hy⟩ (fun hS => ?_)
          refine wpAnyH_takeL 0 (v := ?_) (by kernel_rfl) rfl (by kernel_rfl) (by kernel_rfl) (fun _ _ _ h => h) (Or.inl ⟨by rfl, ?_⟩) (by assumption) ?_
          rotate_left
          · (intro wq hSq; (try dsimp only at hSq); go_simp; try with_reducible rfl)
          try simp only [Act.put, List.setIfInBounds_toArray, List.set_cons_zero, List.set_cons_succ]
          refine wpAnyH_takeL 1 (v := ?_) (by kernel_rfl) rfl (by kernel_rfl) (by kernel_rfl) (fun _ _ _ h => h) (Or.inl ⟨by rfl, ?_⟩) (by assumption) ?_
          rotate_left
          · (intro wq hSq; (try dsimp only at hSq); go_simp; try with_reducible rfl)
          try simp only [Act.put, List.setIfInBounds_toArray, List.set_cons_zero, List.set_cons_succ]
          refine wpAnyH_takeL 2 (v := ?_) (by kernel_rfl) rfl (by kernel_rfl) (by kernel_rfl) (fun _ _ _ h => h) (Or.inl ⟨by rfl, ?_⟩) (by assumption) ?_
          rotate_left
          · (intro wq hSq; (try dsimp only at hSq); go_simp; try with_reducible rfl)
          try simp only [Act.put, List.setIfInBounds_toArray, List.set_cons_zero, List.set_cons_succ]
          refine wpAnyH_takeL 3 (v := ?_) (by kernel_rfl) rfl (by kernel_rfl) (by kernel_rfl) (fun _ _ _ h => h) (Or.inl ⟨by rfl, ?_⟩) (by assumption) ?_
          rotate_left
          · (intro wq hSq; (try dsimp only at hSq); go_simp; try with_reducible rfl)
          try simp only [Act.put, List.setIfInBounds_toArray, List.set_cons_zero, List.set_cons_succ]
          refine wpAnyH_takeL 4 (v := ?_) (by kernel_rfl) rfl (by kernel_rfl) (by kernel_rfl) (fun _ _ _ h => h) (Or.inl ⟨by rfl, ?_⟩) (by assumption) ?_
          rotate_left
          · (intro wq hSq; (try dsimp only at hSq); go_simp; try with_reducible rfl)
          try simp only [Act.put, List.setIfInBounds_toArray, List.set_cons_zero, List.set_cons_succ]
          refine wpAnyH_takeL 5 (v := ?_) (by kernel_rfl) rfl (by kernel_rfl) (by kernel_rfl) (fun _ _ _ h => h) (Or.inl ⟨by rfl, ?_⟩) (by assumption) ?_
          rotate_left
          · (intro wq hSq; (try dsimp only at hSq); go_simp; try with_reducible rfl)
          try simp only [Act.put, List.setIfInBounds_toArray, List.set_cons_zero, List.set_cons_succ]
          refine wpAnyH_takeL 6 (v := ?_) (by kernel_rfl) rfl (by kernel_rfl) (by kernel_rfl) (fun _ _ _ h => h) (Or.inl ⟨by rfl, ?_⟩) (by assumption) ?_
          rotate_left
          · (intro wq hSq; (try dsimp only at hSq); go_simp; try with_reducible rfl)
          try simp only [Act.put, List.setIfInBounds_toArray, List.set_cons_zero, List.set_cons_succ]
          refine wpAnyH_takeL 7 (v := ?_) (by kernel_rfl) rfl (by kernel_rfl) (by kernel_rfl) (fun _ _ _ h => h) (Or.inl ⟨by rfl, ?_⟩) (by assumption) ?_
          rotate_left
          · (intro wq hSq; (try dsimp only at hSq); go_simp; try with_reducible rfl)
          try simp only [Act.put, List.setIfInBounds_toArray, List.set_cons_zero, List.set_cons_succ]
          refine wpAnyH_takeL 8 (v := ?_) (by kernel_rfl) rfl (by kernel_rfl) (by kernel_rfl) (fun _ _ _ h => h) (Or.inl ⟨by rfl, ?_⟩) (by assumption) ?_
          rotate_left
          · (intro wq hSq; (try dsimp only at hSq); go_simp; try with_reducible rfl)
          try simp only [Act.put, List.setIfInBounds_toArray, List.set_cons_zero, List.set_cons_succ]
          refine wpAnyH_takeL 9 (v := ?_) (by kernel_rfl) rfl (by kernel_rfl) (by kernel_rfl) (fun _ _ _ h => h) (Or.inl ⟨by rfl, ?_⟩) (by assumption) ?_
          rotate_left
          · (intro wq hSq; (try dsimp only at hSq); go_simp; try with_reducible rfl)
          try simp only [Act.put, List.setIfInBounds_toArray, List.set_cons_zero, List.set_cons_succ]
          refine wpAnyH_takeL 10 (v := ?_) (by kernel_rfl) rfl (by kernel_rfl) (by kernel_rfl) (fun _ _ _ h => h) (Or.inl ⟨by rfl, ?_⟩) (by assumption) ?_
          rotate_left
          · (intro wq hSq; (try dsimp only at hSq); go_simp; try with_reducible rfl)
          try simp only [Act.put, List.setIfInBounds_toArray, List.set_cons_zero, List.set_cons_succ]
          refine wpAnyH_takeL 11 (v := ?_) (by kernel_rfl) rfl (by kernel_rfl) (by kernel_rfl) (fun _ _ _ h => h) (Or.inl ⟨by rfl, ?_⟩) (by assumption) ?_
          rotate_left
          · (intro wq hSq; (try dsimp only at hSq); go_simp; try with_reducible rfl)
          try simp only [Act.put, List.setIfInBounds_toArray, List.set_cons_zero, List.set_cons_succ]
          refine wpAnyH_takeL 12 (v := ?_) (by kernel_rfl) rfl (by kernel_rfl) (by kernel_rfl) (fun _ _ _ h => h) (Or.inl ⟨by rfl, ?_⟩) (by assumption) ?_
          rotate_left
          · (intro wq hSq; (try dsimp only at hSq); go_simp; try with_reducible rfl)
          try simp only [Act.put, List.setIfInBounds_toArray, List.set_cons_zero, List.set_cons_succ]
          refine wpAnyH_takeL 13 (v := ?_) (by kernel_rfl) rfl (by kernel_rfl) (by kernel_rfl) (fun _ _ _ h => h) (Or.inl ⟨by rfl, ?_⟩) (by assumption) ?_
          rotate_left
          · (intro wq hSq; (try dsimp only at hSq); go_simp; try with_reducible rfl)
          try simp only [Act.put, List.setIfInBounds_toArray, List.set_cons_zero, List.set_cons_succ]
          refine wpAnyH_takeL 14 (v := ?_) (by kernel_rfl) rfl (by kernel_rfl) (by kernel_rfl) (fun _ _ _ h => h) (Or.inl ⟨by rfl, ?_⟩) (by assumption) ?_
          rotate_left
          · (intro wq hSq; (try dsimp only at hSq); go_simp; try with_reducible rfl)
          try simp only [Act.put, List.setIfInBounds_toArray, List.set_cons_zero, List.set_cons_succ]
          refine wpAnyH_takeL 15 (v := ?_) (by kernel_rfl) rfl (by kernel_rfl) (by kernel_rfl) (fun _ _ _ h => h) (Or.inl ⟨by rfl, ?_⟩) (by assumption) ?_
          rotate_left
          · (intro wq hSq; (try dsimp only at hSq); go_simp; try with_reducible rfl)
          try simp only [Act.put, List.setIfInBounds_toArray, List.set_cons_zero, List.set_cons_succ]
          refine wpAnyH_takeL 16 (v := ?_) (by kernel_rfl) rfl (by kernel_rfl) (by kernel_rfl) (fun _ _ _ h => h) (Or.inl ⟨by rfl, ?_⟩) (by assumption) ?_
          rotate_left
          · (intro wq hSq; (try dsimp only at hSq); go_simp; try with_reducible rfl)
          try simp only [Act.put, List.setIfInBounds_toArray, List.set_cons_zero, List.set_cons_succ]
          refine wpAnyH_takeL 17 (v := ?_) (by kernel_rfl) rfl (by kernel_rfl) (by kernel_rfl) (fun _ _ _ h => h) (Or.inl ⟨by rfl, ?_⟩) (by assumption) ?_
          rotate_left
          · (intro wq hSq; (try dsimp only at hSq); go_simp; try with_reducible rfl)
          try simp only [Act.put, List.setIfInBounds_toArray, List.set_cons_zero, List.set_cons_succ]
          refine wpAnyH_takeL 18 (v := ?_) (by kernel_rfl) rfl (by kernel_rfl) (by kernel_rfl) (fun _ _ _ h => h) (Or.inl ⟨by rfl, ?_⟩) (by assumption) ?_
          rotate_left
          · (intro wq hSq; (try dsimp only at hSq); go_simp; try with_reducible rfl)
          try simp only [Act.put, List.setIfInBounds_toArray, List.set_cons_zero, List.set_cons_succ]
          refine wpAnyH_takeL 19 (v := ?_) (by kernel_rfl) rfl (by kernel_rfl) (by kernel_rfl) (fun _ _ _ h => h) (Or.inl ⟨by rfl, ?_⟩) (by assumption) ?_
          rotate_left
          · (intro wq hSq; (try dsimp only at hSq); go_simp; try with_reducible rfl)
          try simp only [Act.put, List.setIfInBounds_toArray, List.set_cons_zero, List.set_cons_succ]
          refine wpAnyH_takeL 20 (v := ?_) (by kernel_rfl) rfl (by kernel_rfl) (by kernel_rfl) (fun _ _ _ h => h) (Or.inl ⟨by rfl, ?_⟩) (by assumption) ?_
          rotate_left
          · (intro wq hSq; (try dsimp only at hSq); go_simp; try with_reducible rfl)
          try simp only [Act.put, List.setIfInBounds_toArray, List.set_cons_zero, List.set_cons_succ]
          refine wpAnyH_end (by kernel_rfl) ?_
          go_wp2_with fail
          go_roundw
          case rel =>
            refine ⟨k + 1, s / 65536, t2.set j (s % 65536), by omega, by go_num, by simp, HM2.out, ?_, (hb.setCell (by simp) _).drew⟩
            rw [show ((s : Int) % 65536) = ((s % 65536 : Nat) : Int) by omega]
            exact arr_set HG2.out _
          case measure => simp [intOf]; omega
        · obtain rfl : k = q := by omega
          obtain ⟨hcu, hfu⟩ := arr_cell hg (i + k) (by rw [hM.len]; omega)
          have hcd := hM.clt
          have HM2 := Lib.hid (hM.row (by omega) (by omega) HVC.out)
          have HG2 := Lib.hid hg
          clear hM hg
          go_wp2_with fail
          go_roundw
          case rel => exact ⟨i + 1, t2.set (i + k) c, by omega, by go_num, HM2.out, arr_set HG2.out _, hb.setCell (by simp) _⟩
          case measure => simp [intOf]; omega
    · obtain rfl : i = p := by omega
      obtain ⟨c00, c01, f00, f01⟩ := num_cells ((hb.block _ hz0).trans HG0.out)
      obtain ⟨c10, c11, f10, f11⟩ := num_cells ((hb.block _ hz1).trans HG1.out)
      have hraw : World.rawH wr (.slice (some ⟨W0.heap.size, 0, none⟩) (i + q) (i + q)) (A * C) (i + q) := by
        have hd := hM.done HVA.out
        rw [List.take_of_length_le (by rw [hM.len]; exact Nat.le_refl _)] at hd
        have hl := list_dig (B := 65536) (by omega) t (i + q) hM.len hM.low
        rw [hd] at hl
        show World.reads _ _ _ _
        rw [← hl]
        have := reads_block (B := wr.heap.size) (l := t.map u32V) hg hz3 (i + q) (by simp [hM.len]) (by unfold maxLen; omega)
        rw [List.length_map, hM.len] at this
        exact this
      have HR := Lib.hid hraw
      have HGR := Lib.hid ((hb.block _ hz2).trans HG2.out)
      have HBW := Lib.hid (HB0.out.trans (hb.mono HB0.out.size))
      have t1 : (!(an == bn)) = sg := by rw [HSG.out]; rfl
      have t2 : (an != bn) = sg := HSG.out.symm
      clear hM hg hb hraw
      go_wp2_with fail
      (with_reducible refine (HTR.out _ _ HR.out).mono ?_)
      rintro e w6 ⟨v6, rfl, hn6, hb6⟩
      obtain ⟨a6, L6, c6, rfl⟩ : ∃ a5 L5 c5, v6 = .slice a5 L5 c5 := by obtain ⟨x, y, h⟩ := reads_len hn6; exact ⟨x, _, y, h⟩
      have hg6 := (hb6.block _ (lt_of_heap HGR.out)).trans HGR.out
      have HB6 := Lib.hid (HBW.out.trans (hb6.mono HBW.out.size))
      have HN6 := Lib.hid hn6
      have HG6 := Lib.hid hg6
      clear c00 c01 f00 f01 c10 c11 f10 f11
      obtain ⟨d0, d1, fz0, fz1⟩ := num_cells hg6
      clear hb6 hn6 hg6
      go_wp2
      have m2 := num_set HG6.out (.bool S) (.slice a6 L6 c6)
      have hb9 : Below w.heap.size w ((w6.setCell ⟨w.heap.size + 1 + 1, 0, none⟩ (.bool S)).setCell ⟨w.heap.size + 1 + 1, 1, none⟩ (.slice a6 L6 c6)) := (HB6.out.setCell (by simp; omega) _).setCell (by simp; omega) _
      have hn9 := numH_set HN6.out HG6.out (.bool S) (.slice a6 L6 c6)
      obtain ⟨d20, d21, -, -⟩ := num_cells m2
      clear m2 d0 d1 fz0 fz1
      generalize (w6.setCell ⟨w.heap.size + 1 + 1, 0, none⟩ (.bool S)).setCell ⟨w.heap.size + 1 + 1, 1, none⟩ (.slice a6 L6 c6) = W9 at d20 d21 hb9 hn9 ⊢
      rw [HP.out]
      exact bodyPost_ret (v := .agg #[.bool S, .slice a6 L6 c6]) (by simp [results, Try.results60, go_sem, d20, d21]) rfl ⟨.slice a6 L6 c6, rfl, hn9, hb9⟩
end Go.Proofs.Ytnjblppapmflhaa

/- The reference: helpers of its exported functions. -/
namespace Go
section
variable {P : Program} {ops : Array Oper} {Q : Exit → Act → World → Prop} {S : World → Prop} {late : Nat → Bool}
/-- The one operation that may come up; S is shown again behind it. -/
theorem wpAnyD_keep (i : Nat) {o : Oper} {fuel : Nat} {listed : Array Bool} {a : Act} {w : World} (hr : Region.ready .any ops listed = [i]) (ho : ops.toList[i]? = some o)
    (h : ∀ K' : Act → World → Prop, Shut (∀ a w, S w → (S w → wpAnyD P ops Q S late fuel (listed.setIfInBounds i true) a w) → K' a w) → if Region.wanted o (yielded ops a.tmps) = true then Oper.wp P o a w K' Q else K' (a.put o.dst undef) w) :
    wpAnyD P ops Q S late (fuel + 1) listed a w := by
  refine ⟨fun h0 => (by rw [hr] at h0; cases h0), fun j hj => ?_⟩
  rw [hr] at hj
  obtain rfl : j = i := by simpa using hj
  exact wpOp_step (by simpa using ho) (fun K' hK => h K' (fun a w hS hW => hK a w ⟨fun _ _ => hS, hW hS⟩))
end
end Go
namespace Go.Proofs.Ytnjblppapmflhaa
set_option linter.all false
open Go.RowKit Go.Shelf Go.WideNum
theorem zOf_and (s : Bool) (n : Nat) : zOf (s && decide (n ≠ 0)) n = zOf s n := by
  by_cases h : n = 0
  · subst h; cases s <;> simp [zOf]
  · simp [h]
theorem outZ_agg (z : Int) : ∃ fb ft, outZ z = .agg #[.bool fb, .string ft] := by
  unfold outZ outB emptyW wideV
  split <;> exact ⟨_, _, rfl⟩
theorem hout_num (s : Bool) (n : Nat) (hl : (hw n).length ≤ 10000) (fb : Bool) (ft : ByteArray) (E : Int) (h1 : outZ (zOf s n) = .agg #[.bool fb, .string ft]) (h2 : errZ (zOf s n) = E) (v : Value) (w : World) (h : World.numH w v n) :
    Calls Try.prog 55 #[.agg #[.bool s, v]] w fun e w' => e = .returned (.tuple #[.agg #[.bool fb, .string ft], .int .i64 E]) ∧ Below w.heap.size w w' := by
  have := hout_any s n _ (hw_vlt n) hl v w (numH_raw h)
  unfold FormRet at this
  rw [outB_z, outE_z s, h1, h2] at this
  exact this
theorem refValid_wide (neg : Bool) (s : ByteArray) (hs : s.size ≤ maxLen) (ok : Bool) (hok : ok = validB neg s) (w : World) :
    Calls Try.prog 18 #[.agg #[.bool neg, .string s]] w fun e w' => e = .returned (.bool ok) ∧ Below w.heap.size w w' := by subst hok; exact refValid_any neg s hs w
theorem hw_len129 {n : Nat} (h : n < lim) : (hw n).length ≤ 129 := by
  have h1 := hw_halves n
  have h2 := (lim_iff n _ rfl).1 h
  omega
theorem hw_len_mul {A C : Nat} {a c : Nat} (ha : (hw A).length ≤ a) (hc : (hw C).length ≤ c) : (hw (A * C)).length ≤ a + c := hw_len_le (by
  rw [Nat.pow_add]
  exact Nat.mul_lt_mul'' (Nat.lt_of_lt_of_le (hw_vlt A) (Nat.pow_le_pow_right (by omega) ha)) (Nat.lt_of_lt_of_le (hw_vlt C) (Nat.pow_le_pow_right (by omega) hc)))
theorem hw_len_mono {A C k : Nat} (h : A ≤ C) (hc : (hw C).length ≤ k) : (hw A).length ≤ k := hw_len_le (Nat.lt_of_le_of_lt h (Nat.lt_of_lt_of_le (hw_vlt C) (Nat.pow_le_pow_right (by omega) hc)))
theorem hw_len_sum {A C n : Nat} (ha : (hw A).length ≤ 2000) (hc : (hw C).length ≤ 2000) (h : n ≤ A + C) : (hw n).length ≤ 4001 :=
  hw_len_mono h (hw_len_add (Nat.le_trans ha (by omega)) (Nat.le_trans hc (by omega)))
theorem wide_hold {w w' W : World} {g : Nat} {b : Bool} {s : ByteArray} (h : W.heap[g]? = some (.cells #[.bool b, .string s] 38)) (hb : Below W.heap.size W w') : w'.heap[g]? = some (.cells #[.bool b, .string s] 38) := (hb.block _ (lt_of_heap h)).trans h
end Go.Proofs.Ytnjblppapmflhaa
