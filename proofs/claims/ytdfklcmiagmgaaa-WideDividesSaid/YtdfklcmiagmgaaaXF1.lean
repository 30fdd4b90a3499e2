/- Walks: the integer of 64 bits of a form: the program's. -/
import Derived.Test.YtdfklcmiagmgaaaXR9
namespace Go.Proofs.Ytdfklcmiagmgaaa
set_option linter.all false
open Go.RowKit Go.Shelf Go.WideNum
/-- The integer of 64 bits, or ErrRange. -/
def intN (neg : Bool) (n : Nat) : Int × Int := if neg then (if n ≤ 9223372036854775808 then (-(n : Int), 0) else (0, 7)) else if n < 9223372036854775808 then ((n : Int), 0) else (0, 7)
def intB (neg : Bool) (s : ByteArray) : Int × Int := if validB neg s then intN neg (numB s) else (0, 2)
theorem zeros_app (n : Nat) : (wd n).map u32V ++ [.int .u32 0, .int .u32 0] = ((List.range ((wd n).length + 2)).map (dig 4294967296 n)).map u32V := by
  rw [show (wd n).length + 2 = (wd n).length + 1 + 1 by omega, List.range_succ, List.range_succ]
  simp only [List.map_append, List.map_cons, List.map_nil]
  rw [wd_high n _ (Nat.le_refl _), wd_high n _ (Nat.le_succ _)]
  have h : (List.range (wd n).length).map (dig 4294967296 n) = wd n := by
    apply List.ext_getElem?
    intro i
    rcases Nat.lt_or_ge i (wd n).length with h | h
    · rw [wd_get n i h]; simp [h]
    · rw [List.getElem?_eq_none (by simpa using h), List.getElem?_eq_none h]
  rw [h]
  simp [u32V]
theorem wd_len2 (n : Nat) : (wd n).length ≤ 2 ↔ n < 18446744073709551616 := by
  constructor
  · intro h
    have := Nat.lt_of_lt_of_le (wd_vlt n) (Nat.pow_le_pow_right (show 0 < 4294967296 by omega) h)
    omega
  · intro h
    exact words_length (by omega) n 2 (by omega)
set_option maxRecDepth 100000 in
set_option maxHeartbeats 8000000 in
theorem Int_any (neg : Bool) (s : ByteArray) (hs : s.size ≤ maxLen) (R E : Int) (h : intB neg s = (R, E)) (w : World) :
    Calls Try.prog 18 #[.agg #[.bool neg, .string s]] w fun e w' => e = .returned (.tuple #[.int .i64 R, .int .i64 E]) ∧ Below w.heap.size w w' := by
  obtain ⟨i0, hi0, hiz, hiz1, hizb⟩ := info_parts infoU32
  obtain ⟨HPOST, hpost⟩ : ∃ X : Ending → World → Prop, X = fun e w' => e = .returned (.tuple #[.int .i64 R, .int .i64 E]) ∧ Below w.heap.size w w' := ⟨_, rfl⟩
  rw [← hpost]
  have HP := Lib.hid hpost
  clear hpost
  have HV := Lib.hid (Valid_wide neg s hs)
  obtain ⟨ok, hok⟩ : ∃ ok, ok = validB neg s := ⟨_, rfl⟩
  unfold intB at h
  rw [← hok] at h HV
  have HOK := Lib.hid hok
  clear hok
  have hb0 : Below w.heap.size w (w.alloc (.cells #[.bool neg, .string s] 23)) := (Below.refl _ w).alloc (Nat.le_refl _) _
  have hg0 : (w.alloc (.cells #[.bool neg, .string s] 23)).heap[w.heap.size]? = some (.cells #[.bool neg, .string s] 23) := heap_alloc_new w _
  have HB0 := Lib.hid hb0
  have HG0 := Lib.hid hg0
  clear hb0 hg0
  cases ok with
  | false =>
    obtain ⟨rfl, rfl⟩ : R = 0 ∧ E = 2 := by
      injection h with h1 h2
      exact ⟨h1.symm, h2.symm⟩
    clear h
    go_enter Try.func18, Try.ntmps18
    go_wp2_with fail
    (with_reducible refine (HV.out _).mono ?_)
    rintro e w1 ⟨rfl, hb1⟩
    have HB1 := Lib.hid (HB0.out.trans (hb1.mono HB0.out.size))
    clear hb1
    go_wp2
    rw [HP.out]
    exact ⟨rfl, HB1.out⟩
  | true =>
    obtain ⟨hlim, -, hnz, hs256⟩ := valid_spec neg s HOK.out.symm
    have hof := of_wide neg s (by omega)
    have hlen := wd_len65 hlim
    obtain ⟨n, en⟩ : ∃ n, n = numB s := ⟨_, rfl⟩
    rw [← en] at h hlim hnz hof hlen
    have HOF := Lib.hid hof
    have HH := Lib.hid h
    have HNZ := Lib.hid hnz
    have hl2 := wd_len2 n
    have HZ := Lib.hid (zeros_app n)
    obtain ⟨p, ep⟩ : ∃ p, p = (wd n).length := ⟨_, rfl⟩
    rw [← ep] at hl2 hlen HZ
    have HL2 := Lib.hid hl2
    have HEP := Lib.hid ep
    clear h hlim hnz hof en hl2 ep
    go_enter Try.func18, Try.ntmps18
    go_wp2_with fail
    (with_reducible refine (HV.out _).mono ?_)
    rintro e w1 ⟨rfl, hb1⟩
    have hk1 := wide_hold (w := w) HG0.out hb1
    have HB1 := Lib.hid (HB0.out.trans (hb1.mono HB0.out.size))
    have HK1 := Lib.hid hk1
    obtain ⟨c0, c1, f0⟩ := wide_cells hk1
    clear hb1 hk1
    go_wp2_with fail
    (with_reducible refine (HOF.out _).mono ?_)
    rintro e w2 ⟨v2, rfl, ho2, hb2⟩
    have HK2 := Lib.hid (wide_hold (w := w) HK1.out hb2)
    have HB2 := Lib.hid (HB1.out.trans (hb2.mono HB1.out.size))
    have HZ1 : Hid (w1.heap.size ≤ w2.heap.size) := hb2.size
    rw [← HEP.out] at ho2
    have HO2 := Lib.hid (ho2.alloc (.cells #[.int .u32 0, .int .u32 0] 47))
    have hz21 : w1.heap.size ≤ (w2.alloc (.cells #[.int .u32 0, .int .u32 0] 47)).heap.size := by have := hb2.size; simp; omega
    have HZ21 := Lib.hid hz21
    have HBA := Lib.hid ((Below.refl w2.heap.size w2).alloc (Nat.le_refl _) (.cells #[.int .u32 0, .int .u32 0] 47))
    have HB12 := Lib.hid hb2
    clear hb2 ho2 c0 c1 f0 hz21
    have HBX : Hid (∀ w5 : World, World.grownBy (w2.alloc (.cells #[.int .u32 0, .int .u32 0] 47)) w5 v2.ownBlock → Below w1.heap.size w1 w5) := fun w5 hg => (HB12.out.trans (HBA.out.mono HZ1.out)).trans (below_grown HO2.out hg w1.heap.size (Nat.le_refl _) HZ21.out)
    by_cases hp2 : p ≤ 2
    · have HN64 := Lib.hid (HL2.out.1 hp2)
      have hc : ¬ (4 : Int) < (p : Int) + 1 + 1 := by omega
      go_wp2_with (at_builtin; refine wpList_append_owns _ rfl (.tmp 10) (.tmp 11) 58 rfl w1.heap.size 47 i0 (.int .u32 0) 1 4 Try.underlying58 hi0 hiz hiz1 hizb rfl (by decide) v2 p _ rfl HO2.out ⟨w2.heap.size, 0, none⟩ 2 2 [.int .u32 0, .int .u32 0] rfl rfl (news_alloc w2 [.int .u32 0, .int .u32 0] 47) (by simp [Value.oneCell']) (by unfold maxLen; omega) (by omega) HZ21.out ?_; intro v5 w5 hown5 hg5 _; have HO5 := Lib.hid hown5; have HB5 := Lib.hid (HBX.out _ hg5); obtain ⟨g5, q5, rfl⟩ := hown5.succ; clear hown5 hg5)
      have hk5 := wide_hold (w := w) HK1.out HB5.out
      have HBW := Lib.hid (HB1.out.trans (HB5.out.mono HB1.out.size))
      obtain ⟨c0, c1, f0⟩ := wide_cells hk5
      have hx0 : w5.cell? ⟨g5, 0, none⟩ = some (.int .u32 (dig 4294967296 n 0 : Int)) := HO5.out.cell 0 _ (by rw [HZ.out]; simp [u32V])
      have hx1 : w5.cell? ⟨g5, 1, none⟩ = some (.int .u32 (dig 4294967296 n 1 : Int)) := HO5.out.cell 1 _ (by rw [HZ.out]; simp [u32V])
      have hn64 := HN64.out
      have hd0 := wd_dig n 0
      have hd1 := wd_dig n 1
      have hsum : dig 4294967296 n 1 * 4294967296 + dig 4294967296 n 0 = n := by unfold dig; omega
      obtain ⟨x, ex⟩ : ∃ x, x = dig 4294967296 n 0 := ⟨_, rfl⟩
      obtain ⟨y, ey⟩ : ∃ x, x = dig 4294967296 n 1 := ⟨_, rfl⟩
      rw [← ex] at hx0 hd0 hsum
      rw [← ey] at hx1 hd1 hsum
      obtain ⟨pp, epp⟩ : ∃ z, z = y * 4294967296 := ⟨_, rfl⟩
      have hor : bits .or .u64 (pp : Int) (x : Int) = (n : Int) := by
        have := or_lo .u64 (Or.inl rfl) 32 y x (by omega) (by simp only [if_true]; omega)
        rw [show y * 2 ^ 32 = pp by rw [epp], show pp + x = n by omega] at this
        exact this
      have u1 : IntKind.u64.wrap ((y : Int) * 4294967296) = (pp : Int) := by rw [IntKind.wrap_u64]; omega
      have u1' : IntKind.u64.wrap ((y : Int) * 2 ^ 32) = (pp : Int) := by rw [IntKind.wrap_u64]; omega
      have u2 : IntKind.u64.wrap (y : Int) = (y : Int) := by rw [IntKind.wrap_u64]; omega
      have u3 : IntKind.u64.wrap (x : Int) = (x : Int) := by rw [IntKind.wrap_u64]; omega
      have u5 : (1 : Int) < (p : Int) + 1 + 1 := by omega
      have u6 : (0 : Int) < (p : Int) + 1 + 1 := by omega
      clear ex ey epp hsum hk5 hn64
      refine wp_region_heldL (fun w' => w'.cell? ⟨g5, 0, none⟩ = some (.int .u32 (x : Int)) ∧ w'.cell? ⟨g5, 1, none⟩ = some (.int .u32 (y : Int))) (by kernel_rfl) ⟨hx0, hx1⟩ (fun hS => ?_)
      refine wpAnyH_takeL 0 (v := ?_) (by kernel_rfl) rfl (by kernel_rfl) (by kernel_rfl) (fun _ _ _ h => h) (Or.inl ⟨by rfl, ?_⟩) (by assumption) ?_
      rotate_left
      · (intro wq hSq; (try dsimp only at hSq); go_simp; try with_reducible rfl)
      try simp only [Act.put, List.setIfInBounds_toArray, List.set_cons_zero, List.set_cons_succ]
      refine wpAnyH_takeL 1 (v := ?_) (by kernel_rfl) rfl (by kernel_rfl) (by kernel_rfl) (fun _ _ _ h => h) (Or.inl ⟨by rfl, ?_⟩) (by assumption) ?_
      rotate_left
      · (intro wq hSq; (try dsimp only at hSq); go_simp; try with_reducible rfl)
      try simp only [Act.put, List.setIfInBounds_toArray, List.set_cons_zero, List.set_cons_succ]
      refine wpAnyH_takeL 2 (v := ?_) (by kernel_rfl) rfl (by kernel_rfl) (by kernel_rfl) (fun _ _ _ h => h) (Or.inl ⟨by rfl, ?_⟩) (by assumption) ?_
      rotate_left
      · (intro wq hSq; (try dsimp only at hSq); go_simp; try with_reducible rfl)
      try simp only [Act.put, List.setIfInBounds_toArray, List.set_cons_zero, List.set_cons_succ]
      refine wpAnyH_takeL 3 (v := ?_) (by kernel_rfl) rfl (by kernel_rfl) (by kernel_rfl) (fun _ _ _ h => h) (Or.inl ⟨by rfl, ?_⟩) (by assumption) ?_
      rotate_left
      · (intro wq hSq; (try dsimp only at hSq); go_simp; try with_reducible rfl)
      try simp only [Act.put, List.setIfInBounds_toArray, List.set_cons_zero, List.set_cons_succ]
      refine wpAnyH_takeL 4 (v := ?_) (by kernel_rfl) rfl (by kernel_rfl) (by kernel_rfl) (fun _ _ _ h => h) (Or.inl ⟨by rfl, ?_⟩) (by assumption) ?_
      rotate_left
      · (intro wq hSq; (try dsimp only at hSq); go_simp; try with_reducible rfl)
      try simp only [Act.put, List.setIfInBounds_toArray, List.set_cons_zero, List.set_cons_succ]
      refine wpAnyH_takeL 5 (v := ?_) (by kernel_rfl) rfl (by kernel_rfl) (by kernel_rfl) (fun _ _ _ h => h) (Or.inl ⟨by rfl, ?_⟩) (by assumption) ?_
      rotate_left
      · (intro wq hSq; (try dsimp only at hSq); go_simp; try with_reducible rfl)
      try simp only [Act.put, List.setIfInBounds_toArray, List.set_cons_zero, List.set_cons_succ]
      refine wpAnyH_takeL 6 (v := ?_) (by kernel_rfl) rfl (by kernel_rfl) (by kernel_rfl) (fun _ _ _ h => h) (Or.inl ⟨by rfl, ?_⟩) (by assumption) ?_
      rotate_left
      · (intro wq hSq; (try dsimp only at hSq); go_simp; try with_reducible rfl)
      try simp only [Act.put, List.setIfInBounds_toArray, List.set_cons_zero, List.set_cons_succ]
      refine wpAnyH_takeL 7 (v := ?_) (by kernel_rfl) rfl (by kernel_rfl) (by kernel_rfl) (fun _ _ _ h => h) (Or.inl ⟨by rfl, ?_⟩) (by assumption) ?_
      rotate_left
      · (intro wq hSq; (try dsimp only at hSq); go_simp; try with_reducible rfl)
      try simp only [Act.put, List.setIfInBounds_toArray, List.set_cons_zero, List.set_cons_succ]
      refine wpAnyH_takeL 8 (v := ?_) (by kernel_rfl) rfl (by kernel_rfl) (by kernel_rfl) (fun _ _ _ h => h) (Or.inl ⟨by rfl, ?_⟩) (by assumption) ?_
      rotate_left
      · (intro wq hSq; (try dsimp only at hSq); go_simp; try with_reducible rfl)
      try simp only [Act.put, List.setIfInBounds_toArray, List.set_cons_zero, List.set_cons_succ]
      refine wpAnyH_takeL 9 (v := ?_) (by kernel_rfl) rfl (by kernel_rfl) (by kernel_rfl) (fun _ _ _ h => h) (Or.inl ⟨by rfl, ?_⟩) (by assumption) ?_
      rotate_left
      · (intro wq hSq; (try dsimp only at hSq); go_simp; try with_reducible rfl)
      try simp only [Act.put, List.setIfInBounds_toArray, List.set_cons_zero, List.set_cons_succ]
      refine wpAnyH_takeL 10 (v := ?_) (by kernel_rfl) rfl (by kernel_rfl) (by kernel_rfl) (fun _ _ _ h => h) (Or.inl ⟨by rfl, ?_⟩) (by assumption) ?_
      rotate_left
      · (intro wq hSq; (try dsimp only at hSq); go_simp; try with_reducible rfl)
      try simp only [Act.put, List.setIfInBounds_toArray, List.set_cons_zero, List.set_cons_succ]
      refine wpAnyH_end (by kernel_rfl) ?_
      have HBX2 := HBX
      have h : intN neg n = (R, E) := by have h := HH.out; simpa using h
      unfold intN at h
      have HBW2 := Lib.hid HBW.out.drew
      clear hx0 hx1 hor u1 u1' u2 u3 hd0 hd1
      cases neg with
      | true =>
        rw [if_pos rfl] at h
        have hn0 : 0 < n := Nat.pos_of_ne_zero (HNZ.out rfl)
        by_cases hb : n ≤ 9223372036854775808
        · rw [if_pos hb] at h
          obtain ⟨rfl, rfl⟩ : R = -(n : Int) ∧ E = 0 := by
            injection h with h1 h2
            exact ⟨h1.symm, h2.symm⟩
          have hb' : (n : Int) ≤ 9223372036854775808 := by omega
          obtain ⟨m, em⟩ : ∃ m : Int, m = 18446744073709551616 - (n : Int) := ⟨_, rfl⟩
          have t1 : IntKind.u64.wrap (-(n : Int)) = m := by rw [IntKind.wrap_u64]; omega
          have t2 : IntKind.i64.wrap m = -(n : Int) := by rw [IntKind.wrap_i64]; omega
          clear em h
          go_wp2
          rw [HP.out]
          exact ⟨by first | rfl | simp [t1, t2], HBW2.out⟩
        · rw [if_neg hb] at h
          obtain ⟨rfl, rfl⟩ : R = 0 ∧ E = 7 := by
            injection h with h1 h2
            exact ⟨h1.symm, h2.symm⟩
          have hb' : ¬ (n : Int) ≤ 9223372036854775808 := by omega
          clear h
          go_wp2
          rw [HP.out]
          exact ⟨rfl, HBW2.out⟩
      | false =>
        rw [if_neg (by decide)] at h
        by_cases hb : n < 9223372036854775808
        · rw [if_pos hb] at h
          obtain ⟨rfl, rfl⟩ : R = (n : Int) ∧ E = 0 := by
            injection h with h1 h2
            exact ⟨h1.symm, h2.symm⟩
          have hb' : ¬ (9223372036854775808 : Int) ≤ (n : Int) := by omega
          clear h
          go_wp2
          rw [HP.out]
          exact ⟨rfl, HBW2.out⟩
        · rw [if_neg hb] at h
          obtain ⟨rfl, rfl⟩ : R = 0 ∧ E = 7 := by
            injection h with h1 h2
            exact ⟨h1.symm, h2.symm⟩
          have hb' : (9223372036854775808 : Int) ≤ (n : Int) := by omega
          clear h
          go_wp2
          rw [HP.out]
          exact ⟨rfl, HBW2.out⟩
    · have hn64 : 18446744073709551616 ≤ n := by
        rcases Nat.lt_or_ge n 18446744073709551616 with h | h
        · exact absurd (HL2.out.2 h) hp2
        · exact h
      have hc : (4 : Int) < (p : Int) + 1 + 1 := by omega
      obtain ⟨rfl, rfl⟩ : R = 0 ∧ E = 7 := by
        have h : intN neg n = (R, E) := by have h := HH.out; simpa using h
        unfold intN at h
        cases neg with
        | true =>
          rw [if_pos rfl, if_neg (by omega)] at h
          injection h with h1 h2
          exact ⟨h1.symm, h2.symm⟩
        | false =>
          rw [if_neg (by decide), if_neg (by omega)] at h
          injection h with h1 h2
          exact ⟨h1.symm, h2.symm⟩
      clear hn64
      go_wp2_with (at_builtin; refine wpList_append_owns _ rfl (.tmp 10) (.tmp 11) 58 rfl w1.heap.size 47 i0 (.int .u32 0) 1 4 Try.underlying58 hi0 hiz hiz1 hizb rfl (by decide) v2 p _ rfl HO2.out ⟨w2.heap.size, 0, none⟩ 2 2 [.int .u32 0, .int .u32 0] rfl rfl (news_alloc w2 [.int .u32 0, .int .u32 0] 47) (by simp [Value.oneCell']) (by unfold maxLen; omega) (by omega) HZ21.out ?_; intro v5 w5 hown5 hg5 _; have HO5 := Lib.hid hown5; have HB5 := Lib.hid (HBX.out _ hg5); obtain ⟨g5, q5, rfl⟩ := hown5.succ; clear hown5 hg5)
      have HBW := Lib.hid (HB1.out.trans (HB5.out.mono HB1.out.size))
      rw [HP.out]
      exact ⟨rfl, HBW.out⟩
end Go.Proofs.Ytdfklcmiagmgaaa
