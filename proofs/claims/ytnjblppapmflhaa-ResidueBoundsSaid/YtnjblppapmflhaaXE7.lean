/- Both programs: the rest by a word. -/
import Derived.Test.YtnjblppapmflhaaWE4
namespace Go.Proofs.Ytnjblppapmflhaa
set_option linter.all false
open Go.RowKit Go.Shelf Go.WideNum
/-- The rest by a word, from zero on, and the error. -/
def modF (na : Bool) (sa : ByteArray) (n : Nat) : Nat × Int := if validB na sa && decide (n ≠ 0) then (floorR (numB sa) na n, 0) else (0, 2)
theorem valM_snoc (l : List UInt8) (x : UInt8) : valM (l ++ [x]) = valM l * 256 + x.toNat := by
  unfold valM
  rw [List.reverse_append]
  show valW 256 (x.toNat :: (l.reverse.map UInt8.toNat)) = _
  show x.toNat + 256 * _ = _
  omega
theorem mod_step (a b c n : Nat) : (a * b + c) % n = (a % n * b + c) % n := by
  rw [Nat.add_mod, Nat.mul_mod]
  conv => rhs; rw [Nat.add_mod, Nat.mul_mod, Nat.mod_mod]
set_option maxRecDepth 100000 in
set_option maxHeartbeats 8000000 in
theorem Mod_any (na : Bool) (sa : ByteArray) (hsa : sa.size ≤ maxLen) (n : Nat) (hn : n < 4294967296) (r : Nat) (E : Int) (hop : modF na sa n = (r, E)) (w : World) :
    Calls Try.prog 79 #[.agg #[.bool na, .string sa], .int .u32 (n : Int)] w fun e w' => e = .returned (.tuple #[.int .u32 (r : Int), .int .i64 E]) ∧ Below w.heap.size w w' := by
  obtain ⟨HPOST, hpost⟩ : ∃ X : Ending → World → Prop, X = fun e w' => e = .returned (.tuple #[.int .u32 (r : Int), .int .i64 E]) ∧ Below w.heap.size w w' := ⟨_, rfl⟩
  rw [← hpost]
  obtain ⟨ok, hok⟩ : ∃ ok, ok = validB na sa := ⟨_, rfl⟩
  have HVAL : Hid (∀ W : World, Calls Try.prog 52 #[.agg #[.bool na, .string sa]] W fun e w' => e = .returned (.bool (validB na sa)) ∧ Below W.heap.size W w') := Valid_wide na sa hsa
  unfold modF at hop
  rw [← hok] at HVAL hop
  have HOK := Lib.hid hok
  have HOP := Lib.hid hop
  clear hok hop
  have hg0 : (w.alloc (.cells #[.bool na, .string sa] 38)).heap[w.heap.size]? = some (.cells #[.bool na, .string sa] 38) := heap_alloc_new w _
  have hb0 : Below w.heap.size w (w.alloc (.cells #[.bool na, .string sa] 38)) := (Below.refl _ w).alloc (Nat.le_refl _) _
  obtain ⟨W0, hW0⟩ : ∃ W0, W0 = w.alloc (.cells #[.bool na, .string sa] 38) := ⟨_, rfl⟩
  rw [← hW0] at hg0 hb0
  have HG0 := Lib.hid hg0
  have HB0 := Lib.hid hb0
  have HW0 := Lib.hid hW0
  obtain ⟨c00, c01, f0⟩ := wide_cells hg0
  clear hg0 hb0 hW0
  go_enter Try.func79, Try.ntmps79
  go_upto_region 1 with (fail)
  rw [← HW0.out]
  rw [hpost]
  rw [← hpost]
  have HP := Lib.hid hpost
  clear hpost
  go_wp2_with fail
  (with_reducible refine (HVAL.out _).mono ?_)
  rintro e w1 ⟨rfl, hb1⟩
  have HK0 := Lib.hid (hold HG0.out hb1)
  have HD1 := Lib.hid (HB0.out.trans (hb1.mono HB0.out.size))
  clear c00 c01 f0 hb1
  cases ok with
  | false =>
    have hz := HOP.out
    injection hz with hz1 hz2
    subst hz1 hz2
    go_wp2
    rw [HP.out]
    exact ⟨rfl, HD1.out⟩
  | true =>
    obtain ⟨c00, c01, f0⟩ := wide_cells HK0.out
    by_cases hn0 : n = 0
    · subst hn0
      have hz := HOP.out
      injection hz with hz1 hz2
      subst hz1 hz2
      go_wp2
      rw [HP.out]
      exact ⟨rfl, HD1.out⟩
    · have hz := HOP.out
      rw [decide_eq_true hn0] at hz
      injection hz with hz1 hz2
      subst hz2
      have hnI : ¬ (n : Int) = 0 := by omega
      obtain ⟨l1, -, -, s256a⟩ := valid_spec na sa HOK.out.symm
      have hwa := wd_len65 l1
      have HOA : Hid (∀ W : World, Calls Try.prog 78 #[.agg #[.bool na, .string sa]] W (NumRet W (numB sa))) := of_wide na sa (by omega)
      obtain ⟨A, eA⟩ : ∃ A, A = numB sa := ⟨_, rfl⟩
      rw [← eA] at HOA hwa hz1
      have HSH : Hid (∀ v W, World.numR W v A → Calls Try.prog 93 #[v, .int .u32 (n : Int)] W (ShortRet W A n)) := fun v W h => short_num A n (by omega) hn v W h (by omega) n rfl
      have hm := Nat.mod_lt A (show 0 < n by omega)
      obtain ⟨m, em⟩ : ∃ m, m = A % n := ⟨_, rfl⟩
      unfold ShortRet at HSH
      unfold floorR at hz1
      rw [← em] at HSH hz1 hm
      have HZ : Hid ((if na = true ∧ m ≠ 0 then n - m else m) = r) := hz1
      clear hz1 eA em hwa l1 s256a
      go_wp2_with fail
      (with_reducible refine (HOA.out _).mono ?_)
      rintro e w2 ⟨v, rfl, ho, hb⟩
      have hN : World.numR w2 v A := ho.reads
      obtain ⟨a2, L2, c2, rfl⟩ : ∃ a L c, v = .slice a L c := by obtain ⟨x, y, h⟩ := reads_len hN; exact ⟨x, _, y, h⟩
      have HN := Lib.hid hN
      have HK2 := Lib.hid (hold HK0.out hb)
      have HD2 := Lib.hid (HD1.out.trans (hb.mono HD1.out.size))
      clear c00 c01 f0 ho hb hN
      go_wp2_with fail
      (with_reducible refine (HSH.out _ _ HN.out).mono ?_)
      rintro e w3 ⟨v, rfl, ho⟩
      have hb := ho.bel
      obtain ⟨a3, L3, c3, rfl⟩ : ∃ a L c, v = .slice a L c := by obtain ⟨x, y, h⟩ := reads_len ho.numR; exact ⟨x, _, y, h⟩
      have hk3 := hold HK2.out hb
      have HD3 := Lib.hid (HD2.out.trans (hb.mono HD2.out.size))
      obtain ⟨c00, c01, f0⟩ := wide_cells hk3
      clear ho hb hk3
      cases na with
      | false =>
        have hr : m = r := by have := HZ.out; rwa [if_neg (by simp)] at this
        subst hr
        clear HZ hn0
        go_wp2
        rw [HP.out]
        exact ⟨rfl, HD3.out⟩
      | true =>
        by_cases hm0 : m = 0
        · subst hm0
          have hr : 0 = r := by have := HZ.out; rwa [if_neg (by simp)] at this
          subst hr
          clear HZ hn0
          go_wp2
          rw [HP.out]
          exact ⟨rfl, HD3.out⟩
        · have hr : n - m = r := by have := HZ.out; rwa [if_pos ⟨rfl, hm0⟩] at this
          have hmp : 0 < m := by omega
          have hw : IntKind.u32.wrap ((n : Int) - (m : Int)) = (r : Int) := by rw [IntKind.wrap_u32]; omega
          clear HZ hn0
          clear hr
          go_wp2
          rw [HP.out]
          exact ⟨rfl, HD3.out⟩
set_option maxRecDepth 100000 in
set_option maxHeartbeats 8000000 in
theorem refMod_any (na : Bool) (sa : ByteArray) (hsa : sa.size ≤ maxLen) (n : Nat) (hn : n < 4294967296) (r : Nat) (E : Int) (hop : modF na sa n = (r, E)) (w : World) :
    Calls Try.prog 62 #[.agg #[.bool na, .string sa], .int .u32 (n : Int)] w fun e w' => e = .returned (.tuple #[.int .u32 (r : Int), .int .i64 E]) ∧ Below w.heap.size w w' := by
  obtain ⟨HPOST, hpost⟩ : ∃ X : Ending → World → Prop, X = fun e w' => e = .returned (.tuple #[.int .u32 (r : Int), .int .i64 E]) ∧ Below w.heap.size w w' := ⟨_, rfl⟩
  rw [← hpost]
  obtain ⟨ok, hok⟩ : ∃ ok, ok = validB na sa := ⟨_, rfl⟩
  have HVAL := Lib.hid (refValid_wide na sa hsa ok hok)
  unfold modF at hop
  rw [← hok] at hop
  have HOK := Lib.hid hok
  have HOP := Lib.hid hop
  clear hok hop
  have hg0 : (w.alloc (.cells #[.bool na, .string sa] 38)).heap[w.heap.size]? = some (.cells #[.bool na, .string sa] 38) := heap_alloc_new w _
  have hb0 : Below w.heap.size w (w.alloc (.cells #[.bool na, .string sa] 38)) := (Below.refl _ w).alloc (Nat.le_refl _) _
  obtain ⟨W0, hW0⟩ : ∃ W0, W0 = w.alloc (.cells #[.bool na, .string sa] 38) := ⟨_, rfl⟩
  rw [← hW0] at hg0 hb0
  have HG0 := Lib.hid hg0
  have HB0 := Lib.hid hb0
  have HW0 := Lib.hid hW0
  obtain ⟨c00, c01, f0⟩ := wide_cells hg0
  clear hg0 hb0 hW0
  go_enter Try.func62, Try.ntmps62
  go_upto_region 1 with (fail)
  rw [← HW0.out]
  rw [hpost]
  rw [← hpost]
  have HP := Lib.hid hpost
  clear hpost
  go_wp2_with fail
  (with_reducible refine (HVAL.out _).mono ?_)
  rintro e w1 ⟨rfl, hb1⟩
  have HK0 := Lib.hid (hold HG0.out hb1)
  have HD1 := Lib.hid (HB0.out.trans (hb1.mono HB0.out.size))
  clear c00 c01 f0 hb1
  cases ok with
  | false =>
    have hz := HOP.out
    injection hz with hz1 hz2
    subst hz1 hz2
    go_wp2
    rw [HP.out]
    exact ⟨rfl, HD1.out⟩
  | true =>
    obtain ⟨c00, c01, f0⟩ := wide_cells HK0.out
    by_cases hn0 : n = 0
    · subst hn0
      have hz := HOP.out
      injection hz with hz1 hz2
      subst hz1 hz2
      go_wp2
      rw [HP.out]
      exact ⟨rfl, HD1.out⟩
    · have hz := HOP.out
      rw [decide_eq_true hn0] at hz
      injection hz with hz1 hz2
      subst hz2
      have hnI : ¬ (n : Int) = 0 := by omega
      obtain ⟨l1, -, -, s256a⟩ := valid_spec na sa HOK.out.symm
      have HZ : Hid (floorR (numB sa) na n = r) := hz1
      clear hz1 l1
      have hsz : sa.size ≤ 256 := s256a
      go_wp2_with fail
      go_loopw [6, 7] (fun rv iv wr => ∃ k : Nat, k ≤ sa.size ∧ iv = .int .i64 (k : Int) ∧ rv = .int .u64 ((valM (sa.data.toList.take k) % n : Nat) : Int) ∧ wr = w1) (fun _ iv _ => (256 - intOf iv).toNat)
      case atStart => exact ⟨0, Nat.zero_le _, rfl, by simp [valM, valW], rfl⟩
      case round =>
        obtain ⟨k, hk, rfl, rfl, rfl⟩ := hrel
        have hm := Nat.mod_lt (valM (sa.data.toList.take k)) (show 0 < n by omega)
        by_cases hlt : k < sa.size
        · have hgk : sa.data.toList[k]? = some sa[k] := by rw [List.getElem?_eq_getElem (show k < sa.data.toList.length from hlt)]; rfl
          have hsn : valM (sa.data.toList.take (k + 1)) = valM (sa.data.toList.take k) * 256 + sa[k].toNat := by
            rw [List.take_add_one, hgk]; exact valM_snoc _ _
          have hst : valM (sa.data.toList.take (k + 1)) % n = (valM (sa.data.toList.take k) % n * 256 + sa[k].toNat) % n := by
            rw [hsn]; exact mod_step _ _ _ _
          have hx := sa[k].toNat_lt
          obtain ⟨m, em⟩ : ∃ m, m = valM (sa.data.toList.take k) % n := ⟨_, rfl⟩
          rw [← em] at hm hst ⊢
          obtain ⟨x, ex⟩ : ∃ x, x = sa[k].toNat := ⟨_, rfl⟩
          rw [← ex] at hx hst
          obtain ⟨y, ey⟩ : ∃ y, y = m * 256 + x := ⟨_, rfl⟩
          rw [← ey] at hst
          have HST := Lib.hid hst
          have w3 : (k : Int) < (sa.size : Int) := by omega
          have w4 : (0 : Int) ≤ (k : Int) := by omega
          have w5 : IntKind.u64.wrap ((m : Int) * 256) = ((m * 256 : Nat) : Int) := by rw [IntKind.wrap_u64]; omega
          have w6 : IntKind.u64.wrap (x : Int) = (x : Int) := by rw [IntKind.wrap_u64]; omega
          have w7 : ((m * 256 : Nat) : Int) + (x : Int) = (y : Int) := by omega
          have w8 : (m : Int) * 256 + (x : Int) = (y : Int) := by omega
          have w9 : IntKind.u64.wrap (y : Int) = (y : Int) := by rw [IntKind.wrap_u64]; omega
          have w10 : IntKind.u64.wrap (n : Int) = (n : Int) := by rw [IntKind.wrap_u64]; omega
          have hne : ((n : Int) == 0) = false := by rw [beq_eq_false_iff_ne]; omega
          have EX := Lib.hid ex
          obtain ⟨t, et⟩ : ∃ t, t = y % n := ⟨_, rfl⟩
          have t2 : (y : Int) % (n : Int) = (t : Int) := by rw [et, Int.natCast_emod]
          have HT := Lib.hid et
          clear em ey hst hsn hgk et
          have ex' : ((sa[k].toNat : Nat) : Int) = (x : Int) := by rw [EX.out]
          clear ex
          go_wp2
          go_roundw
          case rel => exact ⟨k + 1, by omega, rfl, by rw [t2, HT.out, HST.out], trivial⟩
          case measure => simp [intOf]; omega
        · obtain rfl : k = sa.size := by omega
          rw [show sa.data.toList.take sa.size = sa.data.toList from List.take_length] at hm ⊢
          have hfr : (if na = true ∧ valM sa.data.toList % n ≠ 0 then n - valM sa.data.toList % n else valM sa.data.toList % n) = r := HZ.out
          obtain ⟨m, em⟩ : ∃ m, m = valM sa.data.toList % n := ⟨_, rfl⟩
          rw [← em] at hm hfr ⊢
          have HFR := Lib.hid hfr
          clear hfr em HZ
          cases na with
          | false =>
            have hr : m = r := by have := HFR.out; rwa [if_neg (by simp)] at this
            subst hr
            have w5 : IntKind.u32.wrap (m : Int) = (m : Int) := by rw [IntKind.wrap_u32]; omega
            clear HFR hn0
            go_wp2
            rw [HP.out]
            exact ⟨by first | rfl | rw [w5] | (simp; omega), HD1.out⟩
          | true =>
            by_cases hm0 : m = 0
            · subst hm0
              have hr : 0 = r := by have := HFR.out; rwa [if_neg (by simp)] at this
              subst hr
              clear HFR hn0
              go_wp2
              rw [HP.out]
              exact ⟨rfl, HD1.out⟩
            · have hr : n - m = r := by have := HFR.out; rwa [if_pos ⟨rfl, hm0⟩] at this
              have hmp : 0 < m := by omega
              have w10 : IntKind.u64.wrap (n : Int) = (n : Int) := by rw [IntKind.wrap_u64]; omega
              have w11 : IntKind.u64.wrap ((n : Int) - (m : Int)) = (r : Int) := by rw [IntKind.wrap_u64]; omega
              have w12 : IntKind.u32.wrap (r : Int) = (r : Int) := by rw [IntKind.wrap_u32]; omega
              have w13 : (r : Int) % 4294967296 = (r : Int) := by omega
              have w14 : (n : Int) - (m : Int) = (r : Int) := by omega
              clear HFR hn0 hr
              go_wp2
              rw [HP.out]
              exact ⟨by first | rfl | (simp [w10, w11, w12, w13, w14]; done), HD1.out⟩
end Go.Proofs.Ytnjblppapmflhaa
