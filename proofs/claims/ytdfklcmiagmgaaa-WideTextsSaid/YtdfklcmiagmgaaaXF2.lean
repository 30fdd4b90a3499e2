/- Walks: the integer of 64 bits of a form: the reference's. -/
import Derived.Test.YtdfklcmiagmgaaaXF1
namespace Go.Proofs.Ytdfklcmiagmgaaa
set_option linter.all false
open Go.RowKit Go.Shelf Go.WideNum
theorem refInt_any (neg : Bool) (s : ByteArray) (hs : s.size ≤ maxLen) (R E : Int) (h : intB neg s = (R, E)) (w : World) :
    Calls Try.prog 19 #[.agg #[.bool neg, .string s]] w fun e w' => e = .returned (.tuple #[.int .i64 R, .int .i64 E]) ∧ Below w.heap.size w w' := by
  obtain ⟨HPOST, hpost⟩ : ∃ X : Ending → World → Prop, X = fun e w' => e = .returned (.tuple #[.int .i64 R, .int .i64 E]) ∧ Below w.heap.size w w' := ⟨_, rfl⟩
  rw [← hpost]
  have HP := Lib.hid hpost
  clear hpost
  obtain ⟨ok, hok⟩ : ∃ ok, ok = validB neg s := ⟨_, rfl⟩
  have HV := Lib.hid (refValid_wide neg s hs ok hok)
  unfold intB at h
  rw [← hok] at h
  have HOK := Lib.hid hok
  clear hok
  have hs63 : s.size ≤ 9223372036854775807 := hs
  have hb0 : Below w.heap.size w (w.alloc (.cells #[.bool neg, .string s] 23)) := (Below.refl _ w).alloc (Nat.le_refl _) _
  have hg0 : (w.alloc (.cells #[.bool neg, .string s] 23)).heap[w.heap.size]? = some (.cells #[.bool neg, .string s] 23) := heap_alloc_new w _
  have HB0 := Lib.hid hb0
  have HG0 := Lib.hid hg0
  clear hb0 hg0
  cases ok with
  | false =>
    obtain ⟨rfl, rfl⟩ : R = 0 ∧ E = 2 := by
      injection h with h1 h2
      exact ⟨h1.symm, h2.symm⟩
    clear h
    go_enter Try.func19, Try.ntmps19
    go_wp2_with fail
    (with_reducible refine (HV.out _).mono ?_)
    rintro e w1 ⟨rfl, hb1⟩
    have HB1 := Lib.hid (HB0.out.trans (hb1.mono HB0.out.size))
    clear hb1
    go_wp2
    rw [HP.out]
    exact ⟨rfl, HB1.out⟩
  | true =>
    obtain ⟨hlim, hmag, hnz, hs256⟩ := valid_spec neg s HOK.out.symm
    obtain ⟨n, en⟩ : ∃ n, n = numB s := ⟨_, rfl⟩
    rw [← en] at h hlim hnz hmag
    have hlen : (words 256 n).length = s.size := by
      rw [← magL_length, ← hmag]; rfl
    have HBY : Hid (∀ i (h : i < s.size), (s[i].toNat) = dig 256 n (s.size - 1 - i)) := fun i h => by rw [en]; exact byte_dig s.data.toList i h
    have hnlt : n < 256 ^ s.size := by rw [← hlen]; exact words_vlt (by omega) n
    have hnge : 8 < s.size → 18446744073709551616 ≤ n := fun h8 => by
      rcases Nat.lt_or_ge n (256 ^ 8) with h | h
      · have := words_length (B := 256) (by omega) n 8 h; omega
      · omega
    have HH := Lib.hid h
    have HNLT := Lib.hid hnlt
    have hnz' : neg = true → 0 < n := fun hh => Nat.pos_of_ne_zero (hnz hh)
    clear h hlim hmag hnz en hlen hnlt
    go_enter Try.func19, Try.ntmps19
    go_wp2_with fail
    (with_reducible refine (HV.out _).mono ?_)
    rintro e w1 ⟨rfl, hb1⟩
    have hk1 := wide_hold (w := w) HG0.out hb1
    have HB1 := Lib.hid (HB0.out.trans (hb1.mono HB0.out.size))
    obtain ⟨c0, c1, f0⟩ := wide_cells hk1
    clear hb1 hk1
    by_cases h8 : 8 < s.size
    · have h8' : (8 : Int) < (s.size : Int) := by omega
      have hge := hnge h8
      obtain ⟨rfl, rfl⟩ : R = 0 ∧ E = 7 := by
        have h : intN neg n = (R, E) := by have h := HH.out; simpa using h
        unfold intN at h
        cases neg with
        | true =>
          rw [if_pos rfl, if_neg (by omega)] at h
          injection h with h1 h2
          exact ⟨h1.symm, h2.symm⟩
        | false =>
          rw [if_neg (by decide), if_neg (by omega)] at h
          injection h with h1 h2
          exact ⟨h1.symm, h2.symm⟩
      clear hge hnge hnz'
      go_wp2
      rw [HP.out]
      exact ⟨rfl, HB1.out⟩
    · have h8' : ¬ (8 : Int) < (s.size : Int) := by omega
      obtain ⟨N, hN⟩ : ∃ N, N = s.size := ⟨_, rfl⟩
      have hNI : (s.size : Int) = (N : Int) := by rw [hN]
      have hN8 : N ≤ 8 := by omega
      have HN := Lib.hid hN
      have hn64 : n < 18446744073709551616 := by
        have h1 := HNLT.out
        rw [← hN] at h1
        have h2 : 256 ^ N ≤ 256 ^ 8 := Nat.pow_le_pow_right (by omega) hN8
        omega
      have HN64 := Lib.hid hn64
      clear hnge hN h8 hn64
      go_wp2_with fail
      go_loop [4, 5] (fun nv iv => ∃ k : Nat, k ≤ N ∧ iv = .int .i64 (k : Int) ∧ nv = .int .u64 ((n / 256 ^ (N - k) : Nat) : Int)) (fun _ iv => N - (intOf iv).toNat)
      case atStart => exact ⟨0, Nat.zero_le _, rfl, by rw [Nat.sub_zero, Nat.div_eq_of_lt (by rw [HN.out]; exact HNLT.out)]; rfl⟩
      case round =>
        obtain ⟨k, hk, rfl, rfl⟩ := hrel
        by_cases hlt : k < N
        · have hks : k < s.size := by have := HN.out; omega
          have hks' : (k : Int) < (s.size : Int) := by omega
          have hby := HBY.out k hks
          rw [← HN.out, show N - 1 - k = N - (k + 1) by omega] at hby
          have hst := div_pow_succ 256 n (N - (k + 1))
          rw [← hby, show N - (k + 1) + 1 = N - k by omega] at hst
          obtain ⟨x, ex⟩ : ∃ x, x = (s[k]'hks).toNat := ⟨_, rfl⟩
          have hx256 : x < 256 := by rw [ex]; exact (s[k]'hks).toNat_lt
          have hxx : ((s[k]'hks).toNat : Int) = (x : Int) := by rw [ex]
          rw [← ex] at hst
          have hle := Nat.div_le_self n (256 ^ (N - (k + 1)))
          have hn64 := HN64.out
          obtain ⟨m, em⟩ : ∃ m, m = n / 256 ^ (N - k) := ⟨_, rfl⟩
          obtain ⟨m2, em2⟩ : ∃ m, m = n / 256 ^ (N - (k + 1)) := ⟨_, rfl⟩
          rw [← em, ← em2] at hst
          rw [← em2] at hle
          rw [← em]
          have EM2 := Lib.hid em2
          have t1 : IntKind.u64.wrap ((m : Int) * 256) = ((256 * m : Nat) : Int) := by rw [IntKind.wrap_u64]; omega
          have t1' : IntKind.u64.wrap ((m : Int) * 2 ^ 8) = ((256 * m : Nat) : Int) := by rw [IntKind.wrap_u64]; omega
          have t2 : ((256 * m : Nat) : Int) + (x : Int) = (m2 : Int) := by omega
          have t3 : (256 * (m : Int)) + (x : Int) = (m2 : Int) := by omega
          have t4 : ((m : Int) * 256) + (x : Int) = (m2 : Int) := by omega
          clear em em2 ex hby hn64
          go_wp2_with fail
          go_round
          case rel => exact ⟨k + 1, by omega, by go_num, by rw [← EM2.out]; congr 1; have := HN64.out; first | omega | (rw [IntKind.wrap_u64]; omega)⟩
          case measure => simp [intOf]; omega
        · obtain rfl : k = N := by omega
          rw [Nat.sub_self, Nat.pow_zero, Nat.div_one]
          have h : intN neg n = (R, E) := by have h := HH.out; simpa using h
          unfold intN at h
          cases neg with
          | true =>
            rw [if_pos rfl] at h
            by_cases hb : n ≤ 9223372036854775808
            · rw [if_pos hb] at h
              obtain ⟨rfl, rfl⟩ : R = -(n : Int) ∧ E = 0 := by
                injection h with h1 h2
                exact ⟨h1.symm, h2.symm⟩
              have hb' : ¬ (9223372036854775808 : Int) < (n : Int) := by omega
              have hn0 := hnz' rfl
              obtain ⟨r, er⟩ : ∃ r : Int, r = IntKind.i64.wrap (n : Int) := ⟨_, rfl⟩
              have t1 : IntKind.i64.wrap (n : Int) = r := er.symm
              have t2 : IntKind.i64.wrap (-r) = -(n : Int) := by
                rw [er]
                rw [IntKind.wrap_i64, IntKind.wrap_i64]
                omega
              clear er h hnz'
              go_wp2
              rw [HP.out]
              exact ⟨by first | rfl | simp [t1, t2], HB1.out⟩
            · rw [if_neg hb] at h
              obtain ⟨rfl, rfl⟩ : R = 0 ∧ E = 7 := by
                injection h with h1 h2
                exact ⟨h1.symm, h2.symm⟩
              have hb' : (9223372036854775808 : Int) < (n : Int) := by omega
              clear h hnz'
              go_wp2
              rw [HP.out]
              exact ⟨rfl, HB1.out⟩
          | false =>
            rw [if_neg (by decide)] at h
            by_cases hb : n < 9223372036854775808
            · rw [if_pos hb] at h
              obtain ⟨rfl, rfl⟩ : R = (n : Int) ∧ E = 0 := by
                injection h with h1 h2
                exact ⟨h1.symm, h2.symm⟩
              have hb' : ¬ (9223372036854775808 : Int) ≤ (n : Int) := by omega
              clear h hnz'
              go_wp2
              rw [HP.out]
              exact ⟨rfl, HB1.out⟩
            · rw [if_neg hb] at h
              obtain ⟨rfl, rfl⟩ : R = 0 ∧ E = 7 := by
                injection h with h1 h2
                exact ⟨h1.symm, h2.symm⟩
              have hb' : (9223372036854775808 : Int) ≤ (n : Int) := by omega
              clear h hnz'
              go_wp2
              rw [HP.out]
              exact ⟨rfl, HB1.out⟩
end Go.Proofs.Ytdfklcmiagmgaaa
