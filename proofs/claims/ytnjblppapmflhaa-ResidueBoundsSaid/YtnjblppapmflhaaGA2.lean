/- Walks: inverses, and whether a number is in a list. -/
import Derived.Test.YtnjblppapmflhaaGA1
namespace Go.Proofs.Ytnjblppapmflhaa
open Go.RowKit
def invE (a n : Nat) : Int := if fitsB n [a] then (if Nat.gcd n a = 1 then 0 else 4) else 2
def SomeU32 (E : Value) (w : World) (e : Ending) (w' : World) : Prop := (∃ v, e = .returned (.tuple #[.int .u32 v, E])) ∧ Below w.heap.size w w'
theorem gcd_step (x y : Nat) (_ : 0 < y) : Nat.gcd y (x % y) = Nat.gcd x y := by
  rw [Nat.gcd_comm y, ← Nat.gcd_rec, Nat.gcd_comm]
theorem div_parts (x y : Nat) (_ : 0 < y) : ∃ q p : Nat, (x : Int) / (y : Int) = (q : Int) ∧ (q : Int) * (y : Int) = (p : Int) ∧ p ≤ x ∧ q ≤ x ∧ x - p = x % y := by
  refine ⟨x / y, x / y * y, by simp, by simp, Nat.div_mul_le_self x y, Nat.div_le_self x y, ?_⟩
  have := Nat.div_add_mod x y
  rw [Nat.mul_comm] at this
  omega
set_option maxHeartbeats 2000000 in
theorem Inverse_any (a n : Nat) (ha : a < 4294967296) (hn : n < 4294967296) (w : World) :
    Calls Try.prog 45 #[.int .u32 (a : Int), .int .u32 (n : Int)] w (SomeU32 (.int .i64 (invE a n)) w) := by
  have hfit : ∀ W v, W.reads (w.heap.size + 1) v ([a].map u32V) → Calls Try.prog 68 #[.int .u32 (n : Int), v] W fun e w' => e = .returned (.bool (fitsB n [a])) ∧ W = w' := fun W v h => fits_any n v [a] _ W h
  have HF := Lib.hid hfit
  clear hfit
  obtain ⟨E, hE⟩ : ∃ E, E = invE a n := ⟨_, rfl⟩
  rw [← hE]
  by_cases hf : fitsB n [a] = true
  · rw [hf] at HF
    unfold invE at hE
    rw [if_pos hf] at hE
    have HE := Lib.hid hE
    clear hE hf
    go_enter Try.func45, Try.ntmps45
    go_wp2_with fail
    refine (HF.out _ _ (reads_alloc_new w [u32V a] 23 1 (by simp) (by simp [maxLen]))).mono ?_
    rintro e w1 ⟨rfl, rfl⟩
    clear HF
    go_wp2
    go_loop [6, 7, 8, 9] (fun x y u v => ∃ (x' y' : Nat) (u' v' : Int), x = .int .i64 (x' : Int) ∧ y = .int .i64 (y' : Int) ∧ u = .int .i64 u' ∧ v = .int .i64 v' ∧ x' < 4294967296 ∧ y' < 4294967296 ∧ Hid (Nat.gcd x' y' = Nat.gcd n a)) (fun _ y _ _ => (intOf y).toNat)
    case atStart => exact ⟨n, a, 0, 1, rfl, rfl, rfl, rfl, hn, ha, rfl⟩
    case round =>
      obtain ⟨x, y, u, v, rfl, rfl, rfl, rfl, hx, hy, hg⟩ := hrel
      by_cases h0 : 0 < y
      · have hb : (((y : Nat) : Int) != 0) = true := by rw [bne_iff_ne]; omega
        have hb2 : (((y : Nat) : Int) == 0) = false := by rw [beq_eq_false_iff_ne]; omega
        obtain ⟨q, p, hq, hp, hpx, hqx, hm⟩ := div_parts x y h0
        have HM := Lib.hid hm
        clear hm
        go_wp2
        go_round
        case rel => exact ⟨y, x - p, v, _, rfl, by go_num, rfl, rfl, hy, by omega, by show _ = _; rw [HM.out, gcd_step x y h0]; exact hg.out⟩
        case measure =>
          have := HM.out
          have := Nat.mod_lt x h0
          simp [intOf]; omega
      · obtain rfl : y = 0 := by omega
        have hg1 := hg.out
        rw [Nat.gcd_zero_right] at hg1
        subst hg1
        by_cases h1 : Nat.gcd n a = 1
        · obtain rfl : E = 0 := by rw [HE.out, if_pos h1]
          have hb : (((Nat.gcd n a : Nat) : Int) != 1) = false := by rw [h1]; rfl
          go_wp2
          all_goals
            go_ret2
            exact ⟨⟨_, rfl⟩, (Below.refl _ _).alloc (Nat.le_refl _) _⟩
        · obtain rfl : E = 4 := by rw [HE.out, if_neg h1]
          have hb : (((Nat.gcd n a : Nat) : Int) != 1) = true := by rw [bne_iff_ne]; omega
          go_wp2
          go_ret2
          exact ⟨⟨_, rfl⟩, (Below.refl _ _).alloc (Nat.le_refl _) _⟩
  · have hf : fitsB n [a] = false := by simpa using hf
    rw [hf] at HF
    unfold invE at hE
    rw [hf] at hE
    obtain rfl : E = 2 := hE
    clear hf
    go_enter Try.func45, Try.ntmps45
    go_wp2_with fail
    refine (HF.out _ _ (reads_alloc_new w [u32V a] 23 1 (by simp) (by simp [maxLen]))).mono ?_
    rintro e w1 ⟨rfl, rfl⟩
    clear HF
    go_wp2
    go_ret2
    exact ⟨⟨_, rfl⟩, (Below.refl _ _).alloc (Nat.le_refl _) _⟩
def hasB (l : List Nat) (x : Nat) : Bool := l.contains x
def coprB (a b : Nat) : Bool := fitsB b [a % b] && decide (Nat.gcd b (a % b) = 1)
def IsBool (b : Bool) (w : World) (e : Ending) (w' : World) : Prop := e = .returned (.bool b) ∧ Below w.heap.size w w'
theorem invE_ok (a n : Nat) : invE a n = 0 ↔ (fitsB n [a] && decide (Nat.gcd n a = 1)) = true := by
  unfold invE; by_cases h : fitsB n [a] = true <;> by_cases h1 : Nat.gcd n a = 1 <;> simp [h, h1]
set_option maxHeartbeats 1000000 in
theorem Index_any (x : Nat) (v : Value) (xs : List Nat) (B : Nat) (w : World) (hr : w.reads B v (xs.map u32V)) :
    Calls Try.prog 74 #[v, .int .u32 (x : Int)] w fun e w' => (∃ i : Int, e = .returned (.int .i64 i) ∧ decide (0 ≤ i) = xs.contains x) ∧ w = w' := by
  have hl := hr.le_map
  obtain ⟨a, cap, rfl, hcap, hmx, hsh⟩ := reads_u32 hr
  have HS := Lib.hid hsh
  clear hsh hr
  go_enter Try.func74, Try.ntmps74
  go_wp2
  go_loop [8] (fun i => ∃ k : Nat, k ≤ xs.length ∧ i = .int .i64 (k : Int) ∧ Hid (x ∉ xs.take k)) (fun i => xs.length - (intOf i).toNat)
  case atStart => exact ⟨0, Nat.zero_le _, rfl, by show _ ∉ _; simp⟩
  case round =>
    obtain ⟨k, hk, rfl, hall⟩ := hrel
    by_cases hlt : k < xs.length
    · obtain ⟨y, hx⟩ : ∃ x, xs[k]? = some x := ⟨xs[k], List.getElem?_eq_getElem hlt⟩
      obtain ⟨b, off, rfl, _, hc⟩ := HS.out k y hx
      have HX := Lib.hid hx
      clear hx
      by_cases hxn : x = y
      · subst hxn
        go_wp2
        go_ret
        exact ⟨⟨_, rfl, by simp [List.mem_of_getElem? HX.out]⟩, rfl⟩
      · have hb : ((x : Int) == (y : Int)) = false := by rw [beq_eq_false_iff_ne]; omega
        go_wp2
        go_round
        case rel =>
          refine ⟨k + 1, by omega, by go_num, ?_⟩
          show _ ∉ _
          rw [List.take_add_one, HX.out]
          simp [hxn]
          exact hall.out
        case measure => simp [intOf]; omega
    · obtain rfl : k = xs.length := by omega
      have h2 := hall.out
      rw [List.take_length] at h2
      have HH := Lib.hid h2
      clear h2 hall
      go_wp2
      go_ret
      exact ⟨⟨-1, rfl, by simp [HH.out]⟩, rfl⟩
set_option maxHeartbeats 1000000 in
theorem Contains_any (x : Nat) (v : Value) (xs : List Nat) (B : Nat) (w : World) (hr : w.reads B v (xs.map u32V)) :
    Calls Try.prog 49 #[v, .int .u32 (x : Int)] w fun e w' => e = .returned (.bool (hasB xs x)) ∧ w = w' := by
  have HI := Lib.hid (fun W (h : W.reads B v (xs.map u32V)) => Index_any x v xs B W h)
  have HR := Lib.hid hr
  clear hr
  go_enter Try.func49, Try.ntmps49
  go_wp2_with fail
  refine (HI.out _ HR.out).mono ?_
  rintro e w1 ⟨⟨i, rfl, hi⟩, rfl⟩
  have H := Lib.hid hi
  clear hi HI HR
  go_wp2
  go_ret
  exact ⟨ret_bool H.out, rfl⟩
end Go.Proofs.Ytnjblppapmflhaa
