/- Helpers and walks, in one text. -/
import Derived.Test.YtnjblppapmflhaaPK5
import Derived.Test.YtnjblppapmflhaaProg
import Derived.Deep.QuietTactic
import Derived.BigQuiet
import Derived.Test.YtnjblppapmflhaaPN5
import Derived.Test.YtnjblppapmflhaaPN6
import Derived.Test.YtnjblppapmflhaaPN7
import Derived.Test.YtnjblppapmflhaaPNa
/- Walks: integers of many words, by value: calls whose results lie in range. -/
namespace Go.Proofs.Ytnjblppapmflhaa
set_option linter.all false
open Go.RowKit Go.Shelf Go.WideNum
theorem div_all : DivAll := fun A C hC hla hlc => by
  by_cases hs : A < C ∨ C < 4294967296
  · exact divide_small A C hC hs (by omega) (by omega)
  · exact divide_big A C (by omega) (by omega) (by omega)
theorem div_valid (na : Bool) (sa : ByteArray) (nb : Bool) (sb : ByteArray) (ha : validB na sa = true) (hb : validB nb sb = true) (h0 : sb.size ≠ 0) : DivOK (numB sa) (numB sb) := by
  obtain ⟨l1, -, -, -⟩ := valid_spec na sa ha
  obtain ⟨l2, hmg, -, -⟩ := valid_spec nb sb hb
  have h1 := wd_len65 l1
  have h2 := wd_len65 l2
  exact div_all _ _ (fun h => by rw [h] at hmg; exact h0 (by rw [← hmg]; rfl)) (by omega) (by omega)
/-- The sign and the bytes of an integer's form. -/
def zN (z : Int) : Bool := decide (z < 0)
def zT (z : Int) : ByteArray := magB z.natAbs
def InR (z : Int) : Prop := z.natAbs < lim
theorem lim_words : lim = 4294967296 ^ 64 := by unfold lim; rw [show (4294967296 : Nat) = 256 ^ 4 by rfl, ← Nat.pow_mul]
theorem inR_of {z : Int} {k : Nat} (h : z.natAbs < 4294967296 ^ k) (hk : k ≤ 64) : InR z := by
  unfold InR
  rw [lim_words]
  exact Nat.lt_of_lt_of_le h (Nat.pow_le_pow_right (by omega) hk)
theorem inR_small {z : Int} (h : z.natAbs < 18446744073709551616) : InR z := inR_of (k := 2) (Nat.lt_of_lt_of_le h (by decide)) (by omega)
theorem outZ_zW {z : Int} (h : InR z) : outZ z = .agg #[.bool (zN z), .string (zT z)] ∧ errZ z = 0 := outZ_in z h
theorem z_valid {z : Int} (h : InR z) : validB (zN z) (zT z) = true ∧ zV (zN z) (zT z) = z := by
  obtain ⟨v1, v2⟩ := valid_magB (decide (z < 0)) z.natAbs h (fun hn => by have := of_decide_eq_true hn; omega)
  refine ⟨v1, ?_⟩
  unfold zV zOf zT zN
  rw [v2]
  by_cases hn : z < 0
  · rw [decide_eq_true hn, if_pos rfl]; omega
  · rw [decide_eq_false hn, if_neg (by decide)]; omega
theorem z_size {z : Int} (h : InR z) : (zT z).size ≤ maxLen := by
  have := (valid_spec _ _ (z_valid h).1).2.2.2
  unfold maxLen; omega
theorem z_of_valid {n : Bool} {s : ByteArray} (h : validB n s = true) : InR (zV n s) ∧ zN (zV n s) = n ∧ zT (zV n s) = s := by
  obtain ⟨h1, h2, h3⟩ := valid_out n s h
  refine ⟨h3, ?_⟩
  have h4 := (outZ_zW h3).1
  rw [h1] at h4
  injection h4 with h4
  injection h4 with h4
  injection h4 with h5 h6
  injection h6 with h6 _
  injection h5 with h5
  injection h6 with h6
  exact ⟨h5.symm, h6.symm⟩
theorem opF_z (f : Int → Int → Int) {x y : Int} (hx : InR x) (hy : InR y) (h : InR (f x y)) : opF f (zN x) (zT x) (zN y) (zT y) = (.agg #[.bool (zN (f x y)), .string (zT (f x y))], 0) := by
  unfold opF
  rw [(z_valid hx).1, (z_valid hy).1, (z_valid hx).2, (z_valid hy).2, if_pos (by rfl), (outZ_zW h).1, (outZ_zW h).2]
/-- A form and no error. -/
def WideOk (z : Int) (w : World) (e : Ending) (w' : World) : Prop := e = .returned (.tuple #[.agg #[.bool (zN z), .string (zT z)], .int .i64 0]) ∧ Below w.heap.size w w'
theorem Mul_z (x y : Int) (hx : InR x) (hy : InR y) (h : InR (x * y)) (w : World) :
    Calls Try.prog 51 #[.agg #[.bool (zN x), .string (zT x)], .agg #[.bool (zN y), .string (zT y)]] w (WideOk (x * y) w) := by
  have := Mul_any (zN x) (zT x) (zN y) (zT y) (z_size hx) (z_size hy) w
  rwa [opF_z (fun a b => a * b) hx hy h] at this
theorem Add_z (x y : Int) (hx : InR x) (hy : InR y) (h : InR (x + y)) (w : World) :
    Calls Try.prog 81 #[.agg #[.bool (zN x), .string (zT x)], .agg #[.bool (zN y), .string (zT y)]] w (WideOk (x + y) w) := by
  have := Add_any (zN x) (zT x) (zN y) (zT y) (z_size hx) (z_size hy) w
  rwa [opF_z (fun a b => a + b) hx hy h] at this
theorem refMul_z (x y : Int) (hx : InR x) (hy : InR y) (h : InR (x * y)) (w : World) :
    Calls Try.prog 28 #[.agg #[.bool (zN x), .string (zT x)], .agg #[.bool (zN y), .string (zT y)]] w (WideOk (x * y) w) :=
  refMul_any (zN x) (zT x) (zN y) (zT y) (z_size hx) (z_size hy) _ _ _ (opF_z (fun a b => a * b) hx hy h) w
theorem refAdd_z (x y : Int) (hx : InR x) (hy : InR y) (h : InR (x + y)) (w : World) :
    Calls Try.prog 23 #[.agg #[.bool (zN x), .string (zT x)], .agg #[.bool (zN y), .string (zT y)]] w (WideOk (x + y) w) :=
  refAdd_any (zN x) (zT x) (zN y) (zT y) (z_size hx) (z_size hy) _ _ _ (opF_z (fun a b => a + b) hx hy h) w
theorem refSub_z (x y : Int) (hx : InR x) (hy : InR y) (h : InR (x - y)) (w : World) :
    Calls Try.prog 29 #[.agg #[.bool (zN x), .string (zT x)], .agg #[.bool (zN y), .string (zT y)]] w (WideOk (x - y) w) :=
  refSub_any (zN x) (zT x) (zN y) (zT y) (z_size hx) (z_size hy) _ _ _ (opF_z (fun a b => a - b) hx hy h) w
theorem Of_z (n : Int) (h1 : -9223372036854775808 ≤ n) (h2 : n < 9223372036854775808) (w : World) :
    Calls Try.prog 37 #[.int .i64 n] w fun e w' => e = .returned (.agg #[.bool (zN n), .string (zT n)]) ∧ Below w.heap.size w w' := by
  have := Of_any n h1 h2 w
  rwa [(outZ_zW (inR_small (by omega))).1] at this
theorem refOf_z (n : Int) (h1 : -9223372036854775808 ≤ n) (h2 : n < 9223372036854775808) (w : World) :
    Calls Try.prog 24 #[.int .i64 n] w fun e w' => e = .returned (.agg #[.bool (zN n), .string (zT n)]) ∧ Below w.heap.size w w' :=
  refOf_any n h1 h2 _ _ (outZ_zW (inR_small (by omega))).1 w
theorem pos_of {m : Int} (h : InR m) (h0 : 0 < m) : posB (zN m) (zT m) = true := by
  unfold posB
  have h1 := (z_valid h).1
  have h2 : zN m = false := decide_eq_false (by omega)
  have h3 : (zT m).size ≠ 0 := fun h3 => by
    have h4 := (z_valid h).2
    have h5 : zT m = ⟨#[]⟩ := by
      apply ByteArray.ext
      exact Array.eq_empty_of_size_eq_zero h3
    rw [h5, h2] at h4
    have : zV false ⟨#[]⟩ = 0 := by kernel_rfl
    omega
  rw [h2] at h1 ⊢
  simp [h1, h3]
theorem balZ_abs (x m : Int) (h0 : 0 < m) : -m < balZ x m ∧ balZ x m < m := by
  have h1 := Int.emod_nonneg x (show m ≠ 0 by omega)
  have h2 := Int.emod_lt_of_pos x h0
  unfold balZ
  split <;> omega
theorem balF_z {x m : Int} (hx : InR x) (hm : InR m) (h0 : 0 < m) : balF (zN x) (zT x) (zN m) (zT m) = (.agg #[.bool (zN (balZ x m)), .string (zT (balZ x m))], 0) := by
  have hb := balZ_abs x m h0
  have hr : InR (balZ x m) := by unfold InR at *; omega
  unfold balF
  rw [(z_valid hx).1, pos_of hm h0, (z_valid hx).2, (z_valid hm).2, if_pos (by rfl), (outZ_zW hr).1, (outZ_zW hr).2]
theorem Balanced_z (x m : Int) (hx : InR x) (hm : InR m) (h0 : 0 < m) (w : World) :
    Calls Try.prog 82 #[.agg #[.bool (zN x), .string (zT x)], .agg #[.bool (zN m), .string (zT m)]] w (WideOk (balZ x m) w) := by
  have := Balanced_any (zN x) (zT x) (zN m) (zT m) (z_size hx) (z_size hm) (div_valid _ _ _ _) w
  rwa [balF_z hx hm h0] at this
theorem refBalanced_z (x m : Int) (hx : InR x) (hm : InR m) (h0 : 0 < m) (w : World) :
    Calls Try.prog 34 #[.agg #[.bool (zN x), .string (zT x)], .agg #[.bool (zN m), .string (zT m)]] w (WideOk (balZ x m) w) :=
  refBalanced_any (zN x) (zT x) (zN m) (zT m) (z_size hx) (z_size hm) _ _ _ (balF_z hx hm h0) w
theorem modF_z {x : Int} {n r : Nat} (hx : InR x) (h0 : 0 < n) (hr : x % (n : Int) = (r : Int)) : modF (zN x) (zT x) n = (r, 0) := by
  unfold modF
  have h1 := (floor_z (numB (zT x)) (zN x) n false (by omega)).2
  have h2 : zOf (zN x) (numB (zT x)) = x := (z_valid hx).2
  rw [h2, show zOf false n = (n : Int) by rfl, hr] at h1
  rw [(z_valid hx).1, decide_eq_true (show n ≠ 0 by omega), if_pos (by rfl)]
  congr 1
  omega
theorem Mod_z (x : Int) (n r : Nat) (hx : InR x) (h0 : 0 < n) (hn : n < 4294967296) (hr : x % (n : Int) = (r : Int)) (w : World) :
    Calls Try.prog 79 #[.agg #[.bool (zN x), .string (zT x)], .int .u32 (n : Int)] w fun e w' => e = .returned (.tuple #[.int .u32 (r : Int), .int .i64 0]) ∧ Below w.heap.size w w' :=
  Mod_any (zN x) (zT x) (z_size hx) n hn r 0 (modF_z hx h0 hr) w
theorem refMod_z (x : Int) (n r : Nat) (hx : InR x) (h0 : 0 < n) (hn : n < 4294967296) (hr : x % (n : Int) = (r : Int)) (w : World) :
    Calls Try.prog 62 #[.agg #[.bool (zN x), .string (zT x)], .int .u32 (n : Int)] w fun e w' => e = .returned (.tuple #[.int .u32 (r : Int), .int .i64 0]) ∧ Below w.heap.size w w' :=
  refMod_any (zN x) (zT x) (z_size hx) n hn r 0 (modF_z hx h0 hr) w
theorem size_pos {m : Int} (h : InR m) (h0 : 0 < m) : (zT m).size ≠ 0 := by
  have := pos_of h h0
  unfold posB at this
  rw [Bool.and_eq_true, Bool.and_eq_true] at this
  exact of_decide_eq_true this.2.1
theorem ediv_abs (x m : Int) (h0 : 0 < m) : (x / m).natAbs ≤ x.natAbs := by
  have h1 := Int.mul_ediv_add_emod x m
  have h2 := Int.emod_nonneg x (show m ≠ 0 by omega)
  have h3 := Int.emod_lt_of_pos x h0
  rcases Int.lt_or_le (x / m) 0 with h | h
  · have h4 : m * (x / m + 1) ≤ 1 * (x / m + 1) := Int.mul_le_mul_of_nonpos_right (by omega) (by omega)
    rw [Int.mul_add, Int.mul_one] at h4
    rcases Int.lt_or_le x 0 with h5 | h5
    · omega
    · have := Int.ediv_nonneg h5 (show 0 ≤ m by omega); omega
  · have h4 : 1 * (x / m) ≤ m * (x / m) := Int.mul_le_mul_of_nonneg_right (by omega) h
    omega
theorem refDiv_z (x m : Int) (hx : InR x) (hm : InR m) (h0 : 0 < m) (w : World) :
    Calls Try.prog 25 #[.agg #[.bool (zN x), .string (zT x)], .agg #[.bool (zN m), .string (zT m)]] w fun e w' => e = .returned (.tuple #[.agg #[.bool (zN (x / m)), .string (zT (x / m))], .agg #[.bool (zN (x % m)), .string (zT (x % m))], .int .i64 0]) ∧ Below w.heap.size w w' := by
  have hq : InR (x / m) := by have := ediv_abs x m h0; unfold InR at *; omega
  have hr : InR (x % m) := by
    have h2 := Int.emod_nonneg x (show m ≠ 0 by omega)
    have h3 := Int.emod_lt_of_pos x h0
    unfold InR at *; omega
  refine refDiv_any (zN x) (zT x) (zN m) (zT m) (z_size hx) (z_size hm) _ _ _ _ _ ?_ w
  unfold divF
  rw [(z_valid hx).1, (z_valid hm).1, (z_valid hx).2, (z_valid hm).2, decide_eq_true (size_pos hm h0), if_pos (by rfl), (outZ_zW hq).1, (outZ_zW hq).2, (outZ_zW hr).1]
end Go.Proofs.Ytnjblppapmflhaa

/- Walks: residues. -/
namespace Go.Proofs.Ytnjblppapmflhaa
open Go.RowKit
def fitsB (n : Nat) (l : List Nat) : Bool := l.all (fun a => decide (a < n)) && decide (2 ≤ n) && decide (n ≤ 2147483647)
set_option maxHeartbeats 1000000 in
theorem fits_any (n : Nat) (v : Value) (xs : List Nat) (B : Nat) (w : World) (hr : w.reads B v (xs.map u32V)) :
    Calls Try.prog 68 #[.int .u32 (n : Int), v] w fun e w' => e = .returned (.bool (fitsB n xs)) ∧ w = w' := by
  have hl := hr.le_map
  obtain ⟨a, cap, rfl, hcap, hmx, hsh⟩ := reads_u32 hr
  have HS := Lib.hid hsh
  clear hsh hr
  go_enter Try.func68, Try.ntmps68
  go_wp2
  go_loop [9] (fun i => ∃ k : Nat, k ≤ xs.length ∧ i = .int .i64 (k : Int) ∧ Hid ((xs.take k).all (fun a => decide (a < n)) = true)) (fun i => xs.length - (intOf i).toNat)
  case atStart => exact ⟨0, Nat.zero_le _, rfl, by show _ = _; simp⟩
  case round =>
    obtain ⟨k, hk, rfl, hall⟩ := hrel
    by_cases hlt : k < xs.length
    · obtain ⟨x, hx⟩ : ∃ x, xs[k]? = some x := ⟨xs[k], List.getElem?_eq_getElem hlt⟩
      obtain ⟨b, off, rfl, _, hc⟩ := HS.out k x hx
      have HX := Lib.hid hx
      clear hx
      by_cases hxn : x < n
      · go_wp2
        go_round
        case rel => exact ⟨k + 1, by omega, by go_num, by show _ = _; rw [all_take_succ _ _ _ _ HX.out, hall.out]; simp [hxn]⟩
        case measure => simp [intOf]; omega
      · go_wp2
        go_ret
        refine ⟨ret_bool ?_, rfl⟩
        unfold fitsB
        have : xs.all (fun a => decide (a < n)) = false := by
          rw [List.all_eq_false]; exact ⟨x, List.mem_of_getElem? HX.out, by simpa using hxn⟩
        simp [this]
    · obtain rfl : k = xs.length := by omega
      by_cases h2 : 2 ≤ n
      · go_wp2
        go_ret
        refine ⟨ret_bool ?_, rfl⟩
        unfold fitsB
        have := hall.out
        rw [List.take_length] at this
        rw [this, Bool.eq_iff_iff]; simp; omega
      · go_wp2
        go_ret
        refine ⟨ret_bool ?_, rfl⟩
        unfold fitsB
        simp [h2]
end Go.Proofs.Ytnjblppapmflhaa

/- Walks: inverses, and whether a number is in a list. -/
namespace Go.Proofs.Ytnjblppapmflhaa
open Go.RowKit
def hasB (l : List Nat) (x : Nat) : Bool := l.contains x
set_option maxHeartbeats 1000000 in
theorem Index_any (x : Nat) (v : Value) (xs : List Nat) (B : Nat) (w : World) (hr : w.reads B v (xs.map u32V)) :
    Calls Try.prog 74 #[v, .int .u32 (x : Int)] w fun e w' => (∃ i : Int, e = .returned (.int .i64 i) ∧ decide (0 ≤ i) = xs.contains x) ∧ w = w' := by
  have hl := hr.le_map
  obtain ⟨a, cap, rfl, hcap, hmx, hsh⟩ := reads_u32 hr
  have HS := Lib.hid hsh
  clear hsh hr
  go_enter Try.func74, Try.ntmps74
  go_wp2
  go_loop [8] (fun i => ∃ k : Nat, k ≤ xs.length ∧ i = .int .i64 (k : Int) ∧ Hid (x ∉ xs.take k)) (fun i => xs.length - (intOf i).toNat)
  case atStart => exact ⟨0, Nat.zero_le _, rfl, by show _ ∉ _; simp⟩
  case round =>
    obtain ⟨k, hk, rfl, hall⟩ := hrel
    by_cases hlt : k < xs.length
    · obtain ⟨y, hx⟩ : ∃ x, xs[k]? = some x := ⟨xs[k], List.getElem?_eq_getElem hlt⟩
      obtain ⟨b, off, rfl, _, hc⟩ := HS.out k y hx
      have HX := Lib.hid hx
      clear hx
      by_cases hxn : x = y
      · subst hxn
        go_wp2
        go_ret
        exact ⟨⟨_, rfl, by simp [List.mem_of_getElem? HX.out]⟩, rfl⟩
      · have hb : ((x : Int) == (y : Int)) = false := by rw [beq_eq_false_iff_ne]; omega
        go_wp2
        go_round
        case rel =>
          refine ⟨k + 1, by omega, by go_num, ?_⟩
          show _ ∉ _
          rw [List.take_add_one, HX.out]
          simp [hxn]
          exact hall.out
        case measure => simp [intOf]; omega
    · obtain rfl : k = xs.length := by omega
      have h2 := hall.out
      rw [List.take_length] at h2
      have HH := Lib.hid h2
      clear h2 hall
      go_wp2
      go_ret
      exact ⟨⟨-1, rfl, by simp [HH.out]⟩, rfl⟩
set_option maxHeartbeats 1000000 in
theorem Contains_any (x : Nat) (v : Value) (xs : List Nat) (B : Nat) (w : World) (hr : w.reads B v (xs.map u32V)) :
    Calls Try.prog 49 #[v, .int .u32 (x : Int)] w fun e w' => e = .returned (.bool (hasB xs x)) ∧ w = w' := by
  have HI := Lib.hid (fun W (h : W.reads B v (xs.map u32V)) => Index_any x v xs B W h)
  have HR := Lib.hid hr
  clear hr
  go_enter Try.func49, Try.ntmps49
  go_wp2_with fail
  refine (HI.out _ HR.out).mono ?_
  rintro e w1 ⟨⟨i, rfl, hi⟩, rfl⟩
  have H := Lib.hid hi
  clear hi HI HR
  go_wp2
  go_ret
  exact ⟨ret_bool H.out, rfl⟩
end Go.Proofs.Ytnjblppapmflhaa

/- Plain: whatever passes the strong tests to the bases 2, 7 and 61 below 2^31 is a prime. -/
namespace Go.Proofs.Ytnjblppapmflhaa.PN
set_option linter.all false
def PL.drop : Nat → PL → PL
  | 0, t => t
  | _ + 1, .nil => .nil
  | f + 1, .cons _ _ t => t.drop f
/-- All primes of n are in the list, and n fits to it. -/
def PL.fits (n : Nat) (t : PL) : Prop := t.good n ∧ ∀ s, Pr s → s ∣ n → t.mem s
theorem tops_sound {n : Nat} (h0 : 2000 < n) (h1 : n < nn) (ho : n % 2 = 1) (hs : Ps n) : ∀ (f : Nat) (t : PL), tops f t = true → t.fits n → (t.drop f).fits n
  | 0, t, _, hg => hg
  | f + 1, .nil, _, hg => hg
  | f + 1, .cons q d t, h, ⟨hg, hm⟩ => by
    obtain ⟨h2, h3⟩ := condF h
    obtain ⟨g1, g2, g3, g4⟩ := hg
    by_cases hq : q ∣ n
    · obtain ⟨k, hk⟩ := hq
      obtain ⟨D', hD', hF⟩ := br_sound h2 (show n = 1 * q * k by rw [Nat.one_mul]; exact hk) (Nat.one_dvd _) (g1 ⟨k, hk⟩) h0 h1 ho hs
      refine (dfs_sound h0 h1 ho hs t (1 * q) D' k hF g4 hD' (by rw [Nat.one_mul]; exact hk) fun s hsp hd2 => ?_).elim
      rcases hm s hsp (Nat.dvd_trans hd2 ⟨q, by rw [hk, Nat.mul_comm]⟩) with h4 | h4
      · subst h4
        obtain ⟨i, rfl⟩ := hd2
        exact absurd ⟨i, by rw [hk, Nat.mul_assoc]⟩ g3
      · exact h4
    · refine tops_sound h0 h1 ho hs f t h3 ⟨g4, fun s hsp hd2 => ?_⟩
      rcases hm s hsp hd2 with h4 | h4
      · subst h4; exact absurd hd2 hq
      · exact h4
theorem small_none {n : Nat} (h0 : 2000 < n) (h1 : n < nn) (ho : n % 2 = 1) (hs : Ps n) (hm : ∀ s, Pr s → s ∣ n → pl20.mem s) : False := by
  have f20 : pl20.fits n := ⟨okPL_sound (by omega) hs _ pl_ok, hm⟩
  have f19 : pl19.fits n := tops_sound h0 h1 ho hs 15 pl20 top20 f20
  have f18 : pl18.fits n := tops_sound h0 h1 ho hs 15 pl19 top19 f19
  have f17 : pl17.fits n := tops_sound h0 h1 ho hs 15 pl18 top18 f18
  have f16 : pl16.fits n := tops_sound h0 h1 ho hs 15 pl17 top17 f17
  have f15 : pl15.fits n := tops_sound h0 h1 ho hs 15 pl16 top16 f16
  have f14 : pl14.fits n := tops_sound h0 h1 ho hs 15 pl15 top15 f15
  have f13 : pl13.fits n := tops_sound h0 h1 ho hs 15 pl14 top14 f14
  have f12 : pl12.fits n := tops_sound h0 h1 ho hs 15 pl13 top13 f13
  have f11 : pl11.fits n := tops_sound h0 h1 ho hs 15 pl12 top12 f12
  have f10 : pl10.fits n := tops_sound h0 h1 ho hs 15 pl11 top11 f11
  have f9 : pl9.fits n := tops_sound h0 h1 ho hs 15 pl10 top10 f10
  have f8 : pl8.fits n := tops_sound h0 h1 ho hs 15 pl9 top9 f9
  have f7 : pl7.fits n := tops_sound h0 h1 ho hs 15 pl8 top8 f8
  have f6 : pl6.fits n := tops_sound h0 h1 ho hs 15 pl7 top7 f7
  have f5 : pl5.fits n := tops_sound h0 h1 ho hs 15 pl6 top6 f6
  have f4 : pl4.fits n := tops_sound h0 h1 ho hs 15 pl5 top5 f5
  have f3 : pl3.fits n := tops_sound h0 h1 ho hs 15 pl4 top4 f4
  have f2 : pl2.fits n := tops_sound h0 h1 ho hs 15 pl3 top3 f3
  have f1 : pl1.fits n := tops_sound h0 h1 ho hs 15 pl2 top2 f2
  have f0 : pl0.fits n := tops_sound h0 h1 ho hs 15 pl1 top1 f1
  obtain ⟨s, hsp, hd⟩ := exists_prime (show 2 ≤ n by omega)
  exact f0.2 s hsp hd
theorem big_none {p : Nat} (h0 : 2000 < p) (h1 : p ≤ 46341) (ho : p % 2 = 1) : bigOne p = true := by
  have key : ∀ (f q : Nat), bigs f q = true → q % 2 = 1 → q ≤ p → p < q + 2 * f → bigOne p = true := fun f q h h2 h3 h4 => by
    have := bigs_sound f q h ((p - q) / 2) (by omega)
    rwa [show q + 2 * ((p - q) / 2) = p by omega] at this
  rcases Nat.lt_or_ge p 3001 with c0 | c0
  · exact key 500 2001 bigs0 (by omega) (by omega) (by omega)
  rcases Nat.lt_or_ge p 4001 with c1 | c1
  · exact key 500 3001 bigs1 (by omega) (by omega) (by omega)
  rcases Nat.lt_or_ge p 5001 with c2 | c2
  · exact key 500 4001 bigs2 (by omega) (by omega) (by omega)
  rcases Nat.lt_or_ge p 8001 with c3 | c3
  · exact key 1500 5001 bigs3 (by omega) (by omega) (by omega)
  rcases Nat.lt_or_ge p 11001 with c4 | c4
  · exact key 1500 8001 bigs4 (by omega) (by omega) (by omega)
  rcases Nat.lt_or_ge p 14001 with c5 | c5
  · exact key 1500 11001 bigs5 (by omega) (by omega) (by omega)
  rcases Nat.lt_or_ge p 22001 with c6 | c6
  · exact key 4000 14001 bigs6 (by omega) (by omega) (by omega)
  rcases Nat.lt_or_ge p 30001 with c7 | c7
  · exact key 4000 22001 bigs7 (by omega) (by omega) (by omega)
  rcases Nat.lt_or_ge p 38001 with c8 | c8
  · exact key 4000 30001 bigs8 (by omega) (by omega) (by omega)
  rcases Nat.lt_or_ge p 46001 with c9 | c9
  · exact key 4000 38001 bigs9 (by omega) (by omega) (by omega)
  exact key 171 46001 bigs10 (by omega) (by omega) (by omega)
theorem loop_none {k : Nat} (h0 : 2 < k) (h1 : k ≤ 46341) (ho : k % 2 = 1) : oneK bigM k = true := by
  have key : ∀ (f q : Nat), (fz bigM fun M => loopK f M q) = true → q % 2 = 1 → q ≤ k → k < q + 2 * f → oneK bigM k = true := fun f q h h2 h3 h4 => by
    rw [fz_eq] at h
    have := loopK_sound bigM f q h ((k - q) / 2) (by omega)
    rwa [show q + 2 * ((k - q) / 2) = k by omega] at this
  rcases Nat.lt_or_ge k 4803 with c0 | c0
  · exact key 2400 3 loop0 (by omega) (by omega) (by omega)
  rcases Nat.lt_or_ge k 9603 with c1 | c1
  · exact key 2400 4803 loop1 (by omega) (by omega) (by omega)
  rcases Nat.lt_or_ge k 14403 with c2 | c2
  · exact key 2400 9603 loop2 (by omega) (by omega) (by omega)
  rcases Nat.lt_or_ge k 19203 with c3 | c3
  · exact key 2400 14403 loop3 (by omega) (by omega) (by omega)
  rcases Nat.lt_or_ge k 24003 with c4 | c4
  · exact key 2400 19203 loop4 (by omega) (by omega) (by omega)
  rcases Nat.lt_or_ge k 28803 with c5 | c5
  · exact key 2400 24003 loop5 (by omega) (by omega) (by omega)
  rcases Nat.lt_or_ge k 33603 with c6 | c6
  · exact key 2400 28803 loop6 (by omega) (by omega) (by omega)
  rcases Nat.lt_or_ge k 38403 with c7 | c7
  · exact key 2400 33603 loop7 (by omega) (by omega) (by omega)
  rcases Nat.lt_or_ge k 43203 with c8 | c8
  · exact key 2400 38403 loop8 (by omega) (by omega) (by omega)
  exact key 1570 43203 loop9 (by omega) (by omega) (by omega)
theorem odd_of {a b : Nat} (h : a * b % 2 = 1) : a % 2 = 1 ∧ b % 2 = 1 := by
  rw [Nat.mul_mod] at h
  rcases Nat.mod_two_eq_zero_or_one a with h1 | h1 <;> rcases Nat.mod_two_eq_zero_or_one b with h2 | h2 <;> rw [h1, h2] at h <;> simp at h
  exact ⟨h1, h2⟩
/-- Below 2^31 the strong tests to the bases 2, 7 and 61 are exact. -/
theorem exact {n : Nat} (h1 : 1 < n) (hn : n < 2147483648) (ho : n % 2 = 1) (h7 : n % 7 ≠ 0) (h61 : n % 61 ≠ 0) (hs : Ps n) : Pr n := by
  rcases Nat.lt_or_ge 2000 n with hbig | hsm
  · refine Classical.byContradiction fun hno => ?_
    obtain ⟨p, hp, hd, hmax⟩ := exists_largest (show 2 ≤ n by omega)
    obtain ⟨k, rfl⟩ := hd
    have hp0 := hp.pos
    obtain ⟨op, ok⟩ := odd_of ho
    have hk : 2 ≤ k := by
      rcases (show k = 0 ∨ k = 1 ∨ 2 ≤ k by omega) with rfl | rfl | h
      · omega
      · rw [Nat.mul_one] at hno; exact absurd hp hno
      · exact h
    rcases Nat.lt_or_ge 46341 p with c1 | c1
    · have hk2 : k ≤ 46341 := by
        rcases Nat.lt_or_ge 46341 k with h | h
        · have := Nat.mul_le_mul (show 46342 ≤ p from c1) (show 46342 ≤ k from h)
          omega
        · exact h
      exact oneK_sound hp c1 (loop_none (by omega) hk2 ok) hk hn ho hs
    · rcases Nat.lt_or_ge 2000 p with c2 | c2
      · exact bigOne_sound hp c2 (big_none c2 c1 op) hk hn ho hs
      · refine small_none hbig hn ho hs fun s hsp hd => ?_
        have h2 := hmax s hsp hd
        have h3 := complGo_sound 2001 0 compl_ok s (by omega)
        rw [Nat.zero_add, Bool.or_eq_true, Bool.or_eq_true, Bool.or_eq_true, Bool.or_eq_true] at h3
        rcases h3 with h3 | h3 | h3 | h3 | h3
        · exact memB_sound s _ h3
        · have := beqN.1 h3
          subst this
          have := Nat.mod_eq_zero_of_dvd hd
          omega
        · have := beqN.1 h3
          subst this
          exact absurd (Nat.mod_eq_zero_of_dvd hd) h7
        · have := beqN.1 h3
          subst this
          exact absurd (Nat.mod_eq_zero_of_dvd hd) h61
        · rw [(primeQ_iff (by omega)).2 hsp] at h3
          cases h3
  · have h2 := smallGo_sound 1999 2 small_ok (n - 2) (by omega)
    rw [show 2 + (n - 2) = n by omega, Bool.or_eq_true, Bool.or_eq_true, Bool.or_eq_true, Bool.or_eq_true] at h2
    rcases h2 with h2 | h2 | h2 | h2 | h2
    · exact (primeQ_iff (by omega)).1 h2
    · rw [fails_sound (by omega) ho hs] at h2
      cases h2
    · have : n % 2 = 0 := beqN.1 h2
      omega
    · exact absurd (beqN.1 h2) h7
    · exact absurd (beqN.1 h2) h61
end Go.Proofs.Ytnjblppapmflhaa.PN

/- Wide integers: helpers and walks, in one text (KA1 KA2 KA3 KA4 KA5 KA6 KA7). -/
/- Plain: what the rule of Euclid leaves; walks: residues. -/
namespace Go.Proofs.Ytnjblppapmflhaa
set_option linter.all false
open Go.RowKit
/-- What the rule of Euclid leaves of the multiples. -/
def invX (r s : Nat) (x y : Int) : Int := if _h : s = 0 then x else invX s (r % s) y (wrap64 (x - wrap64 (((r / s : Nat) : Int) * y)))
termination_by s
decreasing_by exact Nat.mod_lt _ (Nat.pos_of_ne_zero (by assumption))
theorem invX_step (r s : Nat) (x y : Int) (h : s ≠ 0) : invX r s x y = invX s (r % s) y (wrap64 (x - wrap64 (((r / s : Nat) : Int) * y))) := by
  rw [invX, dif_neg h]
theorem invX_end (r : Nat) (x y : Int) : invX r 0 x y = x := by rw [invX]; simp
theorem dvdM {m b : Int} (k : Int) (h : m ∣ b) : m ∣ k * b := by
  obtain ⟨c, rfl⟩ := h
  exact ⟨k * c, Int.mul_left_comm _ _ _⟩
theorem invX_spec {m a : Nat} (hm : m < 4294967296) : ∀ (n s r U V : Nat) (x y : Int), s ≤ n → s < r → V * r + U * s = m → U ≤ m → ((x = -(U : Int) ∧ y = (V : Int)) ∨ (x = (U : Int) ∧ y = -(V : Int))) →
    (m : Int) ∣ x * a - r → (m : Int) ∣ y * a - s → ∃ u : Int, invX r s x y = u ∧ -(m : Int) ≤ u ∧ u ≤ m ∧ (m : Int) ∣ u * a - (Nat.gcd r s : Nat) := by
  intro n
  induction n with
  | zero =>
    intro s r U V x y h1 h2 h3 h4 h5 h6 h7
    obtain rfl : s = 0 := by omega
    refine ⟨x, invX_end _ _ _, ?_, ?_, by rw [Nat.gcd_zero_right]; exact h6⟩ <;> omega
  | succ n ih =>
    intro s r U V x y h1 h2 h3 h4 h5 h6 h7
    by_cases hs : s = 0
    · subst hs
      refine ⟨x, invX_end _ _ _, ?_, ?_, by rw [Nat.gcd_zero_right]; exact h6⟩ <;> omega
    · obtain ⟨k, hk⟩ : ∃ k, k = r / s := ⟨_, rfl⟩
      obtain ⟨t, ht⟩ : ∃ t, t = r % s := ⟨_, rfl⟩
      have hdm : s * k + t = r := by rw [hk, ht]; exact Nat.div_add_mod r s
      have hts : t < s := by rw [ht]; exact Nat.mod_lt _ (by omega)
      obtain ⟨W, hW⟩ : ∃ W, W = k * V := ⟨_, rfl⟩
      have hVs : (U + W) * s + V * t = m := by
        rw [← h3, ← hdm, hW, Nat.add_mul, Nat.mul_add]
        have : k * V * s = V * (s * k) := by simp only [Nat.mul_comm, Nat.mul_left_comm]
        omega
      have hUW : U + W ≤ m := by
        have : (U + W) * 1 ≤ (U + W) * s := Nat.mul_le_mul_left _ (by omega)
        omega
      have hV : V ≤ m := by
        have : V * 1 ≤ V * r := Nat.mul_le_mul_left _ (by omega)
        omega
      have e1 : ((k : Nat) : Int) * y = (if y = (V : Int) then (W : Int) else -(W : Int)) := by
        rcases h5 with ⟨_, h5⟩ | ⟨_, h5⟩
        · rw [if_pos h5, h5, hW]; simp
        · by_cases h0 : V = 0
          · rw [h5, hW, h0]; simp
          · rw [if_neg (by omega), h5, hW, Int.mul_neg]; simp
      have e2 : wrap64 (((k : Nat) : Int) * y) = ((k : Nat) : Int) * y := by
        rw [e1]
        split <;> exact IntWalk.wrap64_in _ (by omega)
      have hnew : ∃ z : Int, z = x - ((k : Nat) : Int) * y ∧ ((y = -(V : Int) ∧ z = ((U + W : Nat) : Int)) ∨ (y = (V : Int) ∧ z = -((U + W : Nat) : Int))) := by
        refine ⟨_, rfl, ?_⟩
        rcases h5 with ⟨h5, h6⟩ | ⟨h5, h6⟩
        · refine Or.inr ⟨h6, ?_⟩
          rw [e1, if_pos h6]; omega
        · refine Or.inl ⟨h6, ?_⟩
          by_cases h0 : V = 0
          · have : W = 0 := by rw [hW, h0]; simp
            rw [e1, this]; split <;> omega
          · rw [e1, if_neg (by omega)]; omega
      obtain ⟨z, hz, hz2⟩ := hnew
      have e3 : wrap64 (x - wrap64 (((r / s : Nat) : Int) * y)) = z := by
        rw [← hk, e2, ← hz]
        exact IntWalk.wrap64_in _ (by omega)
      rw [invX_step r s x y hs, e3, ← ht]
      obtain ⟨u, q1, q2, q3, q4⟩ := ih t s V (U + W) y z (by omega) hts hVs hV (by omega) h7 (by
        have h8 := Int.dvd_sub h6 (dvdM (k : Int) h7)
        have e4 : x * a - r - (k : Int) * (y * a - s) = z * a - t := by
          have e5 : ((s * k + t : Nat) : Int) = (r : Int) := by rw [hdm]
          rw [Int.natCast_add, Int.natCast_mul] at e5
          rw [hz, ← e5, Int.mul_sub, Int.sub_mul, Int.mul_comm (s : Int), Int.mul_assoc]
          omega
        rwa [e4] at h8)
      refine ⟨u, q1, q2, q3, ?_⟩
      rwa [show Nat.gcd s t = Nat.gcd r s by rw [ht, Nat.gcd_comm s, ← Nat.gcd_rec, Nat.gcd_comm]] at q4
/-- The inverse, from what Euclid leaves. -/
theorem inv_val {m a x : Nat} (hm : m < 4294967296) (h2 : 2 ≤ m) (ha : a < m) (hx : x < m) (h : a * x % m = 1) :
    Nat.gcd m a = 1 ∧ ((invX m a 0 1 < 0 ∧ invX m a 0 1 + (m : Int) = (x : Int)) ∨ (¬ invX m a 0 1 < 0 ∧ invX m a 0 1 = (x : Int))) := by
  have hg : Nat.gcd m a = 1 := by
    obtain ⟨g, hg⟩ : ∃ g, g = Nat.gcd m a := ⟨_, rfl⟩
    have g1 : g ∣ m := by rw [hg]; exact Nat.gcd_dvd_left _ _
    have g2 : g ∣ a * x := Nat.dvd_trans (by rw [hg]; exact Nat.gcd_dvd_right _ _) ⟨x, rfl⟩
    have g3 : g ∣ a * x % m := (Nat.dvd_mod_iff g1).2 g2
    rw [h, Nat.dvd_one] at g3
    rw [← hg, g3]
  obtain ⟨u, q1, q2, q3, q4⟩ := invX_spec (m := m) (a := a) hm a a m 0 1 0 1 (Nat.le_refl _) ha (by omega) (by omega) (Or.inl ⟨rfl, rfl⟩) ⟨-1, by omega⟩ ⟨0, by omega⟩
  rw [hg] at q4
  rw [q1]
  refine ⟨hg, ?_⟩
  have hx0 : x ≠ 0 := fun h0 => by rw [h0, Nat.mul_zero, Nat.zero_mod] at h; omega
  -- u = x modulo m
  have q5 : (m : Int) ∣ (a : Int) * x - 1 := by
    have h3 := Nat.div_add_mod (a * x) m
    rw [h] at h3
    refine ⟨((a * x / m : Nat) : Int), ?_⟩
    have : ((m * (a * x / m) + 1 : Nat) : Int) = ((a * x : Nat) : Int) := by rw [h3]
    rw [Int.natCast_add, Int.natCast_mul, Int.natCast_mul] at this
    omega
  have q6 : (m : Int) ∣ u - x := by
    have h3 := Int.dvd_sub (dvdM u q5) (dvdM (x : Int) q4)
    have e : u * ((a : Int) * x - 1) - (x : Int) * (u * a - ((1 : Nat) : Int)) = -(u - x) := by
      rw [Int.mul_sub, Int.mul_sub, show u * ((a : Int) * x) = (x : Int) * (u * a) by rw [← Int.mul_assoc, Int.mul_comm]]
      simp
      omega
    rw [e] at h3
    exact Int.dvd_neg.1 h3
  obtain ⟨c, hc⟩ := q6
  have hm0 : (0 : Int) < m := by omega
  rcases Int.lt_or_le c (-1) with h3 | h3
  · have : (m : Int) * c ≤ (m : Int) * (-2) := Int.mul_le_mul_of_nonneg_left (by omega) (by omega)
    omega
  · rcases Int.lt_or_le 0 c with h4 | h4
    · have : (m : Int) * 1 ≤ (m : Int) * c := Int.mul_le_mul_of_nonneg_left (by omega) (by omega)
      omega
    · rcases (show c = -1 ∨ c = 0 by omega) with rfl | rfl
      · left; omega
      · right; omega
end Go.Proofs.Ytnjblppapmflhaa

/- Walks: the program's calculation with residues, in range. -/
namespace Go.Proofs.Ytnjblppapmflhaa
set_option linter.all false
open Go.RowKit Go.Shelf
/-- A word and no error. -/
def U32Ok (x : Nat) (w : World) (e : Ending) (w' : World) : Prop := e = .returned (.tuple #[.int .u32 (x : Int), .int .i64 0]) ∧ Below w.heap.size w w'
theorem fits2 {a b n : Nat} (ha : a < n) (hb : b < n) (h2 : 2 ≤ n) (hn : n ≤ 2147483647) : fitsB n [a, b] = true := by unfold fitsB; simp; omega
theorem fits1 {a n : Nat} (ha : a < n) (h2 : 2 ≤ n) (hn : n ≤ 2147483647) : fitsB n [a] = true := by unfold fitsB; simp; omega
theorem fits0 {n : Nat} (h2 : 2 ≤ n) (hn : n ≤ 2147483647) : fitsB n [] = true := by unfold fitsB; simp; omega
set_option maxHeartbeats 2000000 in
theorem Mul_in (a b n : Nat) (ha : a < n) (hb : b < n) (h2 : 2 ≤ n) (hn : n ≤ 2147483647) (w : World) :
    Calls Try.prog 46 #[.int .u32 (a : Int), .int .u32 (b : Int), .int .u32 (n : Int)] w (U32Ok (a * b % n) w) := by
  have hF : ∀ W v, W.reads (w.heap.size + 1) v ([a, b].map u32V) → Calls Try.prog 68 #[.int .u32 (n : Int), v] W fun e w' => e = .returned (.bool true) ∧ W = w' := fun W v h => by
    have := fits_any n v [a, b] _ W h
    rwa [fits2 ha hb h2 hn] at this
  have HF := Lib.hid hF
  have hm := Nat.mod_lt (a * b) (show 0 < n by omega)
  have hab : a * b < 2147483647 * 2147483647 := Nat.mul_lt_mul'' (by omega) (by omega)
  obtain ⟨m, em⟩ : ∃ m, m = a * b := ⟨_, rfl⟩
  have e1 : IntKind.u64.wrap ((a : Int) * (b : Int)) = (m : Int) := by
    rw [show ((a : Int) * (b : Int)) = (m : Int) by rw [em]; simp, IntKind.wrap_u64]; omega
  rw [← em] at hm hab ⊢
  obtain ⟨x, ex⟩ : ∃ x, x = m % n := ⟨_, rfl⟩
  have e2 : (m : Int) % (n : Int) = (x : Int) := by rw [ex]; simp
  have e3 : (m : Int).tmod (n : Int) = (x : Int) := by rw [Int.tmod_eq_emod_of_nonneg (by omega), e2]
  have e4 : ((n : Int) == 0) = false := by rw [beq_eq_false_iff_ne]; omega
  rw [← ex] at hm ⊢
  have e5 : (x : Int) % 4294967296 = (x : Int) := by omega
  have HE3 := Lib.hid e3
  clear hF em ex e3
  go_enter Try.func46, Try.ntmps46
  go_wp2_with fail
  (with_reducible refine (HF.out _ _ (reads_alloc_new w [u32V a, u32V b] 23 2 (by simp) (by simp [maxLen]))).mono ?_)
  rintro e w1 ⟨rfl, rfl⟩
  clear HF
  go_wp2
  go_ret2
  exact ⟨rfl, (Below.refl _ _).alloc (Nat.le_refl _) _⟩
set_option maxHeartbeats 2000000 in
theorem Sub_in (a b n : Nat) (ha : a < n) (hb : b < n) (h2 : 2 ≤ n) (hn : n ≤ 2147483647) (w : World) :
    Calls Try.prog 70 #[.int .u32 (a : Int), .int .u32 (b : Int), .int .u32 (n : Int)] w (U32Ok ((a + n - b) % n) w) := by
  have hF : ∀ W v, W.reads (w.heap.size + 1) v ([a, b].map u32V) → Calls Try.prog 68 #[.int .u32 (n : Int), v] W fun e w' => e = .returned (.bool true) ∧ W = w' := fun W v h => by
    have := fits_any n v [a, b] _ W h
    rwa [fits2 ha hb h2 hn] at this
  have HF := Lib.hid hF
  clear hF
  by_cases hlt : a < b
  · have e1 : (a + n - b) % n = a + n - b := Nat.mod_eq_of_lt (by omega)
    rw [e1]
    obtain ⟨x, ex⟩ : ∃ x, x = a + n - b := ⟨_, rfl⟩
    have e2 : ((a : Int) + (n : Int)) - (b : Int) = (x : Int) := by omega
    rw [← ex]
    have hx : x < n := by omega
    clear ex e1
    go_enter Try.func70, Try.ntmps70
    go_wp2_with fail
    (with_reducible refine (HF.out _ _ (reads_alloc_new w [u32V a, u32V b] 23 2 (by simp) (by simp [maxLen]))).mono ?_)
    rintro e w1 ⟨rfl, rfl⟩
    clear HF
    go_wp2
    go_ret2
    refine ⟨?_, (Below.refl _ _).alloc (Nat.le_refl _) _⟩
    congr 4
  · have e1 : (a + n - b) % n = a - b := by rw [show a + n - b = a - b + n by omega, Nat.add_mod_right, Nat.mod_eq_of_lt (by omega)]
    rw [e1]
    obtain ⟨x, ex⟩ : ∃ x, x = a - b := ⟨_, rfl⟩
    have e2 : (a : Int) - (b : Int) = (x : Int) := by omega
    rw [← ex]
    have hx : x < n := by omega
    clear ex e1
    go_enter Try.func70, Try.ntmps70
    go_wp2_with fail
    (with_reducible refine (HF.out _ _ (reads_alloc_new w [u32V a, u32V b] 23 2 (by simp) (by simp [maxLen]))).mono ?_)
    rintro e w1 ⟨rfl, rfl⟩
    clear HF
    go_wp2
    go_ret2
    refine ⟨?_, (Below.refl _ _).alloc (Nat.le_refl _) _⟩
    congr 4
def I64Ok (x : Int) (w : World) (e : Ending) (w' : World) : Prop := e = .returned (.tuple #[.int .i64 x, .int .i64 0]) ∧ Below w.heap.size w w'
def balI (a n : Nat) : Int := if 2 * a > n then (a : Int) - n else a
set_option maxHeartbeats 2000000 in
theorem Balanced_in (a n : Nat) (ha : a < n) (h2 : 2 ≤ n) (hn : n ≤ 2147483647) (w : World) :
    Calls Try.prog 40 #[.int .u32 (a : Int), .int .u32 (n : Int)] w (I64Ok (balI a n) w) := by
  have hF : ∀ W v, W.reads (w.heap.size + 1) v ([a].map u32V) → Calls Try.prog 68 #[.int .u32 (n : Int), v] W fun e w' => e = .returned (.bool true) ∧ W = w' := fun W v h => by
    have := fits_any n v [a] _ W h
    rwa [fits1 ha h2 hn] at this
  have HF := Lib.hid hF
  clear hF
  unfold balI
  by_cases hlt : 2 * a > n
  · rw [if_pos hlt]
    go_enter Try.func40, Try.ntmps40
    go_wp2_with fail
    (with_reducible refine (HF.out _ _ (reads_alloc_new w [u32V a] 23 1 (by simp) (by simp [maxLen]))).mono ?_)
    rintro e w1 ⟨rfl, rfl⟩
    clear HF
    go_wp2
    go_ret2
    exact ⟨rfl, (Below.refl _ _).alloc (Nat.le_refl _) _⟩
  · rw [if_neg hlt]
    go_enter Try.func40, Try.ntmps40
    go_wp2_with fail
    (with_reducible refine (HF.out _ _ (reads_alloc_new w [u32V a] 23 1 (by simp) (by simp [maxLen]))).mono ?_)
    rintro e w1 ⟨rfl, rfl⟩
    clear HF
    go_wp2
    go_ret2
    exact ⟨rfl, (Below.refl _ _).alloc (Nat.le_refl _) _⟩
set_option maxHeartbeats 2000000 in
theorem Of_in (v : Int) (n : Nat) (hv : -9223372036854775808 ≤ v ∧ v < 9223372036854775808) (h2 : 2 ≤ n) (hn : n ≤ 2147483647) (x : Nat) (hx : v % (n : Int) = (x : Int)) (w : World) :
    Calls Try.prog 69 #[.int .i64 v, .int .u32 (n : Int)] w (U32Ok x w) := by
  have hF : ∀ W B, Calls Try.prog 68 #[.int .u32 (n : Int), .slice none 0 0] W fun e w' => e = .returned (.bool true) ∧ W = w' := fun W B => by
    have := fits_any n (.slice none 0 0) [] B W (reads_nil W B)
    rwa [fits0 h2 hn] at this
  have HF := Lib.hid (fun W => hF W 0)
  clear hF
  have e4 : ((n : Int) == 0) = false := by rw [beq_eq_false_iff_ne]; omega
  have hn0 : ¬ (n : Int) = 0 := by omega
  have hxn : x < n := by have := Int.emod_lt_of_pos v (show (0 : Int) < n by omega); omega
  obtain ⟨r, hr⟩ : ∃ r, r = v.tmod n := ⟨_, rfl⟩
  have hr1 : -(n : Int) < r ∧ r < n := by
    rw [hr]
    have h1 := Int.tmod_lt_of_pos v (show (0 : Int) < n by omega)
    have h2 := Int.tmod_lt_of_pos (-v) (show (0 : Int) < n by omega)
    rw [Int.neg_tmod] at h2
    omega
  have hr2 : (r < 0 ∧ r + n = x) ∨ (¬ r < 0 ∧ r = x) := by
    have h1 : (n : Int) ∣ v - r := by
      rw [hr]
      have := Int.mul_tdiv_add_tmod v n
      exact ⟨v.tdiv n, by omega⟩
    have h2 : (n : Int) ∣ v - x := by
      have := Int.mul_ediv_add_emod v n
      rw [hx] at this
      exact ⟨v / n, by omega⟩
    have h3 := Int.dvd_sub h1 h2
    rw [show v - r - (v - x) = (x : Int) - r by omega] at h3
    obtain ⟨c, hc⟩ := h3
    rcases Int.lt_or_le c 0 with h4 | h4
    · have : (n : Int) * c ≤ (n : Int) * (-1) := Int.mul_le_mul_of_nonneg_left (by omega) (by omega)
      rw [Int.mul_neg, Int.mul_one] at this
      omega
    · rcases Int.lt_or_le 1 c with h5 | h5
      · have : (n : Int) * 2 ≤ (n : Int) * c := Int.mul_le_mul_of_nonneg_left (by omega) (by omega)
        omega
      · rcases (show c = 0 ∨ c = 1 by omega) with rfl | rfl
        · rcases Int.lt_or_le r 0 with h6 | h6 <;> omega
        · rcases Int.lt_or_le r 0 with h6 | h6 <;> omega
  have HR := Lib.hid hr
  have hrv : v.tmod n = r := hr.symm
  clear hr hx
  rcases hr2 with ⟨h1, h3⟩ | ⟨h1, h3⟩
  · have h5 : (r + (n : Int)) % 4294967296 = (x : Int) := by omega
    go_enter Try.func69, Try.ntmps69
    go_wp2_with fail
    (with_reducible refine (HF.out _).mono ?_)
    rintro e w1 ⟨rfl, rfl⟩
    clear HF
    go_wp2
    go_ret2
    exact ⟨rfl, Below.refl _ _⟩
  · have h5 : r % 4294967296 = (x : Int) := by omega
    go_enter Try.func69, Try.ntmps69
    go_wp2_with fail
    (with_reducible refine (HF.out _).mono ?_)
    rintro e w1 ⟨rfl, rfl⟩
    clear HF
    go_wp2
    go_ret2
    exact ⟨rfl, Below.refl _ _⟩
set_option maxHeartbeats 4000000 in
theorem Inverse_in (a n x : Nat) (ha : a < n) (h2 : 2 ≤ n) (hn : n ≤ 2147483647) (hx : x < n) (hax : a * x % n = 1) (w : World) :
    Calls Try.prog 45 #[.int .u32 (a : Int), .int .u32 (n : Int)] w (U32Ok x w) := by
  have hF : ∀ W v, W.reads (w.heap.size + 1) v ([a].map u32V) → Calls Try.prog 68 #[.int .u32 (n : Int), v] W fun e w' => e = .returned (.bool true) ∧ W = w' := fun W v h => by
    have := fits_any n v [a] _ W h
    rwa [fits1 ha h2 hn] at this
  have HF := Lib.hid hF
  obtain ⟨hg, hiv⟩ := inv_val (by omega) h2 ha hx hax
  have HG := Lib.hid hg
  have HIV := Lib.hid hiv
  clear hF hg hiv hax
  go_enter Try.func45, Try.ntmps45
  go_wp2_with fail
  (with_reducible refine (HF.out _ _ (reads_alloc_new w [u32V a] 23 1 (by simp) (by simp [maxLen]))).mono ?_)
  rintro e w1 ⟨rfl, rfl⟩
  clear HF
  go_wp2
  go_loop [6, 7, 8, 9] (fun r s x y => ∃ (rn sn : Nat) (xn yn : Int), rn < 4294967296 ∧ sn < 4294967296 ∧ r = .int .i64 (rn : Int) ∧ s = .int .i64 (sn : Int) ∧ x = .int .i64 xn ∧ y = .int .i64 yn ∧ Hid (Nat.gcd rn sn = 1) ∧ Hid (invX rn sn xn yn = invX n a 0 1)) (fun _ s _ _ => (intOf s).toNat)
  case atStart => exact ⟨n, a, 0, 1, by omega, by omega, rfl, rfl, rfl, rfl, HG.out, rfl⟩
  case round =>
    obtain ⟨r, s, u, y, hr, hs, rfl, rfl, rfl, rfl, hgcd, hinv⟩ := hrel
    by_cases hs0 : s = 0
    · have t0 : ((s : Int) != 0) = false := by rw [hs0]; rfl
      have hgr : r = 1 := by have := hgcd.out; rw [hs0, Nat.gcd_zero_right] at this; exact this
      have hxe : u = invX n a 0 1 := by have := hinv.out; rw [hs0, invX_end] at this; exact this
      have hiv := HIV.out
      rw [← hxe] at hiv
      have t1 : ((r : Int) != 1) = false := by rw [hgr]; rfl
      clear hgcd hinv hs0 hgr hxe
      rcases hiv with ⟨h1, h3⟩ | ⟨h1, h3⟩
      · have h5 : (u + (n : Int)) % 4294967296 = (x : Int) := by omega
        go_wp2
        go_ret2
        exact ⟨rfl, (Below.refl _ _).alloc (Nat.le_refl _) _⟩
      · have h5 : u % 4294967296 = (x : Int) := by omega
        go_wp2
        go_ret2
        exact ⟨rfl, (Below.refl _ _).alloc (Nat.le_refl _) _⟩
    · have t0 : ((s : Int) != 0) = true := by rw [bne_iff_ne]; omega
      obtain ⟨k, hk⟩ : ∃ k, k = r / s := ⟨_, rfl⟩
      obtain ⟨t, ht⟩ : ∃ t, t = r % s := ⟨_, rfl⟩
      have hkr : k ≤ r := by rw [hk]; exact Nat.div_le_self _ _
      have hts : t < s := by rw [ht]; exact Nat.mod_lt _ (by omega)
      have hdm : s * k + t = r := by rw [hk, ht]; exact Nat.div_add_mod r s
      obtain ⟨ks, hks⟩ : ∃ ks, ks = k * s := ⟨_, rfl⟩
      have e0 : (r : Int) / (s : Int) = (k : Int) := by rw [hk]; simp
      have e1 : (k : Int) * (s : Int) = (ks : Int) := by rw [hks]; simp
      have e2 : (r : Int) - (ks : Int) = (t : Int) := by rw [hks, Nat.mul_comm]; omega
      have hks2 : ks ≤ r := by rw [hks, Nat.mul_comm]; omega
      have HK := Lib.hid hk
      have HT := Lib.hid ht
      have hs1 : 0 < s := by omega
      clear hk ht hks hdm hs0
      go_wp2
      refine ⟨⟨s, t, y, _, hs, by omega, rfl, rfl, rfl, rfl, ?_, ?_⟩, by simp [intOf]; omega⟩
      · show Nat.gcd s t = _
        rw [← hgcd.out, HT.out, Nat.gcd_comm s, ← Nat.gcd_rec, Nat.gcd_comm]
      · show invX s t y _ = _
        rw [← hinv.out, invX_step r s u y (by omega), HT.out, HK.out]
end Go.Proofs.Ytnjblppapmflhaa

/- Walks: the reference's calculation with residues, in range. -/
namespace Go.Proofs.Ytnjblppapmflhaa
set_option linter.all false
open Go.RowKit Go.Shelf
theorem modulus01_in (n : Nat) (h2 : 2 ≤ n) (hn : n ≤ 2147483647) (w : World) : Calls Try.prog 71 #[.int .u32 (n : Int)] w fun e w' => e = .returned (.bool true) ∧ w = w' := by
  go_enter Try.func71, Try.ntmps71
  go_wp2
  go_ret
  exact ⟨ret_bool (by rw [decide_eq_true_eq]; omega), rfl⟩
set_option maxHeartbeats 2000000 in
theorem times01 (a b n : Nat) (ha : a < 4294967296) (hb : b < 4294967296) (h0 : 0 < n) (hn : n < 4294967296) (w : World) :
    Calls Try.prog 73 #[.int .u32 (a : Int), .int .u32 (b : Int), .int .u32 (n : Int)] w fun e w' => e = .returned (.int .u32 ((a * b % n : Nat) : Int)) ∧ w = w' := by
  have hm := Nat.mod_lt (a * b) h0
  have hab : a * b ≤ 4294967295 * 4294967295 := Nat.mul_le_mul (by omega) (by omega)
  obtain ⟨m, em⟩ : ∃ m, m = a * b := ⟨_, rfl⟩
  have e1 : IntKind.u64.wrap ((a : Int) * (b : Int)) = (m : Int) := by
    rw [show ((a : Int) * (b : Int)) = (m : Int) by rw [em]; simp, IntKind.wrap_u64]; omega
  rw [← em] at hm hab ⊢
  obtain ⟨x, ex⟩ : ∃ x, x = m % n := ⟨_, rfl⟩
  have e2 : (m : Int) % (n : Int) = (x : Int) := by rw [ex]; simp
  have e4 : ((n : Int) == 0) = false := by rw [beq_eq_false_iff_ne]; omega
  rw [← ex] at hm ⊢
  have e5 : (x : Int) % 4294967296 = (x : Int) := by omega
  clear em ex
  go_enter Try.func73, Try.ntmps73
  go_wp2
  go_ret
  exact ⟨rfl, rfl⟩
set_option maxHeartbeats 2000000 in
theorem Mul01_in (a b n : Nat) (ha : a < n) (hb : b < n) (h2 : 2 ≤ n) (hn : n ≤ 2147483647) (w : World) :
    Calls Try.prog 48 #[.int .u32 (a : Int), .int .u32 (b : Int), .int .u32 (n : Int)] w (U32Ok (a * b % n) w) := by
  have HF := Lib.hid (fun W => modulus01_in n h2 hn W)
  have HT := Lib.hid (fun W => times01 a b n (by omega) (by omega) (by omega) (by omega) W)
  obtain ⟨x, ex⟩ : ∃ x, x = a * b % n := ⟨_, rfl⟩
  rw [← ex] at HT ⊢
  clear ex
  go_enter Try.func48, Try.ntmps48
  go_wp2_with fail
  (with_reducible refine (HF.out _).mono ?_)
  rintro e w1 ⟨rfl, rfl⟩
  go_wp2_with fail
  (with_reducible refine (HT.out _).mono ?_)
  rintro e w1 ⟨rfl, rfl⟩
  go_wp2
  go_ret2
  exact ⟨rfl, Below.refl _ _⟩
set_option maxHeartbeats 2000000 in
theorem Sub01_in (a b n : Nat) (ha : a < n) (hb : b < n) (h2 : 2 ≤ n) (hn : n ≤ 2147483647) (w : World) :
    Calls Try.prog 63 #[.int .u32 (a : Int), .int .u32 (b : Int), .int .u32 (n : Int)] w (U32Ok ((a + n - b) % n) w) := by
  have HF := Lib.hid (fun W => modulus01_in n h2 hn W)
  have hm := Nat.mod_lt (a + n - b) (show 0 < n by omega)
  obtain ⟨m, em⟩ : ∃ m, m = a + n - b := ⟨_, rfl⟩
  have e1 : ((a : Int) + (n : Int)) - (b : Int) = (m : Int) := by omega
  rw [← em] at hm ⊢
  have hmb : m < 4294967296 := by omega
  obtain ⟨x, ex⟩ : ∃ x, x = m % n := ⟨_, rfl⟩
  have e2 : (m : Int) % (n : Int) = (x : Int) := by rw [ex]; simp
  have e4 : ((n : Int) == 0) = false := by rw [beq_eq_false_iff_ne]; omega
  rw [← ex] at hm ⊢
  have e5 : (x : Int) % 4294967296 = (x : Int) := by omega
  clear em ex
  go_enter Try.func63, Try.ntmps63
  go_wp2_with fail
  (with_reducible refine (HF.out _).mono ?_)
  rintro e w1 ⟨rfl, rfl⟩
  go_wp2
  go_ret2
  exact ⟨rfl, Below.refl _ _⟩
set_option maxHeartbeats 2000000 in
theorem Balanced01_in (a n : Nat) (ha : a < n) (h2 : 2 ≤ n) (hn : n ≤ 2147483647) (w : World) :
    Calls Try.prog 43 #[.int .u32 (a : Int), .int .u32 (n : Int)] w (I64Ok (balI a n) w) := by
  have HF := Lib.hid (fun W => modulus01_in n h2 hn W)
  unfold balI
  by_cases hlt : 2 * a > n
  · rw [if_pos hlt]
    go_enter Try.func43, Try.ntmps43
    go_wp2_with fail
    (with_reducible refine (HF.out _).mono ?_)
    rintro e w1 ⟨rfl, rfl⟩
    go_wp2
    go_ret2
    exact ⟨rfl, Below.refl _ _⟩
  · rw [if_neg hlt]
    go_enter Try.func43, Try.ntmps43
    go_wp2_with fail
    (with_reducible refine (HF.out _).mono ?_)
    rintro e w1 ⟨rfl, rfl⟩
    go_wp2
    go_ret2
    exact ⟨rfl, Below.refl _ _⟩
/-- The rest of a division to the lower side. -/
theorem tmod_cases (v : Int) (n x : Nat) (h2 : 2 ≤ n) (hx : v % (n : Int) = (x : Int)) : ∃ r : Int, v.tmod n = r ∧ -(n : Int) < r ∧ r < n ∧ x < n ∧ ((r < 0 ∧ r + n = x) ∨ (¬ r < 0 ∧ r = x)) := by
  have hxn : x < n := by have := Int.emod_lt_of_pos v (show (0 : Int) < n by omega); omega
  refine ⟨v.tmod n, rfl, ?_⟩
  obtain ⟨r, hr⟩ : ∃ r, r = v.tmod n := ⟨_, rfl⟩
  rw [← hr]
  have hr1 : -(n : Int) < r ∧ r < n := by
    rw [hr]
    have h1 := Int.tmod_lt_of_pos v (show (0 : Int) < n by omega)
    have h2 := Int.tmod_lt_of_pos (-v) (show (0 : Int) < n by omega)
    rw [Int.neg_tmod] at h2
    omega
  refine ⟨hr1.1, hr1.2, hxn, ?_⟩
  have h1 : (n : Int) ∣ v - r := by
    rw [hr]
    have := Int.mul_tdiv_add_tmod v n
    exact ⟨v.tdiv n, by omega⟩
  have h2 : (n : Int) ∣ v - x := by
    have := Int.mul_ediv_add_emod v n
    rw [hx] at this
    exact ⟨v / n, by omega⟩
  have h3 := Int.dvd_sub h1 h2
  rw [show v - r - (v - x) = (x : Int) - r by omega] at h3
  obtain ⟨c, hc⟩ := h3
  rcases Int.lt_or_le c 0 with h4 | h4
  · have : (n : Int) * c ≤ (n : Int) * (-1) := Int.mul_le_mul_of_nonneg_left (by omega) (by omega)
    rw [Int.mul_neg, Int.mul_one] at this
    omega
  · rcases Int.lt_or_le 1 c with h5 | h5
    · have : (n : Int) * 2 ≤ (n : Int) * c := Int.mul_le_mul_of_nonneg_left (by omega) (by omega)
      omega
    · rcases (show c = 0 ∨ c = 1 by omega) with rfl | rfl
      · rcases Int.lt_or_le r 0 with h6 | h6 <;> omega
      · rcases Int.lt_or_le r 0 with h6 | h6 <;> omega
set_option maxHeartbeats 2000000 in
theorem Of01_in (v : Int) (n : Nat) (hv : -9223372036854775808 ≤ v ∧ v < 9223372036854775808) (h2 : 2 ≤ n) (hn : n ≤ 2147483647) (x : Nat) (hx : v % (n : Int) = (x : Int)) (w : World) :
    Calls Try.prog 72 #[.int .i64 v, .int .u32 (n : Int)] w fun e w' => e = .returned (.tuple #[.int .u32 (x : Int), .int .i64 0]) ∧ w = w' := by
  have HF := Lib.hid (fun W => modulus01_in n h2 hn W)
  have e4 : ((n : Int) == 0) = false := by rw [beq_eq_false_iff_ne]; omega
  have hn0 : ¬ (n : Int) = 0 := by omega
  obtain ⟨r, hrv, hr0, hr1, hxn, hr2⟩ := tmod_cases v n x h2 hx
  clear hx
  rcases hr2 with ⟨h1, h3⟩ | ⟨h1, h3⟩
  · have h5 : (r + (n : Int)) % 4294967296 = (x : Int) := by omega
    go_enter Try.func72, Try.ntmps72
    go_wp2_with fail
    (with_reducible refine (HF.out _).mono ?_)
    rintro e w1 ⟨rfl, rfl⟩
    go_wp2
    go_ret2
    exact ⟨rfl, rfl⟩
  · have h5 : r % 4294967296 = (x : Int) := by omega
    go_enter Try.func72, Try.ntmps72
    go_wp2_with fail
    (with_reducible refine (HF.out _).mono ?_)
    rintro e w1 ⟨rfl, rfl⟩
    go_wp2
    go_ret2
    exact ⟨rfl, rfl⟩
set_option maxHeartbeats 4000000 in
theorem Inverse01_in (a n x : Nat) (ha : a < n) (h2 : 2 ≤ n) (hn : n ≤ 2147483647) (hx : x < n) (hax : a * x % n = 1) (w : World) :
    Calls Try.prog 47 #[.int .u32 (a : Int), .int .u32 (n : Int)] w (U32Ok x w) := by
  have HF := Lib.hid (fun W => modulus01_in n h2 hn W)
  obtain ⟨hg, hiv⟩ := inv_val (by omega) h2 ha hx hax
  have HG := Lib.hid hg
  have HIV := Lib.hid hiv
  clear hg hiv hax
  go_enter Try.func47, Try.ntmps47
  go_wp2_with fail
  (with_reducible refine (HF.out _).mono ?_)
  rintro e w1 ⟨rfl, rfl⟩
  go_wp2_with fail
  go_loop [6, 7, 8, 9] (fun r s x y => ∃ (rn sn : Nat) (xn yn : Int), rn < 4294967296 ∧ sn < 4294967296 ∧ r = .int .i64 (rn : Int) ∧ s = .int .i64 (sn : Int) ∧ x = .int .i64 xn ∧ y = .int .i64 yn ∧ Hid (Nat.gcd rn sn = 1) ∧ Hid (invX rn sn xn yn = invX n a 0 1)) (fun _ s _ _ => (intOf s).toNat)
  case atStart => exact ⟨n, a, 0, 1, by omega, by omega, rfl, rfl, rfl, rfl, HG.out, rfl⟩
  case round =>
    obtain ⟨r, s, u, y, hr, hs, rfl, rfl, rfl, rfl, hgcd, hinv⟩ := hrel
    by_cases hs0 : s = 0
    · subst hs0
      have hgr : r = 1 := by have := hgcd.out; rw [Nat.gcd_zero_right] at this; exact this
      have hxe : u = invX n a 0 1 := by have := hinv.out; rw [invX_end] at this; exact this
      have hiv := HIV.out
      rw [← hxe] at hiv
      have t1 : ((r : Int) != 1) = false := by rw [hgr]; rfl
      have hub : -9223372036854775808 ≤ u ∧ u < 9223372036854775808 := by omega
      have hum : u % (n : Int) = (x : Int) := by
        rcases hiv with ⟨h1, h3⟩ | ⟨h1, h3⟩
        · rw [← Int.add_emod_right, h3]; exact Int.emod_eq_of_lt (by omega) (by omega)
        · rw [h3]; exact Int.emod_eq_of_lt (by omega) (by omega)
      have HOF := Lib.hid (fun W => Of01_in u n hub h2 hn x hum W)
      clear hgcd hinv hgr hxe hum hiv hub
      go_wp2_with fail
      (with_reducible refine (HOF.out _).mono ?_)
      rintro e w1 ⟨rfl, rfl⟩
      go_wp2
      go_ret2
      exact ⟨rfl, Below.refl _ _⟩
    · obtain ⟨k, hk⟩ : ∃ k, k = r / s := ⟨_, rfl⟩
      obtain ⟨t, ht⟩ : ∃ t, t = r % s := ⟨_, rfl⟩
      have t0 : (0 : Int) < (s : Int) := by omega
      have t0' : ((s : Int) == 0) = false := by rw [beq_eq_false_iff_ne]; omega
      have hkr : k ≤ r := by rw [hk]; exact Nat.div_le_self _ _
      have hts : t < s := by rw [ht]; exact Nat.mod_lt _ (by omega)
      have hdm : s * k + t = r := by rw [hk, ht]; exact Nat.div_add_mod r s
      obtain ⟨ks, hks⟩ : ∃ ks, ks = k * s := ⟨_, rfl⟩
      have e0 : (r : Int) / (s : Int) = (k : Int) := by rw [hk]; simp
      have e1 : (k : Int) * (s : Int) = (ks : Int) := by rw [hks]; simp
      have e2 : (r : Int) - (ks : Int) = (t : Int) := by rw [hks, Nat.mul_comm]; omega
      have hks2 : ks ≤ r := by rw [hks, Nat.mul_comm]; omega
      have HK := Lib.hid hk
      have HT := Lib.hid ht
      have hs1 : 0 < s := by omega
      clear hk ht hks hdm hs0
      go_wp2
      refine ⟨⟨s, t, y, _, hs, by omega, rfl, rfl, rfl, rfl, ?_, ?_⟩, by simp [intOf]; omega⟩
      · show Nat.gcd s t = _
        rw [← hgcd.out, HT.out, Nat.gcd_comm s, ← Nat.gcd_rec, Nat.gcd_comm]
      · show invX s t y _ = _
        rw [← hinv.out, invX_step r s u y (by omega), HT.out, HK.out]
end Go.Proofs.Ytnjblppapmflhaa

/- Walks: powers; strong tests; whether a number is a prime. -/
namespace Go.Proofs.Ytnjblppapmflhaa
set_option linter.all false
open Go.RowKit Go.Shelf PN
/-- A power under way. -/
def PwSt (a E n x e o : Nat) : Prop := x < n ∧ o < n ∧ o * x ^ e % n = a ^ E % n
theorem PwSt.start {a E n : Nat} (ha : a < n) (hn : 2 ≤ n) : PwSt a E n a E 1 := ⟨ha, by omega, by rw [Nat.one_mul]⟩
theorem PwSt.even {a E n x e o : Nat} (h : PwSt a E n x e o) (he : e % 2 = 0) : PwSt a E n (x * x % n) (e / 2) o := by
  obtain ⟨h1, h2, h3⟩ := h
  refine ⟨Nat.mod_lt _ (by omega), h2, ?_⟩
  rw [← h3, Nat.mul_mod, ← Nat.pow_mod, ← Nat.mul_mod, ← Nat.pow_two, ← Nat.pow_mul]
  congr 3; omega
theorem PwSt.odd {a E n x e o : Nat} (h : PwSt a E n x e o) (he : e % 2 = 1) : PwSt a E n (x * x % n) (e / 2) (o * x % n) := by
  obtain ⟨h1, h2, h3⟩ := h
  refine ⟨Nat.mod_lt _ (by omega), Nat.mod_lt _ (by omega), ?_⟩
  rw [← h3, Nat.mul_mod, ← Nat.pow_mod, Nat.mod_mod, ← Nat.mul_mod, ← Nat.pow_two, ← Nat.pow_mul, Nat.mul_assoc, ← Nat.pow_succ']
  congr 3; omega
theorem PwSt.fin {a E n x o : Nat} (h : PwSt a E n x 0 o) : o = a ^ E % n := by
  obtain ⟨h1, h2, h3⟩ := h
  rw [Nat.pow_zero, Nat.mul_one, Nat.mod_eq_of_lt h2] at h3
  exact h3
theorem and1_64 (y : Nat) (hy : y < 18446744073709551616) : bits .and .u64 (y : Int) 1 = ((y % 2 : Nat) : Int) := by
  show IntKind.u64.wrap ((BitVec.ofInt 64 _ &&& BitVec.ofInt 64 _).toNat : Int) = _
  rw [BitVec.ofInt_natCast, show (1 : Int) = ((1 : Nat) : Int) by rfl, BitVec.ofInt_natCast, BitVec.toNat_and, BitVec.toNat_ofNat, BitVec.toNat_ofNat, Nat.mod_eq_of_lt (by omega), Nat.mod_eq_of_lt (by omega), Nat.and_one_is_mod, IntKind.wrap_u64]
  omega
theorem and1_32 (y : Nat) (hy : y < 4294967296) : bits .and .u32 (y : Int) 1 = ((y % 2 : Nat) : Int) := by
  show IntKind.u32.wrap ((BitVec.ofInt 32 _ &&& BitVec.ofInt 32 _).toNat : Int) = _
  rw [BitVec.ofInt_natCast, show (1 : Int) = ((1 : Nat) : Int) by rfl, BitVec.ofInt_natCast, BitVec.toNat_and, BitVec.toNat_ofNat, BitVec.toNat_ofNat, Nat.mod_eq_of_lt (by omega), Nat.mod_eq_of_lt (by omega), Nat.and_one_is_mod, IntKind.wrap_u32]
  omega
set_option maxHeartbeats 2000000 in
theorem prod1_any (a b n p : Nat) (ha : a < 4294967296) (hb : b < 4294967296) (h0 : 0 < n) (hn : n < 4294967296) (w : World) (hp : w.cell? ⟨p, 0, none⟩ = some (.int .u64 (n : Int))) :
    Calls Try.prog 110 #[.int .u32 (a : Int), .int .u32 (b : Int), .pointer (some ⟨p, 0, none⟩)] w fun e w' => e = .returned (.int .u32 ((a * b % n : Nat) : Int)) ∧ w = w' := by
  have hm := Nat.mod_lt (a * b) h0
  have hab : a * b ≤ 4294967295 * 4294967295 := Nat.mul_le_mul (by omega) (by omega)
  obtain ⟨m, em⟩ : ∃ m, m = a * b := ⟨_, rfl⟩
  have e1 : IntKind.u64.wrap ((a : Int) * (b : Int)) = (m : Int) := by
    rw [show ((a : Int) * (b : Int)) = (m : Int) by rw [em]; simp, IntKind.wrap_u64]; omega
  rw [← em] at hm hab ⊢
  obtain ⟨x, ex⟩ : ∃ x, x = m % n := ⟨_, rfl⟩
  have e2 : (m : Int) % (n : Int) = (x : Int) := by rw [ex]; simp
  have e4 : ((n : Int) == 0) = false := by rw [beq_eq_false_iff_ne]; omega
  rw [← ex] at hm ⊢
  have e5 : (x : Int) % 4294967296 = (x : Int) := by omega
  clear em ex
  go_enter Try.func110, Try.ntmps110
  go_wp2
  go_ret
  exact ⟨rfl, rfl⟩
set_option maxHeartbeats 2000000 in
theorem product_any (n : Nat) (hn : n < 4294967296) (w : World) :
    Calls Try.prog 107 #[.int .u32 (n : Int)] w fun e w' => e = .returned (.func (.func 110) #[] #[.pointer (some ⟨w.heap.size, 0, none⟩)]) ∧ w' = w.alloc (.cells #[.int .u64 (n : Int)] 89) := by
  go_enter Try.func107, Try.ntmps107
  go_wp2
  go_ret
  exact ⟨rfl, rfl⟩
set_option maxHeartbeats 4000000 in
theorem power_any (a E n : Nat) (ha : a < n) (h2 : 2 ≤ n) (hn : n < 4294967296) (hE : E < 18446744073709551616) (w : World) :
    Calls Try.prog 91 #[.int .u32 (a : Int), .int .u64 (E : Int), .int .u32 (n : Int)] w fun e w' => e = .returned (.int .u32 ((a ^ E % n : Nat) : Int)) ∧ Below w.heap.size w w' := by
  obtain ⟨R, hR⟩ : ∃ R, R = a ^ E % n := ⟨_, rfl⟩
  rw [← hR]
  have HR := Lib.hid hR
  have HP := Lib.hid (fun W => product_any n hn W)
  have HT : Hid (∀ (x y : Nat) (W : World), x < n → y < n → W.cell? ⟨w.heap.size, 0, none⟩ = some (.int .u64 (n : Int)) → Calls Try.prog 110 #[.int .u32 (x : Int), .int .u32 (y : Int), .pointer (some ⟨w.heap.size, 0, none⟩)] W fun e w' => e = .returned (.int .u32 ((x * y % n : Nat) : Int)) ∧ W = w') :=
    fun x y W hx hy hc => prod1_any x y n _ (by omega) (by omega) (by omega) hn W hc
  clear hR
  go_enter Try.func91, Try.ntmps91
  go_wp2_with fail
  (with_reducible refine (HP.out _).mono ?_)
  rintro e w1 ⟨rfl, rfl⟩
  have hc : (w.alloc (.cells #[.int .u64 (n : Int)] 89)).cell? ⟨w.heap.size, 0, none⟩ = some (.int .u64 (n : Int)) := by rw [cell_of_row _ _ 0 _ _ (0, 0) (heap_alloc_new w _)]; rfl
  have hb : Below w.heap.size w (w.alloc (.cells #[.int .u64 (n : Int)] 89)) := (Below.refl _ _).alloc (Nat.le_refl _) _
  generalize w.alloc (.cells #[.int .u64 (n : Int)] 89) = W at hc hb ⊢
  have HC := Lib.hid hc
  have HB := Lib.hid hb
  clear hc hb
  go_wp2_with fail
  go_loop [0, 1, 8] (fun xv ev ov => ∃ x e o : Nat, xv = .int .u32 (x : Int) ∧ ev = .int .u64 (e : Int) ∧ ov = .int .u32 (o : Int) ∧ e < 18446744073709551616 ∧ Hid (PwSt a E n x e o)) (fun _ ev _ => (intOf ev).toNat)
  case atStart => exact ⟨a, E, 1, rfl, rfl, rfl, hE, PwSt.start ha h2⟩
  case round =>
    obtain ⟨x, e, o, rfl, rfl, rfl, he, hS⟩ := hrel
    by_cases h0 : e = 0
    · subst h0
      have hro := hS.out.fin
      rw [← HR.out] at hro
      subst hro
      go_wp2
      go_ret
      exact ⟨rfl, HB.out⟩
    · have hpos : (0 : Int) < (e : Int) := by omega
      have hand := and1_64 e he
      have hx : x < n := hS.out.1
      have ho : o < n := hS.out.2.1
      have HTx := Lib.hid (HT.out x x W hx hx HC.out)
      have HTo := Lib.hid (HT.out o x W ho hx HC.out)
      obtain ⟨x2, ex2⟩ : ∃ z, z = x * x % n := ⟨_, rfl⟩
      obtain ⟨o2, eo2⟩ : ∃ z, z = o * x % n := ⟨_, rfl⟩
      obtain ⟨h, eh⟩ : ∃ z, z = e / 2 := ⟨_, rfl⟩
      have hh : (e : Int) / 2 = (h : Int) := by omega
      have hhlt : h < e := by omega
      rcases Nat.mod_two_eq_zero_or_one e with hpar | hpar
      · have HN := Lib.hid (hS.out.even hpar)
        rw [hpar] at hand
        rw [← ex2, ← eh] at HN
        rw [← ex2] at HTx
        clear hS eh ex2 eo2 HTo hpar h0
        go_wp2_with fail
        (with_reducible refine (HTx.out).mono ?_)
        rintro ee w1 ⟨rfl, rfl⟩
        go_wp2
        go_round
        case rel => exact ⟨x2, h, o, rfl, rfl, rfl, by omega, HN.out⟩
        case measure => simp [intOf]; omega
      · have HN := Lib.hid (hS.out.odd hpar)
        rw [hpar] at hand
        rw [← ex2, ← eh, ← eo2] at HN
        rw [← ex2] at HTx
        rw [← eo2] at HTo
        clear hS eh ex2 eo2 hpar h0
        go_wp2_with fail
        (with_reducible refine (HTo.out).mono ?_)
        rintro ee w1 ⟨rfl, rfl⟩
        go_wp2_with fail
        (with_reducible refine (HTx.out).mono ?_)
        rintro ee w1 ⟨rfl, rfl⟩
        go_wp2
        go_round
        case rel => exact ⟨x2, h, o2, rfl, rfl, rfl, by omega, HN.out⟩
        case measure => simp [intOf]; omega
set_option maxHeartbeats 4000000 in
theorem power01_any (a E n : Nat) (ha : a < n) (h2 : 2 ≤ n) (hn : n < 4294967296) (hE : E < 18446744073709551616) (w : World) :
    Calls Try.prog 105 #[.int .u32 (a : Int), .int .u64 (E : Int), .int .u32 (n : Int)] w fun e w' => e = .returned (.int .u32 ((a ^ E % n : Nat) : Int)) ∧ w = w' := by
  obtain ⟨R, hR⟩ : ∃ R, R = a ^ E % n := ⟨_, rfl⟩
  rw [← hR]
  have HR := Lib.hid hR
  have HT : Hid (∀ (x y : Nat) (W : World), x < n → y < n → Calls Try.prog 73 #[.int .u32 (x : Int), .int .u32 (y : Int), .int .u32 (n : Int)] W fun e w' => e = .returned (.int .u32 ((x * y % n : Nat) : Int)) ∧ W = w') :=
    fun x y W hx hy => times01 x y n (by omega) (by omega) (by omega) hn W
  clear hR
  go_enter Try.func105, Try.ntmps105
  go_wp2_with fail
  go_loop [0, 1, 7] (fun xv ev ov => ∃ x e o : Nat, xv = .int .u32 (x : Int) ∧ ev = .int .u64 (e : Int) ∧ ov = .int .u32 (o : Int) ∧ e < 18446744073709551616 ∧ Hid (PwSt a E n x e o)) (fun _ ev _ => (intOf ev).toNat)
  case atStart => exact ⟨a, E, 1, rfl, rfl, rfl, hE, PwSt.start ha h2⟩
  case round =>
    obtain ⟨x, e, o, rfl, rfl, rfl, he, hS⟩ := hrel
    by_cases h0 : e = 0
    · subst h0
      have hro := hS.out.fin
      rw [← HR.out] at hro
      subst hro
      go_wp2
      go_ret
      exact ⟨rfl, rfl⟩
    · have hpos : (0 : Int) < (e : Int) := by omega
      have hx : x < n := hS.out.1
      have ho : o < n := hS.out.2.1
      have HTx := Lib.hid (HT.out x x w hx hx)
      have HTo := Lib.hid (HT.out o x w ho hx)
      obtain ⟨x2, ex2⟩ : ∃ z, z = x * x % n := ⟨_, rfl⟩
      obtain ⟨o2, eo2⟩ : ∃ z, z = o * x % n := ⟨_, rfl⟩
      obtain ⟨h, eh⟩ : ∃ z, z = e / 2 := ⟨_, rfl⟩
      have hh : (e : Int) / 2 = (h : Int) := by omega
      have hhlt : h < e := by omega
      rcases Nat.mod_two_eq_zero_or_one e with hpar | hpar
      · have HN := Lib.hid (hS.out.even hpar)
        have hmd : (e : Int) % 2 = 0 := by omega
        rw [← ex2, ← eh] at HN
        rw [← ex2] at HTx
        clear hS eh ex2 eo2 HTo hpar h0
        go_wp2_with fail
        (with_reducible refine (HTx.out).mono ?_)
        rintro ee w1 ⟨rfl, rfl⟩
        go_wp2
        go_round
        case rel => exact ⟨x2, h, o, rfl, rfl, rfl, by omega, HN.out⟩
        case measure => simp [intOf]; omega
      · have HN := Lib.hid (hS.out.odd hpar)
        have hmd : (e : Int) % 2 = 1 := by omega
        rw [← ex2, ← eh, ← eo2] at HN
        rw [← ex2] at HTx
        rw [← eo2] at HTo
        clear hS eh ex2 eo2 hpar h0
        go_wp2_with fail
        (with_reducible refine (HTo.out).mono ?_)
        rintro ee w1 ⟨rfl, rfl⟩
        go_wp2_with fail
        (with_reducible refine (HTx.out).mono ?_)
        rintro ee w1 ⟨rfl, rfl⟩
        go_wp2
        go_round
        case rel => exact ⟨x2, h, o2, rfl, rfl, rfl, by omega, HN.out⟩
        case measure => simp [intOf]; omega
end Go.Proofs.Ytnjblppapmflhaa

/- Walks: strong tests; whether a number is a prime. -/
namespace Go.Proofs.Ytnjblppapmflhaa
set_option linter.all false
open Go.RowKit Go.Shelf PN
theorem odd_unique : ∀ (k s d e : Nat), d * 2 ^ k = e * 2 ^ s → d % 2 = 1 → e % 2 = 1 → d = e ∧ k = s
  | 0, 0, d, e, h, _, _ => by simp at h; exact ⟨h, rfl⟩
  | 0, s + 1, d, e, h, h1, _ => by
    rw [Nat.pow_zero, Nat.mul_one, Nat.pow_succ, ← Nat.mul_assoc] at h
    omega
  | k + 1, 0, d, e, h, _, h2 => by
    rw [Nat.pow_zero, Nat.mul_one, Nat.pow_succ, ← Nat.mul_assoc] at h
    omega
  | k + 1, s + 1, d, e, h, h1, h2 => by
    rw [Nat.pow_succ, Nat.pow_succ, ← Nat.mul_assoc, ← Nat.mul_assoc] at h
    obtain ⟨h3, h4⟩ := odd_unique k s d e (by omega) h1 h2
    exact ⟨h3, by omega⟩
theorem Sp_iff {a n d k : Nat} (h : n - 1 = d * 2 ^ k) (hd : d % 2 = 1) : Sp a n ↔ (a ^ d % n = 1 ∨ ∃ r, r < k ∧ a ^ (d * 2 ^ r) % n = n - 1) := by
  constructor
  · rintro ⟨d', s, h1, h2, h3⟩
    obtain ⟨rfl, rfl⟩ := odd_unique k s d d' (by rw [← h, h1]) hd h2
    exact h3
  · intro h3
    exact ⟨d, k, h, hd, h3⟩
theorem sq_pow (a d r n : Nat) : a ^ (d * 2 ^ r) % n * (a ^ (d * 2 ^ r) % n) % n = a ^ (d * 2 ^ (r + 1)) % n := by
  rw [← Nat.mul_mod, ← Nat.pow_add, Nat.pow_succ, ← Nat.mul_assoc]
  congr 2; omega
theorem em_bool (P : Prop) : ∃ b : Bool, b = true ↔ P := by
  rcases Classical.em P with h | h
  · exact ⟨true, fun _ => h, fun _ => rfl⟩
  · exact ⟨false, fun h2 => (by cases h2), fun h2 => absurd h2 h⟩
set_option maxHeartbeats 4000000 in
theorem passes_any (a n : Nat) (ha : a < 4294967296) (h2 : 2 < n) (ho : n % 2 = 1) (hn : n < 4294967296) (b : Bool) (hb : b = true ↔ Sp a n) (w : World) :
    Calls Try.prog 75 #[.int .u32 (a : Int), .int .u32 (n : Int)] w fun e w' => e = .returned (.bool b) ∧ Below w.heap.size w w' := by
  have HB := Lib.hid hb
  obtain ⟨a1, ea1⟩ : ∃ z, z = a % n := ⟨_, rfl⟩
  have ha1 : a1 < n := by rw [ea1]; exact Nat.mod_lt _ (by omega)
  have HA1 := Lib.hid ea1
  have hm : (a : Int) % (n : Int) = (a1 : Int) := by rw [ea1]; simp
  have hn0 : ((n : Int) == 0) = false := by rw [beq_eq_false_iff_ne]; omega
  obtain ⟨m, em⟩ : ∃ m, m = n - 1 := ⟨_, rfl⟩
  have em1 : (n : Int) - 1 = (m : Int) := by omega
  have HM : Hid (m = n - 1) := em
  have hmlt : m < 4294967296 := by omega
  have hm2 : 2 ≤ m := by omega
  clear hb ea1 em
  go_enter Try.func75, Try.ntmps75
  go_wp2_with fail
  go_loop [5, 6] (fun dv kv => ∃ d k : Nat, dv = .int .u32 (d : Int) ∧ kv = .int .i64 (k : Int) ∧ 0 < d ∧ d < 4294967296 ∧ k ≤ 4294967296 - d ∧ Hid (m = d * 2 ^ k)) (fun dv _ => (intOf dv).toNat)
  case atStart => exact ⟨m, 0, rfl, rfl, by omega, hmlt, by omega, by show _ = _; simp⟩
  case round =>
    obtain ⟨d, k, rfl, rfl, hd0, hdl, hk, hS⟩ := hrel
    have hand := and1_32 d hdl
    rcases Nat.mod_two_eq_zero_or_one d with hpar | hpar
    · rw [hpar] at hand
      obtain ⟨h, eh⟩ : ∃ z, z = d / 2 := ⟨_, rfl⟩
      have hh : (d : Int) / 2 = (h : Int) := by omega
      have hS2 : Hid (m = h * 2 ^ (k + 1)) := by
        show _ = _
        rw [hS.out, Nat.pow_succ', ← Nat.mul_assoc]
        congr 1; omega
      have hh0 : 0 < h := by omega
      have hhd : h < d := by omega
      clear eh hS hpar
      go_wp2_with fail
      go_round
      case rel => exact ⟨h, k + 1, rfl, by go_num, hh0, by omega, by omega, hS2.out⟩
      case measure => simp [intOf]; omega
    · rw [hpar] at hand
      have hiff := Sp_iff (a := a) (n := n) (d := d) (k := k) (by rw [← HM.out]; exact hS.out) hpar
      have HIFF := Lib.hid hiff
      have hk1 : 1 ≤ k := by
        rcases Nat.eq_zero_or_pos k with h | h
        · have h3 := hS.out
          rw [h, Nat.pow_zero, Nat.mul_one] at h3
          have := HM.out
          omega
        · exact h
      have hpw : ∀ r, a1 ^ r % n = a ^ r % n := fun r => by rw [HA1.out, ← Nat.pow_mod]
      have hpow := fun W => power_any a1 d n ha1 (by omega) hn (by omega) W
      rw [hpw] at hpow
      obtain ⟨x, ex⟩ : ∃ x, x = a ^ d % n := ⟨_, rfl⟩
      have hxn : x < n := by rw [ex]; exact Nat.mod_lt _ (by omega)
      have hpow2 : ∀ W : World, Calls Try.prog 91 #[.int .u32 (a1 : Int), .int .u64 (d : Int), .int .u32 (n : Int)] W fun e w' => e = .returned (.int .u32 (x : Int)) ∧ Below W.heap.size W w' := fun W => by rw [ex]; exact hpow W
      have HPW := Lib.hid hpow2
      have HX := Lib.hid ex
      clear hpow hpow2 hpw ex hiff hpar
      have hmd : ¬ (n : Int) = 0 := by omega
      go_wp2_with fail
      (with_reducible refine (HPW.out _).mono ?_)
      rintro e w1 ⟨rfl, hb1⟩
      have HB1 := Lib.hid hb1
      clear hb1
      by_cases hx1 : x = 1
      · obtain rfl : b = true := HB.out.2 (HIFF.out.2 (Or.inl (by rw [← HX.out]; exact hx1)))
        have t1 : ((x : Int) == 1) = true := by rw [beq_iff_eq]; omega
        clear hx1
        go_wp2
        go_ret
        exact ⟨rfl, HB1.out⟩
      · have t1 : ((x : Int) == 1) = false := by rw [beq_eq_false_iff_ne]; omega
        by_cases hxm : x = m
        · obtain rfl : b = true := HB.out.2 (HIFF.out.2 (Or.inr ⟨0, hk1, by rw [Nat.pow_zero, Nat.mul_one, ← HX.out, ← HM.out]; exact hxm⟩))
          have t2 : ((x : Int) == (m : Int)) = true := by rw [beq_iff_eq]; omega
          clear hxm
          go_wp2
          go_ret
          exact ⟨rfl, HB1.out⟩
        · have t2 : ((x : Int) == (m : Int)) = false := by rw [beq_eq_false_iff_ne]; omega
          have HNX : Hid (¬ a ^ d % n = 1) := by show ¬ _; rw [← HX.out]; exact hx1
          have HST : Hid (∀ r, r ≤ 0 → ¬ a ^ (d * 2 ^ r) % n = n - 1) := fun r hr => by
            obtain rfl : r = 0 := by omega
            rw [Nat.pow_zero, Nat.mul_one, ← HX.out, ← HM.out]; exact hxm
          have HX0 : Hid (x = a ^ (d * 2 ^ 0) % n) := by show _ = _; rw [Nat.pow_zero, Nat.mul_one]; exact HX.out
          clear hx1 hxm
          go_wp2_with fail
          go_loop [7, 34] (fun xv iv => ∃ x r : Nat, xv = .int .u32 (x : Int) ∧ iv = .int .i64 (r : Int) ∧ r + 1 ≤ k ∧ x < n ∧ Hid (x = a ^ (d * 2 ^ r) % n) ∧ Hid (∀ r', r' ≤ r → ¬ a ^ (d * 2 ^ r') % n = n - 1)) (fun _ iv => k - (intOf iv).toNat)
          case atStart => exact ⟨x, 0, rfl, rfl, hk1, hxn, HX0.out, HST.out⟩
          case round =>
            obtain ⟨x, r, rfl, rfl, hr, hxn, hX, hno⟩ := hrel
            by_cases hlt : r + 1 < k
            · have hlt' : (r : Int) < (k : Int) - 1 := by omega
              have hm := Nat.mod_lt (x * x) (show 0 < n by omega)
              have hab : x * x ≤ 4294967295 * 4294967295 := Nat.mul_le_mul (by omega) (by omega)
              have HY : Hid (x * x % n = a ^ (d * 2 ^ (r + 1)) % n) := by show _ = _; rw [hX.out]; exact sq_pow a d r n
              obtain ⟨q, eq⟩ : ∃ m, m = x * x := ⟨_, rfl⟩
              have e1 : IntKind.u64.wrap ((x : Int) * (x : Int)) = (q : Int) := by
                rw [show ((x : Int) * (x : Int)) = (q : Int) by rw [eq]; simp, IntKind.wrap_u64]; omega
              rw [← eq] at hm hab HY
              obtain ⟨y, ey⟩ : ∃ x, x = q % n := ⟨_, rfl⟩
              have e2 : (q : Int) % (n : Int) = (y : Int) := by rw [ey]; simp
              rw [← ey] at hm HY
              have e5 : (y : Int) % 4294967296 = (y : Int) := by omega
              clear eq ey hX
              by_cases hym : y = m
              · obtain rfl : b = true := HB.out.2 (HIFF.out.2 (Or.inr ⟨r + 1, hlt, by rw [← HY.out, ← HM.out]; exact hym⟩))
                have t3 : ((y : Int) == (m : Int)) = true := by rw [beq_iff_eq]; omega
                clear hym
                go_wp2
                go_ret
                exact ⟨rfl, HB1.out⟩
              · have t3 : ((y : Int) == (m : Int)) = false := by rw [beq_eq_false_iff_ne]; omega
                have HNO2 : Hid (∀ r', r' ≤ r + 1 → ¬ a ^ (d * 2 ^ r') % n = n - 1) := fun r' hr' => by
                  rcases (show r' ≤ r ∨ r' = r + 1 by omega) with h | h
                  · exact hno.out r' h
                  · rw [h, ← HY.out, ← HM.out]; exact hym
                clear hym hno
                go_wp2_with fail
                go_round
                case rel => exact ⟨y, r + 1, rfl, by go_num, by omega, hm, HY.out, HNO2.out⟩
                case measure => simp [intOf]; omega
            · have hlt' : ¬ (r : Int) < (k : Int) - 1 := by omega
              obtain rfl : b = false := by
                cases hb3 : b
                · rfl
                · rcases HIFF.out.1 (HB.out.1 hb3) with h | ⟨r', h3, h4⟩
                  · exact absurd h HNX.out
                  · exact absurd h4 (hno.out r' (by omega))
              clear hno hX
              go_wp2
              go_ret
              exact ⟨rfl, HB1.out⟩
end Go.Proofs.Ytnjblppapmflhaa

/- Walks: the reference's strong test; whether a number is a prime. -/
namespace Go.Proofs.Ytnjblppapmflhaa
set_option linter.all false
open Go.RowKit Go.Shelf PN
set_option maxHeartbeats 4000000 in
theorem strong_any (a n : Nat) (ha : a < 4294967296) (h2 : 2 < n) (ho : n % 2 = 1) (hn : n < 4294967296) (b : Bool) (hb : b = true ↔ Sp a n) (w : World) :
    Calls Try.prog 88 #[.int .u32 (a : Int), .int .u32 (n : Int)] w fun e w' => e = .returned (.bool b) ∧ w = w' := by
  have HB := Lib.hid hb
  obtain ⟨a1, ea1⟩ : ∃ z, z = a % n := ⟨_, rfl⟩
  have ha1 : a1 < n := by rw [ea1]; exact Nat.mod_lt _ (by omega)
  have HA1 := Lib.hid ea1
  have hm : (a : Int) % (n : Int) = (a1 : Int) := by rw [ea1]; simp
  have hn0 : ((n : Int) == 0) = false := by rw [beq_eq_false_iff_ne]; omega
  obtain ⟨m, em⟩ : ∃ m, m = n - 1 := ⟨_, rfl⟩
  have em1 : (n : Int) - 1 = (m : Int) := by omega
  have HM : Hid (m = n - 1) := em
  have hmlt : m < 4294967296 := by omega
  have hm2 : 2 ≤ m := by omega
  have HTM : Hid (∀ (x : Nat) (W : World), x < n → Calls Try.prog 73 #[.int .u32 (x : Int), .int .u32 (x : Int), .int .u32 (n : Int)] W fun e w' => e = .returned (.int .u32 ((x * x % n : Nat) : Int)) ∧ W = w') :=
    fun x W hx => times01 x x n (by omega) (by omega) (by omega) hn W
  clear hb ea1 em
  go_enter Try.func88, Try.ntmps88
  go_wp2_with fail
  go_loop [5] (fun dv => ∃ d k : Nat, dv = .int .u32 (d : Int) ∧ 0 < d ∧ d < 4294967296 ∧ Hid (m = d * 2 ^ k)) (fun dv => (intOf dv).toNat)
  case atStart => exact ⟨m, 0, rfl, by omega, hmlt, by show _ = _; simp⟩
  case round =>
    obtain ⟨d, k, rfl, hd0, hdl, hS⟩ := hrel
    rcases Nat.mod_two_eq_zero_or_one d with hpar | hpar
    · have hand : (d : Int) % 2 = 0 := by omega
      obtain ⟨h, eh⟩ : ∃ z, z = d / 2 := ⟨_, rfl⟩
      have hh : (d : Int) / 2 = (h : Int) := by omega
      have hS2 : Hid (m = h * 2 ^ (k + 1)) := by
        show _ = _
        rw [hS.out, Nat.pow_succ', ← Nat.mul_assoc]
        congr 1; omega
      have hh0 : 0 < h := by omega
      have hhd : h < d := by omega
      clear eh hS hpar
      go_wp2_with fail
      go_round
      case rel => exact ⟨h, k + 1, rfl, hh0, by omega, hS2.out⟩
      case measure => simp [intOf]; omega
    · have hand : (d : Int) % 2 = 1 := by omega
      have hiff := Sp_iff (a := a) (n := n) (d := d) (k := k) (by rw [← HM.out]; exact hS.out) hpar
      have HIFF := Lib.hid hiff
      have hk1 : 1 ≤ k := by
        rcases Nat.eq_zero_or_pos k with h | h
        · have h3 := hS.out
          rw [h, Nat.pow_zero, Nat.mul_one] at h3
          have := HM.out
          omega
        · exact h
      have hpw : ∀ r, a1 ^ r % n = a ^ r % n := fun r => by rw [HA1.out, ← Nat.pow_mod]
      have hpow := fun W => power01_any a1 d n ha1 (by omega) hn (by omega) W
      rw [hpw] at hpow
      obtain ⟨x, ex⟩ : ∃ x, x = a ^ d % n := ⟨_, rfl⟩
      have hxn : x < n := by rw [ex]; exact Nat.mod_lt _ (by omega)
      have hpow2 : ∀ W : World, Calls Try.prog 105 #[.int .u32 (a1 : Int), .int .u64 (d : Int), .int .u32 (n : Int)] W fun e w' => e = .returned (.int .u32 (x : Int)) ∧ W = w' := fun W => by rw [ex]; exact hpow W
      have HPW := Lib.hid hpow2
      have HX := Lib.hid ex
      clear hpow hpow2 hpw ex hiff hpar
      have hmd : ¬ (n : Int) = 0 := by omega
      go_wp2_with fail
      (with_reducible refine (HPW.out _).mono ?_)
      rintro e w1 ⟨rfl, rfl⟩
      by_cases hx1 : x = 1
      · obtain rfl : b = true := HB.out.2 (HIFF.out.2 (Or.inl (by rw [← HX.out]; exact hx1)))
        have t1 : ((x : Int) == 1) = true := by rw [beq_iff_eq]; omega
        clear hx1
        go_wp2
        go_ret
        exact ⟨rfl, rfl⟩
      · have t1 : ((x : Int) == 1) = false := by rw [beq_eq_false_iff_ne]; omega
        have HNX : Hid (¬ a ^ d % n = 1) := by show ¬ _; rw [← HX.out]; exact hx1
        have HX0 : Hid (x = a ^ (d * 2 ^ 0) % n) := by show _ = _; rw [Nat.pow_zero, Nat.mul_one]; exact HX.out
        clear hx1
        go_wp2_with fail
        go_loop [5, 6] (fun dv xv => ∃ x r c : Nat, xv = .int .u32 (x : Int) ∧ dv = .int .u32 (c : Int) ∧ 0 < c ∧ c ≤ m ∧ r ≤ k ∧ x < n ∧ Hid (c = d * 2 ^ r) ∧ Hid (x = a ^ (d * 2 ^ r) % n) ∧ Hid (∀ r', r' < r → ¬ a ^ (d * 2 ^ r') % n = n - 1)) (fun dv _ => m - (intOf dv).toNat)
        case atStart => exact ⟨x, 0, d, rfl, rfl, hd0, by rw [hS.out]; exact Nat.le_mul_of_pos_right _ (Nat.pow_pos (by omega)), by omega, hxn, by show _ = _; simp, HX0.out, fun r' h => by omega⟩
        case round =>
          obtain ⟨x, r, c, rfl, rfl, hc0, hcm, hr, hxn, hC, hX, hno⟩ := hrel
          by_cases hlt : c < m
          · have hlt' : (c : Int) < (m : Int) := by omega
            have hrk : r < k := by
              rcases Nat.lt_or_ge r k with h | h
              · exact h
              · exfalso
                obtain rfl : r = k := by omega
                have h1 := hS.out
                have h3 := hC.out
                omega
            by_cases hym : x = m
            · obtain rfl : b = true := HB.out.2 (HIFF.out.2 (Or.inr ⟨r, hrk, by rw [← hX.out, ← HM.out]; exact hym⟩))
              have t3 : ((x : Int) == (m : Int)) = true := by rw [beq_iff_eq]; omega
              clear hym hX hno hC
              go_wp2
              go_ret
              exact ⟨rfl, rfl⟩
            · have t3 : ((x : Int) == (m : Int)) = false := by rw [beq_eq_false_iff_ne]; omega
              have HY : Hid (x * x % n = a ^ (d * 2 ^ (r + 1)) % n) := by show _ = _; rw [hX.out]; exact sq_pow a d r n
              have hm := Nat.mod_lt (x * x) (show 0 < n by omega)
              have hT := HTM.out x
              obtain ⟨y, ey⟩ : ∃ y, y = x * x % n := ⟨_, rfl⟩
              rw [← ey] at hm HY hT
              have HT2 := Lib.hid (fun W => hT W hxn)
              have HNO2 : Hid (∀ r', r' < r + 1 → ¬ a ^ (d * 2 ^ r') % n = n - 1) := fun r' hr' => by
                rcases (show r' < r ∨ r' = r by omega) with h | h
                · exact hno.out r' h
                · rw [h, ← hX.out, ← HM.out]; exact hym
              have HC2 : Hid (c * 2 = d * 2 ^ (r + 1)) := by show _ = _; rw [hC.out, Nat.pow_succ, Nat.mul_assoc]
              have hcm2 : c * 2 ≤ m := by
                rw [HC2.out, hS.out]
                exact Nat.mul_le_mul_left _ (Nat.pow_le_pow_right (by omega) hrk)
              obtain ⟨c2, ec2⟩ : ∃ c2, c2 = c * 2 := ⟨_, rfl⟩
              have hc2 : (c : Int) * 2 = (c2 : Int) := by omega
              rw [← ec2] at HC2 hcm2
              have hc2c : c < c2 := by omega
              clear hym hno hX ey hT hC ec2
              go_wp2_with fail
              (with_reducible refine (HT2.out _).mono ?_)
              rintro ee w1 ⟨rfl, rfl⟩
              go_wp2_with fail
              go_round
              case rel => exact ⟨y, r + 1, c2, rfl, rfl, by omega, hcm2, by omega, hm, HC2.out, HY.out, HNO2.out⟩
              case measure => simp [intOf]; omega
          · have hlt' : ¬ (c : Int) < (m : Int) := by omega
            obtain rfl : b = false := by
              cases hb3 : b
              · rfl
              · rcases HIFF.out.1 (HB.out.1 hb3) with h | ⟨r', h3, h4⟩
                · exact absurd h HNX.out
                · have hrr : r' < r := by
                    rcases Nat.lt_or_ge r' r with h | h
                    · exact h
                    · exfalso
                      have h5 : d * 2 ^ (r + 1) ≤ d * 2 ^ k := Nat.mul_le_mul_left _ (Nat.pow_le_pow_right (by omega) (by omega))
                      have h6 := hC.out
                      rw [Nat.pow_succ, ← Nat.mul_assoc, ← h6, ← hS.out] at h5
                      omega
                  exact absurd h4 (hno.out r' hrr)
            clear hno hX hC
            go_wp2
            go_ret
            exact ⟨rfl, rfl⟩
def sml : List Nat := [2, 3, 5, 7, 11, 13, 61]
/-- What the program takes for a prime. -/
def PrimeP (n : Nat) : Prop := 2 ≤ n ∧ (n ∈ sml ∨ ((∀ p ∈ sml, ¬ p ∣ n) ∧ Ps n))
/-- What the reference takes for a prime. -/
def RefP (n : Nat) : Prop := (n = 2 ∨ n = 7 ∨ n = 61) ∨ (2 < n ∧ n % 2 = 1 ∧ 0 < n % 7 ∧ 0 < n % 61 ∧ Ps n)
theorem sml_sp : ∀ p ∈ sml, p ∈ sp := by decide
theorem PrimeP.pr {n : Nat} (h : PrimeP n) (hn : n < 2147483648) : Pr n := by
  obtain ⟨h2, h3 | ⟨h3, h4⟩⟩ := h
  · exact sp_pr (sml_sp n h3)
  · refine exact (by omega) hn ?_ ?_ ?_ h4
    · have := h3 2 (by simp [sml]); omega
    · exact fun h => h3 7 (by simp [sml]) (Nat.dvd_of_mod_eq_zero h)
    · exact fun h => h3 61 (by simp [sml]) (Nat.dvd_of_mod_eq_zero h)
theorem sp_of (a n d s : Nat) (h : (Nat.beq (n - 1) (d * 2 ^ s) && Nat.beq (d % 2) 1 && (Nat.beq (a ^ d % n) 1 || (List.range s).any fun r => Nat.beq (a ^ (d * 2 ^ r) % n) (n - 1))) = true) : Sp a n := by
  rw [Bool.and_eq_true, Bool.and_eq_true, Bool.or_eq_true] at h
  obtain ⟨⟨h1, h2⟩, h3⟩ := h
  refine ⟨d, s, beqN.1 h1, beqN.1 h2, ?_⟩
  rcases h3 with h3 | h3
  · exact Or.inl (beqN.1 h3)
  · rw [List.any_eq_true] at h3
    obtain ⟨r, hr, h4⟩ := h3
    exact Or.inr ⟨r, by simpa using hr, beqN.1 h4⟩
theorem ps_small : Ps 3 ∧ Ps 5 ∧ Ps 11 ∧ Ps 13 :=
  ⟨⟨sp_of 2 3 1 1 (by decide +kernel), sp_of 7 3 1 1 (by decide +kernel), sp_of 61 3 1 1 (by decide +kernel)⟩,
   ⟨sp_of 2 5 1 2 (by decide +kernel), sp_of 7 5 1 2 (by decide +kernel), sp_of 61 5 1 2 (by decide +kernel)⟩,
   ⟨sp_of 2 11 5 1 (by decide +kernel), sp_of 7 11 5 1 (by decide +kernel), sp_of 61 11 5 1 (by decide +kernel)⟩,
   ⟨sp_of 2 13 3 2 (by decide +kernel), sp_of 7 13 3 2 (by decide +kernel), sp_of 61 13 3 2 (by decide +kernel)⟩⟩
theorem prime_iff {n : Nat} (hn : n < 2147483648) : PrimeP n ↔ RefP n := by
  constructor
  · rintro ⟨h2, h3 | ⟨h3, h4⟩⟩
    · obtain ⟨p3, p5, p11, p13⟩ := ps_small
      simp only [sml, List.mem_cons, List.not_mem_nil, or_false] at h3
      rcases h3 with rfl | rfl | rfl | rfl | rfl | rfl | rfl
      · exact Or.inl (Or.inl rfl)
      · exact Or.inr ⟨by omega, by omega, by omega, by omega, p3⟩
      · exact Or.inr ⟨by omega, by omega, by omega, by omega, p5⟩
      · exact Or.inl (Or.inr (Or.inl rfl))
      · exact Or.inr ⟨by omega, by omega, by omega, by omega, p11⟩
      · exact Or.inr ⟨by omega, by omega, by omega, by omega, p13⟩
      · exact Or.inl (Or.inr (Or.inr rfl))
    · have h5 := h3 2 (by simp [sml])
      have h6 := h3 7 (by simp [sml])
      have h7 := h3 61 (by simp [sml])
      exact Or.inr ⟨by omega, by omega, by omega, by omega, h4⟩
  · rintro (h | ⟨h2, h3, h4, h5, h6⟩)
    · rcases h with rfl | rfl | rfl
      · exact ⟨by omega, Or.inl (by simp [sml])⟩
      · exact ⟨by omega, Or.inl (by simp [sml])⟩
      · exact ⟨by omega, Or.inl (by simp [sml])⟩
    · have hp := exact (show 1 < n by omega) hn h3 (by omega) (by omega) h6
      refine ⟨by omega, ?_⟩
      by_cases hm : n ∈ sml
      · exact Or.inl hm
      · refine Or.inr ⟨fun p hpm hd => hm ?_, h6⟩
        have := (sp_pr (sml_sp p hpm)).eq_of_dvd hp hd
        rw [← this]; exact hpm
end Go.Proofs.Ytnjblppapmflhaa

/- Walks: whether a number is a prime, by the program and by the reference. -/
namespace Go.Proofs.Ytnjblppapmflhaa
set_option linter.all false
open Go.RowKit Go.Shelf PN
theorem sml_eq {p n : Nat} (hp : p ∈ sml) (h2 : 2 ≤ n) (hd : p ∣ n) : PrimeP n ↔ n = p := by
  constructor
  · rintro ⟨_, h3 | ⟨h3, _⟩⟩
    · exact ((sp_pr (sml_sp p hp)).eq_of_dvd (sp_pr (sml_sp n h3)) hd).symm
    · exact absurd hd (h3 p hp)
  · rintro rfl
    exact ⟨h2, Or.inl hp⟩
theorem no_div (n : Nat) : (∀ j, j < 7 → ∀ p, sml[j]? = some p → ¬ p ∣ n) → ∀ p ∈ sml, ¬ p ∣ n := by
  intro h p hp
  obtain ⟨j, hj, rfl⟩ := List.mem_iff_getElem.1 hp
  exact h j (by simpa [sml] using hj) _ (List.getElem?_eq_getElem hj)
theorem no_div_succ {n k q : Nat} (h : ∀ j, j < k → ∀ p, sml[j]? = some p → ¬ p ∣ n) (hq : sml[k]? = some q) (hd : ¬ q ∣ n) : ∀ j, j < k + 1 → ∀ p, sml[j]? = some p → ¬ p ∣ n := by
  intro j hj p hp
  rcases (show j < k ∨ j = k by omega) with h1 | rfl
  · exact h j h1 p hp
  · rw [hq] at hp
    injection hp with hp
    rw [← hp]; exact hd
theorem prime_ps {n : Nat} (h2 : 2 ≤ n) (h : ∀ p ∈ sml, ¬ p ∣ n) : PrimeP n ↔ Ps n := by
  constructor
  · rintro ⟨_, h3 | ⟨_, h4⟩⟩
    · exact absurd (Nat.dvd_refl n) (h n h3)
    · exact h4
  · exact fun h4 => ⟨h2, Or.inr ⟨h, h4⟩⟩
set_option maxRecDepth 100000 in
set_option maxHeartbeats 8000000 in
theorem Prime_any (n : Nat) (hn : n < 4294967296) (b : Bool) (hb : b = true ↔ PrimeP n) (w : World) :
    Calls Try.prog 50 #[.int .u32 (n : Int)] w fun e w' => e = .returned (.bool b) ∧ Below w.heap.size w w' := by
  have HB := Lib.hid hb
  clear hb
  by_cases h2 : 2 ≤ n
  · have h2' : ¬ (n : Int) < 2 := by omega
    obtain ⟨b2, hb2⟩ := em_bool (Sp 2 n)
    obtain ⟨b7, hb7⟩ := em_bool (Sp 7 n)
    obtain ⟨b61, hb61⟩ := em_bool (Sp 61 n)
    have HB2 := Lib.hid hb2
    have HB7 := Lib.hid hb7
    have HB61 := Lib.hid hb61
    clear hb2 hb7 hb61
    have i70 : ∀ w, (Instr.index 104 (.agg #[.int .u32 2, .int .u32 3, .int .u32 5, .int .u32 7, .int .u32 11, .int .u32 13, .int .u32 61]) (.int .i64 0)).run Try.prog w = .ok (.int .u32 2) w := fun _ => by kernel_rfl
    have i71 : ∀ w, (Instr.index 104 (.agg #[.int .u32 2, .int .u32 3, .int .u32 5, .int .u32 7, .int .u32 11, .int .u32 13, .int .u32 61]) (.int .i64 1)).run Try.prog w = .ok (.int .u32 3) w := fun _ => by kernel_rfl
    have i72 : ∀ w, (Instr.index 104 (.agg #[.int .u32 2, .int .u32 3, .int .u32 5, .int .u32 7, .int .u32 11, .int .u32 13, .int .u32 61]) (.int .i64 2)).run Try.prog w = .ok (.int .u32 5) w := fun _ => by kernel_rfl
    have i73 : ∀ w, (Instr.index 104 (.agg #[.int .u32 2, .int .u32 3, .int .u32 5, .int .u32 7, .int .u32 11, .int .u32 13, .int .u32 61]) (.int .i64 3)).run Try.prog w = .ok (.int .u32 7) w := fun _ => by kernel_rfl
    have i74 : ∀ w, (Instr.index 104 (.agg #[.int .u32 2, .int .u32 3, .int .u32 5, .int .u32 7, .int .u32 11, .int .u32 13, .int .u32 61]) (.int .i64 4)).run Try.prog w = .ok (.int .u32 11) w := fun _ => by kernel_rfl
    have i75 : ∀ w, (Instr.index 104 (.agg #[.int .u32 2, .int .u32 3, .int .u32 5, .int .u32 7, .int .u32 11, .int .u32 13, .int .u32 61]) (.int .i64 5)).run Try.prog w = .ok (.int .u32 13) w := fun _ => by kernel_rfl
    have i76 : ∀ w, (Instr.index 104 (.agg #[.int .u32 2, .int .u32 3, .int .u32 5, .int .u32 7, .int .u32 11, .int .u32 13, .int .u32 61]) (.int .i64 6)).run Try.prog w = .ok (.int .u32 61) w := fun _ => by kernel_rfl
    have i30 : ∀ w, (Instr.index 105 (.agg #[.int .u32 2, .int .u32 7, .int .u32 61]) (.int .i64 0)).run Try.prog w = .ok (.int .u32 2) w := fun _ => by kernel_rfl
    have i31 : ∀ w, (Instr.index 105 (.agg #[.int .u32 2, .int .u32 7, .int .u32 61]) (.int .i64 1)).run Try.prog w = .ok (.int .u32 7) w := fun _ => by kernel_rfl
    have i32 : ∀ w, (Instr.index 105 (.agg #[.int .u32 2, .int .u32 7, .int .u32 61]) (.int .i64 2)).run Try.prog w = .ok (.int .u32 61) w := fun _ => by kernel_rfl
    go_enter Try.func50, Try.ntmps50
    go_wp2_with fail
    go_loop [10] (fun iv => ∃ k : Nat, iv = .int .i64 (k : Int) ∧ k ≤ 7 ∧ Hid (∀ j, j < k → ∀ p, sml[j]? = some p → ¬ p ∣ n)) (fun iv => 7 - (intOf iv).toNat)
    case atStart => exact ⟨0, rfl, by omega, fun j hj => by omega⟩
    case round =>
      obtain ⟨k, rfl, hk, hno⟩ := hrel
      rcases (show k = 0 ∨ k = 1 ∨ k = 2 ∨ k = 3 ∨ k = 4 ∨ k = 5 ∨ k = 6 ∨ k = 7 by omega) with rfl | rfl | rfl | rfl | rfl | rfl | rfl | rfl
      · by_cases hd : 2 ∣ n
        · have e1 : (n : Int) % 2 = 0 := by omega
          have hiff := sml_eq (p := 2) (n := n) (by simp [sml]) h2 hd
          clear hno hd
          by_cases hp : n = 2
          · obtain rfl : b = true := HB.out.2 (hiff.2 hp)
            have e2 : ((n : Int) == 2) = true := by rw [beq_iff_eq]; omega
            clear hp hiff
            go_wp2
            go_ret
            exact ⟨rfl, Below.refl _ _⟩
          · obtain rfl : b = false := by
              cases h : b
              · rfl
              · exact absurd (hiff.1 (HB.out.1 h)) hp
            have e2 : ((n : Int) == 2) = false := by rw [beq_eq_false_iff_ne]; omega
            clear hp hiff
            go_wp2
            go_ret
            exact ⟨rfl, Below.refl _ _⟩
        · have e1 : ((n : Int) % 2 == 0) = false := by rw [beq_eq_false_iff_ne]; omega
          have HNO := Lib.hid (no_div_succ hno.out (q := 2) rfl hd)
          clear hno hd
          go_wp2_with fail
          go_round
          case rel => exact ⟨1, rfl, by omega, HNO.out⟩
          case measure => simp [intOf]
      · by_cases hd : 3 ∣ n
        · have e1 : (n : Int) % 3 = 0 := by omega
          have hiff := sml_eq (p := 3) (n := n) (by simp [sml]) h2 hd
          clear hno hd
          by_cases hp : n = 3
          · obtain rfl : b = true := HB.out.2 (hiff.2 hp)
            have e2 : ((n : Int) == 3) = true := by rw [beq_iff_eq]; omega
            clear hp hiff
            go_wp2
            go_ret
            exact ⟨rfl, Below.refl _ _⟩
          · obtain rfl : b = false := by
              cases h : b
              · rfl
              · exact absurd (hiff.1 (HB.out.1 h)) hp
            have e2 : ((n : Int) == 3) = false := by rw [beq_eq_false_iff_ne]; omega
            clear hp hiff
            go_wp2
            go_ret
            exact ⟨rfl, Below.refl _ _⟩
        · have e1 : ((n : Int) % 3 == 0) = false := by rw [beq_eq_false_iff_ne]; omega
          have HNO := Lib.hid (no_div_succ hno.out (q := 3) rfl hd)
          clear hno hd
          go_wp2_with fail
          go_round
          case rel => exact ⟨2, rfl, by omega, HNO.out⟩
          case measure => simp [intOf]
      · by_cases hd : 5 ∣ n
        · have e1 : (n : Int) % 5 = 0 := by omega
          have hiff := sml_eq (p := 5) (n := n) (by simp [sml]) h2 hd
          clear hno hd
          by_cases hp : n = 5
          · obtain rfl : b = true := HB.out.2 (hiff.2 hp)
            have e2 : ((n : Int) == 5) = true := by rw [beq_iff_eq]; omega
            clear hp hiff
            go_wp2
            go_ret
            exact ⟨rfl, Below.refl _ _⟩
          · obtain rfl : b = false := by
              cases h : b
              · rfl
              · exact absurd (hiff.1 (HB.out.1 h)) hp
            have e2 : ((n : Int) == 5) = false := by rw [beq_eq_false_iff_ne]; omega
            clear hp hiff
            go_wp2
            go_ret
            exact ⟨rfl, Below.refl _ _⟩
        · have e1 : ((n : Int) % 5 == 0) = false := by rw [beq_eq_false_iff_ne]; omega
          have HNO := Lib.hid (no_div_succ hno.out (q := 5) rfl hd)
          clear hno hd
          go_wp2_with fail
          go_round
          case rel => exact ⟨3, rfl, by omega, HNO.out⟩
          case measure => simp [intOf]
      · by_cases hd : 7 ∣ n
        · have e1 : (n : Int) % 7 = 0 := by omega
          have hiff := sml_eq (p := 7) (n := n) (by simp [sml]) h2 hd
          clear hno hd
          by_cases hp : n = 7
          · obtain rfl : b = true := HB.out.2 (hiff.2 hp)
            have e2 : ((n : Int) == 7) = true := by rw [beq_iff_eq]; omega
            clear hp hiff
            go_wp2
            go_ret
            exact ⟨rfl, Below.refl _ _⟩
          · obtain rfl : b = false := by
              cases h : b
              · rfl
              · exact absurd (hiff.1 (HB.out.1 h)) hp
            have e2 : ((n : Int) == 7) = false := by rw [beq_eq_false_iff_ne]; omega
            clear hp hiff
            go_wp2
            go_ret
            exact ⟨rfl, Below.refl _ _⟩
        · have e1 : ((n : Int) % 7 == 0) = false := by rw [beq_eq_false_iff_ne]; omega
          have HNO := Lib.hid (no_div_succ hno.out (q := 7) rfl hd)
          clear hno hd
          go_wp2_with fail
          go_round
          case rel => exact ⟨4, rfl, by omega, HNO.out⟩
          case measure => simp [intOf]
      · by_cases hd : 11 ∣ n
        · have e1 : (n : Int) % 11 = 0 := by omega
          have hiff := sml_eq (p := 11) (n := n) (by simp [sml]) h2 hd
          clear hno hd
          by_cases hp : n = 11
          · obtain rfl : b = true := HB.out.2 (hiff.2 hp)
            have e2 : ((n : Int) == 11) = true := by rw [beq_iff_eq]; omega
            clear hp hiff
            go_wp2
            go_ret
            exact ⟨rfl, Below.refl _ _⟩
          · obtain rfl : b = false := by
              cases h : b
              · rfl
              · exact absurd (hiff.1 (HB.out.1 h)) hp
            have e2 : ((n : Int) == 11) = false := by rw [beq_eq_false_iff_ne]; omega
            clear hp hiff
            go_wp2
            go_ret
            exact ⟨rfl, Below.refl _ _⟩
        · have e1 : ((n : Int) % 11 == 0) = false := by rw [beq_eq_false_iff_ne]; omega
          have HNO := Lib.hid (no_div_succ hno.out (q := 11) rfl hd)
          clear hno hd
          go_wp2_with fail
          go_round
          case rel => exact ⟨5, rfl, by omega, HNO.out⟩
          case measure => simp [intOf]
      · by_cases hd : 13 ∣ n
        · have e1 : (n : Int) % 13 = 0 := by omega
          have hiff := sml_eq (p := 13) (n := n) (by simp [sml]) h2 hd
          clear hno hd
          by_cases hp : n = 13
          · obtain rfl : b = true := HB.out.2 (hiff.2 hp)
            have e2 : ((n : Int) == 13) = true := by rw [beq_iff_eq]; omega
            clear hp hiff
            go_wp2
            go_ret
            exact ⟨rfl, Below.refl _ _⟩
          · obtain rfl : b = false := by
              cases h : b
              · rfl
              · exact absurd (hiff.1 (HB.out.1 h)) hp
            have e2 : ((n : Int) == 13) = false := by rw [beq_eq_false_iff_ne]; omega
            clear hp hiff
            go_wp2
            go_ret
            exact ⟨rfl, Below.refl _ _⟩
        · have e1 : ((n : Int) % 13 == 0) = false := by rw [beq_eq_false_iff_ne]; omega
          have HNO := Lib.hid (no_div_succ hno.out (q := 13) rfl hd)
          clear hno hd
          go_wp2_with fail
          go_round
          case rel => exact ⟨6, rfl, by omega, HNO.out⟩
          case measure => simp [intOf]
      · by_cases hd : 61 ∣ n
        · have e1 : (n : Int) % 61 = 0 := by omega
          have hiff := sml_eq (p := 61) (n := n) (by simp [sml]) h2 hd
          clear hno hd
          by_cases hp : n = 61
          · obtain rfl : b = true := HB.out.2 (hiff.2 hp)
            have e2 : ((n : Int) == 61) = true := by rw [beq_iff_eq]; omega
            clear hp hiff
            go_wp2
            go_ret
            exact ⟨rfl, Below.refl _ _⟩
          · obtain rfl : b = false := by
              cases h : b
              · rfl
              · exact absurd (hiff.1 (HB.out.1 h)) hp
            have e2 : ((n : Int) == 61) = false := by rw [beq_eq_false_iff_ne]; omega
            clear hp hiff
            go_wp2
            go_ret
            exact ⟨rfl, Below.refl _ _⟩
        · have e1 : ((n : Int) % 61 == 0) = false := by rw [beq_eq_false_iff_ne]; omega
          have HNO := Lib.hid (no_div_succ hno.out (q := 61) rfl hd)
          clear hno hd
          go_wp2_with fail
          go_round
          case rel => exact ⟨7, rfl, by omega, HNO.out⟩
          case measure => simp [intOf]
      · have hall := no_div n hno.out
        have hps := prime_ps h2 hall
        have HPS := Lib.hid hps
        have h3 : n % 2 = 1 := by have := hall 2 (by simp [sml]); omega
        have h4 : 2 < n := by omega
        have HC2 : Hid (∀ W : World, Calls Try.prog 75 #[.int .u32 2, .int .u32 (n : Int)] W fun e w' => e = .returned (.bool b2) ∧ Below W.heap.size W w') := fun W => passes_any 2 n (by omega) h4 h3 hn b2 HB2.out W
        have HC7 : Hid (∀ W : World, Calls Try.prog 75 #[.int .u32 7, .int .u32 (n : Int)] W fun e w' => e = .returned (.bool b7) ∧ Below W.heap.size W w') := fun W => passes_any 7 n (by omega) h4 h3 hn b7 HB7.out W
        have HC61 : Hid (∀ W : World, Calls Try.prog 75 #[.int .u32 61, .int .u32 (n : Int)] W fun e w' => e = .returned (.bool b61) ∧ Below W.heap.size W w') := fun W => passes_any 61 n (by omega) h4 h3 hn b61 HB61.out W
        have hbb : b = (b2 && (b7 && b61)) := by
          rw [Bool.eq_iff_iff, HB.out, hps]
          simp [Ps, HB2.out, HB7.out, HB61.out]
        clear hno hall hps h3 h4
        go_wp2_with fail
        go_loopw [22] (fun iv wr => ∃ k : Nat, iv = .int .i64 (k : Int) ∧ k ≤ 3 ∧ (0 < k → b2 = true) ∧ (1 < k → b7 = true) ∧ (2 < k → b61 = true) ∧ Below w.heap.size w wr) (fun iv _ => 3 - (intOf iv).toNat)
        case atStart => exact ⟨0, rfl, by omega, fun h => by omega, fun h => by omega, fun h => by omega, Below.refl _ _⟩
        case round =>
          obtain ⟨k, rfl, hk, k2, k7, k61, hbl⟩ := hrel
          have HBL := Lib.hid hbl
          clear hbl
          rcases (show k = 0 ∨ k = 1 ∨ k = 2 ∨ k = 3 by omega) with rfl | rfl | rfl | rfl
          · clear k2 k7 k61
            go_wp2_with fail
            (with_reducible refine (HC2.out _).mono ?_)
            rintro e w1 ⟨rfl, hb1⟩
            have HB1 := Lib.hid (HBL.out.trans (hb1.mono HBL.out.size))
            clear hb1
            cases hbv : b2 with
            | false =>
              obtain rfl : b = false := by rw [hbb, hbv]; simp
              clear hbb
              go_wp2
              go_ret
              exact ⟨rfl, HB1.out⟩
            | true =>
              clear hbb
              go_wp2_with fail
              go_roundw
              case rel => exact ⟨1, rfl, by omega, fun _ => hbv, fun h => by omega, fun h => by omega, HB1.out⟩
              case measure => simp [intOf]
          · have K2 := k2 (by omega)
            clear k2 k7 k61
            go_wp2_with fail
            (with_reducible refine (HC7.out _).mono ?_)
            rintro e w1 ⟨rfl, hb1⟩
            have HB1 := Lib.hid (HBL.out.trans (hb1.mono HBL.out.size))
            clear hb1
            cases hbv : b7 with
            | false =>
              obtain rfl : b = false := by rw [hbb, hbv]; simp
              clear hbb
              go_wp2
              go_ret
              exact ⟨rfl, HB1.out⟩
            | true =>
              clear hbb
              go_wp2_with fail
              go_roundw
              case rel => exact ⟨2, rfl, by omega, fun _ => K2, fun _ => hbv, fun h => by omega, HB1.out⟩
              case measure => simp [intOf]
          · have K2 := k2 (by omega)
            have K7 := k7 (by omega)
            clear k2 k7 k61
            go_wp2_with fail
            (with_reducible refine (HC61.out _).mono ?_)
            rintro e w1 ⟨rfl, hb1⟩
            have HB1 := Lib.hid (HBL.out.trans (hb1.mono HBL.out.size))
            clear hb1
            cases hbv : b61 with
            | false =>
              obtain rfl : b = false := by rw [hbb, hbv]; simp
              clear hbb
              go_wp2
              go_ret
              exact ⟨rfl, HB1.out⟩
            | true =>
              clear hbb
              go_wp2_with fail
              go_roundw
              case rel => exact ⟨3, rfl, by omega, fun _ => K2, fun _ => K7, fun _ => hbv, HB1.out⟩
              case measure => simp [intOf]
          · obtain rfl : b = true := by rw [hbb, k2 (by omega), k7 (by omega), k61 (by omega)]; rfl
            clear hbb k2 k7 k61
            go_wp2
            go_ret
            exact ⟨rfl, HBL.out⟩
  · have h2' : (n : Int) < 2 := by omega
    obtain rfl : b = false := by
      cases h : b
      · rfl
      · have := (HB.out.1 h).1; omega
    clear h2
    go_enter Try.func50, Try.ntmps50
    go_wp2
    go_ret
    exact ⟨rfl, Below.refl _ _⟩
set_option maxHeartbeats 8000000 in
theorem Prime01_any (n : Nat) (hn : n < 4294967296) (b : Bool) (hb : b = true ↔ RefP n) (w : World) :
    Calls Try.prog 65 #[.int .u32 (n : Int)] w fun e w' => e = .returned (.bool b) ∧ w = w' := by
  have HB := Lib.hid hb
  clear hb
  by_cases h1 : n = 2 ∨ n = 7 ∨ n = 61
  · obtain rfl : b = true := HB.out.2 (Or.inl h1)
    rcases h1 with rfl | rfl | rfl <;>
    · go_enter Try.func65, Try.ntmps65
      go_wp2
      go_ret
      exact ⟨rfl, rfl⟩
  · have t2 : ((n : Int) == 2) = false := by rw [beq_eq_false_iff_ne]; omega
    have t7 : ((n : Int) == 7) = false := by rw [beq_eq_false_iff_ne]; omega
    have t61 : ((n : Int) == 61) = false := by rw [beq_eq_false_iff_ne]; omega
    by_cases h2 : 2 < n ∧ n % 2 = 1 ∧ 0 < n % 7 ∧ 0 < n % 61
    · obtain ⟨g1, g2, g3, g4⟩ := h2
      have u1 : (2 : Int) < (n : Int) := by omega
      have u2 : ((n : Int) % 2 == 1) = true := by rw [beq_iff_eq]; omega
      have u2' : (n : Int) % 2 = 1 := by omega
      have u3 : (0 : Int) < (n : Int) % 7 := by omega
      have u4 : (0 : Int) < (n : Int) % 61 := by omega
      obtain ⟨b2, hb2⟩ := em_bool (Sp 2 n)
      obtain ⟨b7, hb7⟩ := em_bool (Sp 7 n)
      obtain ⟨b61, hb61⟩ := em_bool (Sp 61 n)
      have HC2 : Hid (∀ W : World, Calls Try.prog 88 #[.int .u32 2, .int .u32 (n : Int)] W fun e w' => e = .returned (.bool b2) ∧ W = w') := fun W => strong_any 2 n (by omega) g1 g2 hn b2 hb2 W
      have HC7 : Hid (∀ W : World, Calls Try.prog 88 #[.int .u32 7, .int .u32 (n : Int)] W fun e w' => e = .returned (.bool b7) ∧ W = w') := fun W => strong_any 7 n (by omega) g1 g2 hn b7 hb7 W
      have HC61 : Hid (∀ W : World, Calls Try.prog 88 #[.int .u32 61, .int .u32 (n : Int)] W fun e w' => e = .returned (.bool b61) ∧ W = w') := fun W => strong_any 61 n (by omega) g1 g2 hn b61 hb61 W
      obtain rfl : b = (b2 && (b7 && b61)) := by
        rw [Bool.eq_iff_iff, HB.out]
        constructor
        · rintro (h | ⟨_, _, _, _, h⟩)
          · exact absurd h h1
          · simp [hb2, hb7, hb61]; exact h
        · intro h
          refine Or.inr ⟨g1, g2, g3, g4, ?_⟩
          simp [hb2, hb7, hb61] at h
          exact h
      clear HB hb2 hb7 hb61 h1 g2 g3 g4
      go_enter Try.func65, Try.ntmps65
      go_wp2_with fail
      (with_reducible refine (HC2.out _).mono ?_)
      rintro e w1 ⟨rfl, rfl⟩
      cases b2 with
      | false =>
        go_wp2
        go_ret
        exact ⟨rfl, rfl⟩
      | true =>
        go_wp2_with fail
        (with_reducible refine (HC7.out _).mono ?_)
        rintro e w1 ⟨rfl, rfl⟩
        cases b7 with
        | false =>
          go_wp2
          go_ret
          exact ⟨rfl, rfl⟩
        | true =>
          go_wp2_with fail
          (with_reducible refine (HC61.out _).mono ?_)
          rintro e w1 ⟨rfl, rfl⟩
          go_wp2
          go_ret
          exact ⟨rfl, rfl⟩
    · obtain rfl : b = false := by
        cases h : b
        · rfl
        · rcases HB.out.1 h with h3 | ⟨g1, g2, g3, g4, _⟩
          · exact absurd h3 h1
          · exact absurd ⟨g1, g2, g3, g4⟩ h2
      clear HB h1
      by_cases g1 : 2 < n
      · by_cases g2 : n % 2 = 1
        · by_cases g3 : 0 < n % 7
          · have g4 : ¬ 0 < n % 61 := fun h => h2 ⟨g1, g2, g3, h⟩
            have u1 : (2 : Int) < (n : Int) := by omega
            have u2 : ((n : Int) % 2 == 1) = true := by rw [beq_iff_eq]; omega
            have u2' : (n : Int) % 2 = 1 := by omega
            have u3 : (0 : Int) < (n : Int) % 7 := by omega
            have u4 : ¬ (0 : Int) < (n : Int) % 61 := by omega
            clear h2 g2 g3 g4
            go_enter Try.func65, Try.ntmps65
            go_wp2
            go_ret
            exact ⟨rfl, rfl⟩
          · have u1 : (2 : Int) < (n : Int) := by omega
            have u2 : ((n : Int) % 2 == 1) = true := by rw [beq_iff_eq]; omega
            have u2' : (n : Int) % 2 = 1 := by omega
            have u3 : ¬ (0 : Int) < (n : Int) % 7 := by omega
            clear h2 g2 g3
            go_enter Try.func65, Try.ntmps65
            go_wp2
            go_ret
            exact ⟨rfl, rfl⟩
        · have u1 : (2 : Int) < (n : Int) := by omega
          have u2 : ((n : Int) % 2 == 1) = false := by rw [beq_eq_false_iff_ne]; omega
          have u2' : (n : Int) % 2 = 0 := by omega
          clear h2 g2
          go_enter Try.func65, Try.ntmps65
          go_wp2
          go_ret
          exact ⟨rfl, rfl⟩
      · have u1 : ¬ (2 : Int) < (n : Int) := by omega
        clear h2
        go_enter Try.func65, Try.ntmps65
        go_wp2
        go_ret
        exact ⟨rfl, rfl⟩
end Go.Proofs.Ytnjblppapmflhaa

/- Wide integers: helpers and walks, in one text (KC1 KC2). -/
/- Plain: systems of primes; the integer with given residues. -/
namespace Go.Proofs.Ytnjblppapmflhaa
set_option linter.all false
open Go.RowKit PN
/-- Congruence. -/
def Cg (m : Nat) (a b : Int) : Prop := (m : Int) ∣ a - b
theorem Cg.refl (m : Nat) (a : Int) : Cg m a a := ⟨0, by omega⟩
theorem Cg.symm {m : Nat} {a b : Int} (h : Cg m a b) : Cg m b a := by
  obtain ⟨c, hc⟩ := h; exact ⟨-c, by rw [Int.mul_neg]; omega⟩
theorem Cg.trans {m : Nat} {a b c : Int} (h : Cg m a b) (k : Cg m b c) : Cg m a c := by
  obtain ⟨x, hx⟩ := h; obtain ⟨y, hy⟩ := k; exact ⟨x + y, by rw [Int.mul_add]; omega⟩
theorem Cg.add {m : Nat} {a b c d : Int} (h : Cg m a b) (k : Cg m c d) : Cg m (a + c) (b + d) := by
  obtain ⟨x, hx⟩ := h; obtain ⟨y, hy⟩ := k; exact ⟨x + y, by rw [Int.mul_add]; omega⟩
theorem Cg.neg {m : Nat} {a b : Int} (h : Cg m a b) : Cg m (-a) (-b) := by
  obtain ⟨x, hx⟩ := h; exact ⟨-x, by rw [Int.mul_neg]; omega⟩
theorem Cg.sub {m : Nat} {a b c d : Int} (h : Cg m a b) (k : Cg m c d) : Cg m (a - c) (b - d) := by
  have := h.add k.neg
  rwa [← Int.sub_eq_add_neg, ← Int.sub_eq_add_neg] at this
theorem Cg.mul {m : Nat} {a b c d : Int} (h : Cg m a b) (k : Cg m c d) : Cg m (a * c) (b * d) := by
  have h1 : (m : Int) ∣ a * (c - d) := dvdM a k
  have h2 : (m : Int) ∣ d * (a - b) := dvdM d h
  have h3 := Int.dvd_add h1 h2
  unfold Cg
  rwa [show a * (c - d) + d * (a - b) = a * c - b * d by rw [Int.mul_sub, Int.mul_sub, Int.mul_comm d a, Int.mul_comm d b]; omega] at h3
theorem Cg.of_mod {m : Nat} {a : Int} : Cg m (a % m) a := by
  have := Int.mul_ediv_add_emod a m
  exact ⟨-(a / m), by rw [Int.mul_neg]; omega⟩
theorem Cg.modN {m a : Nat} : Cg m ((a % m : Nat) : Int) a := by
  rw [Int.natCast_emod]; exact Cg.of_mod
theorem Cg.zero {m : Nat} : Cg m (m : Int) 0 := ⟨1, by omega⟩
theorem Cg.eqN {m a b : Nat} (h : Cg m (a : Int) (b : Int)) (ha : a < m) (hb : b < m) : a = b := by
  obtain ⟨c, hc⟩ := h
  rcases Int.lt_or_le c 0 with h1 | h1
  · have : (m : Int) * c ≤ (m : Int) * (-1) := Int.mul_le_mul_of_nonneg_left (by omega) (by omega)
    omega
  · rcases Int.lt_or_le 0 c with h2 | h2
    · have : (m : Int) * 1 ≤ (m : Int) * c := Int.mul_le_mul_of_nonneg_left (by omega) (by omega)
      omega
    · have : c = 0 := by omega
      subst this
      omega
/-- The inverse of a residue. -/
def invN (a n : Nat) : Nat := (invX n a 0 1 % (n : Int)).toNat
theorem invN_spec {a n : Nat} (h2 : 2 ≤ n) (hn : n < 4294967296) (ha : a < n) (hg : Nat.gcd n a = 1) : invN a n < n ∧ a * invN a n % n = 1 ∧ Cg n ((a : Int) * (invN a n : Nat)) 1 := by
  obtain ⟨u, q1, q2, q3, q4⟩ := invX_spec (m := n) (a := a) hn a a n 0 1 0 1 (Nat.le_refl _) ha (by omega) (by omega) (Or.inl ⟨rfl, rfl⟩) ⟨-1, by omega⟩ ⟨0, by omega⟩
  rw [hg] at q4
  unfold invN
  rw [q1]
  have h3 := Int.emod_nonneg u (show (n : Int) ≠ 0 by omega)
  have h4 := Int.emod_lt_of_pos u (show (0 : Int) < n by omega)
  obtain ⟨x, hx⟩ : ∃ x : Nat, x = (u % (n : Int)).toNat := ⟨_, rfl⟩
  have hx2 : (x : Int) = u % (n : Int) := by omega
  rw [← hx]
  have h5 : Cg n ((a : Int) * (x : Int)) 1 := by
    have h6 : Cg n ((x : Int) * a) (u * a) := (by rw [hx2]; exact Cg.of_mod : Cg n (x : Int) u).mul (Cg.refl n a)
    have h7 : Cg n (u * a) 1 := q4
    rw [Int.mul_comm]
    exact h6.trans h7
  refine ⟨by omega, ?_, h5⟩
  have h6 : Cg n ((a * x % n : Nat) : Int) ((1 : Nat) : Int) := Cg.modN.trans (by rw [Int.natCast_mul]; exact h5)
  exact h6.eqN (Nat.mod_lt _ (by omega)) (by omega)
/-! ### Lists of primes -/
def prodL : List Nat → Nat
  | [] => 1
  | p :: l => p * prodL l
theorem prodL_append (l m : List Nat) : prodL (l ++ m) = prodL l * prodL m := by
  induction l with
  | nil => simp [prodL]
  | cons p l ih => simp [prodL, ih, Nat.mul_assoc]
theorem prodL_snoc (l : List Nat) (p : Nat) : prodL (l ++ [p]) = prodL l * p := by rw [prodL_append]; simp [prodL]
theorem prodL_pos {l : List Nat} (h : ∀ p ∈ l, 0 < p) : 0 < prodL l := by
  induction l with
  | nil => simp [prodL]
  | cons p l ih => exact Nat.mul_pos (h p (by simp)) (ih fun q hq => h q (by simp [hq]))
theorem prodL_lt {l : List Nat} (h : ∀ p ∈ l, p < 4294967296) : prodL l ≤ 4294967296 ^ l.length := by
  induction l with
  | nil => simp [prodL]
  | cons p l ih =>
    rw [List.length_cons, Nat.pow_succ']
    exact Nat.mul_le_mul (Nat.le_of_lt (h p (by simp))) (ih fun q hq => h q (by simp [hq]))
/-- What a system asks of one more number. -/
def OkAt (l : List Nat) (p : Nat) : Prop := p % 2 = 1 ∧ p ≤ 2147483647 ∧ p ∉ l ∧ PrimeP p
/-- The first numbers are those of a system. -/
def SysTo (ps : List Nat) (k : Nat) : Prop := ∀ i, i < k → ∀ p, ps[i]? = some p → OkAt (ps.take i) p
def SysP (ps : List Nat) : Prop := 1 ≤ ps.length ∧ ps.length ≤ 25 ∧ SysTo ps ps.length
/-- Different odd primes. -/
def Sep (ps : List Nat) : Prop := ∀ i p, ps[i]? = some p → Pr p ∧ p % 2 = 1 ∧ p ≤ 2147483647 ∧ p ∉ ps.take i
theorem SysP.sep {ps : List Nat} (h : SysP ps) : Sep ps := by
  intro i p hp
  obtain ⟨h1, h2, h3, h4⟩ := h.2.2 i (List.getElem?_eq_some_iff.1 hp).1 p hp
  exact ⟨h4.pr (by omega), h1, h2, h3⟩
theorem Sep.take {ps : List Nat} (h : Sep ps) (k : Nat) : Sep (ps.take k) := by
  intro i p hp
  rw [List.getElem?_take] at hp
  split at hp
  · rename_i hik
    obtain ⟨h1, h2, h3, h4⟩ := h i p hp
    refine ⟨h1, h2, h3, ?_⟩
    rwa [List.take_take, Nat.min_eq_left (by omega)]
  · cases hp
theorem Sep.mem {ps : List Nat} (h : Sep ps) {p : Nat} (hp : p ∈ ps) : Pr p ∧ p % 2 = 1 ∧ p ≤ 2147483647 := by
  obtain ⟨i, hi⟩ := List.mem_iff_getElem?.1 hp
  obtain ⟨h1, h2, h3, -⟩ := h i p hi
  exact ⟨h1, h2, h3⟩
theorem Sep.big {ps : List Nat} (h : Sep ps) {p : Nat} (hp : p ∈ ps) : 3 ≤ p := by
  obtain ⟨h1, h2, -⟩ := h.mem hp
  have := h1.1
  omega
theorem pr_cop {p q : Nat} (hp : Pr p) (hq : Pr q) (hne : p ≠ q) : Nat.Coprime p q := hp.cop fun hd => hne (hp.eq_of_dvd hq hd)
theorem cop_prodL {p : Nat} {l : List Nat} (hp : Pr p) (h : ∀ q ∈ l, Pr q) (hn : p ∉ l) : Nat.Coprime p (prodL l) := by
  induction l with
  | nil => simp [prodL]
  | cons q l ih =>
    simp only [List.mem_cons, not_or] at hn
    exact Nat.Coprime.mul_right (pr_cop hp (h q (by simp)) hn.1) (ih (fun r hr => h r (by simp [hr])) hn.2)
theorem take_succ' {ps : List Nat} {i p : Nat} (h : ps[i]? = some p) : ps.take (i + 1) = ps.take i ++ [p] := by
  rw [List.take_add_one, h]; rfl
/-- What all primes divide, their product divides. -/
theorem Sep.dvd {ps : List Nat} (h : Sep ps) (z : Int) (hz : ∀ p ∈ ps, (p : Int) ∣ z) : ((prodL ps : Nat) : Int) ∣ z := by
  have key : ∀ k, k ≤ ps.length → ((prodL (ps.take k) : Nat) : Int) ∣ z := by
    intro k
    induction k with
    | zero => intro _; simp [prodL]
    | succ k ih =>
      intro hk
      have hp : ps[k]? = some ps[k] := List.getElem?_eq_getElem (by omega)
      rw [take_succ' hp, prodL_snoc]
      obtain ⟨h1, _, _, h4⟩ := h k _ hp
      have h5 := cop_prodL h1 (fun q hq => (h.mem (List.mem_of_mem_take hq)).1) h4
      have h6 := Int.natAbs_dvd_natAbs.2 (ih (by omega))
      have h7 := Int.natAbs_dvd_natAbs.2 (hz _ (List.mem_of_getElem? hp))
      rw [Int.natAbs_natCast] at h6 h7
      have h8 := Nat.Coprime.mul_dvd_of_dvd_of_dvd (Nat.coprime_comm.1 h5) h6 h7
      exact Int.natAbs_dvd_natAbs.1 (by rwa [Int.natAbs_natCast])
  have := key ps.length (Nat.le_refl _)
  rwa [List.take_length] at this
/-- x is the number from 0 on with the residues. -/
def IsCrt (ps rs : List Nat) (x : Nat) : Prop := x < prodL ps ∧ ∀ i p r : Nat, ps[i]? = some p → rs[i]? = some r → Cg p (x : Int) (r : Int)
theorem IsCrt.uniq {ps rs : List Nat} (hs : Sep ps) (hl : rs.length = ps.length) {x y : Nat} (hx : IsCrt ps rs x) (hy : IsCrt ps rs y) : x = y := by
  have h1 : Cg (prodL ps) (x : Int) (y : Int) := hs.dvd _ fun p hp => by
    obtain ⟨i, hi⟩ := List.mem_iff_getElem?.1 hp
    have hil : i < rs.length := by rw [hl]; exact (List.getElem?_eq_some_iff.1 hi).1
    have hr : rs[i]? = some rs[i] := List.getElem?_eq_getElem hil
    exact (hx.2 i p _ hi hr).trans (hy.2 i p _ hi hr).symm
  exact h1.eqN hx.1 hy.1
/-- One more residue. -/
theorem IsCrt.step {ps rs : List Nat} {i p r x d : Nat} (hs : Sep ps) (hp : ps[i]? = some p) (hr : rs[i]? = some r) (hx : IsCrt (ps.take i) (rs.take i) x) (hd : d < p) (hc : Cg p ((x + prodL (ps.take i) * d : Nat) : Int) (r : Int)) :
    IsCrt (ps.take (i + 1)) (rs.take (i + 1)) (x + prodL (ps.take i) * d) := by
  have hpl : i < ps.length := (List.getElem?_eq_some_iff.1 hp).1
  have hrl : i < rs.length := (List.getElem?_eq_some_iff.1 hr).1
  rw [take_succ' hp, take_succ' hr]
  refine ⟨?_, fun k q s hq hs' => ?_⟩
  · rw [prodL_snoc]
    have h1 := hx.1
    have h2 : prodL (ps.take i) * (d + 1) ≤ prodL (ps.take i) * p := Nat.mul_le_mul_left _ hd
    rw [Nat.mul_add, Nat.mul_one] at h2
    omega
  · rcases Nat.lt_trichotomy k i with hlt | rfl | hgt
    · rw [List.getElem?_append_left (by rw [List.length_take]; omega)] at hq hs'
      have h1 := hx.2 k q s hq hs'
      have hqm : q ∈ ps.take i := List.mem_of_getElem? hq
      have h2 : q ∣ prodL (ps.take i) := by
        obtain ⟨a, b, hab⟩ := List.append_of_mem hqm
        rw [hab, prodL_append]
        exact ⟨prodL a * prodL b, by simp [prodL, Nat.mul_left_comm]⟩
      have h3 : Cg q ((prodL (ps.take i) * d : Nat) : Int) 0 := by
        obtain ⟨c, hc⟩ := h2
        rw [hc]
        exact ⟨((c * d : Nat) : Int), by simp [Int.mul_assoc]⟩
      have h4 := h1.add h3
      rw [Int.add_zero] at h4
      rwa [Int.natCast_add]
    · rw [List.getElem?_append_right (by rw [List.length_take]; omega)] at hq hs'
      rw [List.length_take, Nat.min_eq_left (by omega)] at hq hs'
      simp at hq hs'
      subst hq hs'
      exact hc
    · rw [List.getElem?_append_right (by rw [List.length_take]; omega), List.length_take, Nat.min_eq_left (by omega)] at hq
      obtain ⟨m, hm⟩ := Nat.exists_eq_succ_of_ne_zero (show k - i ≠ 0 by omega)
      rw [hm] at hq
      simp at hq
end Go.Proofs.Ytnjblppapmflhaa

/- Plain: digits of mixed radix; the integer prime by prime; division by the last prime. -/
namespace Go.Proofs.Ytnjblppapmflhaa
set_option linter.all false
open Go.RowKit PN
def gst (p q o d : Nat) : Nat := (d + p - o % p) % p * invN (q % p) p % p
def gfold (p : Nat) : List Nat → List Nat → Nat → Nat
  | q :: qs, o :: os, d => gfold p qs os (gst p q o d)
  | _, _, d => d
theorem gfold_nil (p d : Nat) (os : List Nat) : gfold p [] os d = d := by cases os <;> rfl
theorem gfold_snoc (p q o : Nat) : ∀ (qs os : List Nat) (d : Nat), qs.length = os.length → gfold p (qs ++ [q]) (os ++ [o]) d = gst p q o (gfold p qs os d)
  | [], [], d, _ => rfl
  | [], o' :: os, d, h => by simp at h
  | q' :: qs, [], d, h => by simp at h
  | q' :: qs, o' :: os, d, h => gfold_snoc p q o qs os (gst p q' o' d) (by simpa using h)
def digL (ps rs : List Nat) : Nat → List Nat
  | 0 => []
  | i + 1 => digL ps rs i ++ [gfold (ps.getD i 0) (ps.take i) (digL ps rs i) (rs.getD i 0)]
def dgt (ps rs : List Nat) (i : Nat) : Nat := gfold (ps.getD i 0) (ps.take i) (digL ps rs i) (rs.getD i 0)
theorem digL_len (ps rs : List Nat) : ∀ i, (digL ps rs i).length = i
  | 0 => rfl
  | i + 1 => by simp [digL, digL_len ps rs i]
theorem digL_map (ps rs : List Nat) : ∀ i, digL ps rs i = (List.range i).map (dgt ps rs)
  | 0 => rfl
  | i + 1 => by rw [List.range_succ, List.map_append, ← digL_map ps rs i]; rfl
theorem digL_get (ps rs : List Nat) {i k : Nat} (h : k < i) : (digL ps rs i)[k]? = some (dgt ps rs k) := by
  rw [digL_map, List.getElem?_map, List.getElem?_range h]; rfl
def mvL : List Nat → List Nat → Nat
  | p :: ps, d :: ds => d + p * mvL ps ds
  | _, _ => 0
theorem mvL_snoc (p d : Nat) : ∀ (ps ds : List Nat), ps.length = ds.length → mvL (ps ++ [p]) (ds ++ [d]) = mvL ps ds + prodL ps * d
  | [], [], _ => by simp [mvL, prodL]
  | [], _ :: _, h => by simp at h
  | _ :: _, [], h => by simp at h
  | q :: ps, e :: ds, h => by
    show e + q * mvL (ps ++ [p]) (ds ++ [d]) = e + q * mvL ps ds + q * prodL ps * d
    rw [mvL_snoc p d ps ds (by simpa using h), Nat.mul_add, Nat.mul_assoc]
    omega
/-- One digit is taken out of the residue. -/
theorem gst_cg {p q o d : Nat} (hp : 2 ≤ p) (hp2 : p < 4294967296) (hg : Nat.gcd p (q % p) = 1) : gst p q o d < p ∧ Cg p ((q : Int) * (gst p q o d : Nat)) ((d : Int) - o) := by
  obtain ⟨h1, h2, h3⟩ := invN_spec hp hp2 (Nat.mod_lt q (by omega)) hg
  refine ⟨Nat.mod_lt _ (by omega), ?_⟩
  have h4 : Cg p ((gst p q o d : Nat) : Int) (((d : Int) - o) * (invN (q % p) p : Nat)) := by
    refine Cg.modN.trans ?_
    rw [Int.natCast_mul]
    refine Cg.mul ?_ (Cg.refl _ _)
    refine Cg.modN.trans ?_
    have h5 : o % p < p := Nat.mod_lt _ (by omega)
    rw [show ((d + p - o % p : Nat) : Int) = ((d : Int) - ((o % p : Nat) : Int)) + p by omega]
    have h6 := ((Cg.refl p (d : Int)).sub (Cg.modN (m := p) (a := o))).add Cg.zero
    rwa [Int.add_zero] at h6
  have h5 : Cg p ((q : Int) * (invN (q % p) p : Nat)) 1 := ((Cg.modN (m := p) (a := q)).symm.mul (Cg.refl _ _)).trans h3
  have h6 := (Cg.refl p (q : Int)).mul h4
  refine h6.trans ?_
  rw [Int.mul_left_comm]
  have h7 := (Cg.refl p ((d : Int) - o)).mul h5
  rwa [Int.mul_one] at h7
theorem Sep.gcd_mod {ps : List Nat} (h : Sep ps) {i k p q : Nat} (hp : ps[i]? = some p) (hq : ps[k]? = some q) (hki : k < i) : Nat.gcd p (q % p) = 1 := by
  obtain ⟨h1, _, _, h4⟩ := h i p hp
  obtain ⟨k1, _, _, _⟩ := h k q hq
  have hne : p ≠ q := fun e => h4 (by rw [e]; exact List.mem_of_getElem? (by rw [List.getElem?_take, if_pos hki]; exact hq))
  have h5 := pr_cop h1 k1 hne
  rw [Nat.gcd_comm, ← Nat.gcd_rec]
  exact h5
/-- A row of residues. -/
def RowP (ps rs : List Nat) : Prop := rs.length = ps.length ∧ ∀ i p r : Nat, ps[i]? = some p → rs[i]? = some r → r < p
theorem getD_some {l : List Nat} {i x : Nat} (h : l[i]? = some x) : l.getD i 0 = x := by simp [List.getD, h]
/-- The residue under way at prime i, behind k digits. -/
theorem garner_in {ps rs : List Nat} (hs : Sep ps) (hr : RowP ps rs) {i p r : Nat} (hp : ps[i]? = some p) (hri : rs[i]? = some r) :
    ∀ k, k ≤ i → gfold p (ps.take k) (digL ps rs k) r < p ∧ Cg p (((mvL (ps.take k) (digL ps rs k) : Nat) : Int) + (prodL (ps.take k) : Nat) * (gfold p (ps.take k) (digL ps rs k) r : Nat)) (r : Int) := by
  have hil : i < ps.length := (List.getElem?_eq_some_iff.1 hp).1
  obtain ⟨p1, _, p3, _⟩ := hs i p hp
  intro k
  induction k with
  | zero =>
    intro _
    refine ⟨hr.2 i p r hp hri, ?_⟩
    simp [digL, gfold_nil, mvL, prodL]
    exact Cg.refl _ _
  | succ k ih =>
    intro hk
    obtain ⟨h1, h2⟩ := ih (by omega)
    have hq : ps[k]? = some ps[k] := List.getElem?_eq_getElem (by omega)
    have hlen : (ps.take k).length = (digL ps rs k).length := by rw [digL_len, List.length_take]; omega
    obtain ⟨g1, g2⟩ := gst_cg (o := dgt ps rs k) (d := gfold p (ps.take k) (digL ps rs k) r) p1.1 (by omega) (hs.gcd_mod hp hq (by omega))
    have e1 : digL ps rs (k + 1) = digL ps rs k ++ [dgt ps rs k] := rfl
    rw [take_succ' hq, e1, gfold_snoc p _ _ _ _ _ hlen, mvL_snoc _ _ _ _ hlen, prodL_snoc]
    refine ⟨g1, ?_⟩
    refine Cg.trans ?_ h2
    rw [Int.natCast_add, Int.natCast_mul, Int.natCast_mul, Int.mul_assoc]
    have h3 := (Cg.refl p ((prodL (ps.take k) : Nat) : Int)).mul g2
    rw [Int.mul_sub] at h3
    have h4 := (Cg.refl p (((mvL (ps.take k) (digL ps rs k) : Nat) : Int) + (prodL (ps.take k) : Nat) * (dgt ps rs k : Nat))).add h3
    rwa [show ((mvL (ps.take k) (digL ps rs k) : Nat) : Int) + (prodL (ps.take k) : Nat) * (dgt ps rs k : Nat) + (((prodL (ps.take k) : Nat) : Int) * (gfold p (ps.take k) (digL ps rs k) r : Nat) - (prodL (ps.take k) : Nat) * (dgt ps rs k : Nat)) = ((mvL (ps.take k) (digL ps rs k) : Nat) : Int) + (prodL (ps.take k) : Nat) * (gfold p (ps.take k) (digL ps rs k) r : Nat) by omega] at h4
theorem dgt_eq {ps rs : List Nat} {i p r : Nat} (hp : ps[i]? = some p) (hri : rs[i]? = some r) : dgt ps rs i = gfold p (ps.take i) (digL ps rs i) r := by
  unfold dgt; rw [getD_some hp, getD_some hri]
/-- The digits' number has the residues. -/
theorem garner {ps rs : List Nat} (hs : Sep ps) (hr : RowP ps rs) : ∀ i, i ≤ ps.length → IsCrt (ps.take i) (rs.take i) (mvL (ps.take i) (digL ps rs i)) := by
  intro i
  induction i with
  | zero => intro _; exact ⟨by simp [mvL, prodL], fun k q s hq => by simp at hq⟩
  | succ i ih =>
    intro hi
    have hp : ps[i]? = some ps[i] := List.getElem?_eq_getElem (by omega)
    have hrl : i < rs.length := by rw [hr.1]; omega
    have hri : rs[i]? = some rs[i] := List.getElem?_eq_getElem hrl
    obtain ⟨g1, g2⟩ := garner_in hs hr hp hri i (Nat.le_refl _)
    have hlen : (ps.take i).length = (digL ps rs i).length := by rw [digL_len, List.length_take]; omega
    have e1 : digL ps rs (i + 1) = digL ps rs i ++ [dgt ps rs i] := rfl
    have h2 := (ih (by omega)).step hs hp hri (d := dgt ps rs i) (by rw [dgt_eq hp hri]; exact g1) (by rw [Int.natCast_add, Int.natCast_mul, dgt_eq hp hri]; exact g2)
    rwa [take_succ' hp, e1, mvL_snoc _ _ _ _ hlen, ← take_succ' hp]
theorem garner_all {ps rs : List Nat} (hs : Sep ps) (hr : RowP ps rs) : IsCrt ps rs (mvL ps (digL ps rs ps.length)) := by
  have := garner hs hr ps.length (Nat.le_refl _)
  rwa [List.take_length, show rs.take ps.length = rs by rw [← hr.1, List.take_length]] at this
theorem dgt_lt {ps rs : List Nat} (hs : Sep ps) (hr : RowP ps rs) {i p : Nat} (hp : ps[i]? = some p) : dgt ps rs i < p := by
  have hil : i < ps.length := (List.getElem?_eq_some_iff.1 hp).1
  have hrl : i < rs.length := by rw [hr.1]; omega
  have hri : rs[i]? = some rs[i] := List.getElem?_eq_getElem hrl
  rw [dgt_eq hp hri]
  exact (garner_in hs hr hp hri i (Nat.le_refl _)).1
/-- The number from the end of the digits on. -/
theorem mvL_drop {ps ds : List Nat} {k p d : Nat} (hp : ps[k]? = some p) (hd : ds[k]? = some d) : mvL (ps.drop k) (ds.drop k) = d + p * mvL (ps.drop (k + 1)) (ds.drop (k + 1)) := by
  obtain ⟨h1, h2⟩ := List.getElem?_eq_some_iff.1 hp
  obtain ⟨h3, h4⟩ := List.getElem?_eq_some_iff.1 hd
  rw [List.drop_eq_getElem_cons h1, List.drop_eq_getElem_cons h3, h2, h4]
  rfl
theorem mvL_lt : ∀ (ps ds : List Nat), (∀ p ∈ ps, 0 < p) → (∀ i p d : Nat, ps[i]? = some p → ds[i]? = some d → d < p) → mvL ps ds < prodL ps
  | [], ds, _, _ => by cases ds <;> simp [mvL, prodL]
  | p :: ps, [], h, _ => by
    show 0 < prodL (p :: ps)
    exact prodL_pos h
  | p :: ps, d :: ds, h, hd => by
    show d + p * mvL ps ds < p * prodL ps
    have h1 := mvL_lt ps ds (fun q hq => h q (by simp [hq])) (fun i q e hq he => hd (i + 1) q e (by simpa using hq) (by simpa using he))
    have h2 := hd 0 p d rfl rfl
    have h3 : p * (mvL ps ds + 1) ≤ p * prodL ps := Nat.mul_le_mul_left _ h1
    rw [Nat.mul_add, Nat.mul_one] at h3
    omega
/-- The reference's step. -/
theorem ref_step {ps rs : List Nat} (hs : Sep ps) (hr : RowP ps rs) {i p r x : Nat} (hp : ps[i]? = some p) (hri : rs[i]? = some r) (hx : IsCrt (ps.take i) (rs.take i) x) :
    Nat.gcd p (prodL (ps.take i) % p) = 1 ∧ IsCrt (ps.take (i + 1)) (rs.take (i + 1)) (x + prodL (ps.take i) * ((r + p - x % p) % p * invN (prodL (ps.take i) % p) p % p)) := by
  obtain ⟨p1, _, p3, p4⟩ := hs i p hp
  have hg : Nat.gcd p (prodL (ps.take i) % p) = 1 := by
    have h5 := cop_prodL p1 (fun q hq => (hs.mem (List.mem_of_mem_take hq)).1) p4
    rw [Nat.gcd_comm, ← Nat.gcd_rec]
    exact h5
  refine ⟨hg, ?_⟩
  obtain ⟨g1, g2⟩ := gst_cg (o := x) (d := r) p1.1 (show p < 4294967296 by omega) hg
  refine hx.step hs hp hri g1 ?_
  rw [Int.natCast_add, Int.natCast_mul]
  have h3 := (Cg.refl p (x : Int)).add g2
  rwa [show (x : Int) + ((r : Int) - x) = r by omega] at h3
end Go.Proofs.Ytnjblppapmflhaa

/- Wide integers: helpers and walks, in one text (KD1 KD2 KD3 KD4). -/
/- Walks: a system of the program's; whether residues are a row; residues of an integer. -/
namespace Go.Proofs.Ytnjblppapmflhaa
set_option linter.all false
open Go.RowKit Go.Shelf Go.WideNum PN
/-- The inverses of the earlier primes modulo prime i. -/
def invRow (ps : List Nat) (i : Nat) : List Nat := (ps.take i).map fun q => invN (q % ps.getD i 0) (ps.getD i 0)
def invRows (ps : List Nat) : List (List Nat) := (List.range ps.length).map (invRow ps)
/-- A system that New has made. -/
def SysAt (w : World) (b : Nat) (ps : List Nat) : Prop := ∃ lv iv, w.heap[b]? = some (.cells #[lv, .bool (zN (prodL ps)), .string (zT (prodL ps)), iv, .bool true] 70) ∧ w.reads w.heap.size lv (ps.map u32V) ∧ w.rows u32V w.heap.size iv (invRows ps)
theorem SysAt.below {w w' : World} {b : Nat} {ps : List Nat} (h : SysAt w b ps) (hb : Below w.heap.size w w') : SysAt w' b ps := by
  obtain ⟨lv, iv, h1, h2, h3⟩ := h
  exact ⟨lv, iv, (hb.block _ (lt_of_heap h1)).trans h1, (h2.below hb).mono hb.size, (h3.below hb).mono hb.size⟩
theorem SysAt.drewN {w : World} {b : Nat} {ps : List Nat} (h : SysAt w b ps) (n : Nat) : SysAt (w.drewN n) b ps := h
theorem SysAt.drew {w : World} {b : Nat} {ps : List Nat} (h : SysAt w b ps) : SysAt w.drew b ps := h
theorem SysAt.alloc {w : World} {b : Nat} {ps : List Nat} (h : SysAt w b ps) (o : Obj) : SysAt (w.alloc o) b ps := h.below ((Below.refl _ _).alloc (Nat.le_refl _) _)
theorem five_sys {w : World} {b : Nat} {v0 v1 v2 v3 v4 : Value} {T : TypeId} (h : w.heap[b]? = some (.cells #[v0, v1, v2, v3, v4] T)) :
    w.cell? ⟨b, 0, none⟩ = some v0 ∧ w.cell? ⟨b, 1, none⟩ = some v1 ∧ w.cell? ⟨b, 2, none⟩ = some v2 ∧ w.cell? ⟨b, 3, none⟩ = some v3 ∧ w.cell? ⟨b, 4, none⟩ = some v4 ∧
    w.frozen? ⟨b, 0, none⟩ = false ∧ w.frozen? ⟨b, 1, none⟩ = false ∧ w.frozen? ⟨b, 2, none⟩ = false ∧ w.frozen? ⟨b, 3, none⟩ = false :=
  ⟨by rw [cell_of_row w b 0 _ _ (0, 0) h]; rfl, by rw [cell_of_row w b 1 _ _ (0, 0) h]; rfl, by rw [cell_of_row w b 2 _ _ (0, 0) h]; rfl, by rw [cell_of_row w b 3 _ _ (0, 0) h]; rfl, by rw [cell_of_row w b 4 _ _ (0, 0) h]; rfl,
   by simp [World.frozen?, h], by simp [World.frozen?, h], by simp [World.frozen?, h], by simp [World.frozen?, h]⟩
theorem none_sys (b : Nat) (ps : List Nat) (w : World) (h : SysAt w b ps) : Calls Try.prog 38 #[.pointer (some ⟨b, 0, none⟩)] w fun e w' => e = .returned (.bool false) ∧ w = w' := by
  obtain ⟨lv, iv, h1, -, -⟩ := h
  obtain ⟨-, -, -, -, c4, -⟩ := five_sys h1
  clear h1
  go_enter Try.func38, Try.ntmps38
  go_wp2
  go_ret
  exact ⟨rfl, rfl⟩
theorem rowP_to {ps rs : List Nat} (h : ∀ j, j < ps.length → ∀ p r : Nat, ps[j]? = some p → rs[j]? = some r → r < p) (hl : rs.length = ps.length) : RowP ps rs :=
  ⟨hl, fun i p r hp hr => h i (List.getElem?_eq_some_iff.1 hp).1 p r hp hr⟩
set_option maxHeartbeats 4000000 in
theorem row_any (b : Nat) (ps rs : List Nat) (rv : Value) (w : World) (hs : SysAt w b ps) (hr : w.reads w.heap.size rv (rs.map u32V)) (ok : Bool) (hok : ok = true ↔ RowP ps rs) :
    Calls Try.prog 39 #[.pointer (some ⟨b, 0, none⟩), rv] w fun e w' => e = .returned (.bool ok) ∧ w = w' := by
  obtain ⟨lv, iv, h1, h2, -⟩ := hs
  obtain ⟨c0, -⟩ := five_sys h1
  have hl1 := hr.le_map
  have hl2 := h2.le_map
  obtain ⟨ra, rc, rfl, hrc, hrm, hrs⟩ := reads_u32 hr
  obtain ⟨pa, pc, rfl, hpc, hpm, hps⟩ := reads_u32 h2
  have HOK := Lib.hid hok
  have HR := Lib.hid hrs
  have HS := Lib.hid hps
  clear h1 h2 hr hrs hps hok
  by_cases hlen : rs.length = ps.length
  · have HLEN := Lib.hid hlen
    obtain ⟨n, hn⟩ : ∃ n, n = ps.length := ⟨_, rfl⟩
    rw [hlen, ← hn] at hl1 hrc ⊢
    rw [← hn] at hpc hl2 c0
    have HN := Lib.hid hn
    clear hlen hn
    have t0 : ((n : Int) != (n : Int)) = false := by simp
    go_enter Try.func39, Try.ntmps39
    go_wp2_with fail
    go_loop [17] (fun iv => ∃ k : Nat, k ≤ n ∧ iv = .int .i64 (k : Int) ∧ Hid (∀ j, j < k → ∀ p r : Nat, ps[j]? = some p → rs[j]? = some r → r < p)) (fun iv => n - (intOf iv).toNat)
    case atStart => exact ⟨0, Nat.zero_le _, rfl, fun j hj => by omega⟩
    case round =>
      obtain ⟨k, hk, rfl, hall⟩ := hrel
      by_cases hlt : k < n
      · have hkp : k < ps.length := by rw [← HN.out]; exact hlt
        have hkr : k < rs.length := by rw [HLEN.out]; exact hkp
        obtain ⟨p, hp⟩ : ∃ p, ps[k]? = some p := ⟨ps[k], List.getElem?_eq_getElem hkp⟩
        obtain ⟨r, hr⟩ : ∃ r, rs[k]? = some r := ⟨rs[k], List.getElem?_eq_getElem hkr⟩
        obtain ⟨b1, o1, rfl, _, d1⟩ := HR.out k r hr
        obtain ⟨b2, o2, rfl, _, d2⟩ := HS.out k p hp
        have HP := Lib.hid hp
        have HRR := Lib.hid hr
        clear hp hr hkp hkr
        by_cases hrp : r < p
        · have hnge : ¬ (p : Int) ≤ (r : Int) := by omega
          have HALL : Hid (∀ j, j < k + 1 → ∀ p r : Nat, ps[j]? = some p → rs[j]? = some r → r < p) := fun j hj p' r' hp' hr' => by
            rcases (show j < k ∨ j = k by omega) with h | rfl
            · exact hall.out j h p' r' hp' hr'
            · rw [HP.out] at hp'; rw [HRR.out] at hr'
              injection hp' with hp'; injection hr' with hr'
              omega
          clear hall
          go_wp2_with fail
          go_round
          case rel => exact ⟨k + 1, by omega, by go_num, HALL.out⟩
          case measure => simp [intOf]; omega
        · have hge : (p : Int) ≤ (r : Int) := by omega
          obtain rfl : ok = false := by
            cases h : ok
            · rfl
            · exact absurd ((HOK.out.1 h).2 k p r HP.out HRR.out) hrp
          clear hall
          go_wp2
          go_ret
          exact ⟨rfl, rfl⟩
      · obtain rfl : ok = true := HOK.out.2 (rowP_to (fun j hj => hall.out j (by have := HN.out; omega)) HLEN.out)
        clear hall
        go_wp2
        go_ret
        exact ⟨rfl, rfl⟩
  · obtain rfl : ok = false := by
      cases h : ok
      · rfl
      · exact absurd (HOK.out.1 h).1 hlen
    have t0 : ((rs.length : Int) != (ps.length : Int)) = true := by rw [bne_iff_ne]; omega
    go_enter Try.func39, Try.ntmps39
    go_wp2
    go_ret
    exact ⟨rfl, rfl⟩
/-- The residues of an integer. -/
def resL (ps : List Nat) (x : Int) : List Nat := ps.map fun p : Nat => (x % (p : Int)).toNat
/-- A row that was made since w. -/
def RowRet (w : World) (rs : List Nat) (e : Ending) (w' : World) : Prop := ∃ v, e = .returned v ∧ w'.owns w.heap.size 23 1 v rs.length (rs.map u32V) ∧ Below w.heap.size w w'
theorem rowF_owns {W : World} {base g n : Nat} {f : Nat → Nat} (hg : W.heap[g]? = some (.cells (rowF f n) 23)) (hb : base ≤ g) (hn : n ≤ 100000) : W.owns base 23 1 (.slice (some ⟨g, 0, none⟩) n n) n (((List.range n).map f).map u32V) := by
  refine ⟨by simp, .inr ⟨g, n, _, (0, 0), rfl, hb, hg, okFz_zero _, Nat.le_refl _, by unfold maxLen; omega, by simp [rowF], ?_⟩⟩
  simp only [rowF, Nat.mul_one]
  exact List.take_of_length_le (by simp)
theorem resL_range (ps : List Nat) (x : Int) : (List.range ps.length).map (fun i => (x % ((ps.getD i 0 : Nat) : Int)).toNat) = resL ps x := by
  unfold resL
  apply List.ext_getElem?
  intro i
  rcases Nat.lt_or_ge i ps.length with h | h
  · simp [h, List.getD]
  · rw [List.getElem?_eq_none (by simpa using h), List.getElem?_eq_none (by simpa using h)]
theorem make_words (n : Nat) (hn : n ≤ 100000) (W : World) : (Instr.makeSlice 22 (.int .i64 (n : Int)) (.int .i64 (n : Int))).run Try.prog W = .ok (.slice (some ⟨W.heap.size, 0, none⟩) n n) (W.alloc (.cells (zrow n) 23)) := make_u322 n n (Nat.le_refl _) hn W
set_option maxHeartbeats 4000000 in
theorem split_any (b : Nat) (ps : List Nat) (x : Int) (w : World) (hs : SysAt w b ps) (hsep : Sep ps) (hlen : ps.length ≤ 25) (hx : InR x) :
    Calls Try.prog 53 #[.pointer (some ⟨b, 0, none⟩), .agg #[.bool (zN x), .string (zT x)]] w (RowRet w (resL ps x)) := by
  obtain ⟨HPOST, hpost⟩ : ∃ R, R = RowRet w (resL ps x) := ⟨_, rfl⟩
  rw [← hpost]
  have HP := Lib.hid hpost
  clear hpost
  have hbw : b < w.heap.size := by obtain ⟨lv, iv, h1, _⟩ := hs; exact lt_of_heap h1
  obtain ⟨lv, iv, h1, h2, -⟩ := hs
  obtain ⟨c0, -⟩ := five_sys h1
  have hl2 := h2.le_map
  obtain ⟨pa, pc, rfl, hpc, hpm, hps⟩ := reads_u32 h2
  have HS := Lib.hid hps
  have HMOD : Hid (∀ (p r : Nat) (W : World), 0 < p → p < 4294967296 → x % (p : Int) = (r : Int) → Calls Try.prog 79 #[.agg #[.bool (zN x), .string (zT x)], .int .u32 (p : Int)] W fun e w' => e = .returned (.tuple #[.int .u32 (r : Int), .int .i64 0]) ∧ Below W.heap.size W w') := fun p r W h0 h1 h2 => Mod_z x p r hx h0 h1 h2 W
  have HSEP := Lib.hid hsep
  obtain ⟨xb, hxb⟩ : ∃ z, z = zN x := ⟨_, rfl⟩
  obtain ⟨xt, hxt⟩ : ∃ z, z = zT x := ⟨_, rfl⟩
  rw [← hxb, ← hxt] at HMOD ⊢
  obtain ⟨n, hn⟩ : ∃ n, n = ps.length := ⟨_, rfl⟩
  rw [← hn] at hpc hl2 c0 hlen
  have HN := Lib.hid hn
  have hmk := make_words n (by omega)
  have HC0 := Lib.hid c0
  clear h1 h2 hps hn hxb hxt hsep
  go_enter Try.func53, Try.ntmps53
  go_wp2_with fail
  have hc0' : ((w.alloc (.cells #[.bool xb, .string xt] 38)).alloc (.cells (zrow n) 23)).heap[w.heap.size]? = some (.cells #[.bool xb, .string xt] 38) := by rw [Below.heap_alloc _ _ _ (by simp)]; exact heap_alloc_new w _
  have hg0 : ((w.alloc (.cells #[.bool xb, .string xt] 38)).alloc (.cells (zrow n) 23)).heap[w.heap.size + 1]? = some (.cells (zrow n) 23) := alloc_last _ _ (by simp)
  have hb0 : Below w.heap.size w ((w.alloc (.cells #[.bool xb, .string xt] 38)).alloc (.cells (zrow n) 23)) := ((Below.refl _ _).alloc (Nat.le_refl _) _).alloc (by simp) _
  go_loopw [19] (fun iv wr => ∃ k : Nat, k ≤ n ∧ iv = .int .i64 (k : Int) ∧ Hid (wr.heap[w.heap.size]? = some (.cells #[.bool xb, .string xt] 38)) ∧ Hid (wr.heap[w.heap.size + 1]? = some (.cells (rowF (fun i => if i < k then (x % ((ps.getD i 0 : Nat) : Int)).toNat else 0) n) 23)) ∧ Hid (Below w.heap.size w wr)) (fun iv _ => n - (intOf iv).toNat)
  case atStart => exact ⟨0, Nat.zero_le _, rfl, hc0', by show _ = _; rw [hg0, rowF_congr (f' := fun _ => 0) (fun j _ => if_neg (by omega)), rowF_zero], hb0⟩
  case round =>
    obtain ⟨k, hk, rfl, hx0, hg, hb⟩ := hrel
    clear hc0' hg0 hb0
    by_cases hlt : k < n
    · have hkp : k < ps.length := by rw [← HN.out]; exact hlt
      obtain ⟨p, hp⟩ : ∃ p, ps[k]? = some p := ⟨ps[k], List.getElem?_eq_getElem hkp⟩
      obtain ⟨b2, o2, rfl, hb2l, d2⟩ := HS.out k p hp
      obtain ⟨p1, p2, p3, p4⟩ := HSEP.out k p hp
      have hp0 : 0 < p := by have := p1.1; omega
      have hpb : p < 4294967296 := by omega
      have d2' := (hb.out.cell (p := ⟨b2, o2 + k, none⟩) hb2l).trans d2
      obtain ⟨r, hr⟩ : ∃ r : Nat, r = (x % (p : Int)).toNat := ⟨_, rfl⟩
      have hr0 := Int.emod_nonneg x (show (p : Int) ≠ 0 by omega)
      have hr1 := Int.emod_lt_of_pos x (show (0 : Int) < p by omega)
      have hxr : x % (p : Int) = (r : Int) := by omega
      have hrp : r < p := by omega
      have HM := Lib.hid (fun W => HMOD.out p r W hp0 hpb hxr)
      obtain ⟨x0, x1, -⟩ := wide_cells hx0.out
      have HGET : Hid (r = (x % ((ps.getD k 0 : Nat) : Int)).toNat) := by show _ = _; rw [hr, getD_some hp]
      clear p1 p2 p3 p4 hr hr0 hr1 hxr d2 hp hkp
      go_wp2_with fail
      (with_reducible refine (HM.out _).mono ?_)
      rintro e w1 ⟨rfl, hb1⟩
      have hg1 := (hb1.block _ (lt_of_heap hg.out)).trans hg.out
      have hx1 := (hb1.block _ (lt_of_heap hx0.out)).trans hx0.out
      obtain ⟨gc, gf⟩ := rowF_cell hg1 k hlt
      have HG1 := Lib.hid hg1
      have HX1 := Lib.hid hx1
      have HB1 := Lib.hid (hb.out.trans (hb1.mono hb.out.size))
      clear hg1 hx1 hb1 x0 x1 d2'
      go_wp2_with fail
      go_roundw
      case rel =>
        refine ⟨k + 1, by omega, by go_num, ?_, ?_, HB1.out.setCell (by simp) _⟩
        · show _ = _
          rw [Below.heap_setCell _ _ _ _ (by simp)]; exact HX1.out
        · show _ = _
          have h5 := rowF_set (k := k) (f' := fun i => if i < k + 1 then (x % ((ps.getD i 0 : Nat) : Int)).toNat else 0) HG1.out (fun j hj hne => by
            by_cases h : j < k
            · rw [if_pos h, if_pos (by omega)]
            · rw [if_neg h, if_neg (by omega)])
          rw [show (if k < k + 1 then (x % ((ps.getD k 0 : Nat) : Int)).toNat else 0) = r by rw [if_pos (by omega)]; exact HGET.out.symm] at h5
          exact h5
      case measure => simp [intOf]; omega
    · obtain rfl : k = n := by omega
      have hg2 := hg.out
      rw [rowF_congr (f' := fun i => (x % ((ps.getD i 0 : Nat) : Int)).toNat) (fun j hj => if_pos hj)] at hg2
      have HO := Lib.hid (rowF_owns (base := w.heap.size) hg2 (by omega) (by omega))
      clear hg2 hg hx0
      go_wp2
      rw [HP.out]
      refine ⟨_, rfl, ?_, hb.out⟩
      have h6 := HO.out
      rw [HN.out, resL_range] at h6
      rw [show (resL ps x).length = ps.length by simp [resL]]
      rwa [HN.out]
end Go.Proofs.Ytnjblppapmflhaa

/- Walks: digits of mixed radix. -/
namespace Go.Proofs.Ytnjblppapmflhaa
set_option linter.all false
open Go.RowKit Go.Shelf Go.WideNum PN
theorem one_cell {W : World} {b : Nat} {v : Value} {T : TypeId} (h : W.heap[b]? = some (.cells #[v] T)) : W.cell? ⟨b, 0, none⟩ = some v ∧ W.frozen? ⟨b, 0, none⟩ = false :=
  ⟨by rw [cell_of_row W b 0 _ _ (0, 0) h]; rfl, by simp [World.frozen?, h]⟩
theorem one_set {W : World} {b : Nat} {v u : Value} {T : TypeId} (h : W.heap[b]? = some (.cells #[v] T)) : (W.setCell ⟨b, 0, none⟩ u).heap[b]? = some (.cells #[u] T) := by
  simp [World.setCell, Array.getElem?_modify, h]
theorem set_other {W : World} {b k o : Nat} {u : Value} {X : Option Obj} (h : W.heap[k]? = X) (hne : k ≠ b) : (W.setCell ⟨b, o, none⟩ u).heap[k]? = X := by
  rw [Below.heap_setCell _ _ _ _ (by simpa using hne)]; exact h
set_option maxHeartbeats 4000000 in
theorem step1_any (pd pmm po pss pi g n b k i d m o iv B : Nat) (ra : Option Addr) (rc il ic : Nat) (ib io rb ro : Nat) (rl : Nat) (w : World)
    (cd : w.cell? ⟨pd, 0, none⟩ = some (.int .u64 (d : Int))) (fd : w.frozen? ⟨pd, 0, none⟩ = false) (cm : w.cell? ⟨pmm, 0, none⟩ = some (.int .u64 (m : Int)))
    (co : w.cell? ⟨po, 0, none⟩ = some (.slice (some ⟨g, 0, none⟩) n n)) (cs : w.cell? ⟨pss, 0, none⟩ = some (.pointer (some ⟨b, 0, none⟩))) (ci : w.cell? ⟨pi, 0, none⟩ = some (.int .i64 (i : Int)))
    (ck : w.cell? ⟨g, k, none⟩ = some (.int .u32 (o : Int))) (cv : w.cell? ⟨b, 3, none⟩ = some (.slice (some ⟨ib, io, none⟩) il ic))
    (cr : w.cell? ⟨ib, io + i, none⟩ = some (.slice (some ⟨rb, ro, none⟩) rl rc)) (cx : w.cell? ⟨rb, ro + k, none⟩ = some (.int .u32 (iv : Int)))
    (hk : k < n) (hn : n ≤ 100) (hi : i < il) (hic : il ≤ ic) (hil : il ≤ 100) (hkr : k < rl) (hrl : rl ≤ 100) (hrc : rl ≤ rc) (hd : d < m) (hm0 : 2 ≤ m) (hm : m ≤ 2147483647) (ho : o < 4294967296) (hiv : iv < m) (z : Nat) (hz : z = (d + m - o % m) % m * iv % m) :
    Calls Try.prog 94 #[.int .i64 (k : Int), .pointer (some ⟨pd, 0, none⟩), .pointer (some ⟨pmm, 0, none⟩), .pointer (some ⟨po, 0, none⟩), .pointer (some ⟨pss, 0, none⟩), .pointer (some ⟨pi, 0, none⟩)] w
      fun e w' => (∃ v, e = .returned v) ∧ ∃ nq, w' = (w.setCell ⟨pd, 0, none⟩ (.int .u64 (z : Int))).drewN nq := by
  have h0 : ((m : Int) == 0) = false := by rw [beq_eq_false_iff_ne]; omega
  have h0' : ¬ m = 0 := by omega
  have e0 : (d : Int) + (m : Int) = ((d + m : Nat) : Int) := by omega
  obtain ⟨dm, edm⟩ : ∃ y, y = d + m := ⟨_, rfl⟩
  obtain ⟨om, eom⟩ : ∃ y, y = o % m := ⟨_, rfl⟩
  obtain ⟨df, edf⟩ : ∃ y, y = dm - om := ⟨_, rfl⟩
  obtain ⟨dr, edr⟩ : ∃ y, y = df % m := ⟨_, rfl⟩
  obtain ⟨pr, epr⟩ : ∃ y, y = dr * iv := ⟨_, rfl⟩
  have hom : om < m := by rw [eom]; exact Nat.mod_lt _ (by omega)
  have hdr : dr < m := by rw [edr]; exact Nat.mod_lt _ (by omega)
  have hpr : pr < 2147483647 * 2147483647 := by rw [epr]; exact Nat.mul_lt_mul'' (by omega) (by omega)
  have hz2 : z = pr % m := by rw [hz, epr, edr, edf, eom, edm]
  have f1 : IntKind.u64.wrap ((d : Int) + (m : Int)) = (dm : Int) := by rw [IntKind.wrap_u64]; omega
  have f2 : IntKind.u64.wrap (o : Int) = (o : Int) := by rw [IntKind.wrap_u64]; omega
  have f3 : (o : Int).tmod (m : Int) = (om : Int) := by rw [Int.tmod_eq_emod_of_nonneg (by omega), eom, Int.natCast_emod]
  have f4 : IntKind.u64.wrap ((dm : Int) - (om : Int)) = (df : Int) := by rw [IntKind.wrap_u64]; omega
  have f5 : (df : Int).tmod (m : Int) = (dr : Int) := by rw [Int.tmod_eq_emod_of_nonneg (by omega), edr, Int.natCast_emod]
  have f6 : IntKind.u64.wrap (iv : Int) = (iv : Int) := by rw [IntKind.wrap_u64]; omega
  have f7 : IntKind.u64.wrap ((dr : Int) * (iv : Int)) = (pr : Int) := by
    rw [show ((dr : Int) * (iv : Int)) = (pr : Int) by rw [epr]; simp, IntKind.wrap_u64]; omega
  have f8 : (pr : Int).tmod (m : Int) = (z : Int) := by rw [Int.tmod_eq_emod_of_nonneg (by omega), hz2, Int.natCast_emod]
  have g1 : (k : Int) < (n : Int) := by omega
  have g2 : (i : Int) < (il : Int) := by omega
  have g3 : (k : Int) < (rl : Int) := by omega
  have g4 : (0 : Int) ≤ (k : Int) := by omega
  have g5 : (0 : Int) ≤ (i : Int) := by omega
  clear hz hz2 epr edr edf eom edm e0
  go_enter Try.func94, Try.ntmps94
  go_wp2_with fail
  with_reducible first | refine wp_region_quiet_tail_at 27 (by kernel_rfl) (by kernel_rfl) ?_ | refine wp_region_quiet_tail_lit 27 (by kernel_rfl) (by kernel_rfl) ?_
  simp only [List.take_succ_cons, List.take_zero, List.drop_succ_cons, List.drop_zero]
  repeat (go_big_quiet_step (fail))
  refine wpQuiet_nil ?_
  rintro _ ⟨nq, rfl⟩
  have cd2 : (w.drewN nq).cell? ⟨pd, 0, none⟩ = some (.int .u64 (d : Int)) := cd
  have fd2 : (w.drewN nq).frozen? ⟨pd, 0, none⟩ = false := fd
  go_wp2
  go_end0
  exact ⟨⟨_, rfl⟩, nq, rfl⟩
def dgrow (ps rs : List Nat) (n k : Nat) : Array Value := rowF (fun i => if i < k then dgt ps rs i else 0) n
theorem dgrow_zero (ps rs : List Nat) (n : Nat) : dgrow ps rs n 0 = zrow n := by unfold dgrow; rw [rowF_congr (f' := fun _ => 0) (fun j _ => if_neg (by omega)), rowF_zero]
/-- The first k digits are laid. -/
structure DgSt (w wr : World) (b n : Nat) (ps rs : List Nat) (k : Nat) : Prop where
  h0 : wr.heap[w.heap.size]? = some (.cells #[.pointer (some ⟨b, 0, none⟩)] 99)
  h1 : wr.heap[w.heap.size + 1]? = some (.cells (dgrow ps rs n k) 23)
  h2 : wr.heap[w.heap.size + 2]? = some (.cells #[.slice (some ⟨w.heap.size + 1, 0, none⟩) n n] 22)
  bel : Below w.heap.size w wr
theorem DgSt.below {w wr w' : World} {b n k : Nat} {ps rs : List Nat} (h : DgSt w wr b n ps rs k) (hs : w.heap.size + 3 ≤ wr.heap.size) (hb : Below wr.heap.size wr w') : DgSt w w' b n ps rs k :=
  ⟨(hb.block _ (by omega)).trans h.h0, (hb.block _ (by omega)).trans h.h1, (hb.block _ (by omega)).trans h.h2, h.bel.trans (hb.mono h.bel.size)⟩
theorem DgSt.size {w wr : World} {b n k : Nat} {ps rs : List Nat} (h : DgSt w wr b n ps rs k) : w.heap.size + 3 ≤ wr.heap.size := by
  have := lt_of_heap h.h2; omega
theorem DgSt.set {w wr : World} {b n k : Nat} {ps rs : List Nat} (h : DgSt w wr b n ps rs k) {g o : Nat} (hg : w.heap.size + 3 ≤ g) (u : Value) : DgSt w (wr.setCell ⟨g, o, none⟩ u) b n ps rs k :=
  ⟨set_other h.h0 (by omega), set_other h.h1 (by omega), set_other h.h2 (by omega), h.bel.setCell (by simp; omega) _⟩
theorem DgSt.drewN {w wr : World} {b n k : Nat} {ps rs : List Nat} (h : DgSt w wr b n ps rs k) (m : Nat) : DgSt w (wr.drewN m) b n ps rs k := ⟨h.h0, h.h1, h.h2, below_drewN h.bel m⟩
theorem invRows_get {ps : List Nat} {i p : Nat} (hp : ps[i]? = some p) : (invRows ps)[i]? = some ((ps.take i).map fun q => invN (q % p) p) := by
  have hil : i < ps.length := (List.getElem?_eq_some_iff.1 hp).1
  unfold invRows invRow
  rw [List.getElem?_map, List.getElem?_range hil]
  simp only [Option.map_some, getD_some hp]
theorem DgSt.push {w wr : World} {b n k : Nat} {ps rs : List Nat} (h : DgSt w wr b n ps rs k) : DgSt w (wr.setCell ⟨w.heap.size + 1, k, none⟩ (.int .u32 (dgt ps rs k : Int))) b n ps rs (k + 1) := by
  refine ⟨set_other h.h0 (by omega), ?_, set_other h.h2 (by omega), h.bel.setCell (by simp) _⟩
  have h5 := rowF_set (k := k) (f' := fun i => if i < k + 1 then dgt ps rs i else 0) h.h1 (fun j hj hne => by
    by_cases h : j < k
    · rw [if_pos h, if_pos (by omega)]
    · rw [if_neg h, if_neg (by omega)])
  rw [show (if k < k + 1 then dgt ps rs k else 0) = dgt ps rs k by rw [if_pos (by omega)]] at h5
  exact h5
/-- Within a round: the residue under way. -/
structure InSt (w wr : World) (b n : Nat) (ps rs : List Nat) (k q0 p r j : Nat) : Prop where
  dg : DgSt w wr b n ps rs k
  h0 : wr.heap[q0]? = some (.cells #[.int .i64 (k : Int)] 3)
  h1 : wr.heap[q0 + 1]? = some (.cells #[.int .u64 (p : Int)] 89)
  h2 : wr.heap[q0 + 2]? = some (.cells #[.int .u64 (gfold p (ps.take j) (digL ps rs j) r : Int)] 89)
theorem InSt.set {w wr : World} {b n : Nat} {ps rs : List Nat} {k q0 p r j : Nat} (h : InSt w wr b n ps rs k q0 p r j) (hq : w.heap.size + 3 ≤ q0) :
    InSt w (wr.setCell ⟨q0 + 2, 0, none⟩ (.int .u64 (gfold p (ps.take (j + 1)) (digL ps rs (j + 1)) r : Int))) b n ps rs k q0 p r (j + 1) :=
  ⟨h.dg.set (by omega) _, set_other h.h0 (by omega), set_other h.h1 (by omega), one_set h.h2⟩
theorem InSt.drewN {w wr : World} {b n : Nat} {ps rs : List Nat} {k q0 p r j : Nat} (h : InSt w wr b n ps rs k q0 p r j) (m : Nat) : InSt w (wr.drewN m) b n ps rs k q0 p r j := ⟨h.dg.drewN m, h.h0, h.h1, h.h2⟩
set_option maxHeartbeats 8000000 in
theorem digits_any (b : Nat) (ps rs : List Nat) (rv : Value) (w : World) (hs : SysAt w b ps) (hsep : Sep ps) (hlen : ps.length ≤ 25) (hr : w.reads w.heap.size rv (rs.map u32V)) (hrow : RowP ps rs) :
    Calls Try.prog 80 #[.pointer (some ⟨b, 0, none⟩), rv] w (RowRet w (digL ps rs ps.length)) := by
  obtain ⟨HPOST, hpost⟩ : ∃ R, R = RowRet w (digL ps rs ps.length) := ⟨_, rfl⟩
  rw [← hpost]
  have HP := Lib.hid hpost
  clear hpost
  obtain ⟨lv, iv, h1, h2, h3⟩ := hs
  have hbw := lt_of_heap h1
  obtain ⟨c0, -, -, c3, -⟩ := five_sys h1
  have hl2 := h2.le_map
  have hl1 := hr.le_map
  obtain ⟨pa, pc, rfl, hpc, hpm, hps⟩ := reads_u32 h2
  obtain ⟨ra, rc, rfl, hrc, hrm, hrs⟩ := reads_u32 hr
  obtain ⟨ia, ic, rfl, hic, him, hi3⟩ := h3.shape
  have HS := Lib.hid hps
  have HR := Lib.hid hrs
  have HI := Lib.hid hi3
  have HSEP := Lib.hid hsep
  have HROW := Lib.hid hrow
  have hlr := hrow.1
  have hli : (invRows ps).length = ps.length := by simp [invRows]
  obtain ⟨n, hn⟩ : ∃ n, n = ps.length := ⟨_, rfl⟩
  rw [hli, ← hn] at hic c3
  rw [hlr, ← hn] at hrc hl1 ⊢
  rw [← hn] at hpc hl2 c0 hlen
  have HN := Lib.hid hn
  have HLR := Lib.hid hlr
  have hmk := make_words n (by omega)
  have HC0 := Lib.hid c0
  have HC3 := Lib.hid c3
  clear h1 h2 h3 hr hps hrs hi3 hn hlr hli hsep hrow c3
  have HBW := Lib.hid hbw
  go_enter Try.func80, Try.ntmps80
  go_upto_region 2 with (fail)
  generalize hwa : ((w.alloc (.cells #[.pointer (some ⟨b, 0, none⟩)] 99)).alloc (.cells (zrow n) 23)).alloc (.cells #[.slice (some ⟨w.heap.size + 1, 0, none⟩) n n] 22) = wa
  have hst : DgSt w wa b n ps rs 0 := by
    refine ⟨?_, ?_, ?_, ?_⟩
    · rw [← hwa, Below.heap_alloc _ _ _ (by simp; omega), Below.heap_alloc _ _ _ (by simp)]; exact heap_alloc_new w _
    · rw [← hwa, Below.heap_alloc _ _ _ (by simp), dgrow_zero]; exact alloc_last _ _ (by simp)
    · rw [← hwa]; exact alloc_last _ _ (by simp)
    · rw [← hwa]; exact (((Below.refl _ _).alloc (Nat.le_refl _) _).alloc (by simp) _).alloc (by simp; omega) _
  have hsz : w.heap.size + 3 ≤ wa.heap.size := by rw [← hwa]; simp
  clear hwa c0
  have HST := Lib.hid hst
  have HSZ := Lib.hid hsz
  have c0 := (hst.bel.cell (p := ⟨b, 0, none⟩) hbw).trans HC0.out
  obtain ⟨s0, -⟩ := one_cell hst.h0
  clear hst hsz hbw
  go_wp2_with fail
  clear c0 s0
  go_loopw [20] (fun iv wr => ∃ k : Nat, k ≤ n ∧ iv = .int .i64 (k : Int) ∧ Hid (DgSt w wr b n ps rs k)) (fun iv _ => n - (intOf iv).toNat)
  case atStart => exact ⟨0, Nat.zero_le _, rfl, HST.out⟩
  case round =>
    obtain ⟨k, hk, rfl, hS⟩ := hrel
    obtain ⟨wo, rfl⟩ : ∃ x, x = wr := ⟨_, rfl⟩
    by_cases hlt : k < n
    · have hkp : k < ps.length := by rw [← HN.out]; exact hlt
      have hkr : k < rs.length := by rw [HLR.out]; exact hkp
      obtain ⟨p, hp⟩ : ∃ p, ps[k]? = some p := ⟨ps[k], List.getElem?_eq_getElem hkp⟩
      obtain ⟨r, hr⟩ : ∃ r, rs[k]? = some r := ⟨rs[k], List.getElem?_eq_getElem hkr⟩
      obtain ⟨b2, o2, rfl, hb2l, d2⟩ := HS.out k p hp
      obtain ⟨b1, o1, rfl, hb1l, d1⟩ := HR.out k r hr
      obtain ⟨ib, io, rb2, rc2, rfl, hibl, hic2, hrd⟩ := HI.out k _ (invRows_get hp)
      have e2 := (hS.out.bel.cell (p := ⟨b2, o2 + k, none⟩) hb2l).trans d2
      have e1 := (hS.out.bel.cell (p := ⟨b1, o1 + k, none⟩) hb1l).trans d1
      obtain ⟨p1, p2, p3, p4⟩ := HSEP.out k p hp
      have hp2 : 2 ≤ p := p1.1
      have hrp : r < p := HROW.out.2 k p r hp hr
      have hrow := garner_in HSEP.out HROW.out hp hr
      have hdk := dgt_eq hp hr
      have HRD := Lib.hid hrd
      have HIC2 := Lib.hid hic2
      have HGI := Lib.hid hrow
      have HDK := Lib.hid hdk
      have HP2 := Lib.hid hp
      have w1 : IntKind.u64.wrap (p : Int) = (p : Int) := by rw [IntKind.wrap_u64]; omega
      have w2 : IntKind.u64.wrap (r : Int) = (r : Int) := by rw [IntKind.wrap_u64]; omega
      have w3 : (k : Int) < (n : Int) := by omega
      have hsz := hS.out.size
      have lt1 : b1 < wo.heap.size := by omega
      have lt2 : b1 < wo.heap.size + 1 := by omega
      have lt3 : b1 < wo.heap.size + 1 + 1 := by omega
      have ne1 : ¬ b1 = wo.heap.size := by omega
      have ne2 : ¬ b1 = wo.heap.size + 1 := by omega
      clear d1 d2 hrd hic2 hrow hdk p4 hp hr hkp hkr p1 p2
      go_upto_region 8 with (fail)
      generalize hwb : ((wo.alloc (.cells #[.int .i64 (k : Int)] 3)).alloc (.cells #[.int .u64 (p : Int)] 89)).alloc (.cells #[.int .u64 (r : Int)] 89) = wb
      have hg0 : wb.heap[wo.heap.size]? = some (.cells #[.int .i64 (k : Int)] 3) := by rw [← hwb, Below.heap_alloc _ _ _ (by simp; omega), Below.heap_alloc _ _ _ (by simp)]; exact heap_alloc_new wo _
      have hg1 : wb.heap[wo.heap.size + 1]? = some (.cells #[.int .u64 (p : Int)] 89) := by rw [← hwb, Below.heap_alloc _ _ _ (by simp)]; exact alloc_last _ _ (by simp)
      have hg2 : wb.heap[wo.heap.size + 2]? = some (.cells #[.int .u64 (r : Int)] 89) := by rw [← hwb]; exact alloc_last _ _ (by simp)
      have hwob : Below wo.heap.size wo wb := by rw [← hwb]; exact (((Below.refl _ _).alloc (Nat.le_refl _) _).alloc (by simp) _).alloc (by simp; omega) _
      have hDS := hS.out.below hsz hwob
      obtain ⟨q0, hq0⟩ : ∃ q0, q0 = wo.heap.size := ⟨_, rfl⟩
      rw [← hq0] at hg0 hg1 hg2 ⊢
      have hq3 : w.heap.size + 3 ≤ q0 := by rw [hq0]; exact hsz
      obtain ⟨i0, -⟩ := one_cell hg0
      have HIN : Hid (InSt w wb b n ps rs k q0 p r 0) := ⟨hDS, hg0, hg1, by rw [hg2]; simp [gfold_nil]⟩
      clear hwb hg0 hg1 hg2 hwob hDS hq0 hsz hS e1 e2
      go_wp2_with fail
      clear i0
      go_loopw [34] (fun jv wr => ∃ j : Nat, j ≤ k ∧ jv = .int .i64 (j : Int) ∧ Hid (InSt w wr b n ps rs k q0 p r j)) (fun jv _ => k - (intOf jv).toNat)
      case atStart => exact ⟨0, Nat.zero_le _, rfl, HIN.out⟩
      case round =>
        obtain ⟨j, hj, rfl, hI⟩ := hrel
        by_cases hjk : j < k
        · obtain ⟨q, hq⟩ : ∃ q, ps[j]? = some q := ⟨ps[j]'(by have := HN.out; omega), List.getElem?_eq_getElem _⟩
          obtain ⟨iw, hiw⟩ : ∃ x, x = invN (q % p) p := ⟨_, rfl⟩
          have hrowj : ((ps.take k).map fun q => invN (q % p) p)[j]? = some iw := by rw [List.getElem?_map, List.getElem?_take, if_pos hjk, hq, hiw]; rfl
          obtain ⟨a3, c3', hsl, h31, h32, h33⟩ := reads_u32 HRD.out
          obtain ⟨b3, o3, rfl, hb3l, d3⟩ := h33 j iw hrowj
          injection hsl with hsl1 hsl2 hsl3
          have hrl : ((ps.take k).map fun q => invN (q % p) p).length = k := by rw [List.length_map, List.length_take]; have := HN.out; omega
          obtain ⟨g1, g2⟩ := HGI.out j (by omega)
          obtain ⟨d, hd⟩ : ∃ d, d = gfold p (ps.take j) (digL ps rs j) r := ⟨_, rfl⟩
          rw [← hd] at g1
          obtain ⟨-, i2, -⟩ := invN_spec hp2 (by omega) (Nat.mod_lt q (by omega)) (HSEP.out.gcd_mod HP2.out hq hjk)
          obtain ⟨i1, -, -⟩ := invN_spec hp2 (by omega) (Nat.mod_lt q (by omega)) (HSEP.out.gcd_mod HP2.out hq hjk)
          rw [← hiw] at i1
          obtain ⟨k0, -⟩ := one_cell hI.out.h0
          obtain ⟨k1, -⟩ := one_cell hI.out.h1
          obtain ⟨k2, k2f⟩ := one_cell hI.out.h2
          rw [← hd] at k2
          obtain ⟨m0, -⟩ := one_cell hI.out.dg.h0
          obtain ⟨m2, -⟩ := one_cell hI.out.dg.h2
          have hdj := dgt_lt HSEP.out HROW.out hq
          obtain ⟨m1, -⟩ := rowF_cell hI.out.dg.h1 j (by omega)
          rw [if_pos hjk] at m1
          have hbl := hI.out.dg.bel
          have n1 := (hbl.cell (p := ⟨b, 3, none⟩) HBW.out).trans HC3.out
          have n2 := (hbl.cell (p := ⟨ib, io + k, none⟩) hibl).trans HIC2.out
          have n3 := (hbl.cell (p := ⟨b3, o3 + j, none⟩) hb3l).trans d3
          rw [hsl1, hrl] at n2
          obtain ⟨hqp, -, hqb, -⟩ := HSEP.out j q hq
          have hstep := step1_any (q0 + 2) (q0 + 1) (w.heap.size + 2) w.heap.size q0 (w.heap.size + 1) n b j k d p (dgt ps rs j) iw 0 (some ⟨ib, io, none⟩) rc2 n ic ib io b3 o3 k wr k2 k2f k1 m2 m0 k0 m1 n1 n2 n3 (by omega) (by omega) hlt hic (by omega) hjk (by omega) (by rw [hrl, ← hsl3] at h31; exact h31) g1 hp2 p3 (by omega) i1 (gst p q (dgt ps rs j) d) (by unfold gst; rw [hiw])
          have HSTEP := Lib.hid hstep
          have hlen2 : (ps.take j).length = (digL ps rs j).length := by rw [digL_len, List.length_take]; have := HN.out; omega
          have HNEXT : Hid (gst p q (dgt ps rs j) d = gfold p (ps.take (j + 1)) (digL ps rs (j + 1)) r) := by
            show _ = _
            rw [take_succ' hq, show digL ps rs (j + 1) = digL ps rs j ++ [dgt ps rs j] by rfl, gfold_snoc _ _ _ _ _ _ hlen2, ← hd]
          have t1 : (j : Int) < (k : Int) := by omega
          clear hstep n1 n2 n3 m0 m1 m2 k0 k1 k2 k2f hbl hdj i2 g2 hd hsl1 hsl2 hsl3 hrl h31 h32 h33 d3 hrowj hiw hq hlen2 hqp hqb
          go_wp2_with fail
          (with_reducible refine (HSTEP.out).mono ?_)
          rintro e w5 ⟨⟨v5, rfl⟩, nq, rfl⟩
          clear HSTEP
          go_wp2_with fail
          go_roundw
          case rel => exact ⟨j + 1, by omega, by go_num, by
            show InSt _ _ _ _ _ _ _ _ _ _ _
            rw [HNEXT.out]
            exact (hI.out.set hq3).drewN nq⟩
          case measure => simp [intOf]; omega
        · obtain rfl : j = k := by omega
          obtain ⟨k0, -⟩ := one_cell hI.out.h0
          obtain ⟨k2, k2f⟩ := one_cell hI.out.h2
          obtain ⟨m2, -⟩ := one_cell hI.out.dg.h2
          obtain ⟨m1, m1f⟩ := rowF_cell hI.out.dg.h1 j (by omega)
          rw [if_neg (by omega)] at m1
          rw [← HDK.out] at k2
          have hdl := dgt_lt HSEP.out HROW.out HP2.out
          obtain ⟨d, hd⟩ : ∃ d, d = dgt ps rs j := ⟨_, rfl⟩
          rw [← hd] at k2 hdl
          have HD := Lib.hid hd
          have hdm : (d : Int) % 4294967296 = (d : Int) := by omega
          have t2 : ¬ (j : Int) < (j : Int) := by omega
          clear hd
          go_wp2_with fail
          go_roundw
          case rel =>
            refine ⟨j + 1, by omega, by go_num, ?_⟩
            have := hI.out.dg.push
            rw [← HD.out] at this
            exact this
          case measure => simp [intOf]; omega
    · obtain rfl : k = n := by omega
      obtain ⟨m2, -⟩ := one_cell hS.out.h2
      have hg2 := hS.out.h1
      unfold dgrow at hg2
      rw [rowF_congr (f' := dgt ps rs) (fun j hj => if_pos hj)] at hg2
      have HO := Lib.hid (rowF_owns (base := w.heap.size) hg2 (by omega) (by omega))
      have t2 : ¬ (k : Int) < (k : Int) := by omega
      clear hg2
      go_wp2
      rw [HP.out]
      refine ⟨_, rfl, ?_, hS.out.bel⟩
      rw [digL_len, ← HN.out, digL_map]
      exact HO.out
end Go.Proofs.Ytnjblppapmflhaa

/- Walks: the integer of a row. -/
namespace Go.Proofs.Ytnjblppapmflhaa
set_option linter.all false
open Go.RowKit Go.Shelf Go.WideNum PN
/-- The number under way. -/
structure JSt (w wr : World) (xb : Bool) (xt : ByteArray) (lv : Value) (n : Nat) (ds : List Nat) : Prop where
  h0 : wr.heap[w.heap.size]? = some (.cells #[.bool false, .string ⟨#[]⟩] 38)
  h1 : wr.heap[w.heap.size + 1]? = some (.cells #[.bool xb, .string xt] 38)
  ol : wr.owns (w.heap.size + 2) 23 1 lv n (ds.map u32V)
  bel : Below w.heap.size w wr
theorem JSt.size {w wr : World} {xb : Bool} {xt : ByteArray} {lv : Value} {n : Nat} {ds : List Nat} (h : JSt w wr xb xt lv n ds) : w.heap.size + 2 ≤ wr.heap.size := by
  have := lt_of_heap h.h1; omega
theorem JSt.below {w wr w' : World} {xb : Bool} {xt : ByteArray} {lv : Value} {n : Nat} {ds : List Nat} (h : JSt w wr xb xt lv n ds) (hb : Below wr.heap.size wr w') : JSt w w' xb xt lv n ds := by
  have hs := h.size
  exact ⟨(hb.block _ (by omega)).trans h.h0, (hb.block _ (by omega)).trans h.h1, h.ol.below hb, h.bel.trans (hb.mono h.bel.size)⟩
theorem JSt.set {w wr : World} {xb : Bool} {xt : ByteArray} {lv : Value} {n : Nat} {ds : List Nat} (h : JSt w wr xb xt lv n ds) (yb : Bool) (yt : ByteArray) : JSt w ((wr.setCell ⟨w.heap.size + 1, 0, none⟩ (.bool yb)).setCell ⟨w.heap.size + 1, 1, none⟩ (.string yt)) yb yt lv n ds := by
  refine ⟨?_, wide_set h.h1 _ _, ?_, ?_⟩
  · exact (wide_other (W := wr) (p := w.heap.size) (q := w.heap.size + 1) (by omega) _ _).trans h.h0
  · exact (h.ol.setCell (by simp) _).setCell (by simp) _
  · exact (h.bel.setCell (by simp) _).setCell (by simp) _
set_option maxRecDepth 100000 in
set_option maxHeartbeats 8000000 in
theorem join_any (b : Nat) (ps rs : List Nat) (rv : Value) (x : Nat) (w : World) (hs : SysAt w b ps) (hsys : SysP ps) (hr : w.reads w.heap.size rv (rs.map u32V)) (hrow : RowP ps rs) (hx : IsCrt ps rs x) (fb : Bool) (ft : ByteArray) (hfb : fb = zN (balZ x (prodL ps : Nat))) (hft : ft = zT (balZ x (prodL ps : Nat))) :
    Calls Try.prog 54 #[.pointer (some ⟨b, 0, none⟩), rv] w fun e w' => e = .returned (.agg #[.bool fb, .string ft]) ∧ Below w.heap.size w w' := by
  obtain ⟨HPOST, hpost⟩ : ∃ R : Ending → World → Prop, R = fun e w' => e = .returned (.agg #[.bool fb, .string ft]) ∧ Below w.heap.size w w' := ⟨_, rfl⟩
  rw [← hpost]
  have HP := Lib.hid hpost
  clear hpost
  have hsep := hsys.sep
  have hlen := hsys.2.1
  have hn1 := hsys.1
  have hdig := fun (W : World) (h1 : SysAt W b ps) (h2 : W.reads W.heap.size rv (rs.map u32V)) => digits_any b ps rs rv W h1 hsep hlen h2 hrow
  have hval : mvL ps (digL ps rs ps.length) = x := (garner_all hsep hrow).uniq hsep hrow.1 hx
  have hdl : ∀ i p : Nat, ps[i]? = some p → dgt ps rs i < p := fun i p hp => dgt_lt hsep hrow hp
  obtain ⟨ds, hds⟩ : ∃ ds, ds = digL ps rs ps.length := ⟨_, rfl⟩
  rw [← hds] at hdig hval
  have hdsl : ds.length = ps.length := by rw [hds, digL_len]
  have hdget : ∀ i, i < ps.length → ds[i]? = some (dgt ps rs i) := fun i hi => by rw [hds]; exact digL_get ps rs hi
  have hQ : prodL ps ≤ 4294967296 ^ 25 := Nat.le_trans (prodL_lt (fun p hp => by have := (hsep.mem hp).2.2; omega)) (Nat.pow_le_pow_right (by omega) hlen)
  have hbound : ∀ k, mvL (ps.drop k) (ds.drop k) < prodL (ps.drop k) := fun k => by
    refine mvL_lt _ _ (fun p hp => (hsep.mem (List.mem_of_mem_drop hp)).1.pos) (fun i p d hp hd => ?_)
    rw [List.getElem?_drop] at hp hd
    have hi : k + i < ps.length := (List.getElem?_eq_some_iff.1 hp).1
    rw [hdget _ hi] at hd
    injection hd with hd
    rw [← hd]; exact hdl _ _ hp
  have hbound2 : ∀ k, k ≤ ps.length → mvL (ps.drop k) (ds.drop k) < 4294967296 ^ (ps.length - k) := fun k hk => by
    have h1 := prodL_lt (l := ps.drop k) (fun p hp => by have := (hsep.mem (List.mem_of_mem_drop hp)).2.2; omega)
    rw [List.length_drop] at h1
    exact Nat.lt_of_lt_of_le (hbound k) h1
  have HDIG := Lib.hid hdig
  have HVAL := Lib.hid hval
  have HDL := Lib.hid hdl
  have HDS := Lib.hid hdsl
  have HDG := Lib.hid hdget
  have HQ := Lib.hid hQ
  have HBD := Lib.hid hbound2
  have HSEP := Lib.hid hsep
  have HSYS := Lib.hid hs
  have HR := Lib.hid hr
  have HFB := Lib.hid hfb
  have HFT := Lib.hid hft
  have HX := Lib.hid hx
  obtain ⟨lv, iv, h1, h2, -⟩ := hs
  have hbw := lt_of_heap h1
  obtain ⟨c0, c1, c2, -⟩ := five_sys h1
  have hl2 := h2.le_map
  obtain ⟨pa, pc, rfl, hpc, hpm, hps⟩ := reads_u32 h2
  have HS := Lib.hid hps
  obtain ⟨n, hn⟩ : ∃ n, n = ps.length := ⟨_, rfl⟩
  rw [← hn] at hpc hl2 c0 hlen hn1
  have HN := Lib.hid hn
  obtain ⟨qb, hqb⟩ : ∃ z, z = zN ((prodL ps : Nat) : Int) := ⟨_, rfl⟩
  obtain ⟨qt, hqt⟩ : ∃ z, z = zT ((prodL ps : Nat) : Int) := ⟨_, rfl⟩
  rw [← hqb] at c1
  rw [← hqt] at c2
  have HQB := Lib.hid hqb
  have HQT := Lib.hid hqt
  have HC0 := Lib.hid c0
  have HC1 := Lib.hid c1
  have HC2 := Lib.hid c2
  clear h1 h2 hps hn hsep hdig hval hdl hds hdsl hdget hQ hbound hbound2 hr hfb hft hx hqb hqt hsys c0 c1 c2 hrow
  go_enter Try.func54, Try.ntmps54
  go_upto_region 2 with (fail)
  generalize hwa : (w.alloc (.cells #[.bool false, .string ⟨#[]⟩] 38)).alloc (.cells #[.bool false, .string ⟨#[]⟩] 38) = wa
  have ha0 : wa.heap[w.heap.size]? = some (.cells #[.bool false, .string ⟨#[]⟩] 38) := by rw [← hwa, Below.heap_alloc _ _ _ (by simp)]; exact heap_alloc_new w _
  have ha1 : wa.heap[w.heap.size + 1]? = some (.cells #[.bool false, .string ⟨#[]⟩] 38) := by rw [← hwa]; exact alloc_last _ _ (by simp)
  have hab : Below w.heap.size w wa := by rw [← hwa]; exact ((Below.refl _ _).alloc (Nat.le_refl _) _).alloc (by simp) _
  have hasz : wa.heap.size = w.heap.size + 2 := by rw [← hwa]; simp
  clear hwa
  have HSA := Lib.hid (HSYS.out.below hab)
  have HRA := Lib.hid ((HR.out.below hab).mono hab.size)
  have HA0 := Lib.hid ha0
  have HA1 := Lib.hid ha1
  have HAB := Lib.hid hab
  have HASZ := Lib.hid hasz
  clear ha0 ha1 hab hasz
  go_wp2_with fail
  (with_reducible refine (HDIG.out _ HSA.out HRA.out).mono ?_)
  rintro e w1 ⟨v, rfl, ho, hb1⟩
  rw [HDS.out, ← HN.out, HASZ.out] at ho
  have HJ : Hid (JSt w w1 false ⟨#[]⟩ v n ds) := ⟨(hb1.block _ (lt_of_heap HA0.out)).trans HA0.out, (hb1.block _ (lt_of_heap HA1.out)).trans HA1.out, ho, HAB.out.trans (hb1.mono HAB.out.size)⟩
  obtain ⟨la, lc, rfl, hlc, hlm, -⟩ := ho.at_
  clear ho hb1 HSA HRA HA0 HA1 HAB HASZ
  go_wp2_with fail
  go_loopw [7] (fun iv wr => ∃ k : Nat, k ≤ n ∧ iv = .int .i64 ((k : Int) - 1) ∧ Hid (JSt w wr (zN ((mvL (ps.drop k) (ds.drop k) : Nat) : Int)) (zT ((mvL (ps.drop k) (ds.drop k) : Nat) : Int)) (.slice la n lc) n ds)) (fun iv _ => (intOf iv + 1).toNat)
  case atStart => exact ⟨n, Nat.le_refl _, rfl, by
    show JSt _ _ _ _ _ _ _
    rw [HN.out, List.drop_eq_nil_of_le (Nat.le_refl _)]
    have := HJ.out
    rw [← HN.out]
    exact this⟩
  case round =>
    obtain ⟨kk, hkk, rfl, hJ⟩ := hrel
    obtain ⟨wo, rfl⟩ : ∃ x, x = wr := ⟨_, rfl⟩
    cases kk with
    | zero =>
      have hmv : mvL (ps.drop 0) (ds.drop 0) = x := by rw [List.drop_zero, List.drop_zero]; exact HVAL.out
      rw [hmv] at hJ
      have hxl : x < 4294967296 ^ 25 := Nat.lt_of_lt_of_le HX.out.1 HQ.out
      have rX : InR (x : Int) := inR_of (k := 25) (by rw [Int.natAbs_natCast]; exact hxl) (by omega)
      have hq0 : 0 < prodL ps := Nat.lt_of_le_of_lt (Nat.zero_le _) HX.out.1
      have rQ : InR ((prodL ps : Nat) : Int) := by
        unfold InR; rw [Int.natAbs_natCast, lim_words]
        exact Nat.lt_of_le_of_lt HQ.out (Nat.pow_lt_pow_right (by omega) (by omega))
      have hbal := fun W => Balanced_z (x : Int) ((prodL ps : Nat) : Int) rX rQ (by omega) W
      unfold WideOk at hbal
      obtain ⟨xb, hxb⟩ : ∃ z, z = zN (x : Int) := ⟨_, rfl⟩
      obtain ⟨xt, hxt⟩ : ∃ z, z = zT (x : Int) := ⟨_, rfl⟩
      rw [← hxb, ← hxt] at hbal hJ
      rw [← HQB.out, ← HQT.out, ← HFB.out, ← HFT.out] at hbal
      have HBAL := Lib.hid hbal
      have hJs := hJ.out.size
      have c1 := (hJ.out.bel.cell (p := ⟨b, 1, none⟩) hbw).trans HC1.out
      have c2 := (hJ.out.bel.cell (p := ⟨b, 2, none⟩) hbw).trans HC2.out
      obtain ⟨x0, x1, -⟩ := wide_cells hJ.out.h1
      have HKEEP : Hid (∀ w', Below wo.heap.size wo w' → w'.cell? ⟨w.heap.size + 1, 0, none⟩ = some (.bool xb) ∧ w'.cell? ⟨w.heap.size + 1, 1, none⟩ = some (.string xt) ∧ w'.cell? ⟨b, 1, none⟩ = some (.bool qb) ∧ w'.cell? ⟨b, 2, none⟩ = some (.string qt)) := fun w' hb =>
        ⟨(hb.cell (p := ⟨w.heap.size + 1, 0, none⟩) (by show w.heap.size + 1 < _; omega)).trans x0, (hb.cell (p := ⟨w.heap.size + 1, 1, none⟩) (by show w.heap.size + 1 < _; omega)).trans x1, (hb.cell (p := ⟨b, 1, none⟩) (by show b < _; omega)).trans c1, (hb.cell (p := ⟨b, 2, none⟩) (by show b < _; omega)).trans c2⟩
      have t0 : ¬ (0 : Int) ≤ ((0 : Nat) : Int) - 1 := by omega
      clear hbal hxb hxt rX rQ hxl hq0 hmv
      go_wp2_with fail
      refine wp_region_late (fun w' => w'.cell? ⟨w.heap.size + 1, 0, none⟩ = some (.bool xb) ∧ w'.cell? ⟨w.heap.size + 1, 1, none⟩ = some (.string xt) ∧ w'.cell? ⟨b, 1, none⟩ = some (.bool qb) ∧ w'.cell? ⟨b, 2, none⟩ = some (.string qt)) (fun j => decide (j = 9)) (by kernel_rfl) ⟨x0, x1, c1, c2⟩ (fun hHeld => ?_)
      refine wpAnyD_take 0 (v := ?_) (by kernel_rfl) (by kernel_rfl) rfl (by kernel_rfl) (by kernel_rfl) (fun _ _ _ h => h) (Or.inl ⟨by rfl, ?_⟩) (by assumption) ?_
      rotate_left
      · (intro wq hSq; (try dsimp only at hSq); go_simp; try with_reducible rfl)
      try simp only [Act.put, List.setIfInBounds_toArray, List.set_cons_zero, List.set_cons_succ]
      refine wpAnyD_take 1 (v := ?_) (by kernel_rfl) (by kernel_rfl) rfl (by kernel_rfl) (by kernel_rfl) (fun _ _ _ h => h) (Or.inl ⟨by rfl, ?_⟩) (by assumption) ?_
      rotate_left
      · (intro wq hSq; (try dsimp only at hSq); go_simp; try with_reducible rfl)
      try simp only [Act.put, List.setIfInBounds_toArray, List.set_cons_zero, List.set_cons_succ]
      refine wpAnyD_take 2 (v := ?_) (by kernel_rfl) (by kernel_rfl) rfl (by kernel_rfl) (by kernel_rfl) (fun _ _ _ h => h) (Or.inl ⟨by rfl, ?_⟩) (by assumption) ?_
      rotate_left
      · (intro wq hSq; (try dsimp only at hSq); go_simp; try with_reducible rfl)
      try simp only [Act.put, List.setIfInBounds_toArray, List.set_cons_zero, List.set_cons_succ]
      refine wpAnyD_take 3 (v := ?_) (by kernel_rfl) (by kernel_rfl) rfl (by kernel_rfl) (by kernel_rfl) (fun _ _ _ h => h) (Or.inl ⟨by rfl, ?_⟩) (by assumption) ?_
      rotate_left
      · (intro wq hSq; (try dsimp only at hSq); go_simp; try with_reducible rfl)
      try simp only [Act.put, List.setIfInBounds_toArray, List.set_cons_zero, List.set_cons_succ]
      refine wpAnyD_take 4 (v := ?_) (by kernel_rfl) (by kernel_rfl) rfl (by kernel_rfl) (by kernel_rfl) (fun _ _ _ h => h) (Or.inl ⟨by rfl, ?_⟩) (by assumption) ?_
      rotate_left
      · (intro wq hSq; (try dsimp only at hSq); go_simp; try with_reducible rfl)
      try simp only [Act.put, List.setIfInBounds_toArray, List.set_cons_zero, List.set_cons_succ]
      refine wpAnyD_keep 5 (by kernel_rfl) rfl (fun K hK => ?_)
      go_simp
      go_at_call 82
      (with_reducible refine (HBAL.out _).mono ?_)
      rintro e w5 ⟨rfl, hb5⟩
      have hb5' : Below wo.heap.size wo w5 := ((Below.refl wo.heap.size wo).drew).trans hb5
      refine hK.out _ _ (HKEEP.out w5 hb5') (fun hHeld3 => ?_)
      have HJ5 := Lib.hid (hJ.out.below hb5')
      clear hK K hHeld hb5 hb5' x0 x1 c1 c2
      try simp only [Act.put, List.setIfInBounds_toArray, List.set_cons_zero, List.set_cons_succ]
      refine wpAnyD_takeW 6 (v := ?_) (by kernel_rfl) rfl (by kernel_rfl) (by kernel_rfl) (fun _ _ _ h => h) (Or.inl ⟨by rfl, ?_⟩) ?_
      rotate_left
      · (intro wq hSq; (try dsimp only at hSq); go_simp; try with_reducible rfl)
      try simp only [Act.put, List.setIfInBounds_toArray, List.set_cons_zero, List.set_cons_succ]
      refine wpAnyD_takeW 7 (v := ?_) (by kernel_rfl) rfl (by kernel_rfl) (by kernel_rfl) (fun _ _ _ h => h) (Or.inl ⟨by rfl, ?_⟩) ?_
      rotate_left
      · (intro wq hSq; (try dsimp only at hSq); go_simp; try with_reducible rfl)
      try simp only [Act.put, List.setIfInBounds_toArray, List.set_cons_zero, List.set_cons_succ]
      refine wpAnyD_takeW 8 (v := ?_) (by kernel_rfl) rfl (by kernel_rfl) (by kernel_rfl) (fun _ _ _ h => h) (Or.inl ⟨by rfl, ?_⟩) ?_
      rotate_left
      · (intro wq hSq; (try dsimp only at hSq); go_simp; try with_reducible rfl)
      try simp only [Act.put, List.setIfInBounds_toArray, List.set_cons_zero, List.set_cons_succ]
      refine wpAnyD_step 9 (by kernel_rfl) rfl rfl (fun K hK => ?_)
      obtain ⟨x0, x1, xf⟩ := wide_cells HJ5.out.h1
      go_simp
      refine hK.out _ _ ?_
      clear hK K hHeld3 x0 x1 xf
      refine wpAnyD_end (by kernel_rfl) ?_
      have hJ7 := HJ5.out.set fb ft
      generalize (w5.setCell ⟨w.heap.size + 1, 0, none⟩ (.bool fb)).setCell ⟨w.heap.size + 1, 1, none⟩ (.string ft) = w7 at hJ7 ⊢
      obtain ⟨x0, x1, -⟩ := wide_cells hJ7.h1
      obtain ⟨r0, r1, rf⟩ := wide_cells hJ7.h0
      have m2 := wide_set hJ7.h0 fb ft
      have hb9 := below_set2 (p := w.heap.size) hJ7.bel (Nat.le_refl _) fb ft
      clear hJ7
      go_wp2
      obtain ⟨d20, d21, -⟩ := wide_cells m2
      clear m2
      generalize (w7.setCell ⟨w.heap.size, 0, none⟩ (.bool fb)).setCell ⟨w.heap.size, 1, none⟩ (.string ft) = W9 at d20 d21 hb9 ⊢
      rw [HP.out]
      exact bodyPost_ret (v := .agg #[.bool fb, .string ft]) (by simp [results, Try.results54, go_sem, d20, d21]) rfl ⟨rfl, hb9⟩
    | succ j =>
      rw [show ((j + 1 : Nat) : Int) - 1 = (j : Int) by omega]
      have hjp : j < ps.length := by rw [← HN.out]; omega
      obtain ⟨p, hp⟩ : ∃ p, ps[j]? = some p := ⟨ps[j], List.getElem?_eq_getElem hjp⟩
      have hdj := HDG.out j hjp
      obtain ⟨d, hd⟩ : ∃ d, d = dgt ps rs j := ⟨_, rfl⟩
      rw [← hd] at hdj
      obtain ⟨b2, o2, rfl, hb2l, d2⟩ := HS.out j p hp
      obtain ⟨lb, rfl, hlb1, hlb2, hlc2⟩ := (show ∃ lb, la = some ⟨lb, 0, none⟩ ∧ w.heap.size + 2 ≤ lb ∧ lb < wo.heap.size ∧ wo.cell? ⟨lb, j, none⟩ = some (.int .u32 (d : Int)) from by
        obtain ⟨a', c', hv, -, -, hc⟩ := hJ.out.ol.at_
        injection hv with hv1 hv2 hv3
        obtain ⟨g, q1, q2, q3, q4⟩ := hc j (.int .u32 (d : Int)) (by rw [List.getElem?_map, hdj]; rfl)
        exact ⟨g, hv1.trans q1, q2, q3, q4⟩)
      obtain ⟨p1, p2, p3, p4⟩ := HSEP.out j p hp
      have hpd : d < p := by rw [hd]; exact HDL.out j p hp
      have hdrop := mvL_drop hp hdj
      have hbj := HBD.out j (by omega)
      obtain ⟨X, hX⟩ : ∃ X, X = mvL (ps.drop (j + 1)) (ds.drop (j + 1)) := ⟨_, rfl⟩
      obtain ⟨Z, hZ⟩ : ∃ Z, Z = mvL (ps.drop j) (ds.drop j) := ⟨_, rfl⟩
      rw [← hX] at hdrop hJ
      rw [← hZ] at hdrop hbj
      obtain ⟨Y, hY⟩ : ∃ Y, Y = X * p := ⟨_, rfl⟩
      rw [Nat.mul_comm p, ← hY] at hdrop
      have hXY : X ≤ Y := by rw [hY]; exact Nat.le_mul_of_pos_right X p1.pos
      have hk25 : ps.length - j ≤ 64 := by rw [← HN.out]; omega
      have rX : InR (X : Int) := inR_of (k := ps.length - j) (by rw [Int.natAbs_natCast]; omega) hk25
      have rY : InR (Y : Int) := inR_of (k := ps.length - j) (by rw [Int.natAbs_natCast]; omega) hk25
      have rZ : InR (Z : Int) := inR_of (k := ps.length - j) (by rw [Int.natAbs_natCast]; omega) hk25
      have rp : InR (p : Int) := inR_small (by omega)
      have rd : InR (d : Int) := inR_small (by omega)
      have eY : (X : Int) * (p : Int) = (Y : Int) := by rw [hY]; simp
      have eZ : (Y : Int) + (d : Int) = (Z : Int) := by omega
      have hmul := fun W => Mul_z (X : Int) (p : Int) rX rp (by rw [eY]; exact rY) W
      have hadd := fun W => Add_z (Y : Int) (d : Int) rY rd (by rw [eZ]; exact rZ) W
      have hofp := fun W => Of_z (p : Int) (by omega) (by omega) W
      have hofd := fun W => Of_z (d : Int) (by omega) (by omega) W
      unfold WideOk at hmul hadd
      rw [eY] at hmul
      rw [eZ] at hadd
      have HZ : Hid (Z = mvL (ps.drop j) (ds.drop j)) := hZ
      obtain ⟨xb, hxb⟩ : ∃ z, z = zN (X : Int) := ⟨_, rfl⟩
      obtain ⟨xt, hxt⟩ : ∃ z, z = zT (X : Int) := ⟨_, rfl⟩
      obtain ⟨yb, hyb⟩ : ∃ z, z = zN (Y : Int) := ⟨_, rfl⟩
      obtain ⟨yt, hyt⟩ : ∃ z, z = zT (Y : Int) := ⟨_, rfl⟩
      obtain ⟨zb, hzb⟩ : ∃ z, z = zN (Z : Int) := ⟨_, rfl⟩
      obtain ⟨zt, hzt⟩ : ∃ z, z = zT (Z : Int) := ⟨_, rfl⟩
      obtain ⟨pb, hpb⟩ : ∃ z, z = zN (p : Int) := ⟨_, rfl⟩
      obtain ⟨pt, hpt⟩ : ∃ z, z = zT (p : Int) := ⟨_, rfl⟩
      obtain ⟨db, hdb⟩ : ∃ z, z = zN (d : Int) := ⟨_, rfl⟩
      obtain ⟨dt, hdt⟩ : ∃ z, z = zT (d : Int) := ⟨_, rfl⟩
      rw [← hxb, ← hxt] at hmul hJ
      rw [← hpb, ← hpt] at hmul hofp
      rw [← hyb, ← hyt] at hmul hadd
      rw [← hdb, ← hdt] at hadd hofd
      rw [← hzb, ← hzt] at hadd
      have HMUL := Lib.hid hmul
      have HADD := Lib.hid hadd
      have HOFP := Lib.hid hofp
      have HOFD := Lib.hid hofd
      have HZB := Lib.hid hzb
      have HZT := Lib.hid hzt
      have hJs := hJ.out.size
      have c0 := (hJ.out.bel.cell (p := ⟨b, 0, none⟩) hbw).trans HC0.out
      have e1 := (hJ.out.bel.cell (p := ⟨b2, o2 + j, none⟩) hb2l).trans d2
      obtain ⟨x0, x1, -⟩ := wide_cells hJ.out.h1
      have HKEEP : Hid (∀ w', Below wo.heap.size wo w' → w'.cell? ⟨w.heap.size + 1, 0, none⟩ = some (.bool xb) ∧ w'.cell? ⟨w.heap.size + 1, 1, none⟩ = some (.string xt) ∧ w'.cell? ⟨b, 0, none⟩ = some (.slice (some ⟨b2, o2, none⟩) n pc) ∧ w'.cell? ⟨b2, o2 + j, none⟩ = some (.int .u32 (p : Int))) := fun w' hb =>
        ⟨(hb.cell (p := ⟨w.heap.size + 1, 0, none⟩) (by show w.heap.size + 1 < _; omega)).trans x0, (hb.cell (p := ⟨w.heap.size + 1, 1, none⟩) (by show w.heap.size + 1 < _; omega)).trans x1, (hb.cell (p := ⟨b, 0, none⟩) (by show b < _; omega)).trans c0, (hb.cell (p := ⟨b2, o2 + j, none⟩) (by show b2 < _; omega)).trans e1⟩
      have HLC := Lib.hid hlc2
      have t1 : (0 : Int) ≤ (j : Int) := by omega
      have t2 : (j : Int) < (n : Int) := by omega
      have w64p : IntKind.i64.wrap (p : Int) = (p : Int) := by rw [IntKind.wrap_i64]; omega
      have w64d : IntKind.i64.wrap (d : Int) = (d : Int) := by rw [IntKind.wrap_i64]; omega
      clear hmul hadd hofp hofd hzb hzt hxb hxt hyb hyt hpb hpt hdb hdt hX hZ hY hXY hbj hdrop hp hd hdj d2 p1 p2 p4 rX rY rZ rp rd eY eZ hk25 hjp hlc2 hpd
      go_wp2_with fail
      refine wp_region_late (fun w' => w'.cell? ⟨w.heap.size + 1, 0, none⟩ = some (.bool xb) ∧ w'.cell? ⟨w.heap.size + 1, 1, none⟩ = some (.string xt) ∧ w'.cell? ⟨b, 0, none⟩ = some (.slice (some ⟨b2, o2, none⟩) n pc) ∧ w'.cell? ⟨b2, o2 + j, none⟩ = some (.int .u32 (p : Int))) (fun j => decide (j = 14)) (by kernel_rfl) ⟨x0, x1, c0, e1⟩ (fun hHeld => ?_)
      refine wpAnyD_take 0 (v := ?_) (by kernel_rfl) (by kernel_rfl) rfl (by kernel_rfl) (by kernel_rfl) (fun _ _ _ h => h) (Or.inl ⟨by rfl, ?_⟩) (by assumption) ?_
      rotate_left
      · (intro wq hSq; (try dsimp only at hSq); go_simp; try with_reducible rfl)
      try simp only [Act.put, List.setIfInBounds_toArray, List.set_cons_zero, List.set_cons_succ]
      refine wpAnyD_take 1 (v := ?_) (by kernel_rfl) (by kernel_rfl) rfl (by kernel_rfl) (by kernel_rfl) (fun _ _ _ h => h) (Or.inl ⟨by rfl, ?_⟩) (by assumption) ?_
      rotate_left
      · (intro wq hSq; (try dsimp only at hSq); go_simp; try with_reducible rfl)
      try simp only [Act.put, List.setIfInBounds_toArray, List.set_cons_zero, List.set_cons_succ]
      refine wpAnyD_take 2 (v := ?_) (by kernel_rfl) (by kernel_rfl) rfl (by kernel_rfl) (by kernel_rfl) (fun _ _ _ h => h) (Or.inl ⟨by rfl, ?_⟩) (by assumption) ?_
      rotate_left
      · (intro wq hSq; (try dsimp only at hSq); go_simp; try with_reducible rfl)
      try simp only [Act.put, List.setIfInBounds_toArray, List.set_cons_zero, List.set_cons_succ]
      refine wpAnyD_take 3 (v := ?_) (by kernel_rfl) (by kernel_rfl) rfl (by kernel_rfl) (by kernel_rfl) (fun _ _ _ h => h) (Or.inl ⟨by rfl, ?_⟩) (by assumption) ?_
      rotate_left
      · (intro wq hSq; (try dsimp only at hSq); go_simp; try with_reducible rfl)
      try simp only [Act.put, List.setIfInBounds_toArray, List.set_cons_zero, List.set_cons_succ]
      refine wpAnyD_take 4 (v := ?_) (by kernel_rfl) (by kernel_rfl) rfl (by kernel_rfl) (by kernel_rfl) (fun _ _ _ h => h) (Or.inl ⟨by rfl, ?_⟩) (by assumption) ?_
      rotate_left
      · (intro wq hSq; (try dsimp only at hSq); go_simp; try with_reducible rfl)
      try simp only [Act.put, List.setIfInBounds_toArray, List.set_cons_zero, List.set_cons_succ]
      refine wpAnyD_take 5 (v := ?_) (by kernel_rfl) (by kernel_rfl) rfl (by kernel_rfl) (by kernel_rfl) (fun _ _ _ h => h) (Or.inl ⟨by rfl, ?_⟩) (by assumption) ?_
      rotate_left
      · (intro wq hSq; (try dsimp only at hSq); go_simp; try with_reducible rfl)
      try simp only [Act.put, List.setIfInBounds_toArray, List.set_cons_zero, List.set_cons_succ]
      refine wpAnyD_take 6 (v := ?_) (by kernel_rfl) (by kernel_rfl) rfl (by kernel_rfl) (by kernel_rfl) (fun _ _ _ h => h) (Or.inl ⟨by rfl, ?_⟩) (by assumption) ?_
      rotate_left
      · (intro wq hSq; (try dsimp only at hSq); go_simp; try with_reducible rfl)
      try simp only [Act.put, List.setIfInBounds_toArray, List.set_cons_zero, List.set_cons_succ]
      refine wpAnyD_take 7 (v := ?_) (by kernel_rfl) (by kernel_rfl) rfl (by kernel_rfl) (by kernel_rfl) (fun _ _ _ h => h) (Or.inl ⟨by rfl, ?_⟩) (by assumption) ?_
      rotate_left
      · (intro wq hSq; (try dsimp only at hSq); go_simp; try with_reducible rfl)
      try simp only [Act.put, List.setIfInBounds_toArray, List.set_cons_zero, List.set_cons_succ]
      refine wpAnyD_take 8 (v := ?_) (by kernel_rfl) (by kernel_rfl) rfl (by kernel_rfl) (by kernel_rfl) (fun _ _ _ h => h) (Or.inl ⟨by rfl, ?_⟩) (by assumption) ?_
      rotate_left
      · (intro wq hSq; (try dsimp only at hSq); go_simp; try with_reducible rfl)
      try simp only [Act.put, List.setIfInBounds_toArray, List.set_cons_zero, List.set_cons_succ]
      refine wpAnyD_keep 9 (by kernel_rfl) rfl (fun K hK => ?_)
      go_simp
      go_at_call 37
      (with_reducible refine (HOFP.out _).mono ?_)
      rintro e w5 ⟨rfl, hb5⟩
      have hb5' : Below wo.heap.size wo w5 := ((Below.refl wo.heap.size wo).drew).trans hb5
      refine hK.out _ _ (HKEEP.out w5 hb5') (fun hHeld3 => ?_)
      have HB5 := Lib.hid hb5'
      clear hK K hHeld hb5 hb5' x0 x1 c0 e1
      try simp only [Act.put, List.setIfInBounds_toArray, List.set_cons_zero, List.set_cons_succ]
      refine wpAnyD_keep 10 (by kernel_rfl) rfl (fun K hK => ?_)
      go_simp
      go_at_call 51
      (with_reducible refine (HMUL.out _).mono ?_)
      rintro e w6 ⟨rfl, hb6⟩
      have hb6' : Below wo.heap.size wo w6 := below_via HB5.out hb6
      refine hK.out _ _ (HKEEP.out w6 hb6') (fun hHeld4 => ?_)
      have HJ6 := Lib.hid (hJ.out.below hb6')
      have HB6 := Lib.hid hb6'
      clear hK K hHeld3 hb6 hb6' HB5
      try simp only [Act.put, List.setIfInBounds_toArray, List.set_cons_zero, List.set_cons_succ]
      refine wpAnyD_takeW 11 (v := ?_) (by kernel_rfl) rfl (by kernel_rfl) (by kernel_rfl) (fun _ _ _ h => h) (Or.inl ⟨by rfl, ?_⟩) ?_
      rotate_left
      · (intro wq hSq; (try dsimp only at hSq); go_simp; try with_reducible rfl)
      try simp only [Act.put, List.setIfInBounds_toArray, List.set_cons_zero, List.set_cons_succ]
      refine wpAnyD_takeW 12 (v := ?_) (by kernel_rfl) rfl (by kernel_rfl) (by kernel_rfl) (fun _ _ _ h => h) (Or.inl ⟨by rfl, ?_⟩) ?_
      rotate_left
      · (intro wq hSq; (try dsimp only at hSq); go_simp; try with_reducible rfl)
      try simp only [Act.put, List.setIfInBounds_toArray, List.set_cons_zero, List.set_cons_succ]
      refine wpAnyD_takeW 13 (v := ?_) (by kernel_rfl) rfl (by kernel_rfl) (by kernel_rfl) (fun _ _ _ h => h) (Or.inl ⟨by rfl, ?_⟩) ?_
      rotate_left
      · (intro wq hSq; (try dsimp only at hSq); go_simp; try with_reducible rfl)
      try simp only [Act.put, List.setIfInBounds_toArray, List.set_cons_zero, List.set_cons_succ]
      refine wpAnyD_step 14 (by kernel_rfl) rfl rfl (fun K hK => ?_)
      obtain ⟨x0, x1, xf⟩ := wide_cells HJ6.out.h1
      go_simp
      refine hK.out _ _ ?_
      clear hK K hHeld4 x0 x1 xf
      refine wpAnyD_end (by kernel_rfl) ?_
      have hJ7 := HJ6.out.set yb yt
      have hl7 : ((w6.setCell ⟨w.heap.size + 1, 0, none⟩ (.bool yb)).setCell ⟨w.heap.size + 1, 1, none⟩ (.string yt)).cell? ⟨lb, j, none⟩ = some (.int .u32 (d : Int)) :=
        (World.cell?_of_block (a := ⟨lb, j, none⟩) (wide_other (p := lb) (q := w.heap.size + 1) (by omega) yb yt)).trans ((HB6.out.cell (p := ⟨lb, j, none⟩) hlb2).trans HLC.out)
      have hs7 : lb < ((w6.setCell ⟨w.heap.size + 1, 0, none⟩ (.bool yb)).setCell ⟨w.heap.size + 1, 1, none⟩ (.string yt)).heap.size := by simp; exact Nat.lt_of_lt_of_le hlb2 HB6.out.size
      generalize (w6.setCell ⟨w.heap.size + 1, 0, none⟩ (.bool yb)).setCell ⟨w.heap.size + 1, 1, none⟩ (.string yt) = w7 at hJ7 hl7 hs7 ⊢
      have hJs7 := hJ7.size
      obtain ⟨x0, x1, -⟩ := wide_cells hJ7.h1
      have HJ7 := Lib.hid hJ7
      have HKEEP7 : Hid (∀ w', Below w7.heap.size w7 w' → w'.cell? ⟨w.heap.size + 1, 0, none⟩ = some (.bool yb) ∧ w'.cell? ⟨w.heap.size + 1, 1, none⟩ = some (.string yt) ∧ w'.cell? ⟨lb, j, none⟩ = some (.int .u32 (d : Int))) := fun w' hb =>
        ⟨(hb.cell (p := ⟨w.heap.size + 1, 0, none⟩) (by show w.heap.size + 1 < _; omega)).trans x0, (hb.cell (p := ⟨w.heap.size + 1, 1, none⟩) (by show w.heap.size + 1 < _; omega)).trans x1, (hb.cell (p := ⟨lb, j, none⟩) (by show lb < _; omega)).trans hl7⟩
      clear hJ7 hJ HJ6 HB6 HKEEP hlb2 HLC
      go_wp2_with fail
      refine wp_region_late (fun w' => w'.cell? ⟨w.heap.size + 1, 0, none⟩ = some (.bool yb) ∧ w'.cell? ⟨w.heap.size + 1, 1, none⟩ = some (.string yt) ∧ w'.cell? ⟨lb, j, none⟩ = some (.int .u32 (d : Int))) (fun j => decide (j = 11)) (by kernel_rfl) ⟨x0, x1, hl7⟩ (fun hHeld => ?_)
      refine wpAnyD_take 0 (v := ?_) (by kernel_rfl) (by kernel_rfl) rfl (by kernel_rfl) (by kernel_rfl) (fun _ _ _ h => h) (Or.inl ⟨by rfl, ?_⟩) (by assumption) ?_
      rotate_left
      · (intro wq hSq; (try dsimp only at hSq); go_simp; try with_reducible rfl)
      try simp only [Act.put, List.setIfInBounds_toArray, List.set_cons_zero, List.set_cons_succ]
      refine wpAnyD_take 1 (v := ?_) (by kernel_rfl) (by kernel_rfl) rfl (by kernel_rfl) (by kernel_rfl) (fun _ _ _ h => h) (Or.inl ⟨by rfl, ?_⟩) (by assumption) ?_
      rotate_left
      · (intro wq hSq; (try dsimp only at hSq); go_simp; try with_reducible rfl)
      try simp only [Act.put, List.setIfInBounds_toArray, List.set_cons_zero, List.set_cons_succ]
      refine wpAnyD_take 2 (v := ?_) (by kernel_rfl) (by kernel_rfl) rfl (by kernel_rfl) (by kernel_rfl) (fun _ _ _ h => h) (Or.inl ⟨by rfl, ?_⟩) (by assumption) ?_
      rotate_left
      · (intro wq hSq; (try dsimp only at hSq); go_simp; try with_reducible rfl)
      try simp only [Act.put, List.setIfInBounds_toArray, List.set_cons_zero, List.set_cons_succ]
      refine wpAnyD_take 3 (v := ?_) (by kernel_rfl) (by kernel_rfl) rfl (by kernel_rfl) (by kernel_rfl) (fun _ _ _ h => h) (Or.inl ⟨by rfl, ?_⟩) (by assumption) ?_
      rotate_left
      · (intro wq hSq; (try dsimp only at hSq); go_simp; try with_reducible rfl)
      try simp only [Act.put, List.setIfInBounds_toArray, List.set_cons_zero, List.set_cons_succ]
      refine wpAnyD_take 4 (v := ?_) (by kernel_rfl) (by kernel_rfl) rfl (by kernel_rfl) (by kernel_rfl) (fun _ _ _ h => h) (Or.inl ⟨by rfl, ?_⟩) (by assumption) ?_
      rotate_left
      · (intro wq hSq; (try dsimp only at hSq); go_simp; try with_reducible rfl)
      try simp only [Act.put, List.setIfInBounds_toArray, List.set_cons_zero, List.set_cons_succ]
      refine wpAnyD_take 5 (v := ?_) (by kernel_rfl) (by kernel_rfl) rfl (by kernel_rfl) (by kernel_rfl) (fun _ _ _ h => h) (Or.inl ⟨by rfl, ?_⟩) (by assumption) ?_
      rotate_left
      · (intro wq hSq; (try dsimp only at hSq); go_simp; try with_reducible rfl)
      try simp only [Act.put, List.setIfInBounds_toArray, List.set_cons_zero, List.set_cons_succ]
      refine wpAnyD_keep 6 (by kernel_rfl) rfl (fun K hK => ?_)
      go_simp
      go_at_call 37
      (with_reducible refine (HOFD.out _).mono ?_)
      rintro e w8 ⟨rfl, hb8⟩
      have hb8' : Below w7.heap.size w7 w8 := ((Below.refl w7.heap.size w7).drew).trans hb8
      refine hK.out _ _ (HKEEP7.out w8 hb8') (fun hHeld3 => ?_)
      have HB8 := Lib.hid hb8'
      clear hK K hHeld hb8 hb8' x0 x1 hl7
      try simp only [Act.put, List.setIfInBounds_toArray, List.set_cons_zero, List.set_cons_succ]
      refine wpAnyD_keep 7 (by kernel_rfl) rfl (fun K hK => ?_)
      go_simp
      go_at_call 81
      (with_reducible refine (HADD.out _).mono ?_)
      rintro e w9 ⟨rfl, hb9⟩
      have hb9' : Below w7.heap.size w7 w9 := below_via HB8.out hb9
      refine hK.out _ _ (HKEEP7.out w9 hb9') (fun hHeld4 => ?_)
      have HJ9 := Lib.hid (HJ7.out.below hb9')
      clear hK K hHeld3 hb9 hb9' HB8
      try simp only [Act.put, List.setIfInBounds_toArray, List.set_cons_zero, List.set_cons_succ]
      refine wpAnyD_takeW 8 (v := ?_) (by kernel_rfl) rfl (by kernel_rfl) (by kernel_rfl) (fun _ _ _ h => h) (Or.inl ⟨by rfl, ?_⟩) ?_
      rotate_left
      · (intro wq hSq; (try dsimp only at hSq); go_simp; try with_reducible rfl)
      try simp only [Act.put, List.setIfInBounds_toArray, List.set_cons_zero, List.set_cons_succ]
      refine wpAnyD_takeW 9 (v := ?_) (by kernel_rfl) rfl (by kernel_rfl) (by kernel_rfl) (fun _ _ _ h => h) (Or.inl ⟨by rfl, ?_⟩) ?_
      rotate_left
      · (intro wq hSq; (try dsimp only at hSq); go_simp; try with_reducible rfl)
      try simp only [Act.put, List.setIfInBounds_toArray, List.set_cons_zero, List.set_cons_succ]
      refine wpAnyD_takeW 10 (v := ?_) (by kernel_rfl) rfl (by kernel_rfl) (by kernel_rfl) (fun _ _ _ h => h) (Or.inl ⟨by rfl, ?_⟩) ?_
      rotate_left
      · (intro wq hSq; (try dsimp only at hSq); go_simp; try with_reducible rfl)
      try simp only [Act.put, List.setIfInBounds_toArray, List.set_cons_zero, List.set_cons_succ]
      refine wpAnyD_step 11 (by kernel_rfl) rfl rfl (fun K hK => ?_)
      obtain ⟨x0, x1, xf⟩ := wide_cells HJ9.out.h1
      go_simp
      refine hK.out _ _ ?_
      clear hK K hHeld4 x0 x1 xf
      refine wpAnyD_end (by kernel_rfl) ?_
      go_wp2_with fail
      go_roundw
      case rel => exact ⟨j, by omega, rfl, by
        show JSt _ _ _ _ _ _ _
        rw [← HZ.out, ← HZB.out, ← HZT.out]
        exact HJ9.out.set zb zt⟩
      case measure => simp [intOf]
end Go.Proofs.Ytnjblppapmflhaa

/- Walks: division by the last prime. -/
namespace Go.Proofs.Ytnjblppapmflhaa
set_option linter.all false
open Go.RowKit Go.Shelf Go.WideNum PN
/-- A residue of the quotient by q. -/
def overD (p q r t : Nat) (d : Int) : Nat := (r + p - (d % (p : Int)).toNat * (t % p) % p) % p * invN (q % p) p % p
def overL (ps rs : List Nat) (d : Int) (t : Nat) : List Nat := (List.range (ps.length - 1)).map fun i => overD (ps.getD i 0) (ps.getD (ps.length - 1) 0) (rs.getD i 0) t d
set_option maxHeartbeats 8000000 in
theorem over_any (b : Nat) (ps rs : List Nat) (rv : Value) (d : Int) (t : Nat) (w : World) (hs : SysAt w b ps) (hsys : SysP ps) (hr : w.reads w.heap.size rv (rs.map u32V)) (hrow : RowP ps rs) (hd : -9223372036854775808 ≤ d ∧ d < 9223372036854775808) (ht : t < 4294967296) :
    Calls Try.prog 41 #[.pointer (some ⟨b, 0, none⟩), rv, .int .i64 d, .int .u32 (t : Int)] w (RowRet w (overL ps rs d t)) := by
  obtain ⟨HPOST, hpost⟩ : ∃ R, R = RowRet w (overL ps rs d t) := ⟨_, rfl⟩
  rw [← hpost]
  have HP := Lib.hid hpost
  clear hpost
  have hsep := hsys.sep
  have hlen := hsys.2.1
  have hn1 := hsys.1
  have HSEP := Lib.hid hsep
  have HROW := Lib.hid hrow
  obtain ⟨lv, iv, h1, h2, -⟩ := hs
  have hbw := lt_of_heap h1
  obtain ⟨c0, -⟩ := five_sys h1
  have hl1 := hr.le_map
  obtain ⟨pa, pc, rfl, hpc, hpm, hps⟩ := reads_u32 h2
  obtain ⟨ra, rc, rfl, hrc, hrm, hrs⟩ := reads_u32 hr
  have HS := Lib.hid hps
  have HR := Lib.hid hrs
  obtain ⟨m, hm⟩ : ∃ m, m = ps.length - 1 := ⟨_, rfl⟩
  have hn : ps.length = m + 1 := by omega
  have hlr : rs.length = m + 1 := by rw [hrow.1, hn]
  obtain ⟨q, hq⟩ : ∃ q, ps[m]? = some q := ⟨ps[m]'(by omega), List.getElem?_eq_getElem (by omega)⟩
  obtain ⟨bp, op, rfl, hbpl, dq⟩ := hps m q hq
  have hqp := hsep m q hq
  have HN := Lib.hid hn
  have HLR := Lib.hid hlr
  have HQ := Lib.hid hq
  rw [hn] at hpc c0
  rw [hlr] at hrc hl1 ⊢
  have hqb : q < 4294967296 := by have := hqp.2.2.1; omega
  have hmk := make_words m (by omega)
  have HC0 := Lib.hid c0
  have HDQ := Lib.hid dq
  have hm25 : m ≤ 24 := by omega
  have s1 : ((m + 1 : Nat) : Int) - 1 = (m : Int) := by omega
  have s2 : (m : Int) ≤ ((m + 1 : Nat) : Int) := by omega
  have s3 : (m : Int) < ((m + 1 : Nat) : Int) := by omega
  have s4 : m ≤ pc := by omega
  clear h1 h2 hr hps hrs hsep hrow hsys hlen hn1 hq hqp hlr hn hm dq
  go_enter Try.func41, Try.ntmps41
  go_upto_region 3 with (fail)
  generalize hwa : w.alloc (.cells (zrow m) 23) = wa
  have ha0 : wa.heap[w.heap.size]? = some (.cells (rowF (fun i => if i < 0 then overD (ps.getD i 0) q (rs.getD i 0) t d else 0) m) 23) := by rw [← hwa, rowF_congr (f' := fun _ => 0) (fun j _ => if_neg (by omega)), rowF_zero]; exact heap_alloc_new w _
  have hab : Below w.heap.size w wa := by rw [← hwa]; exact (Below.refl _ _).alloc (Nat.le_refl _) _
  clear hwa
  have c0 := (hab.cell (p := ⟨b, 0, none⟩) hbw).trans HC0.out
  have HA0 := Lib.hid ha0
  have HAB := Lib.hid hab
  clear ha0 hab
  go_wp2_with fail
  clear c0
  go_loopw [33] (fun iv wr => ∃ k : Nat, k ≤ m ∧ iv = .int .i64 (k : Int) ∧ Hid (wr.heap[w.heap.size]? = some (.cells (rowF (fun i => if i < k then overD (ps.getD i 0) q (rs.getD i 0) t d else 0) m) 23)) ∧ Hid (Below w.heap.size w wr)) (fun iv _ => m - (intOf iv).toNat)
  case atStart => exact ⟨0, Nat.zero_le _, rfl, HA0.out, HAB.out⟩
  case round =>
    obtain ⟨k, hk, rfl, hg, hb⟩ := hrel
    by_cases hlt : k < m
    · have hkp : k < ps.length := by rw [HN.out]; omega
      have hkr : k < rs.length := by rw [HLR.out]; omega
      obtain ⟨p, hp⟩ : ∃ p, ps[k]? = some p := ⟨ps[k], List.getElem?_eq_getElem hkp⟩
      obtain ⟨r, hr⟩ : ∃ r, rs[k]? = some r := ⟨rs[k], List.getElem?_eq_getElem hkr⟩
      obtain ⟨b2, o2, hpa2, hb2l, d2⟩ := HS.out k p hp
      injection hpa2 with hpa2
      injection hpa2 with hpa2 hpa3 _
      subst hpa2 hpa3
      obtain ⟨b1, o1, rfl, hb1l, d1⟩ := HR.out k r hr
      obtain ⟨p1, p2, p3, p4⟩ := HSEP.out k p hp
      have hp2 : 2 ≤ p := p1.1
      have hrp : r < p := HROW.out.2 k p r hp hr
      have hgq : Nat.gcd p (q % p) = 1 := by
        obtain ⟨q1, _, _, q4⟩ := HSEP.out m q HQ.out
        have hne : p ≠ q := fun e => q4 (by rw [← e]; exact List.mem_of_getElem? (by rw [List.getElem?_take, if_pos hlt]; exact hp))
        rw [Nat.gcd_comm, ← Nat.gcd_rec]
        exact pr_cop p1 q1 hne
      obtain ⟨a, ha⟩ : ∃ a : Nat, a = (d % (p : Int)).toNat := ⟨_, rfl⟩
      have hr0 := Int.emod_nonneg d (show (p : Int) ≠ 0 by omega)
      have hr1 := Int.emod_lt_of_pos d (show (0 : Int) < p by omega)
      have hxa : d % (p : Int) = (a : Int) := by omega
      have hap : a < p := by omega
      obtain ⟨tp, htp⟩ : ∃ z, z = t % p := ⟨_, rfl⟩
      have htpl : tp < p := by rw [htp]; exact Nat.mod_lt _ (by omega)
      obtain ⟨f, hf⟩ : ∃ f, f = a * tp % p := ⟨_, rfl⟩
      have hfl : f < p := by rw [hf]; exact Nat.mod_lt _ (by omega)
      obtain ⟨rest, hrest⟩ : ∃ z, z = (r + p - f) % p := ⟨_, rfl⟩
      have hrestl : rest < p := by rw [hrest]; exact Nat.mod_lt _ (by omega)
      obtain ⟨qp, hqp⟩ : ∃ z, z = q % p := ⟨_, rfl⟩
      have hqpl : qp < p := by rw [hqp]; exact Nat.mod_lt _ (by omega)
      obtain ⟨i1, i2, -⟩ := invN_spec hp2 (show p < 4294967296 by omega) hqpl (by rw [hqp]; exact hgq)
      obtain ⟨iv, hiv⟩ : ∃ z, z = invN qp p := ⟨_, rfl⟩
      rw [← hiv] at i1 i2
      obtain ⟨o, ho⟩ : ∃ z, z = rest * iv % p := ⟨_, rfl⟩
      have hol : o < p := by rw [ho]; exact Nat.mod_lt _ (by omega)
      have hval : Hid (o = overD (ps.getD k 0) q (rs.getD k 0) t d) := by
        show _ = _
        rw [getD_some hp, getD_some hr]
        unfold overD
        rw [← ha, ← htp, ← hf, ← hrest, ← hqp, ← hiv, ← ho]
      have hC1 := fun W => Of_in d p hd hp2 p3 a hxa W
      have hC2 := fun W => Mul_in a tp p hap htpl hp2 p3 W
      have hC3 := fun W => Sub_in r f p hrp hfl hp2 p3 W
      have hC4 := fun W => Inverse_in qp p iv hqpl hp2 p3 i1 i2 W
      have hC5 := fun W => Mul_in rest iv p hrestl i1 hp2 p3 W
      rw [← hf] at hC2
      rw [← hrest] at hC3
      rw [← ho] at hC5
      have HCA := Lib.hid hC1
      have HCB := Lib.hid hC2
      have HCC := Lib.hid hC3
      have HCD := Lib.hid hC4
      have HCE := Lib.hid hC5
      have e1 := (hb.out.cell (p := ⟨b1, o1 + k, none⟩) hb1l).trans d1
      have e2 := (hb.out.cell (p := ⟨bp, op + k, none⟩) hb2l).trans d2
      have n1 : ((p : Int) == 0) = false := by rw [beq_eq_false_iff_ne]; omega
      have n2 : (t : Int) % (p : Int) = (tp : Int) := by rw [htp]; simp
      have n3 : (q : Int) % (p : Int) = (qp : Int) := by rw [hqp]; simp
      have n4 : (k : Int) < (m : Int) := by omega
      have n5 : (k : Int) < ((m + 1 : Nat) : Int) := by omega
      have HD1 := Lib.hid d1
      clear ha htp hf hrest hqp hiv ho hxa hr0 hr1 hC1 hC2 hC3 hC4 hC5 hp hr hkp hkr p4 hgq i2 p1 p2 d2
      go_wp2_with fail
      (with_reducible refine (HCA.out _).mono ?_)
      rintro e w1 ⟨rfl, hb1⟩
      have HB1 := Lib.hid (hb.out.trans (hb1.mono hb.out.size))
      have HG1 := Lib.hid ((hb1.block _ (lt_of_heap hg.out)).trans hg.out)
      clear hb1 e1 e2
      go_wp2_with fail
      (with_reducible refine (HCB.out _).mono ?_)
      rintro e w2 ⟨rfl, hb2⟩
      have HB2 := Lib.hid (HB1.out.trans (hb2.mono HB1.out.size))
      have HG2 := Lib.hid ((hb2.block _ (lt_of_heap HG1.out)).trans HG1.out)
      have e1 := (HB2.out.cell (p := ⟨b1, o1 + k, none⟩) hb1l).trans HD1.out
      clear hb2
      go_wp2_with fail
      clear e1
      (with_reducible refine (HCC.out _).mono ?_)
      rintro e w3 ⟨rfl, hb3⟩
      have HB3 := Lib.hid (HB2.out.trans (hb3.mono HB2.out.size))
      have HG3 := Lib.hid ((hb3.block _ (lt_of_heap HG2.out)).trans HG2.out)
      have c0 := (HB3.out.cell (p := ⟨b, 0, none⟩) hbw).trans HC0.out
      have e2 := (HB3.out.cell (p := ⟨bp, op + m, none⟩) hbpl).trans HDQ.out
      clear hb3
      go_wp2_with fail
      clear c0 e2
      (with_reducible refine (HCD.out _).mono ?_)
      rintro e w4 ⟨rfl, hb4⟩
      have HB4 := Lib.hid (HB3.out.trans (hb4.mono HB3.out.size))
      have HG4 := Lib.hid ((hb4.block _ (lt_of_heap HG3.out)).trans HG3.out)
      clear hb4
      go_wp2_with fail
      (with_reducible refine (HCE.out _).mono ?_)
      rintro e w5 ⟨rfl, hb5⟩
      have HB5 := Lib.hid (HB4.out.trans (hb5.mono HB4.out.size))
      have hg5 := (hb5.block _ (lt_of_heap HG4.out)).trans HG4.out
      obtain ⟨gc, gf⟩ := rowF_cell hg5 k hlt
      have HG5 := Lib.hid hg5
      clear hb5 hg5
      go_wp2_with fail
      go_roundw
      case rel =>
        refine ⟨k + 1, by omega, by go_num, ?_, HB5.out.setCell (by simp) _⟩
        show _ = _
        have h5 := rowF_set (k := k) (f' := fun i => if i < k + 1 then overD (ps.getD i 0) q (rs.getD i 0) t d else 0) HG5.out (fun j hj hne => by
          by_cases h : j < k
          · rw [if_pos h, if_pos (by omega)]
          · rw [if_neg h, if_neg (by omega)])
        rw [show (if k < k + 1 then overD (ps.getD k 0) q (rs.getD k 0) t d else 0) = o by rw [if_pos (by omega)]; exact hval.out.symm] at h5
        exact h5
      case measure => simp [intOf]; omega
    · obtain rfl : k = m := by omega
      have hg2 := hg.out
      rw [rowF_congr (f' := fun i => overD (ps.getD i 0) q (rs.getD i 0) t d) (fun j hj => if_pos hj)] at hg2
      have HO := Lib.hid (rowF_owns (base := w.heap.size) hg2 (by omega) (by omega))
      clear hg2 hg
      go_wp2
      rw [HP.out]
      refine ⟨_, rfl, ?_, hb.out⟩
      have e1 : ps.length - 1 = k := by rw [HN.out]; omega
      have e2 : ps.getD k 0 = q := getD_some HQ.out
      unfold overL
      rw [List.length_map, List.length_range, e1, e2]
      exact HO.out
end Go.Proofs.Ytnjblppapmflhaa
