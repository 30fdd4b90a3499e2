/- Walks: integers of many words, by value: calls whose results lie in range. -/
import Derived.Test.YtnjblppapmflhaaXD4
import Derived.Test.YtnjblppapmflhaaWE1
import Derived.Test.YtnjblppapmflhaaWE3
import Derived.Test.YtnjblppapmflhaaXE4
import Derived.Test.YtnjblppapmflhaaXE5
import Derived.Test.YtnjblppapmflhaaXE7
import Derived.Test.YtnjblppapmflhaaXS1
import Derived.Test.YtnjblppapmflhaaXF23
namespace Go.Proofs.Ytnjblppapmflhaa
set_option linter.all false
open Go.RowKit Go.Shelf Go.WideNum
theorem div_all : DivAll := fun A C hC hla hlc => by
  by_cases hs : A < C ∨ C < 4294967296
  · exact divide_small A C hC hs (by omega) (by omega)
  · exact divide_big A C (by omega) (by omega) (by omega)
theorem div_valid (na : Bool) (sa : ByteArray) (nb : Bool) (sb : ByteArray) (ha : validB na sa = true) (hb : validB nb sb = true) (h0 : sb.size ≠ 0) : DivOK (numB sa) (numB sb) := by
  obtain ⟨l1, -, -, -⟩ := valid_spec na sa ha
  obtain ⟨l2, hmg, -, -⟩ := valid_spec nb sb hb
  have h1 := wd_len65 l1
  have h2 := wd_len65 l2
  exact div_all _ _ (fun h => by rw [h] at hmg; exact h0 (by rw [← hmg]; rfl)) (by omega) (by omega)
/-- The sign and the bytes of an integer's form. -/
def zN (z : Int) : Bool := decide (z < 0)
def zT (z : Int) : ByteArray := magB z.natAbs
def InR (z : Int) : Prop := z.natAbs < lim
theorem lim_words : lim = 4294967296 ^ 64 := by unfold lim; rw [show (4294967296 : Nat) = 256 ^ 4 by rfl, ← Nat.pow_mul]
theorem inR_of {z : Int} {k : Nat} (h : z.natAbs < 4294967296 ^ k) (hk : k ≤ 64) : InR z := by
  unfold InR
  rw [lim_words]
  exact Nat.lt_of_lt_of_le h (Nat.pow_le_pow_right (by omega) hk)
theorem inR_small {z : Int} (h : z.natAbs < 18446744073709551616) : InR z := inR_of (k := 2) (Nat.lt_of_lt_of_le h (by decide)) (by omega)
theorem outZ_zW {z : Int} (h : InR z) : outZ z = .agg #[.bool (zN z), .string (zT z)] ∧ errZ z = 0 := outZ_in z h
theorem z_valid {z : Int} (h : InR z) : validB (zN z) (zT z) = true ∧ zV (zN z) (zT z) = z := by
  obtain ⟨v1, v2⟩ := valid_magB (decide (z < 0)) z.natAbs h (fun hn => by have := of_decide_eq_true hn; omega)
  refine ⟨v1, ?_⟩
  unfold zV zOf zT zN
  rw [v2]
  by_cases hn : z < 0
  · rw [decide_eq_true hn, if_pos rfl]; omega
  · rw [decide_eq_false hn, if_neg (by decide)]; omega
theorem z_size {z : Int} (h : InR z) : (zT z).size ≤ maxLen := by
  have := (valid_spec _ _ (z_valid h).1).2.2.2
  unfold maxLen; omega
theorem z_of_valid {n : Bool} {s : ByteArray} (h : validB n s = true) : InR (zV n s) ∧ zN (zV n s) = n ∧ zT (zV n s) = s := by
  obtain ⟨h1, h2, h3⟩ := valid_out n s h
  refine ⟨h3, ?_⟩
  have h4 := (outZ_zW h3).1
  rw [h1] at h4
  injection h4 with h4
  injection h4 with h4
  injection h4 with h5 h6
  injection h6 with h6 _
  injection h5 with h5
  injection h6 with h6
  exact ⟨h5.symm, h6.symm⟩
theorem zT_inj {a b : Int} (h1 : zN a = zN b) (h2 : zT a = zT b) : a = b := by
  have h3 := magB_inj h2
  unfold zN at h1
  rw [decide_eq_decide] at h1
  omega
theorem opF_z (f : Int → Int → Int) {x y : Int} (hx : InR x) (hy : InR y) (h : InR (f x y)) : opF f (zN x) (zT x) (zN y) (zT y) = (.agg #[.bool (zN (f x y)), .string (zT (f x y))], 0) := by
  unfold opF
  rw [(z_valid hx).1, (z_valid hy).1, (z_valid hx).2, (z_valid hy).2, if_pos (by rfl), (outZ_zW h).1, (outZ_zW h).2]
/-- A form and no error. -/
def WideOk (z : Int) (w : World) (e : Ending) (w' : World) : Prop := e = .returned (.tuple #[.agg #[.bool (zN z), .string (zT z)], .int .i64 0]) ∧ Below w.heap.size w w'
theorem Mul_z (x y : Int) (hx : InR x) (hy : InR y) (h : InR (x * y)) (w : World) :
    Calls Try.prog 51 #[.agg #[.bool (zN x), .string (zT x)], .agg #[.bool (zN y), .string (zT y)]] w (WideOk (x * y) w) := by
  have := Mul_any (zN x) (zT x) (zN y) (zT y) (z_size hx) (z_size hy) w
  rwa [opF_z (fun a b => a * b) hx hy h] at this
theorem Add_z (x y : Int) (hx : InR x) (hy : InR y) (h : InR (x + y)) (w : World) :
    Calls Try.prog 81 #[.agg #[.bool (zN x), .string (zT x)], .agg #[.bool (zN y), .string (zT y)]] w (WideOk (x + y) w) := by
  have := Add_any (zN x) (zT x) (zN y) (zT y) (z_size hx) (z_size hy) w
  rwa [opF_z (fun a b => a + b) hx hy h] at this
theorem refMul_z (x y : Int) (hx : InR x) (hy : InR y) (h : InR (x * y)) (w : World) :
    Calls Try.prog 28 #[.agg #[.bool (zN x), .string (zT x)], .agg #[.bool (zN y), .string (zT y)]] w (WideOk (x * y) w) :=
  refMul_any (zN x) (zT x) (zN y) (zT y) (z_size hx) (z_size hy) _ _ _ (opF_z (fun a b => a * b) hx hy h) w
theorem refAdd_z (x y : Int) (hx : InR x) (hy : InR y) (h : InR (x + y)) (w : World) :
    Calls Try.prog 23 #[.agg #[.bool (zN x), .string (zT x)], .agg #[.bool (zN y), .string (zT y)]] w (WideOk (x + y) w) :=
  refAdd_any (zN x) (zT x) (zN y) (zT y) (z_size hx) (z_size hy) _ _ _ (opF_z (fun a b => a + b) hx hy h) w
theorem refSub_z (x y : Int) (hx : InR x) (hy : InR y) (h : InR (x - y)) (w : World) :
    Calls Try.prog 29 #[.agg #[.bool (zN x), .string (zT x)], .agg #[.bool (zN y), .string (zT y)]] w (WideOk (x - y) w) :=
  refSub_any (zN x) (zT x) (zN y) (zT y) (z_size hx) (z_size hy) _ _ _ (opF_z (fun a b => a - b) hx hy h) w
theorem Of_z (n : Int) (h1 : -9223372036854775808 ≤ n) (h2 : n < 9223372036854775808) (w : World) :
    Calls Try.prog 37 #[.int .i64 n] w fun e w' => e = .returned (.agg #[.bool (zN n), .string (zT n)]) ∧ Below w.heap.size w w' := by
  have := Of_any n h1 h2 w
  rwa [(outZ_zW (inR_small (by omega))).1] at this
theorem refOf_z (n : Int) (h1 : -9223372036854775808 ≤ n) (h2 : n < 9223372036854775808) (w : World) :
    Calls Try.prog 24 #[.int .i64 n] w fun e w' => e = .returned (.agg #[.bool (zN n), .string (zT n)]) ∧ Below w.heap.size w w' :=
  refOf_any n h1 h2 _ _ (outZ_zW (inR_small (by omega))).1 w
theorem pos_of {m : Int} (h : InR m) (h0 : 0 < m) : posB (zN m) (zT m) = true := by
  unfold posB
  have h1 := (z_valid h).1
  have h2 : zN m = false := decide_eq_false (by omega)
  have h3 : (zT m).size ≠ 0 := fun h3 => by
    have h4 := (z_valid h).2
    have h5 : zT m = ⟨#[]⟩ := by
      apply ByteArray.ext
      exact Array.eq_empty_of_size_eq_zero h3
    rw [h5, h2] at h4
    have : zV false ⟨#[]⟩ = 0 := by kernel_rfl
    omega
  rw [h2] at h1 ⊢
  simp [h1, h3]
theorem balZ_abs (x m : Int) (h0 : 0 < m) : -m < balZ x m ∧ balZ x m < m := by
  have h1 := Int.emod_nonneg x (show m ≠ 0 by omega)
  have h2 := Int.emod_lt_of_pos x h0
  unfold balZ
  split <;> omega
theorem balF_z {x m : Int} (hx : InR x) (hm : InR m) (h0 : 0 < m) : balF (zN x) (zT x) (zN m) (zT m) = (.agg #[.bool (zN (balZ x m)), .string (zT (balZ x m))], 0) := by
  have hb := balZ_abs x m h0
  have hr : InR (balZ x m) := by unfold InR at *; omega
  unfold balF
  rw [(z_valid hx).1, pos_of hm h0, (z_valid hx).2, (z_valid hm).2, if_pos (by rfl), (outZ_zW hr).1, (outZ_zW hr).2]
theorem Balanced_z (x m : Int) (hx : InR x) (hm : InR m) (h0 : 0 < m) (w : World) :
    Calls Try.prog 82 #[.agg #[.bool (zN x), .string (zT x)], .agg #[.bool (zN m), .string (zT m)]] w (WideOk (balZ x m) w) := by
  have := Balanced_any (zN x) (zT x) (zN m) (zT m) (z_size hx) (z_size hm) (div_valid _ _ _ _) w
  rwa [balF_z hx hm h0] at this
theorem refBalanced_z (x m : Int) (hx : InR x) (hm : InR m) (h0 : 0 < m) (w : World) :
    Calls Try.prog 34 #[.agg #[.bool (zN x), .string (zT x)], .agg #[.bool (zN m), .string (zT m)]] w (WideOk (balZ x m) w) :=
  refBalanced_any (zN x) (zT x) (zN m) (zT m) (z_size hx) (z_size hm) _ _ _ (balF_z hx hm h0) w
theorem modF_z {x : Int} {n r : Nat} (hx : InR x) (h0 : 0 < n) (hr : x % (n : Int) = (r : Int)) : modF (zN x) (zT x) n = (r, 0) := by
  unfold modF
  have h1 := (floor_z (numB (zT x)) (zN x) n false (by omega)).2
  have h2 : zOf (zN x) (numB (zT x)) = x := (z_valid hx).2
  rw [h2, show zOf false n = (n : Int) by rfl, hr] at h1
  rw [(z_valid hx).1, decide_eq_true (show n ≠ 0 by omega), if_pos (by rfl)]
  congr 1
  omega
theorem Mod_z (x : Int) (n r : Nat) (hx : InR x) (h0 : 0 < n) (hn : n < 4294967296) (hr : x % (n : Int) = (r : Int)) (w : World) :
    Calls Try.prog 79 #[.agg #[.bool (zN x), .string (zT x)], .int .u32 (n : Int)] w fun e w' => e = .returned (.tuple #[.int .u32 (r : Int), .int .i64 0]) ∧ Below w.heap.size w w' :=
  Mod_any (zN x) (zT x) (z_size hx) n hn r 0 (modF_z hx h0 hr) w
theorem refMod_z (x : Int) (n r : Nat) (hx : InR x) (h0 : 0 < n) (hn : n < 4294967296) (hr : x % (n : Int) = (r : Int)) (w : World) :
    Calls Try.prog 62 #[.agg #[.bool (zN x), .string (zT x)], .int .u32 (n : Int)] w fun e w' => e = .returned (.tuple #[.int .u32 (r : Int), .int .i64 0]) ∧ Below w.heap.size w w' :=
  refMod_any (zN x) (zT x) (z_size hx) n hn r 0 (modF_z hx h0 hr) w
theorem size_pos {m : Int} (h : InR m) (h0 : 0 < m) : (zT m).size ≠ 0 := by
  have := pos_of h h0
  unfold posB at this
  rw [Bool.and_eq_true, Bool.and_eq_true] at this
  exact of_decide_eq_true this.2.1
theorem ediv_abs (x m : Int) (h0 : 0 < m) : (x / m).natAbs ≤ x.natAbs := by
  have h1 := Int.mul_ediv_add_emod x m
  have h2 := Int.emod_nonneg x (show m ≠ 0 by omega)
  have h3 := Int.emod_lt_of_pos x h0
  rcases Int.lt_or_le (x / m) 0 with h | h
  · have h4 : m * (x / m + 1) ≤ 1 * (x / m + 1) := Int.mul_le_mul_of_nonpos_right (by omega) (by omega)
    rw [Int.mul_add, Int.mul_one] at h4
    rcases Int.lt_or_le x 0 with h5 | h5
    · omega
    · have := Int.ediv_nonneg h5 (show 0 ≤ m by omega); omega
  · have h4 : 1 * (x / m) ≤ m * (x / m) := Int.mul_le_mul_of_nonneg_right (by omega) h
    omega
theorem refDiv_z (x m : Int) (hx : InR x) (hm : InR m) (h0 : 0 < m) (w : World) :
    Calls Try.prog 25 #[.agg #[.bool (zN x), .string (zT x)], .agg #[.bool (zN m), .string (zT m)]] w fun e w' => e = .returned (.tuple #[.agg #[.bool (zN (x / m)), .string (zT (x / m))], .agg #[.bool (zN (x % m)), .string (zT (x % m))], .int .i64 0]) ∧ Below w.heap.size w w' := by
  have hq : InR (x / m) := by have := ediv_abs x m h0; unfold InR at *; omega
  have hr : InR (x % m) := by
    have h2 := Int.emod_nonneg x (show m ≠ 0 by omega)
    have h3 := Int.emod_lt_of_pos x h0
    unfold InR at *; omega
  refine refDiv_any (zN x) (zT x) (zN m) (zT m) (z_size hx) (z_size hm) _ _ _ _ _ ?_ w
  unfold divF
  rw [(z_valid hx).1, (z_valid hm).1, (z_valid hx).2, (z_valid hm).2, decide_eq_true (size_pos hm h0), if_pos (by rfl), (outZ_zW hq).1, (outZ_zW hq).2, (outZ_zW hr).1]
end Go.Proofs.Ytnjblppapmflhaa
