/- The permutation is injective. -/
import Derived.Test.YtfiajfjaamfeoaaPlain
namespace Go
/-- f + its shifts by a and b. -/
def lin3 (a b : Nat) (f : Nat → Bool) : Nat → Bool := fun i => (f i ^^ f (i + a)) ^^ f (i + b)
theorem lin3_twice (a b : Nat) (f : Nat → Bool) : lin3 a b (lin3 a b f) = lin3 (2 * a) (2 * b) f := by
  funext i
  simp only [lin3]
  rw [show i + a + a = i + 2 * a by omega, show i + b + b = i + 2 * b by omega, show i + b + a = i + a + b by omega]
  generalize f i = p0
  generalize f (i + a) = p1
  generalize f (i + b) = p2
  generalize f (i + 2 * a) = p3
  generalize f (i + a + b) = p4
  generalize f (i + 2 * b) = p5
  revert p0 p1 p2 p3 p4 p5
  decide
theorem lin3_pow (a b : Nat) (f g : Nat → Bool) (h : lin3 a b f = lin3 a b g) : ∀ k, lin3 (2 ^ k * a) (2 ^ k * b) f = lin3 (2 ^ k * a) (2 ^ k * b) g
  | 0 => by simpa using h
  | k + 1 => by
    have ih := lin3_pow a b f g h k
    have h1 := lin3_twice (2 ^ k * a) (2 ^ k * b) f
    have h2 := lin3_twice (2 ^ k * a) (2 ^ k * b) g
    rw [ih, h2] at h1
    rw [show 2 ^ (k + 1) * a = 2 * (2 ^ k * a) by rw [Nat.pow_succ, Nat.mul_comm (2 ^ k) 2, Nat.mul_assoc], show 2 ^ (k + 1) * b = 2 * (2 ^ k * b) by rw [Nat.pow_succ, Nat.mul_comm (2 ^ k) 2, Nat.mul_assoc]]
    exact h1.symm
theorem lin3_inj (a b : Nat) (f g : Nat → Bool) (hf : ∀ i, f (i + 64) = f i) (hg : ∀ i, g (i + 64) = g i) (h : lin3 a b f = lin3 a b g) : f = g := by
  have per : ∀ (f : Nat → Bool), (∀ i, f (i + 64) = f i) → ∀ k i, f (i + 64 * k) = f i := by
    intro f hf k
    induction k with
    | zero => intro i; rfl
    | succ k ih => intro i; rw [show i + 64 * (k + 1) = (i + 64 * k) + 64 by omega, hf, ih]
  have h6 := lin3_pow a b f g h 6
  funext i
  have h7 := congrFun h6 i
  simp only [lin3, show (2 : Nat) ^ 6 = 64 from rfl, per f hf, per g hg] at h7
  revert h7
  generalize f i = p
  generalize g i = q
  revert p q
  decide
/-- The bits of a word, again and again. -/
def bitsOf (x : BitVec 64) : Nat → Bool := fun i => x.getLsbD (i % 64)
theorem bitsOf_inj {x y : BitVec 64} (h : bitsOf x = bitsOf y) : x = y := by
  apply BitVec.eq_of_getLsbD_eq
  intro i hi
  have := congrFun h i
  simpa [bitsOf, Nat.mod_eq_of_lt hi] using this
theorem bitsOf_rotr (x : BitVec 64) (k : Nat) (hk : 0 < k ∧ k < 64) (i : Nat) : bitsOf (rotr x k) i = bitsOf x (i + k) := by
  have hj : i % 64 < 64 := Nat.mod_lt _ (by decide)
  simp only [bitsOf, rotr, wor, wshr, wshl, BitVec.getLsbD_or, BitVec.getLsbD_ushiftRight, BitVec.getLsbD_shiftLeft]
  by_cases h : i % 64 + k < 64
  · rw [show (i + k) % 64 = k + i % 64 by omega]
    have : i % 64 < 64 - k := by omega
    simp [this]
  · rw [show (i + k) % 64 = i % 64 - (64 - k) by omega, BitVec.getLsbD_of_ge x (k + i % 64) (by omega)]
    have : ¬ i % 64 < 64 - k := by omega
    simp [this, hj]
theorem bitsOf_xor (x y : BitVec 64) (i : Nat) : bitsOf (wxor x y) i = (bitsOf x i ^^ bitsOf y i) := by
  simp [bitsOf, wxor]
theorem turn_inj {x y : BitVec 64} (a b : Nat) (ha : 0 < a ∧ a < 64) (hb : 0 < b ∧ b < 64) (h : turn x a b = turn y a b) : x = y := by
  apply bitsOf_inj
  apply lin3_inj a b
  · intro i; simp [bitsOf]
  · intro i; simp [bitsOf]
  · funext i
    have := congrArg (fun z => bitsOf z i) h
    simp only [turn, bitsOf_xor, bitsOf_rotr _ _ ha, bitsOf_rotr _ _ hb] at this
    exact this
theorem St.ext' {x y : St} (ha : x.a = y.a) (hb : x.b = y.b) (hc : x.c = y.c) (hd : x.d = y.d) (he : x.e = y.e) : x = y := by
  cases x; cases y; simp_all
theorem lin_inj {x y : St} (h : x.lin = y.lin) : x = y := by
  have ha := congrArg St.a h
  have hb := congrArg St.b h
  have hc := congrArg St.c h
  have hd := congrArg St.d h
  have he := congrArg St.e h
  exact St.ext' (turn_inj 19 28 (by omega) (by omega) ha) (turn_inj 61 39 (by omega) (by omega) hb) (turn_inj 1 6 (by omega) (by omega) hc) (turn_inj 10 17 (by omega) (by omega) hd) (turn_inj 7 41 (by omega) (by omega) he)
theorem wxor_cancel {x y k : BitVec 64} (h : wxor x k = wxor y k) : x = y := by
  have := congrArg (fun z => z ^^^ k) h
  simpa [wxor, BitVec.xor_assoc] using this
theorem wnot_inj {x y : BitVec 64} (h : wnot x = wnot y) : x = y := by
  have := congrArg (fun z => ~~~z) h
  simpa [wnot] using this
theorem sub_inj {x y : St} (h : x.sub = y.sub) : x = y := by
  have ha := congrArg St.a h
  have hb := congrArg St.b h
  have hc := congrArg St.c h
  have hd := congrArg St.d h
  have he := congrArg St.e h
  simp only [St.sub] at ha hb hc hd he
  have e5 : x.e = y.e := he
  rw [e5] at ha
  have e1 := wxor_cancel ha
  rw [e1] at hb
  have e2 := wxor_cancel hb
  have e3 := wnot_inj hc
  rw [e3] at hd
  exact St.ext' e1 e2 e3 (wxor_cancel hd) e5
/-- The second and third step, bit by bit. -/
def mixB (a b c d e k : Bool) : Bool × Bool × Bool × Bool × Bool :=
  let a1 := a ^^ e
  let c1 := (c ^^ k) ^^ b
  let e1 := e ^^ d
  (a1 ^^ (!b && c1), b ^^ (!c1 && d), c1 ^^ (!d && e1), d ^^ (!e1 && a1), e1 ^^ (!a1 && b))
def bools : List Bool := [false, true]
theorem mem_bools (b : Bool) : b ∈ bools := by cases b <;> decide
def mixOne (k a b c d e : Bool) : Bool :=
  bools.all fun a' => bools.all fun b' => bools.all fun c' => bools.all fun d' => bools.all fun e' =>
    !(mixB a b c d e k == mixB a' b' c' d' e' k) || (a == a' && b == b' && c == c' && d == d' && e == e')
theorem mixOne_all : ∀ k a b c d e : Bool, mixOne k a b c d e = true := by decide +kernel
theorem mixB_inj (k a b c d e a' b' c' d' e' : Bool) (h : mixB a b c d e k = mixB a' b' c' d' e' k) : a = a' ∧ b = b' ∧ c = c' ∧ d = d' ∧ e = e' := by
  have h1 := mixOne_all k a b c d e
  unfold mixOne at h1
  have h2 := List.all_eq_true.1 (List.all_eq_true.1 (List.all_eq_true.1 (List.all_eq_true.1 (List.all_eq_true.1 h1 a' (mem_bools _)) b' (mem_bools _)) c' (mem_bools _)) d' (mem_bools _)) e' (mem_bools _)
  rw [h] at h2
  simp only [beq_self_eq_true, Bool.not_true, Bool.false_or, Bool.and_eq_true, beq_iff_eq] at h2
  exact ⟨h2.1.1.1.1, h2.1.1.1.2, h2.1.1.2, h2.1.2, h2.2⟩
theorem mix_bits (x : St) (k : BitVec 64) (i : Nat) (hi : i < 64) : ((x.mix k).a.getLsbD i, (x.mix k).b.getLsbD i, (x.mix k).c.getLsbD i, (x.mix k).d.getLsbD i, (x.mix k).e.getLsbD i) =
    mixB (x.a.getLsbD i) (x.b.getLsbD i) (x.c.getLsbD i) (x.d.getLsbD i) (x.e.getLsbD i) (k.getLsbD i) := by
  simp [St.mix, wxor, wand, wnot, mixB, hi]
theorem mix_inj {x y : St} (k : BitVec 64) (h : x.mix k = y.mix k) : x = y := by
  have key : ∀ i, i < 64 → x.a.getLsbD i = y.a.getLsbD i ∧ x.b.getLsbD i = y.b.getLsbD i ∧ x.c.getLsbD i = y.c.getLsbD i ∧ x.d.getLsbD i = y.d.getLsbD i ∧ x.e.getLsbD i = y.e.getLsbD i := by
    intro i hi
    have h1 := mix_bits x k i hi
    have h2 := mix_bits y k i hi
    rw [h, h2] at h1
    exact mixB_inj _ _ _ _ _ _ _ _ _ _ _ h1.symm
  exact St.ext' (BitVec.eq_of_getLsbD_eq fun i hi => (key i hi).1) (BitVec.eq_of_getLsbD_eq fun i hi => (key i hi).2.1) (BitVec.eq_of_getLsbD_eq fun i hi => (key i hi).2.2.1)
    (BitVec.eq_of_getLsbD_eq fun i hi => (key i hi).2.2.2.1) (BitVec.eq_of_getLsbD_eq fun i hi => (key i hi).2.2.2.2)
theorem round_inj {x y : St} (k : BitVec 64) (h : x.round k = y.round k) : x = y := mix_inj k (sub_inj (lin_inj h))
theorem perm_inj : ∀ (k : Nat) {x y : St}, St.perm k x = St.perm k y → x = y
  | 0, _, _, h => h
  | k + 1, _, _, h => round_inj _ (perm_inj k h)
end Go
