/- Wide integers: helpers and walks, in one text (KC1 KC2). -/
import Derived.Test.YtnjblppapmflhaaKAA
/- Plain: systems of primes; the integer with given residues. -/
namespace Go.Proofs.Ytnjblppapmflhaa
set_option linter.all false
open Go.RowKit PN
/-- Congruence. -/
def Cg (m : Nat) (a b : Int) : Prop := (m : Int) ∣ a - b
theorem Cg.refl (m : Nat) (a : Int) : Cg m a a := ⟨0, by omega⟩
theorem Cg.symm {m : Nat} {a b : Int} (h : Cg m a b) : Cg m b a := by
  obtain ⟨c, hc⟩ := h; exact ⟨-c, by rw [Int.mul_neg]; omega⟩
theorem Cg.trans {m : Nat} {a b c : Int} (h : Cg m a b) (k : Cg m b c) : Cg m a c := by
  obtain ⟨x, hx⟩ := h; obtain ⟨y, hy⟩ := k; exact ⟨x + y, by rw [Int.mul_add]; omega⟩
theorem Cg.add {m : Nat} {a b c d : Int} (h : Cg m a b) (k : Cg m c d) : Cg m (a + c) (b + d) := by
  obtain ⟨x, hx⟩ := h; obtain ⟨y, hy⟩ := k; exact ⟨x + y, by rw [Int.mul_add]; omega⟩
theorem Cg.neg {m : Nat} {a b : Int} (h : Cg m a b) : Cg m (-a) (-b) := by
  obtain ⟨x, hx⟩ := h; exact ⟨-x, by rw [Int.mul_neg]; omega⟩
theorem Cg.sub {m : Nat} {a b c d : Int} (h : Cg m a b) (k : Cg m c d) : Cg m (a - c) (b - d) := by
  have := h.add k.neg
  rwa [← Int.sub_eq_add_neg, ← Int.sub_eq_add_neg] at this
theorem Cg.mul {m : Nat} {a b c d : Int} (h : Cg m a b) (k : Cg m c d) : Cg m (a * c) (b * d) := by
  have h1 : (m : Int) ∣ a * (c - d) := dvdM a k
  have h2 : (m : Int) ∣ d * (a - b) := dvdM d h
  have h3 := Int.dvd_add h1 h2
  unfold Cg
  rwa [show a * (c - d) + d * (a - b) = a * c - b * d by rw [Int.mul_sub, Int.mul_sub, Int.mul_comm d a, Int.mul_comm d b]; omega] at h3
theorem Cg.of_mod {m : Nat} {a : Int} : Cg m (a % m) a := by
  have := Int.mul_ediv_add_emod a m
  exact ⟨-(a / m), by rw [Int.mul_neg]; omega⟩
theorem Cg.modN {m a : Nat} : Cg m ((a % m : Nat) : Int) a := by
  rw [Int.natCast_emod]; exact Cg.of_mod
theorem Cg.zero {m : Nat} : Cg m (m : Int) 0 := ⟨1, by omega⟩
theorem Cg.emod {m : Nat} {a b : Int} (h : Cg m a b) : a % m = b % m := Int.emod_eq_emod_iff_emod_sub_eq_zero.2 (Int.emod_eq_zero_of_dvd h)
theorem Cg.eqN {m a b : Nat} (h : Cg m (a : Int) (b : Int)) (ha : a < m) (hb : b < m) : a = b := by
  obtain ⟨c, hc⟩ := h
  rcases Int.lt_or_le c 0 with h1 | h1
  · have : (m : Int) * c ≤ (m : Int) * (-1) := Int.mul_le_mul_of_nonneg_left (by omega) (by omega)
    omega
  · rcases Int.lt_or_le 0 c with h2 | h2
    · have : (m : Int) * 1 ≤ (m : Int) * c := Int.mul_le_mul_of_nonneg_left (by omega) (by omega)
      omega
    · have : c = 0 := by omega
      subst this
      omega
theorem Cg.cancel {m a : Nat} {b c : Int} (hg : Nat.Coprime m a) (h : Cg m ((a : Int) * b) ((a : Int) * c)) : Cg m b c := by
  unfold Cg at *
  rw [← Int.mul_sub] at h
  have h1 := Int.natAbs_dvd_natAbs.2 h
  rw [Int.natAbs_mul, Int.natAbs_natCast, Int.natAbs_natCast] at h1
  have h2 := hg.dvd_of_dvd_mul_left h1
  exact Int.natAbs_dvd_natAbs.1 (by rwa [Int.natAbs_natCast])
/-- The inverse of a residue. -/
def invN (a n : Nat) : Nat := (invX n a 0 1 % (n : Int)).toNat
theorem invN_spec {a n : Nat} (h2 : 2 ≤ n) (hn : n < 4294967296) (ha : a < n) (hg : Nat.gcd n a = 1) : invN a n < n ∧ a * invN a n % n = 1 ∧ Cg n ((a : Int) * (invN a n : Nat)) 1 := by
  obtain ⟨u, q1, q2, q3, q4⟩ := invX_spec (m := n) (a := a) hn a a n 0 1 0 1 (Nat.le_refl _) ha (by omega) (by omega) (Or.inl ⟨rfl, rfl⟩) ⟨-1, by omega⟩ ⟨0, by omega⟩
  rw [hg] at q4
  unfold invN
  rw [q1]
  have h3 := Int.emod_nonneg u (show (n : Int) ≠ 0 by omega)
  have h4 := Int.emod_lt_of_pos u (show (0 : Int) < n by omega)
  obtain ⟨x, hx⟩ : ∃ x : Nat, x = (u % (n : Int)).toNat := ⟨_, rfl⟩
  have hx2 : (x : Int) = u % (n : Int) := by omega
  rw [← hx]
  have h5 : Cg n ((a : Int) * (x : Int)) 1 := by
    have h6 : Cg n ((x : Int) * a) (u * a) := (by rw [hx2]; exact Cg.of_mod : Cg n (x : Int) u).mul (Cg.refl n a)
    have h7 : Cg n (u * a) 1 := q4
    rw [Int.mul_comm]
    exact h6.trans h7
  refine ⟨by omega, ?_, h5⟩
  have h6 : Cg n ((a * x % n : Nat) : Int) ((1 : Nat) : Int) := Cg.modN.trans (by rw [Int.natCast_mul]; exact h5)
  exact h6.eqN (Nat.mod_lt _ (by omega)) (by omega)
/-! ### Lists of primes -/
def prodL : List Nat → Nat
  | [] => 1
  | p :: l => p * prodL l
theorem prodL_append (l m : List Nat) : prodL (l ++ m) = prodL l * prodL m := by
  induction l with
  | nil => simp [prodL]
  | cons p l ih => simp [prodL, ih, Nat.mul_assoc]
theorem prodL_snoc (l : List Nat) (p : Nat) : prodL (l ++ [p]) = prodL l * p := by rw [prodL_append]; simp [prodL]
theorem prodL_pos {l : List Nat} (h : ∀ p ∈ l, 0 < p) : 0 < prodL l := by
  induction l with
  | nil => simp [prodL]
  | cons p l ih => exact Nat.mul_pos (h p (by simp)) (ih fun q hq => h q (by simp [hq]))
theorem prodL_lt {l : List Nat} (h : ∀ p ∈ l, p < 4294967296) : prodL l ≤ 4294967296 ^ l.length := by
  induction l with
  | nil => simp [prodL]
  | cons p l ih =>
    rw [List.length_cons, Nat.pow_succ']
    exact Nat.mul_le_mul (Nat.le_of_lt (h p (by simp))) (ih fun q hq => h q (by simp [hq]))
/-- What a system asks of one more number. -/
def OkAt (l : List Nat) (p : Nat) : Prop := p % 2 = 1 ∧ p ≤ 2147483647 ∧ p ∉ l ∧ PrimeP p
/-- The first numbers are those of a system. -/
def SysTo (ps : List Nat) (k : Nat) : Prop := ∀ i, i < k → ∀ p, ps[i]? = some p → OkAt (ps.take i) p
def SysP (ps : List Nat) : Prop := 1 ≤ ps.length ∧ ps.length ≤ 25 ∧ SysTo ps ps.length
/-- Different odd primes. -/
def Sep (ps : List Nat) : Prop := ∀ i p, ps[i]? = some p → Pr p ∧ p % 2 = 1 ∧ p ≤ 2147483647 ∧ p ∉ ps.take i
theorem SysP.sep {ps : List Nat} (h : SysP ps) : Sep ps := by
  intro i p hp
  obtain ⟨h1, h2, h3, h4⟩ := h.2.2 i (List.getElem?_eq_some_iff.1 hp).1 p hp
  exact ⟨h4.pr (by omega), h1, h2, h3⟩
theorem Sep.take {ps : List Nat} (h : Sep ps) (k : Nat) : Sep (ps.take k) := by
  intro i p hp
  rw [List.getElem?_take] at hp
  split at hp
  · rename_i hik
    obtain ⟨h1, h2, h3, h4⟩ := h i p hp
    refine ⟨h1, h2, h3, ?_⟩
    rwa [List.take_take, Nat.min_eq_left (by omega)]
  · cases hp
theorem Sep.mem {ps : List Nat} (h : Sep ps) {p : Nat} (hp : p ∈ ps) : Pr p ∧ p % 2 = 1 ∧ p ≤ 2147483647 := by
  obtain ⟨i, hi⟩ := List.mem_iff_getElem?.1 hp
  obtain ⟨h1, h2, h3, -⟩ := h i p hi
  exact ⟨h1, h2, h3⟩
theorem Sep.big {ps : List Nat} (h : Sep ps) {p : Nat} (hp : p ∈ ps) : 3 ≤ p := by
  obtain ⟨h1, h2, -⟩ := h.mem hp
  have := h1.1
  omega
theorem pr_cop {p q : Nat} (hp : Pr p) (hq : Pr q) (hne : p ≠ q) : Nat.Coprime p q := hp.cop fun hd => hne (hp.eq_of_dvd hq hd)
theorem cop_prodL {p : Nat} {l : List Nat} (hp : Pr p) (h : ∀ q ∈ l, Pr q) (hn : p ∉ l) : Nat.Coprime p (prodL l) := by
  induction l with
  | nil => simp [prodL]
  | cons q l ih =>
    simp only [List.mem_cons, not_or] at hn
    exact Nat.Coprime.mul_right (pr_cop hp (h q (by simp)) hn.1) (ih (fun r hr => h r (by simp [hr])) hn.2)
theorem take_succ' {ps : List Nat} {i p : Nat} (h : ps[i]? = some p) : ps.take (i + 1) = ps.take i ++ [p] := by
  rw [List.take_add_one, h]; rfl
/-- What all primes divide, their product divides. -/
theorem Sep.dvd {ps : List Nat} (h : Sep ps) (z : Int) (hz : ∀ p ∈ ps, (p : Int) ∣ z) : ((prodL ps : Nat) : Int) ∣ z := by
  have key : ∀ k, k ≤ ps.length → ((prodL (ps.take k) : Nat) : Int) ∣ z := by
    intro k
    induction k with
    | zero => intro _; simp [prodL]
    | succ k ih =>
      intro hk
      have hp : ps[k]? = some ps[k] := List.getElem?_eq_getElem (by omega)
      rw [take_succ' hp, prodL_snoc]
      obtain ⟨h1, _, _, h4⟩ := h k _ hp
      have h5 := cop_prodL h1 (fun q hq => (h.mem (List.mem_of_mem_take hq)).1) h4
      have h6 := Int.natAbs_dvd_natAbs.2 (ih (by omega))
      have h7 := Int.natAbs_dvd_natAbs.2 (hz _ (List.mem_of_getElem? hp))
      rw [Int.natAbs_natCast] at h6 h7
      have h8 := Nat.Coprime.mul_dvd_of_dvd_of_dvd (Nat.coprime_comm.1 h5) h6 h7
      exact Int.natAbs_dvd_natAbs.1 (by rwa [Int.natAbs_natCast])
  have := key ps.length (Nat.le_refl _)
  rwa [List.take_length] at this
/-- x is the number from 0 on with the residues. -/
def IsCrt (ps rs : List Nat) (x : Nat) : Prop := x < prodL ps ∧ ∀ i p r : Nat, ps[i]? = some p → rs[i]? = some r → Cg p (x : Int) (r : Int)
theorem IsCrt.uniq {ps rs : List Nat} (hs : Sep ps) (hl : rs.length = ps.length) {x y : Nat} (hx : IsCrt ps rs x) (hy : IsCrt ps rs y) : x = y := by
  have h1 : Cg (prodL ps) (x : Int) (y : Int) := hs.dvd _ fun p hp => by
    obtain ⟨i, hi⟩ := List.mem_iff_getElem?.1 hp
    have hil : i < rs.length := by rw [hl]; exact (List.getElem?_eq_some_iff.1 hi).1
    have hr : rs[i]? = some rs[i] := List.getElem?_eq_getElem hil
    exact (hx.2 i p _ hi hr).trans (hy.2 i p _ hi hr).symm
  exact h1.eqN hx.1 hy.1
/-- One more residue. -/
theorem IsCrt.step {ps rs : List Nat} {i p r x d : Nat} (hs : Sep ps) (hp : ps[i]? = some p) (hr : rs[i]? = some r) (hx : IsCrt (ps.take i) (rs.take i) x) (hd : d < p) (hc : Cg p ((x + prodL (ps.take i) * d : Nat) : Int) (r : Int)) :
    IsCrt (ps.take (i + 1)) (rs.take (i + 1)) (x + prodL (ps.take i) * d) := by
  have hpl : i < ps.length := (List.getElem?_eq_some_iff.1 hp).1
  have hrl : i < rs.length := (List.getElem?_eq_some_iff.1 hr).1
  rw [take_succ' hp, take_succ' hr]
  refine ⟨?_, fun k q s hq hs' => ?_⟩
  · rw [prodL_snoc]
    have h1 := hx.1
    have h2 : prodL (ps.take i) * (d + 1) ≤ prodL (ps.take i) * p := Nat.mul_le_mul_left _ hd
    rw [Nat.mul_add, Nat.mul_one] at h2
    omega
  · rcases Nat.lt_trichotomy k i with hlt | rfl | hgt
    · rw [List.getElem?_append_left (by rw [List.length_take]; omega)] at hq hs'
      have h1 := hx.2 k q s hq hs'
      have hqm : q ∈ ps.take i := List.mem_of_getElem? hq
      have h2 : q ∣ prodL (ps.take i) := by
        obtain ⟨a, b, hab⟩ := List.append_of_mem hqm
        rw [hab, prodL_append]
        exact ⟨prodL a * prodL b, by simp [prodL, Nat.mul_left_comm]⟩
      have h3 : Cg q ((prodL (ps.take i) * d : Nat) : Int) 0 := by
        obtain ⟨c, hc⟩ := h2
        rw [hc]
        exact ⟨((c * d : Nat) : Int), by simp [Int.mul_assoc]⟩
      have h4 := h1.add h3
      rw [Int.add_zero] at h4
      rwa [Int.natCast_add]
    · rw [List.getElem?_append_right (by rw [List.length_take]; omega)] at hq hs'
      rw [List.length_take, Nat.min_eq_left (by omega)] at hq hs'
      simp at hq hs'
      subst hq hs'
      exact hc
    · rw [List.getElem?_append_right (by rw [List.length_take]; omega), List.length_take, Nat.min_eq_left (by omega)] at hq
      obtain ⟨m, hm⟩ := Nat.exists_eq_succ_of_ne_zero (show k - i ≠ 0 by omega)
      rw [hm] at hq
      simp at hq
end Go.Proofs.Ytnjblppapmflhaa

/- Plain: digits of mixed radix; the integer prime by prime; division by the last prime. -/
namespace Go.Proofs.Ytnjblppapmflhaa
set_option linter.all false
open Go.RowKit PN
def gst (p q o d : Nat) : Nat := (d + p - o % p) % p * invN (q % p) p % p
def gfold (p : Nat) : List Nat → List Nat → Nat → Nat
  | q :: qs, o :: os, d => gfold p qs os (gst p q o d)
  | _, _, d => d
theorem gfold_nil (p d : Nat) (os : List Nat) : gfold p [] os d = d := by cases os <;> rfl
theorem gfold_snoc (p q o : Nat) : ∀ (qs os : List Nat) (d : Nat), qs.length = os.length → gfold p (qs ++ [q]) (os ++ [o]) d = gst p q o (gfold p qs os d)
  | [], [], d, _ => rfl
  | [], o' :: os, d, h => by simp at h
  | q' :: qs, [], d, h => by simp at h
  | q' :: qs, o' :: os, d, h => gfold_snoc p q o qs os (gst p q' o' d) (by simpa using h)
def digL (ps rs : List Nat) : Nat → List Nat
  | 0 => []
  | i + 1 => digL ps rs i ++ [gfold (ps.getD i 0) (ps.take i) (digL ps rs i) (rs.getD i 0)]
def dgt (ps rs : List Nat) (i : Nat) : Nat := gfold (ps.getD i 0) (ps.take i) (digL ps rs i) (rs.getD i 0)
theorem digL_len (ps rs : List Nat) : ∀ i, (digL ps rs i).length = i
  | 0 => rfl
  | i + 1 => by simp [digL, digL_len ps rs i]
theorem digL_map (ps rs : List Nat) : ∀ i, digL ps rs i = (List.range i).map (dgt ps rs)
  | 0 => rfl
  | i + 1 => by rw [List.range_succ, List.map_append, ← digL_map ps rs i]; rfl
theorem digL_take (ps rs : List Nat) {i k : Nat} (h : k ≤ i) : (digL ps rs i).take k = digL ps rs k := by
  rw [digL_map, digL_map, ← List.map_take, List.take_range, Nat.min_eq_left h]
theorem digL_get (ps rs : List Nat) {i k : Nat} (h : k < i) : (digL ps rs i)[k]? = some (dgt ps rs k) := by
  rw [digL_map, List.getElem?_map, List.getElem?_range h]; rfl
def mvL : List Nat → List Nat → Nat
  | p :: ps, d :: ds => d + p * mvL ps ds
  | _, _ => 0
theorem mvL_snoc (p d : Nat) : ∀ (ps ds : List Nat), ps.length = ds.length → mvL (ps ++ [p]) (ds ++ [d]) = mvL ps ds + prodL ps * d
  | [], [], _ => by simp [mvL, prodL]
  | [], _ :: _, h => by simp at h
  | _ :: _, [], h => by simp at h
  | q :: ps, e :: ds, h => by
    show e + q * mvL (ps ++ [p]) (ds ++ [d]) = e + q * mvL ps ds + q * prodL ps * d
    rw [mvL_snoc p d ps ds (by simpa using h), Nat.mul_add, Nat.mul_assoc]
    omega
/-- One digit is taken out of the residue. -/
theorem gst_cg {p q o d : Nat} (hp : 2 ≤ p) (hp2 : p < 4294967296) (hg : Nat.gcd p (q % p) = 1) : gst p q o d < p ∧ Cg p ((q : Int) * (gst p q o d : Nat)) ((d : Int) - o) := by
  obtain ⟨h1, h2, h3⟩ := invN_spec hp hp2 (Nat.mod_lt q (by omega)) hg
  refine ⟨Nat.mod_lt _ (by omega), ?_⟩
  have h4 : Cg p ((gst p q o d : Nat) : Int) (((d : Int) - o) * (invN (q % p) p : Nat)) := by
    refine Cg.modN.trans ?_
    rw [Int.natCast_mul]
    refine Cg.mul ?_ (Cg.refl _ _)
    refine Cg.modN.trans ?_
    have h5 : o % p < p := Nat.mod_lt _ (by omega)
    rw [show ((d + p - o % p : Nat) : Int) = ((d : Int) - ((o % p : Nat) : Int)) + p by omega]
    have h6 := ((Cg.refl p (d : Int)).sub (Cg.modN (m := p) (a := o))).add Cg.zero
    rwa [Int.add_zero] at h6
  have h5 : Cg p ((q : Int) * (invN (q % p) p : Nat)) 1 := ((Cg.modN (m := p) (a := q)).symm.mul (Cg.refl _ _)).trans h3
  have h6 := (Cg.refl p (q : Int)).mul h4
  refine h6.trans ?_
  rw [Int.mul_left_comm]
  have h7 := (Cg.refl p ((d : Int) - o)).mul h5
  rwa [Int.mul_one] at h7
theorem Sep.gcd_mod {ps : List Nat} (h : Sep ps) {i k p q : Nat} (hp : ps[i]? = some p) (hq : ps[k]? = some q) (hki : k < i) : Nat.gcd p (q % p) = 1 := by
  obtain ⟨h1, _, _, h4⟩ := h i p hp
  obtain ⟨k1, _, _, _⟩ := h k q hq
  have hne : p ≠ q := fun e => h4 (by rw [e]; exact List.mem_of_getElem? (by rw [List.getElem?_take, if_pos hki]; exact hq))
  have h5 := pr_cop h1 k1 hne
  rw [Nat.gcd_comm, ← Nat.gcd_rec]
  exact h5
/-- A row of residues. -/
def RowP (ps rs : List Nat) : Prop := rs.length = ps.length ∧ ∀ i p r : Nat, ps[i]? = some p → rs[i]? = some r → r < p
theorem getD_some {l : List Nat} {i x : Nat} (h : l[i]? = some x) : l.getD i 0 = x := by simp [List.getD, h]
/-- The residue under way at prime i, behind k digits. -/
theorem garner_in {ps rs : List Nat} (hs : Sep ps) (hr : RowP ps rs) {i p r : Nat} (hp : ps[i]? = some p) (hri : rs[i]? = some r) :
    ∀ k, k ≤ i → gfold p (ps.take k) (digL ps rs k) r < p ∧ Cg p (((mvL (ps.take k) (digL ps rs k) : Nat) : Int) + (prodL (ps.take k) : Nat) * (gfold p (ps.take k) (digL ps rs k) r : Nat)) (r : Int) := by
  have hil : i < ps.length := (List.getElem?_eq_some_iff.1 hp).1
  obtain ⟨p1, _, p3, _⟩ := hs i p hp
  intro k
  induction k with
  | zero =>
    intro _
    refine ⟨hr.2 i p r hp hri, ?_⟩
    simp [digL, gfold_nil, mvL, prodL]
    exact Cg.refl _ _
  | succ k ih =>
    intro hk
    obtain ⟨h1, h2⟩ := ih (by omega)
    have hq : ps[k]? = some ps[k] := List.getElem?_eq_getElem (by omega)
    have hlen : (ps.take k).length = (digL ps rs k).length := by rw [digL_len, List.length_take]; omega
    obtain ⟨g1, g2⟩ := gst_cg (o := dgt ps rs k) (d := gfold p (ps.take k) (digL ps rs k) r) p1.1 (by omega) (hs.gcd_mod hp hq (by omega))
    have e1 : digL ps rs (k + 1) = digL ps rs k ++ [dgt ps rs k] := rfl
    rw [take_succ' hq, e1, gfold_snoc p _ _ _ _ _ hlen, mvL_snoc _ _ _ _ hlen, prodL_snoc]
    refine ⟨g1, ?_⟩
    refine Cg.trans ?_ h2
    rw [Int.natCast_add, Int.natCast_mul, Int.natCast_mul, Int.mul_assoc]
    have h3 := (Cg.refl p ((prodL (ps.take k) : Nat) : Int)).mul g2
    rw [Int.mul_sub] at h3
    have h4 := (Cg.refl p (((mvL (ps.take k) (digL ps rs k) : Nat) : Int) + (prodL (ps.take k) : Nat) * (dgt ps rs k : Nat))).add h3
    rwa [show ((mvL (ps.take k) (digL ps rs k) : Nat) : Int) + (prodL (ps.take k) : Nat) * (dgt ps rs k : Nat) + (((prodL (ps.take k) : Nat) : Int) * (gfold p (ps.take k) (digL ps rs k) r : Nat) - (prodL (ps.take k) : Nat) * (dgt ps rs k : Nat)) = ((mvL (ps.take k) (digL ps rs k) : Nat) : Int) + (prodL (ps.take k) : Nat) * (gfold p (ps.take k) (digL ps rs k) r : Nat) by omega] at h4
theorem dgt_eq {ps rs : List Nat} {i p r : Nat} (hp : ps[i]? = some p) (hri : rs[i]? = some r) : dgt ps rs i = gfold p (ps.take i) (digL ps rs i) r := by
  unfold dgt; rw [getD_some hp, getD_some hri]
/-- The digits' number has the residues. -/
theorem garner {ps rs : List Nat} (hs : Sep ps) (hr : RowP ps rs) : ∀ i, i ≤ ps.length → IsCrt (ps.take i) (rs.take i) (mvL (ps.take i) (digL ps rs i)) := by
  intro i
  induction i with
  | zero => intro _; exact ⟨by simp [mvL, prodL], fun k q s hq => by simp at hq⟩
  | succ i ih =>
    intro hi
    have hp : ps[i]? = some ps[i] := List.getElem?_eq_getElem (by omega)
    have hrl : i < rs.length := by rw [hr.1]; omega
    have hri : rs[i]? = some rs[i] := List.getElem?_eq_getElem hrl
    obtain ⟨g1, g2⟩ := garner_in hs hr hp hri i (Nat.le_refl _)
    have hlen : (ps.take i).length = (digL ps rs i).length := by rw [digL_len, List.length_take]; omega
    have e1 : digL ps rs (i + 1) = digL ps rs i ++ [dgt ps rs i] := rfl
    have h2 := (ih (by omega)).step hs hp hri (d := dgt ps rs i) (by rw [dgt_eq hp hri]; exact g1) (by rw [Int.natCast_add, Int.natCast_mul, dgt_eq hp hri]; exact g2)
    rwa [take_succ' hp, e1, mvL_snoc _ _ _ _ hlen, ← take_succ' hp]
theorem garner_all {ps rs : List Nat} (hs : Sep ps) (hr : RowP ps rs) : IsCrt ps rs (mvL ps (digL ps rs ps.length)) := by
  have := garner hs hr ps.length (Nat.le_refl _)
  rwa [List.take_length, show rs.take ps.length = rs by rw [← hr.1, List.take_length]] at this
theorem dgt_lt {ps rs : List Nat} (hs : Sep ps) (hr : RowP ps rs) {i p : Nat} (hp : ps[i]? = some p) : dgt ps rs i < p := by
  have hil : i < ps.length := (List.getElem?_eq_some_iff.1 hp).1
  have hrl : i < rs.length := by rw [hr.1]; omega
  have hri : rs[i]? = some rs[i] := List.getElem?_eq_getElem hrl
  rw [dgt_eq hp hri]
  exact (garner_in hs hr hp hri i (Nat.le_refl _)).1
/-- The number from the end of the digits on. -/
theorem mvL_drop {ps ds : List Nat} {k p d : Nat} (hp : ps[k]? = some p) (hd : ds[k]? = some d) : mvL (ps.drop k) (ds.drop k) = d + p * mvL (ps.drop (k + 1)) (ds.drop (k + 1)) := by
  obtain ⟨h1, h2⟩ := List.getElem?_eq_some_iff.1 hp
  obtain ⟨h3, h4⟩ := List.getElem?_eq_some_iff.1 hd
  rw [List.drop_eq_getElem_cons h1, List.drop_eq_getElem_cons h3, h2, h4]
  rfl
theorem mvL_lt : ∀ (ps ds : List Nat), (∀ p ∈ ps, 0 < p) → (∀ i p d : Nat, ps[i]? = some p → ds[i]? = some d → d < p) → mvL ps ds < prodL ps
  | [], ds, _, _ => by cases ds <;> simp [mvL, prodL]
  | p :: ps, [], h, _ => by
    show 0 < prodL (p :: ps)
    exact prodL_pos h
  | p :: ps, d :: ds, h, hd => by
    show d + p * mvL ps ds < p * prodL ps
    have h1 := mvL_lt ps ds (fun q hq => h q (by simp [hq])) (fun i q e hq he => hd (i + 1) q e (by simpa using hq) (by simpa using he))
    have h2 := hd 0 p d rfl rfl
    have h3 : p * (mvL ps ds + 1) ≤ p * prodL ps := Nat.mul_le_mul_left _ h1
    rw [Nat.mul_add, Nat.mul_one] at h3
    omega
/-- The reference's step. -/
theorem ref_step {ps rs : List Nat} (hs : Sep ps) (hr : RowP ps rs) {i p r x : Nat} (hp : ps[i]? = some p) (hri : rs[i]? = some r) (hx : IsCrt (ps.take i) (rs.take i) x) :
    Nat.gcd p (prodL (ps.take i) % p) = 1 ∧ IsCrt (ps.take (i + 1)) (rs.take (i + 1)) (x + prodL (ps.take i) * ((r + p - x % p) % p * invN (prodL (ps.take i) % p) p % p)) := by
  obtain ⟨p1, _, p3, p4⟩ := hs i p hp
  have hg : Nat.gcd p (prodL (ps.take i) % p) = 1 := by
    have h5 := cop_prodL p1 (fun q hq => (hs.mem (List.mem_of_mem_take hq)).1) p4
    rw [Nat.gcd_comm, ← Nat.gcd_rec]
    exact h5
  refine ⟨hg, ?_⟩
  obtain ⟨g1, g2⟩ := gst_cg (o := x) (d := r) p1.1 (show p < 4294967296 by omega) hg
  refine hx.step hs hp hri g1 ?_
  rw [Int.natCast_add, Int.natCast_mul]
  have h3 := (Cg.refl p (x : Int)).add g2
  rwa [show (x : Int) + ((r : Int) - x) = r by omega] at h3
end Go.Proofs.Ytnjblppapmflhaa
