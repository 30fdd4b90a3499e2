/- Plain: what is taken away before the division is small. -/
import Derived.Test.YtnjblppapmflhaaKF
namespace Go.Proofs.Ytnjblppapmflhaa
set_option linter.all false
open Go.RowKit Go.Shelf Go.WideNum PN
theorem take_sys {ps : List Nat} (hs : SysP ps) {n : Nat} (h1 : 1 ≤ n) (hn : n ≤ ps.length) : SysP (ps.take n) := by
  have hl : (ps.take n).length = n := by rw [List.length_take]; omega
  refine ⟨by omega, by have := hs.2.1; omega, ?_⟩
  intro i hi p hp
  rw [hl] at hi
  have h2 : ps[i]? = some p := by rw [List.getElem?_take, if_pos hi] at hp; exact hp
  have h3 := hs.2.2 i (by omega) p h2
  rw [List.take_take, Nat.min_eq_left (by omega)]
  exact h3
theorem scale_lt {ps : List Nat} (h : SysP ps) (rs : List Nat) (t : Nat) : scaleE ps rs t < lastP ps := by
  obtain ⟨-, -, -, q4⟩ := h.last
  exact Nat.mod_lt _ (by omega)
/-- The bound of the quotient, times the prime. -/
theorem bounds_plain {ps rs : List Nat} (hs : SysP ps) (h3 : 3 ≤ ps.length) (hr : RowP ps rs) {t : Nat} (h1 : 1 ≤ t) (ht : t % lastP ps ≠ 0) (J D q H b v P : Int) (hJ : J = joinZ ps rs) (hD : D = scaleD ps rs t) (hq : q = (lastP ps : Nat))
    (hH : H = (t : Int) * ((q - 1) / 2)) (hb : b = ((J.natAbs : Nat) + H) / q) (hP : P = ((prodL (ps.take (ps.length - 1)) : Nat) : Int)) (hv : v = joinZ (ps.take (ps.length - 1)) (resL (ps.take (ps.length - 1)) ((J - D * t) / q))) (hw : b + b < P) :
    v.natAbs ≤ b.natAbs ∧ 0 ≤ b ∧ J - v * q = D * t ∧ (D * t) % (t : Int) = 0 ∧ ((D * t).natAbs : Int) ≤ H := by
  obtain ⟨q1, q2, q3, q4⟩ := hs.last
  have hlt := scale_lt hs rs t
  obtain ⟨-, -, d3⟩ := balI_abs hlt
  have hd : 2 * D.natAbs ≤ lastP ps := by rw [hD]; exact d3
  have hd2 : ((D.natAbs : Nat) : Int) ≤ (q - 1) / 2 := by omega
  have hdt : ((D * t).natAbs : Int) ≤ H := by
    rw [Int.natAbs_mul, Int.natAbs_natCast, hH]
    rw [Int.natCast_mul, Int.mul_comm]
    exact Int.mul_le_mul_of_nonneg_left hd2 (by omega)
  have hdv : q ∣ J - D * t := by rw [hq, hJ, hD]; exact scale_dvd hs hr ht
  obtain ⟨y, hy⟩ := hdv
  have hq0 : 0 < q := by omega
  have hyq : (J - D * t) / q = y := by rw [hy]; exact Int.mul_ediv_cancel_left y (by omega)
  have hb0 : 0 ≤ b := by
    rw [hb]
    exact Int.ediv_nonneg (by omega) (by omega)
  have hyb : ((y.natAbs : Nat) : Int) ≤ b := by
    rw [hb]
    refine (Int.le_ediv_iff_mul_le hq0).2 ?_
    have e1 : ((y.natAbs : Nat) : Int) * q = ((J - D * t).natAbs : Nat) := by
      rw [hy, Int.natAbs_mul, Int.natCast_mul, Int.mul_comm]
      congr 1
      omega
    rw [e1]
    omega
  have hvy : v = y := by
    have hu := take_sys hs (n := ps.length - 1) (by omega) (by omega)
    rw [hv, join_res hu, hyq, ← hP]
    exact balZ_id (by omega) (by omega) (by omega)
  subst hvy
  refine ⟨by omega, hb0, ?_, Int.mul_emod_left _ _, hdt⟩
  have hy2 : v * q = q * v := Int.mul_comm _ _
  omega
theorem inv_one {q : Nat} (h : 3 ≤ q) (hq : q < 4294967296) : invN 1 q = 1 := by
  obtain ⟨h1, h2, -⟩ := invN_spec (a := 1) (n := q) (by omega) hq (by omega) (by simp)
  rw [Nat.one_mul, Nat.mod_eq_of_lt h1] at h2
  exact h2
theorem drop_one {ps rs : List Nat} (hs : SysP ps) (h3 : 3 ≤ ps.length) (hr : RowP ps rs) : dropF ps rs true = ((scaleF ps rs 1 true).1, dropD ps rs, 0) ∧ (scaleF ps rs 1 true).2 = 0 := by
  obtain ⟨q1, q2, q3, q4⟩ := hs.last
  have h1 : 1 % lastP ps = 1 := Nat.mod_eq_of_lt (by omega)
  have h2 : scaleD ps rs 1 = dropD ps rs := by
    unfold scaleD scaleE dropD
    rw [h1, inv_one q4 (by omega), Nat.mul_one, Nat.mod_eq_of_lt (hr.last hs.1)]
  unfold dropF scaleF
  rw [if_pos rfl, if_pos rfl, if_neg (by omega), if_neg (by rw [h1]; omega), if_neg (by omega), h2]
  simp
end Go.Proofs.Ytnjblppapmflhaa
