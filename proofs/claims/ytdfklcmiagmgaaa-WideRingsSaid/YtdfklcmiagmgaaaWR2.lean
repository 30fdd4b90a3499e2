/- Plain: sums and products of integers that may be out of range; the calls of the law. -/
import Derived.Test.YtdfklcmiagmgaaaWR1
namespace Go.Proofs.Ytdfklcmiagmgaaa
set_option linter.all false
open Go.RowKit Go.Shelf Go.WideNum
theorem opT (f : Int → Int → Int) (na : Bool) (sa : ByteArray) (nb : Bool) (sb : ByteArray) (va : validB na sa = true) (vb : validB nb sb = true) :
    ∃ fb ft E, opF f na sa nb sb = (.agg #[.bool fb, .string ft], E) ∧ validB fb ft = true ∧ (E = 0 → zV fb ft = f (zV na sa) (zV nb sb)) ∧ ((f (zV na sa) (zV nb sb)).natAbs < lim → E = 0) := by
  unfold opF
  rw [va, vb, if_pos (by rfl)]
  obtain ⟨z, hz⟩ : ∃ z, z = f (zV na sa) (zV nb sb) := ⟨_, rfl⟩
  rw [← hz]
  by_cases h : z.natAbs < lim
  · obtain ⟨e1, e2⟩ := outZ_in z h
    obtain ⟨v1, v2⟩ := valid_magB (decide (z < 0)) z.natAbs h (fun hn => by have := of_decide_eq_true hn; omega)
    refine ⟨decide (z < 0), magB z.natAbs, 0, by rw [e1, e2]; rfl, v1, fun _ => ?_, fun _ => rfl⟩
    unfold zV zOf
    rw [v2]
    by_cases hn : z < 0
    · rw [decide_eq_true hn, if_pos rfl]; omega
    · rw [decide_eq_false hn, if_neg (by decide)]; omega
  · obtain ⟨e1, e2⟩ := outZ_out z h
    exact ⟨false, ⟨#[]⟩, 7, (by rw [e1, e2]; rfl), rfl, (fun h0 => by cases h0), fun h1 => absurd h1 h⟩
theorem opF_comm (f : Int → Int → Int) (hf : ∀ a b, f a b = f b a) (na : Bool) (sa : ByteArray) (nb : Bool) (sb : ByteArray) : opF f na sa nb sb = opF f nb sb na sa := by
  unfold opF
  rw [Bool.and_comm, hf]
theorem valid_max {n : Bool} {s : ByteArray} (h : validB n s = true) : s.size ≤ maxLen := by
  have := (valid_spec n s h).2.2.2
  unfold maxLen; omega
/-- A sum, and the same the other way round. -/
theorem sumT (na : Bool) (sa : ByteArray) (ia : Bool) (za : Int) (nb : Bool) (sb : ByteArray) (ib : Bool) (zb : Int) (va : validB na sa = true) (vb : validB nb sb = true) (ha : ia = true → zV na sa = za) (hb : ib = true → zV nb sb = zb) :
    ∃ fb ft i, Hid (∀ W : World, Calls Try.prog 29 #[.agg #[.bool na, .string sa, .bool ia], .agg #[.bool nb, .string sb, .bool ib]] W fun e w' => e = .returned (.agg #[.bool fb, .string ft, .bool i]) ∧ Below W.heap.size W w') ∧
      Hid (∀ W : World, Calls Try.prog 29 #[.agg #[.bool nb, .string sb, .bool ib], .agg #[.bool na, .string sa, .bool ia]] W fun e w' => e = .returned (.agg #[.bool fb, .string ft, .bool i]) ∧ Below W.heap.size W w') ∧ validB fb ft = true ∧ (i = true → zV fb ft = za + zb) := by
  obtain ⟨fb, ft, E, h1, h2, h3, -⟩ := opT (fun a b => a + b) na sa nb sb va vb
  have h1' := h1
  rw [opF_comm _ (fun a b => Int.add_comm a b)] at h1'
  refine ⟨fb, ft, ia && (ib && (E == 0)), fun W => trySum na sa ia nb sb ib (valid_max va) (valid_max vb) fb ft E h1 W, ?_, h2, fun hi => ?_⟩
  · intro W
    have := trySum nb sb ib na sa ia (valid_max vb) (valid_max va) fb ft E h1' W
    rwa [show (ib && (ia && (E == 0))) = (ia && (ib && (E == 0))) by cases ia <;> cases ib <;> rfl] at this
  · rw [Bool.and_eq_true, Bool.and_eq_true, beq_iff_eq] at hi
    rw [← ha hi.1, ← hb hi.2.1]
    exact h3 hi.2.2
theorem prodT (na : Bool) (sa : ByteArray) (ia : Bool) (za : Int) (nb : Bool) (sb : ByteArray) (ib : Bool) (zb : Int) (va : validB na sa = true) (vb : validB nb sb = true) (ha : ia = true → zV na sa = za) (hb : ib = true → zV nb sb = zb) :
    ∃ fb ft i, Hid (∀ W : World, Calls Try.prog 31 #[.agg #[.bool na, .string sa, .bool ia], .agg #[.bool nb, .string sb, .bool ib]] W fun e w' => e = .returned (.agg #[.bool fb, .string ft, .bool i]) ∧ Below W.heap.size W w') ∧
      Hid (∀ W : World, Calls Try.prog 31 #[.agg #[.bool nb, .string sb, .bool ib], .agg #[.bool na, .string sa, .bool ia]] W fun e w' => e = .returned (.agg #[.bool fb, .string ft, .bool i]) ∧ Below W.heap.size W w') ∧ validB fb ft = true ∧ (i = true → zV fb ft = za * zb) := by
  obtain ⟨fb, ft, E, h1, h2, h3, -⟩ := opT (fun a b => a * b) na sa nb sb va vb
  have h1' := h1
  rw [opF_comm _ (fun a b => Int.mul_comm a b)] at h1'
  refine ⟨fb, ft, ia && (ib && (E == 0)), fun W => tryProd na sa ia nb sb ib (valid_max va) (valid_max vb) fb ft E h1 W, ?_, h2, fun hi => ?_⟩
  · intro W
    have := tryProd nb sb ib na sa ia (valid_max vb) (valid_max va) fb ft E h1' W
    rwa [show (ib && (ia && (E == 0))) = (ia && (ib && (E == 0))) by cases ia <;> cases ib <;> rfl] at this
  · rw [Bool.and_eq_true, Bool.and_eq_true, beq_iff_eq] at hi
    rw [← ha hi.1, ← hb hi.2.1]
    exact h3 hi.2.2
theorem eqT (na : Bool) (sa : ByteArray) (ia : Bool) (za : Int) (nb : Bool) (sb : ByteArray) (ib : Bool) (zb : Int) (va : validB na sa = true) (vb : validB nb sb = true) (ha : ia = true → zV na sa = za) (hb : ib = true → zV nb sb = zb) (hz : za = zb) :
    Hid (∀ W : World, Calls Try.prog 30 #[.agg #[.bool na, .string sa, .bool ia], .agg #[.bool nb, .string sb, .bool ib]] W fun e w' => e = .returned (.bool true) ∧ Below W.heap.size W w') :=
  fun W => tryEqual na sa ia nb sb ib (fun h1 h2 => zV_inj va vb (by rw [ha h1, hb h2, hz])) W
/-- A difference undoes a sum. -/
theorem subT (nx : Bool) (sx : ByteArray) (ny : Bool) (sy : ByteArray) (n : Bool) (s : ByteArray) (vx : validB nx sx = true) (vy : validB ny sy = true) (v : validB n s = true) (h : zV n s = zV nx sx + zV ny sy) (W : World) :
    Calls Try.prog 25 #[.agg #[.bool n, .string s], .agg #[.bool ny, .string sy]] W fun e w' => e = .returned (.tuple #[.agg #[.bool nx, .string sx], .int .i64 0]) ∧ Below W.heap.size W w' := by
  have h1 := Sub_any n s ny sy (valid_max v) (valid_max vy) W
  have h2 : opF (fun a b => a - b) n s ny sy = (.agg #[.bool nx, .string sx], 0) := by
    unfold opF
    rw [v, vy, if_pos (by rfl)]
    show (outZ (zV n s - zV ny sy), errZ (zV n s - zV ny sy)) = _
    rw [h, show zV nx sx + zV ny sy - zV ny sy = zV nx sx by omega]
    obtain ⟨o1, o2, -⟩ := valid_out nx sx vx
    rw [o1, o2]; rfl
  rw [h2] at h1
  exact h1
theorem great3 (na : Bool) (sa : ByteArray) (nb : Bool) (sb : ByteArray) (nc : Bool) (sc : ByteArray) (hsa : sa.size ≤ maxLen) (hsb : sb.size ≤ maxLen) (hsc : sc.size ≤ maxLen) (W : World) (g : Nat) (h : W.heap[g]? = some (.cells #[.bool na, .string sa, .bool nb, .string sb, .bool nc, .string sc] 23)) :
    Calls Try.prog 10 #[.slice (some ⟨g, 0, none⟩) 3 3] W fun e w' => e = .returned (.bool (decide (300 < sa.size) || (decide (300 < sb.size) || decide (300 < sc.size)))) ∧ W = w' := by
  have hf : World.forms W g [(na, sa), (nb, sb), (nc, sc)] := by
    intro k x hk
    match k, hk with
    | 0, hk => injection hk with hk; subst hk; exact ⟨by rw [cell_of_row W _ _ _ _ (0, 0) h]; rfl, by rw [cell_of_row W _ _ _ _ (0, 0) h]; rfl⟩
    | 1, hk => injection hk with hk; subst hk; exact ⟨by rw [cell_of_row W _ _ _ _ (0, 0) h]; rfl, by rw [cell_of_row W _ _ _ _ (0, 0) h]; rfl⟩
    | 2, hk => injection hk with hk; subst hk; exact ⟨by rw [cell_of_row W _ _ _ _ (0, 0) h]; rfl, by rw [cell_of_row W _ _ _ _ (0, 0) h]; rfl⟩
    | k + 3, hk => simp at hk
  have := great_any [(na, sa), (nb, sb), (nc, sc)] g (by simp) (by simp [hsa, hsb, hsc]) W hf
  simpa using this
end Go.Proofs.Ytdfklcmiagmgaaa
