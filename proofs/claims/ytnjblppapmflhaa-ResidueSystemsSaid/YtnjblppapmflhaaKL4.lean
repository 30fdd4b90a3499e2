/- Walks: the law ResidueSystems. -/
import Derived.Test.YtnjblppapmflhaaPK8
namespace Go.Proofs.Ytnjblppapmflhaa
set_option linter.all false
open Go.RowKit Go.Shelf Go.WideNum PN
theorem soH {w w' : World} {B b : Nat} {ps : List Nat} (h : Hid (SysO B w b ps)) (hb : Below w.heap.size w w') : Hid (SysO B w' b ps) := h.out.below hb
theorem roH {w w' : World} {B b : Nat} {ps : List Nat} (h : Hid (RefO B w b ps)) (hb : Below w.heap.size w w') : Hid (RefO B w' b ps) := h.out.below hb
theorem loH {w w' : World} {B : Nat} {v own : Value} {l : List Nat} (h : Hid (LentO B w v own l)) (hb : Below w.heap.size w w') : Hid (LentO B w' v own l) := h.out.below hb
theorem rD {w : World} {v : Value} {l : List Value} (h : w.reads w.heap.size v l) : w.drew.reads w.drew.heap.size v l := h
theorem owns_fz0 {w : World} {B n g : Nat} {e : TypeId} {len cap : Nat} {xs : List Value} (h : w.owns B e 1 (.slice (some ⟨g, 0, none⟩) len cap) n xs) (j : Nat) (hj : j < n) : w.frozen? ⟨g, j, none⟩ = false := by
  rcases h.2 with ⟨h0, _⟩ | ⟨g', cap', cur, fz, hv, hb, hg, hf, hle, hm, hs, _⟩
  · cases h0
  · cases hv
    have h1 := hf j (by omega)
    obtain ⟨lo, hi⟩ := fz
    simp only [World.frozen?, hg, Bool.and_eq_false_iff, decide_eq_false_iff_not]
    simp only at h1
    omega
theorem ref_cells {B : Nat} {w : World} {c : Nat} {ps : List Nat} (h : RefO B w c ps) : ∃ la lc, w.reads w.heap.size (.slice la ps.length lc) (ps.map u32V) ∧ ∀ W, Below w.heap.size w W → W.cell? ⟨c, 0, none⟩ = some (.slice la ps.length lc) ∧ W.cell? ⟨c, 1, none⟩ = some (.bool (zN (prodL ps : Nat))) ∧ W.cell? ⟨c, 2, none⟩ = some (.string (zT (prodL ps : Nat))) := by
  obtain ⟨-, lv, h1, h2⟩ := h
  have h3 := h2.reads
  obtain ⟨la, lc, rfl, -⟩ := reads_u32 h3
  refine ⟨la, lc, h3, fun W hb => ?_⟩
  obtain ⟨c0, c1, c2, -⟩ := three_ref (hold_heap h1 hb)
  exact ⟨c0, c1, c2⟩
set_option maxRecDepth 100000 in
set_option maxHeartbeats 16000000 in
theorem systems_law (ps : List Nat) (pv : Value) (w : World) (hr : w.reads w.heap.size pv (ps.map u32V)) (hpb : ∀ q ∈ ps, q < 4294967296) :
    Calls Try.prog 7 #[pv] w fun e w' => e = .returned (.bool true) ∧ Below w.heap.size w w' := by
  have HSH := Lib.hid shown_any
  obtain ⟨ok1, hok1⟩ := em_bool (SysP ps)
  have HN : Hid (∀ W v, W.reads W.heap.size v (ps.map u32V) → Calls Try.prog 19 #[v] W (NewRetS W ps ok1)) := fun W v h => New_so ps v W h hpb ok1 hok1
  have HNR : Hid (∀ W v, W.reads W.heap.size v (ps.map u32V) → Calls Try.prog 35 #[v] W (RefRetS W ps ok1)) := fun W v h => refNew_so ps v W h hpb ok1 hok1
  have HO1 := Lib.hid hok1
  have R := Lib.hid hr
  have hl1 := hr.le_map
  obtain ⟨pa, pc, rfl, -⟩ := reads_u32 hr
  obtain ⟨m, hm⟩ : ∃ m, m = ps.length := ⟨_, rfl⟩
  rw [← hm] at R hl1 ⊢
  have HM := Lib.hid hm
  clear hok1 hr hpb hm
  by_cases h1 : 40 < m
  · have t1 : (40 : Int) < (m : Int) := by omega
    clear h1
    go_enter Try.func7, Try.ntmps7
    go_wp2_with fail
    (with_reducible refine (HSH.out _).mono ?_)
    rintro e w1 ⟨rfl, hb1⟩
    go_wp2
    go_ret
    exact ⟨rfl, hb1⟩
  have t1 : ¬ (40 : Int) < (m : Int) := by omega
  have hk6 : ps.length ≤ 1000 := by have := HM.out; omega
  have HK6 := Lib.hid hk6
  clear h1 hk6
  go_enter Try.func7, Try.ntmps7
  have B : Hid (Below w.heap.size w w) := Below.refl _ _
  go_wp2_with fail
  (with_reducible refine (Lend_own ps _ HK6.out w R.out).mono ?_)
  rintro e v1 ⟨own, rfl, hl, hb⟩
  have LE0 := Lib.hid hl
  have O0 := Lib.hid (hl.lent.reads)
  have SL := hl.lent.slice
  replace R := rH R hb
  replace B := bH B hb
  clear hb hl
  have LE := LE0
  have O := O0
  clear LE0 O0
  cases ok1 with
  | false =>
    obtain ⟨oa, on, oc, rfl⟩ := SL
    go_wp2_with fail
    (with_reducible refine (HN.out _ _ O.out).mono ?_)
    rintro e v2 ⟨hb, he⟩
    subst he
    replace R := rH R hb
    replace B := bH B hb
    replace LE := loH LE hb
    replace O := rH O hb
    clear hb
    go_wp2_with fail
    (with_reducible refine (HNR.out _ _ R.out).mono ?_)
    rintro e v3 ⟨hb, he⟩
    subst he
    replace R := rH R hb
    replace B := bH B hb
    replace LE := loH LE hb
    replace O := rH O hb
    clear hb
    go_wp2_with fail
    (with_reducible refine (kept_b ps _ _ HK6.out _ R.out LE.out.lent).mono ?_)
    rintro e v4 ⟨rfl, hb⟩
    replace R := rH R hb
    replace B := bH B hb
    replace LE := loH LE hb
    replace O := rH O hb
    clear hb
    go_wp2_with fail
    (with_reducible refine (HSH.out _).mono ?_)
    rintro e v5 ⟨rfl, hb⟩
    replace R := rH R hb
    replace B := bH B hb
    replace LE := loH LE hb
    replace O := rH O hb
    clear hb
    go_wp2
    go_ret
    exact ⟨rfl, B.out⟩
  | true =>
  clear SL
  have hsys : SysP ps := by first | exact HO1.out.1 rfl | exact HO1.out.1 trivial
  have hm1 : 0 < m := by have := hsys.1; have := HM.out; omega
  obtain ⟨g, oc, hown, hgo⟩ : ∃ g oc, own = .slice (some ⟨g, 0, none⟩) m oc ∧ v1.owns w.heap.size 23 1 (.slice (some ⟨g, 0, none⟩) (m + 1) oc) (m + 1) ((ps ++ [77177]).map u32V) := by
    rcases LE.out with ⟨-, -, h0⟩ | ⟨-, g, oc, h1, h2⟩
    · have := hsys.1
      rw [h0] at this
      simp at this
    · rw [← HM.out] at h1 h2
      exact ⟨g, oc, h1, h2⟩
  subst hown
  obtain ⟨-, -, hg0, -, hg1⟩ := hgo.facts
  have HSYS := Lib.hid hsys
  have t2 : (0 : Int) < (m : Int) := by omega
  obtain ⟨B1, hB1⟩ : ∃ z, z = v1.heap.size := ⟨_, rfl⟩
  have HB1 := Lib.hid hB1
  have G := Lib.hid hgo
  clear hsys hB1 hgo
  go_wp2_with fail
  (with_reducible refine (HN.out _ _ O.out).mono ?_)
  rintro e v2 ⟨hb, he, hs⟩
  subst he
  obtain ⟨b, hbd⟩ : ∃ b, b = v1.heap.size := ⟨_, rfl⟩
  rw [← hbd] at hs ⊢
  have S0 := Lib.hid (show SysO B1 v2 b ps by rw [HB1.out, ← hbd]; exact hs)
  replace G : Hid (v2.owns w.heap.size 23 1 (.slice (some ⟨g, 0, none⟩) (m + 1) oc) (m + 1) ((ps ++ [77177]).map u32V)) := G.out.below hb
  have q1 : g < B1 := by rw [HB1.out]; exact hg1
  have q2 : g < v2.heap.size := Nat.lt_of_lt_of_le hg1 hb.size
  obtain ⟨B2, hB2⟩ : ∃ z, z = v2.heap.size := ⟨_, rfl⟩
  have HB2 := Lib.hid hB2
  rw [← hB2] at q2
  clear hs hbd hg1 hB2
  replace R := rH R hb
  replace B := bH B hb
  replace LE := loH LE hb
  replace O := rH O hb
  clear hb
  have S := S0
  clear S0
  go_wp2_with fail
  (with_reducible refine (HNR.out _ _ R.out).mono ?_)
  rintro e v3 ⟨hb, c, he, hu⟩
  subst he
  have U0 := Lib.hid (show RefO B2 v3 c ps by rw [HB2.out]; exact hu)
  replace G : Hid (v3.owns w.heap.size 23 1 (.slice (some ⟨g, 0, none⟩) (m + 1) oc) (m + 1) ((ps ++ [77177]).map u32V)) := G.out.below hb
  replace R := rH R hb
  replace B := bH B hb
  replace LE := loH LE hb
  replace O := rH O hb
  replace S := soH S hb
  clear hb hu
  have U := U0
  clear U0
  go_wp2_with fail
  (with_reducible refine (kept_b ps _ _ HK6.out _ R.out LE.out.lent).mono ?_)
  rintro e v4 ⟨rfl, hb⟩
  replace G : Hid (v4.owns w.heap.size 23 1 (.slice (some ⟨g, 0, none⟩) (m + 1) oc) (m + 1) ((ps ++ [77177]).map u32V)) := G.out.below hb
  replace R := rH R hb
  replace B := bH B hb
  replace LE := loH LE hb
  replace O := rH O hb
  replace S := soH S hb
  replace U := roH U hb
  clear hb
  obtain ⟨x, hx⟩ : ∃ x, ps[0]? = some x := ⟨ps[0]'(by have := HM.out; omega), List.getElem?_eq_getElem _⟩
  have c0 : v4.cell? ⟨g, 0, none⟩ = some (.int .u32 (x : Int)) := G.out.cell 0 _ (by rw [List.map_append, List.getElem?_append_left (by rw [List.length_map, ← HM.out]; exact hm1), List.getElem?_map, hx]; rfl)
  have f0 : v4.frozen? ⟨g, 0, none⟩ = false := owns_fz0 G.out 0 (by omega)
  clear hx LE O R HN HNR
  go_upto_region 12 with (fail)
  replace B : Hid (Below w.heap.size w (v4.setCell ⟨g, 0, none⟩ (.int .u32 4))) := B.out.setCell hg0 _
  replace S : Hid (SysO B1 (v4.setCell ⟨g, 0, none⟩ (.int .u32 4)) b ps) := S.out.setCell q1 _
  replace U : Hid (RefO B2 (v4.setCell ⟨g, 0, none⟩ (.int .u32 4)) c ps) := U.out.setCell q2 _
  clear c0 f0 G q1 q2 hg0 HB1 HB2
  generalize v4.setCell ⟨g, 0, none⟩ (.int .u32 4) = v5 at B S U ⊢
  go_wp2_with fail
  (with_reducible refine (Moduli_any b ps _ S.out.sys HSYS.out).mono ?_)
  rintro e v6 ⟨v, rfl, ho, hb⟩
  have A := Lib.hid ho.reads
  have S5 := S
  have U5 := U
  have D5 : Hid (Below v5.heap.size v5 v6) := hb
  rw [← HM.out] at ho
  have L0 := Lib.hid ho
  obtain ⟨lg, lc2, rfl⟩ := ho.pos hm1
  obtain ⟨-, -, hg0, -, hg1⟩ := ho.facts
  obtain ⟨B5, hB5⟩ : ∃ z, z = v5.heap.size := ⟨_, rfl⟩
  rw [← hB5] at hg0 L0
  have hgg : v5.heap.size ≤ lg := by rw [← hB5]; exact hg0
  have h5 : w.heap.size ≤ B5 := by rw [hB5]; exact B.out.size
  have h6 : w.heap.size ≤ lg := by omega
  replace B := bH B hb
  replace S := soH S hb
  replace U := roH U hb
  obtain ⟨b1, hb1⟩ : ∃ b1, b1 = B1 := ⟨_, rfl⟩
  obtain ⟨la, lc, hrd, hcl⟩ := ref_cells U.out
  obtain ⟨qb, hqb⟩ : ∃ z, z = zN ((prodL ps : Nat) : Int) := ⟨_, rfl⟩
  obtain ⟨qt, hqt⟩ : ∃ z, z = zT ((prodL ps : Nat) : Int) := ⟨_, rfl⟩
  rw [← hqb, ← hqt, ← HM.out] at hcl
  rw [← HM.out] at hrd
  have HPR : Hid (∀ W, SysAt W b ps → Calls Try.prog 27 #[.pointer (some ⟨b, 0, none⟩)] W fun e w' => e = .returned (.agg #[.bool qb, .string qt]) ∧ Below W.heap.size W w') := fun W h => by rw [hqb, hqt]; exact Product_any b ps W h
  have HCL := Lib.hid hcl
  have D0 := Lib.hid hrd
  have hg1' := hg1
  clear ho hb hB5 hrd hcl hqb hqt hb1 b1
  obtain ⟨c0, c1, c2⟩ := HCL.out v6 (Below.refl _ _)
  go_upto_region 13 with (fail)
  go_region_held3 (fun w' => w'.cell? ⟨c, 0, none⟩ = some (.slice la m lc) ∧ w'.cell? ⟨c, 1, none⟩ = some (.bool qb) ∧ w'.cell? ⟨c, 2, none⟩ = some (.string qt))
    (first | exact ⟨c0, c1, c2⟩ | (refine ⟨?_, ?_, ?_⟩ <;> assumption))
    (first
      | (go_simp; go_at_call 14; refine (same_b _ _ ps _ (rD A.out) (rD D0.out)).mono ?_; rintro e v7 ⟨rfl, hb⟩; replace hb : Below v6.heap.size v6 v7 := below_viaD (Below.refl _ _) hb; replace D5 := bH D5 hb; replace B := bH B hb; replace S := soH S hb; replace U := roH U hb; replace L0 : Hid (v7.owns B5 23 1 (.slice (some ⟨lg, 0, none⟩) m lc2) m (ps.map u32V)) := L0.out.below hb; have HB7 := Lib.hid hb; obtain ⟨c0, c1, c2⟩ := HCL.out v7 hb; clear hb)
      | (go_simp; go_at_call 27; refine (HPR.out _ S.out.sys).mono ?_; rintro e v8 ⟨rfl, hb⟩; replace D5 := bH D5 hb; replace B := bH B hb; replace S := soH S hb; replace U := roH U hb; replace L0 : Hid (v8.owns B5 23 1 (.slice (some ⟨lg, 0, none⟩) m lc2) m (ps.map u32V)) := L0.out.below hb; replace HB7 := bH HB7 hb; obtain ⟨c0, c1, c2⟩ := HCL.out v8 HB7.out; clear hb))
  clear c0 c1 c2
  obtain ⟨x, hx⟩ : ∃ x, ps[0]? = some x := ⟨ps[0]'(by have := HM.out; omega), List.getElem?_eq_getElem _⟩
  have d0 : v8.cell? ⟨lg, 0, none⟩ = some (.int .u32 (x : Int)) := L0.out.cell 0 _ (by rw [List.getElem?_map, hx]; rfl)
  have f0 : v8.frozen? ⟨lg, 0, none⟩ = false := owns_fz0 L0.out 0 hm1
  have hS9 : SysO B1 (v8.setCell ⟨lg, 0, none⟩ (.int .u32 9)) b ps ∧ RefO B2 (v8.setCell ⟨lg, 0, none⟩ (.int .u32 9)) c ps := ⟨S5.out.below (D5.out.setCell hgg _), U5.out.below (D5.out.setCell hgg _)⟩
  clear hx
  go_upto_region 16 with (fail)
  replace B : Hid (Below w.heap.size w (v8.setCell ⟨lg, 0, none⟩ (.int .u32 9))) := B.out.setCell h6 _
  replace S := Lib.hid hS9.1
  replace U := Lib.hid hS9.2
  clear d0 f0 L0 hS9 HCL HB7 D0 A
  generalize v8.setCell ⟨lg, 0, none⟩ (.int .u32 9) = v9 at B S U ⊢
  obtain ⟨la, lc, hrd, hcl⟩ := ref_cells U.out
  rw [← HM.out] at hrd hcl
  have D0 := Lib.hid hrd
  have HCL : Hid (∀ W, Below v9.heap.size v9 W → W.cell? ⟨c, 0, none⟩ = some (.slice la m lc)) := fun W hb => (hcl W hb).1
  have HMO : Hid (∀ W, SysAt W b ps → Calls Try.prog 36 #[.pointer (some ⟨b, 0, none⟩)] W (RowRet W ps)) := fun W h => Moduli_any b ps W h HSYS.out
  clear hrd hcl
  have c0 := HCL.out v9 (Below.refl _ _)
  go_region_held3 (fun w' => w'.cell? ⟨c, 0, none⟩ = some (.slice la m lc))
    (first | exact c0 | assumption)
    (first
      | (go_simp; go_at_call 36; refine (HMO.out _ (SysAt.drew S.out.sys)).mono ?_; rintro e v10 ⟨v, rfl, ho, hb⟩; have A := Lib.hid ho.reads; rw [← HM.out] at ho; obtain ⟨xa, xc, rfl, -⟩ := ho.at_; replace hb : Below v9.heap.size v9 v10 := below_viaD (Below.refl _ _) hb; replace B := bH B hb; replace D0 := rH D0 hb; have HB10 := Lib.hid hb; have c0 := HCL.out v10 hb; clear hb ho)
      | (go_simp; go_at_call 14; refine (same_b _ _ ps _ A.out D0.out).mono ?_; rintro e v11 ⟨rfl, hb⟩; replace B := bH B hb; replace HB10 := bH HB10 hb; have c0 := HCL.out v11 HB10.out; clear hb)
      | (go_simp; go_at_call 9; refine (HSH.out _).mono ?_; rintro e v12 ⟨rfl, hb⟩; replace B := bH B hb; replace HB10 := bH HB10 hb; have c0 := HCL.out v12 HB10.out; clear hb))
  clear c0
  go_wp2
  go_ret
  exact ⟨rfl, B.out⟩
end Go.Proofs.Ytnjblppapmflhaa
