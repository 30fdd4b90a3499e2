/- Plain: what the steps of the reference's Join make, one by one. -/
import Derived.Test.YtpcpgmgpkegjlaaGJ4
namespace Go.Proofs.Ytpcpgmgpkegjlaa
open Go.RowKit Go.Shelf Go.BigFrame
theorem accRows_ok {w P n lv : Nat} {ml : List Nat} {ls : List (List Int)} {c : Nat} (h : ml.length = lv) (hq : ∀ q ∈ ml, 0 < q) : EltOk n ml (accRows w P n ml ls lv c) := by
  unfold accRows
  subst h
  refine EltOk.ofMap _ fun i q hqi => ?_
  have hg : ml.getD i 0 = q := by rw [List.getD_eq_getElem?_getD, hqi]; rfl
  rw [hg]
  refine ⟨by simp, fun x hx => ?_⟩
  rw [List.mem_map] at hx
  obtain ⟨k, _, rfl⟩ := hx
  exact resN_lt q _ (hq q (List.mem_of_getElem? hqi))
/-- What one digit goes through. -/
structure ThroughJ (N : Int) (chain : List Nat) (sp : Nat) (width la : Int) (Wt R I T S : Nat → List (List Nat)) (ls : List (List Int)) (i : Nat) : Prop where
  w1 : weightB N chain sp width (i : Int) = true
  w2 : weightRows chain N.toNat ((width * ((i : Int) % partsI width)).toNat) (((i : Int) / partsI width).toNat) chain.length = Wt i
  r1 : resB N chain sp (chain.length : Int) false (Wt i) la = true
  r2 : (Wt i).take la.toNat = R i
  d1 : ∀ l, ls[i]? = some l → intsB N chain sp la false l = true ∧ intRows (modl chain sp la.toNat false) l = I i
  p1 : twoB N chain sp la la false false (R i) (I i) = true
  p2 : zipRows (prodRow N.toNat) (modl chain sp la.toNat false) (R i) (I i) (modl chain sp la.toNat false).length = T i
  s1 : twoB N chain sp la la false false (S i) (T i) = true
  s2 : zipRows (sumRow 1 N.toNat) (modl chain sp la.toNat false) (S i) (T i) (modl chain sp la.toNat false).length = S (i + 1)
theorem join_plan {n lv : Nat} {chain : List Nat} {sp : Nat} {width : Int} {ls : List (List Int)} (hm : madeB (n : Int) chain sp width = true) (i3 : 1 ≤ lv) (i4 : lv ≤ chain.length) (hll : (ls.length : Int) = (lv : Int) * partsI width) (hlsn : ∀ l ∈ ls, l.length = n) :
    ∃ (Wt R I T S : Nat → List (List Nat)),
      intsB (n : Int) chain sp (lv : Int) false (List.replicate n 0) = true ∧ intRows (modl chain sp (lv : Int).toNat false) (List.replicate n 0) = S 0 ∧
      (∀ i, i < ls.length → ThroughJ (n : Int) chain sp width (lv : Int) Wt R I T S ls i) ∧ S ls.length = joinRows chain ls n (partsI width).toNat width lv := by
  obtain ⟨hw1, hw2, hv, -⟩ := madeB_parts hm
  have hpb := parts_bound hw1 hw2
  obtain ⟨P, hP⟩ : ∃ P : Nat, partsI width = (P : Int) := ⟨(partsI width).toNat, by omega⟩
  have hP1 : 1 ≤ P := by omega
  obtain ⟨wn, hwn⟩ : ∃ wn : Nat, width = (wn : Int) := ⟨width.toNat, by omega⟩
  have hplv : placeB chain sp (lv : Int) false = true := placeB_ok i3 i4
  have j3 : 1 ≤ chain.length := by omega
  have hpcl : placeB chain sp (chain.length : Int) false = true := placeB_ok j3 (Nat.le_refl _)
  obtain ⟨n', hn', hn4, hn32⟩ := sizeB_nat hv
  obtain rfl : n = n' := by omega
  have hmok := modl_ok hv hplv
  have hcok := modl_ok hv hpcl
  rw [modl_all] at hcok
  have hml := modl_length chain sp lv false i4
  simp only [Bool.false_eq_true, if_false, Nat.add_zero] at hml
  obtain ⟨ml, hmlE⟩ : ∃ ml, ml = modl chain sp lv false := ⟨_, rfl⟩
  have hmg : ∀ r, r < lv → ml.getD r 0 = chain.getD r 0 := fun r hr => by rw [hmlE]; exact modl_getD chain sp lv r hr
  rw [← hmlE] at hmok hml
  have hq3 : ∀ r, r < lv → 3 ≤ ml.getD r 0 := fun r hr => by
    rw [List.getD_eq_getElem?_getD, List.getElem?_eq_getElem (by omega)]
    exact (hmok _ (List.getElem_mem _)).1
  have hq0 : ∀ q ∈ ml, 0 < q := fun q hq => by have := (hmok q hq).1; omega
  have hqc : ∀ q ∈ chain, 0 < q := fun q hq => by have := (hcok q hq).1; omega
  have hpre : preB (n : Int) chain sp (lv : Int) false = true := by unfold preB; rw [hv, hplv]; rfl
  have hlsl : ls.length = lv * P := by rw [hP, ← Int.natCast_mul] at hll; omega
  have hnn : (n : Int).toNat = n := Int.toNat_natCast n
  have hlt : (lv : Int).toNat = lv := Int.toNat_natCast lv
  refine ⟨fun i => weightRows chain n (wn * (i % P)) (i / P) chain.length, fun i => (weightRows chain n (wn * (i % P)) (i / P) chain.length).take lv, fun i => intRows ml (ls.getD i []),
    fun i => zipRows (prodRow n) ml ((weightRows chain n (wn * (i % P)) (i / P) chain.length).take lv) (intRows ml (ls.getD i [])) lv, fun i => accRows wn P n ml ls lv i, ?_, ?_, ?_, ?_⟩
  · unfold intsB; rw [hpre]; simp
  · rw [hlt, ← hmlE, intRows_zero ml n lv hml]; exact (accRows_zero wn P n lv ml ls).symm
  · intro i hi
    obtain ⟨l, hl⟩ : ∃ l, ls[i]? = some l := ⟨ls[i]'hi, List.getElem?_eq_getElem _⟩
    have hln := hlsn l (List.mem_of_getElem? hl)
    have hgd : ls.getD i [] = l := by rw [List.getD_eq_getElem?_getD, hl]; rfl
    have hWok : EltOk n chain (weightRows chain n (wn * (i % P)) (i / P) chain.length) := weightRows_ok (by omega) hqc
    have hWc : checkB (n : Int) chain sp (chain.length : Int) false (weightRows chain n (wn * (i % P)) (i / P) chain.length) = true := checkB_of_elt hv hpcl (by rw [modl_all]; exact hWok)
    have hRok : EltOk n ml ((weightRows chain n (wn * (i % P)) (i / P) chain.length).take lv) := by
      rw [hmlE]
      exact EltOk.take (lv := chain.length) (by rw [modl_all]; exact hWok) i4 (Nat.le_refl _)
    have hRc : checkB (n : Int) chain sp (lv : Int) false ((weightRows chain n (wn * (i % P)) (i / P) chain.length).take lv) = true := checkB_of_elt hv hplv (by rw [← hmlE]; exact hRok)
    have hIok : EltOk n ml (intRows ml l) := intRows_ok hq0 l hln
    have hIc : checkB (n : Int) chain sp (lv : Int) false (intRows ml l) = true := checkB_of_elt hv hplv (by rw [← hmlE]; exact hIok)
    have hTok : EltOk n ml (zipRows (prodRow n) ml ((weightRows chain n (wn * (i % P)) (i / P) chain.length).take lv) (intRows ml l) lv) := by
      rw [← hml]
      exact EltOk.zip _ _ _ (fun q hq a b => prodRow_ok n q (hq0 q hq) a b)
    have hTc := checkB_of_elt hv hplv (by rw [← hmlE]; exact hTok)
    have hSc := checkB_of_elt (rows := accRows wn P n ml ls lv i) hv hplv (by rw [← hmlE]; exact accRows_ok hml hq0)
    have hdv : ((i : Int) / (P : Int)).toNat = i / P := by rw [← Int.natCast_ediv]; exact Int.toNat_natCast _
    have hmd : (width * ((i : Int) % (P : Int))).toNat = wn * (i % P) := by rw [hwn, ← Int.natCast_emod, ← Int.natCast_mul]; exact Int.toNat_natCast _
    refine ⟨?_, ?_, ?_, ?_, ?_, ?_, ?_, ?_, ?_⟩
    · unfold weightB weiB
      rw [hm, hP, Bool.true_and, Bool.and_eq_true]
      refine ⟨by simp, ?_⟩
      have h1 : lv * P ≤ chain.length * P := Nat.mul_le_mul_right _ i4
      have h2 : i < P * chain.length := by rw [Nat.mul_comm P]; omega
      rw [decide_eq_true_eq, ← Int.natCast_mul]
      omega
    · rw [hP, hnn, hdv, hmd]
    · unfold resB; rw [hWc]; simp; omega
    · rw [hlt]
    · intro l' hl'
      obtain rfl : l = l' := by rw [hl] at hl'; injection hl'
      refine ⟨by unfold intsB; rw [hpre]; simp [hln], by rw [hlt, ← hmlE]; show _ = intRows ml (ls.getD i []); rw [hgd]⟩
    · show twoB _ _ _ _ _ _ _ _ (intRows ml (ls.getD i [])) = true; rw [hgd]; exact twoB_mk hRc hIc
    · rw [hlt, hnn, ← hmlE, hml]
    · show twoB _ _ _ _ _ _ _ _ (zipRows (prodRow n) ml _ (intRows ml (ls.getD i [])) lv) = true; rw [hgd]; exact twoB_mk hSc hTc
    · rw [hlt, hnn, ← hmlE, hml]
      show zipRows (sumRow 1 n) ml _ (zipRows (prodRow n) ml _ (intRows ml (ls.getD i [])) lv) lv = _
      rw [hgd]
      exact accRows_step wn P n lv (by omega) ml chain hmg i4 hq3 ls i l hl hln _ _ rfl (intRows_range ml l lv hml)
  · show accRows wn P n ml ls lv ls.length = _
    rw [hlsl, hP, Int.toNat_natCast]
    exact accRows_all wn P n lv hP1 width (by omega) ml chain hmg hq3 ls
end Go.Proofs.Ytpcpgmgpkegjlaa
