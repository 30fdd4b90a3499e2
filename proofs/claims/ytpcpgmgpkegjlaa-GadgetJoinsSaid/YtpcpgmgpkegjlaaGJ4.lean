/- Plain: what the steps of the law on products make, one by one. -/
import Derived.Test.YtpcpgmgpkegjlaaGJ1
import Derived.Test.YtpcpgmgpkegjlaaGH7
import Derived.Test.YtpcpgmgpkegjlaaGH1
import Derived.Test.YtpcpgmgpkegjlaaGE6
namespace Go.Proofs.Ytpcpgmgpkegjlaa
open Go.RowKit Go.Shelf Go.BigFrame
theorem pow_half {width : Int} {wn : Nat} (hw1 : 2 ≤ width) (hwn : width = (wn : Int)) : (2 : Int) ^ wn = 2 * 2 ^ (width - 1).toNat := by
  have e : wn = (width - 1).toNat + 1 := by omega
  rw [e, Int.pow_succ, Int.mul_comm]
theorem zipRows_take (f : Nat → List Nat → List Nat → List Nat) (ml : List Nat) (xs ys : List (List Nat)) (k : Nat) : zipRows f ml xs (ys.take k) k = zipRows f ml xs ys k := by
  unfold zipRows
  refine List.map_congr_left fun r hr => ?_
  rw [List.mem_range] at hr
  congr 1
  simp [List.getD_eq_getElem?_getD, hr]
/-- The result of a function that makes an element and does not refuse. -/
theorem EltPost.yes {ok : Bool} {lv : Int} {s : Bool} {rows rs : List (List Nat)} {w w' : World} {e : Ending} (h : EltPost ok lv s rows w e w') (hok : ok = true) (hr : rows = rs) :
    ∃ rv, e = .returned (.tuple #[.agg #[.int .i64 lv, .bool s, rv], .int .i64 0]) ∧ w'.rowsO u32V w.heap.size 23 22 rv rs ∧ Below w.heap.size w w' := by
  subst hok hr
  obtain ⟨h1, h2⟩ := h
  rw [if_pos rfl] at h1
  obtain ⟨rv, h3, h4⟩ := h1
  exact ⟨rv, h3, h4, h2⟩
theorem bound_range {N : Int} {chain : List Nat} {sp : Nat} {width : Int} (hv : validB N chain sp = true) (hw1 : 2 ≤ width) (hw2 : width ≤ 31) : 0 ≤ boundI chain width ∧ boundI chain width ≤ 4294967296 := by
  have hmp := maxL_pos hv
  have hml := maxL_lt chain 2147483648 (by omega) (fun q hq => by have := chain_ge hv q hq; omega)
  have hpw := pow_bound hw1 hw2
  unfold boundI
  split <;> omega
theorem digRows_small {N : Int} {chain : List Nat} {sp : Nat} {width level : Int} {special : Bool} {rows : List (List Nat)} (h : digB N chain sp width level special rows = true) (i : Nat) (l : List Int) (hl : (digRows N chain width level rows)[i]? = some l) :
    ∀ x ∈ l, -9223372036854775808 ≤ x ∧ x ≤ 9223372036854775807 := by
  intro x hx
  obtain ⟨-, hw1, hw2, hm, -⟩ := digB_parts h
  have h1 := digRows_bound h l (List.mem_of_getElem? hl) x hx
  have h2 := bound_range (madeB_parts hm).2.2.1 hw1 hw2
  omega
/-- What one digit goes through. -/
structure Through (N : Int) (chain : List Nat) (sp : Nat) (width la lb : Int) (sb : Bool) (ys : List (List Nat)) (Wt K0 I T S : Nat → List (List Nat)) (ls : List (List Int)) (i : Nat) : Prop where
  w1 : weightB N chain sp width (i : Int) = true
  w2 : weightRows chain N.toNat ((width * ((i : Int) % partsI width)).toNat) (((i : Int) / partsI width).toNat) chain.length = Wt i
  k1 : twoB N chain sp (chain.length : Int) lb false sb (Wt i) ys = true
  k2 : zipRows (prodRow N.toNat) (modl chain sp (chain.length : Int).toNat false) (Wt i) ys (modl chain sp (chain.length : Int).toNat false).length = K0 i
  r1 : resB N chain sp (chain.length : Int) false (K0 i) la = true
  d1 : ∀ l, ls[i]? = some l → intsB N chain sp la false l = true ∧ intRows (modl chain sp la.toNat false) l = I i
  p1 : twoB N chain sp la la false false ((K0 i).take la.toNat) (I i) = true
  p2 : zipRows (prodRow N.toNat) (modl chain sp la.toNat false) ((K0 i).take la.toNat) (I i) (modl chain sp la.toNat false).length = T i
  s1 : twoB N chain sp la la false false (S i) (T i) = true
  s2 : zipRows (sumRow 1 N.toNat) (modl chain sp la.toNat false) (S i) (T i) (modl chain sp la.toNat false).length = S (i + 1)
theorem times_plan {N : Int} {chain : List Nat} {sp : Nat} {width la lb : Int} {sa sb : Bool} {xs ys : List (List Nat)} (hd : digB N chain sp width la sa xs = true) (hc : checkB N chain sp lb sb ys = true) (hsb : sb = false) (hlb : lb = (chain.length : Int)) :
    ∃ (n lv m : Nat) (Wt K0 I T S : Nat → List (List Nat)), N = (n : Int) ∧ la = (lv : Int) ∧ sa = false ∧ 4 ≤ n ∧ n ≤ 32 ∧ m = (digRows N chain width la xs).length ∧
      intsB N chain sp la false (List.replicate n 0) = true ∧ intRows (modl chain sp la.toNat false) (List.replicate n 0) = S 0 ∧
      (∀ i, i < m → Through N chain sp width la lb sb ys Wt K0 I T S (digRows N chain width la xs) i) ∧
      resB N chain sp lb sb ys la = true ∧ twoB N chain sp la la sa false xs (ys.take la.toNat) = true ∧
      zipRows (prodRow N.toNat) (modl chain sp la.toNat sa) xs (ys.take la.toNat) (modl chain sp la.toNat sa).length = S m := by
  have hd0 := hd
  subst hsb hlb
  obtain ⟨rfl, hw1, hw2, hm, n, lv, rfl, rfl, i1, i2, i3, i4, i5, i6⟩ := digB_parts hd
  have hpb := parts_bound hw1 hw2
  obtain ⟨P, hP⟩ : ∃ P : Nat, partsI width = (P : Int) := ⟨(partsI width).toNat, by omega⟩
  have hP1 : 1 ≤ P := by omega
  obtain ⟨wn, hwn⟩ : ∃ wn : Nat, width = (wn : Int) := ⟨width.toNat, by omega⟩
  have hhalf := pow_half hw1 hwn
  have hv := (madeB_parts hm).2.2.1
  have hxa : checkB (n : Int) chain sp (lv : Int) false xs = true := by
    unfold digB at hd
    simp only [Bool.and_eq_true] at hd
    exact hd.2
  obtain ⟨n1, lc, e1, e2, -, -, j3, -, j5, j6, j7⟩ := checkB_elt hc
  obtain rfl : n = n1 := by omega
  obtain rfl : chain.length = lc := by omega
  clear e1 e2
  rw [modl_all] at j6 j7
  have hplv : placeB chain sp (lv : Int) false = true := placeB_ok i3 i4
  have hpcl : placeB chain sp (chain.length : Int) false = true := placeB_ok j3 (Nat.le_refl _)
  have hmok := modl_ok hv hplv
  have hml := modl_length chain sp lv false i4
  simp only [Bool.false_eq_true, if_false, Nat.add_zero] at hml
  obtain ⟨ml, hmlE⟩ : ∃ ml, ml = modl chain sp lv false := ⟨_, rfl⟩
  have hmg : ∀ r, r < lv → ml.getD r 0 = chain.getD r 0 := fun r hr => by rw [hmlE]; exact modl_getD chain sp lv r hr
  rw [← hmlE] at hmok hml
  have hq3 : ∀ r, r < lv → 3 ≤ ml.getD r 0 := fun r hr => by
    rw [List.getD_eq_getElem?_getD, List.getElem?_eq_getElem (by omega)]
    exact (hmok _ (List.getElem_mem _)).1
  have hq0 : ∀ q ∈ ml, 0 < q := fun q hq => by have := (hmok q hq).1; omega
  have hqc : ∀ q ∈ chain, 0 < q := fun q hq => by have := (j6 q hq).1; omega
  have hpre : preB (n : Int) chain sp (lv : Int) false = true := by unfold preB; rw [hv, hplv]; rfl
  obtain ⟨ls, hls⟩ : ∃ ls, ls = digRows (n : Int) chain width (lv : Int) xs := ⟨_, rfl⟩
  have hlsl : ls.length = lv * P := by rw [hls, digRows_length, hP]; simp
  have hlsn : ∀ (i : Nat) (l : List Int), ls[i]? = some l → l.length = n := fun i l hl => by
    have := digRows_rowlen (r := l) (by rw [← hls]; exact List.mem_of_getElem? hl)
    simpa using this
  have hnn : (n : Int).toNat = n := Int.toNat_natCast n
  have hll : (lv : Int).toNat = lv := Int.toNat_natCast lv
  have hcc : (chain.length : Int).toNat = chain.length := Int.toNat_natCast _
  refine ⟨n, lv, lv * P, fun i => weightRows chain n (wn * (i % P)) (i / P) chain.length, fun i => zipRows (prodRow n) chain (weightRows chain n (wn * (i % P)) (i / P) chain.length) ys chain.length, fun i => intRows ml (ls.getD i []),
    fun i => zipRows (prodRow n) ml ((zipRows (prodRow n) chain (weightRows chain n (wn * (i % P)) (i / P) chain.length) ys chain.length).take lv) (intRows ml (ls.getD i [])) lv, fun i => timesRows wn P n ml ys ls lv i, rfl, rfl, rfl, i1, i2, by rw [← hlsl, hls], ?_, ?_, ?_, ?_, ?_, ?_⟩
  · unfold intsB; rw [hpre]; simp
  · rw [hll, ← hmlE, intRows_zero ml n lv hml]; exact (timesRows_zero wn P n lv ml ys ls).symm
  · intro i hi
    obtain ⟨l, hl⟩ : ∃ l, ls[i]? = some l := ⟨ls[i]'(by omega), List.getElem?_eq_getElem _⟩
    have hln := hlsn i l hl
    have hgd : ls.getD i [] = l := by rw [List.getD_eq_getElem?_getD, hl]; rfl
    have hWok : EltOk n chain (weightRows chain n (wn * (i % P)) (i / P) chain.length) := weightRows_ok (by omega) hqc
    have hWc : checkB (n : Int) chain sp (chain.length : Int) false (weightRows chain n (wn * (i % P)) (i / P) chain.length) = true := checkB_of_elt hv hpcl (by rw [modl_all]; exact hWok)
    have hKok : EltOk n chain (zipRows (prodRow n) chain (weightRows chain n (wn * (i % P)) (i / P) chain.length) ys chain.length) := EltOk.zip _ _ _ (fun q hq a b => prodRow_ok n q (hqc q hq) a b)
    have hKc : checkB (n : Int) chain sp (chain.length : Int) false (zipRows (prodRow n) chain (weightRows chain n (wn * (i % P)) (i / P) chain.length) ys chain.length) = true := checkB_of_elt hv hpcl (by rw [modl_all]; exact hKok)
    have hRok : EltOk n ml ((zipRows (prodRow n) chain (weightRows chain n (wn * (i % P)) (i / P) chain.length) ys chain.length).take lv) := by
      rw [hmlE]
      exact EltOk.take (lv := chain.length) (by rw [modl_all]; exact hKok) i4 (Nat.le_refl _)
    have hRc : checkB (n : Int) chain sp (lv : Int) false ((zipRows (prodRow n) chain (weightRows chain n (wn * (i % P)) (i / P) chain.length) ys chain.length).take lv) = true := checkB_of_elt hv hplv (by rw [← hmlE]; exact hRok)
    have hIok : EltOk n ml (intRows ml l) := intRows_ok hq0 l hln
    have hIc : checkB (n : Int) chain sp (lv : Int) false (intRows ml l) = true := checkB_of_elt hv hplv (by rw [← hmlE]; exact hIok)
    have hTok : EltOk n ml (zipRows (prodRow n) ml ((zipRows (prodRow n) chain (weightRows chain n (wn * (i % P)) (i / P) chain.length) ys chain.length).take lv) (intRows ml l) lv) := by
      rw [← hml]
      exact EltOk.zip _ _ _ (fun q hq a b => prodRow_ok n q (hq0 q hq) a b)
    have hTc := checkB_of_elt hv hplv (by rw [← hmlE]; exact hTok)
    have hSc := checkB_of_elt (rows := timesRows wn P n ml ys ls lv i) hv hplv (by rw [← hmlE]; exact timesRows_ok hml hq0)
    have hdv : ((i : Int) / (P : Int)).toNat = i / P := by rw [← Int.natCast_ediv]; exact Int.toNat_natCast _
    have hmd : (width * ((i : Int) % (P : Int))).toNat = wn * (i % P) := by rw [hwn, ← Int.natCast_emod, ← Int.natCast_mul]; exact Int.toNat_natCast _
    refine ⟨?_, ?_, ?_, ?_, ?_, ?_, ?_, ?_, ?_, ?_⟩
    · unfold weightB weiB
      rw [hm, hP, Bool.true_and, Bool.and_eq_true]
      refine ⟨by simp, ?_⟩
      have h1 : lv * P ≤ chain.length * P := Nat.mul_le_mul_right _ i4
      have h2 : i < P * chain.length := by rw [Nat.mul_comm P]; omega
      rw [decide_eq_true_eq, ← Int.natCast_mul]
      omega
    · rw [hP, hnn, hdv, hmd]
    · exact twoB_mk hWc hc
    · rw [hnn, hcc, modl_all]
    · unfold resB; rw [hKc]; simp; omega
    · intro l' hl'
      rw [← hls] at hl'
      obtain rfl : l = l' := by rw [hl] at hl'; injection hl'
      refine ⟨by unfold intsB; rw [hpre]; simp [hln], by rw [hll, ← hmlE]; show _ = intRows ml (ls.getD i []); rw [hgd]⟩
    · rw [hll]; show twoB _ _ _ _ _ _ _ _ (intRows ml (ls.getD i [])) = true; rw [hgd]; exact twoB_mk hRc hIc
    · rw [hll, hnn, ← hmlE, hml]
    · show twoB _ _ _ _ _ _ _ _ (zipRows (prodRow n) ml _ (intRows ml (ls.getD i [])) lv) = true; rw [hgd]; exact twoB_mk hSc hTc
    · rw [hll, hnn, ← hmlE, hml]
      show zipRows (sumRow 1 n) ml _ (zipRows (prodRow n) ml _ (intRows ml (ls.getD i [])) lv) lv = _
      rw [hgd]
      exact timesRows_step wn P n lv (by omega) ml chain hmg i4 hq3 ys ls i l hl hln _ _ rfl (intRows_range ml l lv hml)
  · unfold resB; rw [hc]; simp; omega
  · rw [hll]
    refine twoB_mk hxa (checkB_of_elt hv hplv ?_)
    exact EltOk.take (lv := chain.length) (by rw [modl_all]; exact j7) i4 (Nat.le_refl _)
  · rw [hll, hnn, ← hmlE, hml, zipRows_take]
    have := timesRows_all wn (2 ^ (width - 1).toNat) hhalf P n lv hP1 chain ml hmg hq3 xs ys
    rw [← this, hls]
    unfold digRows
    rw [hnn, hll, hP, Int.toNat_natCast]
end Go.Proofs.Ytpcpgmgpkegjlaa
