/- Helpers and walks, in one text. -/
import Derived.Test.YtkjlfjnncdkmlaaPA3
/- Wide integers: helpers and walks, in one text (WD5 WD6 WD7 WD8 WD9 WMa). -/
/- Walks: quotient and rest of two forms. -/
namespace Go.Proofs.Ytkjlfjnncdkmlaa
set_option linter.all false
open Go.RowKit Go.Shelf Go.WideNum
theorem form_numZ (n : Nat) (neg : Bool) (v : Value) (w : World) (h : World.numR w v n) (hl : (wd n).length ≤ 2000) : ∃ b t, outZ (zOf neg n) = .agg #[.bool b, .string t] ∧
    Calls Try.prog 102 #[v, .bool neg] w fun e w' => e = .returned (.tuple #[.agg #[.bool b, .string t], .int .i64 (errZ (zOf neg n))]) ∧ Below w.heap.size w w' := by
  have hwide : ∃ b t, outB neg n = .agg #[.bool b, .string t] := by unfold outB emptyW wideV; split <;> exact ⟨_, _, rfl⟩
  obtain ⟨b, t, hbt⟩ := hwide
  refine ⟨b, t, by rw [← outB_z]; exact hbt, ?_⟩
  have := form_num n neg v w h hl
  unfold FormRet at this
  rwa [hbt, outE_z neg] at this
theorem two_forms (na : Bool) (sa : ByteArray) (nb : Bool) (sb : ByteArray) (W : World) (g : Nat) (h : W.heap[g]? = some (.cells #[.bool na, .string sa, .bool nb, .string sb] 42)) : World.forms W g [(na, sa), (nb, sb)] := by
  intro k x hk
  match k, hk with
  | 0, hk => injection hk with hk; subst hk; exact ⟨by rw [cell_of_row W _ _ _ _ (0, 0) h]; rfl, by rw [cell_of_row W _ _ _ _ (0, 0) h]; rfl⟩
  | 1, hk => injection hk with hk; subst hk; exact ⟨by rw [cell_of_row W _ _ _ _ (0, 0) h]; rfl, by rw [cell_of_row W _ _ _ _ (0, 0) h]; rfl⟩
  | k + 2, hk => simp at hk
theorem valid2_any (na : Bool) (sa : ByteArray) (nb : Bool) (sb : ByteArray) (hsa : sa.size ≤ maxLen) (hsb : sb.size ≤ maxLen) (W : World) (g : Nat) (h : W.heap[g]? = some (.cells #[.bool na, .string sa, .bool nb, .string sb] 42)) :
    Calls Try.prog 104 #[.slice (some ⟨g, 0, none⟩) 2 2] W fun e w' => e = .returned (.bool (validB na sa && validB nb sb)) ∧ Below W.heap.size W w' := by
  have := valid_any [(na, sa), (nb, sb)] g (by simp) (by simp [hsa, hsb]) W (two_forms na sa nb sb W g h) (lt_of_heap h)
  simpa using this
theorem wide_other {W : World} {p q : Nat} (h : p ≠ q) (neg : Bool) (s : ByteArray) : ((W.setCell ⟨q, 0, none⟩ (.bool neg)).setCell ⟨q, 1, none⟩ (.string s)).heap[p]? = W.heap[p]? := by
  rw [Below.heap_setCell _ _ _ _ h, Below.heap_setCell _ _ _ _ h]
theorem below_set2 {w W : World} {p : Nat} (hb : Below w.heap.size w W) (hp : w.heap.size ≤ p) (b : Bool) (s : ByteArray) : Below w.heap.size w ((W.setCell ⟨p, 0, none⟩ (.bool b)).setCell ⟨p, 1, none⟩ (.string s)) := (hb.setCell hp _).setCell hp _
end Go.Proofs.Ytkjlfjnncdkmlaa

/- Walks: the balanced remainder. -/
namespace Go.Proofs.Ytkjlfjnncdkmlaa
set_option linter.all false
open Go.RowKit Go.Shelf Go.WideNum
def balZ (a m : Int) : Int := if m < 2 * (a % m) then a % m - m else a % m
def balF (na : Bool) (sa : ByteArray) (nb : Bool) (sb : ByteArray) : Value × Int :=
  if validB na sa && posB nb sb then (outZ (balZ (zV na sa) (zV nb sb)), errZ (balZ (zV na sa) (zV nb sb))) else (emptyW, 2)
theorem NumRet.belD {w w' : World} {e : Ending} {n : Nat} (h : NumRet w.drew n e w') : Below w.heap.size w w' := ((Below.refl w.heap.size w).drew).trans h.bel
theorem left_num (A k : Nat) (hk : k ≤ 100000) (va : Value) (w : World) (hA : World.numR w va A) (hla : (wd A).length ≤ 2000) (z : Int) (hz : z = (k : Int)) :
    Calls Try.prog 123 #[va, .int .i64 z] w (NumRet w (A * 2 ^ k)) := by subst hz; exact left_any A k hk va w hA hla
theorem wd_len_le {A C k : Nat} (h : A ≤ C) (hc : (wd C).length ≤ k) : (wd A).length ≤ k := by
  have h1 := words_length (B := 4294967296) (by omega) A (wd C).length (Nat.lt_of_le_of_lt h (wd_vlt C))
  unfold wd at *; omega
theorem wd_len_double {A k : Nat} (hc : (wd A).length ≤ k) : (wd (A * 2 ^ 1)).length ≤ k + 1 := by
  have h1 := wd_vlt A
  have h2 := words_length (B := 4294967296) (by omega) (A * 2 ^ 1) ((wd A).length + 1) (by rw [Nat.pow_succ]; omega)
  unfold wd at *; omega
set_option maxRecDepth 100000 in
set_option maxHeartbeats 8000000 in
theorem Balanced_any (na : Bool) (sa : ByteArray) (nb : Bool) (sb : ByteArray) (hsa : sa.size ≤ maxLen) (hsb : sb.size ≤ maxLen)
    (hD : validB na sa = true → validB nb sb = true → sb.size ≠ 0 → DivOK (numB sa) (numB sb)) (w : World) :
    Calls Try.prog 109 #[.agg #[.bool na, .string sa], .agg #[.bool nb, .string sb]] w fun e w' => e = .returned (.tuple #[(balF na sa nb sb).1, .int .i64 (balF na sa nb sb).2]) ∧ Below w.heap.size w w' := by
  obtain ⟨HPOST, hpost⟩ : ∃ X : Ending → World → Prop, X = fun e w' => e = .returned (.tuple #[(balF na sa nb sb).1, .int .i64 (balF na sa nb sb).2]) ∧ Below w.heap.size w w' := ⟨_, rfl⟩
  rw [← hpost]
  have HP := Lib.hid hpost
  clear hpost
  obtain ⟨W0, hW0⟩ : ∃ W0, W0 = ((w.alloc (.cells #[.bool na, .string sa] 42)).alloc (.cells #[.bool nb, .string sb] 42)).alloc (.cells #[.bool false, .string ⟨#[]⟩] 42) := ⟨_, rfl⟩
  have g0 : W0.heap[w.heap.size]? = some (.cells #[.bool na, .string sa] 42) := by rw [hW0]; repeat (first | (refine alloc_last _ _ ?_; simp only [World.size_alloc]; done) | (rw [Below.heap_alloc]; rotate_left; (simp only [World.size_alloc]; omega)))
  have g1 : W0.heap[w.heap.size + 1]? = some (.cells #[.bool nb, .string sb] 42) := by rw [hW0]; repeat (first | (refine alloc_last _ _ ?_; simp only [World.size_alloc]; done) | (rw [Below.heap_alloc]; rotate_left; (simp only [World.size_alloc]; omega)))
  have g2 : W0.heap[w.heap.size + 1 + 1]? = some (.cells #[.bool false, .string ⟨#[]⟩] 42) := by rw [hW0]; repeat (first | (refine alloc_last _ _ ?_; simp only [World.size_alloc]; done) | (rw [Below.heap_alloc]; rotate_left; (simp only [World.size_alloc]; omega)))
  have hb0 : Below w.heap.size w W0 := by rw [hW0]; exact ((((Below.refl _ w).alloc (Nat.le_refl _) _).alloc (by simp) _).alloc (by simp; omega) _)
  have HB0 := Lib.hid hb0
  have HG0 := Lib.hid g0
  have HG1 := Lib.hid g1
  have HG2 := Lib.hid g2
  obtain ⟨c00, c01, f0⟩ := wide_cells g0
  obtain ⟨c10, c11, f1⟩ := wide_cells g1
  have HW0 := Lib.hid hW0
  clear hb0 g0 g1 g2 hW0
  have HVAL : Hid (∀ W : World, Calls Try.prog 117 #[.agg #[.bool na, .string sa]] W fun e w' => e = .returned (.bool (validB na sa)) ∧ Below W.heap.size W w') := Valid_wide na sa hsa
  have HPOS : Hid (∀ W : World, Calls Try.prog 121 #[.agg #[.bool nb, .string sb]] W fun e w' => e = .returned (.bool (posB nb sb)) ∧ Below W.heap.size W w') := positive_any nb sb hsb
  obtain ⟨okv, hov⟩ : ∃ ok, ok = validB na sa := ⟨_, rfl⟩
  obtain ⟨okp, hop⟩ : ∃ ok, ok = posB nb sb := ⟨_, rfl⟩
  rw [← hov] at HVAL
  rw [← hop] at HPOS
  have HOV := Lib.hid hov
  have HOP := Lib.hid hop
  clear hov hop
  go_enter Try.func109, Try.ntmps109
  go_upto_region 1 with (fail)
  rw [← HW0.out]
  go_wp2_with fail
  (with_reducible refine (HVAL.out _).mono ?_)
  rintro e w1 ⟨rfl, hb1⟩
  have k0 := (hb1.block _ (lt_of_heap HG0.out)).trans HG0.out
  have k1 := (hb1.block _ (lt_of_heap HG1.out)).trans HG1.out
  have k2 := (hb1.block _ (lt_of_heap HG2.out)).trans HG2.out
  have HBw1 := Lib.hid (HB0.out.trans (hb1.mono HB0.out.size))
  clear c00 c01 f0 c10 c11 f1 hb1
  cases okv with
  | false =>
    obtain ⟨c20, c21, f2⟩ := wide_cells k2
    have HK2 := Lib.hid k2
    clear k0 k1 k2
    have hres : Hid (balF na sa nb sb = (emptyW, 2)) := by show _ = _; unfold balF; rw [← HOV.out]; rfl
    go_wp2
    have m2 := wide_set HK2.out false ⟨#[]⟩
    have hb9 := below_set2 (p := w.heap.size + 1 + 1) HBw1.out (by omega) false ⟨#[]⟩
    obtain ⟨d20, d21, -⟩ := wide_cells m2
    clear m2
    generalize (w1.setCell ⟨w.heap.size + 1 + 1, 0, none⟩ (.bool false)).setCell ⟨w.heap.size + 1 + 1, 1, none⟩ (.string ⟨#[]⟩) = W9 at d20 d21 hb9 ⊢
    rw [HP.out]
    exact bodyPost_ret (v := .tuple #[emptyW, .int .i64 2]) (by simp [results, Try.results109, go_sem, d20, d21]; rfl) rfl ⟨by rw [hres.out], hb9⟩
  | true =>
    obtain ⟨c10, c11, f1⟩ := wide_cells k1
    have HK0 := Lib.hid k0
    have HK1 := Lib.hid k1
    have HK2 := Lib.hid k2
    clear k0 k1 k2
    go_wp2_with fail
    (with_reducible refine (HPOS.out _).mono ?_)
    rintro e w2 ⟨rfl, hb2⟩
    have k0 := (hb2.block _ (lt_of_heap HK0.out)).trans HK0.out
    have k1 := (hb2.block _ (lt_of_heap HK1.out)).trans HK1.out
    have k2 := (hb2.block _ (lt_of_heap HK2.out)).trans HK2.out
    have HBw2 := Lib.hid (HBw1.out.trans (hb2.mono HBw1.out.size))
    clear c10 c11 f1 hb2
    cases okp with
    | false =>
      obtain ⟨c20, c21, f2⟩ := wide_cells k2
      have HK22 := Lib.hid k2
      clear k0 k1 k2
      have hres : Hid (balF na sa nb sb = (emptyW, 2)) := by show _ = _; unfold balF; rw [← HOV.out, ← HOP.out]; rfl
      go_wp2
      have m2 := wide_set HK22.out false ⟨#[]⟩
      have hb9 := below_set2 (p := w.heap.size + 1 + 1) HBw2.out (by omega) false ⟨#[]⟩
      obtain ⟨d20, d21, -⟩ := wide_cells m2
      clear m2
      generalize (w2.setCell ⟨w.heap.size + 1 + 1, 0, none⟩ (.bool false)).setCell ⟨w.heap.size + 1 + 1, 1, none⟩ (.string ⟨#[]⟩) = W9 at d20 d21 hb9 ⊢
      rw [HP.out]
      exact bodyPost_ret (v := .tuple #[emptyW, .int .i64 2]) (by simp [results, Try.results109, go_sem, d20, d21]; rfl) rfl ⟨by rw [hres.out], hb9⟩
    | true =>
      have hp := HOP.out
      unfold posB at hp
      have hv1 : validB nb sb = true := by cases h : validB nb sb <;> rw [h] at hp <;> first | rfl | cases hp
      rw [hv1, Bool.true_and] at hp
      have hp2 : sb.size ≠ 0 ∧ nb = false := by
        have h := hp.symm
        rw [Bool.and_eq_true, decide_eq_true_eq] at h
        exact ⟨h.1, by cases nb with
          | false => rfl
          | true => cases h.2⟩
      obtain ⟨h0, hnb⟩ := hp2
      subst hnb
      obtain ⟨l1, -, -, s256a⟩ := valid_spec na sa HOV.out.symm
      obtain ⟨l2, hmg, -, s256b⟩ := valid_spec false sb hv1
      have hofA : Hid (∀ W : World, Calls Try.prog 106 #[.agg #[.bool na, .string sa]] W (NumRet W (numB sa))) := of_wide na sa (by omega)
      have hofB : Hid (∀ W : World, Calls Try.prog 106 #[.agg #[.bool false, .string sb]] W (NumRet W (numB sb))) := of_wide false sb (by omega)
      have hD2 := hD HOV.out.symm hv1 h0
      have hB0 : numB sb ≠ 0 := by
        intro h
        rw [h] at hmg
        exact h0 (by rw [← hmg]; rfl)
      have hwa := wd_len65 l1
      have hwb := wd_len65 l2
      have hres : balF na sa false sb = (outZ (balZ (zV na sa) (zV false sb)), errZ (balZ (zV na sa) (zV false sb))) := by
        unfold balF; rw [← HOV.out, ← HOP.out]; rfl
      unfold zV at hres
      obtain ⟨A, hA⟩ : ∃ A, A = numB sa := ⟨_, rfl⟩
      obtain ⟨C, hC⟩ : ∃ C, C = numB sb := ⟨_, rfl⟩
      rw [← hA, ← hC] at hres
      rw [← hA] at hofA hwa
      rw [← hC] at hofB hB0 hwb
      rw [← hA, ← hC] at hD2
      obtain ⟨-, fz2⟩ := floor_z A na C false hB0
      have HFL : Hid (∀ (va vb : Value) (W : World), World.numR W va A → World.numR W vb C → Calls Try.prog 122 #[va, .bool na, vb, .bool false] W (FloorRet W A na C false)) := fun va vb W h1 h2 => floor_any A C na false hB0 hD2 (by omega) (by omega) va vb W h1 h2
      obtain ⟨r, hr⟩ : ∃ r, r = floorR A na C := ⟨_, rfl⟩
      have hrC : r < C := by
        rw [hr]
        have h3 := Nat.mod_lt A (show 0 < C by omega)
        unfold floorR
        split <;> omega
      have hwr : (wd r).length ≤ 64 := wd_len_le (Nat.le_of_lt hrC) hwb
      have hbz : balZ (zOf na A) (zOf false C) = if C < r * 2 ^ 1 then -((C - r : Nat) : Int) else (r : Int) := by
        unfold balZ
        rw [← fz2, ← hr, zOf_false]
        by_cases h : C < r * 2 ^ 1
        · rw [if_pos h, if_pos (by omega)]; omega
        · rw [if_neg h, if_neg (by omega)]
      rw [hbz] at hres
      have HRES := Lib.hid hres
      have HRR := Lib.hid hr
      obtain ⟨c00, c01, f0⟩ := wide_cells k0
      obtain ⟨c10, c11, f1⟩ := wide_cells k1
      have hl0 := lt_of_heap k0
      have hl1 := lt_of_heap k1
      have HK02 := Lib.hid k0
      have HK22 := Lib.hid k2
      have HWR := Lib.hid hwr
      have HWB := Lib.hid hwb
      clear hres hD2 hB0 hwa hwb hwr fz2 hA hC hmg l1 l2 h0 hr hbz k0 k1 k2 hv1 hp
      go_wp2_with fail
      (with_reducible refine (hofB.out _).mono ?_)
      rintro e w3 hy
      obtain ⟨vy, rfl, hoy, hby⟩ := hy
      have HY : Hid (World.numR w3 vy C) := hoy.reads
      obtain ⟨ay, cy, rfl⟩ := numR_shape HY.out
      have d0 := (hby.cell (p := ⟨w.heap.size, 0, none⟩) hl0).trans c00
      have d1 := (hby.cell (p := ⟨w.heap.size, 1, none⟩) hl0).trans c01
      have hm0 := Nat.lt_of_lt_of_le hl0 hby.size
      have HK23 := Lib.hid ((hby.block _ (lt_of_heap HK22.out)).trans HK22.out)
      have HBw3 := Lib.hid (HBw2.out.trans (hby.mono HBw2.out.size))
      clear hoy hby c00 c01 f0 c10 c11 f1 hl0 hl1
      go_wp2_with fail
      go_region_held3 (fun w' => (w'.cell? ⟨w.heap.size, 0, none⟩ = some (.bool na) ∧ w'.cell? ⟨w.heap.size, 1, none⟩ = some (.string sa)))
        (first | exact ⟨d0, d1⟩ | (refine ⟨?_, ?_⟩ <;> assumption))
        (first
          | (go_simp; go_at_call 106; (with_reducible refine (hofA.out _).mono ?_); rintro e w5 ⟨v5, rfl, ho5, hb5⟩; have H5 : Hid (NumRet _ A (.returned v5) w5) := ⟨v5, rfl, ho5, hb5⟩; have a0 := (hb5.cell (p := ⟨w.heap.size, 0, none⟩) hm0).trans d0; have a1 := (hb5.cell (p := ⟨w.heap.size, 1, none⟩) hm0).trans d1; have hn0 := Nat.lt_of_lt_of_le hm0 hb5.size; clear ho5 hb5)
          | (go_simp; go_at_call 122; (with_reducible refine (HFL.out _ _ _ H5.out.numR (numR_below HY.out H5.out.belD)).mono ?_); rintro e w7 ⟨v7, u7, rfl, hq7, hr7, hb7⟩; have HQ7 : Hid (World.numR w7 v7 (floorN A na C)) := hq7; have HR7 : Hid (World.numR w7 u7 (floorR A na C)) := hr7; have HB7 := Lib.hid hb7; have b0 := (hb7.cell (p := ⟨w.heap.size, 0, none⟩) hn0).trans a0; have b1 := (hb7.cell (p := ⟨w.heap.size, 1, none⟩) hn0).trans a1; clear hq7 hr7 hb7))
      have hb35 := H5.out.belD
      have hb37 : Below w3.heap.size w3 w7 := hb35.trans (HB7.out.mono hb35.size)
      have HY7 := Lib.hid (numR_below HY.out hb37)
      have HK27 := Lib.hid ((hb37.block _ (lt_of_heap HK23.out)).trans HK23.out)
      have HBw7 := Lib.hid (HBw3.out.trans (hb37.mono HBw3.out.size))
      rw [← HRR.out] at HR7
      obtain ⟨a7, c7, rfl⟩ := numR_shape HQ7.out
      obtain ⟨a8, c8, rfl⟩ := numR_shape HR7.out
      have hlr := left_num r 1 (by omega) _ w7 HR7.out (by have := HWR.out; omega) 1 rfl
      have HLR := Lib.hid hlr
      clear hb35 hb37 a0 a1 b0 b1 d0 d1 hm0 hn0 hlr
      go_wp2_with fail
      (with_reducible refine (HLR.out).mono ?_)
      rintro e w8 hr8
      obtain ⟨v8, rfl, ho8, hb8⟩ := hr8
      have HN8 : Hid (World.numR w8 v8 (r * 2 ^ 1)) := ho8.reads
      have HY8 := Lib.hid (numR_below HY7.out hb8)
      have HR8 := Lib.hid (numR_below HR7.out hb8)
      have HK28 := Lib.hid ((hb8.block _ (lt_of_heap HK27.out)).trans HK27.out)
      have HBw8 := Lib.hid (HBw7.out.trans (hb8.mono HBw7.out.size))
      have hcmp := compare_num (r * 2 ^ 1) C _ _ w8 HN8.out HY8.out (by have := wd_len_double HWR.out; omega) (by have := HWB.out; omega)
      obtain ⟨T, hT⟩ : ∃ T, T = cmpN (r * 2 ^ 1) C := ⟨_, rfl⟩
      rw [← hT] at hcmp
      have HCMP := Lib.hid hcmp
      clear ho8 hb8 hcmp
      by_cases hlt : C < r * 2 ^ 1
      · have ht1 : T = 1 := by rw [hT, cmpN, if_neg (by omega), if_pos hlt]
        have hres : Hid (balF na sa false sb = (outZ (zOf true (C - r)), errZ (zOf true (C - r)))) := by show _ = _; rw [HRES.out, if_pos hlt]; rfl
        subst ht1
        clear hT hlt
        go_wp2_with fail
        (with_reducible refine (HCMP.out).mono ?_)
        rintro e w9 ⟨rfl, n9, rfl⟩
        have hmin := minus_any C r (Nat.le_of_lt hrC) _ _ (w8.drewN n9) (reads_drewN HY8.out n9) (reads_drewN HR8.out n9) (by have := HWB.out; omega) (by have := HWR.out; omega)
        have HMIN := Lib.hid hmin
        clear hmin
        go_wp2_with fail
        (with_reducible refine (HMIN.out).mono ?_)
        rintro e w10 hr10
        obtain ⟨v10, rfl, ho10, hb10⟩ := hr10
        have HN10 : Hid (World.numR w10 v10 (C - r)) := ho10.reads
        have HK210 := Lib.hid ((hb10.block _ (show w.heap.size + 1 + 1 < (w8.drewN n9).heap.size from lt_of_heap HK28.out)).trans HK28.out)
        have HBw10 : Hid (Below w.heap.size w w10) := (below_drewN HBw8.out n9).trans (hb10.mono (show w.heap.size ≤ (w8.drewN n9).heap.size from HBw8.out.size))
        clear ho10 hb10
        obtain ⟨fb, ft, hf1, hf2⟩ := form_numZ (C - r) true v10 w10 HN10.out (by have := wd_len_le (show C - r ≤ C by omega) HWB.out; omega)
        have HF := Lib.hid hf2
        rw [hf1] at hres
        obtain ⟨E, hE⟩ : ∃ E, E = errZ (zOf true (C - r)) := ⟨_, rfl⟩
        rw [← hE] at HF hres
        clear hf1 hf2 hE
        go_wp2_with fail
        (with_reducible refine (HF.out).mono ?_)
        rintro e w11 ⟨rfl, hb11⟩
        have k2 := (hb11.block _ (lt_of_heap HK210.out)).trans HK210.out
        have HBw11 := Lib.hid (HBw10.out.trans (hb11.mono HBw10.out.size))
        obtain ⟨c20, c21, f2⟩ := wide_cells k2
        have HK211 := Lib.hid k2
        clear k2 hb11
        go_wp2
        have m2 := wide_set HK211.out fb ft
        have hb9 := below_set2 (p := w.heap.size + 1 + 1) HBw11.out (by omega) fb ft
        obtain ⟨d20, d21, -⟩ := wide_cells m2
        clear m2
        generalize (w11.setCell ⟨w.heap.size + 1 + 1, 0, none⟩ (.bool fb)).setCell ⟨w.heap.size + 1 + 1, 1, none⟩ (.string ft) = W9 at d20 d21 hb9 ⊢
        rw [HP.out]
        exact bodyPost_ret (v := .tuple #[.agg #[.bool fb, .string ft], .int .i64 E]) (by simp [results, Try.results109, go_sem, d20, d21]) rfl ⟨by rw [hres.out], hb9⟩
      · have ht1 : T = 0 ∨ T = -1 := by
          rw [hT, cmpN]
          by_cases h : r * 2 ^ 1 < C
          · rw [if_pos h]; exact Or.inr rfl
          · rw [if_neg h, if_neg hlt]; exact Or.inl rfl
        have ht2 : ¬ 0 < T := by omega
        have hres : Hid (balF na sa false sb = (outZ (zOf false r), errZ (zOf false r))) := by show _ = _; rw [HRES.out, if_neg hlt]; rfl
        clear hT hlt ht1
        go_wp2_with fail
        (with_reducible refine (HCMP.out).mono ?_)
        rintro e w9 ⟨rfl, n9, rfl⟩
        obtain ⟨fb, ft, hf1, hf2⟩ := form_numZ r false _ (w8.drewN n9) (numR_drewN HR8.out n9) (by have := HWR.out; omega)
        have HF := Lib.hid hf2
        rw [hf1] at hres
        obtain ⟨E, hE⟩ : ∃ E, E = errZ (zOf false r) := ⟨_, rfl⟩
        rw [← hE] at HF hres
        have HK29 : Hid ((w8.drewN n9).heap[w.heap.size + 1 + 1]? = some (.cells #[.bool false, .string ⟨#[]⟩] 42)) := HK28.out
        have HBw9 : Hid (Below w.heap.size w (w8.drewN n9)) := below_drewN HBw8.out n9
        clear hf1 hf2 hE
        go_wp2_with fail
        (with_reducible refine (HF.out).mono ?_)
        rintro e w11 ⟨rfl, hb11⟩
        have k2 := (hb11.block _ (lt_of_heap HK29.out)).trans HK29.out
        have HBw11 := Lib.hid (HBw9.out.trans (hb11.mono HBw9.out.size))
        obtain ⟨c20, c21, f2⟩ := wide_cells k2
        have HK211 := Lib.hid k2
        clear k2 hb11
        go_wp2
        have m2 := wide_set HK211.out fb ft
        have hb9 := below_set2 (p := w.heap.size + 1 + 1) HBw11.out (by omega) fb ft
        obtain ⟨d20, d21, -⟩ := wide_cells m2
        clear m2
        generalize (w11.setCell ⟨w.heap.size + 1 + 1, 0, none⟩ (.bool fb)).setCell ⟨w.heap.size + 1 + 1, 1, none⟩ (.string ft) = W9 at d20 d21 hb9 ⊢
        rw [HP.out]
        exact bodyPost_ret (v := .tuple #[.agg #[.bool fb, .string ft], .int .i64 E]) (by simp [results, Try.results109, go_sem, d20, d21]) rfl ⟨by rw [hres.out], hb9⟩
end Go.Proofs.Ytkjlfjnncdkmlaa

/- Walks: a form shifted to the left. -/

/- Walks: the calls that each law makes at its end. -/

/- Walks: two forms compared. -/
namespace Go.Proofs.Ytkjlfjnncdkmlaa
set_option linter.all false
open Go.RowKit Go.Shelf Go.WideNum
def cmpZ (a b : Int) : Int := if a < b then -1 else if b < a then 1 else 0
def cmpF (na : Bool) (sa : ByteArray) (nb : Bool) (sb : ByteArray) : Int × Int := if validB na sa && validB nb sb then (cmpZ (zV na sa) (zV nb sb), 0) else (0, 2)
theorem cmp_same (neg : Bool) (A C : Nat) : (if neg then -cmpN A C else cmpN A C) = cmpZ (zOf neg A) (zOf neg C) := by
  unfold cmpN cmpZ zOf
  cases neg
  · simp only [Bool.false_eq_true, if_false]
    by_cases h1 : A < C
    · rw [if_pos h1, if_pos (by omega)]
    · rw [if_neg h1, if_neg (show ¬ (A : Int) < (C : Int) by omega)]
      by_cases h2 : C < A
      · rw [if_pos h2, if_pos (by omega)]
      · rw [if_neg h2, if_neg (by omega)]
  · simp only [if_true]
    by_cases h1 : A < C
    · rw [if_pos h1, if_neg (by omega), if_pos (by omega)]; rfl
    · by_cases h2 : C < A
      · rw [if_neg h1, if_pos h2, if_pos (by omega)]
      · rw [if_neg h1, if_neg h2, if_neg (by omega), if_neg (by omega)]; rfl
theorem cmp_other (na nb : Bool) (h : na ≠ nb) (A C : Nat) (ha : na = true → A ≠ 0) (hc : nb = true → C ≠ 0) : (if na then (-1 : Int) else 1) = cmpZ (zOf na A) (zOf nb C) := by
  unfold cmpZ zOf
  cases na <;> cases nb
  · exact absurd rfl h
  · have := hc rfl
    simp only [Bool.false_eq_true, if_false, if_true]
    rw [if_neg (by omega), if_pos (by omega)]
  · have := ha rfl
    simp only [Bool.false_eq_true, if_false, if_true]
    rw [if_pos (by omega)]
  · exact absurd rfl h
theorem cmpN_bd (A C : Nat) : -1 ≤ cmpN A C ∧ cmpN A C ≤ 1 := by unfold cmpN; split <;> (try split) <;> omega
set_option maxRecDepth 100000 in
set_option maxHeartbeats 4000000 in
theorem signed_any (neg : Bool) (c : Int) (h1 : -1 ≤ c) (h2 : c ≤ 1) (w : World) : Calls Try.prog 111 #[.bool neg, .int .i64 c] w fun e w' => e = .returned (.int .i64 (if neg then -c else c)) ∧ w = w' := by
  cases neg
  · go_enter Try.func111, Try.ntmps111
    go_wp2
    go_ret
    exact ⟨rfl, rfl⟩
  · go_enter Try.func111, Try.ntmps111
    go_wp2
    go_ret
    exact ⟨rfl, rfl⟩
set_option maxRecDepth 100000 in
set_option maxHeartbeats 8000000 in
theorem Cmp_any (na : Bool) (sa : ByteArray) (nb : Bool) (sb : ByteArray) (hsa : sa.size ≤ maxLen) (hsb : sb.size ≤ maxLen) (w : World) :
    Calls Try.prog 95 #[.agg #[.bool na, .string sa], .agg #[.bool nb, .string sb]] w fun e w' => e = .returned (.tuple #[.int .i64 (cmpF na sa nb sb).1, .int .i64 (cmpF na sa nb sb).2]) ∧ Below w.heap.size w w' := by
  obtain ⟨HPOST, hpost⟩ : ∃ X : Ending → World → Prop, X = fun e w' => e = .returned (.tuple #[.int .i64 (cmpF na sa nb sb).1, .int .i64 (cmpF na sa nb sb).2]) ∧ Below w.heap.size w w' := ⟨_, rfl⟩
  rw [← hpost]
  have HP := Lib.hid hpost
  clear hpost
  obtain ⟨W0, hW0⟩ : ∃ W0, W0 = (w.alloc (.cells #[.bool na, .string sa] 42)).alloc (.cells #[.bool nb, .string sb] 42) := ⟨_, rfl⟩
  have g0 : W0.heap[w.heap.size]? = some (.cells #[.bool na, .string sa] 42) := by rw [hW0]; repeat (first | (refine alloc_last _ _ ?_; simp only [World.size_alloc]; done) | (rw [Below.heap_alloc]; rotate_left; (simp only [World.size_alloc]; omega)))
  have g1 : W0.heap[w.heap.size + 1]? = some (.cells #[.bool nb, .string sb] 42) := by rw [hW0]; repeat (first | (refine alloc_last _ _ ?_; simp only [World.size_alloc]; done) | (rw [Below.heap_alloc]; rotate_left; (simp only [World.size_alloc]; omega)))
  have hb0 : Below w.heap.size w W0 := by rw [hW0]; exact (((Below.refl _ w).alloc (Nat.le_refl _) _).alloc (by simp) _)
  have HB0 := Lib.hid hb0
  have HG0 := Lib.hid g0
  have HG1 := Lib.hid g1
  obtain ⟨c00, c01, f0⟩ := wide_cells g0
  obtain ⟨c10, c11, f1⟩ := wide_cells g1
  have HW0 := Lib.hid hW0
  clear hb0 g0 g1 hW0
  go_enter Try.func95, Try.ntmps95
  go_upto_region 1 with (fail)
  rw [← HW0.out]
  go_wp2_with fail
  obtain ⟨ok, hok⟩ : ∃ ok, ok = (validB na sa && validB nb sb) := ⟨_, rfl⟩
  have hval := valid2_any na sa nb sb hsa hsb (W0.alloc (.cells #[.bool na, .string sa, .bool nb, .string sb] 42)) W0.heap.size (heap_alloc_new W0 _)
  rw [← hok] at hval
  have HOK := Lib.hid hok
  clear hok
  (with_reducible refine hval.mono ?_)
  clear hval
  rintro e w1 ⟨rfl, hb1⟩
  have hb01 : Below W0.heap.size W0 w1 := ((Below.refl _ W0).alloc (Nat.le_refl _) _).trans (hb1.mono (by simp))
  have k0 := (hb01.block _ (lt_of_heap HG0.out)).trans HG0.out
  have k1 := (hb01.block _ (lt_of_heap HG1.out)).trans HG1.out
  have HBw1 := Lib.hid (HB0.out.trans (hb01.mono HB0.out.size))
  clear c00 c01 f0 c10 c11 f1 hb1
  obtain ⟨c00, c01, f0⟩ := wide_cells k0
  obtain ⟨c10, c11, f1⟩ := wide_cells k1
  have hl0 := lt_of_heap k0
  have hl1 := lt_of_heap k1
  clear k0 k1 hb01
  cases ok with
  | false =>
    have hres : Hid (cmpF na sa nb sb = (0, 2)) := by show _ = _; unfold cmpF; rw [← HOK.out]; rfl
    go_wp2
    rw [HP.out]
    exact ⟨by rw [hres.out]; rfl, HBw1.out⟩
  | true =>
    have hv : validB na sa = true ∧ validB nb sb = true := by
      have := HOK.out
      cases h1 : validB na sa <;> cases h2 : validB nb sb <;> rw [h1, h2] at this <;> first | exact ⟨rfl, rfl⟩ | cases this
    obtain ⟨l1, -, z1, s256a⟩ := valid_spec na sa hv.1
    obtain ⟨l2, -, z2, s256b⟩ := valid_spec nb sb hv.2
    have hres : Hid (cmpF na sa nb sb = (cmpZ (zOf na (numB sa)) (zOf nb (numB sb)), 0)) := by show _ = _; unfold cmpF; rw [← HOK.out]; rfl
    by_cases hs : na = nb
    · subst hs
      have hofA : Hid (∀ W : World, Calls Try.prog 106 #[.agg #[.bool na, .string sa]] W (NumRet W (numB sa))) := of_wide na sa (by omega)
      have hofB : Hid (∀ W : World, Calls Try.prog 106 #[.agg #[.bool na, .string sb]] W (NumRet W (numB sb))) := of_wide na sb (by omega)
      have hwa := wd_len65 l1
      have hwb := wd_len65 l2
      obtain ⟨A, hA⟩ : ∃ A, A = numB sa := ⟨_, rfl⟩
      obtain ⟨C, hC⟩ : ∃ C, C = numB sb := ⟨_, rfl⟩
      rw [← hA, ← hC] at hres
      rw [← hA] at hofA hwa
      rw [← hC] at hofB hwb
      rw [← cmp_same] at hres
      have hcmp : Hid (∀ (va vb : Value) (W : World), World.numR W va A → World.numR W vb C → Calls Try.prog 112 #[va, vb] W fun e w' => e = .returned (.int .i64 (cmpN A C)) ∧ ∃ n, w' = W.drewN n) := fun va vb W h1 h2 => compare_num A C va vb W h1 h2 (by omega) (by omega)
      obtain ⟨bd1, bd2⟩ := cmpN_bd A C
      obtain ⟨T, hT⟩ : ∃ T, T = cmpN A C := ⟨_, rfl⟩
      rw [← hT] at hcmp hres bd1 bd2
      have hsg : Hid (∀ W : World, Calls Try.prog 111 #[.bool na, .int .i64 T] W fun e w' => e = .returned (.int .i64 (if na then -T else T)) ∧ W = w') := fun W => signed_any na T bd1 bd2 W
      obtain ⟨Z, hZ⟩ : ∃ Z, Z = if na then -T else T := ⟨_, rfl⟩
      rw [← hZ] at hsg hres
      have HWA := Lib.hid hwa
      clear hT hZ hA hC z1 z2 l1 l2 hwa hwb hv bd1 bd2
      go_wp2_with fail
      go_region_held3 (fun w' => (w'.cell? ⟨w.heap.size, 0, none⟩ = some (.bool na) ∧ w'.cell? ⟨w.heap.size, 1, none⟩ = some (.string sa) ∧ w'.cell? ⟨w.heap.size + 1, 0, none⟩ = some (.bool na) ∧ w'.cell? ⟨w.heap.size + 1, 1, none⟩ = some (.string sb)))
        (first | exact ⟨c00, c01, c10, c11⟩ | (refine ⟨?_, ?_, ?_, ?_⟩ <;> assumption) | exact ⟨b0, b1, b2, b3⟩)
        (first
          | (go_simp; go_at_call 106; (with_reducible refine (hofA.out _).mono ?_); rintro e w5 ⟨v5, rfl, ho5, hb5⟩; have H5 : Hid (NumRet _ A (.returned v5) w5) := ⟨v5, rfl, ho5, hb5⟩; have a0 := (hb5.cell (p := ⟨w.heap.size, 0, none⟩) hl0).trans c00; have a1 := (hb5.cell (p := ⟨w.heap.size, 1, none⟩) hl0).trans c01; have a2 := (hb5.cell (p := ⟨w.heap.size + 1, 0, none⟩) hl1).trans c10; have a3 := (hb5.cell (p := ⟨w.heap.size + 1, 1, none⟩) hl1).trans c11; have hm0 := Nat.lt_of_lt_of_le hl0 hb5.size; have hm1 := Nat.lt_of_lt_of_le hl1 hb5.size; clear ho5 hb5)
          | (go_simp; go_at_call 106; (with_reducible refine (hofB.out _).mono ?_); rintro e w6 ⟨v6, rfl, ho6, hb6⟩; have H6 : Hid (NumRet _ C (.returned v6) w6) := ⟨v6, rfl, ho6, hb6⟩; have b0 := (hb6.cell (p := ⟨w.heap.size, 0, none⟩) hm0).trans a0; have b1 := (hb6.cell (p := ⟨w.heap.size, 1, none⟩) hm0).trans a1; have b2 := (hb6.cell (p := ⟨w.heap.size + 1, 0, none⟩) hm1).trans a2; have b3 := (hb6.cell (p := ⟨w.heap.size + 1, 1, none⟩) hm1).trans a3; have HB6 := Lib.hid (H5.out.belD.trans (hb6.mono H5.out.belD.size)); clear ho6 hb6)
          | (go_simp; go_at_call 112; (with_reducible refine (hcmp.out _ _ _ (numR_below H5.out.numR H6.out.bel) H6.out.numR).mono ?_); rintro e w7 ⟨rfl, n7, rfl⟩)
          | (go_simp; go_at_call 111; (with_reducible refine (hsg.out _).mono ?_); rintro e w8 ⟨rfl, rfl⟩))
      have hbf := below_drewN (HBw1.out.trans (HB6.out.mono HBw1.out.size)) n7
      go_wp2
      rw [HP.out]
      exact ⟨by rw [hres.out]; rfl, hbf⟩
    · rw [← cmp_other na nb hs _ _ z1 z2] at hres
      have hcs : (na = true ∧ nb = false) ∨ (na = false ∧ nb = true) := by cases na <;> cases nb <;> simp at hs ⊢
      clear z1 z2 l1 l2 hv
      rcases hcs with ⟨rfl, rfl⟩ | ⟨rfl, rfl⟩
      · have hsg : Hid (∀ W : World, Calls Try.prog 111 #[.bool true, .int .i64 1] W fun e w' => e = .returned (.int .i64 (-1)) ∧ W = w') := fun W => signed_any true 1 (by omega) (by omega) W
        clear hs
        go_wp2_with fail
        (with_reducible refine (hsg.out _).mono ?_)
        rintro e w8 ⟨rfl, rfl⟩
        go_wp2
        rw [HP.out]
        exact ⟨by rw [hres.out]; rfl, HBw1.out⟩
      · have hsg : Hid (∀ W : World, Calls Try.prog 111 #[.bool false, .int .i64 1] W fun e w' => e = .returned (.int .i64 1) ∧ W = w') := fun W => signed_any false 1 (by omega) (by omega) W
        clear hs
        go_wp2_with fail
        (with_reducible refine (hsg.out _).mono ?_)
        rintro e w8 ⟨rfl, rfl⟩
        go_wp2
        rw [HP.out]
        exact ⟨by rw [hres.out]; rfl, HBw1.out⟩
end Go.Proofs.Ytkjlfjnncdkmlaa

/- Plain: a text leads back to the integer, and the integer to the text. -/
namespace Go.Proofs.Ytkjlfjnncdkmlaa
set_option linter.all false
open Go.WideNum
theorem valid_magB (neg : Bool) (n : Nat) (h : n < lim) (hz : neg = true → n ≠ 0) : validB neg (magB n) = true ∧ numB (magB n) = n := by
  have hnum : numB (magB n) = n := by unfold numB magB; exact valM_magL n
  refine ⟨?_, hnum⟩
  unfold validB
  have hl := magL_length n
  by_cases h0 : n = 0
  · subst h0
    cases neg with
    | false => rfl
    | true => exact absurd rfl (hz rfl)
  · have hsz : (magB n).size = (words 256 n).length := by rw [← hl]; rfl
    have hw0 : ¬ (words 256 n).length = 0 := fun h => h0 ((words_len0 (B := 256) (by omega) n).1 h)
    rw [dif_neg (by rw [hsz]; exact hw0)]
    have h256 := (lim_iff n _ rfl).1 h
    rw [Bool.and_eq_true]
    refine ⟨decide_eq_true ?_, decide_eq_true (by rw [hsz]; exact h256)⟩
    intro hz0
    have htr := words_trimmed (B := 256) (by omega) n n (Nat.le_refl _)
    have hp : 0 < (magL n).length := by rw [hl]; omega
    have e1 : (magL n)[0] = 0 := hz0
    have e2 : (magL n).head? = some 0 := by rw [List.head?_eq_getElem?, List.getElem?_eq_getElem hp, e1]
    unfold magL at e2
    rw [List.head?_reverse, List.getLast?_map] at e2
    cases hg : (words 256 n).getLast? with
    | none => rw [hg] at e2; cases e2
    | some x =>
      rw [hg] at e2
      injection e2 with e2
      have hx := htr x hg
      have hx2 := words_lt (B := 256) (by omega) n n x (List.mem_of_getLast? hg)
      have : (UInt8.ofNat x).toNat = 0 := by
        have e3 : UInt8.ofNat x = 0 := e2
        rw [e3]; rfl
      rw [UInt8.toNat_ofNat'] at this
      have e4 : x % 256 = 0 := this
      omega
end Go.Proofs.Ytkjlfjnncdkmlaa

/- Walks: the sum of two forms. -/
namespace Go.Proofs.Ytkjlfjnncdkmlaa
set_option linter.all false
open Go.RowKit Go.Shelf Go.WideNum
/-- What a function of two integers answers. -/
def opF (f : Int → Int → Int) (na : Bool) (sa : ByteArray) (nb : Bool) (sb : ByteArray) : Value × Int :=
  if validB na sa && validB nb sb then (outZ (f (zV na sa) (zV nb sb)), errZ (f (zV na sa) (zV nb sb))) else (emptyW, 2)
theorem mul_z (A : Nat) (an : Bool) (C : Nat) (bn : Bool) : zOf (an != bn) (A * C) = zOf an A * zOf bn C := by
  unfold zOf
  cases an <;> cases bn <;> simp [Int.natCast_mul, Int.mul_neg, Int.neg_mul]
theorem bne_eq (a b : Bool) : (!(a == b)) = (a != b) := rfl
theorem sumN_le (A : Nat) (an : Bool) (C : Nat) (bn : Bool) : sumN A an C bn ≤ A + C := by
  unfold sumN
  split
  · exact Nat.le_refl _
  · split <;> omega
theorem wd_len_sum {A C n : Nat} (ha : (wd A).length ≤ 64) (hc : (wd C).length ≤ 64) (h : n ≤ A + C) : (wd n).length ≤ 65 := by
  have h1 := wd_vlt A
  have h2 := wd_vlt C
  have hp : (4294967296 : Nat) ^ (wd A).length ≤ 4294967296 ^ 64 := Nat.pow_le_pow_right (by omega) ha
  have hp2 : (4294967296 : Nat) ^ (wd C).length ≤ 4294967296 ^ 64 := Nat.pow_le_pow_right (by omega) hc
  exact words_length (by omega) n 65 (by rw [show (65 : Nat) = 64 + 1 by rfl, Nat.pow_succ]; omega)
theorem wd_len_prod {A C : Nat} (ha : (wd A).length ≤ 64) (hc : (wd C).length ≤ 64) : (wd (A * C)).length ≤ 128 := by
  have h1 := wd_vlt A
  have h2 := wd_vlt C
  have hp : (4294967296 : Nat) ^ (wd A).length ≤ 4294967296 ^ 64 := Nat.pow_le_pow_right (by omega) ha
  have hp2 : (4294967296 : Nat) ^ (wd C).length ≤ 4294967296 ^ 64 := Nat.pow_le_pow_right (by omega) hc
  exact words_length (by omega) (A * C) 128 (by
    rw [show (128 : Nat) = 64 + 64 by rfl, Nat.pow_add]
    exact Nat.mul_lt_mul'' (Nat.lt_of_lt_of_le h1 hp) (Nat.lt_of_lt_of_le h2 hp2))
theorem sum_num (A C : Nat) (an bn : Bool) (va vb : Value) (w : World) (hA : World.numR w va A) (hC : World.numR w vb C) (hla : (wd A).length ≤ 2000) (hlc : (wd C).length ≤ 2000) :
    Calls Try.prog 120 #[va, .bool an, vb, .bool bn] w fun e w' => (∃ v, e = .returned (.tuple #[v, .bool (sumS A an C bn)]) ∧ World.numR w' v (sumN A an C bn)) ∧ Below w.heap.size w w' :=
  (sum_any A C an bn va vb w hA hC hla hlc).mono fun e w' ⟨v, he, hr⟩ => ⟨⟨v, he, hr.numR⟩, hr.bel⟩
theorem times_num (A C : Nat) (va vb : Value) (w : World) (hA : World.numR w va A) (hC : World.numR w vb C) (hl : (wd A).length + (wd C).length ≤ 134) :
    Calls Try.prog 105 #[va, vb] w fun e w' => (∃ v, e = .returned v ∧ World.numR w' v (A * C)) ∧ Below w.heap.size w w' :=
  (times_any A C va vb w hA hC hl).mono fun e w' hr => by
    obtain ⟨v, rfl, h1, h2⟩ := hr
    exact ⟨⟨v, rfl, h1.reads⟩, h2⟩
set_option maxRecDepth 100000 in
set_option maxHeartbeats 8000000 in
theorem Add_any (na : Bool) (sa : ByteArray) (nb : Bool) (sb : ByteArray) (hsa : sa.size ≤ maxLen) (hsb : sb.size ≤ maxLen) (w : World) :
    Calls Try.prog 108 #[.agg #[.bool na, .string sa], .agg #[.bool nb, .string sb]] w fun e w' => e = .returned (.tuple #[(opF (fun a b => a + b) na sa nb sb).1, .int .i64 (opF (fun a b => a + b) na sa nb sb).2]) ∧ Below w.heap.size w w' := by
  obtain ⟨HPOST, hpost⟩ : ∃ X : Ending → World → Prop, X = fun e w' => e = .returned (.tuple #[(opF (fun a b => a + b) na sa nb sb).1, .int .i64 (opF (fun a b => a + b) na sa nb sb).2]) ∧ Below w.heap.size w w' := ⟨_, rfl⟩
  rw [← hpost]
  have HP := Lib.hid hpost
  clear hpost
  obtain ⟨W0, hW0⟩ : ∃ W0, W0 = ((w.alloc (.cells #[.bool na, .string sa] 42)).alloc (.cells #[.bool nb, .string sb] 42)).alloc (.cells #[.bool false, .string ⟨#[]⟩] 42) := ⟨_, rfl⟩
  have g0 : W0.heap[w.heap.size]? = some (.cells #[.bool na, .string sa] 42) := by rw [hW0]; repeat (first | (refine alloc_last _ _ ?_; simp only [World.size_alloc]; done) | (rw [Below.heap_alloc]; rotate_left; (simp only [World.size_alloc]; omega)))
  have g1 : W0.heap[w.heap.size + 1]? = some (.cells #[.bool nb, .string sb] 42) := by rw [hW0]; repeat (first | (refine alloc_last _ _ ?_; simp only [World.size_alloc]; done) | (rw [Below.heap_alloc]; rotate_left; (simp only [World.size_alloc]; omega)))
  have g2 : W0.heap[w.heap.size + 1 + 1]? = some (.cells #[.bool false, .string ⟨#[]⟩] 42) := by rw [hW0]; repeat (first | (refine alloc_last _ _ ?_; simp only [World.size_alloc]; done) | (rw [Below.heap_alloc]; rotate_left; (simp only [World.size_alloc]; omega)))
  have hb0 : Below w.heap.size w W0 := by rw [hW0]; exact ((((Below.refl _ w).alloc (Nat.le_refl _) _).alloc (by simp) _).alloc (by simp; omega) _)
  have HB0 := Lib.hid hb0
  have HG0 := Lib.hid g0
  have HG1 := Lib.hid g1
  have HG2 := Lib.hid g2
  obtain ⟨c00, c01, f0⟩ := wide_cells g0
  obtain ⟨c10, c11, f1⟩ := wide_cells g1
  have HW0 := Lib.hid hW0
  clear hb0 g0 g1 g2 hW0
  go_enter Try.func108, Try.ntmps108
  go_upto_region 1 with (fail)
  rw [← HW0.out]
  go_wp2_with fail
  obtain ⟨ok, hok⟩ : ∃ ok, ok = (validB na sa && validB nb sb) := ⟨_, rfl⟩
  have hval := valid2_any na sa nb sb hsa hsb (W0.alloc (.cells #[.bool na, .string sa, .bool nb, .string sb] 42)) W0.heap.size (heap_alloc_new W0 _)
  rw [← hok] at hval
  have HOK := Lib.hid hok
  clear hok
  (with_reducible refine hval.mono ?_)
  clear hval
  rintro e w1 ⟨rfl, hb1⟩
  have hb01 : Below W0.heap.size W0 w1 := ((Below.refl _ W0).alloc (Nat.le_refl _) _).trans (hb1.mono (by simp))
  have k0 := (hb01.block _ (lt_of_heap HG0.out)).trans HG0.out
  have k1 := (hb01.block _ (lt_of_heap HG1.out)).trans HG1.out
  have k2 := (hb01.block _ (lt_of_heap HG2.out)).trans HG2.out
  have HK2 := Lib.hid k2
  have HBw1 := Lib.hid (HB0.out.trans (hb01.mono HB0.out.size))
  clear c00 c01 f0 c10 c11 f1 hb1
  obtain ⟨c00, c01, f0⟩ := wide_cells k0
  obtain ⟨c10, c11, f1⟩ := wide_cells k1
  obtain ⟨e20, e21, f2⟩ := wide_cells k2
  have hl0 := lt_of_heap k0
  have hl1 := lt_of_heap k1
  have hl2 := lt_of_heap k2
  clear k0 k1 k2 hb01
  cases ok with
  | false =>
    have hres : Hid (opF (fun a b => a + b) na sa nb sb = (emptyW, 2)) := by show _ = _; unfold opF; rw [← HOK.out]; rfl
    go_wp2
    have m2 := wide_set HK2.out false ⟨#[]⟩
    have hb9 := below_set2 (p := w.heap.size + 1 + 1) HBw1.out (by omega) false ⟨#[]⟩
    obtain ⟨d20, d21, -⟩ := wide_cells m2
    clear m2 e20 e21 f2
    generalize (w1.setCell ⟨w.heap.size + 1 + 1, 0, none⟩ (.bool false)).setCell ⟨w.heap.size + 1 + 1, 1, none⟩ (.string ⟨#[]⟩) = W9 at d20 d21 hb9 ⊢
    rw [HP.out]
    exact bodyPost_ret (v := .tuple #[emptyW, .int .i64 2]) (by simp [results, Try.results108, go_sem, d20, d21]; rfl) rfl ⟨by rw [hres.out], hb9⟩
  | true =>
    have hv : validB na sa = true ∧ validB nb sb = true := by
      have := HOK.out
      cases h1 : validB na sa <;> cases h2 : validB nb sb <;> rw [h1, h2] at this <;> first | exact ⟨rfl, rfl⟩ | cases this
    obtain ⟨l1, -, -, s256a⟩ := valid_spec na sa hv.1
    obtain ⟨l2, -, -, s256b⟩ := valid_spec nb sb hv.2
    have hofA : Hid (∀ W : World, Calls Try.prog 106 #[.agg #[.bool na, .string sa]] W (NumRet W (numB sa))) := of_wide na sa (by omega)
    have hofB : Hid (∀ W : World, Calls Try.prog 106 #[.agg #[.bool nb, .string sb]] W (NumRet W (numB sb))) := of_wide nb sb (by omega)
    have hwa := wd_len65 l1
    have hwb := wd_len65 l2
    have hres : opF (fun a b => a + b) na sa nb sb = (outZ ((fun a b => a + b) (zV na sa) (zV nb sb)), errZ ((fun a b => a + b) (zV na sa) (zV nb sb))) := by unfold opF; rw [← HOK.out]; rfl
    unfold zV at hres
    obtain ⟨A, hA⟩ : ∃ A, A = numB sa := ⟨_, rfl⟩
    obtain ⟨C, hC⟩ : ∃ C, C = numB sb := ⟨_, rfl⟩
    rw [← hA, ← hC] at hres
    rw [← hA] at hofA hwa
    rw [← hC] at hofB hwb
    have HSUM : Hid (∀ (va vb : Value) (W : World) (b' : Bool), World.numR W va A → World.numR W vb C → b' = nb → Calls Try.prog 120 #[va, .bool na, vb, .bool b'] W fun e w' => (∃ v, e = .returned (.tuple #[v, .bool (sumS A na C (nb))]) ∧ World.numR w' v (sumN A na C (nb))) ∧ Below W.heap.size W w') := fun va vb W b' h1 h2 h3 => by rw [h3]; exact sum_num A C na (nb) va vb W h1 h2 (by omega) (by omega)
    obtain ⟨S, hS⟩ : ∃ S, S = sumS A na C (nb) := ⟨_, rfl⟩
    obtain ⟨M, hMM⟩ : ∃ M, M = sumN A na C (nb) := ⟨_, rfl⟩
    have hML : (wd M).length ≤ 65 := wd_len_sum hwa hwb (by rw [hMM]; exact sumN_le _ _ _ _)
    rw [show (fun a b => a + b) (zOf na A) (zOf nb C) = zOf S M by rw [hS, hMM]; exact (sum_z A na C nb).symm] at hres
    rw [← hS, ← hMM] at HSUM
    clear hS
    have hff : ∃ fb ft, outZ (zOf S M) = .agg #[.bool fb, .string ft] ∧ ∀ (v : Value) (W : World) (S' : Bool), World.numR W v M → S' = S → Calls Try.prog 102 #[v, .bool S'] W fun e w' => e = .returned (.tuple #[.agg #[.bool fb, .string ft], .int .i64 (errZ (zOf S M))]) ∧ Below W.heap.size W w' := by
      have hwide : ∃ b t, outB S M = .agg #[.bool b, .string t] := by unfold outB emptyW wideV; split <;> exact ⟨_, _, rfl⟩
      obtain ⟨b, t, hbt⟩ := hwide
      refine ⟨b, t, by rw [← outB_z]; exact hbt, fun v W S' h hS => ?_⟩
      subst hS
      obtain ⟨b', t', h1, h2⟩ := form_numZ M S' v W h (by omega)
      rw [← outB_z, hbt] at h1
      rwa [← h1] at h2
    obtain ⟨fb, ft, hf1, hf2⟩ := hff
    obtain ⟨E, hE⟩ : ∃ E, E = errZ (zOf S M) := ⟨_, rfl⟩
    rw [hf1, ← hE] at hres
    rw [← hE] at hf2
    have HFF := Lib.hid hf2
    have HRES := Lib.hid hres
    skip
    clear hres hf1 hf2 hE hA hC l1 l2 hwa hwb hv hML hMM
    go_wp2_with fail
    go_region_held3 (fun w' => (w'.cell? ⟨w.heap.size, 0, none⟩ = some (.bool na) ∧ w'.cell? ⟨w.heap.size, 1, none⟩ = some (.string sa) ∧ w'.cell? ⟨w.heap.size + 1, 0, none⟩ = some (.bool nb) ∧ w'.cell? ⟨w.heap.size + 1, 1, none⟩ = some (.string sb)))
      (first | exact ⟨c00, c01, c10, c11⟩ | (refine ⟨?_, ?_, ?_, ?_⟩ <;> assumption) | exact ⟨(World.cell?_of_block (a := ⟨w.heap.size, 0, none⟩) (wide_other (p := w.heap.size) (q := w.heap.size + 1 + 1) (by omega) fb ft)).trans q0, (World.cell?_of_block (a := ⟨w.heap.size, 1, none⟩) (wide_other (p := w.heap.size) (q := w.heap.size + 1 + 1) (by omega) fb ft)).trans q1, (World.cell?_of_block (a := ⟨w.heap.size + 1, 0, none⟩) (wide_other (p := w.heap.size + 1) (q := w.heap.size + 1 + 1) (by omega) fb ft)).trans q2, (World.cell?_of_block (a := ⟨w.heap.size + 1, 1, none⟩) (wide_other (p := w.heap.size + 1) (q := w.heap.size + 1 + 1) (by omega) fb ft)).trans q3⟩)
      (first
        | (go_simp; go_at_call 106; (with_reducible refine (hofA.out _).mono ?_); rintro e w5 ⟨v5, rfl, ho5, hb5⟩; have H5 : Hid (NumRet _ A (.returned v5) w5) := ⟨v5, rfl, ho5, hb5⟩; have a0 := (hb5.cell (p := ⟨w.heap.size, 0, none⟩) hl0).trans c00; have a1 := (hb5.cell (p := ⟨w.heap.size, 1, none⟩) hl0).trans c01; have a2 := (hb5.cell (p := ⟨w.heap.size + 1, 0, none⟩) hl1).trans c10; have a3 := (hb5.cell (p := ⟨w.heap.size + 1, 1, none⟩) hl1).trans c11; have ha0 := Nat.lt_of_lt_of_le hl0 hb5.size; have ha1 := Nat.lt_of_lt_of_le hl1 hb5.size;  clear ho5 hb5)
        | (go_simp; go_at_call 106; (with_reducible refine (hofB.out _).mono ?_); rintro e w6 ⟨v6, rfl, ho6, hb6⟩; have H6 : Hid (NumRet _ C (.returned v6) w6) := ⟨v6, rfl, ho6, hb6⟩; have b0 := (hb6.cell (p := ⟨w.heap.size, 0, none⟩) ha0).trans a0; have b1 := (hb6.cell (p := ⟨w.heap.size, 1, none⟩) ha0).trans a1; have b2 := (hb6.cell (p := ⟨w.heap.size + 1, 0, none⟩) ha1).trans a2; have b3 := (hb6.cell (p := ⟨w.heap.size + 1, 1, none⟩) ha1).trans a3; have hb_0 := Nat.lt_of_lt_of_le ha0 hb6.size; have hb_1 := Nat.lt_of_lt_of_le ha1 hb6.size;  clear ho6 hb6)
        | (go_simp; go_at_call 120; (with_reducible refine (HSUM.out _ _ _ _ (numR_below H5.out.numR H6.out.bel) H6.out.numR rfl).mono ?_); rintro e w7 ⟨⟨v7, rfl, h7⟩, hb7⟩; have H7 : Hid (World.numR w7 v7 M) := h7; have HB7 := Lib.hid hb7; have d0 := (hb7.cell (p := ⟨w.heap.size, 0, none⟩) hb_0).trans b0; have d1 := (hb7.cell (p := ⟨w.heap.size, 1, none⟩) hb_0).trans b1; have d2 := (hb7.cell (p := ⟨w.heap.size + 1, 0, none⟩) hb_1).trans b2; have d3 := (hb7.cell (p := ⟨w.heap.size + 1, 1, none⟩) hb_1).trans b3; have hd_0 := Nat.lt_of_lt_of_le hb_0 hb7.size; have hd_1 := Nat.lt_of_lt_of_le hb_1 hb7.size;  clear h7 hb7)
        | (go_simp; go_at_call 102; (with_reducible refine (HFF.out _ _ _ H7.out rfl).mono ?_); rintro e w8 ⟨rfl, hb8⟩; have q0 := (hb8.cell (p := ⟨w.heap.size, 0, none⟩) hd_0).trans d0; have q1 := (hb8.cell (p := ⟨w.heap.size, 1, none⟩) hd_0).trans d1; have q2 := (hb8.cell (p := ⟨w.heap.size + 1, 0, none⟩) hd_1).trans d2; have q3 := (hb8.cell (p := ⟨w.heap.size + 1, 1, none⟩) hd_1).trans d3; have hq_0 := Nat.lt_of_lt_of_le hd_0 hb8.size; have hq_1 := Nat.lt_of_lt_of_le hd_1 hb8.size;  have HB8 := Lib.hid (H5.out.belD.trans (((H6.out.bel.trans (HB7.out.mono H6.out.bel.size)).trans (hb8.mono (Nat.le_trans H6.out.bel.size HB7.out.size))).mono H5.out.belD.size)); have K28 := (HB8.out.block _ hl2).trans HK2.out; have HK28 := Lib.hid K28; obtain ⟨e28, e29, f28⟩ := wide_cells K28; clear hb8 K28))
    all_goals
      go_wp2
      have m2 := wide_set HK28.out fb ft
      have hb9 := below_set2 (p := w.heap.size + 1 + 1) (HBw1.out.trans (HB8.out.mono HBw1.out.size)) (by omega) fb ft
      obtain ⟨d20, d21, -⟩ := wide_cells m2
      clear m2
      generalize (w8.setCell ⟨w.heap.size + 1 + 1, 0, none⟩ (.bool fb)).setCell ⟨w.heap.size + 1 + 1, 1, none⟩ (.string ft) = W9 at d20 d21 hb9 ⊢
      rw [HP.out]
      exact bodyPost_ret (v := .tuple #[.agg #[.bool fb, .string ft], .int .i64 E]) (by simp [results, Try.results108, go_sem, d20, d21]) rfl ⟨by rw [HRES.out], hb9⟩
end Go.Proofs.Ytkjlfjnncdkmlaa

/- Wide integers: helpers and walks, in one text (XR6 XR7 XR8 XR9). -/
/- The reference's numbers with signs: the form of a number. -/
namespace Go.Proofs.Ytkjlfjnncdkmlaa
set_option linter.all false
open Go.RowKit Go.Shelf Go.WideNum
theorem words_cons {B : Nat} (hB : 1 < B) (x : Nat) (h : x ≠ 0) : words B x = x % B :: words B (x / B) := by
  obtain ⟨f, rfl⟩ : ∃ f, x = f + 1 := ⟨x - 1, by omega⟩
  show wordsOf B (f + 1) (f + 1) = _
  rw [wordsOf, if_neg h]
  congr 1
  have hv : valW B (words B ((f + 1) / B)) = (f + 1) / B := val_words hB _ _ (Nat.le_refl _)
  have hd : (f + 1) / B ≤ f := by have := Nat.div_lt_self (show 0 < f + 1 by omega) hB; omega
  have := words_val hB (words B ((f + 1) / B)) (words_lt (by omega) _ _) (words_trimmed hB _ _ (Nat.le_refl _)) f (by rw [hv]; exact hd)
  rw [hv] at this
  exact this
/-- The bytes above the word k, the highest first. -/
def bytesH (n k : Nat) : List Nat := (words 256 (n / 65536 ^ k)).reverse
theorem bytesH_two (n k : Nat) (h : n / 65536 ^ (k + 1) ≠ 0 ∨ 256 ≤ dig 65536 n k) : bytesH n k = bytesH n (k + 1) ++ [dig 65536 n k / 256] ++ [dig 65536 n k % 256] := by
  unfold bytesH
  have e := div_pow_succ 65536 n k
  have hd := hw_dig n k
  generalize n / 65536 ^ (k + 1) = m at *
  generalize dig 65536 n k = d at *
  rw [e, words_cons (by omega) _ (by omega), words_cons (by omega) _ (by omega)]
  rw [show (d + 65536 * m) % 256 = d % 256 by omega, show (d + 65536 * m) / 256 % 256 = d / 256 by omega, show (d + 65536 * m) / 256 / 256 = m by omega]
  simp
theorem bytesH_one (n k : Nat) (h : n / 65536 ^ (k + 1) = 0) (h2 : dig 65536 n k < 256) (h0 : dig 65536 n k ≠ 0) : bytesH n k = bytesH n (k + 1) ++ [dig 65536 n k % 256] := by
  unfold bytesH
  have e := div_pow_succ 65536 n k
  rw [h] at e ⊢
  generalize dig 65536 n k = d at *
  rw [e, Nat.mul_zero, Nat.add_zero, words_cons (by omega) _ h0, Nat.div_eq_of_lt h2]
  rfl
theorem bytesH_nil (n k : Nat) : (bytesH n k).length = 0 ↔ n / 65536 ^ k = 0 := by
  unfold bytesH
  rw [List.length_reverse]
  exact words_len0 (by omega) _
theorem bytesH_top (n : Nat) : bytesH n (hw n).length = [] := by
  unfold bytesH
  rw [Nat.div_eq_of_lt (hw_vlt n)]; rfl
theorem bytesH_zero (n : Nat) : bytesH n 0 = (words 256 n).reverse := by simp [bytesH]
theorem bytesH_lt (n k : Nat) : ∀ x ∈ bytesH n k, x < 256 := fun x hx => words_lt (by omega) _ _ x (List.mem_reverse.1 hx)
theorem bytesH_len (n k L : Nat) (h : n < 65536 ^ L) : (bytesH n k).length ≤ 2 * L := by
  unfold bytesH
  rw [List.length_reverse]
  exact words_length (by omega) _ _ (by rw [← pow2]; exact Nat.lt_of_le_of_lt (Nat.div_le_self _ _) h)
set_option maxRecDepth 100000 in
theorem conv_nil (c : Nat) (hc : c = 0) (W : World) : (convert 108 9 (.slice none 0 c)).run Try.prog W = .ok (.string ⟨#[]⟩) W := by
  subst hc; kernel_rfl
set_option maxRecDepth 100000 in
/-- What out makes of the bytes. -/
theorem bytes_string {W : World} {base n m c : Nat} {a : Option Addr} (h : W.owns base 5 1 (.slice a m c) m ((bytesH n 0).map u8V)) :
    (convert 108 9 (.slice a m c)).run Try.prog W = .ok (.string (magB n)) W := by
  have e : (bytesH n 0).map UInt8.ofNat = magL n := by rw [bytesH_zero, List.map_reverse]; rfl
  unfold magB
  rw [← e]
  rcases h.2 with ⟨e1, e2⟩ | ⟨g, cap, cur, fz, e1, _⟩
  · injection e1 with e3 e4 e5
    subst e3 e4 e5
    have hl := h.1
    simp only [List.length_map, Nat.zero_mul] at hl
    rw [List.eq_nil_of_length_eq_zero hl]
    exact conv_nil 0 rfl W
  · injection e1 with e3 e4 e5
    subst e3 e5
    exact own_string h (bytesH_lt n 0) 9 (by kernel_rfl)
set_option maxRecDepth 100000 in
set_option maxHeartbeats 8000000 in
theorem hout_any (s : Bool) (n L : Nat) (hn : n < 65536 ^ L) (hL : L ≤ 10000) (v : Value) (w : World) (hv : World.rawH w v n L) :
    Calls Try.prog 53 #[.agg #[.bool s, v]] w (FormRet w s n) := by
  obtain ⟨a, c, hva, -, -, -⟩ := rawH_words hv
  subst hva
  have HV : Hid (World.rawH w (.slice a L c) n L) := hv
  clear hv
  obtain ⟨W0, hW0⟩ : ∃ W0, W0 = (w.alloc (.cells #[.bool s, .slice a L c] 77)).alloc (.cells #[.bool false, .string ⟨#[]⟩] 42) := ⟨_, rfl⟩
  have g0 : W0.heap[w.heap.size]? = some (.cells #[.bool s, .slice a L c] 77) := by rw [hW0, Below.heap_alloc _ _ _ (by simp)]; exact heap_alloc_new w _
  have g1 : W0.heap[w.heap.size + 1]? = some (.cells #[.bool false, .string ⟨#[]⟩] 42) := by rw [hW0]; exact alloc_last _ _ (by simp)
  have hb0 : Below w.heap.size w W0 := by rw [hW0]; exact (((Below.refl _ w).alloc (Nat.le_refl _) _).alloc (by simp) _)
  have HB0 := Lib.hid hb0
  have HG0 := Lib.hid g0
  have HG1 := Lib.hid g1
  obtain ⟨c00, c01, f00, f01⟩ := num_cells g0
  have HW0 := Lib.hid hW0
  obtain ⟨S, hS⟩ : ∃ S, S = (s && decide (n ≠ 0)) := ⟨_, rfl⟩
  have htr := fun W => fun h => htrim_any s n L hn hL (.slice a L c) W h
  rw [← hS] at htr
  have HTR := Lib.hid htr
  have HBL : Hid (∀ k, (bytesH n k).length ≤ 20000) := fun k => Nat.le_trans (bytesH_len n k L hn) (by omega)
  have HO : Hid (outB s n = (if n < lim then .agg #[.bool S, .string (magB n)] else .agg #[.bool false, .string ⟨#[]⟩]) ∧ outE n = if n < lim then 0 else 7) := by
    refine ⟨?_, rfl⟩
    unfold outB emptyW wideV
    rw [hS]
  have HML : Hid ((hw n).length ≤ 10000) := Nat.le_trans (hw_len_le hn) hL
  obtain ⟨HPOST, hpost⟩ : ∃ R, R = FormRet w s n := ⟨_, rfl⟩
  rw [← hpost]
  have HP := Lib.hid hpost
  clear hb0 g0 g1 hW0 hn hS htr hpost
  go_enter Try.func53, Try.ntmps53
  go_upto_region 1 with (fail)
  rw [← HW0.out]
  go_wp2_with fail
  (with_reducible refine (HTR.out _ (rawH_below HV.out HB0.out)).mono ?_)
  rintro e w5 ⟨v5, rfl, hn5, hb5⟩
  obtain ⟨a5, M, c5, hM, rfl, hc5, hm5, hs5⟩ := numH_words hn5
  have hg5 := (hb5.block (w.heap.size) (lt_of_heap HG0.out)).trans HG0.out
  have hg51 := (hb5.block (w.heap.size + 1) (lt_of_heap HG1.out)).trans HG1.out
  have HB5 := Lib.hid (HB0.out.trans (hb5.mono HB0.out.size))
  have HN5 := Lib.hid hn5
  have HG5 := Lib.hid hg5
  have HG51 := Lib.hid hg51
  have HM := Lib.hid hM
  have hM1 : M ≤ 10000 := by rw [hM]; exact HML.out
  have hML : (M : Int) ≤ 10000 := by omega
  clear c00 c01 f00 f01
  obtain ⟨d0, d1, fz0, fz1⟩ := num_cells hg5
  clear hn5 hb5 hg5 hg51 hs5 hM hm5
  go_wp2_with fail
  clear d0 d1 fz0 fz1
  have m2 := num_set HG5.out (.bool S) (.slice a5 M c5)
  have hb2 : Below w.heap.size w ((w5.setCell ⟨w.heap.size, 0, none⟩ (.bool S)).setCell ⟨w.heap.size, 1, none⟩ (.slice a5 M c5)) := (HB5.out.setCell (by simp) _).setCell (by simp) _
  have hn2 := numH_set HN5.out HG5.out (.bool S) (.slice a5 M c5)
  have hr2 := (two_other (W := w5) (p := w.heap.size) (.bool S) (.slice a5 M c5) (w.heap.size + 1) (by omega)).trans HG51.out
  generalize (w5.setCell ⟨w.heap.size, 0, none⟩ (.bool S)).setCell ⟨w.heap.size, 1, none⟩ (.slice a5 M c5) = W2 at m2 hb2 hn2 hr2 ⊢
  obtain ⟨a', M', c', hM', e', hc', hm', hs'⟩ := numH_words hn2
  injection e' with e1 e2 e3
  subst e1 e2 e3
  have HS2 := Lib.hid hs'
  have HM2 := Lib.hid m2
  have HB2 := Lib.hid hb2
  have HR2 := Lib.hid hr2
  clear m2 hb2 hn2 hr2 hM' hs' hm'
  go_loopw [4, 5] (fun bv iv wr => ∃ (k m : Nat) (xa : Option Addr) (xc : Nat), k ≤ M ∧ iv = .int .i64 ((k : Int) - 1) ∧ bv = .slice xa m xc ∧ Hid (m = (bytesH n k).length) ∧ Hid (wr.owns W2.heap.size 5 1 (.slice xa m xc) m ((bytesH n k).map u8V)) ∧ Hid (Below W2.heap.size W2 wr)) (fun _ iv _ => (intOf iv + 1).toNat)
  case atStart => exact ⟨M, 0, none, 0, Nat.le_refl _, rfl, rfl, by show _ = _; rw [HM.out, bytesH_top]; rfl, by show World.owns _ _ _ _ _ _ _; rw [HM.out, bytesH_top]; exact owns_nil _ _ _, Below.refl _ W2⟩
  case round =>
    obtain ⟨k, m, xa, xc, hk, rfl, rfl, hml, hO, hB⟩ := hrel
    have hz := hB.out.size
    have hgr := (hB.out.block _ (lt_of_heap HM2.out)).trans HM2.out
    obtain ⟨c0, c1, f0, f1⟩ := num_cells hgr
    clear hgr
    cases k with
    | zero =>
      have h0 : ¬ (0 : Int) ≤ ((0 : Nat) : Int) - 1 := by omega
      have hcv := bytes_string hO.out
      have hg1 := (hB.out.block _ (lt_of_heap HR2.out)).trans HR2.out
      obtain ⟨d0, d1, fz0, fz1⟩ := num_cells hg1
      have HG1 := Lib.hid hg1
      have hN : m = (words 256 n).length := by rw [hml.out, bytesH_zero, List.length_reverse]
      have hli := lim_iff n m hN
      have hbw := HB2.out.trans (hB.out.mono HB2.out.size)
      have HBW := Lib.hid hbw
      obtain ⟨mb, hmb⟩ : ∃ mb, mb = magB n := ⟨_, rfl⟩
      rw [← hmb] at hcv HO
      clear hg1 hN hbw hmb
      by_cases hlt : n < lim
      · have hm256 : ¬ (256 : Int) < (m : Int) := by have := hli.1 hlt; omega
        have HO1 := Lib.hid (show outB s n = .agg #[.bool S, .string mb] by rw [HO.out.1, if_pos hlt])
        have HO2 := Lib.hid (show outE n = 0 by rw [HO.out.2, if_pos hlt])
        clear hli hlt
        go_wp2
        have m2 := num_set HG1.out (.bool S) (.string mb)
        have hb9 : Below w.heap.size w ((wr.setCell ⟨w.heap.size + 1, 0, none⟩ (.bool S)).setCell ⟨w.heap.size + 1, 1, none⟩ (.string mb)) := (HBW.out.setCell (by simp) _).setCell (by simp) _
        obtain ⟨d20, d21, -, -⟩ := num_cells m2
        clear m2 d0 d1 fz0 fz1
        generalize (wr.setCell ⟨w.heap.size + 1, 0, none⟩ (.bool S)).setCell ⟨w.heap.size + 1, 1, none⟩ (.string mb) = W9 at d20 d21 hb9 ⊢
        rw [HP.out]
        exact bodyPost_ret (v := .tuple #[.agg #[.bool S, .string mb], .int .i64 0]) (by simp [results, Try.results53, go_sem, d20, d21]) rfl ⟨by rw [HO1.out, HO2.out], hb9⟩
      · have hm256 : (256 : Int) < (m : Int) := by
          rcases Nat.lt_or_ge 256 m with h | h
          · omega
          · exact absurd (hli.2 h) hlt
        have HO1 := Lib.hid (show outB s n = .agg #[.bool false, .string ⟨#[]⟩] by rw [HO.out.1, if_neg hlt])
        have HO2 := Lib.hid (show outE n = 7 by rw [HO.out.2, if_neg hlt])
        clear hli hlt
        go_wp2
        have m2 := num_set HG1.out (.bool false) (.string ⟨#[]⟩)
        have hb9 : Below w.heap.size w ((wr.setCell ⟨w.heap.size + 1, 0, none⟩ (.bool false)).setCell ⟨w.heap.size + 1, 1, none⟩ (.string ⟨#[]⟩)) := (HBW.out.setCell (by simp) _).setCell (by simp) _
        obtain ⟨d20, d21, -, -⟩ := num_cells m2
        clear m2 d0 d1 fz0 fz1
        generalize (wr.setCell ⟨w.heap.size + 1, 0, none⟩ (.bool false)).setCell ⟨w.heap.size + 1, 1, none⟩ (.string ⟨#[]⟩) = W9 at d20 d21 hb9 ⊢
        rw [HP.out]
        exact bodyPost_ret (v := .tuple #[.agg #[.bool false, .string ⟨#[]⟩], .int .i64 7]) (by simp [results, Try.results53, go_sem, d20, d21]) rfl ⟨by rw [HO1.out, HO2.out], hb9⟩
    | succ j =>
      rw [show ((j + 1 : Nat) : Int) - 1 = (j : Int) by omega]
      obtain ⟨b, off, rfl, hbl, hx0⟩ := HS2.out j (by omega)
      have hx := (hB.out.cell (p := ⟨b, off + j, none⟩) hbl).trans hx0
      have hdl := hw_dig n j
      have hnil := bytesH_nil n (j + 1)
      rw [← hml.out] at hnil
      have hm20 := HBL.out (j + 1)
      rw [← hml.out] at hm20
      have h2 := bytesH_two n j
      have h1 := bytesH_one n j
      have htop : j + 1 = M → dig 65536 n j ≠ 0 := fun h => hw_top (by rw [← HM.out]; exact h.symm)
      have hnz : n / 65536 ^ (j + 1) = 0 → dig 65536 n j ≠ 0 := fun h => by
        refine htop ?_
        have h3 := hw_len_le (n := n) (k := j + 1) (by
          rcases Nat.lt_or_ge n (65536 ^ (j + 1)) with h4 | h4
          · exact h4
          · have := Nat.div_pos h4 (Nat.pow_pos (show 0 < 65536 by omega)); omega)
        rw [← HM.out] at h3
        omega
      obtain ⟨d, ed⟩ : ∃ x, x = dig 65536 n j := ⟨_, rfl⟩
      rw [← ed] at hx hdl h2 h1 hnz
      obtain ⟨p, ep⟩ : ∃ x, x = d / 256 := ⟨_, rfl⟩
      obtain ⟨q, eq⟩ : ∃ x, x = d % 256 := ⟨_, rfl⟩
      rw [← ep, ← eq] at h2
      rw [← eq] at h1
      have t2 : (d : Int) / 256 = (p : Int) := by omega
      have t3 : (p : Int) % 256 = (p : Int) := by omega
      have t4 : (d : Int) % 256 = (q : Int) := by omega
      have t5 : (q : Int) % 256 = (q : Int) := by omega
      have hwl := lt_of_heap HM2.out
      have hjM : (j : Int) < (M : Int) := by omega
      have hj0 : (0 : Int) ≤ (j : Int) := by omega
      clear hx0 htop ep eq
      by_cases hd : 256 ≤ d
      · have HST := Lib.hid (h2 (.inr hd))
        have u1 : (256 : Int) ≤ (d : Int) := by omega
        clear h2 h1 hnil hnz ed
        go_wp2_with (first | (at_builtin; refine app_u8 wr rfl (.tmp 27) (.tmp 35) rfl W2.heap.size (.slice xa m xc) m _ rfl hO.out (p : Int) wr.heap.size rfl rfl (by omega) hz ?_; intro v6 w6 hown6 hg6 hz6; have HO6 := Lib.hid hown6; obtain ⟨g6, q6, rfl⟩ := hown6.succ; have hb6 := below_grown hO.out hg6 W2.heap.size (Nat.le_refl _) hz; have HB6 := Lib.hid (hB.out.trans hb6); have hz7 := Nat.le_trans hz (Nat.le_of_lt hz6); have k0 := (hb6.cell (p := ⟨w.heap.size, 0, none⟩) hwl).trans c0; have k1 := (hb6.cell (p := ⟨w.heap.size, 1, none⟩) hwl).trans c1; have kx := (hb6.cell (p := ⟨b, off + j, none⟩) hbl).trans hx; clear hown6 hg6 hb6 hz6) | (at_builtin; refine app_u8 w6 rfl (.tmp 37) (.tmp 45) rfl W2.heap.size (.slice (some ⟨g6, 0, none⟩) (m + 1) q6) (m + 1) _ rfl HO6.out (q : Int) w6.heap.size rfl rfl (by omega) hz7 ?_; intro v8 w8 hown8 hg8 hz8; have HO8 := Lib.hid hown8; obtain ⟨g8, q8, rfl⟩ := hown8.succ; have HB8 := Lib.hid (HB6.out.trans (below_grown HO6.out hg8 W2.heap.size (Nat.le_refl _) hz7)); clear hown8 hg8 hz8))
        go_roundw
        case rel =>
          refine ⟨j, m + 1 + 1, some ⟨g8, 0, none⟩, q8, by omega, by first | go_num | rfl, rfl, ?_, ?_, HB8.out⟩
          · show _ = _; rw [HST.out, hml.out]; simp
          · show World.owns _ _ _ _ _ _ _
            rw [HST.out, List.map_append, List.map_append]
            exact HO8.out
        case measure => first | (simp [intOf]; done) | (simp [intOf]; omega)
      · have u1 : ¬ (256 : Int) ≤ (d : Int) := by omega
        by_cases hm0 : n / 65536 ^ (j + 1) = 0
        · have HST := Lib.hid (h1 hm0 (by omega) (hnz hm0))
          have u2 : ¬ (0 : Int) < (m : Int) := by have := hnil.2 hm0; omega
          clear h2 h1 hnil hnz hm0 ed
          go_wp2_with (at_builtin; refine app_u8 wr rfl (.tmp 37) (.tmp 45) rfl W2.heap.size (.slice xa m xc) m _ rfl hO.out (q : Int) wr.heap.size rfl rfl (by omega) hz ?_; intro v8 w8 hown8 hg8 hz8; have HO8 := Lib.hid hown8; obtain ⟨g8, q8, rfl⟩ := hown8.succ; have HB8 := Lib.hid (hB.out.trans (below_grown hO.out hg8 W2.heap.size (Nat.le_refl _) hz)); clear hown8 hg8 hz8)
          go_roundw
          case rel =>
            refine ⟨j, m + 1, some ⟨g8, 0, none⟩, q8, by omega, by first | go_num | rfl, rfl, ?_, ?_, HB8.out⟩
            · show _ = _; rw [HST.out, hml.out]; simp
            · show World.owns _ _ _ _ _ _ _
              rw [HST.out, List.map_append]
              exact HO8.out
          case measure => first | (simp [intOf]; done) | (simp [intOf]; omega)
        · have HST := Lib.hid (h2 (.inl hm0))
          have u2 : (0 : Int) < (m : Int) := by
            rcases Nat.eq_zero_or_pos m with h | h
            · exact absurd (hnil.1 h) hm0
            · omega
          clear h2 h1 hnil hnz hm0 ed
          go_wp2_with (first | (at_builtin; refine app_u8 wr rfl (.tmp 27) (.tmp 35) rfl W2.heap.size (.slice xa m xc) m _ rfl hO.out (p : Int) wr.heap.size rfl rfl (by omega) hz ?_; intro v6 w6 hown6 hg6 hz6; have HO6 := Lib.hid hown6; obtain ⟨g6, q6, rfl⟩ := hown6.succ; have hb6 := below_grown hO.out hg6 W2.heap.size (Nat.le_refl _) hz; have HB6 := Lib.hid (hB.out.trans hb6); have hz7 := Nat.le_trans hz (Nat.le_of_lt hz6); have k0 := (hb6.cell (p := ⟨w.heap.size, 0, none⟩) hwl).trans c0; have k1 := (hb6.cell (p := ⟨w.heap.size, 1, none⟩) hwl).trans c1; have kx := (hb6.cell (p := ⟨b, off + j, none⟩) hbl).trans hx; clear hown6 hg6 hb6 hz6) | (at_builtin; refine app_u8 w6 rfl (.tmp 37) (.tmp 45) rfl W2.heap.size (.slice (some ⟨g6, 0, none⟩) (m + 1) q6) (m + 1) _ rfl HO6.out (q : Int) w6.heap.size rfl rfl (by omega) hz7 ?_; intro v8 w8 hown8 hg8 hz8; have HO8 := Lib.hid hown8; obtain ⟨g8, q8, rfl⟩ := hown8.succ; have HB8 := Lib.hid (HB6.out.trans (below_grown HO6.out hg8 W2.heap.size (Nat.le_refl _) hz7)); clear hown8 hg8 hz8))
          go_roundw
          case rel =>
            refine ⟨j, m + 1 + 1, some ⟨g8, 0, none⟩, q8, by omega, by first | go_num | rfl, rfl, ?_, ?_, HB8.out⟩
            · show _ = _; rw [HST.out, hml.out]; simp
            · show World.owns _ _ _ _ _ _ _
              rw [HST.out, List.map_append, List.map_append]
              exact HO8.out
          case measure => first | (simp [intOf]; done) | (simp [intOf]; omega)
end Go.Proofs.Ytkjlfjnncdkmlaa

/- The reference's numbers with signs: the sum. -/
namespace Go.Proofs.Ytkjlfjnncdkmlaa
set_option linter.all false
open Go.RowKit Go.Shelf Go.WideNum
theorem SRet.back {w W : World} {s : Bool} {n : Nat} {e : Ending} {w' : World} (h : SRet W s n e w') (hb : Below w.heap.size w W) : SRet w s n e w' := by
  obtain ⟨v, h1, h2, h3⟩ := h
  exact ⟨v, h1, h2, hb.trans (h3.mono hb.size)⟩
end Go.Proofs.Ytkjlfjnncdkmlaa

/- The reference's numbers with signs: the product. -/

/- The reference: helpers of its exported functions. -/
namespace Go
section
variable {P : Program} {ops : Array Oper} {Q : Exit → Act → World → Prop} {S : World → Prop} {late : Nat → Bool}
/-- The one operation that may come up; S is shown again behind it. -/
theorem wpAnyD_keep (i : Nat) {o : Oper} {fuel : Nat} {listed : Array Bool} {a : Act} {w : World} (hr : Region.ready .any ops listed = [i]) (ho : ops.toList[i]? = some o)
    (h : ∀ K' : Act → World → Prop, Shut (∀ a w, S w → (S w → wpAnyD P ops Q S late fuel (listed.setIfInBounds i true) a w) → K' a w) → if Region.wanted o (yielded ops a.tmps) = true then Oper.wp P o a w K' Q else K' (a.put o.dst undef) w) :
    wpAnyD P ops Q S late (fuel + 1) listed a w := by
  refine ⟨fun h0 => (by rw [hr] at h0; cases h0), fun j hj => ?_⟩
  rw [hr] at hj
  obtain rfl : j = i := by simpa using hj
  exact wpOp_step (by simpa using ho) (fun K' hK => h K' (fun a w hS hW => hK a w ⟨fun _ _ => hS, hW hS⟩))
end
end Go
namespace Go.Proofs.Ytkjlfjnncdkmlaa
set_option linter.all false
open Go.RowKit Go.Shelf Go.WideNum
theorem hout_num (s : Bool) (n : Nat) (hl : (hw n).length ≤ 10000) (fb : Bool) (ft : ByteArray) (E : Int) (h1 : outZ (zOf s n) = .agg #[.bool fb, .string ft]) (h2 : errZ (zOf s n) = E) (v : Value) (w : World) (h : World.numH w v n) :
    Calls Try.prog 53 #[.agg #[.bool s, v]] w fun e w' => e = .returned (.tuple #[.agg #[.bool fb, .string ft], .int .i64 E]) ∧ Below w.heap.size w w' := by
  have := hout_any s n _ (hw_vlt n) hl v w (numH_raw h)
  unfold FormRet at this
  rw [outB_z, outE_z s, h1, h2] at this
  exact this
theorem wide_hold {w w' W : World} {g : Nat} {b : Bool} {s : ByteArray} (h : W.heap[g]? = some (.cells #[.bool b, .string s] 42)) (hb : Below W.heap.size W w') : w'.heap[g]? = some (.cells #[.bool b, .string s] 42) := (hb.block _ (lt_of_heap h)).trans h
end Go.Proofs.Ytkjlfjnncdkmlaa

/- Walks: the integer of 64 bits of a form: the program's. -/
namespace Go.Proofs.Ytkjlfjnncdkmlaa
set_option linter.all false
open Go.RowKit Go.Shelf Go.WideNum
theorem zeros_app (n : Nat) : (wd n).map u32V ++ [.int .u32 0, .int .u32 0] = ((List.range ((wd n).length + 2)).map (dig 4294967296 n)).map u32V := by
  rw [show (wd n).length + 2 = (wd n).length + 1 + 1 by omega, List.range_succ, List.range_succ]
  simp only [List.map_append, List.map_cons, List.map_nil]
  rw [wd_high n _ (Nat.le_refl _), wd_high n _ (Nat.le_succ _)]
  have h : (List.range (wd n).length).map (dig 4294967296 n) = wd n := by
    apply List.ext_getElem?
    intro i
    rcases Nat.lt_or_ge i (wd n).length with h | h
    · rw [wd_get n i h]; simp [h]
    · rw [List.getElem?_eq_none (by simpa using h), List.getElem?_eq_none h]
  rw [h]
  simp [u32V]
end Go.Proofs.Ytkjlfjnncdkmlaa

/- Plain: long division by words: the numbers of a round; the rows in memory. -/
namespace Go.Proofs.Ytkjlfjnncdkmlaa
set_option linter.all false
open Go.RowKit Go.Shelf Go.WideNum
theorem top_two {B X k : Nat} (hB : 0 < B) (h : X < B ^ (k + 2)) : X / B ^ k = dig B X (k + 1) * B + dig B X k := by
  have hp : 0 < B ^ k := Nat.pow_pos hB
  unfold dig
  have h1 : X / B ^ k < B * B := (Nat.div_lt_iff_lt_mul hp).2 (by rw [Nat.pow_succ, Nat.pow_succ] at h; rw [Nat.mul_assoc, Nat.mul_comm] at h; exact h)
  rw [Nat.pow_succ, ← Nat.div_div_eq_div_mul]
  obtain ⟨Y, hY⟩ : ∃ Y, Y = X / B ^ k := ⟨_, rfl⟩
  rw [← hY] at h1 ⊢
  have h2 : Y / B < B := (Nat.div_lt_iff_lt_mul hB).2 h1
  rw [Nat.mod_eq_of_lt h2]
  have := Nat.mod_add_div Y B
  rw [Nat.mul_comm] at this
  omega
theorem wd_len_le2 {A C k : Nat} (h : A ≤ C) (hc : (wd C).length ≤ k) : (wd A).length ≤ k := by
  have h1 := words_length (B := 4294967296) (by omega) A (wd C).length (Nat.lt_of_le_of_lt h (wd_vlt C))
  unfold wd at *; omega
theorem norm_facts (A C s n p : Nat) (hn : n = (wd C).length) (hp : p = (wd A).length) (hAC : C ≤ A) (hn2 : 2 ≤ n) (hs : s < 32) (htop : dig 4294967296 C (n - 1) < 2 ^ (32 - s)) :
    (wd (C * 2 ^ s)).length = n ∧ A * 2 ^ s < C * 2 ^ s * 4294967296 ^ (p + 1 - n) ∧ A * 2 ^ s < 4294967296 ^ (p + 1) ∧ (wd (A * 2 ^ s)).length ≤ p + 1 ∧ n ≤ p ∧ C * 2 ^ s < 4294967296 ^ n ∧ 4294967296 ^ (n - 1) ≤ C * 2 ^ s ∧ 0 < C := by
  have hp2 : 0 < 2 ^ s := Nat.pow_pos (by omega)
  have hCl := wd_vlt C
  have hAl := wd_vlt A
  rw [← hn] at hCl
  rw [← hp] at hAl
  have hClo : 4294967296 ^ (n - 1) ≤ C := by
    rcases Nat.lt_or_ge C (4294967296 ^ (n - 1)) with h | h
    · have := words_length (B := 4294967296) (by omega) C (n - 1) h
      unfold wd at hn
      omega
    · exact h
  have hC0 : 0 < C := Nat.lt_of_lt_of_le (Nat.pow_pos (by omega)) hClo
  have hnp : n ≤ p := by
    rcases Nat.lt_or_ge p n with h | h
    · exfalso
      have h1 : 4294967296 ^ p ≤ 4294967296 ^ (n - 1) := Nat.pow_le_pow_right (by omega) (by omega)
      omega
    · exact h
  have hpn : 0 < 4294967296 ^ (n - 1) := Nat.pow_pos (by omega)
  have hsplit : 4294967296 ^ n = 4294967296 ^ (n - 1) * 4294967296 := by rw [← Nat.pow_succ]; congr 1; omega
  have hVl : C * 2 ^ s < 4294967296 ^ n := by
    have h1 : dig 4294967296 C (n - 1) = C / 4294967296 ^ (n - 1) := by
      unfold dig
      refine Nat.mod_eq_of_lt ((Nat.div_lt_iff_lt_mul hpn).2 ?_)
      rw [Nat.mul_comm, ← hsplit]; exact hCl
    rw [h1] at htop
    obtain ⟨t, ht⟩ : ∃ t, t = C / 4294967296 ^ (n - 1) := ⟨_, rfl⟩
    rw [← ht] at htop
    have h2 : C < (t + 1) * 4294967296 ^ (n - 1) := by
      have h3 := Nat.mod_add_div C (4294967296 ^ (n - 1))
      have h4 := Nat.mod_lt C hpn
      rw [← ht, Nat.mul_comm] at h3
      rw [Nat.add_mul, Nat.one_mul]
      omega
    have h3 : (t + 1) * 4294967296 ^ (n - 1) * 2 ^ s ≤ 2 ^ (32 - s) * 4294967296 ^ (n - 1) * 2 ^ s := Nat.mul_le_mul_right _ (Nat.mul_le_mul_right _ htop)
    have h4 : 2 ^ (32 - s) * 4294967296 ^ (n - 1) * 2 ^ s = 4294967296 ^ n := by
      rw [hsplit, Nat.mul_right_comm, ← Nat.pow_add, show 32 - s + s = 32 by omega, Nat.mul_comm]
    have h5 : C * 2 ^ s < (t + 1) * 4294967296 ^ (n - 1) * 2 ^ s := (Nat.mul_lt_mul_right hp2).2 h2
    omega
  have hVlo : 4294967296 ^ (n - 1) ≤ C * 2 ^ s := Nat.le_trans hClo (Nat.le_mul_of_pos_right _ hp2)
  have h2s : 2 ^ s < 4294967296 := by rw [show (4294967296 : Nat) = 2 ^ 32 by rfl]; exact Nat.pow_lt_pow_right (by omega) hs
  have hA2 : A * 2 ^ s < 4294967296 ^ (p + 1) := by rw [Nat.pow_succ]; exact Nat.mul_lt_mul'' hAl h2s
  refine ⟨?_, ?_, hA2, words_length (by omega) _ _ hA2, hnp, hVl, hVlo, hC0⟩
  · have h1 := words_length (B := 4294967296) (by omega) _ _ hVl
    have h2 := words_lenlt (B := 4294967296) (by omega) _ _ hVlo
    unfold wd
    omega
  · have h1 : 4294967296 ^ p = 4294967296 ^ (n - 1) * 4294967296 ^ (p + 1 - n) := by rw [← Nat.pow_add]; congr 1; omega
    have h2 : 4294967296 ^ (n - 1) * 4294967296 ^ (p + 1 - n) ≤ C * 4294967296 ^ (p + 1 - n) := Nat.mul_le_mul_right _ hClo
    rw [Nat.mul_right_comm]
    exact (Nat.mul_lt_mul_right hp2).2 (by omega)
/-- The numbers of a round: the divisor's two upper words, the dividend's two and the next, the word that is sought. -/
structure Rnd (V X k j v1 v2 top u2 q : Nat) : Prop where
  hV0 : 0 < V
  low : v1 * 4294967296 ^ (k + 1) ≤ V
  pos : 0 < v1
  v1B : v1 < 4294967296
  v2B : v2 < 4294967296
  hV : V / 4294967296 ^ k = v1 * 4294967296 + v2
  hU : X / 4294967296 ^ j / 4294967296 ^ k = top * 4294967296 + u2
  htop : top = X / 4294967296 ^ j / 4294967296 ^ (k + 1)
  topB : top < (v1 + 1) * 4294967296
  top64 : top < 18446744073709551616
  u2B : u2 < 4294967296
  hq : q = X / 4294967296 ^ j / V
  qB : q < 4294967296
theorem rnd_of (V X k j : Nat) (hVl : V < 4294967296 ^ (k + 2)) (hVlo : 4294967296 ^ (k + 1) ≤ V) (hX : X < V * 4294967296 ^ (j + 1)) :
    Rnd V X k j (dig 4294967296 V (k + 1)) (dig 4294967296 V k) (dig 4294967296 X (j + (k + 2)) * 4294967296 + dig 4294967296 X (j + (k + 1))) (dig 4294967296 X (j + k)) (X / 4294967296 ^ j / V) := by
  have hB : 0 < 4294967296 := by omega
  have hV0 : 0 < V := Nat.lt_of_lt_of_le (Nat.pow_pos hB) hVlo
  have hj : 0 < 4294967296 ^ j := Nat.pow_pos hB
  have hk : 0 < 4294967296 ^ k := Nat.pow_pos hB
  have hk1 : 0 < 4294967296 ^ (k + 1) := Nat.pow_pos hB
  have hd1 : dig 4294967296 V (k + 1) = V / 4294967296 ^ (k + 1) := by
    unfold dig
    refine Nat.mod_eq_of_lt ((Nat.div_lt_iff_lt_mul hk1).2 ?_)
    rw [Nat.mul_comm, ← Nat.pow_succ]; exact hVl
  have hXl : X < 4294967296 ^ (j + k + 1 + 2) := by
    refine Nat.lt_of_lt_of_le hX ?_
    rw [show j + k + 1 + 2 = (k + 2) + (j + 1) by omega, Nat.pow_add 4294967296 (k + 2)]
    exact Nat.mul_le_mul_right _ (Nat.le_of_lt hVl)
  have hUV : X / 4294967296 ^ j < V * 4294967296 := (Nat.div_lt_iff_lt_mul hj).2 (by rw [Nat.mul_assoc, Nat.mul_comm 4294967296, ← Nat.pow_succ]; exact hX)
  have htop : dig 4294967296 X (j + (k + 2)) * 4294967296 + dig 4294967296 X (j + (k + 1)) = X / 4294967296 ^ j / 4294967296 ^ (k + 1) := by
    rw [Nat.div_div_eq_div_mul, ← Nat.pow_add, show j + (k + 2) = j + (k + 1) + 1 by omega]
    exact (top_two (k := j + (k + 1)) hB (by rw [show j + (k + 1) + 2 = j + k + 1 + 2 by omega]; exact hXl)).symm
  have hx1 := dig_lt hB X (j + (k + 2))
  have hx2 := dig_lt hB X (j + (k + 1))
  have hx3 := dig_lt hB X (j + k)
  have hv1 := dig_lt hB V (k + 1)
  have hv2 := dig_lt hB V k
  have hlow : dig 4294967296 V (k + 1) * 4294967296 ^ (k + 1) ≤ V := by rw [hd1]; exact Nat.div_mul_le_self _ _
  have hhigh : V < (dig 4294967296 V (k + 1) + 1) * 4294967296 ^ (k + 1) := by
    have h3 := Nat.mod_add_div V (4294967296 ^ (k + 1))
    have h4 := Nat.mod_lt V hk1
    rw [Nat.mul_comm] at h3
    rw [hd1, Nat.add_mul, Nat.one_mul]
    omega
  refine ⟨hV0, hlow, ?_, hv1, hv2, top_two hB hVl, ?_, htop, ?_, by omega, hx3, rfl, (Nat.div_lt_iff_lt_mul hV0).2 (by rw [Nat.mul_comm]; exact hUV)⟩
  · rw [hd1]; exact Nat.div_pos hVlo hk1
  · have h1 : X / 4294967296 ^ j / 4294967296 ^ k = X / 4294967296 ^ (j + k) := by rw [Nat.div_div_eq_div_mul, ← Nat.pow_add]
    have h2 : X / 4294967296 ^ (j + (k + 1)) = X / 4294967296 ^ (j + k) / 4294967296 := by rw [← Nat.add_assoc, Nat.pow_succ, Nat.div_div_eq_div_mul]
    rw [htop, Nat.div_div_eq_div_mul _ _ (4294967296 ^ (k + 1)), ← Nat.pow_add, h2, h1]
    unfold dig
    have := Nat.mod_add_div (X / 4294967296 ^ (j + k)) 4294967296
    rw [Nat.mul_comm] at this
    omega
  · rw [htop]
    refine (Nat.div_lt_iff_lt_mul hk1).2 ?_
    have h5 : V * 4294967296 ≤ (dig 4294967296 V (k + 1) + 1) * 4294967296 ^ (k + 1) * 4294967296 := Nat.mul_le_mul_right _ (Nat.le_of_lt hhigh)
    rw [Nat.mul_right_comm] at h5
    omega
theorem Rnd.ge {V X k j v1 v2 top u2 q : Nat} (h : Rnd V X k j v1 v2 top u2 q) : q ≤ top / v1 := by
  rw [h.hq]
  exact guess_ge (B := 4294967296) h.low h.htop (by omega) h.pos
theorem Rnd.down {V X k j v1 v2 top u2 q g r : Nat} (h : Rnd V X k j v1 v2 top u2 q) (hg : g * v1 + r = top) (hq : q ≤ g) (ht : 4294967296 ≤ g ∨ r * 4294967296 + u2 < g * v2) : q < g := by
  rcases ht with ht | ht
  · have := h.qB; omega
  · have h1 := guess_gt (B := 4294967296) (V := V) (U := X / 4294967296 ^ j) (n := k) (g := g) (by omega) h.hV h.hU (by omega) (by rw [show top - g * v1 = r by omega]; exact ht)
    rw [h.hq]; exact h1
theorem Rnd.fin {V X k j v1 v2 top u2 q g r : Nat} (h : Rnd V X k j v1 v2 top u2 q) (hg : g * v1 + r = top) (hgB : g < 4294967296) (ht : ¬ r * 4294967296 + u2 < g * v2) : g ≤ q + 1 := by
  have h1 := guess_le (B := 4294967296) (V := V) (U := X / 4294967296 ^ j) (n := k) (g := g) (by omega) h.hV0 h.hV h.hU h.pos hgB (by omega) (by rw [show top - g * v1 = r by omega]; omega)
  rw [h.hq]; exact h1
theorem Rnd.fin2 {V X k j v1 v2 top u2 q g r : Nat} (h : Rnd V X k j v1 v2 top u2 q) (hg : g * v1 + r = top) (hr : 4294967296 ≤ r) : g < 4294967296 ∧ g ≤ q + 1 := by
  obtain ⟨h1, h2⟩ := guess_rest (B := 4294967296) (v1 := v1) (v2 := v2) (top := top) (u2 := u2) (g := g) h.pos h.v2B h.topB (by omega) (by omega)
  rw [show top - g * v1 = r by omega] at h2
  exact ⟨h1, h.fin hg h1 (by omega)⟩
/-- The rows of the division in memory: the dividend's, whose number is T; the quotient's. -/
def DSt (W2 w : World) (gU L cU gq m T : Nat) (f : Nat → Nat) : Prop :=
  w.owns W2.heap.size 22 1 (.slice (some ⟨gU, 0, none⟩) L cU) L (((List.range L).map (dig 4294967296 T)).map u32V) ∧
  w.heap[gq]? = some (.cells (rowF f m) 22) ∧ Below W2.heap.size W2 w ∧ gq ≠ gU ∧ W2.heap.size ≤ gq
theorem DSt.cell {W2 w : World} {gU L cU gq m T : Nat} {f : Nat → Nat} (h : DSt W2 w gU L cU gq m T f) (k : Nat) (hk : k < L) :
    w.cell? ⟨gU, k, none⟩ = some (.int .u32 (dig 4294967296 T k : Int)) ∧ w.frozen? ⟨gU, k, none⟩ = false :=
  ⟨h.1.cell k _ (by simp [u32V, hk]), owns_fz h.1 k hk⟩
theorem DSt.set {W2 w : World} {gU L cU gq m T : Nat} {f : Nat → Nat} (h : DSt W2 w gU L cU gq m T f) (k y : Nat) (hk : k < L) (hy : y < 4294967296) :
    DSt W2 (w.setCell ⟨gU, k, none⟩ (.int .u32 (y : Int))) gU L cU gq m (setDig 4294967296 T k y) f := by
  obtain ⟨h1, h2, h3, h4, h5⟩ := h
  have hlt := (h1.lt gU rfl).1
  refine ⟨?_, by rw [Below.heap_setCell _ _ _ _ h4]; exact h2, h3.setCell hlt _, h4, h5⟩
  have h6 := h1.setOwn k (.int .u32 (y : Int))
  have e : (((List.range L).map (dig 4294967296 T)).map u32V).set k (.int .u32 (y : Int)) = ((List.range L).map (dig 4294967296 (setDig 4294967296 T k y))).map u32V := by
    apply List.ext_getElem?
    intro i
    rcases Nat.lt_or_ge i L with hi | hi
    · by_cases hik : k = i
      · subst hik
        simp [hi, u32V, dig_setDig (show 0 < 4294967296 by omega) T k y hy]
      · simp [hi, u32V, List.getElem?_set, hik, dig_setDig (show 0 < 4294967296 by omega) T k y hy, Ne.symm hik]
    · rw [List.getElem?_eq_none (by simpa using hi), List.getElem?_eq_none (by simpa using hi)]
  rw [← e]; exact h6
theorem DSt.drew {W2 w : World} {gU L cU gq m T : Nat} {f : Nat → Nat} (h : DSt W2 w gU L cU gq m T f) : DSt W2 w.drew gU L cU gq m T f := ⟨h.1, h.2.1, h.2.2.1.drew, h.2.2.2⟩
theorem DSt.drewN {W2 w : World} {gU L cU gq m T : Nat} {f : Nat → Nat} (h : DSt W2 w gU L cU gq m T f) (n : Nat) : DSt W2 (w.drewN n) gU L cU gq m T f := ⟨h.1, h.2.1, below_drewN h.2.2.1 n, h.2.2.2⟩
theorem DSt.qcell {W2 w : World} {gU L cU gq m T : Nat} {f : Nat → Nat} (h : DSt W2 w gU L cU gq m T f) (k : Nat) (hk : k < m) :
    w.cell? ⟨gq, k, none⟩ = some (.int .u32 (f k : Int)) ∧ w.frozen? ⟨gq, k, none⟩ = false := rowF_cell h.2.1 k hk
theorem DSt.qset {W2 w : World} {gU L cU gq m T : Nat} {f f' : Nat → Nat} (h : DSt W2 w gU L cU gq m T f) (k : Nat) (hf : ∀ j, j < m → j ≠ k → f j = f' j) :
    DSt W2 (w.setCell ⟨gq, k, none⟩ (.int .u32 (f' k : Int))) gU L cU gq m T f' := by
  obtain ⟨h1, h2, h3, h4, h5⟩ := h
  exact ⟨h1.setCell_ne (by simp [Value.ownBlock]; exact Ne.symm h4) _, rowF_set h2 hf, h3.setCell h5 _, h4, h5⟩
end Go.Proofs.Ytkjlfjnncdkmlaa

/- Plain: long division by words: the words of a round, as the walk meets them. -/
namespace Go.Proofs.Ytkjlfjnncdkmlaa
set_option linter.all false
open Go.RowKit Go.Shelf Go.WideNum
theorem and_lo32 (y : Nat) (hy : y < 18446744073709551616) : bits .and .u64 (y : Int) 4294967295 = ((y % 4294967296 : Nat) : Int) := by
  show IntKind.u64.wrap ((BitVec.ofInt 64 _ &&& BitVec.ofInt 64 _).toNat : Int) = _
  rw [BitVec.ofInt_natCast, show (4294967295 : Int) = ((4294967295 : Nat) : Int) by rfl, BitVec.ofInt_natCast, BitVec.toNat_and, BitVec.toNat_ofNat, BitVec.toNat_ofNat, Nat.mod_eq_of_lt (by omega), Nat.mod_eq_of_lt (by omega), show (4294967295 : Nat) = 2 ^ 32 - 1 by rfl, Nat.and_two_pow_sub_one_eq_mod, IntKind.wrap_u64]
  omega
theorem wrap_sub2' (x c y z d : Nat) (h : x + 4294967296 * d = y + c + z) (hd : d ≤ 1) (hz : z < 4294967296) :
    ∃ T : Int, IntKind.u64.wrap (IntKind.u64.wrap ((x : Int) - (c : Int)) - (y : Int)) = T ∧ T % 4294967296 = (z : Int) ∧ T / 9223372036854775808 = (d : Int) := by
  refine ⟨_, rfl, ?_, ?_⟩ <;> rw [IntKind.wrap_u64, IntKind.wrap_u64] <;> rcases (show d = 0 ∨ d = 1 by omega) with rfl | rfl <;> omega
/-- One word of a multiple is taken away. -/
theorem sub_words (g v c b x : Nat) (hg : g < 4294967296) (hv : v < 4294967296) (hc : c < 4294967296) (hb : b ≤ 1) (hx : x < 4294967296) :
    ∃ (M pw lo hi z d : Nat) (T : Int), g * v + c = hi * 4294967296 + lo ∧ hi < 4294967296 ∧ z < 4294967296 ∧ d ≤ 1 ∧ z + lo + b = x + d * 4294967296 ∧ M ≤ 18446744065119617025 ∧ pw = M + c ∧ lo < 4294967296 ∧
      IntKind.u64.wrap ((g : Int) * (v : Int)) = (M : Int) ∧ IntKind.u64.wrap ((M : Int) + (c : Int)) = (pw : Int) ∧ (pw : Int) / 4294967296 = (hi : Int) ∧ bits .and .u64 (pw : Int) 4294967295 = (lo : Int) ∧
      IntKind.u64.wrap (IntKind.u64.wrap ((x : Int) - (b : Int)) - (lo : Int)) = T ∧ T % 4294967296 = (z : Int) ∧ T / 9223372036854775808 = (d : Int) := by
  have h1 : g * v ≤ 4294967295 * 4294967295 := Nat.mul_le_mul (by omega) (by omega)
  obtain ⟨M, hM⟩ : ∃ M, M = g * v := ⟨_, rfl⟩
  rw [← hM] at h1 ⊢
  have hand := and_lo32 (M + c) (by omega)
  obtain ⟨lo, hlo⟩ : ∃ lo, lo = (M + c) % 4294967296 := ⟨_, rfl⟩
  obtain ⟨hi, hhi⟩ : ∃ hi, hi = (M + c) / 4294967296 := ⟨_, rfl⟩
  rw [← hlo] at hand
  have hMw : IntKind.u64.wrap ((g : Int) * (v : Int)) = (M : Int) := by
    rw [show ((g : Int) * (v : Int)) = (M : Int) by rw [hM]; simp, IntKind.wrap_u64]; omega
  by_cases h : lo + b ≤ x
  · obtain ⟨T, t1, t2, t3⟩ := wrap_sub2' x b lo (x - lo - b) 0 (by omega) (by omega) (by omega)
    exact ⟨M, M + c, lo, hi, x - lo - b, 0, T, by omega, by omega, by omega, by omega, by omega, h1, rfl, by omega, hMw, by rw [IntKind.wrap_u64]; omega, by omega, hand, t1, t2, t3⟩
  · obtain ⟨T, t1, t2, t3⟩ := wrap_sub2' x b lo (x + 4294967296 - lo - b) 1 (by omega) (by omega) (by omega)
    exact ⟨M, M + c, lo, hi, x + 4294967296 - lo - b, 1, T, by omega, by omega, by omega, by omega, by omega, h1, rfl, by omega, hMw, by rw [IntKind.wrap_u64]; omega, by omega, hand, t1, t2, t3⟩
/-- The last word. -/
theorem sub_lastW (c b x : Nat) (hc : c < 4294967296) (hb : b ≤ 1) (hx : x < 4294967296) :
    ∃ (z d : Nat) (T : Int), z < 4294967296 ∧ d ≤ 1 ∧ z + b + c = x + d * 4294967296 ∧
      IntKind.u64.wrap (IntKind.u64.wrap ((x : Int) - (b : Int)) - (c : Int)) = T ∧ T % 4294967296 = (z : Int) ∧ T / 9223372036854775808 = (d : Int) := by
  by_cases h : c + b ≤ x
  · obtain ⟨T, t1, t2, t3⟩ := wrap_sub2' x b c (x - c - b) 0 (by omega) (by omega) (by omega)
    exact ⟨x - c - b, 0, T, by omega, by omega, by omega, t1, t2, t3⟩
  · obtain ⟨T, t1, t2, t3⟩ := wrap_sub2' x b c (x + 4294967296 - c - b) 1 (by omega) (by omega) (by omega)
    exact ⟨x + 4294967296 - c - b, 1, T, by omega, by omega, by omega, t1, t2, t3⟩
/-- What the multiple leaves, once it is taken away whole. -/
theorem sub_end {D V X g j n T b c y d : Nat} (hV0 : 0 < V) (hVn : V < 4294967296 ^ n) (hX : X < V * 4294967296 ^ (j + 1)) (hq1 : X / 4294967296 ^ j / V = dig 4294967296 (D / V) j) (hq2 : X - X / 4294967296 ^ j / V * V * 4294967296 ^ j = D % (V * 4294967296 ^ j))
    (h : SubSt 4294967296 V X g j n T b c) (hg1 : X / 4294967296 ^ j / V ≤ g) (hg2 : g ≤ X / 4294967296 ^ j / V + 1) (hy : y < 4294967296) (hd : d ≤ 1) (hst : y + b + c = dig 4294967296 X (n + j) + d * 4294967296) :
    (d = 0 → g = dig 4294967296 (D / V) j ∧ setDig 4294967296 T (n + j) y = D % (V * 4294967296 ^ j)) ∧
    (d = 1 → g = dig 4294967296 (D / V) j + 1 ∧ setDig 4294967296 T (n + j) y + V * 4294967296 ^ j = D % (V * 4294967296 ^ j) + 4294967296 ^ (n + j + 1) ∧ (∀ k, n + j + 1 ≤ k → dig 4294967296 (setDig 4294967296 T (n + j) y) k = 0)) := by
  have hl := h.last (by omega) hVn hV0 hX hg1 hg2 hy hd hst
  rw [hq1] at hl hq2
  rcases hl with ⟨rfl, h1, h2⟩ | ⟨rfl, h1, h2, h3⟩
  · exact ⟨fun _ => ⟨h1, by rw [h2, hq2]⟩, fun h => by omega⟩
  · refine ⟨fun h => by omega, fun _ => ⟨h1, ?_, h3⟩⟩
    have hqX : X / 4294967296 ^ j / V * V * 4294967296 ^ j ≤ X := Nat.le_trans (Nat.mul_le_mul_right _ (Nat.div_mul_le_self _ _)) (Nat.div_mul_le_self _ _)
    rw [hq1] at hqX
    rw [h1, Nat.add_mul, Nat.one_mul, Nat.add_mul] at h2
    generalize dig 4294967296 (D / V) j * V * 4294967296 ^ j = F at *
    omega
/-- One word of the divisor is added again. -/
theorem add_words (c u v : Nat) (hc : c ≤ 1) (hu : u < 4294967296) (hv : v < 4294967296) :
    ∃ t s z d : Nat, t = u + v ∧ s = c + t ∧ z < 4294967296 ∧ d ≤ 1 ∧ c + (u + v) = z + d * 4294967296 ∧ s ≤ 8589934591 ∧ (u : Int) + (v : Int) = (t : Int) ∧ (c : Int) + (t : Int) = (s : Int) ∧ (s : Int) % 4294967296 = (z : Int) ∧ (s : Int) / 4294967296 = (d : Int) := by
  exact ⟨u + v, c + (u + v), (c + (u + v)) % 4294967296, (c + (u + v)) / 4294967296, rfl, rfl, by omega, by omega, by omega, by omega, by omega, by omega, by omega, by omega⟩
theorem q_upto (f : Nat → Nat) (j k : Nat) (h : k ≠ j) : (if j + 1 ≤ k then f k else 0) = (if j ≤ k then f k else 0) := by
  by_cases h1 : j ≤ k
  · rw [if_pos h1, if_pos (by omega)]
  · rw [if_neg h1, if_neg (by omega)]
theorem DSt.qend {W2 w : World} {gU L cU gq m T T' Q j g : Nat} (h : DSt W2 w gU L cU gq m T (fun i => if j + 1 ≤ i then dig 4294967296 Q i else 0)) (hT : T = T') (hg : g = dig 4294967296 Q j) :
    DSt W2 (w.setCell ⟨gq, j, none⟩ (.int .u32 (g : Int))) gU L cU gq m T' (fun i => if j ≤ i then dig 4294967296 Q i else 0) := by
  subst hT
  have e : g = (fun i => if j ≤ i then dig 4294967296 Q i else 0) j := by rw [hg]; exact (if_pos (Nat.le_refl j)).symm
  rw [e]
  exact h.qset (f' := fun i => if j ≤ i then dig 4294967296 Q i else 0) j (fun i _ hi => q_upto _ j i hi)
/-- The end of the division: what is read of the rows. -/
theorem DSt.fin {W2 w : World} {gU L cU gq m T n : Nat} {f : Nat → Nat} (h : DSt W2 w gU L cU gq m T f) (hT : T < 4294967296 ^ n) (hn : n ≤ L) (hL : L ≤ 100000) :
    ∃ R, (∀ W, Below w.heap.size w W → Calls Try.prog 115 #[.slice (some ⟨gU, 0, none⟩) n cU] W fun e w' => e = .returned (.slice (some ⟨gU, 0, none⟩) R cU) ∧ W = w') ∧
      (∀ W, Below w.heap.size w W → World.numR W (.slice (some ⟨gU, 0, none⟩) R cU) T) := by
  obtain ⟨l, hl⟩ : ∃ l, l = (List.range n).map (dig 4294967296 T) := ⟨_, rfl⟩
  have h1 := World.owns.takeR h.1 hn (by simp)
  have e1 : (((List.range L).map (dig 4294967296 T)).map u32V).take n = l.map u32V := by
    rw [hl, ← List.map_take, ← List.map_take, List.take_range, Nat.min_eq_left hn]
  rw [e1] at h1
  have hll : l.length = n := by rw [hl]; simp
  have h2 := World.owns.takeR h1 (show (trimL l).length ≤ n by have := trimL_len l; omega) (by simp)
  rw [← List.map_take, trimL_take] at h2
  have hw : trimL l = wd T := by rw [hl]; exact range_wd T n hT
  have hc2 : n ≤ cU := by
    rcases h1.2 with ⟨h0, -⟩ | ⟨g, cap, cur, fz, e, hb, hg, hf, hc, -⟩
    · cases h0
    · injection e with _ _ e3; omega
  rw [hw] at h2
  refine ⟨(trimL l).length, fun W hW => ?_, fun W hW => ?_⟩
  · refine norm_list l _ n rfl hll.symm _ cU (by omega) hc2 W (fun k x hk => ⟨gU, 0, rfl, ?_⟩)
    rcases Nat.lt_or_ge k n with hkn | hkn
    · have h3 := (h.cell k (by omega)).1
      have hk2 : x = dig 4294967296 T k := by
        rw [hl, List.getElem?_map, List.getElem?_range hkn] at hk
        injection hk with hk
        exact hk.symm
      rw [hk2, Nat.zero_add]
      have hlt := (h.1.lt gU rfl).2
      exact (hW.cell (p := ⟨gU, k, none⟩) hlt).trans h3
    · rw [List.getElem?_eq_none (by omega)] at hk
      cases hk
  · rw [hw]
    have h5 : World.numR w (.slice (some ⟨gU, 0, none⟩) (wd T).length cU) T := h2.reads
    exact numR_below h5 hW
theorem DSt.finQ {W2 w : World} {gU L cU gq m T Q : Nat} (h : DSt W2 w gU L cU gq m T (dig 4294967296 Q)) (hQ : Q < 4294967296 ^ m) (hm : m ≤ 100000) :
    ∃ R, (∀ W, Below w.heap.size w W → Calls Try.prog 115 #[.slice (some ⟨gq, 0, none⟩) m m] W fun e w' => e = .returned (.slice (some ⟨gq, 0, none⟩) R m) ∧ W = w') ∧
      (∀ W, Below w.heap.size w W → World.numR W (.slice (some ⟨gq, 0, none⟩) R m) Q) := by
  obtain ⟨R, HR⟩ : ∃ R, Hid (R = (trimL ((List.range m).map (dig 4294967296 Q))).length) := ⟨_, rfl⟩
  have hlt : gq < w.heap.size := (Array.getElem?_eq_some_iff.1 h.2.1).1
  refine ⟨R, fun W hW => norm_rowF _ _ _ R HR W _ ((hW.block _ hlt).trans h.2.1) hm, fun W hW => ?_⟩
  have h1 := (num_retF (w := W2) HR h.2.1 h.2.2.1 h.2.2.2.2 hm hQ).numR
  exact numR_below h1 hW
end Go.Proofs.Ytkjlfjnncdkmlaa

/- Walks: the long division. -/
namespace Go.Proofs.Ytkjlfjnncdkmlaa
set_option linter.all false
open Go.RowKit Go.Shelf Go.WideNum
theorem owns_slice {W : World} {base n : Nat} {T : TypeId} {v : Value} {xs : List Value} (h : W.owns base T 1 v n xs) (hn : 0 < n) : ∃ g cap, v = .slice (some ⟨g, 0, none⟩) n cap ∧ n ≤ cap ∧ cap ≤ maxLen := by
  rcases h.2 with ⟨_, h0⟩ | ⟨g, cap, cur, fz, rfl, hb, hg, hf, hc, hm, _⟩
  · omega
  · exact ⟨g, cap, rfl, hc, hm⟩
theorem top_ne (C n : Nat) (hn : (wd C).length = n + 1) : dig 4294967296 C n ≠ 0 := by
  have h4 := words_trimmed (B := 4294967296) (by omega) C C (Nat.le_refl _)
  have h5 : (words 4294967296 C).getLast? = some (dig 4294967296 C n) := by
    rw [List.getLast?_eq_getElem?]
    unfold wd at hn
    rw [hn, Nat.add_sub_cancel]
    exact words_getE (by omega) C n (by omega)
  exact h4 _ h5
set_option maxRecDepth 100000 in
set_option maxHeartbeats 16000000 in
theorem divide_big (A C : Nat) (hC32 : 4294967296 ≤ C) (hAC : C ≤ A) (hla : (wd A).length ≤ 2000) : DivOK A C := by
  intro va vb w hA hC
  obtain ⟨HPOST, hpost⟩ : ∃ R, R = DivRet w A C := ⟨_, rfl⟩
  rw [← hpost]
  have HP := Lib.hid hpost
  have HA : Hid (World.numR w va A) := hA
  have HC : Hid (World.numR w vb C) := hC
  clear hpost
  have hlc : (wd C).length ≤ 2000 := wd_len_le2 hAC hla
  have hcmp := compare_num A C _ _ w hA hC hla hlc
  obtain ⟨aa, ca, rfl, -, -, -⟩ := reads_u32 hA
  obtain ⟨ab, cb, rfl, -, -, hsb⟩ := reads_u32 hC
  clear hA hC
  have hn2 : 1 < (wd C).length := words_lenlt (B := 4294967296) (by omega) C 1 (by omega)
  obtain ⟨k, hk⟩ : ∃ k, (wd C).length = k + 2 := ⟨(wd C).length - 2, by omega⟩
  obtain ⟨b, off, rfl, hbl, hx0⟩ := hsb (k + 1) _ (wd_get C (k + 1) (by omega))
  have hxn := top_ne C (k + 1) hk
  have hx32 := wd_dig C (k + 1)
  obtain ⟨x, ex⟩ : ∃ x, x = dig 4294967296 C (k + 1) := ⟨_, rfl⟩
  obtain ⟨b1, b2, b3⟩ := bitLen_spec x (by omega)
  have hbl0 : Lib.bitLen x ≠ 0 := fun h => by rw [h] at b1; omega
  obtain ⟨s, hs⟩ : ∃ s, s = 32 - Lib.bitLen x := ⟨_, rfl⟩
  have hs32 : s < 32 := by omega
  have hlz := fun W => lz_any x W (by omega)
  rw [← hs] at hlz
  have HLZ : Hid (∀ W, Calls Try.prog 116 #[.int .u32 (x : Int)] W fun e w' => e = .returned (.int .i64 (s : Int)) ∧ W = w') := hlz
  obtain ⟨p, hp⟩ : ∃ p, p = (wd A).length := ⟨_, rfl⟩
  obtain ⟨n, hn⟩ : ∃ n, n = (wd C).length := ⟨_, rfl⟩
  have hnk : n = k + 2 := by rw [hn, hk]
  obtain ⟨f1, f2, f3, f4, f5, f6, f7, f8⟩ := norm_facts A C s n p hn hp hAC (by omega) hs32 (by rw [show n - 1 = k + 1 by omega, ← ex, show 32 - s = Lib.bitLen x by omega]; exact b1)
  have hLCo : Hid (∀ W, World.numR W (.slice (some ⟨b, off, none⟩) n cb) C → Calls Try.prog 123 #[.slice (some ⟨b, off, none⟩) n cb, .int .i64 (s : Int)] W (NumRet W (C * 2 ^ s))) := fun W h => left_num C s (by omega) _ W h hlc _ rfl
  have hLAo : Hid (∀ W, World.numR W (.slice aa p ca) A → Calls Try.prog 123 #[.slice aa p ca, .int .i64 (s : Int)] W (NumRet W (A * 2 ^ s))) := fun W h => left_num A s (by omega) _ W h hla _ rfl
  have hpos2 : 0 < 2 ^ s := Nat.pow_pos (by omega)
  have hdivq : A * 2 ^ s / (C * 2 ^ s) = A / C := Nat.mul_div_mul_right _ _ hpos2
  have hmodq : A * 2 ^ s % (C * 2 ^ s) = A % C * 2 ^ s := Nat.mul_mod_mul_right _ _ _
  have hLaA : p ≤ (wd (A * 2 ^ s)).length := by
    rw [hp]; exact wd_len_le2 (Nat.le_mul_of_pos_right A hpos2) (Nat.le_refl _)
  obtain ⟨V, hV⟩ : ∃ V, V = C * 2 ^ s := ⟨_, rfl⟩
  obtain ⟨D, hD⟩ : ∃ D, D = A * 2 ^ s := ⟨_, rfl⟩
  rw [← hV] at f1 f2 f6 f7 hLCo hdivq hmodq
  rw [← hD] at f2 f3 f4 hLAo hdivq hmodq hLaA
  obtain ⟨m, hm⟩ : ∃ m, m = p + 1 - n := ⟨_, rfl⟩
  rw [← hm] at f2
  obtain ⟨R, hR⟩ : ∃ R, R = cmpN A C := ⟨_, rfl⟩
  rw [← hR] at hcmp
  have hR0 : ¬ R < 0 := by
    rw [hR, cmpN, if_neg (by omega)]
    split <;> omega
  rw [← ex] at hx0
  rw [← hn, ← hp] at hcmp ⊢
  rw [← hn] at HC hlc
  rw [← hp] at HA hla
  have HCMP := Lib.hid hcmp
  have HV1 := Lib.hid f1
  have HDV := Lib.hid f2
  have HDL := Lib.hid f3
  have HDLen := Lib.hid f4
  have HVB := Lib.hid f6
  have HVlo : Hid (4294967296 ^ (k + 1) ≤ V) := by rw [show k + 1 = n - 1 by omega]; exact f7
  have HQ := Lib.hid hdivq
  have HM := Lib.hid hmodq
  have HLaA := Lib.hid hLaA
  have HZD := Lib.hid (zeros_app D)
  have hn1 : (n : Int) - 1 = ((k + 1 : Nat) : Int) := by omega
  have hnne : ¬ (n : Int) = 1 := by omega
  have hki : ((k + 1 : Nat) : Int) < (n : Int) := by omega
  have hkp : (0 : Int) ≤ ((k + 1 : Nat) : Int) := by omega
  have hmI : (p : Int) + 1 - (n : Int) = (m : Int) := by omega
  have hm1 : 1 ≤ m := by omega
  have hm2 : m ≤ 2001 := by omega
  have HKN := Lib.hid hnk
  have hpp1 : m + n = p + 1 := by omega
  have HMN := Lib.hid hpp1
  clear hcmp f1 f2 f3 f4 f6 f7 hdivq hmodq hLaA hsb hR hV hD hm hxn hx32 ex b1 b2 b3 hbl0 hs hlz hpos2 hn hp hk hn2 hpp1 hnk
  go_enter Try.func130, Try.ntmps130
  go_wp2_with fail
  (with_reducible refine (HCMP.out).mono ?_)
  rintro e w1 ⟨rfl, n1, rfl⟩
  have hx : (w.drewN n1).cell? ⟨b, off + (k + 1), none⟩ = some (.int .u32 (x : Int)) := hx0
  clear hx0
  go_wp2_with fail
  (with_reducible refine (HLZ.out _).mono ?_)
  rintro e w2 ⟨rfl, rfl⟩
  have HC1 : Hid (World.numR (w.drewN n1) (.slice (some ⟨b, off, none⟩) n cb) C) := numR_drewN HC.out n1
  have HA1 : Hid (World.numR (w.drewN n1) (.slice aa p ca) A) := numR_drewN HA.out n1
  have HB1 : Hid (Below w.heap.size w (w.drewN n1)) := below_drewN (Below.refl _ _) n1
  clear hx
  generalize w.drewN n1 = w2 at HC1 HA1 HB1 ⊢
  go_wp2_with fail
  (with_reducible refine (hLCo.out _ HC1.out).mono ?_)
  rintro e w3 ⟨v3, rfl, ho3, hb3⟩
  rw [HV1.out] at ho3
  obtain ⟨gV, cV, rfl, hcV, hcVm⟩ := owns_slice ho3 (by have := HKN.out; omega)
  have HVC : Hid (∀ i, i < n → w3.cell? ⟨gV, i, none⟩ = some (.int .u32 (dig 4294967296 V i : Int))) := fun i hi => ho3.cell i _ (by
    have := wd_get V i (by rw [HV1.out]; exact hi)
    rw [List.getElem?_map, this]; rfl)
  have HVlt : Hid (gV < w3.heap.size) := (ho3.lt gV rfl).2
  have HA3 := Lib.hid (numR_below HA1.out hb3)
  have HB3 := Lib.hid (HB1.out.trans (hb3.mono HB1.out.size))
  clear hb3 ho3
  go_wp2_with fail
  (with_reducible refine (hLAo.out _ HA3.out).mono ?_)
  rintro e w4 ⟨v4, rfl, ho4, hb4⟩
  obtain ⟨La, hLa⟩ : ∃ L, L = (wd D).length := ⟨_, rfl⟩
  rw [← hLa] at ho4 HLaA HDLen HZD
  have hLa1 : 0 < La := by have := HLaA.out; have := HMN.out; have := HKN.out; omega
  clear hLa
  obtain ⟨g4, c4, rfl, -, -⟩ := owns_slice ho4 hLa1
  have hLap := HLaA.out
  have hLap2 := HDLen.out
  have HO4 := Lib.hid (ho4.alloc (.cells #[.int .u32 0, .int .u32 0] 22))
  have hz34 : w3.heap.size ≤ (w4.alloc (.cells #[.int .u32 0, .int .u32 0] 22)).heap.size := by have := hb4.size; simp; omega
  have HZ34 := Lib.hid hz34
  have HBX : Hid (∀ w5 : World, World.grownBy (w4.alloc (.cells #[.int .u32 0, .int .u32 0] 22)) w5 (Value.slice (some ⟨g4, 0, none⟩) La c4).ownBlock → Below w3.heap.size w3 w5) := fun w5 hg => (hb4.trans (((Below.refl w4.heap.size w4).alloc (Nat.le_refl _) (.cells #[.int .u32 0, .int .u32 0] 22)).mono hb4.size)).trans (below_grown HO4.out hg w3.heap.size (Nat.le_refl _) HZ34.out)
  obtain ⟨i0, hi0, hiz, hiz1, hizb⟩ := info_parts infoU32
  clear ho4 hb4 hz34
  have hLa3 : La ≤ 2001 := by omega
  have hmk : ∀ W : World, (Instr.makeSlice 117 (.int .i64 (m : Int)) (.int .i64 (m : Int))).run Try.prog W = .ok (.slice (some ⟨W.heap.size, 0, none⟩) m m) (W.alloc (.cells (zrow m) 22)) := fun W => make_nat m (by omega) W
  go_wp2_with (at_builtin; refine wpList_append_owns _ rfl (.tmp 56) (.tmp 57) 117 rfl w3.heap.size 22 i0 (.int .u32 0) 1 4 Try.underlying117 hi0 hiz hiz1 hizb rfl (by decide) (.slice (some ⟨g4, 0, none⟩) La c4) La _ rfl HO4.out ⟨w4.heap.size, 0, none⟩ 2 2 [.int .u32 0, .int .u32 0] rfl rfl (news_alloc w4 [.int .u32 0, .int .u32 0] 22) (by simp [Value.oneCell']) (by unfold maxLen; omega) (by omega) HZ34.out ?_; intro v5 w5 hown5 hg5 _; have HO5 := Lib.hid hown5; have HB5 := Lib.hid (HBX.out _ hg5); obtain ⟨gU, cU, rfl, hcU, hcUm⟩ := owns_slice hown5 (by omega); clear hown5 hg5; have hpcU : (p : Int) + 1 ≤ (cU : Int) := by omega)
  have hgU5 : gU < w5.heap.size := (HO5.out.lt gU rfl).2
  have h35 := HB5.out.size
  have hds : DSt w3 (w5.alloc (.cells (zrow m) 22)) gU (p + 1) cU w5.heap.size m (D % (V * 4294967296 ^ m)) (fun i => if m ≤ i then dig 4294967296 (D / V) i else 0) := by
    refine ⟨?_, ?_, HB5.out.alloc h35 _, by omega, h35⟩
    · have h1 := (World.owns.takeR HO5.out (show p + 1 ≤ La + 2 by omega) (by simp)).alloc (.cells (zrow m) 22)
      rw [HZD.out] at h1
      rw [Nat.mod_eq_of_lt HDV.out]
      simpa [← List.map_take, List.take_range, Nat.min_eq_left (show p + 1 ≤ La + 2 by omega)] using h1
    · rw [rowF_congr (f' := fun _ => 0) (fun j hj => if_neg (by omega)), rowF_zero]
      exact heap_alloc_new w5 _
  obtain ⟨gq, hgq⟩ : ∃ g, g = w5.heap.size := ⟨_, rfl⟩
  rw [← hgq] at hds ⊢
  have HDS := Lib.hid hds
  have HPC : Hid (p + 1 ≤ cU) := by show _ ≤ _; omega
  clear hds HO4 HZ34 HBX HO5 HB5 hgU5 h35 hgq hi0 hiz hiz1 hizb hmk HZD HLaA hLap hLap2 HDLen hpcU
  generalize w5.alloc (.cells (zrow m) 22) = w6 at HDS ⊢
  obtain ⟨k1, hk1⟩ : ∃ z, z = k + 1 := ⟨_, rfl⟩
  clear hn1 hki hkp
  have hn1 : (n : Int) - 1 = (k1 : Int) := by have := HKN.out; omega
  have hn2 : (n : Int) - 2 = (k : Int) := by have := HKN.out; omega
  have HK1 := Lib.hid hk1
  clear hk1
  go_loopw [13] (fun jv wr => ∃ kk : Nat, kk ≤ m ∧ jv = .int .i64 ((kk : Int) - 1) ∧ Hid (DSt w3 wr gU (p + 1) cU gq m (D % (V * 4294967296 ^ kk)) (fun i => if kk ≤ i then dig 4294967296 (D / V) i else 0))) (fun jv _ => (intOf jv + 1).toNat)
  case atStart => exact ⟨m, Nat.le_refl _, rfl, HDS.out⟩
  case round =>
    obtain ⟨kk, hkk, rfl, hS⟩ := hrel
    cases kk with
    | zero =>
      rw [Nat.pow_zero, Nat.mul_one, HM.out] at hS
      have hf : (fun i => if 0 ≤ i then dig 4294967296 (D / V) i else 0) = dig 4294967296 (A / C) := by
        funext i
        rw [if_pos (Nat.zero_le i), HQ.out]
      rw [hf] at hS
      have hV0 : 0 < V := Nat.lt_of_lt_of_le (Nat.pow_pos (by omega)) HVlo.out
      have hT : A % C * 2 ^ s < 4294967296 ^ n := by
        rw [← HM.out]
        exact Nat.lt_trans (Nat.mod_lt _ hV0) HVB.out
      have hQl : A / C < 4294967296 ^ m := by
        rw [← HQ.out]
        exact (Nat.div_lt_iff_lt_mul hV0).2 (by rw [Nat.mul_comm]; exact HDV.out)
      have hkn := HKN.out
      have hmn := HMN.out
      have hncU : n ≤ cU := by have := HPC.out; omega
      obtain ⟨R1, hn1q, hr1q⟩ := hS.out.finQ hQl (by omega)
      obtain ⟨R2, hn2u, hr2u⟩ := hS.out.fin hT (show n ≤ p + 1 by omega) (by omega)
      have hrt : ∀ W, World.numR W (.slice (some ⟨gU, 0, none⟩) R2 cU) (A % C * 2 ^ s) → Calls Try.prog 132 #[.slice (some ⟨gU, 0, none⟩) R2 cU, .int .i64 (s : Int)] W (NumRet W (A % C * 2 ^ s / 2 ^ s)) := fun W hW => right_any _ s hs32 _ W hW (by
        have := words_length (B := 4294967296) (by omega) (A % C * 2 ^ s) n hT
        unfold wd
        omega)
      rw [Nat.mul_div_cancel _ (Nat.pow_pos (by omega))] at hrt
      have HN1 := Lib.hid hn1q
      have HN2 := Lib.hid hn2u
      have HR1 := Lib.hid hr1q
      have HR2 := Lib.hid hr2u
      have HRT := Lib.hid hrt
      have hb34 := hS.out.2.2.1
      have HBW := Lib.hid (HB3.out.trans (hb34.mono HB3.out.size))
      have hwr0 : Below wr.heap.size wr wr.drew := (Below.refl _ _).drew
      clear hf hV0 hT hQl hkn hmn hn1q hr1q hn2u hr2u hrt hb34 hS
      have h0 : ¬ (0 : Int) ≤ ((0 : Nat) : Int) - 1 := by omega
      go_wp2_with fail
      go_region_held3 (fun _ => True) (trivial)
        (first
          | (go_simp; go_at_call 115; (with_reducible refine (HN1.out _ hwr0).mono ?_); rintro e w5 ⟨rfl, rfl⟩)
          | (go_simp; go_at_call 115; (with_reducible refine (HN2.out _ hwr0).mono ?_); rintro e w5 ⟨rfl, rfl⟩)
          | (go_simp; go_at_call 132; (with_reducible refine (HRT.out _ (HR2.out _ hwr0)).mono ?_); rintro e w8 hr8; obtain ⟨v8, rfl, ho8, hb8⟩ := hr8; have H8 : Hid (NumRet wr.drew (A % C) (.returned v8) w8) := ⟨v8, rfl, ho8, hb8⟩; clear ho8 hb8))
      all_goals
        go_wp2
        rw [HP.out]
        exact ⟨_, _, rfl, HR1.out _ H8.out.belD, H8.out.numR, HBW.out.trans (H8.out.belD.mono HBW.out.size)⟩
    | succ j =>
      rw [show ((j + 1 : Nat) : Int) - 1 = (j : Int) by omega]
      obtain ⟨X, hX⟩ : ∃ X, X = D % (V * 4294967296 ^ (j + 1)) := ⟨_, rfl⟩
      have hV0 : 0 < V := Nat.lt_of_lt_of_le (Nat.pow_pos (by omega)) HVlo.out
      have hXl : X < V * 4294967296 ^ (j + 1) := by rw [hX]; exact Nat.mod_lt _ (Nat.mul_pos hV0 (Nat.pow_pos (by omega)))
      have hrnd := rnd_of V X k j (by rw [← HKN.out]; exact HVB.out) HVlo.out hXl
      rw [← hX] at hS
      obtain ⟨hq1, hq2⟩ := quot_word (B := 4294967296) (A := D) (V := V) (j := j) (by omega) hV0
      rw [← hX] at hq1 hq2
      have HXL := Lib.hid hXl
      have HQ1 := Lib.hid hq1
      have HQ2 := Lib.hid hq2
      clear hX hXl hq1 hq2
      have hmn := HMN.out
      have hkn := HKN.out
      have hk1 := HK1.out
      rw [← hk1] at hrnd
      obtain ⟨jn, ejn⟩ : ∃ z, z = j + n := ⟨_, rfl⟩
      obtain ⟨jm, ejm⟩ : ∃ z, z = j + k1 := ⟨_, rfl⟩
      obtain ⟨jk, ejk⟩ : ∃ z, z = j + k := ⟨_, rfl⟩
      obtain ⟨cy1, -⟩ := hS.out.cell jn (by omega)
      obtain ⟨cy0, -⟩ := hS.out.cell jm (by omega)
      obtain ⟨cy2, -⟩ := hS.out.cell jk (by omega)
      have hbel := hS.out.2.2.1
      have cv1 := (hbel.cell (p := ⟨gV, k1, none⟩) HVlt.out).trans (HVC.out k1 (by omega))
      have cv2 := (hbel.cell (p := ⟨gV, k, none⟩) HVlt.out).trans (HVC.out k (by omega))
      rw [show j + (k + 2) = jn by omega, ← ejm, ← ejk] at hrnd
      obtain ⟨q, hq⟩ : ∃ q, q = X / 4294967296 ^ j / V := ⟨_, rfl⟩
      have hy1 := dig_lt (B := 4294967296) (by omega) X jn
      have hy0 := dig_lt (B := 4294967296) (by omega) X jm
      obtain ⟨y1, ey1⟩ : ∃ y, y = dig 4294967296 X jn := ⟨_, rfl⟩
      obtain ⟨y0, ey0⟩ : ∃ y, y = dig 4294967296 X jm := ⟨_, rfl⟩
      obtain ⟨y2, ey2⟩ : ∃ y, y = dig 4294967296 X jk := ⟨_, rfl⟩
      obtain ⟨v1, ev1⟩ : ∃ y, y = dig 4294967296 V k1 := ⟨_, rfl⟩
      obtain ⟨v2, ev2⟩ : ∃ y, y = dig 4294967296 V k := ⟨_, rfl⟩
      rw [← hq] at hrnd
      have HQE := Lib.hid hq
      rw [← ey1, ← ey0, ← ey2, ← ev1, ← ev2] at hrnd
      rw [← ey1] at cy1 hy1
      rw [← ey0] at cy0 hy0
      rw [← ey2] at cy2
      rw [← ev1] at cv1
      rw [← ev2] at cv2
      obtain ⟨pp, epp⟩ : ∃ z, z = y1 * 4294967296 := ⟨_, rfl⟩
      obtain ⟨top, etop⟩ : ∃ z, z = pp + y0 := ⟨_, rfl⟩
      have hor : bits .or .u64 (pp : Int) (y0 : Int) = (top : Int) := by
        have := or_lo .u64 (Or.inl rfl) 32 y1 y0 (by omega) (by simp only [if_true]; omega)
        rw [show y1 * 2 ^ 32 = pp by rw [epp], ← etop] at this
        exact this
      rw [← epp, ← etop] at hrnd
      have hpv := hrnd.pos
      have hpb := hrnd.v1B
      have hpt := hrnd.top64
      have hpv2 := hrnd.v2B
      have hpu2 := hrnd.u2B
      have HRND := Lib.hid hrnd
      have HPT := Lib.hid hpt
      have u1 : IntKind.u64.wrap ((y1 : Int) * 4294967296) = (pp : Int) := by rw [IntKind.wrap_u64]; omega
      have u1' : IntKind.u64.wrap ((y1 : Int) * 2 ^ 32) = (pp : Int) := by rw [IntKind.wrap_u64]; omega
      have u2 : IntKind.u64.wrap (y1 : Int) = (y1 : Int) := by rw [IntKind.wrap_u64]; omega
      have u3 : IntKind.u64.wrap (y0 : Int) = (y0 : Int) := by rw [IntKind.wrap_u64]; omega
      have u4 : IntKind.u64.wrap (v1 : Int) = (v1 : Int) := by rw [IntKind.wrap_u64]; omega
      have i1 : (j : Int) + (n : Int) = (jn : Int) := by omega
      have i2 : (jn : Int) - 1 = (jm : Int) := by omega
      have i3 : (jn : Int) < (p : Int) + 1 := by omega
      have i4 : (jm : Int) < (p : Int) + 1 := by omega
      have i5 : (k1 : Int) < (n : Int) := by omega
      have i6 : (jn : Int) ≤ 4000 := by omega
      have i7 : IntKind.i64.wrap (jn : Int) = (jn : Int) := by rw [IntKind.wrap_i64]; omega
      have i8 : IntKind.i64.wrap (jm : Int) = (jm : Int) := by rw [IntKind.wrap_i64]; omega
      have i9 : IntKind.i64.wrap (k1 : Int) = (k1 : Int) := by rw [IntKind.wrap_i64]; omega
      have EJN := Lib.hid ejn
      have EJM := Lib.hid ejm
      have EJK := Lib.hid ejk
      have EY1 := Lib.hid ey1
      have EY2 := Lib.hid ey2
      have EV1 := Lib.hid ev1
      have EV2 := Lib.hid ev2
      clear ey1 ey0 ey2 ev1 ev2 epp etop hrnd hbel hq hkn hmn hpt hk1 ejn ejm ejk
      go_wp2_with fail
      go_step3
      go_upto_region 14 with (fail)
      go_quiet (fail)
      have hS1 : DSt w3 (wr.drewN nq) gU (p + 1) cU gq m X (fun i => if j + 1 ≤ i then dig 4294967296 (D / V) i else 0) := hS.out.drewN nq
      have cz1 : (wr.drewN nq).cell? ⟨gV, k1, none⟩ = some (.int .u32 (v1 : Int)) := cv1
      have cz2 : (wr.drewN nq).cell? ⟨gV, k, none⟩ = some (.int .u32 (v2 : Int)) := cv2
      have cy2' : (wr.drewN nq).cell? ⟨gU, jk, none⟩ = some (.int .u32 (y2 : Int)) := cy2
      clear hS cv1 cv2 cy2 cy1 cy0 hor u1 u1' u2 u3
      generalize wr.drewN nq = wa at hS1 cz1 cz2 cy2' ⊢
      have HS1 := Lib.hid hS1
      obtain ⟨g0, eg0⟩ : ∃ z, z = top / v1 := ⟨_, rfl⟩
      obtain ⟨r0, er0⟩ : ∃ z, z = top % v1 := ⟨_, rfl⟩
      have t1 : (top : Int) / (v1 : Int) = (g0 : Int) := by rw [eg0, Int.natCast_ediv]
      have t1' : (top : Int).tdiv (v1 : Int) = (g0 : Int) := by rw [Int.tdiv_eq_ediv_of_nonneg (by omega), t1]
      have t2 : (top : Int) % (v1 : Int) = (r0 : Int) := by rw [er0, Int.natCast_emod]
      have t2' : (top : Int).tmod (v1 : Int) = (r0 : Int) := by rw [Int.tmod_eq_emod_of_nonneg (by omega), t2]
      have hgr : g0 * v1 + r0 = top := by rw [eg0, er0, Nat.mul_comm]; exact Nat.div_add_mod top v1
      have hr0 : r0 < v1 := by rw [er0]; exact Nat.mod_lt _ hpv
      have hqg0 : q ≤ g0 := by rw [eg0]; exact HRND.out.ge
      have hg64 : g0 ≤ top := by rw [eg0]; exact Nat.div_le_self _ _
      have t3 : IntKind.u64.wrap (g0 : Int) = (g0 : Int) := by have := HPT.out; rw [IntKind.wrap_u64]; omega
      have hv1n : ¬ v1 = 0 := by omega
      have hv1I : ¬ (v1 : Int) = 0 := by omega
      have hv1b : ((v1 : Int) == 0) = false := by rw [beq_eq_false_iff_ne]; omega
      have HGR := Lib.hid hgr
      have HR0 := Lib.hid hr0
      have HQG0 := Lib.hid hqg0
      have HG64 := Lib.hid hg64
      clear hS1 eg0 er0 hgr hr0 hqg0 hg64
      go_upto_region 15 with (fail)
      go_quiet (fail)
      have hS2 : DSt w3 (wa.drewN nq) gU (p + 1) cU gq m X (fun i => if j + 1 ≤ i then dig 4294967296 (D / V) i else 0) := HS1.out.drewN nq
      have cz1' : (wa.drewN nq).cell? ⟨gV, k1, none⟩ = some (.int .u32 (v1 : Int)) := cz1
      have cz2' : (wa.drewN nq).cell? ⟨gV, k, none⟩ = some (.int .u32 (v2 : Int)) := cz2
      have cy3 : (wa.drewN nq).cell? ⟨gU, jk, none⟩ = some (.int .u32 (y2 : Int)) := cy2'
      clear HS1 cz1 cz2 cy2' t1 t1' t2 t2' hv1b
      generalize wa.drewN nq = wb at hS2 cz1' cz2' cy3 ⊢
      have HS2 := Lib.hid hS2
      clear hS2 cz1' cz2' cy3
      have j1 : (jn : Int) - 2 = (jk : Int) := by have := EJN.out; have := EJK.out; have := HKN.out; omega
      have j2 : IntKind.i64.wrap (jk : Int) = (jk : Int) := by have := EJK.out; rw [IntKind.wrap_i64]; omega
      have j3 : IntKind.i64.wrap (k : Int) = (k : Int) := by have := HKN.out; rw [IntKind.wrap_i64]; omega
      have j4 : (jk : Int) < (p : Int) + 1 := by have := EJN.out; have := EJK.out; have := HKN.out; omega
      have j5 : (k : Int) < (n : Int) := by have := HKN.out; omega
      have j6 : IntKind.u64.wrap (v2 : Int) = (v2 : Int) := by rw [IntKind.wrap_u64]; omega
      have j7 : IntKind.u64.wrap (y2 : Int) = (y2 : Int) := by rw [IntKind.wrap_u64]; omega
      go_wp2_with fail
      go_step3
      go_upto_block 2 with fail
      go_cut [15, 16] from 110 to 145 (fun gv rv wx => ∃ g r : Nat, gv = .int .u64 (g : Int) ∧ rv = .int .u64 (r : Int) ∧ Hid (q ≤ g ∧ g ≤ q + 1 ∧ g < 4294967296) ∧ Hid (DSt w3 wx gU (p + 1) cU gq m X (fun i => if j + 1 ≤ i then dig 4294967296 (D / V) i else 0)))
      case first =>
        go_wp2_with fail
        go_loopw [15, 16] (fun gv rv wr => ∃ g r : Nat, gv = .int .u64 (g : Int) ∧ rv = .int .u64 (r : Int) ∧ g * v1 + r = top ∧ r < 4294967296 ∧ q ≤ g ∧ Hid (DSt w3 wr gU (p + 1) cU gq m X (fun i => if j + 1 ≤ i then dig 4294967296 (D / V) i else 0))) (fun gv _ _ => (intOf gv).toNat)
        case atStart => exact ⟨g0, r0, rfl, rfl, HGR.out, by have := HR0.out; omega, HQG0.out, HS2.out⟩
        case round =>
          obtain ⟨g, r, rfl, rfl, hg, hrB, hqg, hS⟩ := hrel
          have hgt : g ≤ top := by
            have : g * 1 ≤ g * v1 := Nat.mul_le_mul_left g hpv
            omega
          have hpt := HPT.out
          obtain ⟨cy2, -⟩ := hS.out.cell jk (by omega)
          have hbel := hS.out.2.2.1
          have cv1 := (hbel.cell (p := ⟨gV, k1, none⟩) HVlt.out).trans (HVC.out k1 (by omega))
          have cv2 := (hbel.cell (p := ⟨gV, k, none⟩) HVlt.out).trans (HVC.out k (by omega))
          rw [← EY2.out] at cy2
          rw [← EV1.out] at cv1
          rw [← EV2.out] at cv2
          by_cases hgB : 4294967296 ≤ g
          · have hgI : (4294967296 : Int) ≤ (g : Int) := by omega
            have hgD : decide ((4294967296 : Int) ≤ (g : Int)) = true := decide_eq_true hgI
            have hqg := HRND.out.down hg hqg (.inl hgB)
            obtain ⟨g1, eg1⟩ : ∃ z, z = g - 1 := ⟨_, rfl⟩
            obtain ⟨r1, er1⟩ : ∃ z, z = r + v1 := ⟨_, rfl⟩
            have HG1 : Hid (g1 * v1 + r1 = top) := by
              show _ = _
              rw [eg1, er1, ← hg]
              obtain ⟨z, rfl⟩ : ∃ z, g = z + 1 := ⟨g - 1, by omega⟩
              rw [Nat.add_sub_cancel, Nat.add_mul]
              omega
            have HQ1G : Hid (q ≤ g1) := by show _ ≤ _; omega
            have u7 : IntKind.u64.wrap ((g : Int) - 1) = (g1 : Int) := by rw [IntKind.wrap_u64]; omega
            have u8 : IntKind.u64.wrap ((r : Int) + (v1 : Int)) = (r1 : Int) := by rw [IntKind.wrap_u64]; omega
            have hg1lt : g1 < g := by omega
            go_upto_region 16 with (fail)
            go_quiet (fail)
            have cv1x : (wr.drewN nq).cell? ⟨gV, k1, none⟩ = some (.int .u32 (v1 : Int)) := cv1
            have hSX := hS.out.drewN nq
            clear cv1 cv2 cy2 hS hbel
            generalize wr.drewN nq = wx at cv1x hSX ⊢
            have HSX := Lib.hid hSX
            clear hSX
            clear hg eg1 er1 hpt hgt hqg hgI hgD hgB
            by_cases hrb : 4294967296 ≤ r1
            · have hrI : (4294967296 : Int) ≤ (r1 : Int) := by omega
              have hrD : decide ((4294967296 : Int) ≤ (r1 : Int)) = true := decide_eq_true hrI
              have hfin := HRND.out.fin2 HG1.out hrb
              have HFIN := Lib.hid hfin
              clear hfin hrb
              go_wp2
              go_meet
              case rel => exact ⟨g1, r1, rfl, rfl, ⟨HQ1G.out, HFIN.out.2, HFIN.out.1⟩, HSX.out⟩
            · have hrI : ¬ (4294967296 : Int) ≤ (r1 : Int) := by omega
              have hrD : decide ((4294967296 : Int) ≤ (r1 : Int)) = false := decide_eq_false hrI
              go_wp2
              go_roundw
              case rel => exact ⟨g1, r1, rfl, rfl, HG1.out, by omega, HQ1G.out, HSX.out⟩
              case measure => simp [intOf]; omega
          · have hgI : ¬ (4294967296 : Int) ≤ (g : Int) := by omega
            have hgD : decide ((4294967296 : Int) ≤ (g : Int)) = false := decide_eq_false hgI
            have hP64 : g * v2 < 4294967296 * 4294967296 := Nat.mul_lt_mul'' (by omega) hpv2
            obtain ⟨P, eP⟩ : ∃ z, z = g * v2 := ⟨_, rfl⟩
            obtain ⟨rr, err⟩ : ∃ z, z = r * 4294967296 := ⟨_, rfl⟩
            obtain ⟨W, eW⟩ : ∃ z, z = rr + y2 := ⟨_, rfl⟩
            rw [← eP] at hP64
            have uP : IntKind.u64.wrap ((g : Int) * (v2 : Int)) = (P : Int) := by
              rw [show ((g : Int) * (v2 : Int)) = (P : Int) by rw [eP]; simp, IntKind.wrap_u64]; omega
            have uR : IntKind.u64.wrap ((r : Int) * 4294967296) = (rr : Int) := by rw [IntKind.wrap_u64]; omega
            have uR' : IntKind.u64.wrap ((r : Int) * 2 ^ 32) = (rr : Int) := by rw [IntKind.wrap_u64]; omega
            have hor : bits .or .u64 (rr : Int) (y2 : Int) = (W : Int) := by
              have := or_lo .u64 (Or.inl rfl) 32 r y2 hpu2 (by simp only [if_true]; omega)
              rw [show r * 2 ^ 32 = rr by rw [err], ← eW] at this
              exact this
            by_cases ht : W < P
            · have hPI : (W : Int) < (P : Int) := by omega
              have hPD : decide ((W : Int) < (P : Int)) = true := decide_eq_true hPI
              have hqg := HRND.out.down hg hqg (.inr (by rw [← eP, ← err, ← eW]; exact ht))
              obtain ⟨g1, eg1⟩ : ∃ z, z = g - 1 := ⟨_, rfl⟩
              obtain ⟨r1, er1⟩ : ∃ z, z = r + v1 := ⟨_, rfl⟩
              have HG1 : Hid (g1 * v1 + r1 = top) := by
                show _ = _
                rw [eg1, er1, ← hg]
                obtain ⟨z, rfl⟩ : ∃ z, g = z + 1 := ⟨g - 1, by omega⟩
                rw [Nat.add_sub_cancel, Nat.add_mul]
                omega
              have HQ1G : Hid (q ≤ g1) := by show _ ≤ _; omega
              have u7 : IntKind.u64.wrap ((g : Int) - 1) = (g1 : Int) := by rw [IntKind.wrap_u64]; omega
              have u8 : IntKind.u64.wrap ((r : Int) + (v1 : Int)) = (r1 : Int) := by rw [IntKind.wrap_u64]; omega
              have hg1lt : g1 < g := by omega
              clear eP err eW hP64 ht
              clear eg1 er1 hpt
              go_upto_region 16 with (fail)
              go_quiet (fail)
              have cv1x : (wr.drewN nq).cell? ⟨gV, k1, none⟩ = some (.int .u32 (v1 : Int)) := cv1
              have hSX := hS.out.drewN nq
              clear cv1 cv2 cy2 hS hbel
              generalize wr.drewN nq = wx at cv1x hSX ⊢
              have HSX := Lib.hid hSX
              clear hSX
              clear hg hgt hqg hgI hgD hgB uP uR uR' hor hPI hPD
              by_cases hrb : 4294967296 ≤ r1
              · have hrI : (4294967296 : Int) ≤ (r1 : Int) := by omega
                have hrD : decide ((4294967296 : Int) ≤ (r1 : Int)) = true := decide_eq_true hrI
                have hfin := HRND.out.fin2 HG1.out hrb
                have HFIN := Lib.hid hfin
                clear hfin hrb
                go_wp2
                go_meet
                case rel => exact ⟨g1, r1, rfl, rfl, ⟨HQ1G.out, HFIN.out.2, HFIN.out.1⟩, HSX.out⟩
              · have hrI : ¬ (4294967296 : Int) ≤ (r1 : Int) := by omega
                have hrD : decide ((4294967296 : Int) ≤ (r1 : Int)) = false := decide_eq_false hrI
                go_wp2
                go_roundw
                case rel => exact ⟨g1, r1, rfl, rfl, HG1.out, by omega, HQ1G.out, HSX.out⟩
                case measure => simp [intOf]; omega
            · have hPI : ¬ (W : Int) < (P : Int) := by omega
              have hPD : decide ((W : Int) < (P : Int)) = false := decide_eq_false hPI
              have HFIN := Lib.hid (HRND.out.fin hg (by omega) (by rw [← eP, ← err, ← eW]; exact ht))
              have HQG := Lib.hid hqg
              have HGB : Hid (g < 4294967296) := by show _ < _; omega
              clear eP err eW hP64 ht
              clear hpt
              go_upto_region 16 with (fail)
              go_quiet (fail)
              have hSX := hS.out.drewN nq
              clear cv1 cv2 cy2 hS hbel
              generalize wr.drewN nq = wx at hSX ⊢
              have HSX := Lib.hid hSX
              clear hSX
              clear hg hgt hqg hgI hgD hgB uP uR uR' hor hPI hPD
              go_wp2
              go_meet
              case rel => exact ⟨g, r, rfl, rfl, ⟨HQG.out, HFIN.out, HGB.out⟩, HSX.out⟩
      case rest =>
        obtain ⟨g, r, rfl, rfl, HGQ, hS⟩ := hcut
        clear HS2 HGR HR0 HQG0 HG64 HRND HPT
        have hgB : g < 4294967296 := HGQ.out.2.2
        go_wp2_with fail
        go_loopw [17, 18, 148] (fun cv bv iv wr => ∃ i c b T : Nat, i ≤ n ∧ iv = .int .i64 (i : Int) ∧ cv = .int .u64 (c : Int) ∧ bv = .int .u64 (b : Int) ∧ Hid (SubSt 4294967296 V X g j i T b c) ∧ Hid (DSt w3 wr gU (p + 1) cU gq m T (fun i => if j + 1 ≤ i then dig 4294967296 (D / V) i else 0))) (fun _ _ iv _ => n - (intOf iv).toNat)
        case atStart => exact ⟨0, 0, 0, X, Nat.zero_le _, rfl, rfl, rfl, SubSt.start (by omega), hS.out⟩
        case round =>
          obtain ⟨i, c, b, T, hi, rfl, rfl, rfl, hSu, hS⟩ := hrel
          by_cases hlt : i < n
          · obtain ⟨ij, eij⟩ : ∃ z, z = i + j := ⟨_, rfl⟩
            have hmn := HMN.out
            have hkn := HKN.out
            have hejn := EJN.out
            have hij := hS.out.cell ij (by omega)
            obtain ⟨cu, fu⟩ := hij
            have hbel := hS.out.2.2.1
            have cv1 := (hbel.cell (p := ⟨gV, i, none⟩) HVlt.out).trans (HVC.out i hlt)
            rw [hSu.out.up ij (by omega)] at cu
            have hx := dig_lt (B := 4294967296) (by omega) X ij
            have hv := dig_lt (B := 4294967296) (by omega) V i
            have hstep : ∀ lo hi y b', g * dig 4294967296 V i + c = hi * 4294967296 + lo → hi < 4294967296 → y < 4294967296 → b' ≤ 1 → y + lo + b = dig 4294967296 X (i + j) + b' * 4294967296 → SubSt 4294967296 V X g j (i + 1) (setDig 4294967296 T (i + j) y) b' hi := fun lo hi y b' h1 h2 h3 h4 h5 => hSu.out.step (by omega) hgB h1 h2 h3 h4 h5
            rw [← eij] at hstep
            obtain ⟨x, ex⟩ : ∃ x, x = dig 4294967296 X ij := ⟨_, rfl⟩
            obtain ⟨v, ev⟩ : ∃ x, x = dig 4294967296 V i := ⟨_, rfl⟩
            rw [← ex] at cu hx hstep
            rw [← ev] at cv1 hv hstep
            have hcB := hSu.out.hc
            have hbB := hSu.out.hb
            obtain ⟨M, pw, lo, hi2, z, d, Tz, s1, s2, s3, s4, s5, s6, s7, s8, a1, a2, a3, a4, a5, a6, a7⟩ := sub_words g v c b x hgB hv hcB hbB hx
            have HST := Lib.hid (hstep lo hi2 z d s1 s2 s3 s4 s5)
            have HNX := Lib.hid (hS.out.set ij z (by omega) s3)
            have w1 : (i : Int) + (j : Int) = (ij : Int) := by omega
            have w2 : (ij : Int) < (p : Int) + 1 := by omega
            have w3' : IntKind.i64.wrap (ij : Int) = (ij : Int) := by rw [IntKind.wrap_i64]; omega
            have w4 : IntKind.u64.wrap (v : Int) = (v : Int) := by rw [IntKind.wrap_u64]; omega
            have w5 : IntKind.u64.wrap (x : Int) = (x : Int) := by rw [IntKind.wrap_u64]; omega
            have w6 : (i : Int) < (n : Int) := by omega
            have w7 : (M : Int) + (c : Int) = (pw : Int) := by omega
            have w8 : (ij : Int) ≤ 4000 := by omega
            clear hstep hSu hS hbel ex ev eij s1 s5 s7 hmn hkn hejn
            go_wp2_with fail
            go_roundw
            case rel => exact ⟨i + 1, hi2, d, _, by omega, by go_num, rfl, rfl, HST.out, HNX.out⟩
            case measure => simp [intOf]; omega
          · obtain rfl : n = i := by omega
            have hmn := HMN.out
            have hkn := HKN.out
            have hejn := EJN.out
            obtain ⟨cu, fu⟩ := hS.out.cell jn (by omega)
            rw [hSu.out.up jn (by omega)] at cu
            have hx := dig_lt (B := 4294967296) (by omega) X jn
            have hend : ∀ y d, y < 4294967296 → d ≤ 1 → y + b + c = dig 4294967296 X (n + j) + d * 4294967296 → (d = 0 → g = dig 4294967296 (D / V) j ∧ setDig 4294967296 T (n + j) y = D % (V * 4294967296 ^ j)) ∧
    (d = 1 → g = dig 4294967296 (D / V) j + 1 ∧ setDig 4294967296 T (n + j) y + V * 4294967296 ^ j = D % (V * 4294967296 ^ j) + 4294967296 ^ (n + j + 1) ∧ (∀ k, n + j + 1 ≤ k → dig 4294967296 (setDig 4294967296 T (n + j) y) k = 0)) :=
              fun y d h1 h2 h3 => sub_end hV0 HVB.out HXL.out HQ1.out HQ2.out hSu.out (by rw [← HQE.out]; exact HGQ.out.1) (by rw [← HQE.out]; exact HGQ.out.2.1) h1 h2 h3
            rw [show n + j = jn by omega] at hend
            obtain ⟨x, ex⟩ : ∃ x, x = dig 4294967296 X jn := ⟨_, rfl⟩
            rw [← ex] at cu hx hend
            have hcB := hSu.out.hc
            have hbB := hSu.out.hb
            obtain ⟨z, d, Tz, s1, s2, s3, a1, a2, a3⟩ := sub_lastW c b x hcB hbB hx
            have HEND := Lib.hid (hend z d s1 s2 s3)
            have hnx := hS.out.set jn z (by omega) s1
            obtain ⟨cq, fq⟩ := hnx.qcell j (by omega)
            have HNX := Lib.hid hnx
            have w5 : IntKind.u64.wrap (x : Int) = (x : Int) := by rw [IntKind.wrap_u64]; omega
            have w6 : ¬ (n : Int) < (n : Int) := by omega
            have w7 : (j : Int) < (m : Int) := by omega
            have w8 : (0 : Int) ≤ (j : Int) := by omega
            have w9 : IntKind.i64.wrap (j : Int) = (j : Int) := by rw [IntKind.wrap_i64]; omega
            have w10 : (g : Int) % 4294967296 = (g : Int) := by omega
            clear hend hSu hS ex s3 hnx
            rcases (show d = 0 ∨ d = 1 by omega) with rfl | rfl
            · have hE := HEND.out.1 rfl
              have HE := Lib.hid hE
              clear hE HEND hmn hkn hejn
              go_wp2_with fail
              go_roundw
              case rel => exact ⟨j, by omega, rfl, HNX.out.qend HE.out.2 HE.out.1⟩
              case measure => simp [intOf]
            · have hE := HEND.out.2 rfl
              obtain ⟨Y, eY⟩ : ∃ Y, Y = setDig 4294967296 T jn z := ⟨_, rfl⟩
              rw [← eY] at hE HNX
              obtain ⟨g1, eg1⟩ : ∃ g1, g = g1 + 1 := ⟨g - 1, by have := hE.1; omega⟩
              have u7 : IntKind.u64.wrap ((g : Int) - 1) = (g1 : Int) := by rw [IntKind.wrap_u64]; omega
              have hg1B : g1 < 4294967296 := by omega
              have w11 : (g1 : Int) % 4294967296 = (g1 : Int) := by omega
              have hg1 : g1 = dig 4294967296 (D / V) j := by have := hE.1; omega
              have HG1 := Lib.hid hg1
              have HE := Lib.hid hE.2
              clear hE HEND hmn hkn hejn eY eg1 cq fq hg1 w10
              go_wp2_with fail
              generalize wr.setCell ⟨gU, jn, none⟩ (.int .u32 (z : Int)) = wy at HNX ⊢
              clear cu fu
              go_loopw [17, 209] (fun cv iv wr => ∃ i c T : Nat, i ≤ n ∧ iv = .int .i64 (i : Int) ∧ cv = .int .u64 (c : Int) ∧ Hid (AddSt 4294967296 V Y j i T c) ∧ Hid (DSt w3 wr gU (p + 1) cU gq m T (fun i => if j + 1 ≤ i then dig 4294967296 (D / V) i else 0))) (fun _ iv _ => n - (intOf iv).toNat)
              case atStart => exact ⟨0, 0, Y, Nat.zero_le _, rfl, rfl, AddSt.start, HNX.out⟩
              case round =>
                obtain ⟨i, c, T, hi, rfl, rfl, hAd, hS⟩ := hrel
                by_cases hlt : i < n
                · obtain ⟨ij, eij⟩ : ∃ z, z = i + j := ⟨_, rfl⟩
                  have hmn := HMN.out
                  have hkn := HKN.out
                  obtain ⟨cu, fu⟩ := hS.out.cell ij (by omega)
                  have hbel := hS.out.2.2.1
                  have cv1 := (hbel.cell (p := ⟨gV, i, none⟩) HVlt.out).trans (HVC.out i hlt)
                  rw [hAd.out.up ij (by omega)] at cu
                  have hu := dig_lt (B := 4294967296) (by omega) Y ij
                  have hv := dig_lt (B := 4294967296) (by omega) V i
                  have hstep : ∀ y d, y < 4294967296 → d ≤ 1 → c + (dig 4294967296 Y (i + j) + dig 4294967296 V i) = y + d * 4294967296 → AddSt 4294967296 V Y j (i + 1) (setDig 4294967296 T (i + j) y) d := fun y d h1 h2 h3 => hAd.out.step (by omega) h1 h2 h3
                  rw [← eij] at hstep
                  obtain ⟨u, eu⟩ : ∃ x, x = dig 4294967296 Y ij := ⟨_, rfl⟩
                  obtain ⟨v, ev⟩ : ∃ x, x = dig 4294967296 V i := ⟨_, rfl⟩
                  rw [← eu] at cu hu hstep
                  rw [← ev] at cv1 hv hstep
                  have hc1 := hAd.out.hc
                  obtain ⟨t, s, z, d, e1, e2, s1, s2, s3, s4, a1, a2, a3, a4⟩ := add_words c u v hc1 hu hv
                  have HST := Lib.hid (hstep z d s1 s2 s3)
                  have w1 : (i : Int) + (j : Int) = (ij : Int) := by omega
                  have w2 : (ij : Int) < (p : Int) + 1 := by omega
                  have w3' : IntKind.i64.wrap (ij : Int) = (ij : Int) := by rw [IntKind.wrap_i64]; omega
                  have w3i : IntKind.i64.wrap (i : Int) = (i : Int) := by rw [IntKind.wrap_i64]; omega
                  have w4 : IntKind.u64.wrap (v : Int) = (v : Int) := by rw [IntKind.wrap_u64]; omega
                  have w5 : IntKind.u64.wrap (u : Int) = (u : Int) := by rw [IntKind.wrap_u64]; omega
                  have w6 : (i : Int) < (n : Int) := by omega
                  have w8 : (ij : Int) ≤ 4000 := by omega
                  have w9 : IntKind.u64.wrap (t : Int) = (t : Int) := by rw [IntKind.wrap_u64]; omega
                  have w10 : IntKind.u64.wrap (s : Int) = (s : Int) := by rw [IntKind.wrap_u64]; omega
                  clear hstep hAd hbel eu ev eij s3 hmn hkn e1 e2
                  go_upto_region 38 with (fail)
                  go_quiet (fail)
                  have cu' : (wr.drewN nq).cell? ⟨gU, ij, none⟩ = some (.int .u32 (u : Int)) := cu
                  have fu' : (wr.drewN nq).frozen? ⟨gU, ij, none⟩ = false := fu
                  have hS2 := hS.out.drewN nq
                  have HNX2 := Lib.hid (hS2.set ij z (by have := HMN.out; have := HKN.out; omega) s1)
                  clear hS2 hS cu fu cv1
                  generalize wr.drewN nq = wq at cu' fu' HNX2 ⊢
                  go_wp2_with fail
                  go_roundw
                  case rel => exact ⟨i + 1, d, _, by omega, by go_num, rfl, HST.out, HNX2.out⟩
                  case measure => simp [intOf]; omega
                · obtain rfl : n = i := by omega
                  have hmn := HMN.out
                  have hkn := HKN.out
                  have hejn := EJN.out
                  obtain ⟨cu, fu⟩ := hS.out.cell jn (by omega)
                  rw [hAd.out.up jn (by omega)] at cu
                  have hlast : setDig 4294967296 T (n + j) ((dig 4294967296 Y (n + j) + c) % 4294967296) = D % (V * 4294967296 ^ j) :=
                    hAd.out.last (by omega) HVB.out (Nat.mod_lt _ (Nat.mul_pos hV0 (Nat.pow_pos (by omega)))) (by rw [show n + j = jn by omega]; exact HE.out.1) (by rw [show n + j = jn by omega]; exact HE.out.2)
                  rw [show n + j = jn by omega] at hlast
                  obtain ⟨x, ex⟩ : ∃ x, x = dig 4294967296 Y jn := ⟨_, rfl⟩
                  have hx := dig_lt (B := 4294967296) (by omega) Y jn
                  rw [← ex] at cu hlast hx
                  have hc1 := hAd.out.hc
                  obtain ⟨z, ez⟩ : ∃ z, z = (x + c) % 4294967296 := ⟨_, rfl⟩
                  rw [← ez] at hlast
                  have hnx := hS.out.set jn z (by omega) (by omega)
                  obtain ⟨cq, fq⟩ := hnx.qcell j (by omega)
                  have HNX2 := Lib.hid hnx
                  have HL := Lib.hid hlast
                  have v1 : (c : Int) % 4294967296 = (c : Int) := by omega
                  have v2 : IntKind.u32.wrap ((x : Int) + (c : Int)) = (z : Int) := by rw [IntKind.wrap_u32]; omega
                  have v3 : ((x : Int) + (c : Int)) % 4294967296 = (z : Int) := by omega
                  clear hlast hAd hS hnx ex ez hmn hkn hejn
                  go_wp2_with fail
                  go_simp
                  go_wp2_with fail
                  go_roundw
                  case rel => exact ⟨j, by omega, rfl, HNX2.out.qend HL.out HG1.out⟩
                  case measure => simp [intOf]
end Go.Proofs.Ytkjlfjnncdkmlaa

/- Walks: the product of two forms. -/
namespace Go.Proofs.Ytkjlfjnncdkmlaa
set_option linter.all false
open Go.RowKit Go.Shelf Go.WideNum
set_option maxRecDepth 100000 in
set_option maxHeartbeats 8000000 in
theorem Mul_any (na : Bool) (sa : ByteArray) (nb : Bool) (sb : ByteArray) (hsa : sa.size ≤ maxLen) (hsb : sb.size ≤ maxLen) (w : World) :
    Calls Try.prog 87 #[.agg #[.bool na, .string sa], .agg #[.bool nb, .string sb]] w fun e w' => e = .returned (.tuple #[(opF (fun a b => a * b) na sa nb sb).1, .int .i64 (opF (fun a b => a * b) na sa nb sb).2]) ∧ Below w.heap.size w w' := by
  obtain ⟨HPOST, hpost⟩ : ∃ X : Ending → World → Prop, X = fun e w' => e = .returned (.tuple #[(opF (fun a b => a * b) na sa nb sb).1, .int .i64 (opF (fun a b => a * b) na sa nb sb).2]) ∧ Below w.heap.size w w' := ⟨_, rfl⟩
  rw [← hpost]
  have HP := Lib.hid hpost
  clear hpost
  obtain ⟨W0, hW0⟩ : ∃ W0, W0 = ((w.alloc (.cells #[.bool na, .string sa] 42)).alloc (.cells #[.bool nb, .string sb] 42)).alloc (.cells #[.bool false, .string ⟨#[]⟩] 42) := ⟨_, rfl⟩
  have g0 : W0.heap[w.heap.size]? = some (.cells #[.bool na, .string sa] 42) := by rw [hW0]; repeat (first | (refine alloc_last _ _ ?_; simp only [World.size_alloc]; done) | (rw [Below.heap_alloc]; rotate_left; (simp only [World.size_alloc]; omega)))
  have g1 : W0.heap[w.heap.size + 1]? = some (.cells #[.bool nb, .string sb] 42) := by rw [hW0]; repeat (first | (refine alloc_last _ _ ?_; simp only [World.size_alloc]; done) | (rw [Below.heap_alloc]; rotate_left; (simp only [World.size_alloc]; omega)))
  have g2 : W0.heap[w.heap.size + 1 + 1]? = some (.cells #[.bool false, .string ⟨#[]⟩] 42) := by rw [hW0]; repeat (first | (refine alloc_last _ _ ?_; simp only [World.size_alloc]; done) | (rw [Below.heap_alloc]; rotate_left; (simp only [World.size_alloc]; omega)))
  have hb0 : Below w.heap.size w W0 := by rw [hW0]; exact ((((Below.refl _ w).alloc (Nat.le_refl _) _).alloc (by simp) _).alloc (by simp; omega) _)
  have HB0 := Lib.hid hb0
  have HG0 := Lib.hid g0
  have HG1 := Lib.hid g1
  have HG2 := Lib.hid g2
  obtain ⟨c00, c01, f0⟩ := wide_cells g0
  obtain ⟨c10, c11, f1⟩ := wide_cells g1
  have HW0 := Lib.hid hW0
  clear hb0 g0 g1 g2 hW0
  go_enter Try.func87, Try.ntmps87
  go_upto_region 1 with (fail)
  rw [← HW0.out]
  go_wp2_with fail
  obtain ⟨ok, hok⟩ : ∃ ok, ok = (validB na sa && validB nb sb) := ⟨_, rfl⟩
  have hval := valid2_any na sa nb sb hsa hsb (W0.alloc (.cells #[.bool na, .string sa, .bool nb, .string sb] 42)) W0.heap.size (heap_alloc_new W0 _)
  rw [← hok] at hval
  have HOK := Lib.hid hok
  clear hok
  (with_reducible refine hval.mono ?_)
  clear hval
  rintro e w1 ⟨rfl, hb1⟩
  have hb01 : Below W0.heap.size W0 w1 := ((Below.refl _ W0).alloc (Nat.le_refl _) _).trans (hb1.mono (by simp))
  have k0 := (hb01.block _ (lt_of_heap HG0.out)).trans HG0.out
  have k1 := (hb01.block _ (lt_of_heap HG1.out)).trans HG1.out
  have k2 := (hb01.block _ (lt_of_heap HG2.out)).trans HG2.out
  have HK2 := Lib.hid k2
  have HBw1 := Lib.hid (HB0.out.trans (hb01.mono HB0.out.size))
  clear c00 c01 f0 c10 c11 f1 hb1
  obtain ⟨c00, c01, f0⟩ := wide_cells k0
  obtain ⟨c10, c11, f1⟩ := wide_cells k1
  obtain ⟨e20, e21, f2⟩ := wide_cells k2
  have hl0 := lt_of_heap k0
  have hl1 := lt_of_heap k1
  have hl2 := lt_of_heap k2
  clear k0 k1 k2 hb01
  cases ok with
  | false =>
    have hres : Hid (opF (fun a b => a * b) na sa nb sb = (emptyW, 2)) := by show _ = _; unfold opF; rw [← HOK.out]; rfl
    go_wp2
    have m2 := wide_set HK2.out false ⟨#[]⟩
    have hb9 := below_set2 (p := w.heap.size + 1 + 1) HBw1.out (by omega) false ⟨#[]⟩
    obtain ⟨d20, d21, -⟩ := wide_cells m2
    clear m2 e20 e21 f2
    generalize (w1.setCell ⟨w.heap.size + 1 + 1, 0, none⟩ (.bool false)).setCell ⟨w.heap.size + 1 + 1, 1, none⟩ (.string ⟨#[]⟩) = W9 at d20 d21 hb9 ⊢
    rw [HP.out]
    exact bodyPost_ret (v := .tuple #[emptyW, .int .i64 2]) (by simp [results, Try.results87, go_sem, d20, d21]; rfl) rfl ⟨by rw [hres.out], hb9⟩
  | true =>
    have hv : validB na sa = true ∧ validB nb sb = true := by
      have := HOK.out
      cases h1 : validB na sa <;> cases h2 : validB nb sb <;> rw [h1, h2] at this <;> first | exact ⟨rfl, rfl⟩ | cases this
    obtain ⟨l1, -, -, s256a⟩ := valid_spec na sa hv.1
    obtain ⟨l2, -, -, s256b⟩ := valid_spec nb sb hv.2
    have hofA : Hid (∀ W : World, Calls Try.prog 106 #[.agg #[.bool na, .string sa]] W (NumRet W (numB sa))) := of_wide na sa (by omega)
    have hofB : Hid (∀ W : World, Calls Try.prog 106 #[.agg #[.bool nb, .string sb]] W (NumRet W (numB sb))) := of_wide nb sb (by omega)
    have hwa := wd_len65 l1
    have hwb := wd_len65 l2
    have hres : opF (fun a b => a * b) na sa nb sb = (outZ ((fun a b => a * b) (zV na sa) (zV nb sb)), errZ ((fun a b => a * b) (zV na sa) (zV nb sb))) := by unfold opF; rw [← HOK.out]; rfl
    unfold zV at hres
    obtain ⟨A, hA⟩ : ∃ A, A = numB sa := ⟨_, rfl⟩
    obtain ⟨C, hC⟩ : ∃ C, C = numB sb := ⟨_, rfl⟩
    rw [← hA, ← hC] at hres
    rw [← hA] at hofA hwa
    rw [← hC] at hofB hwb
    have HSUM : Hid (∀ (va vb : Value) (W : World), World.numR W va A → World.numR W vb C → Calls Try.prog 105 #[va, vb] W fun e w' => (∃ v, e = .returned v ∧ World.numR w' v (A * C)) ∧ Below W.heap.size W w') := fun va vb W h1 h2 => times_num A C va vb W h1 h2 (by omega)
    obtain ⟨S, hS⟩ : ∃ S, S = (na != nb) := ⟨_, rfl⟩
    obtain ⟨M, hMM⟩ : ∃ M, M = A * C := ⟨_, rfl⟩
    have hML : (wd M).length ≤ 128 := by rw [hMM]; exact wd_len_prod hwa hwb
    rw [show (fun a b => a * b) (zOf na A) (zOf nb C) = zOf S M by rw [hS, hMM]; exact (mul_z A na C nb).symm] at hres
    rw [← hMM] at HSUM
    have hff : ∃ fb ft, outZ (zOf S M) = .agg #[.bool fb, .string ft] ∧ ∀ (v : Value) (W : World) (S' : Bool), World.numR W v M → S' = S → Calls Try.prog 102 #[v, .bool S'] W fun e w' => e = .returned (.tuple #[.agg #[.bool fb, .string ft], .int .i64 (errZ (zOf S M))]) ∧ Below W.heap.size W w' := by
      have hwide : ∃ b t, outB S M = .agg #[.bool b, .string t] := by unfold outB emptyW wideV; split <;> exact ⟨_, _, rfl⟩
      obtain ⟨b, t, hbt⟩ := hwide
      refine ⟨b, t, by rw [← outB_z]; exact hbt, fun v W S' h hS => ?_⟩
      subst hS
      obtain ⟨b', t', h1, h2⟩ := form_numZ M S' v W h (by omega)
      rw [← outB_z, hbt] at h1
      rwa [← h1] at h2
    obtain ⟨fb, ft, hf1, hf2⟩ := hff
    obtain ⟨E, hE⟩ : ∃ E, E = errZ (zOf S M) := ⟨_, rfl⟩
    rw [hf1, ← hE] at hres
    rw [← hE] at hf2
    have HFF := Lib.hid hf2
    have HRES := Lib.hid hres
    skip
    clear hres hf1 hf2 hE hA hC l1 l2 hwa hwb hv hML hMM
    go_wp2_with fail
    go_region_held3 (fun w' => (w'.cell? ⟨w.heap.size, 0, none⟩ = some (.bool na) ∧ w'.cell? ⟨w.heap.size, 1, none⟩ = some (.string sa) ∧ w'.cell? ⟨w.heap.size + 1, 0, none⟩ = some (.bool nb) ∧ w'.cell? ⟨w.heap.size + 1, 1, none⟩ = some (.string sb)))
      (first | exact ⟨c00, c01, c10, c11⟩ | (refine ⟨?_, ?_, ?_, ?_⟩ <;> assumption) | exact ⟨(World.cell?_of_block (a := ⟨w.heap.size, 0, none⟩) (wide_other (p := w.heap.size) (q := w.heap.size + 1 + 1) (by omega) fb ft)).trans q0, (World.cell?_of_block (a := ⟨w.heap.size, 1, none⟩) (wide_other (p := w.heap.size) (q := w.heap.size + 1 + 1) (by omega) fb ft)).trans q1, (World.cell?_of_block (a := ⟨w.heap.size + 1, 0, none⟩) (wide_other (p := w.heap.size + 1) (q := w.heap.size + 1 + 1) (by omega) fb ft)).trans q2, (World.cell?_of_block (a := ⟨w.heap.size + 1, 1, none⟩) (wide_other (p := w.heap.size + 1) (q := w.heap.size + 1 + 1) (by omega) fb ft)).trans q3⟩)
      (first
        | (go_simp; go_at_call 106; (with_reducible refine (hofA.out _).mono ?_); rintro e w5 ⟨v5, rfl, ho5, hb5⟩; have H5 : Hid (NumRet _ A (.returned v5) w5) := ⟨v5, rfl, ho5, hb5⟩; have a0 := (hb5.cell (p := ⟨w.heap.size, 0, none⟩) hl0).trans c00; have a1 := (hb5.cell (p := ⟨w.heap.size, 1, none⟩) hl0).trans c01; have a2 := (hb5.cell (p := ⟨w.heap.size + 1, 0, none⟩) hl1).trans c10; have a3 := (hb5.cell (p := ⟨w.heap.size + 1, 1, none⟩) hl1).trans c11; have ha0 := Nat.lt_of_lt_of_le hl0 hb5.size; have ha1 := Nat.lt_of_lt_of_le hl1 hb5.size;  clear ho5 hb5)
        | (go_simp; go_at_call 106; (with_reducible refine (hofB.out _).mono ?_); rintro e w6 ⟨v6, rfl, ho6, hb6⟩; have H6 : Hid (NumRet _ C (.returned v6) w6) := ⟨v6, rfl, ho6, hb6⟩; have b0 := (hb6.cell (p := ⟨w.heap.size, 0, none⟩) ha0).trans a0; have b1 := (hb6.cell (p := ⟨w.heap.size, 1, none⟩) ha0).trans a1; have b2 := (hb6.cell (p := ⟨w.heap.size + 1, 0, none⟩) ha1).trans a2; have b3 := (hb6.cell (p := ⟨w.heap.size + 1, 1, none⟩) ha1).trans a3; have hb_0 := Nat.lt_of_lt_of_le ha0 hb6.size; have hb_1 := Nat.lt_of_lt_of_le ha1 hb6.size;  clear ho6 hb6)
        | (go_simp; go_at_call 105; (with_reducible refine (HSUM.out _ _ _ (numR_below H5.out.numR H6.out.bel) H6.out.numR).mono ?_); rintro e w7 ⟨⟨v7, rfl, h7⟩, hb7⟩; have H7 : Hid (World.numR w7 v7 M) := h7; have HB7 := Lib.hid hb7; have d0 := (hb7.cell (p := ⟨w.heap.size, 0, none⟩) hb_0).trans b0; have d1 := (hb7.cell (p := ⟨w.heap.size, 1, none⟩) hb_0).trans b1; have d2 := (hb7.cell (p := ⟨w.heap.size + 1, 0, none⟩) hb_1).trans b2; have d3 := (hb7.cell (p := ⟨w.heap.size + 1, 1, none⟩) hb_1).trans b3; have hd_0 := Nat.lt_of_lt_of_le hb_0 hb7.size; have hd_1 := Nat.lt_of_lt_of_le hb_1 hb7.size;  clear h7 hb7)
        | (go_simp; go_at_call 102; (with_reducible refine (HFF.out _ _ _ H7.out ((bne_eq na nb).trans hS.symm)).mono ?_); rintro e w8 ⟨rfl, hb8⟩; have q0 := (hb8.cell (p := ⟨w.heap.size, 0, none⟩) hd_0).trans d0; have q1 := (hb8.cell (p := ⟨w.heap.size, 1, none⟩) hd_0).trans d1; have q2 := (hb8.cell (p := ⟨w.heap.size + 1, 0, none⟩) hd_1).trans d2; have q3 := (hb8.cell (p := ⟨w.heap.size + 1, 1, none⟩) hd_1).trans d3; have hq_0 := Nat.lt_of_lt_of_le hd_0 hb8.size; have hq_1 := Nat.lt_of_lt_of_le hd_1 hb8.size;  have HB8 := Lib.hid (H5.out.belD.trans (((H6.out.bel.trans (HB7.out.mono H6.out.bel.size)).trans (hb8.mono (Nat.le_trans H6.out.bel.size HB7.out.size))).mono H5.out.belD.size)); have K28 := (HB8.out.block _ hl2).trans HK2.out; have HK28 := Lib.hid K28; obtain ⟨e28, e29, f28⟩ := wide_cells K28; clear hb8 K28))
    all_goals
      go_wp2
      have m2 := wide_set HK28.out fb ft
      have hb9 := below_set2 (p := w.heap.size + 1 + 1) (HBw1.out.trans (HB8.out.mono HBw1.out.size)) (by omega) fb ft
      obtain ⟨d20, d21, -⟩ := wide_cells m2
      clear m2
      generalize (w8.setCell ⟨w.heap.size + 1 + 1, 0, none⟩ (.bool fb)).setCell ⟨w.heap.size + 1 + 1, 1, none⟩ (.string ft) = W9 at d20 d21 hb9 ⊢
      rw [HP.out]
      exact bodyPost_ret (v := .tuple #[.agg #[.bool fb, .string ft], .int .i64 E]) (by simp [results, Try.results87, go_sem, d20, d21]) rfl ⟨by rw [HRES.out], hb9⟩
end Go.Proofs.Ytkjlfjnncdkmlaa

/- Drawn regions in which an extraction may come behind the first late store: it may be thought to come ahead of it. -/
namespace Go
open Go.RowKit Go.Shelf
section
variable {P : Program} {ops : Array Oper} {Q : Exit → Act → World → Prop}
def moreAfter (e : Nat) (o : Oper) : Oper := { o with after := o.after.push ⟨e, .data⟩ }
/-- The operations with an edge more: k waits for e. -/
def withEdge (ops : Array Oper) (k e : Nat) : Array Oper := (ops.toList.modify k (moreAfter e)).toArray
theorem withEdge_get (ops : Array Oper) (k e j : Nat) : (withEdge ops k e)[j]? = if k = j then (ops[j]?).map (moreAfter e) else ops[j]? := by
  unfold withEdge
  rw [List.getElem?_toArray, List.getElem?_modify]
  simp only [Array.getElem?_toList]
  split <;> simp
theorem wpOp_withEdge (k e i : Nat) (K : Act → World → Prop) (a : Act) (w : World) : wpOp P (withEdge ops k e) Q i K a w = wpOp P ops Q i K a w := by
  have hy : yielded (withEdge ops k e) a.tmps = yielded ops a.tmps := yielded_congr (fun j => by
    rw [withEdge_get]
    split
    · cases ops[j]? <;> rfl
    · rfl) _
  unfold wpOp
  rw [withEdge_get, hy]
  by_cases hki : k = i
  · rw [if_pos hki]; cases ops[i]? <;> rfl
  · rw [if_neg hki]
def waitsFor (ops : Array Oper) (k j : Nat) : Bool := ((ops[k]?).map fun o => o.after.any fun e => Region.binds .any e && e.on == j).getD false
theorem waitsFor_listed {k j : Nat} {listed : Array Bool} (h : waitsFor ops k j = true) (hr : k ∈ Region.ready .any ops listed) : listed.getD j false = true := by
  obtain ⟨-, o, ho, hall⟩ := mem_ready.1 hr
  unfold waitsFor at h
  simp only [ho, Option.map_some, Option.getD_some] at h
  obtain ⟨e, he, h1⟩ := Array.any_eq_true'.1 h
  simp only [Bool.and_eq_true, beq_iff_eq] at h1
  rw [← h1.2]
  exact hall e he h1.1
def pureE (oe : Oper) : Bool := (match oe.op with | .extract .. => true | _ => false) && oe.guard.isNone
def edgeB (ops : Array Oper) (k e : Nat) : Bool := e != k && Region.noSelect ops && match ops[e]? with
  | none => false
  | some oe => pureE oe && oe.after.all (fun x => !Region.binds .any x || waitsFor ops k x.on) && (List.range ops.size).all fun j => j == e || waitsFor ops k j || waitsFor ops j e || match ops[j]? with
    | some oj => oe.apart ops oj
    | none => true
theorem pure_yields {oe : Oper} {e : Nat} (he : ops[e]? = some oe) (hp : pureE oe = true) {K : Act → World → Prop} {a : Act} {w : World} (h : wpOp P ops Q e K a w) : ∃ v, Yields P ops oe v a ∧ K (a.put oe.dst v) w := by
  unfold pureE at hp
  simp only [Bool.and_eq_true] at hp
  obtain ⟨h1, h2⟩ := hp
  have hw : ∀ y, Region.wanted oe y = true := fun y => by
    unfold Region.wanted
    cases hg : oe.guard with
    | none => rfl
    | some x => rw [hg] at h2; cases h2
  unfold wpOp at h
  simp only [he, hw, if_true] at h
  cases hop : oe.op with
  | extract t ix =>
    have hx : execOp a.eval oe = (do pure (.value (← Instr.extract (a.eval t) ix)) : Sem Next) := by unfold execOp; rw [hop]
    have hbad : ∀ m, execOp a.eval oe = (do pure (.value (← (stuck m : Sem Value))) : Sem Next) → False := fun m hm => by
      rcases h with h | ⟨h, -⟩
      · unfold Oper.wp at h; rw [hm] at h; exact h
      · unfold Oper.asks at h; rw [hm] at h; exact absurd h.1 (by show ¬ noRoomEvent ∈ (#[] : Array Event); simp)
    generalize a.eval t = u at hx
    cases u with
    | tuple vs =>
      cases hv : vs[ix]? with
      | some v =>
        have hm : execOp a.eval oe = (do pure (.value (← (pure v : Sem Value))) : Sem Next) := by rw [hx]; simp only [Instr.extract, hv]
        have hr : ∀ w, (execOp a.eval oe).run P w = .ok (.value v) w := fun w => by rw [hm]; rfl
        refine ⟨v, .inl ⟨hw _, hr⟩, ?_⟩
        rcases h with h | ⟨h, -⟩
        · unfold Oper.wp at h; rw [hr] at h; exact h
        · unfold Oper.asks at h; rw [hm] at h; exact absurd h.1 (by show ¬ noRoomEvent ∈ (#[] : Array Event); simp)
      | none => exact (hbad "Extract: no such component" (by rw [hx]; simp only [Instr.extract, hv])).elim
    | _ => exact (hbad "Extract: tuple expected" (by rw [hx]; rfl)).elim
  | _ => rw [hop] at h1; cases h1
theorem wpAny_edge {k e : Nat} {oe : Oper} (he : ops[e]? = some oe) (hB : edgeB ops k e = true) (hQ : ∀ v c a w, Q (.panic c) (a.put oe.dst v) w → Q (.panic c) a w) :
    ∀ (fuel : Nat) (listed : Array Bool) (a : Act) (w : World), e < listed.size → wpAny P .any (withEdge ops k e) Q fuel listed a w → wpAny P .any ops Q fuel listed a w := by
  unfold edgeB at hB
  rw [he] at hB
  simp only [Bool.and_eq_true, bne_iff_ne, ne_eq, List.all_eq_true, List.mem_range, Array.all_eq_true_iff_forall_mem, Bool.or_eq_true, Bool.not_eq_true', beq_iff_eq] at hB
  obtain ⟨⟨hek, hs⟩, ⟨hp, hin⟩, hfree⟩ := hB
  have hsub : ∀ listed j, j ∈ Region.ready .any (withEdge ops k e) listed → j ∈ Region.ready .any ops listed := fun listed j hj => by
    obtain ⟨h1, o, ho, h2⟩ := mem_ready.1 hj
    rw [withEdge_get] at ho
    split at ho
    · cases hoj : ops[j]? with
      | none => rw [hoj] at ho; cases ho
      | some o' =>
        rw [hoj] at ho
        injection ho with ho
        subst ho
        exact mem_ready.2 ⟨h1, o', hoj, fun x hx hb => h2 x (Array.mem_push_of_mem _ hx) hb⟩
    · exact mem_ready.2 ⟨h1, o, ho, h2⟩
  have hsup : ∀ listed j, j ∈ Region.ready .any ops listed → (j = k → listed.getD e false = true) → j ∈ Region.ready .any (withEdge ops k e) listed := fun listed j hj hk => by
    obtain ⟨h1, o, ho, h2⟩ := mem_ready.1 hj
    by_cases hjk : k = j
    · refine mem_ready.2 ⟨h1, moreAfter e o, by rw [withEdge_get, if_pos hjk, ho]; rfl, fun x hx hb => ?_⟩
      rcases Array.mem_push.1 hx with hx | hx
      · exact h2 x hx hb
      · subst hx; exact hk hjk.symm
    · exact mem_ready.2 ⟨h1, o, by rw [withEdge_get, if_neg hjk]; exact ho, h2⟩
  have hre : ∀ listed, k ∈ Region.ready .any ops listed → listed.getD e true = false → e ∈ Region.ready .any ops listed := fun listed hk hl =>
    mem_ready.2 ⟨hl, oe, he, fun x hx hb => by
      rcases hin x hx with h | h
      · rw [h] at hb; cases hb
      · exact waitsFor_listed h hk⟩
  have hcase : ∀ listed : Array Bool, e < listed.size → (k ∈ Region.ready .any ops listed ∧ listed.getD e true = false) ∨ (∀ j, j ∈ Region.ready .any ops listed → j ∈ Region.ready .any (withEdge ops k e) listed) := fun listed hsz => by
    by_cases hk : k ∈ Region.ready .any ops listed
    · cases hl : listed.getD e true with
      | false => exact .inl ⟨hk, rfl⟩
      | true =>
        refine .inr fun j hj => hsup listed j hj fun _ => ?_
        simpa [hsz] using hl
    · exact .inr fun j hj => hsup listed j hj fun h => absurd (h ▸ hj) hk
  intro fuel
  induction fuel with
  | zero =>
    intro listed a w hsz H
    refine ⟨?_, H.2⟩
    rcases hcase listed hsz with ⟨hk, hl⟩ | h
    · have := hsup listed e (hre listed hk hl) (fun h => absurd h hek)
      rw [H.1] at this; cases this
    · refine List.eq_nil_iff_forall_not_mem.2 fun j hj => ?_
      have := h j hj
      rw [H.1] at this; cases this
  | succ fuel ih =>
    intro listed a w hsz H
    rcases hcase listed hsz with ⟨hk, hl⟩ | h
    · have her := hre listed hk hl
      have h1 := H.2 e (hsup listed e her (fun h => absurd h hek))
      rw [wpOp_withEdge] at h1
      obtain ⟨v, hy, h2⟩ := pure_yields he hp h1
      refine wpAny_first he (Region.noSelect_spec hs) (hQ v) fuel listed a w (fun j oj hj hje hun hno => ?_) her hy (ih _ _ _ (by simpa using hsz) h2)
      have := hfree j (Array.getElem?_eq_some_iff.1 hj).1
      rcases this with ((h | h) | h) | h
      · exact absurd h hje
      · have := waitsFor_listed h hk
        exact (unlisted_not hun this).elim
      · unfold waitsFor at h
        simp only [hj, Option.map_some, Option.getD_some] at h
        obtain ⟨x, hx, h1⟩ := Array.any_eq_true'.1 h
        simp only [Bool.and_eq_true, beq_iff_eq] at h1
        exact absurd h1.2 (hno x hx h1.1)
      · rw [hj] at h; exact h
    · refine ⟨fun h0 => H.1 ?_, fun j hj => ?_⟩
      · refine List.eq_nil_iff_forall_not_mem.2 fun j hj => ?_
        have := hsub listed j hj
        rw [h0] at this; cases this
      · have h1 := H.2 j (h j hj)
        rw [wpOp_withEdge] at h1
        exact wpOp_mono (fun a' w' => ih _ a' w' (by simpa using hsz)) h1
/-- A drawn region, with an edge more. -/
theorem wp_region_AE {id : Nat} {a : Act} {w : World} (k e : Nat) {oe : Oper} (B : Nat) (S F : World → Prop) (late : Nat → Bool) (hm : P.follows .mixedOrders = true) (he : ops.toList[e]? = some oe) (hB : edgeB ops k e = true)
    (hQ : ∀ v c a w, Q (.panic c) (a.put oe.dst v) w → Q (.panic c) a w) (hw : waitsA (withEdge ops k e) late = true) (hF : Fact B S F) (hFw : F w.drew)
    (h : Fact B S F → wpAnyA P (withEdge ops k e) Q B S late (fun fuel listed a w => wpAny P .any (withEdge ops k e) Q fuel listed a w) ops.size (Array.replicate ops.size false) a F) : (Code.region id ops true).wp P Q a w := by
  have he' : ops[e]? = some oe := by simpa using he
  exact wp_region_any hm (wpAny_edge he' hB hQ _ _ _ _ (by rw [Array.size_replicate]; exact (Array.getElem?_eq_some_iff.1 he').1) (wpAny_of_A (waitsA_spec hw) _ _ _ F _ (h hF) hFw))
end
end Go

/- Wide integers: helpers and walks, in one text (XG1 XG2 XG3). -/
/- The reference: an absolute value divided by a number below 2^16. -/

/- The reference: the decimal text of a form. -/

/- The reference: the integer of a text. -/

/- Wide integers: helpers and walks, in one text (XC1 XC2 XC3 XC4). -/
/- How many binary digits a form has. -/

/- The reference: two numbers with signs compared; the number of binary digits of a form, both. -/

/- Binary digits, comparisons: both. -/

/- Comparisons, negatives, absolute values and maxima: both. -/
namespace Go.Proofs.Ytkjlfjnncdkmlaa
set_option linter.all false
open Go.RowKit Go.Shelf Go.WideNum
def maxF (na : Bool) (sa : ByteArray) (nb : Bool) (sb : ByteArray) : Bool × ByteArray × Int := match cmpF na sa nb sb with
  | (c, E) => if E = 0 then (if c < 0 then (nb, sb, 0) else (na, sa, 0)) else (false, ⟨#[]⟩, E)
theorem Cmp_res (na : Bool) (sa : ByteArray) (nb : Bool) (sb : ByteArray) (hsa : sa.size ≤ maxLen) (hsb : sb.size ≤ maxLen) (R E : Int) (h : cmpF na sa nb sb = (R, E)) (w : World) :
    Calls Try.prog 95 #[.agg #[.bool na, .string sa], .agg #[.bool nb, .string sb]] w fun e w' => e = .returned (.tuple #[.int .i64 R, .int .i64 E]) ∧ Below w.heap.size w w' := by
  have := Cmp_any na sa nb sb hsa hsb w
  rwa [h] at this
set_option maxRecDepth 100000 in
set_option maxHeartbeats 8000000 in
theorem Max_any (na : Bool) (sa : ByteArray) (nb : Bool) (sb : ByteArray) (hsa : sa.size ≤ maxLen) (hsb : sb.size ≤ maxLen) (w : World) :
    Calls Try.prog 74 #[.agg #[.bool na, .string sa], .agg #[.bool nb, .string sb]] w fun e w' => e = .returned (.tuple #[.agg #[.bool (maxF na sa nb sb).1, .string (maxF na sa nb sb).2.1], .int .i64 (maxF na sa nb sb).2.2]) ∧ Below w.heap.size w w' := by
  obtain ⟨HPOST, hpost⟩ : ∃ X : Ending → World → Prop, X = fun e w' => e = .returned (.tuple #[.agg #[.bool (maxF na sa nb sb).1, .string (maxF na sa nb sb).2.1], .int .i64 (maxF na sa nb sb).2.2]) ∧ Below w.heap.size w w' := ⟨_, rfl⟩
  rw [← hpost]
  have HP := Lib.hid hpost
  clear hpost
  obtain ⟨c, E, hc⟩ : ∃ c E, cmpF na sa nb sb = (c, E) := ⟨_, _, rfl⟩
  have HC := Lib.hid (Cmp_res na sa nb sb hsa hsb c E hc)
  have HH0 : Hid (maxF na sa nb sb = if E = 0 then (if c < 0 then (nb, sb, 0) else (na, sa, 0)) else (false, ⟨#[]⟩, E)) := by show _ = _; unfold maxF; rw [hc]
  have hE : E = 0 ∨ E = 2 := by
    unfold cmpF at hc
    split at hc <;> (injection hc with _ h2; omega)
  clear hc
  obtain ⟨W0, hW0⟩ : ∃ W0, W0 = ((w.alloc (.cells #[.bool na, .string sa] 42)).alloc (.cells #[.bool nb, .string sb] 42)).alloc (.cells #[.bool false, .string ⟨#[]⟩] 42) := ⟨_, rfl⟩
  have g0 : W0.heap[w.heap.size]? = some (.cells #[.bool na, .string sa] 42) := by rw [hW0, Below.heap_alloc _ _ _ (by simp; omega), Below.heap_alloc _ _ _ (by simp)]; exact heap_alloc_new w _
  have g1 : W0.heap[w.heap.size + 1]? = some (.cells #[.bool nb, .string sb] 42) := by rw [hW0, Below.heap_alloc _ _ _ (by simp)]; exact alloc_last _ _ (by simp)
  have g2 : W0.heap[w.heap.size + 1 + 1]? = some (.cells #[.bool false, .string ⟨#[]⟩] 42) := by rw [hW0]; exact alloc_last _ _ (by simp)
  have hb0 : Below w.heap.size w W0 := by rw [hW0]; exact ((((Below.refl _ w).alloc (Nat.le_refl _) _).alloc (by simp) _).alloc (by simp; omega) _)
  have HB0 := Lib.hid hb0
  have HG0 := Lib.hid g0
  have HG1 := Lib.hid g1
  have HG2 := Lib.hid g2
  have HW0 := Lib.hid hW0
  obtain ⟨c00, c01, f0⟩ := wide_cells g0
  obtain ⟨c10, c11, f1⟩ := wide_cells g1
  clear hb0 g0 g1 g2 hW0
  go_enter Try.func74, Try.ntmps74
  go_upto_region 1 with (fail)
  rw [← HW0.out]
  go_wp2_with fail
  (with_reducible refine (HC.out _).mono ?_)
  rintro e w1 ⟨rfl, hb1⟩
  have HK0 := Lib.hid (wide_hold (w := W0) HG0.out hb1)
  have HK1 := Lib.hid (wide_hold (w := W0) HG1.out hb1)
  have HK2 := Lib.hid (wide_hold (w := W0) HG2.out hb1)
  have HB1 := Lib.hid (HB0.out.trans (hb1.mono HB0.out.size))
  clear c00 c01 f0 c10 c11 f1 hb1
  obtain ⟨c00, c01, -⟩ := wide_cells HK0.out
  obtain ⟨c10, c11, -⟩ := wide_cells HK1.out
  obtain ⟨d0, d1, f2⟩ := wide_cells HK2.out
  rcases hE with rfl | rfl
  · by_cases hlt : c < 0
    · have HH : Hid (maxF na sa nb sb = (nb, sb, 0)) := by show _ = _; rw [HH0.out, if_pos rfl, if_pos hlt]
      clear HH0
      go_wp2
      have m2 := wide_set HK2.out nb sb
      have hb9 := below_set2 (p := w.heap.size + 1 + 1) HB1.out (by omega) nb sb
      clear d0 d1 f2
      obtain ⟨d20, d21, -⟩ := wide_cells m2
      clear m2
      generalize (w1.setCell ⟨w.heap.size + 1 + 1, 0, none⟩ (.bool nb)).setCell ⟨w.heap.size + 1 + 1, 1, none⟩ (.string sb) = W9 at d20 d21 hb9 ⊢
      rw [HP.out]
      exact bodyPost_ret (v := .tuple #[.agg #[.bool nb, .string sb], .int .i64 0]) (by simp [results, Try.results74, go_sem, d20, d21]) rfl ⟨by rw [HH.out], hb9⟩
    · have HH : Hid (maxF na sa nb sb = (na, sa, 0)) := by show _ = _; rw [HH0.out, if_pos rfl, if_neg hlt]
      clear HH0
      go_wp2
      have m2 := wide_set HK2.out na sa
      have hb9 := below_set2 (p := w.heap.size + 1 + 1) HB1.out (by omega) na sa
      clear d0 d1 f2
      obtain ⟨d20, d21, -⟩ := wide_cells m2
      clear m2
      generalize (w1.setCell ⟨w.heap.size + 1 + 1, 0, none⟩ (.bool na)).setCell ⟨w.heap.size + 1 + 1, 1, none⟩ (.string sa) = W9 at d20 d21 hb9 ⊢
      rw [HP.out]
      exact bodyPost_ret (v := .tuple #[.agg #[.bool na, .string sa], .int .i64 0]) (by simp [results, Try.results74, go_sem, d20, d21]) rfl ⟨by rw [HH.out], hb9⟩
  · have HH : Hid (maxF na sa nb sb = (false, ⟨#[]⟩, 2)) := by show _ = _; rw [HH0.out, if_neg (by decide)]
    clear HH0
    go_wp2
    have m2 := wide_set HK2.out false ⟨#[]⟩
    have hb9 := below_set2 (p := w.heap.size + 1 + 1) HB1.out (by omega) false ⟨#[]⟩
    clear d0 d1 f2
    obtain ⟨d20, d21, -⟩ := wide_cells m2
    clear m2
    generalize (w1.setCell ⟨w.heap.size + 1 + 1, 0, none⟩ (.bool false)).setCell ⟨w.heap.size + 1 + 1, 1, none⟩ (.string ⟨#[]⟩) = W9 at d20 d21 hb9 ⊢
    rw [HP.out]
    exact bodyPost_ret (v := .tuple #[.agg #[.bool false, .string ⟨#[]⟩], .int .i64 2]) (by simp [results, Try.results74, go_sem, d20, d21]) rfl ⟨by rw [HH.out], hb9⟩
end Go.Proofs.Ytkjlfjnncdkmlaa

/- The reference: an absolute value times 2. -/

/- The reference: quotient and rest of absolute values, bit by bit. -/

/- The reference: quotient and rest with signs, the rest from zero on. -/
namespace Go.Proofs.Ytkjlfjnncdkmlaa
set_option linter.all false
open Go.RowKit Go.Shelf Go.WideNum
theorem hold {w w' : World} {g : Nat} {o : Obj} (h : w.heap[g]? = some o) (hb : Below w.heap.size w w') : w'.heap[g]? = some o := (hb.block _ (lt_of_heap h)).trans h
end Go.Proofs.Ytkjlfjnncdkmlaa

/- The reference: division of forms. -/

/- The reference: the balanced remainder. -/

/- The reference: the quotient to the nearest. -/

/- Walks: the quotient to the nearest. -/
namespace Go.Proofs.Ytkjlfjnncdkmlaa
set_option linter.all false
open Go.RowKit Go.Shelf Go.WideNum
/-- What the general division does, for all numbers. -/
def DivAll : Prop := ∀ A C : Nat, C ≠ 0 → (wd A).length ≤ 200 → (wd C).length ≤ 200 → DivOK A C
end Go.Proofs.Ytkjlfjnncdkmlaa

/- Both programs: the rest by a word. -/

/- The reference: sums, differences and products of forms. -/

/- Wide integers: helpers and walks, in one text (XF2 XF3). -/
/- Walks: the integer of 64 bits of a form: the reference's. -/

/- Walks: the form of an integer of 64 bits: the reference's. -/
namespace Go.Proofs.Ytkjlfjnncdkmlaa
set_option linter.all false
open Go.RowKit Go.Shelf Go.WideNum
set_option maxRecDepth 100000 in
set_option maxHeartbeats 8000000 in
theorem refOf_any (n : Int) (h1 : -9223372036854775808 ≤ n) (h2 : n < 9223372036854775808) (fb : Bool) (ft : ByteArray) (hout : outZ n = .agg #[.bool fb, .string ft]) (w : World) :
    Calls Try.prog 16 #[.int .i64 n] w fun e w' => e = .returned (.agg #[.bool fb, .string ft]) ∧ Below w.heap.size w w' := by
  obtain ⟨HPOST, hpost⟩ : ∃ X : Ending → World → Prop, X = fun e w' => e = .returned (.agg #[.bool fb, .string ft]) ∧ Below w.heap.size w w' := ⟨_, rfl⟩
  rw [← hpost]
  have HP := Lib.hid hpost
  clear hpost
  obtain ⟨m, hm⟩ : ∃ m, m = n.natAbs := ⟨_, rfl⟩
  obtain ⟨sg, hsg⟩ : ∃ b, b = decide (n < 0) := ⟨_, rfl⟩
  have hzo : zOf sg m = n := by
    rw [hsg, hm]; unfold zOf
    by_cases h : n < 0
    · simp [h]; omega
    · simp [h]; omega
  have hm64 : m < 18446744073709551616 := by omega
  have hml : (hw m).length ≤ 4 := hw_len_le (by omega)
  have HOUT : Hid (∀ v W, World.numH W v m → Calls Try.prog 53 #[.agg #[.bool sg, v]] W fun e w' => e = .returned (.tuple #[.agg #[.bool fb, .string ft], .int .i64 (errZ n)]) ∧ Below W.heap.size W w') := fun v W h => hout_num sg m (by omega) fb ft (errZ n) (by rw [hzo]; exact hout) (by rw [hzo]) v W h
  obtain ⟨EE, hEE⟩ : ∃ EE, EE = errZ n := ⟨_, rfl⟩
  rw [← hEE] at HOUT
  have HML := Lib.hid hml
  have hcase : (n < 0 ∧ sg = true ∧ IntKind.u64.wrap (-(IntKind.u64.wrap n)) = (m : Int)) ∨ (¬ n < 0 ∧ sg = false ∧ IntKind.u64.wrap n = (m : Int)) := by
    by_cases h : n < 0
    · left
      refine ⟨h, by rw [hsg, decide_eq_true h], ?_⟩
      rw [IntKind.wrap_u64, IntKind.wrap_u64]; omega
    · right
      refine ⟨h, by rw [hsg, decide_eq_false h], ?_⟩
      rw [IntKind.wrap_u64]; omega
  have HCASE := Lib.hid hcase
  clear hcase hsg hzo hout hEE hml
  obtain ⟨W0, hW0⟩ : ∃ W0, W0 = (w.alloc (.cells #[.bool false, .string ⟨#[]⟩] 42)).alloc (.cells #[.bool sg, .slice none 0 0] 77) := ⟨_, rfl⟩
  have g0 : W0.heap[w.heap.size]? = some (.cells #[.bool false, .string ⟨#[]⟩] 42) := by rw [hW0, Below.heap_alloc _ _ _ (by simp)]; exact heap_alloc_new w _
  have g1 : W0.heap[w.heap.size + 1]? = some (.cells #[.bool sg, .slice none 0 0] 77) := by rw [hW0]; exact alloc_last _ _ (by simp)
  have hb0 : Below w.heap.size w W0 := by rw [hW0]; exact (((Below.refl _ w).alloc (Nat.le_refl _) _).alloc (by simp) _)
  have hz0 : W0.heap.size = w.heap.size + 1 + 1 := by rw [hW0]; simp
  have HB0 := Lib.hid hb0
  have HG0 := Lib.hid g0
  have HG1 := Lib.hid g1
  have HZ0 := Lib.hid hz0
  have HW0 := Lib.hid hW0
  clear hb0 g0 g1 hz0 hW0
  go_enter Try.func16, Try.ntmps16
  go_upto_if 13 with (fail)
  go_cut [4] (fun nv wx => nv = .int .u64 (m : Int) ∧ wx = W0)
  case first =>
    rcases HCASE.out with ⟨hn, hsg, hu⟩ | ⟨hn, hsg, hu⟩
    · have hd : decide (n < 0) = true := decide_eq_true hn
      subst hsg
      clear hm
      go_wp2
      go_meet
      case rel => exact ⟨by first | rfl | rw [hu], HW0.out.symm⟩
    · have hd : decide (n < 0) = false := decide_eq_false hn
      subst hsg
      clear hm
      go_wp2
      go_meet
      case rel => exact ⟨by first | rfl | rw [hu], HW0.out.symm⟩
  case rest =>
    obtain ⟨rfl, rfl⟩ := hcut
    obtain ⟨M, hM⟩ : ∃ M, M = (hw m).length := ⟨_, rfl⟩
    have HM := Lib.hid hM
    have hM4 : M ≤ 4 := by rw [hM]; exact HML.out
    clear hm hM HCASE
    go_wp2_with fail
    go_loopw [4] (fun nv wr => ∃ (k : Nat) (xa : Option Addr) (xc : Nat), k ≤ M ∧ nv = .int .u64 ((m / 65536 ^ k : Nat) : Int) ∧ Hid (wr.heap[w.heap.size]? = some (.cells #[.bool false, .string ⟨#[]⟩] 42)) ∧ Hid (wr.heap[w.heap.size + 1]? = some (.cells #[.bool sg, .slice xa k xc] 77)) ∧ Hid (wr.owns (w.heap.size + 1 + 1) 22 1 (.slice xa k xc) k (((List.range k).map (dig 65536 m)).map u32V)) ∧ Hid (Below w.heap.size w wr) ∧ w.heap.size + 1 + 1 ≤ wr.heap.size) (fun nv _ => (intOf nv).toNat)
    case atStart => exact ⟨0, none, 0, Nat.zero_le _, by rw [Nat.pow_zero, Nat.div_one], HG0.out, HG1.out, owns_nil _ _ _, HB0.out, by rw [HZ0.out]; exact Nat.le_refl _⟩
    case round =>
      obtain ⟨k, xa, xc, hk, rfl, hG0, hG1, hO, hB, hz⟩ := hrel
      obtain ⟨c10, c11, f10, f11⟩ := num_cells hG1.out
      by_cases hlt : k < M
      · have hst := div_pow_succ 65536 m k
        have hdl := hw_dig m k
        have hge : 65536 ^ k ≤ m := hw_len_ge (by rw [← HM.out]; exact hlt)
        have hpos : 0 < m / 65536 ^ k := Nat.div_pos hge (Nat.pow_pos (by omega))
        have hle := Nat.div_le_self m (65536 ^ k)
        obtain ⟨r, er⟩ : ∃ r, r = m / 65536 ^ k := ⟨_, rfl⟩
        obtain ⟨z, ez⟩ : ∃ r, r = dig 65536 m k := ⟨_, rfl⟩
        obtain ⟨q, eq⟩ : ∃ r, r = m / 65536 ^ (k + 1) := ⟨_, rfl⟩
        rw [← er, ← ez, ← eq] at hst
        rw [← er] at hpos hle
        rw [← ez] at hdl
        rw [← er]
        have EZ := Lib.hid ez
        have EQ := Lib.hid eq
        have t0 : (0 : Int) < (r : Int) := by omega
        have t1 : (r : Int) % 65536 = (z : Int) := by omega
        have t2 : (z : Int) % 4294967296 = (z : Int) := by omega
        have t3 : (r : Int) / 65536 = (q : Int) := by omega
        have HRQ : Hid (q < r) := by show q < r; omega
        have hr64 : r < 18446744073709551616 := by omega
        clear er ez eq hst hge hpos
        go_wp2_with (at_builtin; refine app_u32 wr 23 Try.underlying23 rfl (.tmp 19) (.tmp 23) rfl (w.heap.size + 1 + 1) (.slice xa k xc) k _ rfl hO.out (z : Int) wr.heap.size rfl rfl (by omega) hz ?_; intro v5 w5 hown5 hg5 hz5; have HO5 := Lib.hid hown5; obtain ⟨g5, q5, rfl⟩ := hown5.succ; have hb5 := below_grown hO.out hg5 (w.heap.size + 1 + 1) (Nat.le_refl _) hz; have HB5 := Lib.hid hb5; have K0 := Lib.hid ((hb5.block _ (by omega)).trans hG0.out); have hk1 := (hb5.block _ (by omega)).trans hG1.out; have K1 := Lib.hid hk1; obtain ⟨e10, e11, i10, i11⟩ := num_cells hk1; clear hown5 hg5 hb5 hk1)
        go_roundw
        case rel =>
          refine ⟨k + 1, some ⟨g5, 0, none⟩, q5, by omega, by first | (rw [← EQ.out]; done) | (rw [t3, ← EQ.out]), ?_, ?_, ?_, ?_, ?_⟩
          · show _ = _; rw [cell_other (by omega)]; exact K0.out
          · show _ = _; exact num_set1 K1.out _
          · show World.owns _ _ _ _ _ _ _
            refine World.owns.setCell ?_ (by simp) _
            rw [List.range_succ, List.map_append, List.map_append]
            show w5.owns _ _ _ _ _ (_ ++ [u32V (dig 65536 m k)])
            rw [← EZ.out]
            exact HO5.out
          · show Below _ _ _
            exact (hB.out.trans (HB5.out.mono (by omega))).setCell (by simp) _
          · simp; omega
        case measure =>
          have := HRQ.out
          first | (simp [intOf, t3]; done) | (simp [intOf, t3]; omega) | (simp [intOf]; omega)
      · obtain rfl : k = M := by omega
        have h0 : m / 65536 ^ k = 0 := Nat.div_eq_of_lt (by rw [HM.out]; exact hw_vlt m)
        rw [h0]
        have hnum : World.numH wr (.slice xa k xc) m := rawH_num hO.out.reads HM.out
        have t0 : ¬ (0 : Int) < ((0 : Nat) : Int) := by omega
        have HNUM := Lib.hid hnum
        clear h0 hnum
        go_wp2_with fail
        (with_reducible refine (HOUT.out _ _ HNUM.out).mono ?_)
        rintro e w6 ⟨rfl, hb6⟩
        have hg6 := wide_hold (w := wr) hG0.out hb6
        have HB6 := Lib.hid (hB.out.trans (hb6.mono hB.out.size))
        have hz6 := hb6.size
        have ha6 : (w6.alloc (.cells #[.bool fb, .string ft] 42)).heap[w.heap.size]? = some (.cells #[.bool false, .string ⟨#[]⟩] 42) := by rw [Below.heap_alloc _ _ _ (by omega)]; exact hg6
        have ha7 : (w6.alloc (.cells #[.bool fb, .string ft] 42)).heap[w6.heap.size]? = some (.cells #[.bool fb, .string ft] 42) := heap_alloc_new w6 _
        have hb7 : Below w.heap.size w (w6.alloc (.cells #[.bool fb, .string ft] 42)) := HB6.out.alloc HB6.out.size _
        clear c10 c11 f10 f11 hb6
        obtain ⟨d0, d1, fd⟩ := wide_cells ha6
        obtain ⟨i0, i1, -⟩ := wide_cells ha7
        have HA6 := Lib.hid ha6
        have HB7 := Lib.hid hb7
        clear ha6 ha7 hb7 hg6
        go_wp2
        have m2 := wide_set HA6.out fb ft
        have hb9 : Below w.heap.size w (((w6.alloc (.cells #[.bool fb, .string ft] 42)).setCell ⟨w.heap.size, 0, none⟩ (.bool fb)).setCell ⟨w.heap.size, 1, none⟩ (.string ft)) := (HB7.out.setCell (by simp) _).setCell (by simp) _
        clear d0 d1 fd i0 i1
        obtain ⟨d20, d21, -⟩ := wide_cells m2
        clear m2
        generalize ((w6.alloc (.cells #[.bool fb, .string ft] 42)).setCell ⟨w.heap.size, 0, none⟩ (.bool fb)).setCell ⟨w.heap.size, 1, none⟩ (.string ft) = W9 at d20 d21 hb9 ⊢
        rw [HP.out]
        exact bodyPost_ret (v := .agg #[.bool fb, .string ft]) (by simp [results, Try.results16, go_sem, d20, d21]) rfl ⟨rfl, hb9⟩
end Go.Proofs.Ytkjlfjnncdkmlaa

/- Walks: integers of many words, by value: calls whose results lie in range. -/
namespace Go.Proofs.Ytkjlfjnncdkmlaa
set_option linter.all false
open Go.RowKit Go.Shelf Go.WideNum
theorem div_all : DivAll := fun A C hC hla hlc => by
  by_cases hs : A < C ∨ C < 4294967296
  · exact divide_small A C hC hs (by omega) (by omega)
  · exact divide_big A C (by omega) (by omega) (by omega)
theorem div_valid (na : Bool) (sa : ByteArray) (nb : Bool) (sb : ByteArray) (ha : validB na sa = true) (hb : validB nb sb = true) (h0 : sb.size ≠ 0) : DivOK (numB sa) (numB sb) := by
  obtain ⟨l1, -, -, -⟩ := valid_spec na sa ha
  obtain ⟨l2, hmg, -, -⟩ := valid_spec nb sb hb
  have h1 := wd_len65 l1
  have h2 := wd_len65 l2
  exact div_all _ _ (fun h => by rw [h] at hmg; exact h0 (by rw [← hmg]; rfl)) (by omega) (by omega)
/-- The sign and the bytes of an integer's form. -/
def zN (z : Int) : Bool := decide (z < 0)
def zT (z : Int) : ByteArray := magB z.natAbs
def InR (z : Int) : Prop := z.natAbs < lim
theorem lim_words : lim = 4294967296 ^ 64 := by unfold lim; rw [show (4294967296 : Nat) = 256 ^ 4 by rfl, ← Nat.pow_mul]
theorem inR_of {z : Int} {k : Nat} (h : z.natAbs < 4294967296 ^ k) (hk : k ≤ 64) : InR z := by
  unfold InR
  rw [lim_words]
  exact Nat.lt_of_lt_of_le h (Nat.pow_le_pow_right (by omega) hk)
theorem inR_small {z : Int} (h : z.natAbs < 18446744073709551616) : InR z := inR_of (k := 2) (Nat.lt_of_lt_of_le h (by decide)) (by omega)
theorem outZ_zW {z : Int} (h : InR z) : outZ z = .agg #[.bool (zN z), .string (zT z)] ∧ errZ z = 0 := outZ_in z h
theorem z_valid {z : Int} (h : InR z) : validB (zN z) (zT z) = true ∧ zV (zN z) (zT z) = z := by
  obtain ⟨v1, v2⟩ := valid_magB (decide (z < 0)) z.natAbs h (fun hn => by have := of_decide_eq_true hn; omega)
  refine ⟨v1, ?_⟩
  unfold zV zOf zT zN
  rw [v2]
  by_cases hn : z < 0
  · rw [decide_eq_true hn, if_pos rfl]; omega
  · rw [decide_eq_false hn, if_neg (by decide)]; omega
theorem z_size {z : Int} (h : InR z) : (zT z).size ≤ maxLen := by
  have := (valid_spec _ _ (z_valid h).1).2.2.2
  unfold maxLen; omega
theorem opF_z (f : Int → Int → Int) {x y : Int} (hx : InR x) (hy : InR y) (h : InR (f x y)) : opF f (zN x) (zT x) (zN y) (zT y) = (.agg #[.bool (zN (f x y)), .string (zT (f x y))], 0) := by
  unfold opF
  rw [(z_valid hx).1, (z_valid hy).1, (z_valid hx).2, (z_valid hy).2, if_pos (by rfl), (outZ_zW h).1, (outZ_zW h).2]
/-- A form and no error. -/
def WideOk (z : Int) (w : World) (e : Ending) (w' : World) : Prop := e = .returned (.tuple #[.agg #[.bool (zN z), .string (zT z)], .int .i64 0]) ∧ Below w.heap.size w w'
theorem Mul_z (x y : Int) (hx : InR x) (hy : InR y) (h : InR (x * y)) (w : World) :
    Calls Try.prog 87 #[.agg #[.bool (zN x), .string (zT x)], .agg #[.bool (zN y), .string (zT y)]] w (WideOk (x * y) w) := by
  have := Mul_any (zN x) (zT x) (zN y) (zT y) (z_size hx) (z_size hy) w
  rwa [opF_z (fun a b => a * b) hx hy h] at this
theorem Add_z (x y : Int) (hx : InR x) (hy : InR y) (h : InR (x + y)) (w : World) :
    Calls Try.prog 108 #[.agg #[.bool (zN x), .string (zT x)], .agg #[.bool (zN y), .string (zT y)]] w (WideOk (x + y) w) := by
  have := Add_any (zN x) (zT x) (zN y) (zT y) (z_size hx) (z_size hy) w
  rwa [opF_z (fun a b => a + b) hx hy h] at this
theorem Of_z (n : Int) (h1 : -9223372036854775808 ≤ n) (h2 : n < 9223372036854775808) (w : World) :
    Calls Try.prog 85 #[.int .i64 n] w fun e w' => e = .returned (.agg #[.bool (zN n), .string (zT n)]) ∧ Below w.heap.size w w' := by
  have := Of_any n h1 h2 w
  rwa [(outZ_zW (inR_small (by omega))).1] at this
theorem refOf_z (n : Int) (h1 : -9223372036854775808 ≤ n) (h2 : n < 9223372036854775808) (w : World) :
    Calls Try.prog 16 #[.int .i64 n] w fun e w' => e = .returned (.agg #[.bool (zN n), .string (zT n)]) ∧ Below w.heap.size w w' :=
  refOf_any n h1 h2 _ _ (outZ_zW (inR_small (by omega))).1 w
theorem pos_of {m : Int} (h : InR m) (h0 : 0 < m) : posB (zN m) (zT m) = true := by
  unfold posB
  have h1 := (z_valid h).1
  have h2 : zN m = false := decide_eq_false (by omega)
  have h3 : (zT m).size ≠ 0 := fun h3 => by
    have h4 := (z_valid h).2
    have h5 : zT m = ⟨#[]⟩ := by
      apply ByteArray.ext
      exact Array.eq_empty_of_size_eq_zero h3
    rw [h5, h2] at h4
    have : zV false ⟨#[]⟩ = 0 := by kernel_rfl
    omega
  rw [h2] at h1 ⊢
  simp [h1, h3]
theorem balZ_abs (x m : Int) (h0 : 0 < m) : -m < balZ x m ∧ balZ x m < m := by
  have h1 := Int.emod_nonneg x (show m ≠ 0 by omega)
  have h2 := Int.emod_lt_of_pos x h0
  unfold balZ
  split <;> omega
theorem balF_z {x m : Int} (hx : InR x) (hm : InR m) (h0 : 0 < m) : balF (zN x) (zT x) (zN m) (zT m) = (.agg #[.bool (zN (balZ x m)), .string (zT (balZ x m))], 0) := by
  have hb := balZ_abs x m h0
  have hr : InR (balZ x m) := by unfold InR at *; omega
  unfold balF
  rw [(z_valid hx).1, pos_of hm h0, (z_valid hx).2, (z_valid hm).2, if_pos (by rfl), (outZ_zW hr).1, (outZ_zW hr).2]
theorem Balanced_z (x m : Int) (hx : InR x) (hm : InR m) (h0 : 0 < m) (w : World) :
    Calls Try.prog 109 #[.agg #[.bool (zN x), .string (zT x)], .agg #[.bool (zN m), .string (zT m)]] w (WideOk (balZ x m) w) := by
  have := Balanced_any (zN x) (zT x) (zN m) (zT m) (z_size hx) (z_size hm) (div_valid _ _ _ _) w
  rwa [balF_z hx hm h0] at this
end Go.Proofs.Ytkjlfjnncdkmlaa

/- Wide integers: helpers and walks, in one text (PN1 PN2 PN3). -/

/- Plain: primes, orders, Fermat's theorem. -/
namespace Go.Proofs.Ytkjlfjnncdkmlaa.PN
set_option linter.all false
def Pr (p : Nat) : Prop := 2 ≤ p ∧ ∀ d, d ∣ p → d = 1 ∨ d = p
theorem Pr.pos {p : Nat} (h : Pr p) : 0 < p := Nat.lt_of_lt_of_le (by omega) h.1
theorem Pr.cop {p : Nat} (h : Pr p) {a : Nat} (ha : ¬ p ∣ a) : Nat.Coprime p a := by
  rcases h.2 (Nat.gcd p a) (Nat.gcd_dvd_left p a) with h1 | h1
  · exact h1
  · exact absurd (h1 ▸ Nat.gcd_dvd_right p a) ha
theorem Pr.dvd_mul {p : Nat} (h : Pr p) {a b : Nat} (hd : p ∣ a * b) : p ∣ a ∨ p ∣ b := by
  by_cases ha : p ∣ a
  · exact Or.inl ha
  · exact Or.inr ((h.cop ha).dvd_of_dvd_mul_left hd)
theorem Pr.dvd_pow {p : Nat} (h : Pr p) {a : Nat} : ∀ {e : Nat}, p ∣ a ^ e → p ∣ a
  | 0, hd => by
    rw [Nat.pow_zero] at hd
    have := Nat.le_of_dvd (by omega) hd
    have := h.1
    omega
  | e + 1, hd => by
    rw [Nat.pow_succ] at hd
    rcases h.dvd_mul hd with h1 | h1
    · exact h.dvd_pow h1
    · exact h1
theorem Pr.eq_of_dvd {p q : Nat} (hp : Pr p) (hq : Pr q) (h : p ∣ q) : p = q := by
  rcases hq.2 p h with h1 | h1
  · have := hp.1; omega
  · exact h1
theorem prime_of {n : Nat} : ∀ (m : Nat), m ≤ n → 2 ≤ m → ∃ p, Pr p ∧ p ∣ m := by
  induction n with
  | zero => intro m h1 h2; omega
  | succ n ih =>
    intro m h1 h2
    by_cases hp : Pr m
    · exact ⟨m, hp, Nat.dvd_refl m⟩
    · have : ∃ d, d ∣ m ∧ d ≠ 1 ∧ d ≠ m := by
        refine Classical.byContradiction fun hno => hp ⟨h2, fun d hd => ?_⟩
        rcases Classical.em (d = 1) with h3 | h3
        · exact Or.inl h3
        · rcases Classical.em (d = m) with h4 | h4
          · exact Or.inr h4
          · exact absurd ⟨d, hd, h3, h4⟩ hno
      obtain ⟨d, hd, h3, h4⟩ := this
      have h5 := Nat.le_of_dvd (by omega) hd
      have h6 : d ≠ 0 := fun h => by subst h; rw [Nat.zero_dvd] at hd; omega
      obtain ⟨p, hp, hpd⟩ := ih d (by omega) (by omega)
      exact ⟨p, hp, Nat.dvd_trans hpd hd⟩
theorem exists_prime {n : Nat} (h : 2 ≤ n) : ∃ p, Pr p ∧ p ∣ n := prime_of n (Nat.le_refl n) h
theorem largest_of (n : Nat) (hn : 2 ≤ n) : ∀ (k q : Nat), Pr q → q ∣ n → n - q ≤ k → ∃ p, Pr p ∧ p ∣ n ∧ ∀ r, Pr r → r ∣ n → r ≤ p
  | 0, q, hq, hd, hk => ⟨q, hq, hd, fun r _ hr => by have := Nat.le_of_dvd (by omega) hr; omega⟩
  | k + 1, q, hq, hd, hk => by
    rcases Classical.em (∃ r, Pr r ∧ r ∣ n ∧ q < r) with ⟨r, hr, hrd, hlt⟩ | hno
    · have := Nat.le_of_dvd (by omega) hrd
      exact largest_of n hn k r hr hrd (by omega)
    · exact ⟨q, hq, hd, fun r hr hrd => by
        rcases Nat.lt_or_ge q r with h | h
        · exact absurd ⟨r, hr, hrd, h⟩ hno
        · exact h⟩
theorem exists_largest {n : Nat} (h : 2 ≤ n) : ∃ p, Pr p ∧ p ∣ n ∧ ∀ r, Pr r → r ∣ n → r ≤ p := by
  obtain ⟨q, hq, hd⟩ := exists_prime h
  exact largest_of n h _ q hq hd (Nat.le_refl _)
/-- A power that is one. -/
def One (m a e : Nat) : Prop := a ^ e % m = 1
theorem One.mul {m a e : Nat} (hm : 2 ≤ m) (h : One m a e) (k : Nat) : One m a (e * k) := by
  unfold One at *
  rw [Nat.pow_mul, Nat.pow_mod, h, Nat.one_pow, Nat.mod_eq_of_lt (by omega)]
theorem One.of_dvd {m a e f : Nat} (hm : 2 ≤ m) (h : One m a e) (hd : e ∣ f) : One m a f := by
  obtain ⟨k, rfl⟩ := hd
  exact h.mul hm k
theorem One.sub {m a e f : Nat} (hm : 2 ≤ m) (h : One m a e) (h2 : One m a (e + f)) : One m a f := by
  unfold One at *
  rw [Nat.pow_add, Nat.mul_mod, h, Nat.one_mul, Nat.mod_mod] at h2
  exact h2
theorem One.mod {m a e f : Nat} (hm : 2 ≤ m) (h : One m a e) (h2 : One m a f) : One m a (f % e) := by
  refine (h.mul hm (f / e)).sub hm ?_
  rwa [Nat.div_add_mod]
theorem One.gcd {m a : Nat} (hm : 2 ≤ m) : ∀ (e f : Nat), One m a e → One m a f → One m a (Nat.gcd e f) := by
  intro e f
  induction e, f using Nat.gcd.induction with
  | H0 n => intro _ h; rwa [Nat.gcd_zero_left]
  | H1 e f he ih =>
    intro h1 h2
    rw [Nat.gcd_rec]
    exact ih (h1.mod hm h2) h1
/-- One, modulo a divisor. -/
theorem One.dvd {m n a e : Nat} (hm : 2 ≤ m) (hd : m ∣ n) (h : One n a e) : One m a e := by
  unfold One at *
  rw [← Nat.mod_mod_of_dvd _ hd, h, Nat.mod_eq_of_lt (by omega)]
/-- The order of some bases together: what every exponent is a multiple of. -/
theorem ord_dvd {m L e : Nat} {B : List Nat} (hm : 2 ≤ m) (hL0 : 0 < L) (hL : ∀ a ∈ B, One m a L) (hr : ∀ r, Pr r → r ∣ L → ∃ a ∈ B, ¬ One m a (L / r)) (he : ∀ a ∈ B, One m a e) : L ∣ e := by
  obtain ⟨g, hg⟩ : ∃ g, g = Nat.gcd e L := ⟨_, rfl⟩
  have h1 : g ∣ L := by rw [hg]; exact Nat.gcd_dvd_right e L
  have h2 : g ∣ e := by rw [hg]; exact Nat.gcd_dvd_left e L
  obtain ⟨t, ht⟩ := h1
  rcases (show t = 0 ∨ t = 1 ∨ 2 ≤ t by omega) with rfl | rfl | h3
  · omega
  · rw [ht, Nat.mul_one]; exact h2
  · exfalso
    obtain ⟨r, hrp, s, hs⟩ := exists_prime h3
    have h4 : L = r * (g * s) := by rw [ht, hs, Nat.mul_left_comm]
    obtain ⟨a, ha, hno⟩ := hr r hrp ⟨_, h4⟩
    refine hno ?_
    rw [h4, Nat.mul_div_cancel_left _ hrp.pos]
    have h5 := One.gcd hm e L (he a ha) (hL a ha)
    rw [← hg] at h5
    exact h5.mul hm s
/-- Binomial coefficients. -/
def ch : Nat → Nat → Nat
  | _, 0 => 1
  | 0, _ + 1 => 0
  | n + 1, k + 1 => ch n k + ch n (k + 1)
theorem ch_zero (n : Nat) : ch n 0 = 1 := by cases n <;> rfl
theorem ch_succ (n k : Nat) : ch (n + 1) (k + 1) = ch n k + ch n (k + 1) := rfl
theorem ch_high : ∀ (n k : Nat), n < k → ch n k = 0
  | n, 0, h => by omega
  | 0, k + 1, _ => rfl
  | n + 1, k + 1, h => by rw [ch_succ, ch_high n k (by omega), ch_high n (k + 1) (by omega)]
theorem ch_self : ∀ (n : Nat), ch n n = 1
  | 0 => rfl
  | n + 1 => by rw [ch_succ, ch_self n, ch_high n (n + 1) (by omega)]
theorem ch_mul : ∀ (n k : Nat), (k + 1) * ch (n + 1) (k + 1) = (n + 1) * ch n k
  | 0, 0 => rfl
  | 0, k + 1 => by rw [ch_succ, ch_high 0 (k + 1) (by omega), ch_high 0 (k + 1 + 1) (by omega)]; simp
  | n + 1, 0 => by
    have h := ch_mul n 0
    have e1 := ch_succ (n + 1) 0
    rw [ch_zero] at h e1
    rw [ch_zero, e1]
    omega
  | n + 1, k + 1 => by
    have h1 := ch_mul n k
    have h2 := ch_mul n (k + 1)
    have h3 := ch_succ n k
    have h4 := ch_succ n (k + 1)
    rw [ch_succ (n + 1) (k + 1)]
    rw [Nat.mul_add, show (k + 1 + 1) * ch (n + 1) (k + 1) = (k + 1) * ch (n + 1) (k + 1) + ch (n + 1) (k + 1) by rw [Nat.add_mul, Nat.one_mul], h1, h2, h3]
    simp only [Nat.add_mul, Nat.mul_add, Nat.one_mul]
    omega
/-- The first terms of a power of a + 1. -/
def rowS (n a : Nat) : Nat → Nat
  | 0 => 0
  | k + 1 => rowS n a k + ch n k * a ^ k
theorem rowS_succ (n a : Nat) : ∀ k, rowS (n + 1) a (k + 1) = a * rowS n a k + rowS n a (k + 1)
  | 0 => by simp [rowS, ch_zero]
  | k + 1 => by
    have h := rowS_succ n a k
    have e1 : rowS (n + 1) a (k + 1 + 1) = rowS (n + 1) a (k + 1) + ch (n + 1) (k + 1) * a ^ (k + 1) := rfl
    have e2 : rowS n a (k + 1 + 1) = rowS n a (k + 1) + ch n (k + 1) * a ^ (k + 1) := rfl
    have e3 : rowS n a (k + 1) = rowS n a k + ch n k * a ^ k := rfl
    have e4 : a * (ch n k * a ^ k) = ch n k * a ^ (k + 1) := by rw [Nat.pow_succ, Nat.mul_left_comm, Nat.mul_comm a]
    rw [e1, h, e2, ch_succ, Nat.add_mul]
    rw [e3, Nat.mul_add, e4]
    omega
theorem binom (a : Nat) : ∀ n, (a + 1) ^ n = rowS n a (n + 1)
  | 0 => by simp [rowS, ch_zero]
  | n + 1 => by
    have h := rowS_succ n a (n + 1)
    have e : rowS n a (n + 1 + 1) = rowS n a (n + 1) + ch n (n + 1) * a ^ (n + 1) := rfl
    rw [h, e, ch_high n (n + 1) (by omega), Nat.pow_succ, binom a n, Nat.mul_add, Nat.mul_one, Nat.zero_mul, Nat.mul_comm a]
    omega
theorem Pr.ch_dvd {p : Nat} (hp : Pr p) {k : Nat} (h0 : 0 < k) (hk : k < p) : p ∣ ch p k := by
  obtain ⟨j, rfl⟩ : ∃ j, k = j + 1 := ⟨k - 1, by omega⟩
  obtain ⟨n, rfl⟩ : ∃ n, p = n + 1 := ⟨p - 1, by omega⟩
  have h := ch_mul n j
  rcases hp.dvd_mul (show n + 1 ∣ (j + 1) * ch (n + 1) (j + 1) from ⟨_, h⟩) with h1 | h1
  · have := Nat.le_of_dvd (by omega) h1; omega
  · exact h1
theorem Pr.rowS_mod {p : Nat} (hp : Pr p) (a : Nat) : ∀ k, k + 1 ≤ p → rowS p a (k + 1) % p = 1
  | 0, _ => by
    have := hp.1
    have e : rowS p a (0 + 1) = 1 := by simp [rowS, ch_zero]
    rw [e, Nat.mod_eq_of_lt (by omega)]
  | k + 1, h => by
    have e : rowS p a (k + 1 + 1) = rowS p a (k + 1) + ch p (k + 1) * a ^ (k + 1) := rfl
    obtain ⟨t, ht⟩ := hp.ch_dvd (show 0 < k + 1 by omega) (by omega)
    rw [e, ht, Nat.mul_assoc, Nat.add_mul_mod_self_left]
    exact hp.rowS_mod a k (by omega)
theorem fermat {p : Nat} (hp : Pr p) : ∀ a, a ^ p % p = a % p
  | 0 => by rw [Nat.zero_pow hp.pos]
  | a + 1 => by
    have h1 := fermat hp a
    obtain ⟨n, hn⟩ : ∃ n, p = n + 1 := ⟨p - 1, by have := hp.1; omega⟩
    have e : rowS p a (p + 1) = rowS p a p + ch p p * a ^ p := rfl
    have h2 : rowS p a p % p = 1 := by
      have := hp.rowS_mod a n (by omega)
      rwa [← hn] at this
    rw [binom, e, ch_self, Nat.one_mul, Nat.add_mod, h2, h1, Nat.add_mod a 1, Nat.add_comm, Nat.mod_eq_of_lt (show 1 < p by have := hp.1; omega)]
theorem fermat1 {p a : Nat} (hp : Pr p) (ha : ¬ p ∣ a) : One p a (p - 1) := by
  have h := fermat hp a
  have h1 := hp.1
  obtain ⟨n, rfl⟩ : ∃ n, p = n + 1 := ⟨p - 1, by omega⟩
  rw [Nat.add_sub_cancel]
  unfold One
  have h0 : 0 < a := Nat.pos_of_ne_zero (fun h => ha (by rw [h]; exact Nat.dvd_zero _))
  have hpos : 0 < a ^ n := Nat.pow_pos h0
  have h2 : n + 1 ∣ a * (a ^ n - 1) := by
    rw [Nat.mul_sub_one, ← Nat.pow_succ']
    exact Nat.dvd_of_mod_eq_zero (Nat.sub_mod_eq_zero_of_mod_eq h)
  rcases hp.dvd_mul h2 with h3 | ⟨t, h3⟩
  · exact absurd h3 ha
  · rw [show a ^ n = 1 + (n + 1) * t by omega, Nat.add_mul_mod_self_left, Nat.mod_eq_of_lt (by omega)]
end Go.Proofs.Ytkjlfjnncdkmlaa.PN

/- Plain: the strong tests to the bases 2, 7 and 61: what is calculated, and what it shows. -/
namespace Go.Proofs.Ytkjlfjnncdkmlaa.PN
set_option linter.all false
/-- A strong test. -/
def Sp (a n : Nat) : Prop := ∃ d s, n - 1 = d * 2 ^ s ∧ d % 2 = 1 ∧ (a ^ d % n = 1 ∨ ∃ r, r < s ∧ a ^ (d * 2 ^ r) % n = n - 1)
def Ps (n : Nat) : Prop := Sp 2 n ∧ Sp 7 n ∧ Sp 61 n
theorem one_of_minus {a n e : Nat} (hn : 2 ≤ n) (h : a ^ e % n = n - 1) : One n a (e * 2) := by
  unfold One
  rw [Nat.pow_mul, Nat.pow_mod, h]
  obtain ⟨m, rfl⟩ : ∃ m, n = m + 2 := ⟨n - 2, by omega⟩
  rw [show m + 2 - 1 = m + 1 by omega, show (m + 1) ^ 2 = 1 + (m + 2) * m by rw [Nat.pow_two]; simp only [Nat.add_mul, Nat.mul_add]; omega, Nat.add_mul_mod_self_left, Nat.mod_eq_of_lt (by omega)]
theorem Sp.one {a n : Nat} (hn : 2 ≤ n) (h : Sp a n) : One n a (n - 1) := by
  obtain ⟨d, s, h1, h2, h3 | ⟨r, hr, h3⟩⟩ := h
  · rw [h1]; exact One.mul hn h3 _
  · have h4 := (one_of_minus hn h3).mul hn (2 ^ (s - r - 1))
    rw [h1]
    rwa [Nat.mul_assoc, Nat.mul_assoc, show 2 ^ r * (2 * 2 ^ (s - r - 1)) = 2 ^ s by rw [← Nat.pow_succ', ← Nat.pow_add]; congr 1; omega] at h4
def fz {α : Type} (x : Nat) (f : Nat → α) : α := match x with
  | 0 => f 0
  | Nat.succ k => f (Nat.succ k)
theorem fz_eq {α : Type} (x : Nat) (f : Nat → α) : fz x f = f x := by cases x <;> rfl
def pmB (x a d n : Nat) : Nat := Nat.mod (Nat.mul (Nat.pow x 256) (Nat.pow a d)) n
def pm (a e n : Nat) : Nat :=
  pmB (pmB (pmB (Nat.mod (Nat.pow a (Nat.div e 16777216)) n) a (Nat.mod (Nat.div e 65536) 256) n) a (Nat.mod (Nat.div e 256) 256) n) a (Nat.mod e 256) n
theorem pmB_eq (a u d n : Nat) : pmB (a ^ u % n) a d n = a ^ (u * 256 + d) % n := by
  show ((a ^ u % n) ^ 256 * a ^ d) % n = _
  rw [Nat.mul_mod, ← Nat.pow_mod, ← Nat.mul_mod, ← Nat.pow_mul, ← Nat.pow_add]
theorem pm_eq (a e n : Nat) : pm a e n = a ^ e % n := by
  show pmB (pmB (pmB (a ^ (e / 16777216) % n) a (e / 65536 % 256) n) a (e / 256 % 256) n) a (e % 256) n = _
  rw [pmB_eq, pmB_eq, pmB_eq]
  congr 2
  omega
def nn : Nat := 2147483648
def spGo : Nat → Nat → Nat → Nat → Bool
  | 0, _, _, _ => true
  | f+1, a, e, n => fz (pm a e n) fun x => cond (Nat.beq (Nat.succ x) n) true (cond (Nat.beq x 1) (cond (Nat.beq (Nat.mod e 2) 1) true (spGo f a (Nat.div e 2) n)) false)
theorem spGo_succ (f a e n : Nat) : spGo (f + 1) a e n = cond (Nat.beq (Nat.succ (a ^ e % n)) n) true (cond (Nat.beq (a ^ e % n) 1) (cond (Nat.beq (e % 2) 1) true (spGo f a (e / 2) n)) false) := by
  show fz (pm a e n) _ = _
  rw [fz_eq, pm_eq]
  rfl
theorem beqN {a b : Nat} : Nat.beq a b = true ↔ a = b := ⟨Nat.eq_of_beq_eq_true, fun h => by subst h; exact Nat.beq_refl a⟩
theorem bleN {a b : Nat} : Nat.ble a b = true ↔ a ≤ b := ⟨Nat.le_of_ble_eq_true, Nat.ble_eq_true_of_le⟩
theorem beqF {a b : Nat} (h : a ≠ b) : Nat.beq a b = false := by
  cases h1 : Nat.beq a b with
  | false => rfl
  | true => exact absurd (beqN.1 h1) h
theorem bleF {a b : Nat} (h : ¬ a ≤ b) : Nat.ble a b = false := by
  cases h1 : Nat.ble a b with
  | false => rfl
  | true => exact absurd (bleN.1 h1) h
theorem condF {a b : Bool} (h : cond a b false = true) : a = true ∧ b = true := by
  cases a
  · cases h
  · exact ⟨rfl, h⟩
theorem spGo_ok {a n d s : Nat} (hn : 2 < n) (hd : d % 2 = 1) (h : a ^ d % n = 1 ∨ ∃ r, r < s ∧ a ^ (d * 2 ^ r) % n = n - 1) :
    ∀ (f i : Nat), i < s → (a ^ d % n = 1 ∨ ∃ r, r ≤ i ∧ a ^ (d * 2 ^ r) % n = n - 1) → spGo f a (d * 2 ^ i) n = true
  | 0, _, _, _ => rfl
  | f + 1, i, hi, hc => by
    rw [spGo_succ]
    have hone : a ^ (d * 2 ^ i) % n = n - 1 ∨ (a ^ (d * 2 ^ i) % n = 1 ∧ (i = 0 → a ^ d % n = 1) ∧ (∀ j, i = j + 1 → (a ^ d % n = 1 ∨ ∃ r, r ≤ j ∧ a ^ (d * 2 ^ r) % n = n - 1))) := by
      rcases hc with h1 | ⟨r, hr, h1⟩
      · exact Or.inr ⟨One.mul (by omega) h1 _, fun _ => h1, fun _ _ => Or.inl h1⟩
      · rcases Nat.lt_or_ge r i with hlt | hge
        · right
          refine ⟨?_, fun h => by omega, fun j hj => Or.inr ⟨r, by omega, h1⟩⟩
          have h4 := (one_of_minus (by omega) h1).mul (by omega) (2 ^ (i - r - 1))
          rwa [Nat.mul_assoc, Nat.mul_assoc, show 2 ^ r * (2 * 2 ^ (i - r - 1)) = 2 ^ i by rw [← Nat.pow_succ', ← Nat.pow_add]; congr 1; omega] at h4
        · left
          obtain rfl : r = i := by omega
          exact h1
    rcases hone with h1 | ⟨h1, h2, h3⟩
    · rw [h1, beqN.2 (show Nat.succ (n - 1) = n by omega)]
      rfl
    · rw [h1, beqF (show Nat.succ 1 ≠ n by omega), beqN.2 (rfl : 1 = 1)]
      show cond (Nat.beq (d * 2 ^ i % 2) 1) true (spGo f a (d * 2 ^ i / 2) n) = true
      cases i with
      | zero => rw [Nat.pow_zero, Nat.mul_one, beqN.2 hd]; rfl
      | succ j =>
        rw [Nat.pow_succ, ← Nat.mul_assoc, Nat.mul_div_cancel _ (by omega), Nat.mul_mod_left]
        exact spGo_ok hn hd h f j (by omega) (h3 j rfl)
def fails (n : Nat) : Bool :=
  cond (Nat.beq (pm 2 (Nat.pred n) n) 1)
    (cond (Nat.beq (pm 7 (Nat.pred n) n) 1) (cond (Nat.beq (pm 61 (Nat.pred n) n) 1)
      (not (and (spGo 32 2 (Nat.div n 2) n) (and (spGo 32 7 (Nat.div n 2) n) (spGo 32 61 (Nat.div n 2) n)))) true) true)
    true
theorem Sp.go {a n : Nat} (hn : 2 < n) (ho : n % 2 = 1) (h : Sp a n) (f : Nat) : spGo f a (n / 2) n = true := by
  obtain ⟨d, s, h1, h2, h3⟩ := h
  have hs : s ≠ 0 := fun h => by subst h; rw [Nat.pow_zero, Nat.mul_one] at h1; omega
  obtain ⟨t, rfl⟩ : ∃ t, s = t + 1 := ⟨s - 1, by omega⟩
  have h4 : n / 2 = d * 2 ^ t := by clear h3; rw [Nat.pow_succ, ← Nat.mul_assoc] at h1; omega
  rw [h4]
  refine spGo_ok hn h2 h3 f t (by omega) ?_
  rcases h3 with h3 | ⟨r, hr, h3⟩
  · exact Or.inl h3
  · exact Or.inr ⟨r, by omega, h3⟩
theorem fails_sound {n : Nat} (hn : 2 < n) (ho : n % 2 = 1) (h : Ps n) : fails n = false := by
  obtain ⟨h1, h2, h3⟩ := h
  have e : ∀ a, Sp a n → Nat.beq (pm a (Nat.pred n) n) 1 = true := fun a ha => by
    rw [pm_eq]; exact beqN.2 (ha.one (by omega))
  unfold fails
  rw [e 2 h1, e 7 h2, e 61 h3]
  show (not (and (spGo 32 2 (n / 2) n) (and (spGo 32 7 (n / 2) n) (spGo 32 61 (n / 2) n)))) = false
  rw [h1.go hn ho, h2.go hn ho, h3.go hn ho]
  rfl
def chk (n : Nat) : Bool := cond (Nat.ble n 2000) true (cond (Nat.ble nn n) true (fails n))
theorem chk_sound {n : Nat} (h : chk n = true) (h0 : 2000 < n) (h1 : n < nn) (ho : n % 2 = 1) (hp : Ps n) : False := by
  unfold chk at h
  rw [bleF (by omega), bleF (by omega)] at h
  have := fails_sound (by omega) ho hp
  rw [this] at h
  cases h
/-- n, n + st, .. : f numbers. -/
def en : Nat → Nat → Nat → Bool
  | 0, _, _ => true
  | f+1, n, st => cond (chk n) (fz (Nat.add n st) fun n' => en f n' st) false
theorem en_sound : ∀ (f n st : Nat), en f n st = true → ∀ j, j < f → chk (n + j * st) = true
  | 0, _, _, _, j, hj => by omega
  | f + 1, n, st, h, j, hj => by
    obtain ⟨h1, h2⟩ := condF h
    rw [fz_eq] at h2
    cases j with
    | zero => rwa [Nat.zero_mul, Nat.add_zero]
    | succ j =>
      have := en_sound f _ st h2 j (by omega)
      rwa [show n + (j + 1) * st = Nat.add n st + j * st by show _ = n + st + j * st; rw [Nat.add_mul]; omega]
def sp : List Nat := [2, 3, 5, 7, 11, 13, 17, 19, 23, 29, 31, 37, 41, 43, 47, 53, 59, 61, 67, 71, 73, 79, 83, 89, 97, 101, 103, 107, 109, 113, 127, 131, 137, 139, 149, 151, 157, 163, 167, 173, 179, 181, 191, 193, 197, 199, 211]
theorem sp_pr0 : ∀ r ∈ sp, 2 ≤ r ∧ ∀ d, d < r → 2 ≤ d → r % d ≠ 0 := by decide +kernel
theorem sp_pr {r : Nat} (h : r ∈ sp) : Pr r := by
  obtain ⟨h1, h2⟩ := sp_pr0 r h
  refine ⟨h1, fun d hd => ?_⟩
  have h3 := Nat.le_of_dvd (by omega) hd
  have h4 : d ≠ 0 := fun h => by subst h; rw [Nat.zero_dvd] at hd; omega
  rcases (show d = 1 ∨ d = r ∨ (2 ≤ d ∧ d < r) by omega) with h | h | ⟨h5, h6⟩
  · exact Or.inl h
  · exact Or.inr h
  · exact absurd (Nat.mod_eq_zero_of_dvd hd) (h2 d h6 h5)
theorem sp_all0 : ∀ t, t < 223 → t ∈ sp ∨ t < 2 ∨ ∃ d, d < 15 ∧ 2 ≤ d ∧ d < t ∧ t % d = 0 := by decide +kernel
theorem sp_all {t : Nat} (h : Pr t) (ht : t < 223) : t ∈ sp := by
  rcases sp_all0 t ht with h1 | h1 | ⟨d, -, h2, h3, h4⟩
  · exact h1
  · have := h.1; omega
  · rcases h.2 d (Nat.dvd_of_mod_eq_zero h4) with h5 | h5 <;> omega
theorem sp_le {r : Nat} (h : r ∈ sp) : r ≤ 211 := (show ∀ r ∈ sp, r ≤ 211 by decide) r h
theorem noSmall {c s : Nat} (h0 : 0 < c) (hc : c < 49729) (hno : ∀ r ∈ sp, ¬ r ∣ c) (hs : Pr s) (hd : s ∣ c) : s = c := by
  obtain ⟨u, hu⟩ := hd
  rcases (show u = 0 ∨ u = 1 ∨ 2 ≤ u by omega) with rfl | rfl | h2
  · omega
  · omega
  · exfalso
    obtain ⟨t, ht, htu⟩ := exists_prime h2
    have h3 : 223 ≤ s := by
      rcases Nat.lt_or_ge s 223 with h | h
      · exact absurd ⟨u, hu⟩ (hno s (sp_all hs h))
      · exact h
    have h4 : 223 ≤ t := by
      rcases Nat.lt_or_ge t 223 with h | h
      · exact absurd (Nat.dvd_trans htu ⟨s, by rw [hu, Nat.mul_comm]⟩) (hno t (sp_all ht h))
      · exact h
    have h5 := Nat.le_of_dvd (by omega) htu
    have h6 : 223 * 223 ≤ s * u := Nat.mul_le_mul h3 (by omega)
    omega
def hasSp : List Nat → Nat → Bool
  | [], _ => false
  | r :: l, n => cond (Nat.beq (Nat.mod n r) 0) true (hasSp l n)
theorem hasSp_iff (n : Nat) : ∀ l, hasSp l n = true ↔ ∃ r ∈ l, r ∣ n
  | [] => ⟨fun h => (by cases h), fun ⟨r, h, _⟩ => (by cases h)⟩
  | r :: l => by
    unfold hasSp
    by_cases h : n % r = 0
    · rw [beqN.2 (show Nat.mod n r = 0 from h)]
      exact ⟨fun _ => ⟨r, List.mem_cons_self, Nat.dvd_of_mod_eq_zero h⟩, fun _ => rfl⟩
    · rw [beqF (show Nat.mod n r ≠ 0 from h)]
      show hasSp l n = true ↔ _
      rw [hasSp_iff n l]
      constructor
      · rintro ⟨s, hs, hd⟩; exact ⟨s, List.mem_cons_of_mem _ hs, hd⟩
      · rintro ⟨s, hs, hd⟩
        rcases List.mem_cons.1 hs with rfl | hs
        · exact absurd (Nat.mod_eq_zero_of_dvd hd) h
        · exact ⟨s, hs, hd⟩
theorem hasSp_not {p : Nat} (h : hasSp sp p = true) (hp : 211 < p) : ¬ Pr p := by
  obtain ⟨r, hr, hd⟩ := (hasSp_iff p sp).1 h
  intro hpr
  have := (sp_pr hr).eq_of_dvd hpr hd
  have := sp_le hr
  omega
theorem pr_of_no {q : Nat} (h2 : 2 ≤ q) (hq : q < 49729) (h : hasSp sp q = false) : Pr q := by
  obtain ⟨s, hs, hd⟩ := exists_prime h2
  have := noSmall (by omega) hq (fun r hr hd => by rw [(hasSp_iff q sp).2 ⟨r, hr, hd⟩] at h; cases h) hs hd
  rwa [this] at hs
def divOut : Nat → Nat → Nat → Nat
  | 0, c, _ => c
  | f+1, c, r => cond (Nat.beq (Nat.mod c r) 0) (fz (Nat.div c r) fun c' => divOut f c' r) c
theorem divOut_succ (f c r : Nat) : divOut (f + 1) c r = if r ∣ c then divOut f (c / r) r else c := by
  show cond (Nat.beq (c % r) 0) (fz (c / r) fun c' => divOut f c' r) c = _
  rw [fz_eq]
  by_cases h : r ∣ c
  · rw [beqN.2 (Nat.mod_eq_zero_of_dvd h), if_pos h]; rfl
  · rw [beqF (fun h2 => h (Nat.dvd_of_mod_eq_zero h2)), if_neg h]; rfl
theorem divOut_spec {r : Nat} (hr : Pr r) : ∀ (f c : Nat), 0 < c → c < 2 ^ f → ¬ r ∣ divOut f c r ∧ divOut f c r ∣ c ∧ 0 < divOut f c r ∧ ∀ s, Pr s → s ≠ r → s ∣ c → s ∣ divOut f c r
  | 0, c, h0, hc => by rw [Nat.pow_zero] at hc; omega
  | f + 1, c, h0, hc => by
    rw [divOut_succ]
    by_cases h : r ∣ c
    · rw [if_pos h]
      obtain ⟨u, rfl⟩ := h
      have hr2 := hr.1
      rw [Nat.mul_div_cancel_left _ hr.pos]
      have hu0 : 0 < u := Nat.pos_of_ne_zero (fun h => by subst h; simp at h0)
      have hu : 2 * u ≤ r * u := Nat.mul_le_mul_right u hr2
      rw [Nat.pow_succ] at hc
      obtain ⟨h1, h2, h3, h4⟩ := divOut_spec hr f u hu0 (by omega)
      refine ⟨h1, Nat.dvd_trans h2 ⟨r, Nat.mul_comm _ _⟩, h3, fun s hs hne hd => h4 s hs hne ?_⟩
      rcases hs.dvd_mul hd with h5 | h5
      · exact absurd (hs.eq_of_dvd hr h5) hne
      · exact h5
    · rw [if_neg h]
      exact ⟨h, Nat.dvd_refl _, h0, fun s _ _ hd => hd⟩
/-- all three bases have the power 1. -/
def ones (e q : Nat) : Bool := and (Nat.beq (pm 2 e q) 1) (and (Nat.beq (pm 7 e q) 1) (Nat.beq (pm 61 e q) 1))
def bases : List Nat := [2, 7, 61]
theorem ones_iff (e q : Nat) : ones e q = true ↔ ∀ a ∈ bases, One q a e := by
  unfold ones bases One
  rw [Bool.and_eq_true, Bool.and_eq_true, pm_eq, pm_eq, pm_eq]
  simp [beqN]
def certGo : List Nat → Nat → Nat → Nat → Bool
  | [], c, d, q => cond (Nat.beq c 1) true (not (ones (Nat.div d c) q))
  | r :: l, c, d, q => cond (Nat.beq (Nat.mod c r) 0) (cond (ones (Nat.div d r) q) false (fz (divOut 17 c r) fun c' => certGo l c' d q)) (certGo l c d q)
theorem certGo_sound (d q : Nat) : ∀ (l : List Nat) (c : Nat), (∀ r ∈ l, r ∈ sp) → 0 < c → c < 49729 → (∀ r ∈ sp, r ∈ l ∨ ¬ r ∣ c) → certGo l c d q = true → ∀ s, Pr s → s ∣ c → ones (d / s) q = false
  | [], c, _, h0, hc, hno, h, s, hs, hd => by
    have h1 := noSmall h0 hc (fun r hr hd => by rcases hno r hr with h2 | h2; cases h2; exact h2 hd) hs hd
    subst h1
    unfold certGo at h
    rw [beqF (show s ≠ 1 by have := hs.1; omega)] at h
    have h2 : (!ones (d / s) q) = true := h
    cases h3 : ones (d / s) q
    · rfl
    · rw [h3] at h2; cases h2
  | r :: l, c, hl, h0, hc, hno, h, s, hs, hd => by
    unfold certGo at h
    have hr := hl r List.mem_cons_self
    by_cases hrc : r ∣ c
    · rw [beqN.2 (show Nat.mod c r = 0 from Nat.mod_eq_zero_of_dvd hrc)] at h
      have h1 : cond (ones (d / r) q) false (fz (divOut 17 c r) fun c' => certGo l c' d q) = true := h
      rw [fz_eq] at h1
      cases h2 : ones (d / r) q with
      | true => rw [h2] at h1; cases h1
      | false =>
        rw [h2] at h1
        have h3 : certGo l (divOut 17 c r) d q = true := h1
        obtain ⟨a1, a2, a3, a4⟩ := divOut_spec (sp_pr hr) 17 c h0 (by omega)
        by_cases hsr : s = r
        · subst hsr; exact h2
        · refine certGo_sound d q l _ (fun x hx => hl x (List.mem_cons_of_mem _ hx)) a3 (Nat.lt_of_le_of_lt (Nat.le_of_dvd h0 a2) hc) (fun x hx => ?_) h3 s hs (a4 s hs hsr hd)
          rcases hno x hx with h4 | h4
          · rcases List.mem_cons.1 h4 with h5 | h5
            · subst h5; exact Or.inr a1
            · exact Or.inl h5
          · exact Or.inr (fun h5 => h4 (Nat.dvd_trans h5 a2))
    · rw [beqF (show Nat.mod c r ≠ 0 from fun h2 => hrc (Nat.dvd_of_mod_eq_zero h2))] at h
      refine certGo_sound d q l c (fun x hx => hl x (List.mem_cons_of_mem _ hx)) h0 hc (fun x hx => ?_) h s hs hd
      rcases hno x hx with h4 | h4
      · rcases List.mem_cons.1 h4 with h5 | h5
        · subst h5; exact Or.inr hrc
        · exact Or.inl h5
      · exact Or.inr h4
def cert (d q : Nat) : Bool := and (ones d q) (and (Nat.ble 1 d) (and (Nat.ble d 46341) (certGo sp d d q)))
theorem cert_sound {d q e : Nat} (hq : 2 ≤ q) (h : cert d q = true) (he : ∀ a ∈ bases, One q a e) : d ∣ e := by
  unfold cert at h
  rw [Bool.and_eq_true, Bool.and_eq_true, Bool.and_eq_true] at h
  obtain ⟨h1, h2, h3, h4⟩ := h
  have h2 := bleN.1 h2
  have h3 := bleN.1 h3
  refine ord_dvd (B := bases) hq (by omega) ((ones_iff d q).1 h1) (fun r hr hd => ?_) he
  have h5 := certGo_sound d q sp d (fun _ h => h) (by omega) (by omega) (fun r hr => Or.inl hr) h4 r hr hd
  refine Classical.byContradiction fun hno => ?_
  have h6 : ones (d / r) q = true := (ones_iff _ _).2 fun a ha => Classical.byContradiction fun h7 => hno ⟨a, ha, h7⟩
  rw [h5] at h6
  cases h6
theorem Ps.one {n : Nat} (hn : 2 ≤ n) (h : Ps n) : ∀ a ∈ bases, One n a (n - 1) := by
  intro a ha
  obtain ⟨h1, h2, h3⟩ := h
  simp only [bases, List.mem_cons, List.not_mem_nil, or_false] at ha
  rcases ha with rfl | rfl | rfl
  · exact h1.one hn
  · exact h2.one hn
  · exact h3.one hn
theorem base_no {p a : Nat} (hp : Pr p) (h : 61 < p) (ha : a ∈ bases) : ¬ p ∣ a := by
  intro hd
  have h2 : 0 < a ∧ a ≤ 61 := by
    simp only [bases, List.mem_cons, List.not_mem_nil, or_false] at ha
    omega
  have := Nat.le_of_dvd h2.1 hd
  omega
def lessR : Nat → Nat → Nat → Nat → Nat
  | 0, d, _, _ => d
  | f+1, d, r, q => cond (Nat.beq (Nat.mod d r) 0) (fz (Nat.div d r) fun d' => cond (ones d' q) (lessR f d' r q) d) d
def lessGo : List Nat → Nat → Nat → Nat → Nat
  | [], c, d, q => cond (Nat.beq c 1) d (lessR 2 d c q)
  | r :: l, c, d, q => cond (Nat.beq (Nat.mod c r) 0) (fz (divOut 17 c r) fun c' => fz (lessR 17 d r q) fun d' => lessGo l c' d' q) (lessGo l c d q)
/-- A prime above the list's: it is none, or nothing is left of its multiples. -/
def bigOne (p : Nat) : Bool := cond (hasSp sp p) true (fz (lessGo sp (Nat.pred p) (Nat.pred p) p) fun d => cond (cert d p) (fz (Nat.mul p d) fun st => en (Nat.div nn st) (Nat.add p st) st) false)
theorem bigOne_sound {p k : Nat} (hp : Pr p) (h2 : 2000 < p) (h : bigOne p = true) (hk : 2 ≤ k) (hn : p * k < nn) (ho : p * k % 2 = 1) (hs : Ps (p * k)) : False := by
  unfold bigOne at h
  cases h1 : hasSp sp p with
  | true => exact hasSp_not h1 (by omega) hp
  | false =>
    rw [h1] at h
    have h3 : (fz (lessGo sp (Nat.pred p) (Nat.pred p) p) fun d => cond (cert d p) (fz (Nat.mul p d) fun st => en (Nat.div nn st) (Nat.add p st) st) false) = true := h
    rw [fz_eq] at h3
    generalize lessGo sp (Nat.pred p) (Nat.pred p) p = d at h3
    obtain ⟨hc, he⟩ := condF h3
    rw [fz_eq] at he
    have hp0 := hp.pos
    have hpk : p ≤ p * k := Nat.le_mul_of_pos_right p (by omega)
    have hone := hs.one (by omega)
    have d1 : d ∣ p * k - 1 := cert_sound hp.1 hc fun a ha => (hone a ha).dvd hp.1 ⟨k, rfl⟩
    have d2 : d ∣ p - 1 := cert_sound hp.1 hc fun a ha => fermat1 hp (base_no hp (by omega) ha)
    have d3 : d ∣ k - 1 := by
      have e1 : p * k - 1 = (p - 1) * k + (k - 1) := by
        obtain ⟨q, rfl⟩ : ∃ q, p = q + 1 := ⟨p - 1, by omega⟩
        rw [Nat.add_sub_cancel, Nat.add_mul]
        omega
      rw [e1] at d1
      exact (Nat.dvd_add_iff_right (Nat.dvd_trans d2 ⟨k, rfl⟩)).2 d1
    obtain ⟨j, hj⟩ := d3
    have hj0 : j ≠ 0 := fun h => by subst h; omega
    obtain ⟨i, rfl⟩ : ∃ i, j = i + 1 := ⟨j - 1, by omega⟩
    have e2 : p * k = p + p * d + i * (p * d) := by
      rw [show k = 1 + d * (i + 1) by omega, Nat.mul_add, Nat.mul_one, Nat.mul_add, Nat.mul_one, Nat.mul_add, ← Nat.mul_assoc, Nat.mul_comm (p * d) i]
      omega
    have hd0 : 0 < d := Nat.pos_of_ne_zero (fun h => by subst h; rw [Nat.zero_mul] at hj; omega)
    have hst : 0 < p * d := Nat.mul_pos hp0 hd0
    have hi : i < nn / (p * d) := by
      refine (Nat.le_div_iff_mul_le hst).2 ?_
      show (i + 1) * (p * d) ≤ nn
      rw [Nat.add_mul, Nat.one_mul]
      omega
    have h5 := en_sound _ _ _ he i hi
    have h6 : chk (p * k) = true := by rw [e2]; exact h5
    exact chk_sound h6 (by omega) hn ho hs
/-- The odd numbers p, p + 2, .. -/
def bigs : Nat → Nat → Bool
  | 0, _ => true
  | f+1, p => cond (bigOne p) (fz (Nat.add p 2) fun p' => bigs f p') false
theorem bigs_sound : ∀ (f p : Nat), bigs f p = true → ∀ i, i < f → bigOne (p + 2 * i) = true
  | 0, _, _, i, hi => by omega
  | f + 1, p, h, i, hi => by
    obtain ⟨h1, h2⟩ := condF h
    rw [fz_eq] at h2
    cases i with
    | zero => exact h1
    | succ i =>
      have := bigs_sound f _ h2 i (by omega)
      rwa [show p + 2 * (i + 1) = Nat.add p 2 + 2 * i by show _ = p + 2 + 2 * i; omega]
end Go.Proofs.Ytkjlfjnncdkmlaa.PN

/- Plain: numbers whose primes are all small; numbers with a great prime. -/
namespace Go.Proofs.Ytkjlfjnncdkmlaa.PN
set_option linter.all false
inductive PL where
  | nil
  | cons (q d : Nat) (t : PL)
def PL.mem (s : Nat) : PL → Prop
  | .nil => False
  | .cons q _ t => s = q ∨ t.mem s
/-- What a number n asks of a list. -/
def PL.good (n : Nat) : PL → Prop
  | .nil => True
  | .cons q d t => (q ∣ n → d ∣ n - 1) ∧ Pr q ∧ ¬ q * q ∣ n ∧ t.good n
def inv : Nat → Nat → Nat → Nat → Nat → Nat → Nat
  | 0, _, _, t0, _, _ => t0
  | f+1, r0, r1, t0, t1, D => cond (Nat.beq r1 0) t0 (fz (Nat.div r0 r1) fun q => fz (Nat.mod r0 r1) fun r2 => fz (Nat.mod (Nat.add t0 (Nat.mul (Nat.sub D (Nat.mod q D)) t1)) D) fun t2 => inv f r1 r2 t1 t2 D)
def enum (m D c : Nat) : Bool := fz (inv 60 D (Nat.mod m D) 0 1 D) fun k0 => cond (and (Nat.beq (Nat.mod (Nat.mul m k0) D) 1) (Nat.ble k0 D)) (fz (Nat.mul m k0) fun n0 => fz (Nat.mul m D) fun st => en (Nat.succ c) n0 st) false
def br (q d : Nat) (F : Nat → Nat → Bool) (m D : Nat) : Bool :=
  fz (Nat.mul m q) fun m' => cond (Nat.ble nn m') true (fz (Nat.div (Nat.mul D d) (Nat.gcd D d)) fun D' => cond (Nat.beq (Nat.gcd m' D') 1) (fz (Nat.div nn (Nat.mul m' D')) fun c => cond (Nat.ble c 30) (enum m' D' c) (F m' D')) true)
def dfs : PL → Nat → Nat → Bool
  | .nil, m, _ => chk m
  | .cons q d t, m, D => cond (br q d (fun m' D' => dfs t m' D') m D) (dfs t m D) false
theorem enum_sound {n m D k : Nat} (h : enum m D (nn / (m * D)) = true) (hg : Nat.gcd m D = 1) (hn : n = m * k) (hD : D ∣ n - 1) (h0 : 2000 < n) (h1 : n < nn) (ho : n % 2 = 1) (hs : Ps n) : False := by
  unfold enum at h
  rw [fz_eq] at h
  generalize inv 60 D (Nat.mod m D) 0 1 D = k0 at h
  obtain ⟨h2, h3⟩ := condF h
  rw [Bool.and_eq_true] at h2
  obtain ⟨h4, h5⟩ := h2
  rw [fz_eq, fz_eq] at h3
  have h4 : m * k0 % D = 1 := beqN.1 h4
  have h5 := bleN.1 h5
  have h3 : en (nn / (m * D) + 1) (m * k0) (m * D) = true := h3
  have hD0 : 0 < D := Nat.pos_of_ne_zero (fun h => by subst h; rw [Nat.zero_dvd] at hD; omega)
  have hm0 : 0 < m := Nat.pos_of_ne_zero (fun h => by subst h; rw [Nat.zero_mul] at hn; omega)
  have hk0 : 0 < k := Nat.pos_of_ne_zero (fun h => by subst h; rw [Nat.mul_zero] at hn; omega)
  have hcop : Nat.Coprime D m := by rw [Nat.coprime_comm]; exact hg
  have e0 : D ∣ m * k0 - 1 := by
    have h6 := Nat.div_add_mod (m * k0) D
    rw [h4] at h6
    exact ⟨m * k0 / D, by omega⟩
  have p0 : 1 ≤ m * k0 := by
    rcases Nat.eq_zero_or_pos (m * k0) with h6 | h6
    · rw [h6, Nat.zero_mod] at h4; omega
    · exact h6
  rw [hn] at hD
  have hle : k0 ≤ k := by
    rcases Nat.lt_or_ge k k0 with hlt | hge
    · exfalso
      have h6 : D ∣ m * (k0 - k) := by
        have h7 := Nat.dvd_sub e0 hD
        rwa [show m * k0 - 1 - (m * k - 1) = m * (k0 - k) by rw [Nat.mul_sub]; have : m * k ≤ m * k0 := Nat.mul_le_mul_left m (by omega); have : 0 < m * k := Nat.mul_pos hm0 hk0; omega] at h7
      have h8 := Nat.le_of_dvd (by omega) (hcop.dvd_of_dvd_mul_left h6)
      omega
    · exact hge
  have h6 : D ∣ m * (k - k0) := by
    have h7 := Nat.dvd_sub hD e0
    rwa [show m * k - 1 - (m * k0 - 1) = m * (k - k0) by rw [Nat.mul_sub]; have : m * k0 ≤ m * k := Nat.mul_le_mul_left m hle; omega] at h7
  obtain ⟨j, hj⟩ := hcop.dvd_of_dvd_mul_left h6
  have e1 : m * k = m * k0 + j * (m * D) := by
    rw [show k = k0 + D * j by omega, Nat.mul_add, Nat.mul_left_comm j, Nat.mul_comm j]
  have hst : 0 < m * D := Nat.mul_pos hm0 hD0
  have hjc : j < nn / (m * D) + 1 := by
    have : j ≤ nn / (m * D) := (Nat.le_div_iff_mul_le hst).2 (by omega)
    omega
  have h9 := en_sound _ _ _ h3 j hjc
  rw [← e1, ← hn] at h9
  exact chk_sound h9 h0 h1 ho hs
theorem br_sound {n q d m D k : Nat} {F : Nat → Nat → Bool} (h : br q d F m D = true) (hn : n = m * q * k) (hD : D ∣ n - 1) (hd : d ∣ n - 1) (h0 : 2000 < n) (h1 : n < nn) (ho : n % 2 = 1) (hs : Ps n) :
    ∃ D', D' ∣ n - 1 ∧ F (m * q) D' = true := by
  unfold br at h
  rw [fz_eq] at h
  have hmq : m * q ∣ n := ⟨k, hn⟩
  have hle := Nat.le_of_dvd (by omega) hmq
  have h := (show cond (Nat.ble nn (m * q)) true (fz (Nat.div (Nat.mul D d) (Nat.gcd D d)) fun D' => cond (Nat.beq (Nat.gcd (m * q) D') 1) (fz (Nat.div nn (Nat.mul (m * q) D')) fun c => cond (Nat.ble c 30) (enum (m * q) D' c) (F (m * q) D')) true) = true from h)
  rw [bleF (by omega)] at h
  have h := (show (fz (Nat.lcm D d) fun D' => cond (Nat.beq (Nat.gcd (m * q) D') 1) (fz (Nat.div nn (Nat.mul (m * q) D')) fun c => cond (Nat.ble c 30) (enum (m * q) D' c) (F (m * q) D')) true) = true from h)
  rw [fz_eq] at h
  have hD' : Nat.lcm D d ∣ n - 1 := Nat.lcm_dvd hD hd
  generalize Nat.lcm D d = D' at h hD'
  refine ⟨D', hD', ?_⟩
  have hg : Nat.gcd (m * q) D' = 1 := by
    obtain ⟨g, hg⟩ : ∃ g, g = Nat.gcd (m * q) D' := ⟨_, rfl⟩
    have a1 : g ∣ n := Nat.dvd_trans (by rw [hg]; exact Nat.gcd_dvd_left _ _) hmq
    have a2 : g ∣ n - 1 := Nat.dvd_trans (by rw [hg]; exact Nat.gcd_dvd_right _ _) hD'
    have a3 := Nat.dvd_sub a1 a2
    rw [show n - (n - 1) = 1 by omega, Nat.dvd_one] at a3
    rw [← hg, a3]
  rw [beqN.2 hg] at h
  have h := (show (fz (Nat.div nn (Nat.mul (m * q) D')) fun c => cond (Nat.ble c 30) (enum (m * q) D' c) (F (m * q) D')) = true from h)
  rw [fz_eq] at h
  cases hc : Nat.ble (Nat.div nn (Nat.mul (m * q) D')) 30 with
  | true =>
    rw [hc] at h
    exact (enum_sound (show enum (m * q) D' (nn / (m * q * D')) = true from h) hg hn hD' h0 h1 ho hs).elim
  | false =>
    rw [hc] at h
    exact h
theorem dfs_sound {n : Nat} (h0 : 2000 < n) (h1 : n < nn) (ho : n % 2 = 1) (hs : Ps n) : ∀ (t : PL) (m D k : Nat), dfs t m D = true → t.good n → D ∣ n - 1 → n = m * k → (∀ s, Pr s → s ∣ k → t.mem s) → False
  | .nil, m, D, k, h, _, _, hn, hk => by
    rcases (show k = 0 ∨ k = 1 ∨ 2 ≤ k by omega) with rfl | rfl | h2
    · omega
    · rw [Nat.mul_one] at hn
      subst hn
      exact chk_sound h h0 h1 ho hs
    · obtain ⟨s, hsp, hd⟩ := exists_prime h2
      exact hk s hsp hd
  | .cons q d t, m, D, k, h, hg, hD, hn, hk => by
    obtain ⟨g1, g2, g3, g4⟩ := hg
    obtain ⟨h2, h3⟩ := condF h
    by_cases hq : q ∣ k
    · obtain ⟨j, rfl⟩ := hq
      have hqn : q ∣ n := ⟨m * j, by rw [hn, Nat.mul_left_comm]⟩
      rw [← Nat.mul_assoc] at hn
      obtain ⟨D', hD', hF⟩ := br_sound h2 hn hD (g1 hqn) h0 h1 ho hs
      refine dfs_sound h0 h1 ho hs t (m * q) D' j hF g4 hD' hn fun s hsp hd => ?_
      rcases hk s hsp (Nat.dvd_trans hd ⟨q, Nat.mul_comm _ _⟩) with h4 | h4
      · subst h4
        obtain ⟨i, rfl⟩ := hd
        exact absurd ⟨m * i, by rw [hn]; simp only [Nat.mul_comm, Nat.mul_left_comm]⟩ g3
      · exact h4
    · refine dfs_sound h0 h1 ho hs t m D k h3 g4 hD hn fun s hsp hd => ?_
      rcases hk s hsp hd with h4 | h4
      · subst h4; exact absurd hd hq
      · exact h4
/-- The branches of the first entries of a list. -/
def tops : Nat → PL → Bool
  | 0, _ => true
  | _ + 1, .nil => true
  | f + 1, .cons q d t => cond (br q d (fun m' D' => dfs t m' D') 1 1) (tops f t) false
/-- The entries' own tests. -/
def memB (s : Nat) : PL → Bool
  | .nil => false
  | .cons q _ t => cond (Nat.beq s q) true (memB s t)
theorem memB_sound (s : Nat) : ∀ t, memB s t = true → PL.mem s t
  | .nil, h => by cases h
  | .cons q d t, h => by
    unfold memB at h
    by_cases hq : s = q
    · exact Or.inl hq
    · rw [beqF hq] at h
      exact Or.inr (memB_sound s t h)
def elem (s : Nat) : List Nat → Bool
  | [] => false
  | r :: l => cond (Nat.beq s r) true (elem s l)
theorem elem_iff (s : Nat) : ∀ l, elem s l = true ↔ s ∈ l
  | [] => ⟨fun h => (by cases h), fun h => (by cases h)⟩
  | r :: l => by
    unfold elem
    by_cases h : s = r
    · rw [beqN.2 h]; exact ⟨fun _ => by rw [h]; exact List.mem_cons_self, fun _ => rfl⟩
    · rw [beqF h]
      show elem s l = true ↔ _
      rw [elem_iff s l, List.mem_cons]
      exact ⟨Or.inr, fun h2 => h2.resolve_left h⟩
def primeQ (q : Nat) : Bool := cond (elem q sp) true (and (Nat.ble 2 q) (not (hasSp sp q)))
theorem primeQ_iff {q : Nat} (hq : q < 49729) : primeQ q = true ↔ Pr q := by
  unfold primeQ
  cases h1 : elem q sp with
  | true => exact ⟨fun _ => sp_pr ((elem_iff q sp).1 h1), fun _ => rfl⟩
  | false =>
    show (Nat.ble 2 q && !hasSp sp q) = true ↔ _
    rw [Bool.and_eq_true, bleN]
    constructor
    · rintro ⟨h2, h3⟩
      refine pr_of_no h2 hq ?_
      cases h4 : hasSp sp q
      · rfl
      · rw [h4] at h3; cases h3
    · intro hp
      refine ⟨hp.1, ?_⟩
      cases h4 : hasSp sp q with
      | false => rfl
      | true =>
        obtain ⟨r, hr, hd⟩ := (hasSp_iff q sp).1 h4
        have := (sp_pr hr).eq_of_dvd hp hd
        subst this
        rw [(elem_iff r sp).2 hr] at h1
        cases h1
def wiefA (a q : Nat) : Bool := and (Nat.beq (pm a (Nat.mul q (Nat.pred q)) (Nat.mul q q)) 1) (not (Nat.beq (pm a (Nat.pred q) (Nat.mul q q)) 1))
def wief (q : Nat) : Bool := or (wiefA 2 q) (wiefA 7 q)
theorem wiefA_sound {a q n : Nat} (hq : Pr q) (h : wiefA a q = true) (hn : 2 ≤ n) (hone : One n a (n - 1)) : ¬ q * q ∣ n := by
  intro hd
  unfold wiefA at h
  rw [Bool.and_eq_true, pm_eq, pm_eq] at h
  obtain ⟨h1, h2⟩ := h
  have h1 : One (q * q) a (q * (q - 1)) := beqN.1 h1
  have hq2 := hq.1
  have hqq : 2 ≤ q * q := Nat.le_trans hq2 (Nat.le_mul_of_pos_left q hq.pos)
  have h3 := One.gcd hqq (n - 1) (q * (q - 1)) (hone.dvd hqq hd) h1
  have hqn : q ∣ n := Nat.dvd_trans ⟨q, rfl⟩ hd
  have hcop : Nat.Coprime (Nat.gcd (n - 1) (q * (q - 1))) q := by
    rw [Nat.coprime_comm]
    refine hq.cop fun h4 => ?_
    have h5 := Nat.dvd_sub hqn (Nat.dvd_trans h4 (Nat.gcd_dvd_left _ _))
    rw [show n - (n - 1) = 1 by omega, Nat.dvd_one] at h5
    omega
  have h4 : Nat.gcd (n - 1) (q * (q - 1)) ∣ q - 1 := hcop.dvd_of_dvd_mul_left (Nat.gcd_dvd_right _ _)
  have h5 : One (q * q) a (q - 1) := h3.of_dvd hqq h4
  have h6 : Nat.beq (a ^ Nat.pred q % Nat.mul q q) 1 = true := beqN.2 h5
  rw [h6] at h2
  cases h2
def okPL : PL → Bool
  | .nil => true
  | .cons q d t => and (Nat.ble q 2000) (and (primeQ q) (and (cert d q) (and (wief q) (okPL t))))
theorem okPL_sound {n : Nat} (hn : 2 ≤ n) (hs : Ps n) : ∀ t, okPL t = true → PL.good n t
  | .nil, _ => trivial
  | .cons q d t, h => by
    unfold okPL at h
    rw [Bool.and_eq_true, Bool.and_eq_true, Bool.and_eq_true, Bool.and_eq_true] at h
    obtain ⟨h0, h1, h2, h3, h4⟩ := h
    have h0 := bleN.1 h0
    have hq := (primeQ_iff (by omega)).1 h1
    have hone := hs.one hn
    refine ⟨fun hd => cert_sound hq.1 h2 fun a ha => (hone a ha).dvd hq.1 hd, hq, ?_, okPL_sound hn hs t h4⟩
    unfold wief at h3
    rw [Bool.or_eq_true] at h3
    rcases h3 with h3 | h3
    · exact wiefA_sound hq h3 hn (hone 2 (by simp [bases]))
    · exact wiefA_sound hq h3 hn (hone 7 (by simp [bases]))
/-- The product of the numbers up to 46341. -/
def mc : Nat → Nat → Nat
  | 0, i => cond (Nat.ble i 46340) (Nat.succ i) 1
  | f+1, i => Nat.mul (mc f (Nat.mul 2 i)) (mc f (Nat.succ (Nat.mul 2 i)))
theorem mc_dvd : ∀ (f i t : Nat), i * 2 ^ f ≤ t → t < (i + 1) * 2 ^ f → t ≤ 46340 → t + 1 ∣ mc f i
  | 0, i, t, h1, h2, h3 => by
    have : t = i := by omega
    subst this
    unfold mc
    rw [bleN.2 h3]
    exact Nat.dvd_refl _
  | f + 1, i, t, h1, h2, h3 => by
    show t + 1 ∣ mc f (2 * i) * mc f (2 * i + 1)
    rw [Nat.pow_succ'] at h1 h2
    rw [show i * (2 * 2 ^ f) = 2 * i * 2 ^ f by rw [Nat.mul_left_comm, Nat.mul_assoc]] at h1
    rw [show (i + 1) * (2 * 2 ^ f) = (2 * i + 1 + 1) * 2 ^ f by rw [← Nat.mul_assoc]; congr 1; omega] at h2
    rcases Nat.lt_or_ge t ((2 * i + 1) * 2 ^ f) with h | h
    · exact Nat.dvd_trans (mc_dvd f (2 * i) t h1 h h3) ⟨_, rfl⟩
    · exact Nat.dvd_trans (mc_dvd f (2 * i + 1) t h h2 h3) ⟨_, Nat.mul_comm _ _⟩
theorem mc_pr {p : Nat} (hp : Pr p) : ∀ (f i : Nat), p ∣ mc f i → p ≤ 46341
  | 0, i, h => by
    unfold mc at h
    cases h1 : Nat.ble i 46340 with
    | true =>
      rw [h1] at h
      have h2 : p ∣ i + 1 := h
      have := Nat.le_of_dvd (by omega) h2
      have := bleN.1 h1
      omega
    | false =>
      rw [h1] at h
      have h2 : p ∣ 1 := h
      have := Nat.le_of_dvd (by omega) h2
      omega
  | f + 1, i, h => by
    have h : p ∣ mc f (2 * i) * mc f (2 * i + 1) := h
    rcases hp.dvd_mul h with h1 | h1
    · exact mc_pr hp f _ h1
    · exact mc_pr hp f _ h1
def bigM : Nat := mc 16 0
theorem bigM_dvd {t : Nat} (h0 : 0 < t) (h1 : t ≤ 46341) : t ∣ bigM := by
  obtain ⟨s, rfl⟩ : ∃ s, t = s + 1 := ⟨t - 1, by omega⟩
  exact mc_dvd 16 0 s (by omega) (by rw [show (0 + 1) * 2 ^ 16 = 65536 by rfl]; omega) (by omega)
def bigTbl : List (Nat × Nat) := [(19033, 76129), (29161, 58321), (32941, 65881), (34441, 68881), (34669, 57781), (37129, 74257), (37645, 75289), (38065, 76129), (39061, 78121), (39625, 66041), (42601, 85201), (46117, 72469)]
def found : List (Nat × Nat) → Nat → Nat
  | [], _ => 1
  | (a, d) :: l, k => cond (Nat.beq a k) d (found l k)
def b2 : Nat := 2147488281
def one (M h k : Nat) : Bool := and (Nat.ble h b2) (and (Nat.beq (Nat.gcd h (Nat.mod M h)) 1) (chk (Nat.mul h k)))
def left (M h k : Nat) : Bool := cond (Nat.ble h 1) true (cond (Nat.ble h b2) (one M h k) (fz (found bigTbl k) fun d => fz (Nat.div h d) fun e => and (Nat.beq (Nat.mul d e) h) (and (one M d k) (one M e k))))
def oneK (M k : Nat) : Bool :=
  fz (Nat.pred (Nat.pow 2 (Nat.pred k))) fun a => fz (Nat.gcd a (Nat.pred (Nat.mod (Nat.pow 7 (Nat.pred k)) a))) fun g =>
    fz (Nat.gcd g (Nat.pred (Nat.mod (Nat.pow 61 (Nat.pred k)) g))) fun g2 => fz (Nat.mod (Nat.pow (Nat.mod M g2) 64) g2) fun z => fz (Nat.div g2 (Nat.gcd g2 z)) fun h => left M h k
def loopK : Nat → Nat → Nat → Bool
  | 0, _, _ => true
  | f+1, M, k => cond (oneK M k) (fz (Nat.add k 2) fun k' => loopK f M k') false
theorem loopK_sound (M : Nat) : ∀ (f k : Nat), loopK f M k = true → ∀ i, i < f → oneK M (k + 2 * i) = true
  | 0, _, _, i, hi => by omega
  | f + 1, k, h, i, hi => by
    obtain ⟨h1, h2⟩ := condF h
    rw [fz_eq] at h2
    cases i with
    | zero => exact h1
    | succ i =>
      have := loopK_sound M f _ h2 i (by omega)
      rwa [show k + 2 * (i + 1) = Nat.add k 2 + 2 * i by show _ = k + 2 + 2 * i; omega]
theorem one_sound {p h k : Nat} (hp : Pr p) (hb : 46341 < p) (h1 : one bigM h k = true) (hd : p ∣ h) (h0 : 0 < h) (hn : p * k < nn) (hk : 0 < k) (ho : p * k % 2 = 1) (hs : Ps (p * k)) : False := by
  unfold one at h1
  rw [Bool.and_eq_true, Bool.and_eq_true] at h1
  obtain ⟨h2, h3, h4⟩ := h1
  have h2 : h ≤ 2147488281 := bleN.1 h2
  have h3 : Nat.gcd h (bigM % h) = 1 := beqN.1 h3
  obtain ⟨u, hu⟩ := hd
  rcases (show u = 0 ∨ u = 1 ∨ 2 ≤ u by omega) with rfl | rfl | hu2
  · omega
  · rw [Nat.mul_one] at hu
    have h4 : chk (p * k) = true := by rw [← hu]; exact h4
    have hle : p ≤ p * k := Nat.le_mul_of_pos_right p hk
    exact chk_sound h4 (by omega) hn ho hs
  · obtain ⟨t, ht, htu⟩ := exists_prime hu2
    have h5 : t ≤ u := Nat.le_of_dvd (by omega) htu
    have h6 : u ≤ 46340 := by
      rcases Nat.lt_or_ge 46340 u with h7 | h7
      · have := Nat.mul_le_mul (show 46342 ≤ p by omega) (show 46341 ≤ u from h7)
        omega
      · exact h7
    have h7 : t ∣ bigM := bigM_dvd ht.pos (by omega)
    have h8 : t ∣ h := Nat.dvd_trans htu ⟨p, by rw [hu, Nat.mul_comm]⟩
    have h9 := Nat.dvd_gcd h8 ((Nat.dvd_mod_iff h8).2 h7)
    rw [h3, Nat.dvd_one] at h9
    have := ht.1
    omega
theorem dvd_pred {p a e : Nat} (h : One p a e) : p ∣ a ^ e - 1 := by
  unfold One at h
  have h2 := Nat.div_add_mod (a ^ e) p
  rw [h] at h2
  exact ⟨a ^ e / p, by omega⟩
theorem dvd_pred_mod {p a e g : Nat} (h : One p a e) (hg : p ∣ g) : p ∣ a ^ e % g - 1 := by
  have h1 : a ^ e % g % p = 1 := by rw [Nat.mod_mod_of_dvd _ hg]; exact h
  have h2 := Nat.div_add_mod (a ^ e % g) p
  rw [h1] at h2
  exact ⟨a ^ e % g / p, by omega⟩
theorem oneK_sound {p k : Nat} (hp : Pr p) (hb : 46341 < p) (h : oneK bigM k = true) (hk : 2 ≤ k) (hn : p * k < nn) (ho : p * k % 2 = 1) (hs : Ps (p * k)) : False := by
  have hp0 := hp.pos
  have hpk : p ≤ p * k := Nat.le_mul_of_pos_right p (by omega)
  have hone := hs.one (by omega)
  have e1 : p * k - 1 = (p - 1) * k + (k - 1) := by
    obtain ⟨q, rfl⟩ : ∃ q, p = q + 1 := ⟨p - 1, by omega⟩
    rw [Nat.add_sub_cancel, Nat.add_mul]
    omega
  have hO : ∀ a ∈ bases, One p a (k - 1) := fun a ha => by
    have h1 := (hone a ha).dvd hp.1 ⟨k, rfl⟩
    rw [e1] at h1
    exact ((fermat1 hp (base_no hp (by omega) ha)).mul hp.1 k).sub hp.1 h1
  have o2 := hO 2 (by simp [bases])
  have o7 := hO 7 (by simp [bases])
  have o61 := hO 61 (by simp [bases])
  unfold oneK at h
  rw [fz_eq] at h
  obtain ⟨a, ha⟩ : ∃ a, a = 2 ^ (k - 1) - 1 := ⟨_, rfl⟩
  have h := (show (fz (Nat.gcd (2 ^ (k - 1) - 1) (7 ^ (k - 1) % (2 ^ (k - 1) - 1) - 1)) fun g =>
    fz (Nat.gcd g (Nat.pred (Nat.mod (Nat.pow 61 (Nat.pred k)) g))) fun g2 => fz (Nat.mod (Nat.pow (Nat.mod bigM g2) 64) g2) fun z => fz (Nat.div g2 (Nat.gcd g2 z)) fun h => left bigM h k) = true from h)
  rw [← ha, fz_eq] at h
  have da : p ∣ a := by rw [ha]; exact dvd_pred o2
  have ha0 : 0 < a := by
    have : 2 ^ 1 ≤ 2 ^ (k - 1) := Nat.pow_le_pow_right (by omega) (by omega)
    omega
  obtain ⟨g, hg⟩ : ∃ g, g = Nat.gcd a (7 ^ (k - 1) % a - 1) := ⟨_, rfl⟩
  rw [← hg] at h
  have dg : p ∣ g := by rw [hg]; exact Nat.dvd_gcd da (dvd_pred_mod o7 da)
  have hg0 : 0 < g := by rw [hg]; exact Nat.gcd_pos_of_pos_left _ ha0
  have h := (show (fz (Nat.gcd g (61 ^ (k - 1) % g - 1)) fun g2 => fz (Nat.mod (Nat.pow (Nat.mod bigM g2) 64) g2) fun z => fz (Nat.div g2 (Nat.gcd g2 z)) fun h => left bigM h k) = true from h)
  rw [fz_eq] at h
  obtain ⟨g2, hg2⟩ : ∃ g2, g2 = Nat.gcd g (61 ^ (k - 1) % g - 1) := ⟨_, rfl⟩
  rw [← hg2] at h
  have dg2 : p ∣ g2 := by rw [hg2]; exact Nat.dvd_gcd dg (dvd_pred_mod o61 dg)
  have hg20 : 0 < g2 := by rw [hg2]; exact Nat.gcd_pos_of_pos_left _ hg0
  have h := (show (fz ((bigM % g2) ^ 64 % g2) fun z => fz (Nat.div g2 (Nat.gcd g2 z)) fun h => left bigM h k) = true from h)
  rw [fz_eq] at h
  obtain ⟨z, hz⟩ : ∃ z, z = (bigM % g2) ^ 64 % g2 := ⟨_, rfl⟩
  rw [← hz] at h
  have hzp : ¬ p ∣ z := fun h1 => by
    rw [hz, Nat.dvd_mod_iff dg2] at h1
    have h2 := hp.dvd_pow h1
    rw [Nat.dvd_mod_iff dg2] at h2
    have := mc_pr hp 16 0 h2
    omega
  have h := (show (fz (g2 / Nat.gcd g2 z) fun h => left bigM h k) = true from h)
  rw [fz_eq] at h
  obtain ⟨c, hc⟩ : ∃ c, c = g2 / Nat.gcd g2 z := ⟨_, rfl⟩
  rw [← hc] at h
  have hcg : c * Nat.gcd g2 z = g2 := by rw [hc]; exact Nat.div_mul_cancel (Nat.gcd_dvd_left _ _)
  have dc : p ∣ c := by
    rw [← hcg] at dg2
    rcases hp.dvd_mul dg2 with h1 | h1
    · exact h1
    · exact absurd (Nat.dvd_trans h1 (Nat.gcd_dvd_right _ _)) hzp
  have hc0 : 0 < c := Nat.pos_of_ne_zero (fun h1 => by rw [h1, Nat.zero_mul] at hcg; omega)
  have hcp := Nat.le_of_dvd hc0 dc
  unfold left at h
  rw [bleF (show ¬ c ≤ 1 by omega)] at h
  cases h1 : Nat.ble c b2 with
  | true =>
    rw [h1] at h
    exact one_sound hp hb h dc hc0 hn (by omega) ho hs
  | false =>
    rw [h1] at h
    have h := (show (fz (found bigTbl k) fun d => fz (Nat.div c d) fun e => and (Nat.beq (Nat.mul d e) c) (and (one bigM d k) (one bigM e k))) = true from h)
    rw [fz_eq, fz_eq, Bool.and_eq_true, Bool.and_eq_true] at h
    obtain ⟨h2, h3, h4⟩ := h
    have h2 : found bigTbl k * (c / found bigTbl k) = c := beqN.1 h2
    generalize found bigTbl k = d at h2 h3 h4
    have h4 : one bigM (c / d) k = true := h4
    generalize c / d = e at h2 h4
    have hd0 : 0 < d := Nat.pos_of_ne_zero (fun h => by subst h; rw [Nat.zero_mul] at h2; omega)
    have he0 : 0 < e := Nat.pos_of_ne_zero (fun h => by subst h; rw [Nat.mul_zero] at h2; omega)
    rw [← h2] at dc
    rcases hp.dvd_mul dc with h5 | h5
    · exact one_sound hp hb h3 h5 hd0 hn (by omega) ho hs
    · exact one_sound hp hb h4 h5 he0 hn (by omega) ho hs
end Go.Proofs.Ytkjlfjnncdkmlaa.PN

/- Plain: the list of the primes up to 2000 with the orders of the bases, and what is calculated of it. -/
namespace Go.Proofs.Ytkjlfjnncdkmlaa.PN
set_option linter.all false
def pl0 : PL := .nil
def pl1 : PL := .cons 59 58 (.cons 53 52 (.cons 47 23 (.cons 43 42 (.cons 41 40 (.cons 37 36 (.cons 31 30 (.cons 29 28 (.cons 23 22 (.cons 19 18 (.cons 17 16 (.cons 13 12 (.cons 11 10 (.cons 5 4 (.cons 3 2 (pl0)))))))))))))))
def pl2 : PL := .cons 137 68 (.cons 131 130 (.cons 127 126 (.cons 113 56 (.cons 109 108 (.cons 107 106 (.cons 103 51 (.cons 101 100 (.cons 97 96 (.cons 89 88 (.cons 83 82 (.cons 79 78 (.cons 73 72 (.cons 71 70 (.cons 67 66 (pl1)))))))))))))))
def pl3 : PL := .cons 223 222 (.cons 211 210 (.cons 199 99 (.cons 197 196 (.cons 193 192 (.cons 191 190 (.cons 181 180 (.cons 179 178 (.cons 173 172 (.cons 167 83 (.cons 163 162 (.cons 157 156 (.cons 151 150 (.cons 149 148 (.cons 139 138 (pl2)))))))))))))))
def pl4 : PL := .cons 307 306 (.cons 293 292 (.cons 283 282 (.cons 281 280 (.cons 277 276 (.cons 271 135 (.cons 269 268 (.cons 263 262 (.cons 257 256 (.cons 251 250 (.cons 241 240 (.cons 239 238 (.cons 233 232 (.cons 229 228 (.cons 227 226 (pl3)))))))))))))))
def pl5 : PL := .cons 397 396 (.cons 389 388 (.cons 383 382 (.cons 379 378 (.cons 373 372 (.cons 367 183 (.cons 359 358 (.cons 353 352 (.cons 349 348 (.cons 347 346 (.cons 337 336 (.cons 331 330 (.cons 317 316 (.cons 313 312 (.cons 311 310 (pl4)))))))))))))))
def pl6 : PL := .cons 487 486 (.cons 479 239 (.cons 467 466 (.cons 463 462 (.cons 461 460 (.cons 457 456 (.cons 449 224 (.cons 443 442 (.cons 439 73 (.cons 433 432 (.cons 431 430 (.cons 421 420 (.cons 419 418 (.cons 409 408 (.cons 401 400 (pl5)))))))))))))))
def pl7 : PL := .cons 593 592 (.cons 587 586 (.cons 577 576 (.cons 571 570 (.cons 569 284 (.cons 563 562 (.cons 557 556 (.cons 547 546 (.cons 541 540 (.cons 523 522 (.cons 521 520 (.cons 509 508 (.cons 503 251 (.cons 499 498 (.cons 491 490 (pl6)))))))))))))))
def pl8 : PL := .cons 677 676 (.cons 673 672 (.cons 661 660 (.cons 659 658 (.cons 653 652 (.cons 647 646 (.cons 643 642 (.cons 641 640 (.cons 631 630 (.cons 619 618 (.cons 617 616 (.cons 613 612 (.cons 607 303 (.cons 601 600 (.cons 599 598 (pl7)))))))))))))))
def pl9 : PL := .cons 787 786 (.cons 773 772 (.cons 769 768 (.cons 761 760 (.cons 757 756 (.cons 751 750 (.cons 743 742 (.cons 739 738 (.cons 733 732 (.cons 727 363 (.cons 719 359 (.cons 709 708 (.cons 701 700 (.cons 691 690 (.cons 683 682 (pl8)))))))))))))))
def pl10 : PL := .cons 883 882 (.cons 881 880 (.cons 877 876 (.cons 863 862 (.cons 859 858 (.cons 857 856 (.cons 853 852 (.cons 839 419 (.cons 829 828 (.cons 827 826 (.cons 823 822 (.cons 821 820 (.cons 811 810 (.cons 809 404 (.cons 797 796 (pl9)))))))))))))))
def pl11 : PL := .cons 997 996 (.cons 991 990 (.cons 983 982 (.cons 977 488 (.cons 971 970 (.cons 967 966 (.cons 953 952 (.cons 947 946 (.cons 941 940 (.cons 937 936 (.cons 929 928 (.cons 919 918 (.cons 911 182 (.cons 907 906 (.cons 887 886 (pl10)))))))))))))))
def pl12 : PL := .cons 1093 1092 (.cons 1091 1090 (.cons 1087 1086 (.cons 1069 1068 (.cons 1063 1062 (.cons 1061 1060 (.cons 1051 1050 (.cons 1049 1048 (.cons 1039 1038 (.cons 1033 516 (.cons 1031 1030 (.cons 1021 1020 (.cons 1019 1018 (.cons 1013 1012 (.cons 1009 1008 (pl11)))))))))))))))
def pl13 : PL := .cons 1213 1212 (.cons 1201 600 (.cons 1193 1192 (.cons 1187 1186 (.cons 1181 1180 (.cons 1171 1170 (.cons 1163 1162 (.cons 1153 1152 (.cons 1151 1150 (.cons 1129 1128 (.cons 1123 1122 (.cons 1117 1116 (.cons 1109 1108 (.cons 1103 1102 (.cons 1097 1096 (pl12)))))))))))))))
def pl14 : PL := .cons 1303 1302 (.cons 1301 1300 (.cons 1297 648 (.cons 1291 1290 (.cons 1289 1288 (.cons 1283 1282 (.cons 1279 1278 (.cons 1277 1276 (.cons 1259 1258 (.cons 1249 1248 (.cons 1237 1236 (.cons 1231 1230 (.cons 1229 1228 (.cons 1223 611 (.cons 1217 1216 (pl13)))))))))))))))
def pl15 : PL := .cons 1439 1438 (.cons 1433 1432 (.cons 1429 1428 (.cons 1427 1426 (.cons 1423 474 (.cons 1409 1408 (.cons 1399 699 (.cons 1381 1380 (.cons 1373 1372 (.cons 1367 1366 (.cons 1361 1360 (.cons 1327 1326 (.cons 1321 1320 (.cons 1319 1318 (.cons 1307 1306 (pl14)))))))))))))))
def pl16 : PL := .cons 1543 1542 (.cons 1531 1530 (.cons 1523 1522 (.cons 1511 755 (.cons 1499 1498 (.cons 1493 1492 (.cons 1489 1488 (.cons 1487 1486 (.cons 1483 1482 (.cons 1481 1480 (.cons 1471 1470 (.cons 1459 1458 (.cons 1453 1452 (.cons 1451 1450 (.cons 1447 1446 (pl15)))))))))))))))
def pl17 : PL := .cons 1627 1626 (.cons 1621 1620 (.cons 1619 1618 (.cons 1613 1612 (.cons 1609 1608 (.cons 1607 1606 (.cons 1601 1600 (.cons 1597 1596 (.cons 1583 1582 (.cons 1579 1578 (.cons 1571 1570 (.cons 1567 783 (.cons 1559 779 (.cons 1553 1552 (.cons 1549 1548 (pl16)))))))))))))))
def pl18 : PL := .cons 1753 1752 (.cons 1747 1746 (.cons 1741 1740 (.cons 1733 1732 (.cons 1723 1722 (.cons 1721 1720 (.cons 1709 1708 (.cons 1699 1698 (.cons 1697 1696 (.cons 1693 1692 (.cons 1669 1668 (.cons 1667 1666 (.cons 1663 1662 (.cons 1657 552 (.cons 1637 1636 (pl17)))))))))))))))
def pl19 : PL := .cons 1877 1876 (.cons 1873 1872 (.cons 1871 1870 (.cons 1867 1866 (.cons 1861 1860 (.cons 1847 1846 (.cons 1831 1830 (.cons 1823 1822 (.cons 1811 1810 (.cons 1801 1800 (.cons 1789 1788 (.cons 1787 1786 (.cons 1783 891 (.cons 1777 1776 (.cons 1759 1758 (pl18)))))))))))))))
def pl20 : PL := .cons 1999 1998 (.cons 1997 1996 (.cons 1993 1992 (.cons 1987 1986 (.cons 1979 1978 (.cons 1973 1972 (.cons 1951 975 (.cons 1949 1948 (.cons 1933 1932 (.cons 1931 1930 (.cons 1913 956 (.cons 1907 1906 (.cons 1901 1900 (.cons 1889 1888 (.cons 1879 939 (pl19)))))))))))))))
def complGo : Nat → Nat → Bool
  | 0, _ => true
  | f+1, s => cond (or (memB s pl20) (or (Nat.beq s 2) (or (Nat.beq s 7) (or (Nat.beq s 61) (not (primeQ s)))))) (fz (Nat.succ s) fun s' => complGo f s') false
theorem complGo_sound : ∀ (f s : Nat), complGo f s = true → ∀ i, i < f → (or (memB (s + i) pl20) (or (Nat.beq (s + i) 2) (or (Nat.beq (s + i) 7) (or (Nat.beq (s + i) 61) (not (primeQ (s + i))))))) = true
  | 0, _, _, i, hi => by omega
  | f + 1, s, h, i, hi => by
    obtain ⟨h1, h2⟩ := condF h
    rw [fz_eq] at h2
    cases i with
    | zero => exact h1
    | succ i =>
      have := complGo_sound f _ h2 i (by omega)
      rwa [show s + (i + 1) = Nat.succ s + i by show _ = s + 1 + i; omega]
def smallGo : Nat → Nat → Bool
  | 0, _ => true
  | f+1, n => cond (or (primeQ n) (or (fails n) (or (Nat.beq (Nat.mod n 2) 0) (or (Nat.beq (Nat.mod n 7) 0) (Nat.beq (Nat.mod n 61) 0))))) (fz (Nat.succ n) fun n' => smallGo f n') false
theorem smallGo_sound : ∀ (f n : Nat), smallGo f n = true → ∀ i, i < f → (or (primeQ (n + i)) (or (fails (n + i)) (or (Nat.beq (Nat.mod (n + i) 2) 0) (or (Nat.beq (Nat.mod (n + i) 7) 0) (Nat.beq (Nat.mod (n + i) 61) 0))))) = true
  | 0, _, _, i, hi => by omega
  | f + 1, s, h, i, hi => by
    obtain ⟨h1, h2⟩ := condF h
    rw [fz_eq] at h2
    cases i with
    | zero => exact h1
    | succ i =>
      have := smallGo_sound f _ h2 i (by omega)
      rwa [show s + (i + 1) = Nat.succ s + i by show _ = s + 1 + i; omega]
theorem compl_ok : complGo 2001 0 = true := by decide +kernel
theorem pl_ok : okPL pl20 = true := by decide +kernel
theorem small_ok : smallGo 1999 2 = true := by decide +kernel
end Go.Proofs.Ytkjlfjnncdkmlaa.PN

/- Plain: the numbers whose primes are at most 2000. -/
namespace Go.Proofs.Ytkjlfjnncdkmlaa.PN
set_option linter.all false
theorem top20 : tops 15 pl20 = true := by decide +kernel
theorem top19 : tops 15 pl19 = true := by decide +kernel
theorem top18 : tops 15 pl18 = true := by decide +kernel
theorem top17 : tops 15 pl17 = true := by decide +kernel
theorem top16 : tops 15 pl16 = true := by decide +kernel
theorem top15 : tops 15 pl15 = true := by decide +kernel
theorem top14 : tops 15 pl14 = true := by decide +kernel
theorem top13 : tops 15 pl13 = true := by decide +kernel
theorem top12 : tops 15 pl12 = true := by decide +kernel
theorem top11 : tops 15 pl11 = true := by decide +kernel
theorem top10 : tops 15 pl10 = true := by decide +kernel
theorem top9 : tops 15 pl9 = true := by decide +kernel
theorem top8 : tops 15 pl8 = true := by decide +kernel
theorem top7 : tops 15 pl7 = true := by decide +kernel
theorem top6 : tops 15 pl6 = true := by decide +kernel
theorem top5 : tops 15 pl5 = true := by decide +kernel
theorem top4 : tops 15 pl4 = true := by decide +kernel
theorem top3 : tops 15 pl3 = true := by decide +kernel
theorem top2 : tops 15 pl2 = true := by decide +kernel
theorem top1 : tops 15 pl1 = true := by decide +kernel
end Go.Proofs.Ytkjlfjnncdkmlaa.PN

/- Plain: the numbers with a prime from 2001 to 46341. -/
namespace Go.Proofs.Ytkjlfjnncdkmlaa.PN
set_option linter.all false
theorem bigs0 : bigs 500 2001 = true := by decide +kernel
theorem bigs1 : bigs 500 3001 = true := by decide +kernel
theorem bigs2 : bigs 500 4001 = true := by decide +kernel
theorem bigs3 : bigs 1500 5001 = true := by decide +kernel
theorem bigs4 : bigs 1500 8001 = true := by decide +kernel
theorem bigs5 : bigs 1500 11001 = true := by decide +kernel
theorem bigs6 : bigs 4000 14001 = true := by decide +kernel
theorem bigs7 : bigs 4000 22001 = true := by decide +kernel
theorem bigs8 : bigs 4000 30001 = true := by decide +kernel
theorem bigs9 : bigs 4000 38001 = true := by decide +kernel
theorem bigs10 : bigs 171 46001 = true := by decide +kernel
end Go.Proofs.Ytkjlfjnncdkmlaa.PN

/- Plain: the numbers with a prime above 46341. -/
namespace Go.Proofs.Ytkjlfjnncdkmlaa.PN
set_option linter.all false
theorem loop0 : fz bigM (fun M => loopK 2400 M 3) = true := by decide +kernel
theorem loop1 : fz bigM (fun M => loopK 2400 M 4803) = true := by decide +kernel
theorem loop2 : fz bigM (fun M => loopK 2400 M 9603) = true := by decide +kernel
theorem loop3 : fz bigM (fun M => loopK 2400 M 14403) = true := by decide +kernel
theorem loop4 : fz bigM (fun M => loopK 2400 M 19203) = true := by decide +kernel
theorem loop5 : fz bigM (fun M => loopK 2400 M 24003) = true := by decide +kernel
theorem loop6 : fz bigM (fun M => loopK 2400 M 28803) = true := by decide +kernel
theorem loop7 : fz bigM (fun M => loopK 2400 M 33603) = true := by decide +kernel
theorem loop8 : fz bigM (fun M => loopK 2400 M 38403) = true := by decide +kernel
theorem loop9 : fz bigM (fun M => loopK 1570 M 43203) = true := by decide +kernel
end Go.Proofs.Ytkjlfjnncdkmlaa.PN

/- Plain: whatever passes the strong tests to the bases 2, 7 and 61 below 2^31 is a prime. -/
namespace Go.Proofs.Ytkjlfjnncdkmlaa.PN
set_option linter.all false
def PL.drop : Nat → PL → PL
  | 0, t => t
  | _ + 1, .nil => .nil
  | f + 1, .cons _ _ t => t.drop f
/-- All primes of n are in the list, and n fits to it. -/
def PL.fits (n : Nat) (t : PL) : Prop := t.good n ∧ ∀ s, Pr s → s ∣ n → t.mem s
theorem tops_sound {n : Nat} (h0 : 2000 < n) (h1 : n < nn) (ho : n % 2 = 1) (hs : Ps n) : ∀ (f : Nat) (t : PL), tops f t = true → t.fits n → (t.drop f).fits n
  | 0, t, _, hg => hg
  | f + 1, .nil, _, hg => hg
  | f + 1, .cons q d t, h, ⟨hg, hm⟩ => by
    obtain ⟨h2, h3⟩ := condF h
    obtain ⟨g1, g2, g3, g4⟩ := hg
    by_cases hq : q ∣ n
    · obtain ⟨k, hk⟩ := hq
      obtain ⟨D', hD', hF⟩ := br_sound h2 (show n = 1 * q * k by rw [Nat.one_mul]; exact hk) (Nat.one_dvd _) (g1 ⟨k, hk⟩) h0 h1 ho hs
      refine (dfs_sound h0 h1 ho hs t (1 * q) D' k hF g4 hD' (by rw [Nat.one_mul]; exact hk) fun s hsp hd2 => ?_).elim
      rcases hm s hsp (Nat.dvd_trans hd2 ⟨q, by rw [hk, Nat.mul_comm]⟩) with h4 | h4
      · subst h4
        obtain ⟨i, rfl⟩ := hd2
        exact absurd ⟨i, by rw [hk, Nat.mul_assoc]⟩ g3
      · exact h4
    · refine tops_sound h0 h1 ho hs f t h3 ⟨g4, fun s hsp hd2 => ?_⟩
      rcases hm s hsp hd2 with h4 | h4
      · subst h4; exact absurd hd2 hq
      · exact h4
theorem small_none {n : Nat} (h0 : 2000 < n) (h1 : n < nn) (ho : n % 2 = 1) (hs : Ps n) (hm : ∀ s, Pr s → s ∣ n → pl20.mem s) : False := by
  have f20 : pl20.fits n := ⟨okPL_sound (by omega) hs _ pl_ok, hm⟩
  have f19 : pl19.fits n := tops_sound h0 h1 ho hs 15 pl20 top20 f20
  have f18 : pl18.fits n := tops_sound h0 h1 ho hs 15 pl19 top19 f19
  have f17 : pl17.fits n := tops_sound h0 h1 ho hs 15 pl18 top18 f18
  have f16 : pl16.fits n := tops_sound h0 h1 ho hs 15 pl17 top17 f17
  have f15 : pl15.fits n := tops_sound h0 h1 ho hs 15 pl16 top16 f16
  have f14 : pl14.fits n := tops_sound h0 h1 ho hs 15 pl15 top15 f15
  have f13 : pl13.fits n := tops_sound h0 h1 ho hs 15 pl14 top14 f14
  have f12 : pl12.fits n := tops_sound h0 h1 ho hs 15 pl13 top13 f13
  have f11 : pl11.fits n := tops_sound h0 h1 ho hs 15 pl12 top12 f12
  have f10 : pl10.fits n := tops_sound h0 h1 ho hs 15 pl11 top11 f11
  have f9 : pl9.fits n := tops_sound h0 h1 ho hs 15 pl10 top10 f10
  have f8 : pl8.fits n := tops_sound h0 h1 ho hs 15 pl9 top9 f9
  have f7 : pl7.fits n := tops_sound h0 h1 ho hs 15 pl8 top8 f8
  have f6 : pl6.fits n := tops_sound h0 h1 ho hs 15 pl7 top7 f7
  have f5 : pl5.fits n := tops_sound h0 h1 ho hs 15 pl6 top6 f6
  have f4 : pl4.fits n := tops_sound h0 h1 ho hs 15 pl5 top5 f5
  have f3 : pl3.fits n := tops_sound h0 h1 ho hs 15 pl4 top4 f4
  have f2 : pl2.fits n := tops_sound h0 h1 ho hs 15 pl3 top3 f3
  have f1 : pl1.fits n := tops_sound h0 h1 ho hs 15 pl2 top2 f2
  have f0 : pl0.fits n := tops_sound h0 h1 ho hs 15 pl1 top1 f1
  obtain ⟨s, hsp, hd⟩ := exists_prime (show 2 ≤ n by omega)
  exact f0.2 s hsp hd
theorem big_none {p : Nat} (h0 : 2000 < p) (h1 : p ≤ 46341) (ho : p % 2 = 1) : bigOne p = true := by
  have key : ∀ (f q : Nat), bigs f q = true → q % 2 = 1 → q ≤ p → p < q + 2 * f → bigOne p = true := fun f q h h2 h3 h4 => by
    have := bigs_sound f q h ((p - q) / 2) (by omega)
    rwa [show q + 2 * ((p - q) / 2) = p by omega] at this
  rcases Nat.lt_or_ge p 3001 with c0 | c0
  · exact key 500 2001 bigs0 (by omega) (by omega) (by omega)
  rcases Nat.lt_or_ge p 4001 with c1 | c1
  · exact key 500 3001 bigs1 (by omega) (by omega) (by omega)
  rcases Nat.lt_or_ge p 5001 with c2 | c2
  · exact key 500 4001 bigs2 (by omega) (by omega) (by omega)
  rcases Nat.lt_or_ge p 8001 with c3 | c3
  · exact key 1500 5001 bigs3 (by omega) (by omega) (by omega)
  rcases Nat.lt_or_ge p 11001 with c4 | c4
  · exact key 1500 8001 bigs4 (by omega) (by omega) (by omega)
  rcases Nat.lt_or_ge p 14001 with c5 | c5
  · exact key 1500 11001 bigs5 (by omega) (by omega) (by omega)
  rcases Nat.lt_or_ge p 22001 with c6 | c6
  · exact key 4000 14001 bigs6 (by omega) (by omega) (by omega)
  rcases Nat.lt_or_ge p 30001 with c7 | c7
  · exact key 4000 22001 bigs7 (by omega) (by omega) (by omega)
  rcases Nat.lt_or_ge p 38001 with c8 | c8
  · exact key 4000 30001 bigs8 (by omega) (by omega) (by omega)
  rcases Nat.lt_or_ge p 46001 with c9 | c9
  · exact key 4000 38001 bigs9 (by omega) (by omega) (by omega)
  exact key 171 46001 bigs10 (by omega) (by omega) (by omega)
theorem loop_none {k : Nat} (h0 : 2 < k) (h1 : k ≤ 46341) (ho : k % 2 = 1) : oneK bigM k = true := by
  have key : ∀ (f q : Nat), (fz bigM fun M => loopK f M q) = true → q % 2 = 1 → q ≤ k → k < q + 2 * f → oneK bigM k = true := fun f q h h2 h3 h4 => by
    rw [fz_eq] at h
    have := loopK_sound bigM f q h ((k - q) / 2) (by omega)
    rwa [show q + 2 * ((k - q) / 2) = k by omega] at this
  rcases Nat.lt_or_ge k 4803 with c0 | c0
  · exact key 2400 3 loop0 (by omega) (by omega) (by omega)
  rcases Nat.lt_or_ge k 9603 with c1 | c1
  · exact key 2400 4803 loop1 (by omega) (by omega) (by omega)
  rcases Nat.lt_or_ge k 14403 with c2 | c2
  · exact key 2400 9603 loop2 (by omega) (by omega) (by omega)
  rcases Nat.lt_or_ge k 19203 with c3 | c3
  · exact key 2400 14403 loop3 (by omega) (by omega) (by omega)
  rcases Nat.lt_or_ge k 24003 with c4 | c4
  · exact key 2400 19203 loop4 (by omega) (by omega) (by omega)
  rcases Nat.lt_or_ge k 28803 with c5 | c5
  · exact key 2400 24003 loop5 (by omega) (by omega) (by omega)
  rcases Nat.lt_or_ge k 33603 with c6 | c6
  · exact key 2400 28803 loop6 (by omega) (by omega) (by omega)
  rcases Nat.lt_or_ge k 38403 with c7 | c7
  · exact key 2400 33603 loop7 (by omega) (by omega) (by omega)
  rcases Nat.lt_or_ge k 43203 with c8 | c8
  · exact key 2400 38403 loop8 (by omega) (by omega) (by omega)
  exact key 1570 43203 loop9 (by omega) (by omega) (by omega)
theorem odd_of {a b : Nat} (h : a * b % 2 = 1) : a % 2 = 1 ∧ b % 2 = 1 := by
  rw [Nat.mul_mod] at h
  rcases Nat.mod_two_eq_zero_or_one a with h1 | h1 <;> rcases Nat.mod_two_eq_zero_or_one b with h2 | h2 <;> rw [h1, h2] at h <;> simp at h
  exact ⟨h1, h2⟩
/-- Below 2^31 the strong tests to the bases 2, 7 and 61 are exact. -/
theorem exact {n : Nat} (h1 : 1 < n) (hn : n < 2147483648) (ho : n % 2 = 1) (h7 : n % 7 ≠ 0) (h61 : n % 61 ≠ 0) (hs : Ps n) : Pr n := by
  rcases Nat.lt_or_ge 2000 n with hbig | hsm
  · refine Classical.byContradiction fun hno => ?_
    obtain ⟨p, hp, hd, hmax⟩ := exists_largest (show 2 ≤ n by omega)
    obtain ⟨k, rfl⟩ := hd
    have hp0 := hp.pos
    obtain ⟨op, ok⟩ := odd_of ho
    have hk : 2 ≤ k := by
      rcases (show k = 0 ∨ k = 1 ∨ 2 ≤ k by omega) with rfl | rfl | h
      · omega
      · rw [Nat.mul_one] at hno; exact absurd hp hno
      · exact h
    rcases Nat.lt_or_ge 46341 p with c1 | c1
    · have hk2 : k ≤ 46341 := by
        rcases Nat.lt_or_ge 46341 k with h | h
        · have := Nat.mul_le_mul (show 46342 ≤ p from c1) (show 46342 ≤ k from h)
          omega
        · exact h
      exact oneK_sound hp c1 (loop_none (by omega) hk2 ok) hk hn ho hs
    · rcases Nat.lt_or_ge 2000 p with c2 | c2
      · exact bigOne_sound hp c2 (big_none c2 c1 op) hk hn ho hs
      · refine small_none hbig hn ho hs fun s hsp hd => ?_
        have h2 := hmax s hsp hd
        have h3 := complGo_sound 2001 0 compl_ok s (by omega)
        rw [Nat.zero_add, Bool.or_eq_true, Bool.or_eq_true, Bool.or_eq_true, Bool.or_eq_true] at h3
        rcases h3 with h3 | h3 | h3 | h3 | h3
        · exact memB_sound s _ h3
        · have := beqN.1 h3
          subst this
          have := Nat.mod_eq_zero_of_dvd hd
          omega
        · have := beqN.1 h3
          subst this
          exact absurd (Nat.mod_eq_zero_of_dvd hd) h7
        · have := beqN.1 h3
          subst this
          exact absurd (Nat.mod_eq_zero_of_dvd hd) h61
        · rw [(primeQ_iff (by omega)).2 hsp] at h3
          cases h3
  · have h2 := smallGo_sound 1999 2 small_ok (n - 2) (by omega)
    rw [show 2 + (n - 2) = n by omega, Bool.or_eq_true, Bool.or_eq_true, Bool.or_eq_true, Bool.or_eq_true] at h2
    rcases h2 with h2 | h2 | h2 | h2 | h2
    · exact (primeQ_iff (by omega)).1 h2
    · rw [fails_sound (by omega) ho hs] at h2
      cases h2
    · have : n % 2 = 0 := beqN.1 h2
      omega
    · exact absurd (beqN.1 h2) h7
    · exact absurd (beqN.1 h2) h61
end Go.Proofs.Ytkjlfjnncdkmlaa.PN
