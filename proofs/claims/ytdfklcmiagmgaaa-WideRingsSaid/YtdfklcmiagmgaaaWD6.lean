/- Walks: the balanced remainder. -/
import Derived.Test.YtdfklcmiagmgaaaWD5
namespace Go.Proofs.Ytdfklcmiagmgaaa
set_option linter.all false
open Go.RowKit Go.Shelf Go.WideNum
def balZ (a m : Int) : Int := if m < 2 * (a % m) then a % m - m else a % m
def balF (na : Bool) (sa : ByteArray) (nb : Bool) (sb : ByteArray) : Value × Int :=
  if validB na sa && posB nb sb then (outZ (balZ (zV na sa) (zV nb sb)), errZ (balZ (zV na sa) (zV nb sb))) else (emptyW, 2)
theorem NumRet.belD {w w' : World} {e : Ending} {n : Nat} (h : NumRet w.drew n e w') : Below w.heap.size w w' := ((Below.refl w.heap.size w).drew).trans h.bel
theorem left_num (A k : Nat) (hk : k ≤ 100000) (va : Value) (w : World) (hA : World.numR w va A) (hla : (wd A).length ≤ 2000) (z : Int) (hz : z = (k : Int)) :
    Calls Try.prog 71 #[va, .int .i64 z] w (NumRet w (A * 2 ^ k)) := by subst hz; exact left_any A k hk va w hA hla
theorem wd_len_le {A C k : Nat} (h : A ≤ C) (hc : (wd C).length ≤ k) : (wd A).length ≤ k := by
  have h1 := words_length (B := 4294967296) (by omega) A (wd C).length (Nat.lt_of_le_of_lt h (wd_vlt C))
  unfold wd at *; omega
theorem wd_len_double {A k : Nat} (hc : (wd A).length ≤ k) : (wd (A * 2 ^ 1)).length ≤ k + 1 := by
  have h1 := wd_vlt A
  have h2 := words_length (B := 4294967296) (by omega) (A * 2 ^ 1) ((wd A).length + 1) (by rw [Nat.pow_succ]; omega)
  unfold wd at *; omega
set_option maxRecDepth 100000 in
set_option maxHeartbeats 8000000 in
theorem Balanced_any (na : Bool) (sa : ByteArray) (nb : Bool) (sb : ByteArray) (hsa : sa.size ≤ maxLen) (hsb : sb.size ≤ maxLen)
    (hD : validB na sa = true → validB nb sb = true → sb.size ≠ 0 → DivOK (numB sa) (numB sb)) (w : World) :
    Calls Try.prog 36 #[.agg #[.bool na, .string sa], .agg #[.bool nb, .string sb]] w fun e w' => e = .returned (.tuple #[(balF na sa nb sb).1, .int .i64 (balF na sa nb sb).2]) ∧ Below w.heap.size w w' := by
  obtain ⟨HPOST, hpost⟩ : ∃ X : Ending → World → Prop, X = fun e w' => e = .returned (.tuple #[(balF na sa nb sb).1, .int .i64 (balF na sa nb sb).2]) ∧ Below w.heap.size w w' := ⟨_, rfl⟩
  rw [← hpost]
  have HP := Lib.hid hpost
  clear hpost
  obtain ⟨W0, hW0⟩ : ∃ W0, W0 = ((w.alloc (.cells #[.bool na, .string sa] 23)).alloc (.cells #[.bool nb, .string sb] 23)).alloc (.cells #[.bool false, .string ⟨#[]⟩] 23) := ⟨_, rfl⟩
  have g0 : W0.heap[w.heap.size]? = some (.cells #[.bool na, .string sa] 23) := by rw [hW0]; repeat (first | (refine alloc_last _ _ ?_; simp only [World.size_alloc]; done) | (rw [Below.heap_alloc]; rotate_left; (simp only [World.size_alloc]; omega)))
  have g1 : W0.heap[w.heap.size + 1]? = some (.cells #[.bool nb, .string sb] 23) := by rw [hW0]; repeat (first | (refine alloc_last _ _ ?_; simp only [World.size_alloc]; done) | (rw [Below.heap_alloc]; rotate_left; (simp only [World.size_alloc]; omega)))
  have g2 : W0.heap[w.heap.size + 1 + 1]? = some (.cells #[.bool false, .string ⟨#[]⟩] 23) := by rw [hW0]; repeat (first | (refine alloc_last _ _ ?_; simp only [World.size_alloc]; done) | (rw [Below.heap_alloc]; rotate_left; (simp only [World.size_alloc]; omega)))
  have hb0 : Below w.heap.size w W0 := by rw [hW0]; exact ((((Below.refl _ w).alloc (Nat.le_refl _) _).alloc (by simp) _).alloc (by simp; omega) _)
  have HB0 := Lib.hid hb0
  have HG0 := Lib.hid g0
  have HG1 := Lib.hid g1
  have HG2 := Lib.hid g2
  obtain ⟨c00, c01, f0⟩ := wide_cells g0
  obtain ⟨c10, c11, f1⟩ := wide_cells g1
  have HW0 := Lib.hid hW0
  clear hb0 g0 g1 g2 hW0
  have HVAL : Hid (∀ W : World, Calls Try.prog 16 #[.agg #[.bool na, .string sa]] W fun e w' => e = .returned (.bool (validB na sa)) ∧ Below W.heap.size W w') := Valid_wide na sa hsa
  have HPOS : Hid (∀ W : World, Calls Try.prog 70 #[.agg #[.bool nb, .string sb]] W fun e w' => e = .returned (.bool (posB nb sb)) ∧ Below W.heap.size W w') := positive_any nb sb hsb
  obtain ⟨okv, hov⟩ : ∃ ok, ok = validB na sa := ⟨_, rfl⟩
  obtain ⟨okp, hop⟩ : ∃ ok, ok = posB nb sb := ⟨_, rfl⟩
  rw [← hov] at HVAL
  rw [← hop] at HPOS
  have HOV := Lib.hid hov
  have HOP := Lib.hid hop
  clear hov hop
  go_enter Try.func36, Try.ntmps36
  go_upto_region 1 with (fail)
  rw [← HW0.out]
  go_wp2_with fail
  (with_reducible refine (HVAL.out _).mono ?_)
  rintro e w1 ⟨rfl, hb1⟩
  have k0 := (hb1.block _ (lt_of_heap HG0.out)).trans HG0.out
  have k1 := (hb1.block _ (lt_of_heap HG1.out)).trans HG1.out
  have k2 := (hb1.block _ (lt_of_heap HG2.out)).trans HG2.out
  have HBw1 := Lib.hid (HB0.out.trans (hb1.mono HB0.out.size))
  clear c00 c01 f0 c10 c11 f1 hb1
  cases okv with
  | false =>
    obtain ⟨c20, c21, f2⟩ := wide_cells k2
    have HK2 := Lib.hid k2
    clear k0 k1 k2
    have hres : Hid (balF na sa nb sb = (emptyW, 2)) := by show _ = _; unfold balF; rw [← HOV.out]; rfl
    go_wp2
    have m2 := wide_set HK2.out false ⟨#[]⟩
    have hb9 := below_set2 (p := w.heap.size + 1 + 1) HBw1.out (by omega) false ⟨#[]⟩
    obtain ⟨d20, d21, -⟩ := wide_cells m2
    clear m2
    generalize (w1.setCell ⟨w.heap.size + 1 + 1, 0, none⟩ (.bool false)).setCell ⟨w.heap.size + 1 + 1, 1, none⟩ (.string ⟨#[]⟩) = W9 at d20 d21 hb9 ⊢
    rw [HP.out]
    exact bodyPost_ret (v := .tuple #[emptyW, .int .i64 2]) (by simp [results, Try.results36, go_sem, d20, d21]; rfl) rfl ⟨by rw [hres.out], hb9⟩
  | true =>
    obtain ⟨c10, c11, f1⟩ := wide_cells k1
    have HK0 := Lib.hid k0
    have HK1 := Lib.hid k1
    have HK2 := Lib.hid k2
    clear k0 k1 k2
    go_wp2_with fail
    (with_reducible refine (HPOS.out _).mono ?_)
    rintro e w2 ⟨rfl, hb2⟩
    have k0 := (hb2.block _ (lt_of_heap HK0.out)).trans HK0.out
    have k1 := (hb2.block _ (lt_of_heap HK1.out)).trans HK1.out
    have k2 := (hb2.block _ (lt_of_heap HK2.out)).trans HK2.out
    have HBw2 := Lib.hid (HBw1.out.trans (hb2.mono HBw1.out.size))
    clear c10 c11 f1 hb2
    cases okp with
    | false =>
      obtain ⟨c20, c21, f2⟩ := wide_cells k2
      have HK22 := Lib.hid k2
      clear k0 k1 k2
      have hres : Hid (balF na sa nb sb = (emptyW, 2)) := by show _ = _; unfold balF; rw [← HOV.out, ← HOP.out]; rfl
      go_wp2
      have m2 := wide_set HK22.out false ⟨#[]⟩
      have hb9 := below_set2 (p := w.heap.size + 1 + 1) HBw2.out (by omega) false ⟨#[]⟩
      obtain ⟨d20, d21, -⟩ := wide_cells m2
      clear m2
      generalize (w2.setCell ⟨w.heap.size + 1 + 1, 0, none⟩ (.bool false)).setCell ⟨w.heap.size + 1 + 1, 1, none⟩ (.string ⟨#[]⟩) = W9 at d20 d21 hb9 ⊢
      rw [HP.out]
      exact bodyPost_ret (v := .tuple #[emptyW, .int .i64 2]) (by simp [results, Try.results36, go_sem, d20, d21]; rfl) rfl ⟨by rw [hres.out], hb9⟩
    | true =>
      have hp := HOP.out
      unfold posB at hp
      have hv1 : validB nb sb = true := by cases h : validB nb sb <;> rw [h] at hp <;> first | rfl | cases hp
      rw [hv1, Bool.true_and] at hp
      have hp2 : sb.size ≠ 0 ∧ nb = false := by
        have h := hp.symm
        rw [Bool.and_eq_true, decide_eq_true_eq] at h
        exact ⟨h.1, by cases nb with
          | false => rfl
          | true => cases h.2⟩
      obtain ⟨h0, hnb⟩ := hp2
      subst hnb
      obtain ⟨l1, -, -, s256a⟩ := valid_spec na sa HOV.out.symm
      obtain ⟨l2, hmg, -, s256b⟩ := valid_spec false sb hv1
      have hofA : Hid (∀ W : World, Calls Try.prog 58 #[.agg #[.bool na, .string sa]] W (NumRet W (numB sa))) := of_wide na sa (by omega)
      have hofB : Hid (∀ W : World, Calls Try.prog 58 #[.agg #[.bool false, .string sb]] W (NumRet W (numB sb))) := of_wide false sb (by omega)
      have hD2 := hD HOV.out.symm hv1 h0
      have hB0 : numB sb ≠ 0 := by
        intro h
        rw [h] at hmg
        exact h0 (by rw [← hmg]; rfl)
      have hwa := wd_len65 l1
      have hwb := wd_len65 l2
      have hres : balF na sa false sb = (outZ (balZ (zV na sa) (zV false sb)), errZ (balZ (zV na sa) (zV false sb))) := by
        unfold balF; rw [← HOV.out, ← HOP.out]; rfl
      unfold zV at hres
      obtain ⟨A, hA⟩ : ∃ A, A = numB sa := ⟨_, rfl⟩
      obtain ⟨C, hC⟩ : ∃ C, C = numB sb := ⟨_, rfl⟩
      rw [← hA, ← hC] at hres
      rw [← hA] at hofA hwa
      rw [← hC] at hofB hB0 hwb
      rw [← hA, ← hC] at hD2
      obtain ⟨-, fz2⟩ := floor_z A na C false hB0
      have HFL : Hid (∀ (va vb : Value) (W : World), World.numR W va A → World.numR W vb C → Calls Try.prog 68 #[va, .bool na, vb, .bool false] W (FloorRet W A na C false)) := fun va vb W h1 h2 => floor_any A C na false hB0 hD2 (by omega) (by omega) va vb W h1 h2
      obtain ⟨r, hr⟩ : ∃ r, r = floorR A na C := ⟨_, rfl⟩
      have hrC : r < C := by
        rw [hr]
        have h3 := Nat.mod_lt A (show 0 < C by omega)
        unfold floorR
        split <;> omega
      have hwr : (wd r).length ≤ 64 := wd_len_le (Nat.le_of_lt hrC) hwb
      have hbz : balZ (zOf na A) (zOf false C) = if C < r * 2 ^ 1 then -((C - r : Nat) : Int) else (r : Int) := by
        unfold balZ
        rw [← fz2, ← hr, zOf_false]
        by_cases h : C < r * 2 ^ 1
        · rw [if_pos h, if_pos (by omega)]; omega
        · rw [if_neg h, if_neg (by omega)]
      rw [hbz] at hres
      have HRES := Lib.hid hres
      have HRR := Lib.hid hr
      obtain ⟨c00, c01, f0⟩ := wide_cells k0
      obtain ⟨c10, c11, f1⟩ := wide_cells k1
      have hl0 := lt_of_heap k0
      have hl1 := lt_of_heap k1
      have HK02 := Lib.hid k0
      have HK22 := Lib.hid k2
      have HWR := Lib.hid hwr
      have HWB := Lib.hid hwb
      clear hres hD2 hB0 hwa hwb hwr fz2 hA hC hmg l1 l2 h0 hr hbz k0 k1 k2 hv1 hp
      go_wp2_with fail
      (with_reducible refine (hofB.out _).mono ?_)
      rintro e w3 hy
      obtain ⟨vy, rfl, hoy, hby⟩ := hy
      have HY : Hid (World.numR w3 vy C) := hoy.reads
      obtain ⟨ay, cy, rfl⟩ := numR_shape HY.out
      have d0 := (hby.cell (p := ⟨w.heap.size, 0, none⟩) hl0).trans c00
      have d1 := (hby.cell (p := ⟨w.heap.size, 1, none⟩) hl0).trans c01
      have hm0 := Nat.lt_of_lt_of_le hl0 hby.size
      have HK23 := Lib.hid ((hby.block _ (lt_of_heap HK22.out)).trans HK22.out)
      have HBw3 := Lib.hid (HBw2.out.trans (hby.mono HBw2.out.size))
      clear hoy hby c00 c01 f0 c10 c11 f1 hl0 hl1
      go_wp2_with fail
      go_region_held3 (fun w' => (w'.cell? ⟨w.heap.size, 0, none⟩ = some (.bool na) ∧ w'.cell? ⟨w.heap.size, 1, none⟩ = some (.string sa)))
        (first | exact ⟨d0, d1⟩ | (refine ⟨?_, ?_⟩ <;> assumption))
        (first
          | (go_simp; go_at_call 58; (with_reducible refine (hofA.out _).mono ?_); rintro e w5 ⟨v5, rfl, ho5, hb5⟩; have H5 : Hid (NumRet _ A (.returned v5) w5) := ⟨v5, rfl, ho5, hb5⟩; have a0 := (hb5.cell (p := ⟨w.heap.size, 0, none⟩) hm0).trans d0; have a1 := (hb5.cell (p := ⟨w.heap.size, 1, none⟩) hm0).trans d1; have hn0 := Nat.lt_of_lt_of_le hm0 hb5.size; clear ho5 hb5)
          | (go_simp; go_at_call 68; (with_reducible refine (HFL.out _ _ _ H5.out.numR (numR_below HY.out H5.out.belD)).mono ?_); rintro e w7 ⟨v7, u7, rfl, hq7, hr7, hb7⟩; have HQ7 : Hid (World.numR w7 v7 (floorN A na C)) := hq7; have HR7 : Hid (World.numR w7 u7 (floorR A na C)) := hr7; have HB7 := Lib.hid hb7; have b0 := (hb7.cell (p := ⟨w.heap.size, 0, none⟩) hn0).trans a0; have b1 := (hb7.cell (p := ⟨w.heap.size, 1, none⟩) hn0).trans a1; clear hq7 hr7 hb7))
      have hb35 := H5.out.belD
      have hb37 : Below w3.heap.size w3 w7 := hb35.trans (HB7.out.mono hb35.size)
      have HY7 := Lib.hid (numR_below HY.out hb37)
      have HK27 := Lib.hid ((hb37.block _ (lt_of_heap HK23.out)).trans HK23.out)
      have HBw7 := Lib.hid (HBw3.out.trans (hb37.mono HBw3.out.size))
      rw [← HRR.out] at HR7
      obtain ⟨a7, c7, rfl⟩ := numR_shape HQ7.out
      obtain ⟨a8, c8, rfl⟩ := numR_shape HR7.out
      have hlr := left_num r 1 (by omega) _ w7 HR7.out (by have := HWR.out; omega) 1 rfl
      have HLR := Lib.hid hlr
      clear hb35 hb37 a0 a1 b0 b1 d0 d1 hm0 hn0 hlr
      go_wp2_with fail
      (with_reducible refine (HLR.out).mono ?_)
      rintro e w8 hr8
      obtain ⟨v8, rfl, ho8, hb8⟩ := hr8
      have HN8 : Hid (World.numR w8 v8 (r * 2 ^ 1)) := ho8.reads
      have HY8 := Lib.hid (numR_below HY7.out hb8)
      have HR8 := Lib.hid (numR_below HR7.out hb8)
      have HK28 := Lib.hid ((hb8.block _ (lt_of_heap HK27.out)).trans HK27.out)
      have HBw8 := Lib.hid (HBw7.out.trans (hb8.mono HBw7.out.size))
      have hcmp := compare_num (r * 2 ^ 1) C _ _ w8 HN8.out HY8.out (by have := wd_len_double HWR.out; omega) (by have := HWB.out; omega)
      obtain ⟨T, hT⟩ : ∃ T, T = cmpN (r * 2 ^ 1) C := ⟨_, rfl⟩
      rw [← hT] at hcmp
      have HCMP := Lib.hid hcmp
      clear ho8 hb8 hcmp
      by_cases hlt : C < r * 2 ^ 1
      · have ht1 : T = 1 := by rw [hT, cmpN, if_neg (by omega), if_pos hlt]
        have hres : Hid (balF na sa false sb = (outZ (zOf true (C - r)), errZ (zOf true (C - r)))) := by show _ = _; rw [HRES.out, if_pos hlt]; rfl
        subst ht1
        clear hT hlt
        go_wp2_with fail
        (with_reducible refine (HCMP.out).mono ?_)
        rintro e w9 ⟨rfl, n9, rfl⟩
        have hmin := minus_any C r (Nat.le_of_lt hrC) _ _ (w8.drewN n9) (reads_drewN HY8.out n9) (reads_drewN HR8.out n9) (by have := HWB.out; omega) (by have := HWR.out; omega)
        have HMIN := Lib.hid hmin
        clear hmin
        go_wp2_with fail
        (with_reducible refine (HMIN.out).mono ?_)
        rintro e w10 hr10
        obtain ⟨v10, rfl, ho10, hb10⟩ := hr10
        have HN10 : Hid (World.numR w10 v10 (C - r)) := ho10.reads
        have HK210 := Lib.hid ((hb10.block _ (show w.heap.size + 1 + 1 < (w8.drewN n9).heap.size from lt_of_heap HK28.out)).trans HK28.out)
        have HBw10 : Hid (Below w.heap.size w w10) := (below_drewN HBw8.out n9).trans (hb10.mono (show w.heap.size ≤ (w8.drewN n9).heap.size from HBw8.out.size))
        clear ho10 hb10
        obtain ⟨fb, ft, hf1, hf2⟩ := form_numZ (C - r) true v10 w10 HN10.out (by have := wd_len_le (show C - r ≤ C by omega) HWB.out; omega)
        have HF := Lib.hid hf2
        rw [hf1] at hres
        obtain ⟨E, hE⟩ : ∃ E, E = errZ (zOf true (C - r)) := ⟨_, rfl⟩
        rw [← hE] at HF hres
        clear hf1 hf2 hE
        go_wp2_with fail
        (with_reducible refine (HF.out).mono ?_)
        rintro e w11 ⟨rfl, hb11⟩
        have k2 := (hb11.block _ (lt_of_heap HK210.out)).trans HK210.out
        have HBw11 := Lib.hid (HBw10.out.trans (hb11.mono HBw10.out.size))
        obtain ⟨c20, c21, f2⟩ := wide_cells k2
        have HK211 := Lib.hid k2
        clear k2 hb11
        go_wp2
        have m2 := wide_set HK211.out fb ft
        have hb9 := below_set2 (p := w.heap.size + 1 + 1) HBw11.out (by omega) fb ft
        obtain ⟨d20, d21, -⟩ := wide_cells m2
        clear m2
        generalize (w11.setCell ⟨w.heap.size + 1 + 1, 0, none⟩ (.bool fb)).setCell ⟨w.heap.size + 1 + 1, 1, none⟩ (.string ft) = W9 at d20 d21 hb9 ⊢
        rw [HP.out]
        exact bodyPost_ret (v := .tuple #[.agg #[.bool fb, .string ft], .int .i64 E]) (by simp [results, Try.results36, go_sem, d20, d21]) rfl ⟨by rw [hres.out], hb9⟩
      · have ht1 : T = 0 ∨ T = -1 := by
          rw [hT, cmpN]
          by_cases h : r * 2 ^ 1 < C
          · rw [if_pos h]; exact Or.inr rfl
          · rw [if_neg h, if_neg hlt]; exact Or.inl rfl
        have ht2 : ¬ 0 < T := by omega
        have hres : Hid (balF na sa false sb = (outZ (zOf false r), errZ (zOf false r))) := by show _ = _; rw [HRES.out, if_neg hlt]; rfl
        clear hT hlt ht1
        go_wp2_with fail
        (with_reducible refine (HCMP.out).mono ?_)
        rintro e w9 ⟨rfl, n9, rfl⟩
        obtain ⟨fb, ft, hf1, hf2⟩ := form_numZ r false _ (w8.drewN n9) (numR_drewN HR8.out n9) (by have := HWR.out; omega)
        have HF := Lib.hid hf2
        rw [hf1] at hres
        obtain ⟨E, hE⟩ : ∃ E, E = errZ (zOf false r) := ⟨_, rfl⟩
        rw [← hE] at HF hres
        have HK29 : Hid ((w8.drewN n9).heap[w.heap.size + 1 + 1]? = some (.cells #[.bool false, .string ⟨#[]⟩] 23)) := HK28.out
        have HBw9 : Hid (Below w.heap.size w (w8.drewN n9)) := below_drewN HBw8.out n9
        clear hf1 hf2 hE
        go_wp2_with fail
        (with_reducible refine (HF.out).mono ?_)
        rintro e w11 ⟨rfl, hb11⟩
        have k2 := (hb11.block _ (lt_of_heap HK29.out)).trans HK29.out
        have HBw11 := Lib.hid (HBw9.out.trans (hb11.mono HBw9.out.size))
        obtain ⟨c20, c21, f2⟩ := wide_cells k2
        have HK211 := Lib.hid k2
        clear k2 hb11
        go_wp2
        have m2 := wide_set HK211.out fb ft
        have hb9 := below_set2 (p := w.heap.size + 1 + 1) HBw11.out (by omega) fb ft
        obtain ⟨d20, d21, -⟩ := wide_cells m2
        clear m2
        generalize (w11.setCell ⟨w.heap.size + 1 + 1, 0, none⟩ (.bool fb)).setCell ⟨w.heap.size + 1 + 1, 1, none⟩ (.string ft) = W9 at d20 d21 hb9 ⊢
        rw [HP.out]
        exact bodyPost_ret (v := .tuple #[.agg #[.bool fb, .string ft], .int .i64 E]) (by simp [results, Try.results36, go_sem, d20, d21]) rfl ⟨by rw [hres.out], hb9⟩
end Go.Proofs.Ytdfklcmiagmgaaa
