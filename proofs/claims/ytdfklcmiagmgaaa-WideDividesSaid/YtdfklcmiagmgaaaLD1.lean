/- Walks: the law of quotients. -/
import Derived.Test.YtdfklcmiagmgaaaLS1
import Derived.Test.YtdfklcmiagmgaaaXD4
import Derived.Test.YtdfklcmiagmgaaaXE7
import Derived.Test.YtdfklcmiagmgaaaXE6
import Derived.Test.YtdfklcmiagmgaaaXE5
import Derived.Test.YtdfklcmiagmgaaaXE4
import Derived.Test.YtdfklcmiagmgaaaWE4
namespace Go.Proofs.Ytdfklcmiagmgaaa
set_option linter.all false
open Go.RowKit Go.Shelf Go.WideNum
theorem div_agg (na : Bool) (sa : ByteArray) (nb : Bool) (sb : ByteArray) : ∃ fq tq fr tr E, divF na sa nb sb = (.agg #[.bool fq, .string tq], .agg #[.bool fr, .string tr], E) := by
  unfold divF
  split
  · obtain ⟨b, t, h⟩ := outZ_agg (zV na sa / zV nb sb)
    obtain ⟨c, u, h2⟩ := outZ_agg (zV na sa % zV nb sb)
    exact ⟨b, t, c, u, _, by rw [h, h2]⟩
  · exact ⟨_, _, _, _, _, rfl⟩
theorem bal_agg (na : Bool) (sa : ByteArray) (nb : Bool) (sb : ByteArray) : ∃ fb ft E, balF na sa nb sb = (.agg #[.bool fb, .string ft], E) := by
  unfold balF
  split
  · obtain ⟨b, t, h⟩ := outZ_agg (balZ (zV na sa) (zV nb sb))
    exact ⟨b, t, _, by rw [h]⟩
  · exact ⟨_, _, _, rfl⟩
theorem round_agg (na : Bool) (sa : ByteArray) (nb : Bool) (sb : ByteArray) : ∃ fb ft E, roundF na sa nb sb = (.agg #[.bool fb, .string ft], E) := by
  unfold roundF
  split
  · obtain ⟨b, t, h⟩ := outZ_agg (roundZ (zV na sa) (zV nb sb))
    exact ⟨b, t, _, by rw [h]⟩
  · exact ⟨_, _, _, rfl⟩
theorem div_all : DivAll := fun A C hC hla hlc => by
  by_cases hs : A < C ∨ C < 4294967296
  · exact divide_small A C hC hs (by omega) (by omega)
  · exact divide_big A C (by omega) (by omega) (by omega)
theorem div_valid (na : Bool) (sa : ByteArray) (nb : Bool) (sb : ByteArray) (ha : validB na sa = true) (hb : validB nb sb = true) (h0 : sb.size ≠ 0) : DivOK (numB sa) (numB sb) := by
  obtain ⟨l1, -, -, -⟩ := valid_spec na sa ha
  obtain ⟨l2, hmg, -, -⟩ := valid_spec nb sb hb
  have h1 := wd_len65 l1
  have h2 := wd_len65 l2
  exact div_all _ _ (fun h => by rw [h] at hmg; exact h0 (by rw [← hmg]; rfl)) (by omega) (by omega)
theorem u32_nat {z : Int} (h : (Lit.int .u32 z).wf = true) : ∃ n : Nat, n < 4294967296 ∧ z = (n : Int) := by
  have h2 : IntKind.u32.min ≤ z ∧ z ≤ IntKind.u32.max := by simpa [Lit.wf] using h
  have h3 : IntKind.u32.min = 0 := by decide
  have h4 : IntKind.u32.max = 4294967295 := by decide
  exact ⟨z.toNat, by omega, by omega⟩
set_option maxRecDepth 100000 in
set_option maxHeartbeats 8000000 in
theorem divides_law (nx : Bool) (sx : ByteArray) (hsx : sx.size ≤ maxLen) (ny : Bool) (sy : ByteArray) (hsy : sy.size ≤ maxLen) (nz : Int) (hwf : (Lit.int .u32 nz).wf = true) (w : World) :
    Calls Try.prog 8 #[.agg #[.bool nx, .string sx], .agg #[.bool ny, .string sy], .int .u32 nz] w fun e w' => e = .returned (.bool true) ∧ Below w.heap.size w w' := by
  obtain ⟨n, hn, rfl⟩ := u32_nat hwf
  clear hwf
  have HSH := Lib.hid shown_any
  obtain ⟨bq, tq, br, tr, E1, h1⟩ := div_agg nx sx ny sy
  obtain ⟨b2, t2, E2, h2⟩ := round_agg nx sx ny sy
  obtain ⟨b3, t3, E3, h3⟩ := bal_agg nx sx ny sy
  obtain ⟨⟨r4, E4⟩, h4⟩ : ∃ X, modF nx sx n = X := ⟨_, rfl⟩
  have HP1 : Hid (∀ W : World, Calls Try.prog 32 #[.agg #[.bool nx, .string sx], .agg #[.bool ny, .string sy]] W fun e w' => e = .returned (.tuple #[.agg #[.bool bq, .string tq], .agg #[.bool br, .string tr], .int .i64 E1]) ∧ Below W.heap.size W w') := fun W => by
    have := Div_any nx sx ny sy hsx hsy (div_valid nx sx ny sy) W
    rwa [h1] at this
  have HR1 := Lib.hid (refDiv_any nx sx ny sy hsx hsy bq tq br tr E1 h1)
  have HP2 := Lib.hid (Round_any div_all nx sx ny sy hsx hsy b2 t2 E2 h2)
  have HR2 := Lib.hid (refRound_any nx sx ny sy hsx hsy b2 t2 E2 h2)
  have HP3 : Hid (∀ W : World, Calls Try.prog 36 #[.agg #[.bool nx, .string sx], .agg #[.bool ny, .string sy]] W fun e w' => e = .returned (.tuple #[.agg #[.bool b3, .string t3], .int .i64 E3]) ∧ Below W.heap.size W w') := fun W => by
    have := Balanced_any nx sx ny sy hsx hsy (div_valid nx sx ny sy) W
    rwa [h3] at this
  have HR3 := Lib.hid (refBalanced_any nx sx ny sy hsx hsy b3 t3 E3 h3)
  have HP4 := Lib.hid (Mod_any nx sx hsx n hn r4 E4 h4)
  have HR4 := Lib.hid (refMod_any nx sx hsx n hn r4 E4 h4)
  clear h1 h2 h3 h4
  obtain ⟨W0, hW0⟩ : ∃ W0, W0 = (w.alloc (.cells #[.bool nx, .string sx] 23)).alloc (.cells #[.bool ny, .string sy] 23) := ⟨_, rfl⟩
  have g0 : W0.heap[w.heap.size]? = some (.cells #[.bool nx, .string sx] 23) := by rw [hW0, Below.heap_alloc _ _ _ (by simp)]; exact heap_alloc_new w _
  have g1 : W0.heap[w.heap.size + 1]? = some (.cells #[.bool ny, .string sy] 23) := by rw [hW0]; exact alloc_last _ _ (by simp)
  have hb0 : Below w.heap.size w W0 := by rw [hW0]; exact (((Below.refl _ w).alloc (Nat.le_refl _) _).alloc (by simp) _)
  have HB0 := Lib.hid hb0
  have HG0 := Lib.hid g0
  have HG1 := Lib.hid g1
  have hcx : Hid (∀ W, Below W0.heap.size W0 W → W.cell? ⟨w.heap.size, 0, none⟩ = some (.bool nx) ∧ W.cell? ⟨w.heap.size, 1, none⟩ = some (.string sx) ∧ W.cell? ⟨w.heap.size + 1, 0, none⟩ = some (.bool ny) ∧ W.cell? ⟨w.heap.size + 1, 1, none⟩ = some (.string sy)) :=
    fun W hb => keep4 ((hb.block _ (lt_of_heap g0)).trans g0) ((hb.block _ (lt_of_heap g1)).trans g1)
  have hl0 := lt_of_heap g0
  have hl1 := lt_of_heap g1
  obtain ⟨c00, c01, f0⟩ := wide_cells g0
  obtain ⟨c10, c11, f1⟩ := wide_cells g1
  have HW0 := Lib.hid hW0
  clear hb0 g0 g1 hW0
  go_enter Try.func8, Try.ntmps8
  go_upto_region 1 with (fail)
  rw [← HW0.out]
  go_wp2_with fail
  obtain ⟨gr, hgr⟩ : ∃ gr, gr = (decide (300 < sx.size) || decide (300 < sy.size)) := ⟨_, rfl⟩
  have hgreat := great2 nx sx ny sy hsx hsy (W0.alloc (.cells #[.bool nx, .string sx, .bool ny, .string sy] 23)) W0.heap.size (heap_alloc_new W0 _)
  rw [← hgr] at hgreat
  have hb1 : Below W0.heap.size W0 (W0.alloc (.cells #[.bool nx, .string sx, .bool ny, .string sy] 23)) := (Below.refl _ W0).alloc (Nat.le_refl _) _
  (with_reducible refine hgreat.mono ?_)
  clear hgreat hgr c00 c01 f0 c10 c11 f1
  rintro e w1 ⟨rfl, rfl⟩
  generalize W0.alloc (.cells #[.bool nx, .string sx, .bool ny, .string sy] 23) = w1 at hb1 ⊢
  have HB1 := Lib.hid hb1
  clear hb1
  cases gr with
  | true =>
    go_wp2_with fail
    (with_reducible refine (HSH.out _).mono ?_)
    rintro e w2 ⟨rfl, hb2⟩
    have HB2 := Lib.hid (HB0.out.trans ((below_via HB1.out hb2).mono HB0.out.size))
    clear hb2
    go_wp2
    go_ret
    exact ⟨rfl, HB2.out⟩
  | false =>
    obtain ⟨c00, c01, c10, c11⟩ := hcx.out w1 HB1.out
    go_wp2_with fail
    (with_reducible refine (HP1.out _).mono ?_)
    rintro e w2 ⟨rfl, hb2⟩
    have hbv := below_via HB1.out hb2
    have hbx := hb2.size
    clear c00 c01 c10 c11
    go_upto_region 4 with (fail)
    generalize hwa : ((w2.alloc (.cells #[.bool bq, .string tq] 23)).alloc (.cells #[.bool br, .string tr] 23)) = wa
    obtain ⟨p, hp⟩ : ∃ p, p = w2.heap.size := ⟨_, rfl⟩
    have kp0 : wa.heap[p]? = some (.cells #[.bool bq, .string tq] 23) := by rw [hp, ← hwa, Below.heap_alloc _ _ _ (by simp)]; exact heap_alloc_new w2 _
    have kp1 : wa.heap[p + 1]? = some (.cells #[.bool br, .string tr] 23) := by rw [hp, ← hwa]; exact alloc_last _ _ (by simp)
    have hba : Below W0.heap.size W0 wa := by rw [← hwa]; exact (hbv.alloc hbv.size _).alloc (by simp; have := hbv.size; omega) _
    rw [← hp]
    have KP0 := Lib.hid kp0
    have KP1 := Lib.hid kp1
    have HBA := Lib.hid hba
    obtain ⟨c00, c01, c10, c11⟩ := hcx.out _ hba
    clear kp0 kp1 hba hp hwa hbv hbx hb2
    go_wp2_with fail
    (with_reducible refine (HR1.out _).mono ?_)
    rintro e w3 ⟨rfl, hb2⟩
    have hbv := below_via HBA.out hb2
    have hbx := hb2.size
    clear c00 c01 c10 c11
    go_upto_region 5 with (fail)
    generalize hwb : ((w3.alloc (.cells #[.bool bq, .string tq] 23)).alloc (.cells #[.bool br, .string tr] 23)) = wb
    obtain ⟨q, hq⟩ : ∃ p, p = w3.heap.size := ⟨_, rfl⟩
    have kq0 : wb.heap[q]? = some (.cells #[.bool bq, .string tq] 23) := by rw [hq, ← hwb, Below.heap_alloc _ _ _ (by simp)]; exact heap_alloc_new w3 _
    have kq1 : wb.heap[q + 1]? = some (.cells #[.bool br, .string tr] 23) := by rw [hq, ← hwb]; exact alloc_last _ _ (by simp)
    have hba : Below W0.heap.size W0 wb := by rw [← hwb]; exact (hbv.alloc hbv.size _).alloc (by simp; have := hbv.size; omega) _
    rw [← hq]
    have hwab : Below wa.heap.size wa wb := by rw [← hwb]; exact (hb2.alloc hb2.size _).alloc (by simp; have := hb2.size; omega) _
    obtain ⟨p0, p1, -⟩ := wide_cells (wide_hold (w := wa) KP0.out hwab)
    obtain ⟨r0, r1, -⟩ := wide_cells (wide_hold (w := wa) KP1.out hwab)
    obtain ⟨q0, q1, -⟩ := wide_cells kq0
    obtain ⟨s0, s1, -⟩ := wide_cells kq1
    obtain ⟨c00, c01, c10, c11⟩ := hcx.out _ hba
    have HBB := Lib.hid hba
    clear kq0 kq1 hba hq hwb hbv hbx hb2 hwab
    go_wp2_with fail
    clear c00 c01 c10 c11 p0 p1 q0 q1 r0 r1 s0 s1
    (with_reducible refine (HP2.out _).mono ?_)
    rintro e w4 ⟨rfl, hb2⟩
    have hbv := below_via HBB.out hb2
    go_upto_region 8 with (fail)
    generalize hwc : w4.alloc (.cells #[.bool b2, .string t2] 23) = wc
    have HGA : Hid (wc.heap[w4.heap.size]? = some (.cells #[.bool b2, .string t2] 23)) := by rw [← hwc]; exact heap_alloc_new w4 _
    have hba : Below W0.heap.size W0 wc := by rw [← hwc]; exact hbv.alloc hbv.size _
    obtain ⟨c00, c01, c10, c11⟩ := hcx.out _ hba
    have HBA2 := Lib.hid hba
    obtain ⟨u, hu⟩ : ∃ p, p = w4.heap.size := ⟨_, rfl⟩
    have hpz : W0.heap.size ≤ u := by rw [hu]; exact hbv.size
    rw [← hu] at HGA ⊢
    clear hu hwc hba hbv hb2
    go_wp2_with fail
    clear c00 c01 c10 c11
    (with_reducible refine (HR2.out _).mono ?_)
    rintro e w5 ⟨rfl, hb3⟩
    have hbv := below_via HBA2.out hb3
    go_upto_region 9 with (fail)
    generalize hwd : w5.alloc (.cells #[.bool b2, .string t2] 23) = wd
    have hbb : Below wc.heap.size wc wd := by rw [← hwd]; exact hb3.alloc hb3.size _
    have hba : Below W0.heap.size W0 wd := below_via HBA2.out hbb
    have hgq : wd.heap[w5.heap.size]? = some (.cells #[.bool b2, .string t2] 23) := by rw [← hwd]; exact heap_alloc_new w5 _
    have hgp := wide_hold (w := wc) HGA.out hbb
    obtain ⟨v, hv⟩ : ∃ p, p = w5.heap.size := ⟨_, rfl⟩
    have hpq : u ≠ v := by have := lt_of_heap HGA.out; have := hb3.size; omega
    have hqz : W0.heap.size ≤ v := by rw [hv]; exact hbv.size
    rw [← hv] at hgq ⊢
    obtain ⟨c00, c01, c10, c11⟩ := hcx.out _ hba
    obtain ⟨p0, p1, -⟩ := wide_cells hgp
    obtain ⟨q0, q1, -⟩ := wide_cells hgq
    have HGP := Lib.hid hgp
    have HGQ := Lib.hid hgq
    have HB := Lib.hid hba
    clear hv hwd hbb hba hgq hgp hbv hb3 HGA HBA2
    go_wp2_with fail
    clear c00 c01 c10 c11 p0 p1 q0 q1
    (with_reducible refine (HP3.out _).mono ?_)
    rintro e x3a ⟨rfl, hbu⟩
    have hgp := wide_hold (w := wd) HGP.out hbu
    have hgq := wide_hold (w := wd) HGQ.out hbu
    have hba := below_via HB.out hbu
    have hpw := wide_set hgp b3 t3
    have hqw := (wide_other (W := x3a) (p := v) (q := u) (Ne.symm hpq) b3 t3).trans hgq
    have hbw : Below W0.heap.size W0 ((x3a.setCell ⟨u, 0, none⟩ (.bool b3)).setCell ⟨u, 1, none⟩ (.string t3)) := (hba.setCell hpz _).setCell hpz _
    obtain ⟨p0, p1, fp⟩ := wide_cells hgp
    obtain ⟨c00, c01, c10, c11⟩ := hcx.out _ hbw
    have HGP3 := Lib.hid hpw
    have HGQ3 := Lib.hid hqw
    have HB3 := Lib.hid hbw
    clear hbu hgp hgq hba hpw hqw hbw HGP HGQ HB
    go_wp2_with fail
    generalize (x3a.setCell ⟨u, 0, none⟩ (.bool b3)).setCell ⟨u, 1, none⟩ (.string t3) = x3 at HGP3 HGQ3 HB3 c00 c01 c10 c11 ⊢
    clear c00 c01 c10 c11 p0 p1 fp
    (with_reducible refine (HR3.out _).mono ?_)
    rintro e y3 ⟨rfl, hbu⟩
    have hgp := wide_hold (w := x3) HGP3.out hbu
    have hgq := wide_hold (w := x3) HGQ3.out hbu
    have hba := below_via HB3.out hbu
    have hqw := wide_set hgq b3 t3
    have hpw := (wide_other (W := y3) (p := u) (q := v) hpq b3 t3).trans hgp
    have hbw : Below W0.heap.size W0 ((y3.setCell ⟨v, 0, none⟩ (.bool b3)).setCell ⟨v, 1, none⟩ (.string t3)) := (hba.setCell hqz _).setCell hqz _
    obtain ⟨i0, i1, fq⟩ := wide_cells hgq
    obtain ⟨c00, c01, c10, c11⟩ := hcx.out _ hbw
    obtain ⟨p0, p1, -⟩ := wide_cells hpw
    obtain ⟨q0, q1, -⟩ := wide_cells hqw
    have HGP := Lib.hid hpw
    have HGQ := Lib.hid hqw
    have HB := Lib.hid hbw
    clear hbu hgp hgq hba hpw hqw hbw HGP3 HGQ3 HB3
    go_wp2_with fail
    generalize (y3.setCell ⟨v, 0, none⟩ (.bool b3)).setCell ⟨v, 1, none⟩ (.string t3) = we at HGP HGQ HB c00 c01 c10 c11 p0 p1 q0 q1 ⊢
    clear p0 p1 fq q0 q1 i0 i1 c00 c01 c10 c11
    (with_reducible refine (HP4.out _).mono ?_)
    rintro e w6 ⟨rfl, hb6⟩
    have HB6 := Lib.hid (below_via HB.out hb6)
    obtain ⟨c00, c01, c10, c11⟩ := hcx.out _ HB6.out
    clear hb6
    go_wp2_with fail
    clear c00 c01 c10 c11
    (with_reducible refine (HR4.out _).mono ?_)
    rintro e w7 ⟨rfl, hb7⟩
    have HB7 := Lib.hid (below_via HB6.out hb7)
    clear hb7
    go_wp2_with fail
    (with_reducible refine (HSH.out _).mono ?_)
    rintro e w9 ⟨rfl, hb9⟩
    have HB9 := Lib.hid (HB0.out.trans ((below_via HB7.out hb9).mono HB0.out.size))
    clear hb9
    go_wp2
    go_ret
    exact ⟨rfl, HB9.out⟩
end Go.Proofs.Ytdfklcmiagmgaaa
