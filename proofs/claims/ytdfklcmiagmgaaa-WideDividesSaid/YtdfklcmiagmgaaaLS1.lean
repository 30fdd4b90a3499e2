/- Walks: the law of sums. -/
import Derived.Test.YtdfklcmiagmgaaaXS1
import Derived.Test.YtdfklcmiagmgaaaLB1
import Derived.Test.YtdfklcmiagmgaaaWE3
import Derived.Test.YtdfklcmiagmgaaaWE2
namespace Go.Proofs.Ytdfklcmiagmgaaa
set_option linter.all false
open Go.RowKit Go.Shelf Go.WideNum
theorem op_agg (f : Int → Int → Int) (na : Bool) (sa : ByteArray) (nb : Bool) (sb : ByteArray) : ∃ fb ft E, opF f na sa nb sb = (.agg #[.bool fb, .string ft], E) := by
  unfold opF
  split
  · obtain ⟨b, t, h⟩ := outZ_agg (f (zV na sa) (zV nb sb))
    exact ⟨b, t, _, by rw [h]⟩
  · exact ⟨_, _, _, rfl⟩
theorem prog_op {f : Int → Int → Int} {F : Nat} {na : Bool} {sa : ByteArray} {nb : Bool} {sb : ByteArray} {fb : Bool} {ft : ByteArray} {E : Int} (hop : opF f na sa nb sb = (.agg #[.bool fb, .string ft], E))
    (h : ∀ W : World, Calls Try.prog F #[.agg #[.bool na, .string sa], .agg #[.bool nb, .string sb]] W fun e w' => e = .returned (.tuple #[(opF f na sa nb sb).1, .int .i64 (opF f na sa nb sb).2]) ∧ Below W.heap.size W w') (W : World) :
    Calls Try.prog F #[.agg #[.bool na, .string sa], .agg #[.bool nb, .string sb]] W fun e w' => e = .returned (.tuple #[.agg #[.bool fb, .string ft], .int .i64 E]) ∧ Below W.heap.size W w' := by
  have := h W
  rwa [hop] at this
theorem bytes_eq (t : ByteArray) : (t.toList == t.toList) = true := by simp
set_option maxRecDepth 100000 in
set_option maxHeartbeats 8000000 in
theorem sums_law (nx : Bool) (sx : ByteArray) (hsx : sx.size ≤ maxLen) (ny : Bool) (sy : ByteArray) (hsy : sy.size ≤ maxLen) (w : World) :
    Calls Try.prog 6 #[.agg #[.bool nx, .string sx], .agg #[.bool ny, .string sy]] w fun e w' => e = .returned (.bool true) ∧ Below w.heap.size w w' := by
  have HSH := Lib.hid shown_any
  obtain ⟨b1, t1, E1, h1⟩ := op_agg (fun a b => a + b) nx sx ny sy
  obtain ⟨b2, t2, E2, h2⟩ := op_agg (fun a b => a - b) nx sx ny sy
  obtain ⟨b3, t3, E3, h3⟩ := op_agg (fun a b => a * b) nx sx ny sy
  have HP1 := Lib.hid (prog_op h1 (Add_any nx sx ny sy hsx hsy))
  have HR1 := Lib.hid (refAdd_any nx sx ny sy hsx hsy b1 t1 E1 h1)
  have HP2 := Lib.hid (prog_op h2 (Sub_any nx sx ny sy hsx hsy))
  have HR2 := Lib.hid (refSub_any nx sx ny sy hsx hsy b2 t2 E2 h2)
  have HP3 := Lib.hid (prog_op h3 (Mul_any nx sx ny sy hsx hsy))
  have HR3 := Lib.hid (refMul_any nx sx ny sy hsx hsy b3 t3 E3 h3)
  clear h1 h2 h3
  obtain ⟨W0, hW0⟩ : ∃ W0, W0 = (w.alloc (.cells #[.bool nx, .string sx] 23)).alloc (.cells #[.bool ny, .string sy] 23) := ⟨_, rfl⟩
  have g0 : W0.heap[w.heap.size]? = some (.cells #[.bool nx, .string sx] 23) := by rw [hW0, Below.heap_alloc _ _ _ (by simp)]; exact heap_alloc_new w _
  have g1 : W0.heap[w.heap.size + 1]? = some (.cells #[.bool ny, .string sy] 23) := by rw [hW0]; exact alloc_last _ _ (by simp)
  have hb0 : Below w.heap.size w W0 := by rw [hW0]; exact (((Below.refl _ w).alloc (Nat.le_refl _) _).alloc (by simp) _)
  have HB0 := Lib.hid hb0
  have HG0 := Lib.hid g0
  have HG1 := Lib.hid g1
  have hcx : Hid (∀ W, Below W0.heap.size W0 W → W.cell? ⟨w.heap.size, 0, none⟩ = some (.bool nx) ∧ W.cell? ⟨w.heap.size, 1, none⟩ = some (.string sx) ∧ W.cell? ⟨w.heap.size + 1, 0, none⟩ = some (.bool ny) ∧ W.cell? ⟨w.heap.size + 1, 1, none⟩ = some (.string sy)) :=
    fun W hb => keep4 ((hb.block _ (lt_of_heap g0)).trans g0) ((hb.block _ (lt_of_heap g1)).trans g1)
  have hl0 := lt_of_heap g0
  have hl1 := lt_of_heap g1
  obtain ⟨c00, c01, f0⟩ := wide_cells g0
  obtain ⟨c10, c11, f1⟩ := wide_cells g1
  have HW0 := Lib.hid hW0
  clear hb0 g0 g1 hW0
  go_enter Try.func6, Try.ntmps6
  go_upto_region 1 with (fail)
  rw [← HW0.out]
  go_wp2_with fail
  obtain ⟨gr, hgr⟩ : ∃ gr, gr = (decide (300 < sx.size) || decide (300 < sy.size)) := ⟨_, rfl⟩
  have hgreat := great2 nx sx ny sy hsx hsy (W0.alloc (.cells #[.bool nx, .string sx, .bool ny, .string sy] 23)) W0.heap.size (heap_alloc_new W0 _)
  rw [← hgr] at hgreat
  have hb1 : Below W0.heap.size W0 (W0.alloc (.cells #[.bool nx, .string sx, .bool ny, .string sy] 23)) := (Below.refl _ W0).alloc (Nat.le_refl _) _
  (with_reducible refine hgreat.mono ?_)
  clear hgreat hgr c00 c01 f0 c10 c11 f1
  rintro e w1 ⟨rfl, rfl⟩
  generalize W0.alloc (.cells #[.bool nx, .string sx, .bool ny, .string sy] 23) = w1 at hb1 ⊢
  have HB1 := Lib.hid hb1
  clear hb1
  cases gr with
  | true =>
    go_wp2_with fail
    (with_reducible refine (HSH.out _).mono ?_)
    rintro e w2 ⟨rfl, hb2⟩
    have HB2 := Lib.hid (HB0.out.trans ((below_via HB1.out hb2).mono HB0.out.size))
    clear hb2
    go_wp2
    go_ret
    exact ⟨rfl, HB2.out⟩
  | false =>
    obtain ⟨c00, c01, c10, c11⟩ := hcx.out w1 HB1.out
    go_wp2_with fail
    (with_reducible refine (HP1.out _).mono ?_)
    rintro e w2 ⟨rfl, hb2⟩
    have HB2 := Lib.hid (below_via HB1.out hb2)
    clear c00 c01 c10 c11
    have hgp : (w2.alloc (.cells #[.bool b1, .string t1] 23)).heap[w2.heap.size]? = some (.cells #[.bool b1, .string t1] 23) := heap_alloc_new w2 _
    have hba : Below W0.heap.size W0 (w2.alloc (.cells #[.bool b1, .string t1] 23)) := HB2.out.alloc HB2.out.size _
    obtain ⟨c00, c01, c10, c11⟩ := hcx.out _ hba
    have HGA := Lib.hid hgp
    have HBA := Lib.hid hba
    clear hgp hba hb2
    go_wp2_with fail
    obtain ⟨p, hp⟩ : ∃ p, p = w2.heap.size := ⟨_, rfl⟩
    have hpz : W0.heap.size ≤ p := by rw [hp]; exact HB2.out.size
    rw [← hp] at HGA ⊢
    generalize w2.alloc (.cells #[.bool b1, .string t1] 23) = wa at HGA HBA c00 c01 c10 c11 ⊢
    clear hp c00 c01 c10 c11 HB2
    (with_reducible refine (HR1.out _).mono ?_)
    rintro e w3 ⟨rfl, hb3⟩
    have hbb : Below wa.heap.size wa (w3.alloc (.cells #[.bool b1, .string t1] 23)) := hb3.alloc hb3.size _
    have hba : Below W0.heap.size W0 (w3.alloc (.cells #[.bool b1, .string t1] 23)) := below_via HBA.out hbb
    have hgq : (w3.alloc (.cells #[.bool b1, .string t1] 23)).heap[w3.heap.size]? = some (.cells #[.bool b1, .string t1] 23) := heap_alloc_new w3 _
    have hgp := wide_hold (w := wa) HGA.out hbb
    obtain ⟨c00, c01, c10, c11⟩ := hcx.out _ hba
    obtain ⟨p0, p1, fp⟩ := wide_cells hgp
    obtain ⟨q0, q1, fq⟩ := wide_cells hgq
    have HGP := Lib.hid hgp
    have HGQ := Lib.hid hgq
    have HB3 := Lib.hid hba
    have HQ3 : Hid (w3.heap.size ≥ wa.heap.size) := hb3.size
    clear hgp hgq hba hbb hb3
    go_wp2_with fail
    obtain ⟨q, hq⟩ : ∃ p, p = w3.heap.size := ⟨_, rfl⟩
    have hpq : p ≠ q := by have := lt_of_heap HGA.out; have := HQ3.out; omega
    have hqz : W0.heap.size ≤ q := by have := HBA.out.size; have := HQ3.out; omega
    rw [← hq] at HGQ ⊢
    generalize w3.alloc (.cells #[.bool b1, .string t1] 23) = wb at HGP HGQ HB3 c00 c01 c10 c11 p0 p1 q0 q1 ⊢
    have HB := HB3
    clear hq c00 c01 c10 c11 p0 p1 fp q0 q1 fq HB3 HQ3
    (with_reducible refine (HP2.out _).mono ?_)
    rintro e u2 ⟨rfl, hbu⟩
    have hgp := wide_hold (w := wb) HGP.out hbu
    have hgq := wide_hold (w := wb) HGQ.out hbu
    have hba := below_via HB.out hbu
    have hpw := wide_set hgp b2 t2
    have hqw := (wide_other (W := u2) (p := q) (q := p) (Ne.symm hpq) b2 t2).trans hgq
    have hbw : Below W0.heap.size W0 ((u2.setCell ⟨p, 0, none⟩ (.bool b2)).setCell ⟨p, 1, none⟩ (.string t2)) := (hba.setCell hpz _).setCell hpz _
    obtain ⟨p0, p1, fp⟩ := wide_cells hgp
    obtain ⟨c00, c01, c10, c11⟩ := hcx.out _ hbw
    have HGP2 := Lib.hid hpw
    have HGQ2 := Lib.hid hqw
    have HB2 := Lib.hid hbw
    clear hbu hgp hgq hba hpw hqw hbw HGP HGQ HB
    go_wp2_with fail
    generalize (u2.setCell ⟨p, 0, none⟩ (.bool b2)).setCell ⟨p, 1, none⟩ (.string t2) = x2 at HGP2 HGQ2 HB2 c00 c01 c10 c11 ⊢
    clear c00 c01 c10 c11 p0 p1 fp
    (with_reducible refine (HR2.out _).mono ?_)
    rintro e y2 ⟨rfl, hbu⟩
    have hgp := wide_hold (w := x2) HGP2.out hbu
    have hgq := wide_hold (w := x2) HGQ2.out hbu
    have hba := below_via HB2.out hbu
    have hqw := wide_set hgq b2 t2
    have hpw := (wide_other (W := y2) (p := p) (q := q) hpq b2 t2).trans hgp
    have hbw : Below W0.heap.size W0 ((y2.setCell ⟨q, 0, none⟩ (.bool b2)).setCell ⟨q, 1, none⟩ (.string t2)) := (hba.setCell hqz _).setCell hqz _
    obtain ⟨i0, i1, fq⟩ := wide_cells hgq
    obtain ⟨c00, c01, c10, c11⟩ := hcx.out _ hbw
    obtain ⟨p0, p1, -⟩ := wide_cells hpw
    obtain ⟨q0, q1, -⟩ := wide_cells hqw
    have HGP := Lib.hid hpw
    have HGQ := Lib.hid hqw
    have HB := Lib.hid hbw
    clear hbu hgp hgq hba hpw hqw hbw HGP2 HGQ2 HB2
    go_wp2_with fail
    generalize (y2.setCell ⟨q, 0, none⟩ (.bool b2)).setCell ⟨q, 1, none⟩ (.string t2) = wc at HGP HGQ HB c00 c01 c10 c11 p0 p1 q0 q1 ⊢
    clear c00 c01 c10 c11 p0 p1 fq q0 q1 i0 i1
    (with_reducible refine (HP3.out _).mono ?_)
    rintro e u3 ⟨rfl, hbu⟩
    have hgp := wide_hold (w := wc) HGP.out hbu
    have hgq := wide_hold (w := wc) HGQ.out hbu
    have hba := below_via HB.out hbu
    have hpw := wide_set hgp b3 t3
    have hqw := (wide_other (W := u3) (p := q) (q := p) (Ne.symm hpq) b3 t3).trans hgq
    have hbw : Below W0.heap.size W0 ((u3.setCell ⟨p, 0, none⟩ (.bool b3)).setCell ⟨p, 1, none⟩ (.string t3)) := (hba.setCell hpz _).setCell hpz _
    obtain ⟨p0, p1, fp⟩ := wide_cells hgp
    obtain ⟨c00, c01, c10, c11⟩ := hcx.out _ hbw
    have HGP3 := Lib.hid hpw
    have HGQ3 := Lib.hid hqw
    have HB3 := Lib.hid hbw
    clear hbu hgp hgq hba hpw hqw hbw HGP HGQ HB
    go_wp2_with fail
    generalize (u3.setCell ⟨p, 0, none⟩ (.bool b3)).setCell ⟨p, 1, none⟩ (.string t3) = x3 at HGP3 HGQ3 HB3 c00 c01 c10 c11 ⊢
    clear c00 c01 c10 c11 p0 p1 fp
    (with_reducible refine (HR3.out _).mono ?_)
    rintro e y3 ⟨rfl, hbu⟩
    have hgp := wide_hold (w := x3) HGP3.out hbu
    have hgq := wide_hold (w := x3) HGQ3.out hbu
    have hba := below_via HB3.out hbu
    have hqw := wide_set hgq b3 t3
    have hpw := (wide_other (W := y3) (p := p) (q := q) hpq b3 t3).trans hgp
    have hbw : Below W0.heap.size W0 ((y3.setCell ⟨q, 0, none⟩ (.bool b3)).setCell ⟨q, 1, none⟩ (.string t3)) := (hba.setCell hqz _).setCell hqz _
    obtain ⟨i0, i1, fq⟩ := wide_cells hgq
    obtain ⟨c00, c01, c10, c11⟩ := hcx.out _ hbw
    obtain ⟨p0, p1, -⟩ := wide_cells hpw
    obtain ⟨q0, q1, -⟩ := wide_cells hqw
    have HGP := Lib.hid hpw
    have HGQ := Lib.hid hqw
    have HB := Lib.hid hbw
    clear hbu hgp hgq hba hpw hqw hbw HGP3 HGQ3 HB3
    go_wp2_with fail
    generalize (y3.setCell ⟨q, 0, none⟩ (.bool b3)).setCell ⟨q, 1, none⟩ (.string t3) = wd at HGP HGQ HB c00 c01 c10 c11 p0 p1 q0 q1 ⊢
    clear c00 c01 c10 c11 p0 p1 fq q0 q1 i0 i1
    (with_reducible refine (HSH.out _).mono ?_)
    rintro e w9 ⟨rfl, hb9⟩
    have HB9 := Lib.hid (HB0.out.trans ((below_via HB.out hb9).mono HB0.out.size))
    clear hb9
    go_wp2
    go_ret
    exact ⟨rfl, HB9.out⟩
end Go.Proofs.Ytdfklcmiagmgaaa
