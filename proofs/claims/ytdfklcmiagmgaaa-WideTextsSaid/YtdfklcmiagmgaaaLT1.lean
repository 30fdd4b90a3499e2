/- Walks: the law of texts. -/
import Derived.Test.YtdfklcmiagmgaaaXG3
import Derived.Test.YtdfklcmiagmgaaaLF1
namespace Go.Proofs.Ytdfklcmiagmgaaa
set_option linter.all false
open Go.RowKit Go.Shelf Go.WideNum
theorem refread_str (s : ByteArray) (hs : s.size ≤ maxLen) (b : Bool) (t : ByteArray) (E : Int) (h : readZ s.data.toList = (.agg #[.bool b, .string t], E)) (W : World) :
    Calls Try.prog 13 #[.string s] W fun e w' => e = .returned (.tuple #[.agg #[.bool b, .string t], .int .i64 E]) ∧ Below W.heap.size W w' := by
  have := refRead_any s hs W
  unfold ReadRet at this
  rwa [h] at this
set_option maxRecDepth 100000 in
set_option maxHeartbeats 8000000 in
theorem texts_law (s : ByteArray) (hs : s.size ≤ maxLen) (nx : Bool) (sx : ByteArray) (hsx : sx.size ≤ maxLen) (w : World) :
    Calls Try.prog 3 #[.string s, .agg #[.bool nx, .string sx]] w fun e w' => e = .returned (.bool true) ∧ Below w.heap.size w w' := by
  have hs63 : s.size ≤ 9223372036854775807 := hs
  have HSH := Lib.hid shown_any
  obtain ⟨b1, t1, E1, hr⟩ := readZ_agg s.data.toList
  have HRD := Lib.hid (read_str s hs b1 t1 E1 hr)
  have HRR := Lib.hid (refread_str s hs b1 t1 E1 hr)
  obtain ⟨T, hT⟩ : ∃ T : ByteArray, T = if validB nx sx then textB nx (numB sx) else ⟨#[]⟩ := ⟨_, rfl⟩
  obtain ⟨E, hE⟩ : ∃ E : Int, E = if validB nx sx then 0 else 2 := ⟨_, rfl⟩
  have HTX := Lib.hid (text_wide nx sx hsx T E hT.symm hE.symm)
  have HRT := Lib.hid (refText_any nx sx hsx T E hT.symm hE.symm)
  have hb0 : Below w.heap.size w (w.alloc (.cells #[.bool nx, .string sx] 23)) := (Below.refl _ w).alloc (Nat.le_refl _) _
  have hg0 : (w.alloc (.cells #[.bool nx, .string sx] 23)).heap[w.heap.size]? = some (.cells #[.bool nx, .string sx] 23) := heap_alloc_new w _
  have hz0 : (w.alloc (.cells #[.bool nx, .string sx] 23)).heap.size = w.heap.size + 1 := by simp
  have HG0 := Lib.hid hg0
  have HB0 := Lib.hid hb0
  have HGR : Hid (∀ W : World, Calls Try.prog 10 #[.slice (some ⟨W.heap.size, 0, none⟩) 1 1] (W.alloc (.cells #[.bool nx, .string sx] 23)) fun e w' => e = .returned (.bool (decide (300 < sx.size))) ∧ W.alloc (.cells #[.bool nx, .string sx] 23) = w') := fun W => great1 nx sx hsx _ _ (heap_alloc_new W _)
  obtain ⟨gr, hgr⟩ : ∃ gr, gr = decide (300 < sx.size) := ⟨_, rfl⟩
  rw [← hgr] at HGR
  obtain ⟨W0, hW0⟩ : ∃ W0, W0 = w.alloc (.cells #[.bool nx, .string sx] 23) := ⟨_, rfl⟩
  rw [← hW0] at HG0 HB0
  have hcx : Hid (∀ W, Below W0.heap.size W0 W → W.cell? ⟨w.heap.size, 0, none⟩ = some (.bool nx) ∧ W.cell? ⟨w.heap.size, 1, none⟩ = some (.string sx)) := fun W hb => by
    obtain ⟨c0, c1, -⟩ := wide_cells ((hb.block _ (lt_of_heap HG0.out)).trans HG0.out)
    exact ⟨c0, c1⟩
  have HW0 := Lib.hid hW0
  have HLW : Hid (w.heap.size < W0.heap.size) := lt_of_heap HG0.out
  clear hr hT hE hb0 hg0 hz0 hgr hW0
  obtain ⟨c0, c1, f0⟩ := wide_cells HG0.out
  go_enter Try.func3, Try.ntmps3
  go_upto_region 1 with (fail)
  rw [← HW0.out]
  go_wp2_with fail
  (with_reducible refine (HGR.out _).mono ?_)
  rintro e w1 ⟨rfl, rfl⟩
  have hb1 : Below W0.heap.size W0 (W0.alloc (.cells #[.bool nx, .string sx] 23)) := (Below.refl _ W0).alloc (Nat.le_refl _) _
  generalize W0.alloc (.cells #[.bool nx, .string sx] 23) = w1 at hb1 ⊢
  have HB1 := Lib.hid hb1
  clear hb1 c0 c1 f0
  by_cases hsmall : gr = false ∧ s.size ≤ 2000
  · obtain ⟨rfl, h2000⟩ := hsmall
    have h2000' : ¬ (2000 : Int) < (s.size : Int) := by omega
    go_wp2_with fail
    (with_reducible refine (HRD.out _).mono ?_)
    rintro e w2 ⟨rfl, hb2⟩
    have hgp : (w2.alloc (.cells #[.bool b1, .string t1] 23)).heap[w2.heap.size]? = some (.cells #[.bool b1, .string t1] 23) := heap_alloc_new w2 _
    have hba : Below W0.heap.size W0 (w2.alloc (.cells #[.bool b1, .string t1] 23)) := (below_via HB1.out hb2).alloc (below_via HB1.out hb2).size _
    have HGP := Lib.hid hgp
    have HBA := Lib.hid hba
    clear hgp hba hb2
    go_wp2_with fail
    obtain ⟨p, hp⟩ : ∃ p, p = w2.heap.size := ⟨_, rfl⟩
    rw [← hp] at HGP ⊢
    generalize w2.alloc (.cells #[.bool b1, .string t1] 23) = wa at HGP HBA ⊢
    clear hp
    (with_reducible refine (HRR.out _).mono ?_)
    rintro e w3 ⟨rfl, hb3⟩
    have hbb : Below wa.heap.size wa (w3.alloc (.cells #[.bool b1, .string t1] 23)) := hb3.alloc hb3.size _
    have hba : Below W0.heap.size W0 (w3.alloc (.cells #[.bool b1, .string t1] 23)) := below_via HBA.out hbb
    have hgq : (w3.alloc (.cells #[.bool b1, .string t1] 23)).heap[w3.heap.size]? = some (.cells #[.bool b1, .string t1] 23) := heap_alloc_new w3 _
    have hgp := wide_hold (w := wa) HGP.out hbb
    obtain ⟨c00, c01⟩ := hcx.out _ hba
    obtain ⟨q, hq⟩ : ∃ p, p = w3.heap.size := ⟨_, rfl⟩
    have HGP2 := Lib.hid hgp
    have HGQ2 := Lib.hid hgq
    have HB3 := Lib.hid hba
    clear hgp hgq hba hbb hb3
    go_wp2_with fail
    rw [← hq] at HGQ2 ⊢
    generalize w3.alloc (.cells #[.bool b1, .string t1] 23) = wb at HGP2 HGQ2 HB3 c00 c01 ⊢
    clear hq c00 c01
    (with_reducible refine (HTX.out _).mono ?_)
    rintro e w4 ⟨rfl, hb4⟩
    have HB4 := Lib.hid (below_via HB3.out hb4)
    have HGP4 := Lib.hid (wide_hold (w := wb) HGP2.out hb4)
    have HGQ4 := Lib.hid (wide_hold (w := wb) HGQ2.out hb4)
    clear hb4
    obtain ⟨c00, c01⟩ := hcx.out _ HB4.out
    go_wp2_with fail
    (with_reducible refine (HRT.out _).mono ?_)
    rintro e w5 ⟨rfl, hb5⟩
    have HB5 := Lib.hid (below_via HB4.out hb5)
    obtain ⟨p0, p1, -⟩ := wide_cells (wide_hold (w := w4) HGP4.out hb5)
    obtain ⟨q0, q1, -⟩ := wide_cells (wide_hold (w := w4) HGQ4.out hb5)
    clear hb5 c00 c01
    go_wp2_with fail
    (with_reducible refine (HSH.out _).mono ?_)
    rintro e w9 ⟨rfl, hb9⟩
    have HB9 := Lib.hid (HB0.out.trans ((below_via HB5.out hb9).mono HB0.out.size))
    clear hb9
    go_wp2
    go_ret
    exact ⟨rfl, HB9.out⟩
  · have hgo : gr = true ∨ (gr = false ∧ (2000 : Int) < (s.size : Int)) := by
      cases gr with
      | true => exact .inl rfl
      | false =>
        refine .inr ⟨rfl, ?_⟩
        rcases Nat.lt_or_ge 2000 s.size with h | h
        · omega
        · exact absurd ⟨rfl, h⟩ hsmall
    clear hsmall
    rcases hgo with rfl | ⟨rfl, hbig⟩
    · go_wp2_with fail
      (with_reducible refine (HSH.out _).mono ?_)
      rintro e w2 ⟨rfl, hb2⟩
      have HB2 := Lib.hid (HB0.out.trans ((below_via HB1.out hb2).mono HB0.out.size))
      clear hb2
      go_wp2
      go_ret
      exact ⟨rfl, HB2.out⟩
    · go_wp2_with fail
      (with_reducible refine (HSH.out _).mono ?_)
      rintro e w2 ⟨rfl, hb2⟩
      have HB2 := Lib.hid (HB0.out.trans ((below_via HB1.out hb2).mono HB0.out.size))
      clear hb2
      go_wp2
      go_ret
      exact ⟨rfl, HB2.out⟩
end Go.Proofs.Ytdfklcmiagmgaaa
