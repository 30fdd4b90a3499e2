/- Walks: WideBack: a text leads back to the form, and a form to the text; different forms stand for different integers. -/
import Derived.Test.YtdfklcmiagmgaaaWQ3
namespace Go.Proofs.Ytdfklcmiagmgaaa
set_option linter.all false
open Go.RowKit Go.Shelf Go.WideNum
theorem text_wide (neg : Bool) (s : ByteArray) (hs : s.size ≤ maxLen) (T : ByteArray) (E : Int) (hT : (if validB neg s then textB neg (numB s) else ⟨#[]⟩) = T) (hE : (if validB neg s then (0 : Int) else 2) = E) (W : World) :
    Calls Try.prog 14 #[.agg #[.bool neg, .string s]] W fun e w' => e = .returned (.tuple #[.string T, .int .i64 E]) ∧ Below W.heap.size W w' := by
  have h := Text_any neg s hs W
  unfold TextRet at h
  rw [hT, hE] at h
  exact h
theorem read_str (s : ByteArray) (hs : s.size ≤ maxLen) (b : Bool) (t : ByteArray) (E : Int) (h : readZ s.data.toList = (.agg #[.bool b, .string t], E)) (W : World) :
    Calls Try.prog 12 #[.string s] W fun e w' => e = .returned (.tuple #[.agg #[.bool b, .string t], .int .i64 E]) ∧ Below W.heap.size W w' := by
  have h1 := Read_any s hs W
  rw [h] at h1
  exact h1
theorem readZ_agg (l : List UInt8) : ∃ b t E, readZ l = (.agg #[.bool b, .string t], E) := by
  have h : ∀ neg n, ∃ b t, outB neg n = .agg #[.bool b, .string t] := by
    intro neg n
    unfold outB emptyW wideV
    split <;> exact ⟨_, _, rfl⟩
  unfold readZ digRes
  split
  · exact ⟨_, _, _, rfl⟩
  · split
    · exact ⟨_, _, _, rfl⟩
    · rw [← outB_z]
      obtain ⟨b, t, hbt⟩ := h (readNeg l) (decV (readDig l))
      exact ⟨b, t, _, by rw [hbt]⟩
theorem great2 (na : Bool) (sa : ByteArray) (nb : Bool) (sb : ByteArray) (hsa : sa.size ≤ maxLen) (hsb : sb.size ≤ maxLen) (W : World) (g : Nat) (h : W.heap[g]? = some (.cells #[.bool na, .string sa, .bool nb, .string sb] 23)) :
    Calls Try.prog 10 #[.slice (some ⟨g, 0, none⟩) 2 2] W fun e w' => e = .returned (.bool (decide (300 < sa.size) || decide (300 < sb.size))) ∧ W = w' := by
  have := great_any [(na, sa), (nb, sb)] g (by simp) (by simp [hsa, hsb]) W (two_forms na sa nb sb W g h)
  simpa using this
theorem textB_size (neg : Bool) (n : Nat) (h : n < lim) : (textB neg n).size ≤ 1000 := by
  have h2 : (textB neg n).size = (textL neg n).length := rfl
  rw [h2]
  by_cases h0 : n = 0
  · subst h0; cases neg <;> decide
  · rw [textL_eq neg n h0, List.length_append]
    have := numT_len h
    split <;> simp <;> omega
theorem str_ne {s t : ByteArray} (h : ¬ s = t) : ¬ s.toList = t.toList ∧ (s.toList == t.toList) = false := by
  have h1 : ¬ s.toList = t.toList := fun e => h (ByteArray.ext (Array.toList_inj.1 (by rw [ByteArray.toList_eq, ByteArray.toList_eq] at e; exact e)))
  exact ⟨h1, by rw [beq_eq_false_iff_ne]; exact h1⟩
set_option maxRecDepth 100000 in
set_option maxHeartbeats 8000000 in
theorem back_law (s : ByteArray) (hs : s.size ≤ maxLen) (nx : Bool) (sx : ByteArray) (hsx : sx.size ≤ maxLen) (ny : Bool) (sy : ByteArray) (hsy : sy.size ≤ maxLen) (w : World) :
    Calls Try.prog 4 #[.string s, .agg #[.bool nx, .string sx], .agg #[.bool ny, .string sy]] w fun e w' => e = .returned (.bool true) ∧ Below w.heap.size w w' := by
  have hs63 : s.size ≤ 9223372036854775807 := hs
  have HSH := Lib.hid shown_any
  obtain ⟨W0, hW0⟩ : ∃ W0, W0 = (w.alloc (.cells #[.bool nx, .string sx] 23)).alloc (.cells #[.bool ny, .string sy] 23) := ⟨_, rfl⟩
  have g0 : W0.heap[w.heap.size]? = some (.cells #[.bool nx, .string sx] 23) := by rw [hW0]; repeat (first | (refine alloc_last _ _ ?_; simp only [World.size_alloc]; done) | (rw [Below.heap_alloc]; rotate_left; (simp only [World.size_alloc]; omega)))
  have g1 : W0.heap[w.heap.size + 1]? = some (.cells #[.bool ny, .string sy] 23) := by rw [hW0]; repeat (first | (refine alloc_last _ _ ?_; simp only [World.size_alloc]; done) | (rw [Below.heap_alloc]; rotate_left; (simp only [World.size_alloc]; omega)))
  have hb0 : Below w.heap.size w W0 := by rw [hW0]; exact (((Below.refl _ w).alloc (Nat.le_refl _) _).alloc (by simp) _)
  have HB0 := Lib.hid hb0
  have HG0 := Lib.hid g0
  have HG1 := Lib.hid g1
  have hcx : Hid (∀ W, Below W0.heap.size W0 W → W.cell? ⟨w.heap.size, 0, none⟩ = some (.bool nx) ∧ W.cell? ⟨w.heap.size, 1, none⟩ = some (.string sx) ∧ W.cell? ⟨w.heap.size + 1, 0, none⟩ = some (.bool ny) ∧ W.cell? ⟨w.heap.size + 1, 1, none⟩ = some (.string sy)) :=
    fun W hb => keep4 ((hb.block _ (lt_of_heap g0)).trans g0) ((hb.block _ (lt_of_heap g1)).trans g1)
  obtain ⟨c00, c01, f0⟩ := wide_cells g0
  obtain ⟨c10, c11, f1⟩ := wide_cells g1
  have HW0 := Lib.hid hW0
  clear hb0 g0 g1 hW0
  go_enter Try.func4, Try.ntmps4
  go_upto_region 1 with (fail)
  rw [← HW0.out]
  go_wp2_with fail
  obtain ⟨gr, hgr⟩ : ∃ gr, gr = (decide (300 < sx.size) || decide (300 < sy.size)) := ⟨_, rfl⟩
  have hgreat := great2 nx sx ny sy hsx hsy (W0.alloc (.cells #[.bool nx, .string sx, .bool ny, .string sy] 23)) W0.heap.size (heap_alloc_new W0 _)
  rw [← hgr] at hgreat
  have hb1 : Below W0.heap.size W0 (W0.alloc (.cells #[.bool nx, .string sx, .bool ny, .string sy] 23)) := (Below.refl _ W0).alloc (Nat.le_refl _) _
  (with_reducible refine hgreat.mono ?_)
  clear hgreat hgr c00 c01 f0 c10 c11 f1
  rintro e w1 ⟨rfl, rfl⟩
  generalize W0.alloc (.cells #[.bool nx, .string sx, .bool ny, .string sy] 23) = w1 at hb1 ⊢
  have HB1 := Lib.hid hb1
  clear hb1
  by_cases hsmall : gr = false ∧ s.size ≤ 2000
  · obtain ⟨rfl, h2000⟩ := hsmall
    have h2000' : ¬ (2000 : Int) < (s.size : Int) := by omega
    obtain ⟨c00, c01, c10, c11⟩ := hcx.out w1 HB1.out
    obtain ⟨T, hT⟩ : ∃ T : ByteArray, T = if validB nx sx then textB nx (numB sx) else ⟨#[]⟩ := ⟨_, rfl⟩
    obtain ⟨E, hE⟩ : ∃ E : Int, E = if validB nx sx then 0 else 2 := ⟨_, rfl⟩
    have HTX := Lib.hid (text_wide nx sx hsx T E hT.symm hE.symm)
    have HVX := Lib.hid (Valid_wide nx sx hsx)
    obtain ⟨vx, hvx⟩ : ∃ b, b = validB nx sx := ⟨_, rfl⟩
    rw [← hvx] at hT hE HVX
    have hTr : vx = true → readZ T.data.toList = (.agg #[.bool nx, .string sx], 0) ∧ T.size ≤ 1000 := by
      intro h
      subst h
      rw [if_pos rfl] at hT
      obtain ⟨v1, v2, v3, -⟩ := valid_spec nx sx hvx.symm
      obtain ⟨o1, o2, -⟩ := valid_out nx sx hvx.symm
      refine ⟨?_, by rw [hT]; exact textB_size _ _ v1⟩
      rw [hT]
      show readZ (textL nx (numB sx)) = _
      rw [read_text nx (numB sx) v1 v3]
      show (outZ (zV nx sx), errZ (zV nx sx)) = _
      rw [o1, o2]; rfl
    have HTR := Lib.hid hTr
    have HVV := Lib.hid hvx
    have HE := Lib.hid hE
    clear hTr hT hvx hE
    go_wp2_with fail
    (with_reducible refine (HTX.out _).mono ?_)
    rintro e w2 ⟨rfl, hb2⟩
    have HB2 := Lib.hid (below_via HB1.out hb2)
    clear hb2 c00 c01 c10 c11
    obtain ⟨c00, c01, c10, c11⟩ := hcx.out w2 HB2.out
    go_wp2_with fail
    (with_reducible refine (HVX.out _).mono ?_)
    rintro e w3 ⟨rfl, hb3⟩
    have HB3 := Lib.hid (below_via HB2.out hb3)
    clear hb3 c00 c01 c10 c11
    go_upto_if 36 with (fail)
    have hE2 : vx = true ∧ E = 0 ∨ vx = false ∧ E = 2 := by
      rw [HE.out]
      cases vx
      · exact Or.inr ⟨rfl, rfl⟩
      · exact Or.inl ⟨rfl, rfl⟩
    have HE2 := Lib.hid hE2
    clear hE2
    go_cut [] (fun wx => w3 = wx)
    case first =>
      rcases HE2.out with ⟨rfl, rfl⟩ | ⟨rfl, rfl⟩
      · go_wp2
        go_meet
        case rel => rfl
      · go_wp2
        go_meet
        case rel => rfl
    case rest =>
      obtain rfl := hcut
      go_upto_if 38 with (fail)
      go_cut [] (fun wx => Hid (Below W0.heap.size W0 wx))
      case first =>
        rcases HE2.out with ⟨rfl, rfl⟩ | ⟨rfl, rfl⟩
        · obtain ⟨r1, r2⟩ := HTR.out rfl
          have hread := read_str T (by unfold maxLen; omega) nx sx 0 r1 w3
          have HREAD := Lib.hid hread
          clear r1 r2 hread
          go_wp2_with fail
          (with_reducible refine (HREAD.out).mono ?_)
          rintro e w4 ⟨rfl, hb4⟩
          have hb45 := below_via (below_via HB3.out hb4) ((Below.refl w4.heap.size w4).alloc (Nat.le_refl _) (.cells #[.bool nx, .string sx] 23))
          obtain ⟨c00, c01, c10, c11⟩ := hcx.out _ hb45
          have HB4 := Lib.hid hb45
          clear hb4 hb45
          go_wp2
          go_meet
          case rel => exact HB4.out
        · go_wp2
          go_meet
          case rel => exact HB3.out
      case rest =>
        have HBc := hcut
        obtain ⟨c00, c01, c10, c11⟩ := hcx.out _ HBc.out
        obtain ⟨fb, ft, FE, hrz⟩ := readZ_agg s.data.toList
        have hread := read_str s hs fb ft FE hrz wc
        have HREAD := Lib.hid hread
        have hback : FE = 0 → ft.size ≤ maxLen ∧ (if validB fb ft then textB fb (numB ft) else ⟨#[]⟩) = s ∧ (if validB fb ft then (0 : Int) else 2) = 0 := by
          intro h0
          obtain ⟨neg, n, h1, h2, h3, h4⟩ := text_read s.data.toList (by rw [hrz]; exact h0)
          rw [hrz] at h1
          obtain ⟨rfl, rfl⟩ := wideV_inj (a := fb) (b := neg) (s := ft) (t := magB n) h1
          obtain ⟨v1, v2⟩ := valid_magB fb n h2 h3
          rw [v1, v2, if_pos rfl, if_pos rfl]
          refine ⟨?_, ?_, rfl⟩
          · have := (valid_spec _ _ v1).2.2.2
            unfold maxLen; omega
          · apply ByteArray.ext
            apply Array.toList_inj.1
            rw [← h4]; rfl
        have HBACK := Lib.hid hback
        clear hread hback hrz
        go_wp2_with fail
        (with_reducible refine (HREAD.out).mono ?_)
        rintro e w5 ⟨rfl, hb5⟩
        have hk5 := heap_alloc_new w5 (.cells #[.bool fb, .string ft] 23)
        have hb56 := below_via (below_via HBc.out hb5) ((Below.refl w5.heap.size w5).alloc (Nat.le_refl _) (.cells #[.bool fb, .string ft] 23))
        have HB5 := Lib.hid hb56
        have HK5 := Lib.hid hk5
        clear hb5 hb56 hk5 c00 c01 c10 c11
        go_upto_if 57 with (fail)
        generalize w5.alloc (.cells #[.bool fb, .string ft] 23) = w6 at HB5 HK5 ⊢
        go_cut [] (fun wx => Hid (Below W0.heap.size W0 wx))
        case first =>
          by_cases h0 : FE = 0
          · subst h0
            obtain ⟨q1, q2, q3⟩ := HBACK.out rfl
            have htx := text_wide fb ft q1 s 0 q2 q3 w6
            have HTX2 := Lib.hid htx
            obtain ⟨d0, d1, -⟩ := wide_cells HK5.out
            clear q1 q2 q3 htx
            go_wp2_with fail
            (with_reducible refine (HTX2.out).mono ?_)
            rintro e w7 ⟨rfl, hb7⟩
            have HB7 := Lib.hid (below_via HB5.out hb7)
            clear hb7 d0 d1
            go_wp2
            go_meet
            case rel => exact HB7.out
          · have h0' : (FE == 0) = false := by rw [beq_eq_false_iff_ne]; exact h0
            go_wp2
            go_meet
            case rel => exact HB5.out
        case rest =>
          have HBd := hcut
          clear HBc HB5 HK5 HBACK HREAD
          obtain ⟨c00, c01, c10, c11⟩ := hcx.out _ HBd.out
          obtain ⟨cv, hcv⟩ : ∃ c, c = cmpF nx sx ny sy := ⟨_, rfl⟩
          obtain ⟨dv, hdv⟩ : ∃ c, c = cmpF ny sy nx sx := ⟨_, rfl⟩
          have hc1 := Cmp_any nx sx ny sy hsx hsy
          have hc2 := Cmp_any ny sy nx sx hsy hsx
          rw [← hcv] at hc1
          rw [← hdv] at hc2
          have HC1 := Lib.hid hc1
          have HC2 := Lib.hid hc2
          have HCV := Lib.hid hcv
          have HDV := Lib.hid hdv
          clear hc1 hc2 hcv hdv
          go_wp2_with fail
          (with_reducible refine (HC1.out _).mono ?_)
          rintro e w8 ⟨rfl, hb8⟩
          have HB8 := Lib.hid (below_via HBd.out hb8)
          clear hb8 c00 c01 c10 c11
          obtain ⟨c00, c01, c10, c11⟩ := hcx.out _ HB8.out
          go_wp2_with fail
          (with_reducible refine (HC2.out _).mono ?_)
          rintro e w9 ⟨rfl, hb9⟩
          have HB9 := Lib.hid (below_via HB8.out hb9)
          clear hb9 c00 c01 c10 c11
          obtain ⟨c00, c01, c10, c11⟩ := hcx.out _ HB9.out
          go_upto_region 17 with (fail)
          obtain ⟨okx, hox⟩ : ∃ b, b = validB nx sx := ⟨_, rfl⟩
          obtain ⟨oky, hoy⟩ : ∃ b, b = validB ny sy := ⟨_, rfl⟩
          have hc := HCV.out
          have hd := HDV.out
          unfold cmpF at hc hd
          rw [← hox, ← hoy] at hc hd
          by_cases hboth : okx = true ∧ oky = true
          · obtain ⟨rfl, rfl⟩ := hboth
            rw [if_pos (by rfl)] at hc hd
            obtain ⟨m1, m2, m3, m4⟩ := cmpZ_facts (zV nx sx) (zV ny sy)
            have m5 : cmpZ (zV ny sy) (zV nx sx) = -cmpZ (zV nx sx) (zV ny sy) := by omega
            rw [m5] at hd
            obtain ⟨C, hC⟩ : ∃ C, C = cmpZ (zV nx sx) (zV ny sy) := ⟨_, rfl⟩
            rw [← hC] at hc hd m2 m3 m4
            subst hc hd
            dsimp only
            by_cases hxy : nx = ny ∧ sx = sy
            · obtain ⟨rfl, rfl⟩ := hxy
              have hC0 : C = 0 := m4.2 rfl
              subst hC0
              clear hC m1 m2 m3 m4 m5 hox hoy HCV HDV HC1 HC2
              go_wp2_with fail
              all_goals
                (with_reducible refine (HSH.out _).mono ?_)
                rintro e w10 ⟨rfl, hb10⟩
                have HB10 := Lib.hid (HB0.out.trans ((below_via HB9.out hb10).mono HB0.out.size))
                clear hb10
                go_wp2
                go_ret
                exact ⟨rfl, HB10.out⟩
            · have hC0 : C = 1 ∨ C = -1 := by
                have : C ≠ 0 := fun h => hxy (zV_inj hox.symm hoy.symm (m4.1 h))
                omega
              clear hC m1 m2 m3 m4 m5 hox hoy HCV HDV HC1 HC2
              by_cases hn : nx = ny
              · subst hn
                have hss : ¬ sx = sy := fun h => hxy ⟨rfl, h⟩
                obtain ⟨hs1, hs2⟩ := str_ne hss
                clear hxy
                rcases hC0 with rfl | rfl
                all_goals
                  go_wp2_with fail
                all_goals
                  (with_reducible refine (HSH.out _).mono ?_)
                  rintro e w10 ⟨rfl, hb10⟩
                  have HB10 := Lib.hid (HB0.out.trans ((below_via HB9.out hb10).mono HB0.out.size))
                  clear hb10
                  go_wp2
                  go_ret
                  exact ⟨rfl, HB10.out⟩
              · clear hxy
                rcases hC0 with rfl | rfl
                all_goals
                  go_wp2_with fail
                all_goals
                  (with_reducible refine (HSH.out _).mono ?_)
                  rintro e w10 ⟨rfl, hb10⟩
                  have HB10 := Lib.hid (HB0.out.trans ((below_via HB9.out hb10).mono HB0.out.size))
                  clear hb10
                  go_wp2
                  go_ret
                  exact ⟨rfl, HB10.out⟩
          · rw [if_neg (by intro h; rw [Bool.and_eq_true] at h; exact hboth h)] at hc
            rw [if_neg (by intro h; rw [Bool.and_eq_true] at h; exact hboth ⟨h.2, h.1⟩)] at hd
            subst hc hd
            dsimp only
            clear hox hoy HCV HDV HC1 HC2
            go_wp2_with fail
            (with_reducible refine (HSH.out _).mono ?_)
            rintro e w10 ⟨rfl, hb10⟩
            have HB10 := Lib.hid (HB0.out.trans ((below_via HB9.out hb10).mono HB0.out.size))
            clear hb10
            go_wp2
            go_ret
            exact ⟨rfl, HB10.out⟩
  · by_cases hgr : gr = true
    · subst hgr
      go_wp2_with fail
      (with_reducible refine (HSH.out _).mono ?_)
      rintro e w10 ⟨rfl, hb10⟩
      have HB10 := Lib.hid (HB0.out.trans ((below_via HB1.out hb10).mono HB0.out.size))
      clear hb10
      go_wp2
      go_ret
      exact ⟨rfl, HB10.out⟩
    · have hgf : gr = false := by simpa using hgr
      subst hgf
      have h2000 : (2000 : Int) < (s.size : Int) := by
        have : ¬ s.size ≤ 2000 := fun h => hsmall ⟨rfl, h⟩
        omega
      clear hsmall hgr
      go_wp2_with fail
      (with_reducible refine (HSH.out _).mono ?_)
      rintro e w10 ⟨rfl, hb10⟩
      have HB10 := Lib.hid (HB0.out.trans ((below_via HB1.out hb10).mono HB0.out.size))
      clear hb10
      go_wp2
      go_ret
      exact ⟨rfl, HB10.out⟩
end Go.Proofs.Ytdfklcmiagmgaaa
