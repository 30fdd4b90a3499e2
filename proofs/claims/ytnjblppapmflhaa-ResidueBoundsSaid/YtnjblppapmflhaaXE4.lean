/- The reference: division of forms. -/
import Derived.Test.YtnjblppapmflhaaHeldE
import Derived.Test.YtnjblppapmflhaaXE3
import Derived.Test.YtnjblppapmflhaaXC
namespace Go.Proofs.Ytnjblppapmflhaa
set_option linter.all false
open Go.RowKit Go.Shelf Go.WideNum
theorem floorN_le (A : Nat) (an : Bool) (C : Nat) (hC : C ≠ 0) : floorN A an C ≤ A := by
  unfold floorN
  split
  · rename_i h
    obtain ⟨-, h⟩ := h
    have hC2 : 2 ≤ C := by
      rcases Nat.lt_or_ge C 2 with h1 | h1
      · have : C = 1 := by omega
        subst this
        exact absurd (Nat.mod_one A) h
      · exact h1
    have hA : 0 < A := by
      rcases Nat.eq_zero_or_pos A with h1 | h1
      · subst h1; simp at h
      · exact h1
    exact Nat.div_lt_self hA hC2
  · exact Nat.div_le_self A C
theorem floorR_lt (A : Nat) (an : Bool) (C : Nat) (hC : C ≠ 0) : floorR A an C < C := by
  have := Nat.mod_lt A (show 0 < C by omega)
  unfold floorR
  split <;> omega
theorem errZ_in {s : Bool} {n : Nat} (h : n < lim) : errZ (zOf s n) = 0 := (outZ_in _ (by rw [zOf_natAbs]; exact h)).2
set_option maxRecDepth 100000 in
set_option maxHeartbeats 8000000 in
theorem refDiv_any (na : Bool) (sa : ByteArray) (nb : Bool) (sb : ByteArray) (hsa : sa.size ≤ maxLen) (hsb : sb.size ≤ maxLen) (fq : Bool) (tq : ByteArray) (fr : Bool) (tr : ByteArray) (E : Int) (hop : divF na sa nb sb = (.agg #[.bool fq, .string tq], .agg #[.bool fr, .string tr], E)) (w : World) :
    Calls Try.prog 25 #[.agg #[.bool na, .string sa], .agg #[.bool nb, .string sb]] w fun e w' => e = .returned (.tuple #[.agg #[.bool fq, .string tq], .agg #[.bool fr, .string tr], .int .i64 E]) ∧ Below w.heap.size w w' := by
  obtain ⟨HPOST, hpost⟩ : ∃ X : Ending → World → Prop, X = fun e w' => e = .returned (.tuple #[.agg #[.bool fq, .string tq], .agg #[.bool fr, .string tr], .int .i64 E]) ∧ Below w.heap.size w w' := ⟨_, rfl⟩
  rw [← hpost]
  obtain ⟨oka, hoka⟩ : ∃ ok, ok = validB na sa := ⟨_, rfl⟩
  obtain ⟨okb, hokb⟩ : ∃ ok, ok = validB nb sb := ⟨_, rfl⟩
  have HVA := Lib.hid (refValid_wide na sa hsa oka hoka)
  have HVB := Lib.hid (refValid_wide nb sb hsb okb hokb)
  have hno : (oka && (okb && decide (sb.size ≠ 0))) = false → (Value.agg #[.bool fq, .string tq], Value.agg #[.bool fr, .string tr], E) = (emptyW, emptyW, (2 : Int)) := fun h => by
    rw [← hop]; unfold divF; rw [← hoka, ← hokb, h]; rfl
  have hyes : oka = true → okb = true → sb.size ≠ 0 → outZ (zV na sa / zV nb sb) = .agg #[.bool fq, .string tq] ∧ outZ (zV na sa % zV nb sb) = .agg #[.bool fr, .string tr] ∧ errZ (zV na sa / zV nb sb) = E := fun h1 h2 h3 => by
    unfold divF at hop; rw [← hoka, ← hokb, h1, h2, decide_eq_true h3] at hop
    injection hop with e1 e2
    injection e2 with e2 e3
    exact ⟨e1, e2, e3⟩
  have HNO := Lib.hid hno
  have HYES := Lib.hid hyes
  have HA := Lib.hid hoka
  have HB := Lib.hid hokb
  clear hop hno hyes hoka hokb
  obtain ⟨W0, hW0⟩ : ∃ W0, W0 = (((w.alloc (.cells #[.bool na, .string sa] 38)).alloc (.cells #[.bool nb, .string sb] 38)).alloc (.cells #[.bool false, .string ⟨#[]⟩] 38)).alloc (.cells #[.bool false, .string ⟨#[]⟩] 38) := ⟨_, rfl⟩
  have g0 : W0.heap[w.heap.size]? = some (.cells #[.bool na, .string sa] 38) := by rw [hW0]; repeat (first | (refine alloc_last _ _ ?_; simp only [World.size_alloc]; done) | (rw [Below.heap_alloc]; rotate_left; (simp only [World.size_alloc]; omega)))
  have g1 : W0.heap[w.heap.size + 1]? = some (.cells #[.bool nb, .string sb] 38) := by rw [hW0]; repeat (first | (refine alloc_last _ _ ?_; simp only [World.size_alloc]; done) | (rw [Below.heap_alloc]; rotate_left; (simp only [World.size_alloc]; omega)))
  have g2 : W0.heap[w.heap.size + 1 + 1]? = some (.cells #[.bool false, .string ⟨#[]⟩] 38) := by rw [hW0]; repeat (first | (refine alloc_last _ _ ?_; simp only [World.size_alloc]; done) | (rw [Below.heap_alloc]; rotate_left; (simp only [World.size_alloc]; omega)))
  have g3 : W0.heap[w.heap.size + 1 + 1 + 1]? = some (.cells #[.bool false, .string ⟨#[]⟩] 38) := by rw [hW0]; repeat (first | (refine alloc_last _ _ ?_; simp only [World.size_alloc]; done) | (rw [Below.heap_alloc]; rotate_left; (simp only [World.size_alloc]; omega)))
  have hb0 : Below w.heap.size w W0 := by rw [hW0]; exact (((((Below.refl _ w).alloc (Nat.le_refl _) _).alloc (by simp) _).alloc (by simp; omega) _).alloc (by simp; omega) _)
  have HB0 := Lib.hid hb0
  have HG0 := Lib.hid g0
  have HG1 := Lib.hid g1
  have HG2 := Lib.hid g2
  have HG3 := Lib.hid g3
  obtain ⟨c00, c01, f0⟩ := wide_cells g0
  have HW0 := Lib.hid hW0
  clear hb0 g0 g1 g2 g3 hW0
  go_enter Try.func25, Try.ntmps25
  go_upto_region 1 with (fail)
  rw [← HW0.out]
  rw [hpost]
  rw [← hpost]
  have HP := Lib.hid hpost
  clear hpost
  go_wp2_with fail
  (with_reducible refine (HVA.out _).mono ?_)
  rintro e w1 ⟨rfl, hb1⟩
  have HK0 := Lib.hid (wide_hold (w := W0) HG0.out hb1)
  have HK1 := Lib.hid (wide_hold (w := W0) HG1.out hb1)
  have HK2 := Lib.hid (wide_hold (w := W0) HG2.out hb1)
  have HK3 := Lib.hid (wide_hold (w := W0) HG3.out hb1)
  have HBW1 := Lib.hid (HB0.out.trans (hb1.mono HB0.out.size))
  clear c00 c01 f0 hb1
  obtain ⟨c10, c11, f1⟩ := wide_cells HK1.out
  cases oka with
  | false =>
    have hz := HNO.out rfl
    injection hz with hz1 hz2
    injection hz2 with hz2 hz6
    unfold emptyW wideV at hz1 hz2
    injection hz1 with hz1
    injection hz1 with hz1
    injection hz1 with hz1 hz3
    injection hz1 with hz1
    injection hz3 with hz3 hz4
    injection hz3 with hz3
    injection hz2 with hz2
    injection hz2 with hz2
    injection hz2 with hz2 hz7
    injection hz2 with hz2
    injection hz7 with hz7 hz8
    injection hz7 with hz7
    subst hz1 hz2 hz3 hz6 hz7
    clear hz4 hz8 c10 c11 f1
    obtain ⟨e20, e21, f2⟩ := wide_cells HK2.out
    obtain ⟨e30, e31, f3⟩ := wide_cells HK3.out
    go_wp2
    obtain ⟨m2, m3⟩ := wide_set2 HK2.out HK3.out (by omega) false ⟨#[]⟩ false ⟨#[]⟩
    have hb9 := below_set2 (p := w.heap.size + 1 + 1 + 1) (below_set2 (p := w.heap.size + 1 + 1) HBW1.out (by omega) false ⟨#[]⟩) (by omega) false ⟨#[]⟩
    obtain ⟨d20, d21, -⟩ := wide_cells m2
    obtain ⟨d30, d31, -⟩ := wide_cells m3
    clear m2 m3 e20 e21 f2 e30 e31 f3
    generalize (((w1.setCell ⟨w.heap.size + 1 + 1, 0, none⟩ (.bool false)).setCell ⟨w.heap.size + 1 + 1, 1, none⟩ (.string ⟨#[]⟩)).setCell ⟨w.heap.size + 1 + 1 + 1, 0, none⟩ (.bool false)).setCell ⟨w.heap.size + 1 + 1 + 1, 1, none⟩ (.string ⟨#[]⟩) = W9 at d20 d21 d30 d31 hb9 ⊢
    rw [HP.out]
    exact bodyPost_ret (v := .tuple #[.agg #[.bool false, .string ⟨#[]⟩], .agg #[.bool false, .string ⟨#[]⟩], .int .i64 2]) (by simp [results, Try.results25, go_sem, d20, d21, d30, d31]) rfl ⟨rfl, hb9⟩
  | true =>
    go_wp2_with fail
    (with_reducible refine (HVB.out _).mono ?_)
    rintro e w2 ⟨rfl, hb2⟩
    have HM0 := Lib.hid (wide_hold (w := w1) HK0.out hb2)
    have HM1 := Lib.hid (wide_hold (w := w1) HK1.out hb2)
    have HM2 := Lib.hid (wide_hold (w := w1) HK2.out hb2)
    have HM3 := Lib.hid (wide_hold (w := w1) HK3.out hb2)
    have HBW2 := Lib.hid (HBW1.out.trans (hb2.mono HBW1.out.size))
    clear c10 c11 f1 hb2
    cases okb with
    | false =>
      have hz := HNO.out rfl
      injection hz with hz1 hz2
      injection hz2 with hz2 hz6
      unfold emptyW wideV at hz1 hz2
      injection hz1 with hz1
      injection hz1 with hz1
      injection hz1 with hz1 hz3
      injection hz1 with hz1
      injection hz3 with hz3 hz4
      injection hz3 with hz3
      injection hz2 with hz2
      injection hz2 with hz2
      injection hz2 with hz2 hz7
      injection hz2 with hz2
      injection hz7 with hz7 hz8
      injection hz7 with hz7
      subst hz1 hz2 hz3 hz6 hz7
      clear hz4 hz8
      obtain ⟨e20, e21, f2⟩ := wide_cells HM2.out
      obtain ⟨e30, e31, f3⟩ := wide_cells HM3.out
      go_wp2
      obtain ⟨m2, m3⟩ := wide_set2 HM2.out HM3.out (by omega) false ⟨#[]⟩ false ⟨#[]⟩
      have hb9 := below_set2 (p := w.heap.size + 1 + 1 + 1) (below_set2 (p := w.heap.size + 1 + 1) HBW2.out (by omega) false ⟨#[]⟩) (by omega) false ⟨#[]⟩
      obtain ⟨d20, d21, -⟩ := wide_cells m2
      obtain ⟨d30, d31, -⟩ := wide_cells m3
      clear m2 m3 e20 e21 f2 e30 e31 f3
      generalize (((w2.setCell ⟨w.heap.size + 1 + 1, 0, none⟩ (.bool false)).setCell ⟨w.heap.size + 1 + 1, 1, none⟩ (.string ⟨#[]⟩)).setCell ⟨w.heap.size + 1 + 1 + 1, 0, none⟩ (.bool false)).setCell ⟨w.heap.size + 1 + 1 + 1, 1, none⟩ (.string ⟨#[]⟩) = W9 at d20 d21 d30 d31 hb9 ⊢
      rw [HP.out]
      exact bodyPost_ret (v := .tuple #[.agg #[.bool false, .string ⟨#[]⟩], .agg #[.bool false, .string ⟨#[]⟩], .int .i64 2]) (by simp [results, Try.results25, go_sem, d20, d21, d30, d31]) rfl ⟨rfl, hb9⟩
    | true =>
      obtain ⟨c00, c01, f0⟩ := wide_cells HM0.out
      obtain ⟨c10, c11, f1⟩ := wide_cells HM1.out
      by_cases h0 : sb.size = 0
      · have hz := HNO.out (by rw [decide_eq_false (fun h => h h0)]; rfl)
        obtain rfl := str_empty sb h0
        clear h0
        injection hz with hz1 hz2
        injection hz2 with hz2 hz6
        unfold emptyW wideV at hz1 hz2
        injection hz1 with hz1
        injection hz1 with hz1
        injection hz1 with hz1 hz3
        injection hz1 with hz1
        injection hz3 with hz3 hz4
        injection hz3 with hz3
        injection hz2 with hz2
        injection hz2 with hz2
        injection hz2 with hz2 hz7
        injection hz2 with hz2
        injection hz7 with hz7 hz8
        injection hz7 with hz7
        subst hz1 hz2 hz3 hz6 hz7
        clear hz4 hz8
        obtain ⟨e20, e21, f2⟩ := wide_cells HM2.out
        obtain ⟨e30, e31, f3⟩ := wide_cells HM3.out
        go_wp2
        obtain ⟨m2, m3⟩ := wide_set2 HM2.out HM3.out (by omega) false ⟨#[]⟩ false ⟨#[]⟩
        have hb9 := below_set2 (p := w.heap.size + 1 + 1 + 1) (below_set2 (p := w.heap.size + 1 + 1) HBW2.out (by omega) false ⟨#[]⟩) (by omega) false ⟨#[]⟩
        obtain ⟨d20, d21, -⟩ := wide_cells m2
        obtain ⟨d30, d31, -⟩ := wide_cells m3
        clear m2 m3 e20 e21 f2 e30 e31 f3
        generalize (((w2.setCell ⟨w.heap.size + 1 + 1, 0, none⟩ (.bool false)).setCell ⟨w.heap.size + 1 + 1, 1, none⟩ (.string ⟨#[]⟩)).setCell ⟨w.heap.size + 1 + 1 + 1, 0, none⟩ (.bool false)).setCell ⟨w.heap.size + 1 + 1 + 1, 1, none⟩ (.string ⟨#[]⟩) = W9 at d20 d21 d30 d31 hb9 ⊢
        rw [HP.out]
        exact bodyPost_ret (v := .tuple #[.agg #[.bool false, .string ⟨#[]⟩], .agg #[.bool false, .string ⟨#[]⟩], .int .i64 2]) (by simp [results, Try.results25, go_sem, d20, d21, d30, d31]) rfl ⟨rfl, hb9⟩
      · obtain ⟨s1, s2⟩ := str_facts sb h0
        obtain ⟨l1, -, -, -⟩ := valid_spec na sa HA.out.symm
        obtain ⟨l2, hmg, -, -⟩ := valid_spec nb sb HB.out.symm
        have HINA := Lib.hid (in_any na sa HA.out.symm)
        have HINB := Lib.hid (in_any nb sb HB.out.symm)
        obtain ⟨hy1, hy2, hy3⟩ := HYES.out (by simp) (by simp) h0
        unfold zV at hy1 hy2 hy3
        have hwa := hw_len129 l1
        have hwb := hw_len129 l2
        have hC0 : numB sb ≠ 0 := by
          intro h
          rw [h] at hmg
          exact h0 (by rw [← hmg]; rfl)
        obtain ⟨A, eA⟩ : ∃ A, A = numB sa := ⟨_, rfl⟩
        obtain ⟨C, eC⟩ : ∃ C, C = numB sb := ⟨_, rfl⟩
        rw [← eA] at hy1 hy2 hy3 hwa HINA l1
        rw [← eC] at hy1 hy2 hy3 hwb HINB l2 hC0
        obtain ⟨fz1, fz2⟩ := floor_z A na C nb hC0
        rw [← fz1] at hy1 hy3
        rw [← fz2] at hy2
        have hN := floorN_le A na C hC0
        have hR := floorR_lt A na C hC0
        rw [errZ_in (Nat.lt_of_le_of_lt hN l1)] at hy3
        subst hy3
        have HDIV : Hid (∀ va vb W, World.numH W va A → World.numH W vb C → Calls Try.prog 58 #[.agg #[.bool na, va], .agg #[.bool nb, vb]] W (DivRetH W na A nb C)) := fun va vb W h1 h2 => hdiv_any na A va nb C vb hC0 W h1 h2 (by omega) (by omega)
        have hNL : (hw (floorN A na C)).length ≤ 1000 := hw_len_mono hN (by omega)
        have hRL : (hw (floorR A na C)).length ≤ 1000 := hw_len_mono (Nat.le_of_lt hR) (by omega)
        obtain ⟨M, hM⟩ : ∃ M, M = floorN A na C := ⟨_, rfl⟩
        obtain ⟨R, hRR⟩ : ∃ R, R = floorR A na C := ⟨_, rfl⟩
        unfold DivRetH at HDIV
        rw [← hM] at HDIV hy1 hN hNL
        rw [← hRR] at HDIV hy2 hR hRL
        obtain ⟨SG, hSG⟩ : ∃ SG, SG = ((na != nb) && decide (M ≠ 0)) := ⟨_, rfl⟩
        rw [← hSG] at HDIV
        have hOQ : outZ (zOf SG M) = .agg #[.bool fq, .string tq] := by rw [hSG, zOf_and]; exact hy1
        have hEQ : errZ (zOf SG M) = 0 := errZ_in (Nat.lt_of_le_of_lt hN l1)
        have HOQ : Hid (∀ v W, World.numH W v M → Calls Try.prog 55 #[.agg #[.bool SG, v]] W fun e w' => e = .returned (.tuple #[.agg #[.bool fq, .string tq], .int .i64 0]) ∧ Below W.heap.size W w') := fun v W h => hout_num SG M (by omega) fq tq 0 hOQ hEQ v W h
        have HOR : Hid (∀ v W, World.numH W v R → Calls Try.prog 55 #[.agg #[.bool false, v]] W fun e w' => e = .returned (.tuple #[.agg #[.bool fr, .string tr], .int .i64 0]) ∧ Below W.heap.size W w') := fun v W h => hout_num false R (by omega) fr tr 0 (by rw [zOf_false]; exact hy2) (errZ_in (Nat.lt_trans hR l2)) v W h
        clear hM hRR hSG hOQ hEQ hwa hwb hy1 hy2 hN hR hNL hRL fz1 fz2 eA eC l1 l2 hmg hC0 h0
        go_wp2_with fail
        have hS0 : ∀ W, Below w2.heap.size w2 W → W.cell? ⟨w.heap.size, 0, none⟩ = some (.bool na) ∧ W.cell? ⟨w.heap.size, 1, none⟩ = some (.string sa) ∧ W.cell? ⟨w.heap.size + 1, 0, none⟩ = some (.bool nb) ∧ W.cell? ⟨w.heap.size + 1, 1, none⟩ = some (.string sb) := fun W hb => keep4 (wide_hold (w := w2) HM0.out hb) (wide_hold (w := w2) HM1.out hb)
        clear c00 c01 f0 c10 c11 f1 s1 s2
        refine wp_region_AE 10 7 w2.heap.size (fun w' => w'.cell? ⟨w.heap.size, 0, none⟩ = some (.bool na) ∧ w'.cell? ⟨w.heap.size, 1, none⟩ = some (.string sa) ∧ w'.cell? ⟨w.heap.size + 1, 0, none⟩ = some (.bool nb) ∧ w'.cell? ⟨w.heap.size + 1, 1, none⟩ = some (.string sb)) (fun W => Below w2.heap.size w2 W) (fun j => decide (10 ≤ j)) (by kernel_rfl) rfl (by kernel_rfl) (fun _ _ _ _ h => h) (by kernel_rfl) (fact_below (Nat.le_refl _) hS0) ((Below.refl _ _).drew) (fun hF => ?_)
        clear hS0
        refine wpAnyA_alloc2 8 9 (.cells #[.bool false, .slice none 0 0] 86) (.cells #[.bool false, .slice none 0 0] 86) (by kernel_rfl) (by kernel_rfl) (by decide) rfl rfl rfl rfl (by kernel_rfl) (by kernel_rfl) (by kernel_rfl) (by kernel_rfl) (by kernel_rfl) (fun _ => rfl) (fun _ => rfl) (fun _ _ => rfl) (fun _ _ => rfl) (fun _ _ _ _ h => h) (fun _ _ _ _ h => h) hF ?_
        try simp only [Act.put, List.setIfInBounds_toArray, List.set_cons_zero, List.set_cons_succ]
        refine wpAnyA_take 0 (v := ?_) (by kernel_rfl) rfl rfl (by kernel_rfl) (by kernel_rfl) (fun _ _ _ h => h) (Or.inl ⟨by rfl, ?_⟩) (by assumption) ?_
        rotate_left
        · (intro wq hSq; (try dsimp only at hSq); go_simp; try with_reducible rfl)
        try simp only [Act.put, List.setIfInBounds_toArray, List.set_cons_zero, List.set_cons_succ]
        refine wpAnyA_take 2 (v := ?_) (by kernel_rfl) rfl rfl (by kernel_rfl) (by kernel_rfl) (fun _ _ _ h => h) (Or.inl ⟨by rfl, ?_⟩) (by assumption) ?_
        rotate_left
        · (intro wq hSq; (try dsimp only at hSq); go_simp; try with_reducible rfl)
        try simp only [Act.put, List.setIfInBounds_toArray, List.set_cons_zero, List.set_cons_succ]
        refine wpAnyA_step 1 (by kernel_rfl) rfl rfl (fun wq (hFq : Below w2.heap.size w2 wq) K hK => ?_)
        go_simp
        (with_reducible refine (HINA.out _).mono ?_)
        rintro e w5 ⟨v5, rfl, hn5, hb5⟩
        obtain ⟨a5, L5, c5, rfl⟩ : ∃ a L c, v5 = .slice a L c := by obtain ⟨x, y, h⟩ := reads_len hn5; exact ⟨x, _, y, h⟩
        have hq5 : Below w2.heap.size w2 w5 := hFq.trans (hb5.mono hFq.size)
        have hd5 : Below w2.heap.size w2 w5 := hq5
        have N5_5 := Lib.hid hn5
        have D5 := Lib.hid hd5
        have hF5 : Fact w2.heap.size (fun w' => w'.cell? ⟨w.heap.size, 0, none⟩ = some (.bool na) ∧ w'.cell? ⟨w.heap.size, 1, none⟩ = some (.string sa) ∧ w'.cell? ⟨w.heap.size + 1, 0, none⟩ = some (.bool nb) ∧ w'.cell? ⟨w.heap.size + 1, 1, none⟩ = some (.string sb)) (fun W => Below w5.heap.size w5 W) := fact_below hd5.size (fun W hb => keep4 (wide_hold (w := w2) HM0.out (D5.out.trans (hb.mono D5.out.size))) (wide_hold (w := w2) HM1.out (D5.out.trans (hb.mono D5.out.size))))
        refine hK.out _ _ hb5 (fun W => Below w5.heap.size w5 W) hF5 (Below.refl _ _) ?_
        clear hK K hb5 hq5 hd5 hFq  hn5
        try simp only [Act.put, List.setIfInBounds_toArray, List.set_cons_zero, List.set_cons_succ]
        refine wpAnyA_step 3 (by kernel_rfl) rfl rfl (fun wq (hFq : Below w5.heap.size w5 wq) K hK => ?_)
        have NQ_5 := Lib.hid (numHold N5_5.out hFq)
        go_simp
        (with_reducible refine (HINB.out _).mono ?_)
        rintro e w6 ⟨v6, rfl, hn6, hb6⟩
        obtain ⟨a6, L6, c6, rfl⟩ : ∃ a L c, v6 = .slice a L c := by obtain ⟨x, y, h⟩ := reads_len hn6; exact ⟨x, _, y, h⟩
        have hq6 : Below w5.heap.size w5 w6 := hFq.trans (hb6.mono hFq.size)
        have hd6 : Below w2.heap.size w2 w6 := D5.out.trans (hq6.mono D5.out.size)
        have N6_5 := Lib.hid (numHold NQ_5.out hb6)
        have N6_6 := Lib.hid hn6
        have D6 := Lib.hid hd6
        have hF6 : Fact w2.heap.size (fun w' => w'.cell? ⟨w.heap.size, 0, none⟩ = some (.bool na) ∧ w'.cell? ⟨w.heap.size, 1, none⟩ = some (.string sa) ∧ w'.cell? ⟨w.heap.size + 1, 0, none⟩ = some (.bool nb) ∧ w'.cell? ⟨w.heap.size + 1, 1, none⟩ = some (.string sb)) (fun W => Below w6.heap.size w6 W) := fact_below hd6.size (fun W hb => keep4 (wide_hold (w := w2) HM0.out (D6.out.trans (hb.mono D6.out.size))) (wide_hold (w := w2) HM1.out (D6.out.trans (hb.mono D6.out.size))))
        refine hK.out _ _ hb6 (fun W => Below w6.heap.size w6 W) hF6 (Below.refl _ _) ?_
        clear hK K hb6 hq6 hd6 hFq NQ_5 hn6
        try simp only [Act.put, List.setIfInBounds_toArray, List.set_cons_zero, List.set_cons_succ]
        refine wpAnyA_step 4 (by kernel_rfl) rfl rfl (fun wq (hFq : Below w6.heap.size w6 wq) K hK => ?_)
        have NQ_5 := Lib.hid (numHold N6_5.out hFq)
        have NQ_6 := Lib.hid (numHold N6_6.out hFq)
        go_simp
        (with_reducible refine (HDIV.out _ _ _ NQ_5.out NQ_6.out).mono ?_)
        rintro e w7 ⟨v7, u7, rfl, hn7, hm7, hb7⟩
        obtain ⟨a7, L7, c7, rfl⟩ : ∃ a L c, v7 = .slice a L c := by obtain ⟨x, y, h⟩ := reads_len hn7; exact ⟨x, _, y, h⟩
        obtain ⟨am7, Lm7, cm7, rfl⟩ : ∃ a L c, u7 = .slice a L c := by obtain ⟨x, y, h⟩ := reads_len hm7; exact ⟨x, _, y, h⟩
        have hq7 : Below w6.heap.size w6 w7 := hFq.trans (hb7.mono hFq.size)
        have hd7 : Below w2.heap.size w2 w7 := D6.out.trans (hq7.mono D6.out.size)
        have N7_5 := Lib.hid (numHold NQ_5.out hb7)
        have N7_6 := Lib.hid (numHold NQ_6.out hb7)
        have N7_7 := Lib.hid hn7
        have N7_m7 := Lib.hid hm7
        have D7 := Lib.hid hd7
        have hF7 : Fact w2.heap.size (fun w' => w'.cell? ⟨w.heap.size, 0, none⟩ = some (.bool na) ∧ w'.cell? ⟨w.heap.size, 1, none⟩ = some (.string sa) ∧ w'.cell? ⟨w.heap.size + 1, 0, none⟩ = some (.bool nb) ∧ w'.cell? ⟨w.heap.size + 1, 1, none⟩ = some (.string sb)) (fun W => Below w7.heap.size w7 W) := fact_below hd7.size (fun W hb => keep4 (wide_hold (w := w2) HM0.out (D7.out.trans (hb.mono D7.out.size))) (wide_hold (w := w2) HM1.out (D7.out.trans (hb.mono D7.out.size))))
        refine hK.out _ _ hb7 (fun W => Below w7.heap.size w7 W) hF7 (Below.refl _ _) ?_
        clear hK K hb7 hq7 hd7 hFq NQ_5 NQ_6 hn7 hm7
        try simp only [Act.put, List.setIfInBounds_toArray, List.set_cons_zero, List.set_cons_succ]
        refine wpAnyA_take 5 (v := ?_) (by kernel_rfl) rfl rfl (by kernel_rfl) (by kernel_rfl) (fun _ _ _ h => h) (Or.inl ⟨by rfl, ?_⟩) (by assumption) ?_
        rotate_left
        · (intro wq hSq; (try dsimp only at hSq); go_simp; try with_reducible rfl)
        try simp only [Act.put, List.setIfInBounds_toArray, List.set_cons_zero, List.set_cons_succ]
        refine wpAnyA_take 6 (v := ?_) (by kernel_rfl) rfl rfl (by kernel_rfl) (by kernel_rfl) (fun _ _ _ h => h) (Or.inl ⟨by rfl, ?_⟩) (by assumption) ?_
        rotate_left
        · (intro wq hSq; (try dsimp only at hSq); go_simp; try with_reducible rfl)
        try simp only [Act.put, List.setIfInBounds_toArray, List.set_cons_zero, List.set_cons_succ]
        refine wpAnyA_take 7 (v := ?_) (by kernel_rfl) rfl rfl (by kernel_rfl) (by kernel_rfl) (fun _ _ _ h => h) (Or.inl ⟨by rfl, ?_⟩) (by assumption) ?_
        rotate_left
        · (intro wq hSq; (try dsimp only at hSq); go_simp; try with_reducible rfl)
        try simp only [Act.put, List.setIfInBounds_toArray, List.set_cons_zero, List.set_cons_succ]
        refine wpAnyA_end (by kernel_rfl) (fun x0 (hFx : Below w7.heap.size w7 x0) => ?_)
        intro p q hp hq hpq h7 h8
        have hd0 := D7.out.trans (hFx.mono D7.out.size)
        have hm2 := wide_hold (w := w2) HM2.out hd0
        have hm3 := wide_hold (w := w2) HM3.out hd0
        have hw3 := lt_of_heap HM3.out
        have hn := numHold N7_7.out hFx
        have hr := numHold N7_m7.out hFx
        have hD := HBW2.out.trans (hd0.mono HBW2.out.size)
        obtain ⟨d0, d1, z0, z1⟩ := num_cells h7
        refine wpAny_of_D (S := fun _ => True) (late := fun _ => true) _ _ _ _ ?_
        refine wpAnyD_step 10 (by kernel_rfl) rfl rfl (fun K hK => ?_)
        simp only [moreAfter]
        go_simp
        refine hK.out _ _ ?_
        clear hK K d0 d1 z0 z1
        try simp only [Act.put, List.setIfInBounds_toArray, List.set_cons_zero, List.set_cons_succ]
        have e7 := num_set h7 (.bool SG) (.slice a7 L7 c7)
        have e8 := (two_other (W := x0) (p := p) (.bool SG) (.slice a7 L7 c7) q (Ne.symm hpq)).trans h8
        have e2 := (two_other (W := x0) (p := p) (.bool SG) (.slice a7 L7 c7) (w.heap.size + 1 + 1) (by omega)).trans hm2
        have e3 := (two_other (W := x0) (p := p) (.bool SG) (.slice a7 L7 c7) (w.heap.size + 1 + 1 + 1) (by omega)).trans hm3
        have en := numH_set hn h7 (.bool SG) (.slice a7 L7 c7)
        have er := numH_set hr h7 (.bool SG) (.slice a7 L7 c7)
        have eD : Below w.heap.size w ((x0.setCell ⟨p, 0, none⟩ (.bool SG)).setCell ⟨p, 1, none⟩ (.slice a7 L7 c7)) := (hD.setCell (show w.heap.size ≤ p by omega) _).setCell (show w.heap.size ≤ p by omega) _
        clear h7 h8 hm2 hm3 hn hr hD
        generalize (x0.setCell ⟨p, 0, none⟩ (.bool SG)).setCell ⟨p, 1, none⟩ (.slice a7 L7 c7) = x1 at e7 e8 e2 e3 en er eD ⊢
        obtain ⟨d0, d1, z0, z1⟩ := num_cells e8
        refine wpAnyD_step 11 (by kernel_rfl) rfl rfl (fun K hK => ?_)
        go_simp
        refine hK.out _ _ ?_
        clear hK K d0 d1 z0 z1
        try simp only [Act.put, List.setIfInBounds_toArray, List.set_cons_zero, List.set_cons_succ]
        refine wpAnyD_end (by kernel_rfl) ?_
        have i8 := num_set e8 (.bool false) (.slice am7 Lm7 cm7)
        have i7 := (two_other (W := x1) (p := q) (.bool false) (.slice am7 Lm7 cm7) p hpq).trans e7
        have i2 := (two_other (W := x1) (p := q) (.bool false) (.slice am7 Lm7 cm7) (w.heap.size + 1 + 1) (by omega)).trans e2
        have i3 := (two_other (W := x1) (p := q) (.bool false) (.slice am7 Lm7 cm7) (w.heap.size + 1 + 1 + 1) (by omega)).trans e3
        have jn := numH_set en e8 (.bool false) (.slice am7 Lm7 cm7)
        have jr := numH_set er e8 (.bool false) (.slice am7 Lm7 cm7)
        have jD : Below w.heap.size w ((x1.setCell ⟨q, 0, none⟩ (.bool false)).setCell ⟨q, 1, none⟩ (.slice am7 Lm7 cm7)) := (eD.setCell (show w.heap.size ≤ q by omega) _).setCell (show w.heap.size ≤ q by omega) _
        clear e7 e8 e2 e3 en er eD
        generalize (x1.setCell ⟨q, 0, none⟩ (.bool false)).setCell ⟨q, 1, none⟩ (.slice am7 Lm7 cm7) = x2 at i8 i7 i2 i3 jn jr jD ⊢
        have HJ7 := Lib.hid i7
        have HJ8 := Lib.hid i8
        have HJ2 := Lib.hid i2
        have HJ3 := Lib.hid i3
        have HJN := Lib.hid jn
        have HJR := Lib.hid jr
        have HJD := Lib.hid jD
        obtain ⟨d0, d1, z0, z1⟩ := num_cells i7
        clear i7 i8 i2 i3 jn jr jD hFx hd0
        go_wp2_with fail
        (with_reducible refine (HOQ.out _ _ HJN.out).mono ?_)
        rintro e x3 ⟨rfl, hb3⟩
        clear d0 d1 z0 z1
        have HY8 := Lib.hid (hold HJ8.out hb3)
        have HY2 := Lib.hid (hold HJ2.out hb3)
        have HY3 := Lib.hid (hold HJ3.out hb3)
        have HYR := Lib.hid (numHold HJR.out hb3)
        have HYD := Lib.hid (HJD.out.trans (hb3.mono HJD.out.size))
        clear hb3
        go_upto_region 5 with (fail)
        have hb4 : Below x3.heap.size x3 (x3.alloc (.cells #[.bool fq, .string tq] 38)) := (Below.refl _ _).alloc (Nat.le_refl _) _
        have iP9 : (x3.alloc (.cells #[.bool fq, .string tq] 38)).heap[x3.heap.size]? = some (.cells #[.bool fq, .string tq] 38) := heap_alloc_new x3 _
        have i8 := hold HY8.out hb4
        have i2 := hold HY2.out hb4
        have i3 := hold HY3.out hb4
        have ir := numHold HYR.out hb4
        have iD := HYD.out.trans (hb4.mono HYD.out.size)
        obtain ⟨P9, hP9⟩ : ∃ P, P = x3.heap.size := ⟨_, rfl⟩
        have hlP9 : w.heap.size + 1 + 1 + 1 < P9 := by rw [hP9]; exact lt_of_heap HY3.out
        rw [← hP9] at iP9 ⊢
        clear hP9 hb4 HY8 HY2 HY3 HYR HYD
        generalize x3.alloc (.cells #[.bool fq, .string tq] 38) = x4 at iP9 i8 i2 i3 ir iD ⊢
        have HZ9 := Lib.hid iP9
        have HZ2 := Lib.hid i2
        have HZ3 := Lib.hid i3
        have HZR := Lib.hid ir
        have HZD := Lib.hid iD
        obtain ⟨d0, d1, z0, z1⟩ := num_cells i8
        clear iP9 i8 i2 i3 ir iD
        go_wp2_with fail
        (with_reducible refine (HOR.out _ _ HZR.out).mono ?_)
        rintro e x5 ⟨rfl, hb5⟩
        clear d0 d1 z0 z1
        have HY9 := Lib.hid (hold HZ9.out hb5)
        have HY2 := Lib.hid (hold HZ2.out hb5)
        have HY3 := Lib.hid (hold HZ3.out hb5)
        have HYD := Lib.hid (HZD.out.trans (hb5.mono HZD.out.size))
        clear hb5
        go_upto_region 6 with (fail)
        have hb4 : Below x5.heap.size x5 (x5.alloc (.cells #[.bool fr, .string tr] 38)) := (Below.refl _ _).alloc (Nat.le_refl _) _
        have iP10 : (x5.alloc (.cells #[.bool fr, .string tr] 38)).heap[x5.heap.size]? = some (.cells #[.bool fr, .string tr] 38) := heap_alloc_new x5 _
        have i9 := hold HY9.out hb4
        have i2 := hold HY2.out hb4
        have i3 := hold HY3.out hb4
        have iD := HYD.out.trans (hb4.mono HYD.out.size)
        obtain ⟨P10, hP10⟩ : ∃ P, P = x5.heap.size := ⟨_, rfl⟩
        have hlP10 : w.heap.size + 1 + 1 + 1 < P10 := by rw [hP10]; exact lt_of_heap HY3.out
        rw [← hP10] at iP10 ⊢
        have hl9 : P9 < P10 := by rw [hP10]; exact lt_of_heap HY9.out
        clear hP10 hb4 HY9 HY2 HY3 HYD
        generalize x5.alloc (.cells #[.bool fr, .string tr] 38) = x6 at iP10 i9 i2 i3 iD ⊢
        have HZ9 := Lib.hid i9
        have HZ10 := Lib.hid iP10
        have HZ2 := Lib.hid i2
        have HZ3 := Lib.hid i3
        have HZD := Lib.hid iD
        clear iP10 i9 i2 i3 iD
        go_upto_region 8 with (fail)
        obtain ⟨e90, e91, f9⟩ := wide_cells HZ9.out
        obtain ⟨e100, e101, f10⟩ := wide_cells HZ10.out
        obtain ⟨e20, e21, f2⟩ := wide_cells HZ2.out
        obtain ⟨e30, e31, f3⟩ := wide_cells HZ3.out
        refine wp_region_late (fun w' => w'.cell? ⟨P9, 0, none⟩ = some (.bool fq) ∧ w'.cell? ⟨P9, 1, none⟩ = some (.string tq) ∧ w'.cell? ⟨P10, 0, none⟩ = some (.bool fr) ∧ w'.cell? ⟨P10, 1, none⟩ = some (.string tr)) (fun j => decide (j = 3)) (by kernel_rfl) ⟨e90, e91, e100, e101⟩ (fun hHeld => ?_)
        refine wpAnyD_take 0 (v := ?_) (by kernel_rfl) (by kernel_rfl) rfl (by kernel_rfl) (by kernel_rfl) (fun _ _ _ h => h) (Or.inl ⟨by rfl, ?_⟩) (by assumption) ?_
        rotate_left
        · (intro wq hSq; (try dsimp only at hSq); go_simp; try with_reducible rfl)
        try simp only [Act.put, List.setIfInBounds_toArray, List.set_cons_zero, List.set_cons_succ]
        refine wpAnyD_take 1 (v := ?_) (by kernel_rfl) (by kernel_rfl) rfl (by kernel_rfl) (by kernel_rfl) (fun _ _ _ h => h) (Or.inl ⟨by rfl, ?_⟩) (by assumption) ?_
        rotate_left
        · (intro wq hSq; (try dsimp only at hSq); go_simp; try with_reducible rfl)
        try simp only [Act.put, List.setIfInBounds_toArray, List.set_cons_zero, List.set_cons_succ]
        refine wpAnyD_keep 2 (by kernel_rfl) rfl (fun K hK => ?_)
        go_simp
        have j9 := (wide_other (p := P9) (q := w.heap.size + 1 + 1) (by omega) fq tq (W := x6)).trans HZ9.out
        have j10 := (wide_other (p := P10) (q := w.heap.size + 1 + 1) (by omega) fq tq (W := x6)).trans HZ10.out
        refine hK.out _ _ (keep4 j9 j10) (fun hHeld2 => ?_)
        clear hK K hHeld j9 j10 e90 e91 f9 e100 e101 f10 e20 e21 f2 e30 e31 f3
        try simp only [Act.put, List.setIfInBounds_toArray, List.set_cons_zero, List.set_cons_succ]
        have m2 := wide_set HZ2.out fq tq
        have m3 := (wide_other (p := w.heap.size + 1 + 1 + 1) (q := w.heap.size + 1 + 1) (by omega) fq tq (W := x6)).trans HZ3.out
        have mD := below_set2 (p := w.heap.size + 1 + 1) HZD.out (by omega) fq tq
        first
          | generalize (x6.setCell ⟨w.heap.size + 1 + 1, 0, none⟩ (.bool fq)).setCell ⟨w.heap.size + 1 + 1, 1, none⟩ (.string tq) = x7 at m2 m3 mD hHeld2 ⊢
        obtain ⟨e30, e31, f3⟩ := wide_cells m3
        have HN2 := Lib.hid m2
        have HN3 := Lib.hid m3
        have HND := Lib.hid mD
        clear m2 m3 mD
        refine wpAnyD_step 3 (by kernel_rfl) rfl rfl (fun K hK => ?_)
        go_simp
        refine hK.out _ _ ?_
        clear hK K e30 e31 f3 hHeld2
        try simp only [Act.put, List.setIfInBounds_toArray, List.set_cons_zero, List.set_cons_succ]
        refine wpAnyD_takeW 4 (v := ?_) (by kernel_rfl) rfl (by kernel_rfl) (by kernel_rfl) (fun _ _ _ h => h) (Or.inl ⟨by rfl, ?_⟩) ?_
        rotate_left
        · (intro wq hSq; (try dsimp only at hSq); go_simp; try with_reducible rfl)
        try simp only [Act.put, List.setIfInBounds_toArray, List.set_cons_zero, List.set_cons_succ]
        refine wpAnyD_end (by kernel_rfl) ?_
        have m3 : ((x7.setCell ⟨w.heap.size + 1 + 1 + 1, 0, none⟩ (.bool fr)).setCell ⟨w.heap.size + 1 + 1 + 1, 1, none⟩ (.string tr)).drew.heap[w.heap.size + 1 + 1 + 1]? = some (.cells #[.bool fr, .string tr] 38) := wide_set HN3.out fr tr
        have m2 : ((x7.setCell ⟨w.heap.size + 1 + 1 + 1, 0, none⟩ (.bool fr)).setCell ⟨w.heap.size + 1 + 1 + 1, 1, none⟩ (.string tr)).drew.heap[w.heap.size + 1 + 1]? = some (.cells #[.bool fq, .string tq] 38) := (wide_other (p := w.heap.size + 1 + 1) (q := w.heap.size + 1 + 1 + 1) (by omega) fr tr (W := x7)).trans HN2.out
        have hb9 := (below_set2 (p := w.heap.size + 1 + 1 + 1) HND.out (by omega) fr tr).drew
        generalize ((x7.setCell ⟨w.heap.size + 1 + 1 + 1, 0, none⟩ (.bool fr)).setCell ⟨w.heap.size + 1 + 1 + 1, 1, none⟩ (.string tr)).drew = W9 at m2 m3 hb9 ⊢
        obtain ⟨d20, d21, -⟩ := wide_cells m2
        obtain ⟨d30, d31, -⟩ := wide_cells m3
        clear m2 m3
        go_wp2
        rw [HP.out]
        exact bodyPost_ret (v := .tuple #[.agg #[.bool fq, .string tq], .agg #[.bool fr, .string tr], .int .i64 0]) (by simp [results, Try.results25, go_sem, d20, d21, d30, d31]) rfl ⟨rfl, hb9⟩
end Go.Proofs.Ytnjblppapmflhaa
