/- Wide integers: helpers and walks, in one text (WD5 WD6 WD7 WD8 WD9 WMa). -/
import Derived.Test.YtdfklcmiagmgaaaWQ2
/- Walks: quotient and rest of two forms. -/
namespace Go.Proofs.Ytdfklcmiagmgaaa
set_option linter.all false
open Go.RowKit Go.Shelf Go.WideNum
/-- What Div answers: quotient, rest, error. -/
def divF (na : Bool) (sa : ByteArray) (nb : Bool) (sb : ByteArray) : Value × Value × Int :=
  if validB na sa && (validB nb sb && decide (sb.size ≠ 0)) then (outZ (zV na sa / zV nb sb), outZ (zV na sa % zV nb sb), errZ (zV na sa / zV nb sb)) else (emptyW, emptyW, 2)
theorem form_numZ (n : Nat) (neg : Bool) (v : Value) (w : World) (h : World.numR w v n) (hl : (wd n).length ≤ 2000) : ∃ b t, outZ (zOf neg n) = .agg #[.bool b, .string t] ∧
    Calls Try.prog 53 #[v, .bool neg] w fun e w' => e = .returned (.tuple #[.agg #[.bool b, .string t], .int .i64 (errZ (zOf neg n))]) ∧ Below w.heap.size w w' := by
  have hwide : ∃ b t, outB neg n = .agg #[.bool b, .string t] := by unfold outB emptyW wideV; split <;> exact ⟨_, _, rfl⟩
  obtain ⟨b, t, hbt⟩ := hwide
  refine ⟨b, t, by rw [← outB_z]; exact hbt, ?_⟩
  have := form_num n neg v w h hl
  unfold FormRet at this
  rwa [hbt, outE_z neg] at this
theorem two_forms (na : Bool) (sa : ByteArray) (nb : Bool) (sb : ByteArray) (W : World) (g : Nat) (h : W.heap[g]? = some (.cells #[.bool na, .string sa, .bool nb, .string sb] 23)) : World.forms W g [(na, sa), (nb, sb)] := by
  intro k x hk
  match k, hk with
  | 0, hk => injection hk with hk; subst hk; exact ⟨by rw [cell_of_row W _ _ _ _ (0, 0) h]; rfl, by rw [cell_of_row W _ _ _ _ (0, 0) h]; rfl⟩
  | 1, hk => injection hk with hk; subst hk; exact ⟨by rw [cell_of_row W _ _ _ _ (0, 0) h]; rfl, by rw [cell_of_row W _ _ _ _ (0, 0) h]; rfl⟩
  | k + 2, hk => simp at hk
theorem valid2_any (na : Bool) (sa : ByteArray) (nb : Bool) (sb : ByteArray) (hsa : sa.size ≤ maxLen) (hsb : sb.size ≤ maxLen) (W : World) (g : Nat) (h : W.heap[g]? = some (.cells #[.bool na, .string sa, .bool nb, .string sb] 23)) :
    Calls Try.prog 63 #[.slice (some ⟨g, 0, none⟩) 2 2] W fun e w' => e = .returned (.bool (validB na sa && validB nb sb)) ∧ Below W.heap.size W w' := by
  have := valid_any [(na, sa), (nb, sb)] g (by simp) (by simp [hsa, hsb]) W (two_forms na sa nb sb W g h) (lt_of_heap h)
  simpa using this
theorem wide_other {W : World} {p q : Nat} (h : p ≠ q) (neg : Bool) (s : ByteArray) : ((W.setCell ⟨q, 0, none⟩ (.bool neg)).setCell ⟨q, 1, none⟩ (.string s)).heap[p]? = W.heap[p]? := by
  rw [Below.heap_setCell _ _ _ _ h, Below.heap_setCell _ _ _ _ h]
theorem wide_set2 {W : World} {p q : Nat} {u0 u1 v0 v1 : Value} (hp : W.heap[p]? = some (.cells #[u0, u1] 23)) (hq : W.heap[q]? = some (.cells #[v0, v1] 23)) (h : p ≠ q) (b : Bool) (s : ByteArray) (c : Bool) (t : ByteArray) :
    ((((W.setCell ⟨p, 0, none⟩ (.bool b)).setCell ⟨p, 1, none⟩ (.string s)).setCell ⟨q, 0, none⟩ (.bool c)).setCell ⟨q, 1, none⟩ (.string t)).heap[p]? = some (.cells #[.bool b, .string s] 23) ∧
    ((((W.setCell ⟨p, 0, none⟩ (.bool b)).setCell ⟨p, 1, none⟩ (.string s)).setCell ⟨q, 0, none⟩ (.bool c)).setCell ⟨q, 1, none⟩ (.string t)).heap[q]? = some (.cells #[.bool c, .string t] 23) :=
  ⟨(wide_other h c t).trans (wide_set hp b s), wide_set ((wide_other (Ne.symm h) b s).trans hq) c t⟩
theorem reads_wide_set {W : World} {B p : Nat} {v : Value} {l : List Nat} {b0 : Bool} {s0 : ByteArray} (h : W.reads B v (l.map u32V)) (hp : W.heap[p]? = some (.cells #[.bool b0, .string s0] 23)) (x : Bool) (y : ByteArray) :
    ((W.setCell ⟨p, 0, none⟩ (.bool x)).setCell ⟨p, 1, none⟩ (.string y)).reads B v (l.map u32V) := by
  obtain ⟨a, cap, hv, hn, hz, hmx, hc⟩ := h
  refine ⟨a, cap, hv, hn, hz, hmx, fun j u hj => ?_⟩
  obtain ⟨b, off, ha, hB, hcell⟩ := hc j u hj
  refine ⟨b, off, ha, hB, ?_⟩
  have hne : b ≠ p := by
    rintro rfl
    rw [cell_of_row W _ _ _ _ (0, 0) hp] at hcell
    obtain ⟨z, _, rfl⟩ := List.mem_map.1 (List.mem_of_getElem? hj)
    have hm := Array.mem_of_getElem? hcell
    simp [u32V] at hm
  have := wide_other (p := b) (q := p) hne x y (W := W)
  exact (World.cell?_of_block (a := ⟨b, off + j, none⟩) this).trans hcell
theorem numR_wide_set {W : World} {p n : Nat} {v : Value} {b0 : Bool} {s0 : ByteArray} (h : World.numR W v n) (hp : W.heap[p]? = some (.cells #[.bool b0, .string s0] 23)) (x : Bool) (y : ByteArray) :
    World.numR ((W.setCell ⟨p, 0, none⟩ (.bool x)).setCell ⟨p, 1, none⟩ (.string y)) v n := by
  have := reads_wide_set h hp x y
  unfold World.numR
  simpa using this
theorem keep4 {W : World} {p q : Nat} {b c : Bool} {s t : ByteArray} (h2 : W.heap[p]? = some (.cells #[.bool b, .string s] 23)) (h3 : W.heap[q]? = some (.cells #[.bool c, .string t] 23)) :
    W.cell? ⟨p, 0, none⟩ = some (.bool b) ∧ W.cell? ⟨p, 1, none⟩ = some (.string s) ∧ W.cell? ⟨q, 0, none⟩ = some (.bool c) ∧ W.cell? ⟨q, 1, none⟩ = some (.string t) :=
  ⟨(wide_cells h2).1, (wide_cells h2).2.1, (wide_cells h3).1, (wide_cells h3).2.1⟩
theorem below_set2 {w W : World} {p : Nat} (hb : Below w.heap.size w W) (hp : w.heap.size ≤ p) (b : Bool) (s : ByteArray) : Below w.heap.size w ((W.setCell ⟨p, 0, none⟩ (.bool b)).setCell ⟨p, 1, none⟩ (.string s)) := (hb.setCell hp _).setCell hp _
set_option maxRecDepth 100000 in
set_option maxHeartbeats 8000000 in
theorem Div_any (na : Bool) (sa : ByteArray) (nb : Bool) (sb : ByteArray) (hsa : sa.size ≤ maxLen) (hsb : sb.size ≤ maxLen)
    (hD : validB na sa = true → validB nb sb = true → sb.size ≠ 0 → DivOK (numB sa) (numB sb)) (w : World) :
    Calls Try.prog 32 #[.agg #[.bool na, .string sa], .agg #[.bool nb, .string sb]] w fun e w' => e = .returned (.tuple #[(divF na sa nb sb).1, (divF na sa nb sb).2.1, .int .i64 (divF na sa nb sb).2.2]) ∧ Below w.heap.size w w' := by
  obtain ⟨HPOST, hpost⟩ : ∃ X : Ending → World → Prop, X = fun e w' => e = .returned (.tuple #[(divF na sa nb sb).1, (divF na sa nb sb).2.1, .int .i64 (divF na sa nb sb).2.2]) ∧ Below w.heap.size w w' := ⟨_, rfl⟩
  rw [← hpost]
  have HP := Lib.hid hpost
  clear hpost
  obtain ⟨W0, hW0⟩ : ∃ W0, W0 = (((w.alloc (.cells #[.bool na, .string sa] 23)).alloc (.cells #[.bool nb, .string sb] 23)).alloc (.cells #[.bool false, .string ⟨#[]⟩] 23)).alloc (.cells #[.bool false, .string ⟨#[]⟩] 23) := ⟨_, rfl⟩
  have g0 : W0.heap[w.heap.size]? = some (.cells #[.bool na, .string sa] 23) := by rw [hW0]; repeat (first | (refine alloc_last _ _ ?_; simp only [World.size_alloc]; done) | (rw [Below.heap_alloc]; rotate_left; (simp only [World.size_alloc]; omega)))
  have g1 : W0.heap[w.heap.size + 1]? = some (.cells #[.bool nb, .string sb] 23) := by rw [hW0]; repeat (first | (refine alloc_last _ _ ?_; simp only [World.size_alloc]; done) | (rw [Below.heap_alloc]; rotate_left; (simp only [World.size_alloc]; omega)))
  have g2 : W0.heap[w.heap.size + 1 + 1]? = some (.cells #[.bool false, .string ⟨#[]⟩] 23) := by rw [hW0]; repeat (first | (refine alloc_last _ _ ?_; simp only [World.size_alloc]; done) | (rw [Below.heap_alloc]; rotate_left; (simp only [World.size_alloc]; omega)))
  have g3 : W0.heap[w.heap.size + 1 + 1 + 1]? = some (.cells #[.bool false, .string ⟨#[]⟩] 23) := by rw [hW0]; repeat (first | (refine alloc_last _ _ ?_; simp only [World.size_alloc]; done) | (rw [Below.heap_alloc]; rotate_left; (simp only [World.size_alloc]; omega)))
  have hz0 : W0.heap.size = w.heap.size + 4 := by rw [hW0]; simp
  have hb0 : Below w.heap.size w W0 := by rw [hW0]; exact (((((Below.refl _ w).alloc (Nat.le_refl _) _).alloc (by simp) _).alloc (by simp; omega) _).alloc (by simp; omega) _)
  have HB0 := Lib.hid hb0
  have HG0 := Lib.hid g0
  have HG1 := Lib.hid g1
  have HG2 := Lib.hid g2
  have HG3 := Lib.hid g3
  have HZ0 := Lib.hid hz0
  obtain ⟨c00, c01, f0⟩ := wide_cells g0
  obtain ⟨c10, c11, f1⟩ := wide_cells g1
  have HW0 := Lib.hid hW0
  clear hb0 g0 g1 g2 g3 hz0 hW0
  go_enter Try.func32, Try.ntmps32
  go_upto_region 1 with (fail)
  rw [← HW0.out]
  go_wp2_with fail
  obtain ⟨ok, hok⟩ : ∃ ok, ok = (validB na sa && validB nb sb) := ⟨_, rfl⟩
  have hval := valid2_any na sa nb sb hsa hsb (W0.alloc (.cells #[.bool na, .string sa, .bool nb, .string sb] 23)) W0.heap.size (heap_alloc_new W0 _)
  rw [← hok] at hval
  have HOK := Lib.hid hok
  clear hok
  (with_reducible refine hval.mono ?_)
  clear hval
  rintro e w1 ⟨rfl, hb1⟩
  have hb01 : Below W0.heap.size W0 w1 := ((Below.refl _ W0).alloc (Nat.le_refl _) _).trans (hb1.mono (by simp))
  have k0 := (hb01.block _ (lt_of_heap HG0.out)).trans HG0.out
  have k1 := (hb01.block _ (lt_of_heap HG1.out)).trans HG1.out
  have k2 := (hb01.block _ (lt_of_heap HG2.out)).trans HG2.out
  have k3 := (hb01.block _ (lt_of_heap HG3.out)).trans HG3.out
  have HK0 := Lib.hid k0
  have HK1 := Lib.hid k1
  have HK2 := Lib.hid k2
  have HK3 := Lib.hid k3
  have HBw1 := Lib.hid (HB0.out.trans (hb01.mono HB0.out.size))
  clear c00 c01 f0 c10 c11 f1 hb1
  obtain ⟨c00, c01, f0⟩ := wide_cells k0
  obtain ⟨c10, c11, f1⟩ := wide_cells k1
  have hsz1 := hb01.size
  clear k0 k1 hb01
  cases ok with
  | false =>
    obtain ⟨c20, c21, f2⟩ := wide_cells k2
    obtain ⟨c30, c31, f3⟩ := wide_cells k3
    clear k2 k3
    have hres : Hid (divF na sa nb sb = (emptyW, emptyW, 2)) := by
      show _ = _
      unfold divF
      have := HOK.out
      cases h1 : validB na sa <;> cases h2 : validB nb sb <;> rw [h1, h2] at this <;> first | rfl | cases this
    go_wp2
    obtain ⟨m2, m3⟩ := wide_set2 HK2.out HK3.out (by omega) false ⟨#[]⟩ false ⟨#[]⟩
    have hb9 := below_set2 (p := w.heap.size + 1 + 1 + 1) (below_set2 (p := w.heap.size + 1 + 1) HBw1.out (by omega) false ⟨#[]⟩) (by omega) false ⟨#[]⟩
    obtain ⟨d20, d21, -⟩ := wide_cells m2
    obtain ⟨d30, d31, -⟩ := wide_cells m3
    clear m2 m3
    generalize (((w1.setCell ⟨w.heap.size + 1 + 1, 0, none⟩ (.bool false)).setCell ⟨w.heap.size + 1 + 1, 1, none⟩ (.string ⟨#[]⟩)).setCell ⟨w.heap.size + 1 + 1 + 1, 0, none⟩ (.bool false)).setCell ⟨w.heap.size + 1 + 1 + 1, 1, none⟩ (.string ⟨#[]⟩) = W9 at d20 d21 d30 d31 hb9 ⊢
    rw [HP.out]
    exact bodyPost_ret (v := .tuple #[emptyW, emptyW, .int .i64 2]) (by simp [results, Try.results32, go_sem, d20, d21, d30, d31]; rfl) rfl ⟨by rw [hres.out], hb9⟩
  | true =>
    have hv : validB na sa = true ∧ validB nb sb = true := by
      have := HOK.out
      cases h1 : validB na sa <;> cases h2 : validB nb sb <;> rw [h1, h2] at this <;> first | exact ⟨rfl, rfl⟩ | cases this
    by_cases h0 : sb.size = 0
    · obtain rfl := str_empty sb h0
      obtain ⟨c20, c21, f2⟩ := wide_cells k2
      obtain ⟨c30, c31, f3⟩ := wide_cells k3
      clear k2 k3
      have hres : Hid (divF na sa nb ⟨#[]⟩ = (emptyW, emptyW, 2)) := by
        show _ = _
        unfold divF
        rw [if_neg]
        intro h
        simp only [Bool.and_eq_true, decide_eq_true_eq] at h
        exact h.2.2 rfl
      clear hv h0
      go_wp2
      obtain ⟨m2, m3⟩ := wide_set2 HK2.out HK3.out (by omega) false ⟨#[]⟩ false ⟨#[]⟩
      have hb9 := below_set2 (p := w.heap.size + 1 + 1 + 1) (below_set2 (p := w.heap.size + 1 + 1) HBw1.out (by omega) false ⟨#[]⟩) (by omega) false ⟨#[]⟩
      obtain ⟨d20, d21, -⟩ := wide_cells m2
      obtain ⟨d30, d31, -⟩ := wide_cells m3
      clear m2 m3
      generalize (((w1.setCell ⟨w.heap.size + 1 + 1, 0, none⟩ (.bool false)).setCell ⟨w.heap.size + 1 + 1, 1, none⟩ (.string ⟨#[]⟩)).setCell ⟨w.heap.size + 1 + 1 + 1, 0, none⟩ (.bool false)).setCell ⟨w.heap.size + 1 + 1 + 1, 1, none⟩ (.string ⟨#[]⟩) = W9 at d20 d21 d30 d31 hb9 ⊢
      rw [HP.out]
      exact bodyPost_ret (v := .tuple #[emptyW, emptyW, .int .i64 2]) (by simp [results, Try.results32, go_sem, d20, d21, d30, d31]; rfl) rfl ⟨by rw [hres.out], hb9⟩
    · clear k2 k3
      obtain ⟨hns, hem⟩ := str_facts sb h0
      obtain ⟨l1, -, -, s256a⟩ := valid_spec na sa hv.1
      obtain ⟨l2, hmg, -, s256b⟩ := valid_spec nb sb hv.2
      have hofA : Hid (∀ W : World, Calls Try.prog 58 #[.agg #[.bool na, .string sa]] W (NumRet W (numB sa))) := of_wide na sa (by omega)
      have hofB : Hid (∀ W : World, Calls Try.prog 58 #[.agg #[.bool nb, .string sb]] W (NumRet W (numB sb))) := of_wide nb sb (by omega)
      have hD2 := hD hv.1 hv.2 h0
      have hB0 : numB sb ≠ 0 := by
        intro h
        rw [h] at hmg
        exact h0 (by rw [← hmg]; rfl)
      have hwa := wd_len65 l1
      have hwb := wd_len65 l2
      have hres : divF na sa nb sb = (outZ (zV na sa / zV nb sb), outZ (zV na sa % zV nb sb), errZ (zV na sa / zV nb sb)) := by
        unfold divF; rw [hv.1, hv.2, decide_eq_true h0]; rfl
      unfold zV at hres
      obtain ⟨A, hA⟩ : ∃ A, A = numB sa := ⟨_, rfl⟩
      obtain ⟨C, hC⟩ : ∃ C, C = numB sb := ⟨_, rfl⟩
      rw [← hA, ← hC] at hres
      rw [← hA] at hofA hwa
      rw [← hC] at hofB hB0 hwb
      rw [← hA, ← hC] at hD2
      obtain ⟨fz1, fz2⟩ := floor_z A na C nb hB0
      rw [← fz1, ← fz2] at hres
      have HRES := Lib.hid hres
      have HFL : Hid (∀ (va vb : Value) (W : World), World.numR W va A → World.numR W vb C → Calls Try.prog 68 #[va, .bool na, vb, .bool nb] W (FloorRet W A na C nb)) := fun va vb W h1 h2 => floor_any A C na nb hB0 hD2 (by omega) (by omega) va vb W h1 h2
      have hql : (wd (floorN A na C)).length ≤ 2000 ∧ (wd (floorR A na C)).length ≤ 2000 := by
        have h1 := wd_vlt A
        have h2 := wd_vlt C
        have h3 := Nat.mod_lt A (show 0 < C by omega)
        have h4 := Nat.div_le_self A C
        have hp : (4294967296 : Nat) ^ (wd A).length ≤ 4294967296 ^ 64 := Nat.pow_le_pow_right (by omega) hwa
        have hp2 : (4294967296 : Nat) ^ (wd C).length ≤ 4294967296 ^ 64 := Nat.pow_le_pow_right (by omega) hwb
        constructor
        · have := words_length (B := 4294967296) (by omega) (floorN A na C) 65 (by
            rw [show (65 : Nat) = 64 + 1 by rfl, Nat.pow_succ]
            unfold floorN
            split <;> omega)
          unfold wd; omega
        · have := words_length (B := 4294967296) (by omega) (floorR A na C) 65 (by
            rw [show (65 : Nat) = 64 + 1 by rfl, Nat.pow_succ]
            unfold floorR
            split <;> omega)
          unfold wd; omega
      have HQL := Lib.hid hql
      have hl0 : w.heap.size < w1.heap.size := lt_of_heap HK0.out
      have hl1 : w.heap.size + 1 < w1.heap.size := lt_of_heap HK1.out
      clear hres hD2 hB0 hwa hwb hql fz1 fz2 hA hC hmg l1 l2 hv h0
      go_wp2_with fail
      go_region_held3 (fun w' => (w'.cell? ⟨w.heap.size, 0, none⟩ = some (.bool na) ∧ w'.cell? ⟨w.heap.size, 1, none⟩ = some (.string sa) ∧ w'.cell? ⟨w.heap.size + 1, 0, none⟩ = some (.bool nb) ∧ w'.cell? ⟨w.heap.size + 1, 1, none⟩ = some (.string sb)))
        (first | exact ⟨c00, c01, c10, c11⟩ | (refine ⟨?_, ?_, ?_, ?_⟩ <;> assumption))
        (first
          | (go_simp; go_at_call 58; (with_reducible refine (hofA.out _).mono ?_); rintro e w5 ⟨v5, rfl, ho5, hb5⟩; have H5 : Hid (NumRet _ A (.returned v5) w5) := ⟨v5, rfl, ho5, hb5⟩; have a0 := (hb5.cell (p := ⟨w.heap.size, 0, none⟩) hl0).trans c00; have a1 := (hb5.cell (p := ⟨w.heap.size, 1, none⟩) hl0).trans c01; have a2 := (hb5.cell (p := ⟨w.heap.size + 1, 0, none⟩) hl1).trans c10; have a3 := (hb5.cell (p := ⟨w.heap.size + 1, 1, none⟩) hl1).trans c11; have hm0 := Nat.lt_of_lt_of_le hl0 hb5.size; have hm1 := Nat.lt_of_lt_of_le hl1 hb5.size; clear ho5 hb5)
          | (go_simp; go_at_call 58; (with_reducible refine (hofB.out _).mono ?_); rintro e w6 ⟨v6, rfl, ho6, hb6⟩; have H6 : Hid (NumRet _ C (.returned v6) w6) := ⟨v6, rfl, ho6, hb6⟩; have b0 := (hb6.cell (p := ⟨w.heap.size, 0, none⟩) hm0).trans a0; have b1 := (hb6.cell (p := ⟨w.heap.size, 1, none⟩) hm0).trans a1; have b2 := (hb6.cell (p := ⟨w.heap.size + 1, 0, none⟩) hm1).trans a2; have b3 := (hb6.cell (p := ⟨w.heap.size + 1, 1, none⟩) hm1).trans a3; have hn0 := Nat.lt_of_lt_of_le hm0 hb6.size; have hn1 := Nat.lt_of_lt_of_le hm1 hb6.size; clear ho6 hb6)
          | (go_simp; go_at_call 68; (with_reducible refine (HFL.out _ _ _ (numR_below H5.out.numR H6.out.bel) H6.out.numR).mono ?_); rintro e w7 ⟨v7, u7, rfl, hq7, hr7, hb7⟩; have HQ7 : Hid (World.numR w7 v7 (floorN A na C)) := hq7; have HR7 : Hid (World.numR w7 u7 (floorR A na C)) := hr7; have HB7 := Lib.hid hb7; have d0 := (hb7.cell (p := ⟨w.heap.size, 0, none⟩) hn0).trans b0; have d1 := (hb7.cell (p := ⟨w.heap.size, 1, none⟩) hn0).trans b1; have d2 := (hb7.cell (p := ⟨w.heap.size + 1, 0, none⟩) hn1).trans b2; have d3 := (hb7.cell (p := ⟨w.heap.size + 1, 1, none⟩) hn1).trans b3; clear hq7 hr7 hb7))
      have hbw7 := HB7.out
      have hb16 : Below w1.heap.size w1 w6 := (show Below w1.heap.size w1 w5 from ((Below.refl w1.heap.size w1).drew).trans H5.out.bel).trans (H6.out.bel.mono (show w1.heap.size ≤ w5.heap.size from H5.out.bel.size))
      have hb17 : Below w1.heap.size w1 w7 := hb16.trans (hbw7.mono hb16.size)
      have HK27 := Lib.hid ((hb17.block _ (lt_of_heap HK2.out)).trans HK2.out)
      have HK37 := Lib.hid ((hb17.block _ (lt_of_heap HK3.out)).trans HK3.out)
      have HBw7 := Lib.hid (HBw1.out.trans (hb17.mono HBw1.out.size))
      obtain ⟨na1, nb1, hnn⟩ : ∃ x y : Nat, x = floorN A na C ∧ y = floorR A na C := ⟨_, _, rfl, rfl⟩
      rw [← hnn.1] at HQ7 HQL HRES
      rw [← hnn.2] at HR7 HQL HRES
      clear hnn hbw7 hb16 hb17 d0 d1 d2 d3 b0 b1 b2 b3 a0 a1 a2 a3 hn0 hn1 hm0 hm1 c00 c01 c10 c11 f0 f1
      obtain ⟨qb, qt, hq1, hq2⟩ := form_numZ na1 (na != nb) v7 w7 HQ7.out HQL.out.1
      have HFQ := Lib.hid hq2
      obtain ⟨a7, c7, rfl⟩ := numR_shape HQ7.out
      obtain ⟨a8, c8, rfl⟩ := numR_shape HR7.out
      rw [hq1] at HRES
      obtain ⟨E, hE⟩ : ∃ E, E = errZ (zOf (na != nb) na1) := ⟨_, rfl⟩
      rw [← hE] at HFQ HRES
      obtain ⟨L7, hL7⟩ : ∃ L, L = (wd na1).length := ⟨_, rfl⟩
      obtain ⟨L8, hL8⟩ : ∃ L, L = (wd nb1).length := ⟨_, rfl⟩
      rw [← hL7] at HQ7 HFQ ⊢
      rw [← hL8] at HR7 ⊢
      clear hE hq1 hq2 hL7 hL8
      go_wp2_with fail
      (with_reducible refine (HFQ.out).mono ?_)
      rintro e w8 ⟨rfl, hb8⟩
      have HR8 := Lib.hid (numR_below HR7.out hb8)
      have k28 := (hb8.block _ (lt_of_heap HK27.out)).trans HK27.out
      have k38 := (hb8.block _ (lt_of_heap HK37.out)).trans HK37.out
      have hbw8 := HBw7.out.trans (hb8.mono HBw7.out.size)
      obtain ⟨c20, c21, f2⟩ := wide_cells k28
      have hl8 := lt_of_heap k28
      have HK28 := Lib.hid k28
      have HK38 := Lib.hid k38
      have HBw8 := Lib.hid hbw8
      have hsz8 := hb8.size
      clear k28 k38 hbw8 hb8
      go_upto_region 5 with (fail)
      have hk2 := wide_set HK28.out qb qt
      have hk3 := (wide_other (p := w.heap.size + 1 + 1 + 1) (q := w.heap.size + 1 + 1) (by omega) qb qt (W := w8)).trans HK38.out
      have hbs := below_set2 HBw8.out (p := w.heap.size + 1 + 1) (by omega) qb qt
      have hr9 : World.numR ((w8.setCell ⟨w.heap.size + 1 + 1, 0, none⟩ (.bool qb)).setCell ⟨w.heap.size + 1 + 1, 1, none⟩ (.string qt)) (.slice a8 L8 c8) nb1 := numR_wide_set HR8.out HK28.out qb qt
      generalize (w8.setCell ⟨w.heap.size + 1 + 1, 0, none⟩ (.bool qb)).setCell ⟨w.heap.size + 1 + 1, 1, none⟩ (.string qt) = w9 at hk2 hk3 hbs hr9 ⊢
      obtain ⟨rb, rt, hr1, hr2⟩ := form_numZ nb1 false (.slice a8 L8 c8) w9 hr9 HQL.out.2
      rw [zOf_false] at hr1 hr2
      rw [hr1] at HRES
      obtain ⟨E2, hE2⟩ : ∃ E, E = errZ (nb1 : Int) := ⟨_, rfl⟩
      rw [← hE2] at hr2
      have HFR := Lib.hid hr2
      have HK29 := Lib.hid hk2
      have HK39 := Lib.hid hk3
      have HBw9 := Lib.hid hbs
      clear hr1 hr2 hE2 hk2 hk3 hbs hr9 c20 c21 f2 hsz8 hl8
      go_wp2_with fail
      (with_reducible refine (HFR.out).mono ?_)
      rintro e w10 ⟨rfl, hb10⟩
      have k2 := (hb10.block _ (lt_of_heap HK29.out)).trans HK29.out
      have k3 := (hb10.block _ (lt_of_heap HK39.out)).trans HK39.out
      obtain ⟨e20, e21, f2⟩ := wide_cells k2
      obtain ⟨e30, e31, f3⟩ := wide_cells k3
      have HBw10 := Lib.hid (HBw9.out.trans (hb10.mono HBw9.out.size))
      have HK2 := Lib.hid k2
      have HK3 := Lib.hid k3
      clear k2 k3 hb10
      go_upto_region 6 with (fail)
      have m3 := wide_set HK3.out rb rt
      have m2 := (wide_other (p := w.heap.size + 1 + 1) (q := w.heap.size + 1 + 1 + 1) (by omega) rb rt (W := w10)).trans HK2.out
      have hb11 := below_set2 HBw10.out (p := w.heap.size + 1 + 1 + 1) (by omega) rb rt
      clear e20 e21 f2 e30 e31 f3
      generalize (w10.setCell ⟨w.heap.size + 1 + 1 + 1, 0, none⟩ (.bool rb)).setCell ⟨w.heap.size + 1 + 1 + 1, 1, none⟩ (.string rt) = w11 at m2 m3 hb11 ⊢
      obtain ⟨e20, e21, f2⟩ := wide_cells m2
      obtain ⟨e30, e31, f3⟩ := wide_cells m3
      have HM2 := Lib.hid m2
      have HM3 := Lib.hid m3
      have HB11 := Lib.hid hb11
      clear m2 m3 hb11
      go_region_held3 (fun w' => (w'.cell? ⟨w.heap.size + 1 + 1, 0, none⟩ = some (.bool qb) ∧ w'.cell? ⟨w.heap.size + 1 + 1, 1, none⟩ = some (.string qt) ∧ w'.cell? ⟨w.heap.size + 1 + 1 + 1, 0, none⟩ = some (.bool rb) ∧ w'.cell? ⟨w.heap.size + 1 + 1 + 1, 1, none⟩ = some (.string rt)))
        (first | exact ⟨e20, e21, e30, e31⟩ | exact keep4 (wide_set HM2.out qb qt) ((wide_other (by omega) qb qt).trans HM3.out) | exact keep4 ((wide_other (by omega) rb rt).trans (wide_set HM2.out qb qt)) (wide_set ((wide_other (by omega) qb qt).trans HM3.out) rb rt))
        (fail)
      have m9 := wide_set2 HM2.out HM3.out (by omega) qb qt rb rt
      have hb9 := (below_set2 (p := w.heap.size + 1 + 1 + 1) (below_set2 (p := w.heap.size + 1 + 1) HB11.out (by omega) qb qt) (by omega) rb rt).drew
      obtain ⟨d20, d21, d30, d31⟩ := keep4 (W := ((((w11.setCell ⟨w.heap.size + 1 + 1, 0, none⟩ (.bool qb)).setCell ⟨w.heap.size + 1 + 1, 1, none⟩ (.string qt)).setCell ⟨w.heap.size + 1 + 1 + 1, 0, none⟩ (.bool rb)).setCell ⟨w.heap.size + 1 + 1 + 1, 1, none⟩ (.string rt)).drew) m9.1 m9.2
      clear m9 e20 e21 f2 e30 e31 f3
      generalize ((((w11.setCell ⟨w.heap.size + 1 + 1, 0, none⟩ (.bool qb)).setCell ⟨w.heap.size + 1 + 1, 1, none⟩ (.string qt)).setCell ⟨w.heap.size + 1 + 1 + 1, 0, none⟩ (.bool rb)).setCell ⟨w.heap.size + 1 + 1 + 1, 1, none⟩ (.string rt)).drew = W9 at d20 d21 d30 d31 hb9 ⊢
      go_wp2
      rw [HP.out]
      exact bodyPost_ret (v := .tuple #[.agg #[.bool qb, .string qt], .agg #[.bool rb, .string rt], .int .i64 E]) (by simp [results, Try.results32, go_sem, d20, d21, d30, d31]) rfl ⟨by rw [HRES.out], hb9⟩
end Go.Proofs.Ytdfklcmiagmgaaa

/- Walks: the balanced remainder. -/
namespace Go.Proofs.Ytdfklcmiagmgaaa
set_option linter.all false
open Go.RowKit Go.Shelf Go.WideNum
def balZ (a m : Int) : Int := if m < 2 * (a % m) then a % m - m else a % m
def balF (na : Bool) (sa : ByteArray) (nb : Bool) (sb : ByteArray) : Value × Int :=
  if validB na sa && posB nb sb then (outZ (balZ (zV na sa) (zV nb sb)), errZ (balZ (zV na sa) (zV nb sb))) else (emptyW, 2)
theorem NumRet.belD {w w' : World} {e : Ending} {n : Nat} (h : NumRet w.drew n e w') : Below w.heap.size w w' := ((Below.refl w.heap.size w).drew).trans h.bel
theorem left_num (A k : Nat) (hk : k ≤ 100000) (va : Value) (w : World) (hA : World.numR w va A) (hla : (wd A).length ≤ 2000) (z : Int) (hz : z = (k : Int)) :
    Calls Try.prog 71 #[va, .int .i64 z] w (NumRet w (A * 2 ^ k)) := by subst hz; exact left_any A k hk va w hA hla
theorem wd_len_le {A C k : Nat} (h : A ≤ C) (hc : (wd C).length ≤ k) : (wd A).length ≤ k := by
  have h1 := words_length (B := 4294967296) (by omega) A (wd C).length (Nat.lt_of_le_of_lt h (wd_vlt C))
  unfold wd at *; omega
theorem wd_len_double {A k : Nat} (hc : (wd A).length ≤ k) : (wd (A * 2 ^ 1)).length ≤ k + 1 := by
  have h1 := wd_vlt A
  have h2 := words_length (B := 4294967296) (by omega) (A * 2 ^ 1) ((wd A).length + 1) (by rw [Nat.pow_succ]; omega)
  unfold wd at *; omega
set_option maxRecDepth 100000 in
set_option maxHeartbeats 8000000 in
theorem Balanced_any (na : Bool) (sa : ByteArray) (nb : Bool) (sb : ByteArray) (hsa : sa.size ≤ maxLen) (hsb : sb.size ≤ maxLen)
    (hD : validB na sa = true → validB nb sb = true → sb.size ≠ 0 → DivOK (numB sa) (numB sb)) (w : World) :
    Calls Try.prog 36 #[.agg #[.bool na, .string sa], .agg #[.bool nb, .string sb]] w fun e w' => e = .returned (.tuple #[(balF na sa nb sb).1, .int .i64 (balF na sa nb sb).2]) ∧ Below w.heap.size w w' := by
  obtain ⟨HPOST, hpost⟩ : ∃ X : Ending → World → Prop, X = fun e w' => e = .returned (.tuple #[(balF na sa nb sb).1, .int .i64 (balF na sa nb sb).2]) ∧ Below w.heap.size w w' := ⟨_, rfl⟩
  rw [← hpost]
  have HP := Lib.hid hpost
  clear hpost
  obtain ⟨W0, hW0⟩ : ∃ W0, W0 = ((w.alloc (.cells #[.bool na, .string sa] 23)).alloc (.cells #[.bool nb, .string sb] 23)).alloc (.cells #[.bool false, .string ⟨#[]⟩] 23) := ⟨_, rfl⟩
  have g0 : W0.heap[w.heap.size]? = some (.cells #[.bool na, .string sa] 23) := by rw [hW0]; repeat (first | (refine alloc_last _ _ ?_; simp only [World.size_alloc]; done) | (rw [Below.heap_alloc]; rotate_left; (simp only [World.size_alloc]; omega)))
  have g1 : W0.heap[w.heap.size + 1]? = some (.cells #[.bool nb, .string sb] 23) := by rw [hW0]; repeat (first | (refine alloc_last _ _ ?_; simp only [World.size_alloc]; done) | (rw [Below.heap_alloc]; rotate_left; (simp only [World.size_alloc]; omega)))
  have g2 : W0.heap[w.heap.size + 1 + 1]? = some (.cells #[.bool false, .string ⟨#[]⟩] 23) := by rw [hW0]; repeat (first | (refine alloc_last _ _ ?_; simp only [World.size_alloc]; done) | (rw [Below.heap_alloc]; rotate_left; (simp only [World.size_alloc]; omega)))
  have hb0 : Below w.heap.size w W0 := by rw [hW0]; exact ((((Below.refl _ w).alloc (Nat.le_refl _) _).alloc (by simp) _).alloc (by simp; omega) _)
  have HB0 := Lib.hid hb0
  have HG0 := Lib.hid g0
  have HG1 := Lib.hid g1
  have HG2 := Lib.hid g2
  obtain ⟨c00, c01, f0⟩ := wide_cells g0
  obtain ⟨c10, c11, f1⟩ := wide_cells g1
  have HW0 := Lib.hid hW0
  clear hb0 g0 g1 g2 hW0
  have HVAL : Hid (∀ W : World, Calls Try.prog 16 #[.agg #[.bool na, .string sa]] W fun e w' => e = .returned (.bool (validB na sa)) ∧ Below W.heap.size W w') := Valid_wide na sa hsa
  have HPOS : Hid (∀ W : World, Calls Try.prog 70 #[.agg #[.bool nb, .string sb]] W fun e w' => e = .returned (.bool (posB nb sb)) ∧ Below W.heap.size W w') := positive_any nb sb hsb
  obtain ⟨okv, hov⟩ : ∃ ok, ok = validB na sa := ⟨_, rfl⟩
  obtain ⟨okp, hop⟩ : ∃ ok, ok = posB nb sb := ⟨_, rfl⟩
  rw [← hov] at HVAL
  rw [← hop] at HPOS
  have HOV := Lib.hid hov
  have HOP := Lib.hid hop
  clear hov hop
  go_enter Try.func36, Try.ntmps36
  go_upto_region 1 with (fail)
  rw [← HW0.out]
  go_wp2_with fail
  (with_reducible refine (HVAL.out _).mono ?_)
  rintro e w1 ⟨rfl, hb1⟩
  have k0 := (hb1.block _ (lt_of_heap HG0.out)).trans HG0.out
  have k1 := (hb1.block _ (lt_of_heap HG1.out)).trans HG1.out
  have k2 := (hb1.block _ (lt_of_heap HG2.out)).trans HG2.out
  have HBw1 := Lib.hid (HB0.out.trans (hb1.mono HB0.out.size))
  clear c00 c01 f0 c10 c11 f1 hb1
  cases okv with
  | false =>
    obtain ⟨c20, c21, f2⟩ := wide_cells k2
    have HK2 := Lib.hid k2
    clear k0 k1 k2
    have hres : Hid (balF na sa nb sb = (emptyW, 2)) := by show _ = _; unfold balF; rw [← HOV.out]; rfl
    go_wp2
    have m2 := wide_set HK2.out false ⟨#[]⟩
    have hb9 := below_set2 (p := w.heap.size + 1 + 1) HBw1.out (by omega) false ⟨#[]⟩
    obtain ⟨d20, d21, -⟩ := wide_cells m2
    clear m2
    generalize (w1.setCell ⟨w.heap.size + 1 + 1, 0, none⟩ (.bool false)).setCell ⟨w.heap.size + 1 + 1, 1, none⟩ (.string ⟨#[]⟩) = W9 at d20 d21 hb9 ⊢
    rw [HP.out]
    exact bodyPost_ret (v := .tuple #[emptyW, .int .i64 2]) (by simp [results, Try.results36, go_sem, d20, d21]; rfl) rfl ⟨by rw [hres.out], hb9⟩
  | true =>
    obtain ⟨c10, c11, f1⟩ := wide_cells k1
    have HK0 := Lib.hid k0
    have HK1 := Lib.hid k1
    have HK2 := Lib.hid k2
    clear k0 k1 k2
    go_wp2_with fail
    (with_reducible refine (HPOS.out _).mono ?_)
    rintro e w2 ⟨rfl, hb2⟩
    have k0 := (hb2.block _ (lt_of_heap HK0.out)).trans HK0.out
    have k1 := (hb2.block _ (lt_of_heap HK1.out)).trans HK1.out
    have k2 := (hb2.block _ (lt_of_heap HK2.out)).trans HK2.out
    have HBw2 := Lib.hid (HBw1.out.trans (hb2.mono HBw1.out.size))
    clear c10 c11 f1 hb2
    cases okp with
    | false =>
      obtain ⟨c20, c21, f2⟩ := wide_cells k2
      have HK22 := Lib.hid k2
      clear k0 k1 k2
      have hres : Hid (balF na sa nb sb = (emptyW, 2)) := by show _ = _; unfold balF; rw [← HOV.out, ← HOP.out]; rfl
      go_wp2
      have m2 := wide_set HK22.out false ⟨#[]⟩
      have hb9 := below_set2 (p := w.heap.size + 1 + 1) HBw2.out (by omega) false ⟨#[]⟩
      obtain ⟨d20, d21, -⟩ := wide_cells m2
      clear m2
      generalize (w2.setCell ⟨w.heap.size + 1 + 1, 0, none⟩ (.bool false)).setCell ⟨w.heap.size + 1 + 1, 1, none⟩ (.string ⟨#[]⟩) = W9 at d20 d21 hb9 ⊢
      rw [HP.out]
      exact bodyPost_ret (v := .tuple #[emptyW, .int .i64 2]) (by simp [results, Try.results36, go_sem, d20, d21]; rfl) rfl ⟨by rw [hres.out], hb9⟩
    | true =>
      have hp := HOP.out
      unfold posB at hp
      have hv1 : validB nb sb = true := by cases h : validB nb sb <;> rw [h] at hp <;> first | rfl | cases hp
      rw [hv1, Bool.true_and] at hp
      have hp2 : sb.size ≠ 0 ∧ nb = false := by
        have h := hp.symm
        rw [Bool.and_eq_true, decide_eq_true_eq] at h
        exact ⟨h.1, by cases nb with
          | false => rfl
          | true => cases h.2⟩
      obtain ⟨h0, hnb⟩ := hp2
      subst hnb
      obtain ⟨l1, -, -, s256a⟩ := valid_spec na sa HOV.out.symm
      obtain ⟨l2, hmg, -, s256b⟩ := valid_spec false sb hv1
      have hofA : Hid (∀ W : World, Calls Try.prog 58 #[.agg #[.bool na, .string sa]] W (NumRet W (numB sa))) := of_wide na sa (by omega)
      have hofB : Hid (∀ W : World, Calls Try.prog 58 #[.agg #[.bool false, .string sb]] W (NumRet W (numB sb))) := of_wide false sb (by omega)
      have hD2 := hD HOV.out.symm hv1 h0
      have hB0 : numB sb ≠ 0 := by
        intro h
        rw [h] at hmg
        exact h0 (by rw [← hmg]; rfl)
      have hwa := wd_len65 l1
      have hwb := wd_len65 l2
      have hres : balF na sa false sb = (outZ (balZ (zV na sa) (zV false sb)), errZ (balZ (zV na sa) (zV false sb))) := by
        unfold balF; rw [← HOV.out, ← HOP.out]; rfl
      unfold zV at hres
      obtain ⟨A, hA⟩ : ∃ A, A = numB sa := ⟨_, rfl⟩
      obtain ⟨C, hC⟩ : ∃ C, C = numB sb := ⟨_, rfl⟩
      rw [← hA, ← hC] at hres
      rw [← hA] at hofA hwa
      rw [← hC] at hofB hB0 hwb
      rw [← hA, ← hC] at hD2
      obtain ⟨-, fz2⟩ := floor_z A na C false hB0
      have HFL : Hid (∀ (va vb : Value) (W : World), World.numR W va A → World.numR W vb C → Calls Try.prog 68 #[va, .bool na, vb, .bool false] W (FloorRet W A na C false)) := fun va vb W h1 h2 => floor_any A C na false hB0 hD2 (by omega) (by omega) va vb W h1 h2
      obtain ⟨r, hr⟩ : ∃ r, r = floorR A na C := ⟨_, rfl⟩
      have hrC : r < C := by
        rw [hr]
        have h3 := Nat.mod_lt A (show 0 < C by omega)
        unfold floorR
        split <;> omega
      have hwr : (wd r).length ≤ 64 := wd_len_le (Nat.le_of_lt hrC) hwb
      have hbz : balZ (zOf na A) (zOf false C) = if C < r * 2 ^ 1 then -((C - r : Nat) : Int) else (r : Int) := by
        unfold balZ
        rw [← fz2, ← hr, zOf_false]
        by_cases h : C < r * 2 ^ 1
        · rw [if_pos h, if_pos (by omega)]; omega
        · rw [if_neg h, if_neg (by omega)]
      rw [hbz] at hres
      have HRES := Lib.hid hres
      have HRR := Lib.hid hr
      obtain ⟨c00, c01, f0⟩ := wide_cells k0
      obtain ⟨c10, c11, f1⟩ := wide_cells k1
      have hl0 := lt_of_heap k0
      have hl1 := lt_of_heap k1
      have HK02 := Lib.hid k0
      have HK22 := Lib.hid k2
      have HWR := Lib.hid hwr
      have HWB := Lib.hid hwb
      clear hres hD2 hB0 hwa hwb hwr fz2 hA hC hmg l1 l2 h0 hr hbz k0 k1 k2 hv1 hp
      go_wp2_with fail
      (with_reducible refine (hofB.out _).mono ?_)
      rintro e w3 hy
      obtain ⟨vy, rfl, hoy, hby⟩ := hy
      have HY : Hid (World.numR w3 vy C) := hoy.reads
      obtain ⟨ay, cy, rfl⟩ := numR_shape HY.out
      have d0 := (hby.cell (p := ⟨w.heap.size, 0, none⟩) hl0).trans c00
      have d1 := (hby.cell (p := ⟨w.heap.size, 1, none⟩) hl0).trans c01
      have hm0 := Nat.lt_of_lt_of_le hl0 hby.size
      have HK23 := Lib.hid ((hby.block _ (lt_of_heap HK22.out)).trans HK22.out)
      have HBw3 := Lib.hid (HBw2.out.trans (hby.mono HBw2.out.size))
      clear hoy hby c00 c01 f0 c10 c11 f1 hl0 hl1
      go_wp2_with fail
      go_region_held3 (fun w' => (w'.cell? ⟨w.heap.size, 0, none⟩ = some (.bool na) ∧ w'.cell? ⟨w.heap.size, 1, none⟩ = some (.string sa)))
        (first | exact ⟨d0, d1⟩ | (refine ⟨?_, ?_⟩ <;> assumption))
        (first
          | (go_simp; go_at_call 58; (with_reducible refine (hofA.out _).mono ?_); rintro e w5 ⟨v5, rfl, ho5, hb5⟩; have H5 : Hid (NumRet _ A (.returned v5) w5) := ⟨v5, rfl, ho5, hb5⟩; have a0 := (hb5.cell (p := ⟨w.heap.size, 0, none⟩) hm0).trans d0; have a1 := (hb5.cell (p := ⟨w.heap.size, 1, none⟩) hm0).trans d1; have hn0 := Nat.lt_of_lt_of_le hm0 hb5.size; clear ho5 hb5)
          | (go_simp; go_at_call 68; (with_reducible refine (HFL.out _ _ _ H5.out.numR (numR_below HY.out H5.out.belD)).mono ?_); rintro e w7 ⟨v7, u7, rfl, hq7, hr7, hb7⟩; have HQ7 : Hid (World.numR w7 v7 (floorN A na C)) := hq7; have HR7 : Hid (World.numR w7 u7 (floorR A na C)) := hr7; have HB7 := Lib.hid hb7; have b0 := (hb7.cell (p := ⟨w.heap.size, 0, none⟩) hn0).trans a0; have b1 := (hb7.cell (p := ⟨w.heap.size, 1, none⟩) hn0).trans a1; clear hq7 hr7 hb7))
      have hb35 := H5.out.belD
      have hb37 : Below w3.heap.size w3 w7 := hb35.trans (HB7.out.mono hb35.size)
      have HY7 := Lib.hid (numR_below HY.out hb37)
      have HK27 := Lib.hid ((hb37.block _ (lt_of_heap HK23.out)).trans HK23.out)
      have HBw7 := Lib.hid (HBw3.out.trans (hb37.mono HBw3.out.size))
      rw [← HRR.out] at HR7
      obtain ⟨a7, c7, rfl⟩ := numR_shape HQ7.out
      obtain ⟨a8, c8, rfl⟩ := numR_shape HR7.out
      have hlr := left_num r 1 (by omega) _ w7 HR7.out (by have := HWR.out; omega) 1 rfl
      have HLR := Lib.hid hlr
      clear hb35 hb37 a0 a1 b0 b1 d0 d1 hm0 hn0 hlr
      go_wp2_with fail
      (with_reducible refine (HLR.out).mono ?_)
      rintro e w8 hr8
      obtain ⟨v8, rfl, ho8, hb8⟩ := hr8
      have HN8 : Hid (World.numR w8 v8 (r * 2 ^ 1)) := ho8.reads
      have HY8 := Lib.hid (numR_below HY7.out hb8)
      have HR8 := Lib.hid (numR_below HR7.out hb8)
      have HK28 := Lib.hid ((hb8.block _ (lt_of_heap HK27.out)).trans HK27.out)
      have HBw8 := Lib.hid (HBw7.out.trans (hb8.mono HBw7.out.size))
      have hcmp := compare_num (r * 2 ^ 1) C _ _ w8 HN8.out HY8.out (by have := wd_len_double HWR.out; omega) (by have := HWB.out; omega)
      obtain ⟨T, hT⟩ : ∃ T, T = cmpN (r * 2 ^ 1) C := ⟨_, rfl⟩
      rw [← hT] at hcmp
      have HCMP := Lib.hid hcmp
      clear ho8 hb8 hcmp
      by_cases hlt : C < r * 2 ^ 1
      · have ht1 : T = 1 := by rw [hT, cmpN, if_neg (by omega), if_pos hlt]
        have hres : Hid (balF na sa false sb = (outZ (zOf true (C - r)), errZ (zOf true (C - r)))) := by show _ = _; rw [HRES.out, if_pos hlt]; rfl
        subst ht1
        clear hT hlt
        go_wp2_with fail
        (with_reducible refine (HCMP.out).mono ?_)
        rintro e w9 ⟨rfl, n9, rfl⟩
        have hmin := minus_any C r (Nat.le_of_lt hrC) _ _ (w8.drewN n9) (reads_drewN HY8.out n9) (reads_drewN HR8.out n9) (by have := HWB.out; omega) (by have := HWR.out; omega)
        have HMIN := Lib.hid hmin
        clear hmin
        go_wp2_with fail
        (with_reducible refine (HMIN.out).mono ?_)
        rintro e w10 hr10
        obtain ⟨v10, rfl, ho10, hb10⟩ := hr10
        have HN10 : Hid (World.numR w10 v10 (C - r)) := ho10.reads
        have HK210 := Lib.hid ((hb10.block _ (show w.heap.size + 1 + 1 < (w8.drewN n9).heap.size from lt_of_heap HK28.out)).trans HK28.out)
        have HBw10 : Hid (Below w.heap.size w w10) := (below_drewN HBw8.out n9).trans (hb10.mono (show w.heap.size ≤ (w8.drewN n9).heap.size from HBw8.out.size))
        clear ho10 hb10
        obtain ⟨fb, ft, hf1, hf2⟩ := form_numZ (C - r) true v10 w10 HN10.out (by have := wd_len_le (show C - r ≤ C by omega) HWB.out; omega)
        have HF := Lib.hid hf2
        rw [hf1] at hres
        obtain ⟨E, hE⟩ : ∃ E, E = errZ (zOf true (C - r)) := ⟨_, rfl⟩
        rw [← hE] at HF hres
        clear hf1 hf2 hE
        go_wp2_with fail
        (with_reducible refine (HF.out).mono ?_)
        rintro e w11 ⟨rfl, hb11⟩
        have k2 := (hb11.block _ (lt_of_heap HK210.out)).trans HK210.out
        have HBw11 := Lib.hid (HBw10.out.trans (hb11.mono HBw10.out.size))
        obtain ⟨c20, c21, f2⟩ := wide_cells k2
        have HK211 := Lib.hid k2
        clear k2 hb11
        go_wp2
        have m2 := wide_set HK211.out fb ft
        have hb9 := below_set2 (p := w.heap.size + 1 + 1) HBw11.out (by omega) fb ft
        obtain ⟨d20, d21, -⟩ := wide_cells m2
        clear m2
        generalize (w11.setCell ⟨w.heap.size + 1 + 1, 0, none⟩ (.bool fb)).setCell ⟨w.heap.size + 1 + 1, 1, none⟩ (.string ft) = W9 at d20 d21 hb9 ⊢
        rw [HP.out]
        exact bodyPost_ret (v := .tuple #[.agg #[.bool fb, .string ft], .int .i64 E]) (by simp [results, Try.results36, go_sem, d20, d21]) rfl ⟨by rw [hres.out], hb9⟩
      · have ht1 : T = 0 ∨ T = -1 := by
          rw [hT, cmpN]
          by_cases h : r * 2 ^ 1 < C
          · rw [if_pos h]; exact Or.inr rfl
          · rw [if_neg h, if_neg hlt]; exact Or.inl rfl
        have ht2 : ¬ 0 < T := by omega
        have hres : Hid (balF na sa false sb = (outZ (zOf false r), errZ (zOf false r))) := by show _ = _; rw [HRES.out, if_neg hlt]; rfl
        clear hT hlt ht1
        go_wp2_with fail
        (with_reducible refine (HCMP.out).mono ?_)
        rintro e w9 ⟨rfl, n9, rfl⟩
        obtain ⟨fb, ft, hf1, hf2⟩ := form_numZ r false _ (w8.drewN n9) (numR_drewN HR8.out n9) (by have := HWR.out; omega)
        have HF := Lib.hid hf2
        rw [hf1] at hres
        obtain ⟨E, hE⟩ : ∃ E, E = errZ (zOf false r) := ⟨_, rfl⟩
        rw [← hE] at HF hres
        have HK29 : Hid ((w8.drewN n9).heap[w.heap.size + 1 + 1]? = some (.cells #[.bool false, .string ⟨#[]⟩] 23)) := HK28.out
        have HBw9 : Hid (Below w.heap.size w (w8.drewN n9)) := below_drewN HBw8.out n9
        clear hf1 hf2 hE
        go_wp2_with fail
        (with_reducible refine (HF.out).mono ?_)
        rintro e w11 ⟨rfl, hb11⟩
        have k2 := (hb11.block _ (lt_of_heap HK29.out)).trans HK29.out
        have HBw11 := Lib.hid (HBw9.out.trans (hb11.mono HBw9.out.size))
        obtain ⟨c20, c21, f2⟩ := wide_cells k2
        have HK211 := Lib.hid k2
        clear k2 hb11
        go_wp2
        have m2 := wide_set HK211.out fb ft
        have hb9 := below_set2 (p := w.heap.size + 1 + 1) HBw11.out (by omega) fb ft
        obtain ⟨d20, d21, -⟩ := wide_cells m2
        clear m2
        generalize (w11.setCell ⟨w.heap.size + 1 + 1, 0, none⟩ (.bool fb)).setCell ⟨w.heap.size + 1 + 1, 1, none⟩ (.string ft) = W9 at d20 d21 hb9 ⊢
        rw [HP.out]
        exact bodyPost_ret (v := .tuple #[.agg #[.bool fb, .string ft], .int .i64 E]) (by simp [results, Try.results36, go_sem, d20, d21]) rfl ⟨by rw [hres.out], hb9⟩
end Go.Proofs.Ytdfklcmiagmgaaa

/- Walks: a form shifted to the left. -/
namespace Go.Proofs.Ytdfklcmiagmgaaa
set_option linter.all false
open Go.RowKit Go.Shelf Go.WideNum
set_option maxRecDepth 100000 in
set_option maxHeartbeats 8000000 in
theorem Shl_ok (na : Bool) (sa : ByteArray) (hsa : sa.size ≤ maxLen) (hv : validB na sa = true) (k : Nat) (hk : k ≤ 4096) (z : Int) (hz : z = (k : Int)) (w : World) :
    Calls Try.prog 49 #[.agg #[.bool na, .string sa], .int .i64 z] w fun e w' => e = .returned (.tuple #[outZ (zOf na (numB sa * 2 ^ k)), .int .i64 (errZ (zOf na (numB sa * 2 ^ k)))]) ∧ Below w.heap.size w w' := by
  subst hz
  obtain ⟨HPOST, hpost⟩ : ∃ X : Ending → World → Prop, X = fun e w' => e = .returned (.tuple #[outZ (zOf na (numB sa * 2 ^ k)), .int .i64 (errZ (zOf na (numB sa * 2 ^ k)))]) ∧ Below w.heap.size w w' := ⟨_, rfl⟩
  rw [← hpost]
  have HP := Lib.hid hpost
  clear hpost
  obtain ⟨W0, hW0⟩ : ∃ W0, W0 = (w.alloc (.cells #[.bool na, .string sa] 23)).alloc (.cells #[.bool false, .string ⟨#[]⟩] 23) := ⟨_, rfl⟩
  have g0 : W0.heap[w.heap.size]? = some (.cells #[.bool na, .string sa] 23) := by rw [hW0]; repeat (first | (refine alloc_last _ _ ?_; simp only [World.size_alloc]; done) | (rw [Below.heap_alloc]; rotate_left; (simp only [World.size_alloc]; omega)))
  have g1 : W0.heap[w.heap.size + 1]? = some (.cells #[.bool false, .string ⟨#[]⟩] 23) := by rw [hW0]; repeat (first | (refine alloc_last _ _ ?_; simp only [World.size_alloc]; done) | (rw [Below.heap_alloc]; rotate_left; (simp only [World.size_alloc]; omega)))
  have hb0 : Below w.heap.size w W0 := by rw [hW0]; exact (((Below.refl _ w).alloc (Nat.le_refl _) _).alloc (by simp) _)
  have HB0 := Lib.hid hb0
  have HG0 := Lib.hid g0
  have HG1 := Lib.hid g1
  obtain ⟨c00, c01, f0⟩ := wide_cells g0
  have HW0 := Lib.hid hW0
  obtain ⟨l1, -, -, s256a⟩ := valid_spec na sa hv
  have hwa := wd_len65 l1
  have HVAL : Hid (∀ W : World, Calls Try.prog 16 #[.agg #[.bool na, .string sa]] W fun e w' => e = .returned (.bool true) ∧ Below W.heap.size W w') := by
    show ∀ W : World, _
    intro W
    have := Valid_wide na sa hsa W
    rwa [hv] at this
  have hofA : Hid (∀ W : World, Calls Try.prog 58 #[.agg #[.bool na, .string sa]] W (NumRet W (numB sa))) := of_wide na sa (by omega)
  obtain ⟨A, hA⟩ : ∃ A, A = numB sa := ⟨_, rfl⟩
  rw [← hA] at hofA hwa HP
  have hHL : Hid (∀ (va : Value) (W : World), World.numR W va A → Calls Try.prog 71 #[va, .int .i64 (k : Int)] W (NumRet W (A * 2 ^ k))) := fun va W h => left_num A k (by omega) va W h (by omega) _ rfl
  obtain ⟨M, hM⟩ : ∃ M, M = A * 2 ^ k := ⟨_, rfl⟩
  have hML : (wd M).length ≤ 2000 := by
    have h1 := wd_vlt A
    obtain ⟨t, ht⟩ : ∃ t, t = 200 := ⟨_, rfl⟩
    have h2 := words_length (B := 4294967296) (by omega) M ((wd A).length + t) (by
      rw [hM, Nat.pow_add]
      refine Nat.mul_lt_mul'' h1 ?_
      rw [show (4294967296 : Nat) = 2 ^ 32 by rfl, ← Nat.pow_mul]
      exact Nat.pow_lt_pow_right (by omega) (by omega))
    unfold wd at *; omega
  rw [← hM] at HP hHL
  have hff : ∃ fb ft, outZ (zOf na M) = .agg #[.bool fb, .string ft] ∧ ∀ (v : Value) (W : World), World.numR W v M → Calls Try.prog 53 #[v, .bool na] W fun e w' => e = .returned (.tuple #[.agg #[.bool fb, .string ft], .int .i64 (errZ (zOf na M))]) ∧ Below W.heap.size W w' := by
    have hwide : ∃ b t, outB na M = .agg #[.bool b, .string t] := by unfold outB emptyW wideV; split <;> exact ⟨_, _, rfl⟩
    obtain ⟨b, t, hbt⟩ := hwide
    refine ⟨b, t, by rw [← outB_z]; exact hbt, fun v W h => ?_⟩
    obtain ⟨b', t', h1, h2⟩ := form_numZ M na v W h hML
    rw [← outB_z, hbt] at h1
    rwa [← h1] at h2
  obtain ⟨fb, ft, hf1, hf2⟩ := hff
  obtain ⟨E, hE⟩ : ∃ E, E = errZ (zOf na M) := ⟨_, rfl⟩
  rw [← hE] at hf2 HP
  rw [hf1] at HP
  have HFF := Lib.hid hf2
  have HML := Lib.hid hML
  clear hb0 g0 g1 hW0 hA hM hML hf1 hf2 hE l1 hwa hv
  go_enter Try.func49, Try.ntmps49
  go_upto_region 1 with (fail)
  rw [← HW0.out]
  have hk1 : ¬ (k : Int) < 0 := by omega
  have hk2 : ¬ (4096 : Int) < (k : Int) := by omega
  go_wp2_with fail
  (with_reducible refine (HVAL.out _).mono ?_)
  rintro e w1 ⟨rfl, hb1⟩
  have k0 := (hb1.block _ (lt_of_heap HG0.out)).trans HG0.out
  have k1 := (hb1.block _ (lt_of_heap HG1.out)).trans HG1.out
  have HBw1 := Lib.hid (HB0.out.trans (hb1.mono HB0.out.size))
  clear c00 c01 f0 hb1
  obtain ⟨c00, c01, f0⟩ := wide_cells k0
  obtain ⟨e10, e11, f1⟩ := wide_cells k1
  have hl0 := lt_of_heap k0
  have hl1 := lt_of_heap k1
  have HK1 := Lib.hid k1
  have HK0 := Lib.hid k0
  have hpq : ¬ w.heap.size = w.heap.size + 1 := by omega
  have hpq2 : ¬ w.heap.size + 1 = w.heap.size := by omega
  clear k0 k1
  go_wp2_with fail
  go_region_held3 (fun w' => (w'.cell? ⟨w.heap.size, 0, none⟩ = some (.bool na) ∧ w'.cell? ⟨w.heap.size, 1, none⟩ = some (.string sa)))
    (first | exact ⟨c00, c01⟩ | (refine ⟨?_, ?_⟩ <;> assumption) | exact ⟨(World.cell?_of_block (a := ⟨w.heap.size, 0, none⟩) (wide_other (by omega) fb ft)).trans d0, (World.cell?_of_block (a := ⟨w.heap.size, 1, none⟩) (wide_other (by omega) fb ft)).trans d1⟩)
    (first
      | (go_simp; go_at_call 58; (with_reducible refine (hofA.out _).mono ?_); rintro e w5 ⟨v5, rfl, ho5, hb5⟩; have H5 : Hid (NumRet _ A (.returned v5) w5) := ⟨v5, rfl, ho5, hb5⟩; have a0 := (hb5.cell (p := ⟨w.heap.size, 0, none⟩) hl0).trans c00; have a1 := (hb5.cell (p := ⟨w.heap.size, 1, none⟩) hl0).trans c01; have hn0 := Nat.lt_of_lt_of_le hl0 hb5.size; clear ho5 hb5)
      | (go_simp; go_at_call 71; (with_reducible refine (hHL.out _ _ H5.out.numR).mono ?_); rintro e w6 ⟨v6, rfl, ho6, hb6⟩; have H6 : Hid (NumRet _ M (.returned v6) w6) := ⟨v6, rfl, ho6, hb6⟩; have b0 := (hb6.cell (p := ⟨w.heap.size, 0, none⟩) hn0).trans a0; have b1 := (hb6.cell (p := ⟨w.heap.size, 1, none⟩) hn0).trans a1; have hm0 := Nat.lt_of_lt_of_le hn0 hb6.size; clear ho6 hb6)
      | (go_simp; go_at_call 53; (with_reducible refine (HFF.out _ _ H6.out.numR).mono ?_); rintro e w7 ⟨rfl, hb7⟩; have d0 := (hb7.cell (p := ⟨w.heap.size, 0, none⟩) hm0).trans b0; have d1 := (hb7.cell (p := ⟨w.heap.size, 1, none⟩) hm0).trans b1; have HB7 := Lib.hid (H5.out.belD.trans ((H6.out.bel.trans (hb7.mono H6.out.bel.size)).mono H5.out.belD.size)); have K17 := (HB7.out.block _ hl1).trans HK1.out; have HK17 := Lib.hid K17; obtain ⟨e20, e21, f2⟩ := wide_cells K17; clear hb7 K17))
  all_goals
    go_wp2
    have m2 := wide_set HK17.out fb ft
    have hb9 := below_set2 (p := w.heap.size + 1) (HBw1.out.trans (HB7.out.mono HBw1.out.size)) (by omega) fb ft
    obtain ⟨d20, d21, -⟩ := wide_cells m2
    clear m2
    generalize (w7.setCell ⟨w.heap.size + 1, 0, none⟩ (.bool fb)).setCell ⟨w.heap.size + 1, 1, none⟩ (.string ft) = W9 at d20 d21 hb9 ⊢
    rw [HP.out]
    exact bodyPost_ret (v := .tuple #[.agg #[.bool fb, .string ft], .int .i64 E]) (by simp [results, Try.results49, go_sem, d20, d21]) rfl ⟨rfl, hb9⟩
end Go.Proofs.Ytdfklcmiagmgaaa

/- Walks: the calls that each law makes at its end. -/
namespace Go.Proofs.Ytdfklcmiagmgaaa
set_option linter.all false
open Go.RowKit Go.Shelf Go.WideNum
theorem below_viaD {a b c : World} (h : Below a.heap.size a b) (k : Below b.drew.heap.size b.drew c) : Below a.heap.size a c := (h.drew).trans (k.mono h.size)
theorem sh_read (W : World) : Calls Try.prog 12 #[.string ⟨#[45, 49, 50]⟩] W fun e w' => e = .returned (.tuple #[.agg #[.bool true, .string ⟨#[12]⟩], .int .i64 0]) ∧ Below W.heap.size W w' := by
  have h := Read_any ⟨#[45, 49, 50]⟩ (by decide) W
  have e : readZ (⟨#[45, 49, 50]⟩ : ByteArray).data.toList = (.agg #[.bool true, .string ⟨#[12]⟩], 0) := by kernel_rfl
  rw [e] at h
  exact h
theorem sh_text (W : World) : Calls Try.prog 14 #[.agg #[.bool true, .string ⟨#[12]⟩]] W fun e w' => e = .returned (.tuple #[.string ⟨#[45, 49, 50]⟩, .int .i64 0]) ∧ Below W.heap.size W w' := by
  have h := Text_any true ⟨#[12]⟩ (by decide) W
  unfold TextRet at h
  have e1 : validB true ⟨#[12]⟩ = true := by kernel_rfl
  have e2 : textB true (numB ⟨#[12]⟩) = ⟨#[45, 49, 50]⟩ := by kernel_rfl
  rw [e1, e2] at h
  exact h
theorem sh_of (n : Int) (v : Value) (h1 : -9223372036854775808 ≤ n) (h2 : n < 9223372036854775808) (hv : outZ n = v) (W : World) : Calls Try.prog 20 #[.int .i64 n] W fun e w' => e = .returned v ∧ Below W.heap.size W w' := by
  have h := Of_any n h1 h2 W
  rwa [hv] at h
theorem small_len (n : Nat) (h : n < 4294967296) : (wd n).length ≤ 2000 := by
  have := words_length (B := 4294967296) (by omega) n 1 (by omega)
  unfold wd; omega
theorem sh_div (W : World) : Calls Try.prog 32 #[.agg #[.bool true, .string ⟨#[7]⟩], .agg #[.bool true, .string ⟨#[2]⟩]] W fun e w' => e = .returned (.tuple #[.agg #[.bool false, .string ⟨#[4]⟩], .agg #[.bool false, .string ⟨#[1]⟩], .int .i64 0]) ∧ Below W.heap.size W w' := by
  have h := Div_any true ⟨#[7]⟩ true ⟨#[2]⟩ (by decide) (by decide) (fun _ _ _ => by
    have e1 : numB ⟨#[7]⟩ = 7 := by kernel_rfl
    have e2 : numB ⟨#[2]⟩ = 2 := by kernel_rfl
    rw [e1, e2]
    exact divide_small 7 2 (by omega) (Or.inr (by omega)) (small_len 7 (by omega)) (small_len 2 (by omega))) W
  have e : divF true ⟨#[7]⟩ true ⟨#[2]⟩ = (.agg #[.bool false, .string ⟨#[4]⟩], .agg #[.bool false, .string ⟨#[1]⟩], 0) := by kernel_rfl
  rw [e] at h
  exact h
theorem sh_bal (W : World) : Calls Try.prog 36 #[.agg #[.bool false, .string ⟨#[7]⟩], .agg #[.bool false, .string ⟨#[4]⟩]] W fun e w' => e = .returned (.tuple #[.agg #[.bool true, .string ⟨#[1]⟩], .int .i64 0]) ∧ Below W.heap.size W w' := by
  have h := Balanced_any false ⟨#[7]⟩ false ⟨#[4]⟩ (by decide) (by decide) (fun _ _ _ => by
    have e1 : numB ⟨#[7]⟩ = 7 := by kernel_rfl
    have e2 : numB ⟨#[4]⟩ = 4 := by kernel_rfl
    rw [e1, e2]
    exact divide_small 7 4 (by omega) (Or.inr (by omega)) (small_len 7 (by omega)) (small_len 4 (by omega))) W
  have e : balF false ⟨#[7]⟩ false ⟨#[4]⟩ = (.agg #[.bool true, .string ⟨#[1]⟩], 0) := by kernel_rfl
  rw [e] at h
  exact h
theorem shl_out (k : Nat) (hk : k = 8 * 256) : ¬ (zOf false (1 * 2 ^ k)).natAbs < lim := by
  rw [zOf_natAbs]
  unfold lim
  have h : ∀ m : Nat, 256 ^ m = 2 ^ (8 * m) := fun m => by rw [Nat.pow_mul]
  rw [h, ← hk, Nat.one_mul]
  exact Nat.lt_irrefl _
theorem sh_shl (W : World) : Calls Try.prog 49 #[.agg #[.bool false, .string ⟨#[1]⟩], .int .i64 2048] W fun e w' => e = .returned (.tuple #[.agg #[.bool false, .string ⟨#[]⟩], .int .i64 7]) ∧ Below W.heap.size W w' := by
  obtain ⟨k, hk⟩ : ∃ k, k = 8 * 256 := ⟨_, rfl⟩
  have h := Shl_ok false ⟨#[1]⟩ (by decide) (by kernel_rfl) k (by omega) 2048 (by omega) W
  have e1 : numB ⟨#[1]⟩ = 1 := by kernel_rfl
  have e2 := shl_out k hk
  rw [e1, (outZ_out _ e2).1, (outZ_out _ e2).2] at h
  exact h
set_option maxRecDepth 100000 in
set_option maxHeartbeats 8000000 in
theorem shown_any (w : World) : Calls Try.prog 11 #[] w fun e w' => e = .returned (.bool true) ∧ Below w.heap.size w w' := by
  have HR := Lib.hid sh_read
  have HT := Lib.hid sh_text
  have HD := Lib.hid sh_div
  have HB := Lib.hid sh_bal
  have HS := Lib.hid sh_shl
  have HO1 := Lib.hid (sh_of (-7) (.agg #[.bool true, .string ⟨#[7]⟩]) (by omega) (by omega) (by kernel_rfl))
  have HO2 := Lib.hid (sh_of (-2) (.agg #[.bool true, .string ⟨#[2]⟩]) (by omega) (by omega) (by kernel_rfl))
  have HO3 := Lib.hid (sh_of 1 (.agg #[.bool false, .string ⟨#[1]⟩]) (by omega) (by omega) (by kernel_rfl))
  have HO4 := Lib.hid (sh_of 7 (.agg #[.bool false, .string ⟨#[7]⟩]) (by omega) (by omega) (by kernel_rfl))
  have HO5 := Lib.hid (sh_of 4 (.agg #[.bool false, .string ⟨#[4]⟩]) (by omega) (by omega) (by kernel_rfl))
  have HO6 := Lib.hid (sh_of (-1) (.agg #[.bool true, .string ⟨#[1]⟩]) (by omega) (by omega) (by kernel_rfl))
  have HO7 := Lib.hid (sh_of (-256) (.agg #[.bool true, .string ⟨#[1, 0]⟩]) (by omega) (by omega) (by kernel_rfl))
  go_enter Try.func11, Try.ntmps11
  go_wp2_with fail
  (with_reducible refine (HR.out _).mono ?_)
  rintro e w1 ⟨rfl, hb1⟩
  have B1 := Lib.hid hb1
  clear hb1
  go_wp2_with fail
  (with_reducible refine (HT.out _).mono ?_)
  rintro e w2 ⟨rfl, hb2⟩
  have B2 := Lib.hid (below_via (below_via B1.out ((Below.refl w1.heap.size w1).alloc (Nat.le_refl _) _)) hb2)
  clear hb2
  go_wp2_with fail
  (with_reducible refine (HO1.out _).mono ?_)
  rintro e w3 ⟨rfl, hb3⟩
  have B3 := Lib.hid (below_via B2.out hb3)
  clear hb3
  go_wp2_with fail
  (with_reducible refine (HO2.out _).mono ?_)
  rintro e w4 ⟨rfl, hb4⟩
  have B4 := Lib.hid (below_via B3.out hb4)
  clear hb4
  go_wp2_with fail
  (with_reducible refine (HD.out _).mono ?_)
  rintro e w5 ⟨rfl, hb5⟩
  have B5 := Lib.hid (below_via B4.out hb5)
  clear hb5
  go_wp2_with fail
  (with_reducible refine (HO3.out _).mono ?_)
  rintro e w6 ⟨rfl, hb6⟩
  have k4 := (hb6.block w5.heap.size (by simp; omega)).trans ((Below.heap_alloc _ _ _ (by simp)).trans (heap_alloc_new w5 _))
  have k5 := (hb6.block (w5.heap.size + 1) (by simp)).trans (alloc_last _ _ (by simp))
  have B6 := Lib.hid (below_via (below_via (below_via B5.out ((Below.refl w5.heap.size w5).alloc (Nat.le_refl _) _)) ((Below.refl _ _).alloc (Nat.le_refl _) _)) hb6)
  have K4 := Lib.hid k4
  have K5 := Lib.hid k5
  clear hb6 k4 k5
  go_wp2_with fail
  (with_reducible refine (HS.out _).mono ?_)
  rintro e w7 ⟨rfl, hb7⟩
  have B7 := Lib.hid (below_via B6.out hb7)
  have K47 := Lib.hid ((hb7.block _ (lt_of_heap K4.out)).trans K4.out)
  have K57 := Lib.hid ((hb7.block _ (lt_of_heap K5.out)).trans K5.out)
  clear hb7
  go_wp2_with fail
  (with_reducible refine (HO4.out _).mono ?_)
  rintro e w8 ⟨rfl, hb8⟩
  have hb78 := below_via ((Below.refl w7.heap.size w7).alloc (Nat.le_refl _) _) hb8
  have B8 := Lib.hid (below_via B7.out hb78)
  have K48 := Lib.hid ((hb78.block _ (lt_of_heap K47.out)).trans K47.out)
  have K58 := Lib.hid ((hb78.block _ (lt_of_heap K57.out)).trans K57.out)
  clear hb8 hb78
  go_wp2_with fail
  (with_reducible refine (HO5.out _).mono ?_)
  rintro e w9 ⟨rfl, hb9⟩
  have B9 := Lib.hid (below_via B8.out hb9)
  have K49 := Lib.hid ((hb9.block _ (lt_of_heap K48.out)).trans K48.out)
  have K59 := Lib.hid ((hb9.block _ (lt_of_heap K58.out)).trans K58.out)
  clear hb9
  go_wp2_with fail
  (with_reducible refine (HB.out _).mono ?_)
  rintro e w10 ⟨rfl, hb10⟩
  have B10 := Lib.hid (below_via B9.out hb10)
  have K410 := Lib.hid ((hb10.block _ (lt_of_heap K49.out)).trans K49.out)
  have K510 := Lib.hid ((hb10.block _ (lt_of_heap K59.out)).trans K59.out)
  clear hb10
  go_wp2_with fail
  have hb11 : Below w10.heap.size w10 (w10.alloc (.cells #[.bool true, .string ⟨#[1]⟩] 23)) := (Below.refl w10.heap.size w10).alloc (Nat.le_refl _) _
  have k4 := (hb11.block _ (lt_of_heap K410.out)).trans K410.out
  have k5 := (hb11.block _ (lt_of_heap K510.out)).trans K510.out
  have k6 := heap_alloc_new w10 (.cells #[.bool true, .string ⟨#[1]⟩] 23)
  have B11 := Lib.hid (below_via B10.out hb11)
  obtain ⟨c0, c1, -⟩ := wide_cells k4
  obtain ⟨c2, c3, -⟩ := wide_cells k5
  obtain ⟨c4, c5, -⟩ := wide_cells k6
  have l0 := lt_of_heap k4
  have l1 := lt_of_heap k5
  have l2 := lt_of_heap k6
  clear hb11 k4 k5 k6
  generalize w10.alloc (.cells #[.bool true, .string ⟨#[1]⟩] 23) = w11 at c0 c1 c2 c3 c4 c5 l0 l1 l2 B11 ⊢
  go_region_held3 (fun w' => (w'.cell? ⟨w5.heap.size, 0, none⟩ = some (.bool false) ∧ w'.cell? ⟨w5.heap.size, 1, none⟩ = some (.string ⟨#[4]⟩) ∧ w'.cell? ⟨w5.heap.size + 1, 0, none⟩ = some (.bool false) ∧ w'.cell? ⟨w5.heap.size + 1, 1, none⟩ = some (.string ⟨#[1]⟩) ∧ w'.cell? ⟨w10.heap.size, 0, none⟩ = some (.bool true) ∧ w'.cell? ⟨w10.heap.size, 1, none⟩ = some (.string ⟨#[1]⟩)))
    (first | exact ⟨c0, c1, c2, c3, c4, c5⟩ | (refine ⟨?_, ?_, ?_, ?_, ?_, ?_⟩ <;> assumption))
    (first
      | (go_simp; go_at_call 20; (with_reducible refine (HO5.out _).mono ?_); rintro e w12 ⟨rfl, hb12⟩; have d0 := (hb12.cell (p := ⟨w5.heap.size, 0, none⟩) l0).trans c0; have d1 := (hb12.cell (p := ⟨w5.heap.size, 1, none⟩) l0).trans c1; have d2 := (hb12.cell (p := ⟨w5.heap.size + 1, 0, none⟩) l1).trans c2; have d3 := (hb12.cell (p := ⟨w5.heap.size + 1, 1, none⟩) l1).trans c3; have d4 := (hb12.cell (p := ⟨w10.heap.size, 0, none⟩) l2).trans c4; have d5 := (hb12.cell (p := ⟨w10.heap.size, 1, none⟩) l2).trans c5; have m0 := Nat.lt_of_lt_of_le l0 hb12.size; have m1 := Nat.lt_of_lt_of_le l1 hb12.size; have m2 := Nat.lt_of_lt_of_le l2 hb12.size; have B12 : Hid (Below w.heap.size w w12) := (by first | exact below_viaD B11.out hb12 | exact below_via B11.out hb12); clear hb12)
      | (go_simp; go_at_call 20; (with_reducible refine (HO3.out _).mono ?_); rintro e w13 ⟨rfl, hb13⟩; have f0 := (hb13.cell (p := ⟨w5.heap.size, 0, none⟩) m0).trans d0; have f1 := (hb13.cell (p := ⟨w5.heap.size, 1, none⟩) m0).trans d1; have f2 := (hb13.cell (p := ⟨w5.heap.size + 1, 0, none⟩) m1).trans d2; have f3 := (hb13.cell (p := ⟨w5.heap.size + 1, 1, none⟩) m1).trans d3; have f4 := (hb13.cell (p := ⟨w10.heap.size, 0, none⟩) m2).trans d4; have f5 := (hb13.cell (p := ⟨w10.heap.size, 1, none⟩) m2).trans d5; have p0 := Nat.lt_of_lt_of_le m0 hb13.size; have p1 := Nat.lt_of_lt_of_le m1 hb13.size; have p2 := Nat.lt_of_lt_of_le m2 hb13.size; have B13 : Hid (Below w.heap.size w w13) := (by first | exact below_viaD B12.out hb13 | exact below_via B12.out hb13); clear hb13)
      | (go_simp; go_at_call 20; (with_reducible refine (HO6.out _).mono ?_); rintro e w14 ⟨rfl, hb14⟩; have g0 := (hb14.cell (p := ⟨w5.heap.size, 0, none⟩) p0).trans f0; have g1 := (hb14.cell (p := ⟨w5.heap.size, 1, none⟩) p0).trans f1; have g2 := (hb14.cell (p := ⟨w5.heap.size + 1, 0, none⟩) p1).trans f2; have g3 := (hb14.cell (p := ⟨w5.heap.size + 1, 1, none⟩) p1).trans f3; have g4 := (hb14.cell (p := ⟨w10.heap.size, 0, none⟩) p2).trans f4; have g5 := (hb14.cell (p := ⟨w10.heap.size, 1, none⟩) p2).trans f5; have q0 := Nat.lt_of_lt_of_le p0 hb14.size; have q1 := Nat.lt_of_lt_of_le p1 hb14.size; have q2 := Nat.lt_of_lt_of_le p2 hb14.size; have B14 : Hid (Below w.heap.size w w14) := (by first | exact below_viaD B13.out hb14 | exact below_via B13.out hb14); clear hb14)
      | (go_simp; go_at_call 20; (with_reducible refine (HO7.out _).mono ?_); rintro e w15 ⟨rfl, hb15⟩; have r0 := (hb15.cell (p := ⟨w5.heap.size, 0, none⟩) q0).trans g0; have r1 := (hb15.cell (p := ⟨w5.heap.size, 1, none⟩) q0).trans g1; have r2 := (hb15.cell (p := ⟨w5.heap.size + 1, 0, none⟩) q1).trans g2; have r3 := (hb15.cell (p := ⟨w5.heap.size + 1, 1, none⟩) q1).trans g3; have r4 := (hb15.cell (p := ⟨w10.heap.size, 0, none⟩) q2).trans g4; have r5 := (hb15.cell (p := ⟨w10.heap.size, 1, none⟩) q2).trans g5; have u0 := Nat.lt_of_lt_of_le q0 hb15.size; have u1 := Nat.lt_of_lt_of_le q1 hb15.size; have u2 := Nat.lt_of_lt_of_le q2 hb15.size; have B15 : Hid (Below w.heap.size w w15) := (by first | exact below_viaD B14.out hb15 | exact below_via B14.out hb15); clear hb15))
  go_wp2
  go_ret
  exact ⟨rfl, B15.out⟩
end Go.Proofs.Ytdfklcmiagmgaaa

/- Walks: two forms compared. -/
namespace Go.Proofs.Ytdfklcmiagmgaaa
set_option linter.all false
open Go.RowKit Go.Shelf Go.WideNum
def cmpZ (a b : Int) : Int := if a < b then -1 else if b < a then 1 else 0
def cmpF (na : Bool) (sa : ByteArray) (nb : Bool) (sb : ByteArray) : Int × Int := if validB na sa && validB nb sb then (cmpZ (zV na sa) (zV nb sb), 0) else (0, 2)
theorem cmp_same (neg : Bool) (A C : Nat) : (if neg then -cmpN A C else cmpN A C) = cmpZ (zOf neg A) (zOf neg C) := by
  unfold cmpN cmpZ zOf
  cases neg
  · simp only [Bool.false_eq_true, if_false]
    by_cases h1 : A < C
    · rw [if_pos h1, if_pos (by omega)]
    · rw [if_neg h1, if_neg (show ¬ (A : Int) < (C : Int) by omega)]
      by_cases h2 : C < A
      · rw [if_pos h2, if_pos (by omega)]
      · rw [if_neg h2, if_neg (by omega)]
  · simp only [if_true]
    by_cases h1 : A < C
    · rw [if_pos h1, if_neg (by omega), if_pos (by omega)]; rfl
    · by_cases h2 : C < A
      · rw [if_neg h1, if_pos h2, if_pos (by omega)]
      · rw [if_neg h1, if_neg h2, if_neg (by omega), if_neg (by omega)]; rfl
theorem cmp_other (na nb : Bool) (h : na ≠ nb) (A C : Nat) (ha : na = true → A ≠ 0) (hc : nb = true → C ≠ 0) : (if na then (-1 : Int) else 1) = cmpZ (zOf na A) (zOf nb C) := by
  unfold cmpZ zOf
  cases na <;> cases nb
  · exact absurd rfl h
  · have := hc rfl
    simp only [Bool.false_eq_true, if_false, if_true]
    rw [if_neg (by omega), if_pos (by omega)]
  · have := ha rfl
    simp only [Bool.false_eq_true, if_false, if_true]
    rw [if_pos (by omega)]
  · exact absurd rfl h
theorem cmpN_bd (A C : Nat) : -1 ≤ cmpN A C ∧ cmpN A C ≤ 1 := by unfold cmpN; split <;> (try split) <;> omega
set_option maxRecDepth 100000 in
set_option maxHeartbeats 4000000 in
theorem signed_any (neg : Bool) (c : Int) (h1 : -1 ≤ c) (h2 : c ≤ 1) (w : World) : Calls Try.prog 64 #[.bool neg, .int .i64 c] w fun e w' => e = .returned (.int .i64 (if neg then -c else c)) ∧ w = w' := by
  cases neg
  · go_enter Try.func64, Try.ntmps64
    go_wp2
    go_ret
    exact ⟨rfl, rfl⟩
  · go_enter Try.func64, Try.ntmps64
    go_wp2
    go_ret
    exact ⟨rfl, rfl⟩
set_option maxRecDepth 100000 in
set_option maxHeartbeats 8000000 in
theorem Cmp_any (na : Bool) (sa : ByteArray) (nb : Bool) (sb : ByteArray) (hsa : sa.size ≤ maxLen) (hsb : sb.size ≤ maxLen) (w : World) :
    Calls Try.prog 17 #[.agg #[.bool na, .string sa], .agg #[.bool nb, .string sb]] w fun e w' => e = .returned (.tuple #[.int .i64 (cmpF na sa nb sb).1, .int .i64 (cmpF na sa nb sb).2]) ∧ Below w.heap.size w w' := by
  obtain ⟨HPOST, hpost⟩ : ∃ X : Ending → World → Prop, X = fun e w' => e = .returned (.tuple #[.int .i64 (cmpF na sa nb sb).1, .int .i64 (cmpF na sa nb sb).2]) ∧ Below w.heap.size w w' := ⟨_, rfl⟩
  rw [← hpost]
  have HP := Lib.hid hpost
  clear hpost
  obtain ⟨W0, hW0⟩ : ∃ W0, W0 = (w.alloc (.cells #[.bool na, .string sa] 23)).alloc (.cells #[.bool nb, .string sb] 23) := ⟨_, rfl⟩
  have g0 : W0.heap[w.heap.size]? = some (.cells #[.bool na, .string sa] 23) := by rw [hW0]; repeat (first | (refine alloc_last _ _ ?_; simp only [World.size_alloc]; done) | (rw [Below.heap_alloc]; rotate_left; (simp only [World.size_alloc]; omega)))
  have g1 : W0.heap[w.heap.size + 1]? = some (.cells #[.bool nb, .string sb] 23) := by rw [hW0]; repeat (first | (refine alloc_last _ _ ?_; simp only [World.size_alloc]; done) | (rw [Below.heap_alloc]; rotate_left; (simp only [World.size_alloc]; omega)))
  have hb0 : Below w.heap.size w W0 := by rw [hW0]; exact (((Below.refl _ w).alloc (Nat.le_refl _) _).alloc (by simp) _)
  have HB0 := Lib.hid hb0
  have HG0 := Lib.hid g0
  have HG1 := Lib.hid g1
  obtain ⟨c00, c01, f0⟩ := wide_cells g0
  obtain ⟨c10, c11, f1⟩ := wide_cells g1
  have HW0 := Lib.hid hW0
  clear hb0 g0 g1 hW0
  go_enter Try.func17, Try.ntmps17
  go_upto_region 1 with (fail)
  rw [← HW0.out]
  go_wp2_with fail
  obtain ⟨ok, hok⟩ : ∃ ok, ok = (validB na sa && validB nb sb) := ⟨_, rfl⟩
  have hval := valid2_any na sa nb sb hsa hsb (W0.alloc (.cells #[.bool na, .string sa, .bool nb, .string sb] 23)) W0.heap.size (heap_alloc_new W0 _)
  rw [← hok] at hval
  have HOK := Lib.hid hok
  clear hok
  (with_reducible refine hval.mono ?_)
  clear hval
  rintro e w1 ⟨rfl, hb1⟩
  have hb01 : Below W0.heap.size W0 w1 := ((Below.refl _ W0).alloc (Nat.le_refl _) _).trans (hb1.mono (by simp))
  have k0 := (hb01.block _ (lt_of_heap HG0.out)).trans HG0.out
  have k1 := (hb01.block _ (lt_of_heap HG1.out)).trans HG1.out
  have HBw1 := Lib.hid (HB0.out.trans (hb01.mono HB0.out.size))
  clear c00 c01 f0 c10 c11 f1 hb1
  obtain ⟨c00, c01, f0⟩ := wide_cells k0
  obtain ⟨c10, c11, f1⟩ := wide_cells k1
  have hl0 := lt_of_heap k0
  have hl1 := lt_of_heap k1
  clear k0 k1 hb01
  cases ok with
  | false =>
    have hres : Hid (cmpF na sa nb sb = (0, 2)) := by show _ = _; unfold cmpF; rw [← HOK.out]; rfl
    go_wp2
    rw [HP.out]
    exact ⟨by rw [hres.out]; rfl, HBw1.out⟩
  | true =>
    have hv : validB na sa = true ∧ validB nb sb = true := by
      have := HOK.out
      cases h1 : validB na sa <;> cases h2 : validB nb sb <;> rw [h1, h2] at this <;> first | exact ⟨rfl, rfl⟩ | cases this
    obtain ⟨l1, -, z1, s256a⟩ := valid_spec na sa hv.1
    obtain ⟨l2, -, z2, s256b⟩ := valid_spec nb sb hv.2
    have hres : Hid (cmpF na sa nb sb = (cmpZ (zOf na (numB sa)) (zOf nb (numB sb)), 0)) := by show _ = _; unfold cmpF; rw [← HOK.out]; rfl
    by_cases hs : na = nb
    · subst hs
      have hofA : Hid (∀ W : World, Calls Try.prog 58 #[.agg #[.bool na, .string sa]] W (NumRet W (numB sa))) := of_wide na sa (by omega)
      have hofB : Hid (∀ W : World, Calls Try.prog 58 #[.agg #[.bool na, .string sb]] W (NumRet W (numB sb))) := of_wide na sb (by omega)
      have hwa := wd_len65 l1
      have hwb := wd_len65 l2
      obtain ⟨A, hA⟩ : ∃ A, A = numB sa := ⟨_, rfl⟩
      obtain ⟨C, hC⟩ : ∃ C, C = numB sb := ⟨_, rfl⟩
      rw [← hA, ← hC] at hres
      rw [← hA] at hofA hwa
      rw [← hC] at hofB hwb
      rw [← cmp_same] at hres
      have hcmp : Hid (∀ (va vb : Value) (W : World), World.numR W va A → World.numR W vb C → Calls Try.prog 65 #[va, vb] W fun e w' => e = .returned (.int .i64 (cmpN A C)) ∧ ∃ n, w' = W.drewN n) := fun va vb W h1 h2 => compare_num A C va vb W h1 h2 (by omega) (by omega)
      obtain ⟨bd1, bd2⟩ := cmpN_bd A C
      obtain ⟨T, hT⟩ : ∃ T, T = cmpN A C := ⟨_, rfl⟩
      rw [← hT] at hcmp hres bd1 bd2
      have hsg : Hid (∀ W : World, Calls Try.prog 64 #[.bool na, .int .i64 T] W fun e w' => e = .returned (.int .i64 (if na then -T else T)) ∧ W = w') := fun W => signed_any na T bd1 bd2 W
      obtain ⟨Z, hZ⟩ : ∃ Z, Z = if na then -T else T := ⟨_, rfl⟩
      rw [← hZ] at hsg hres
      have HWA := Lib.hid hwa
      clear hT hZ hA hC z1 z2 l1 l2 hwa hwb hv bd1 bd2
      go_wp2_with fail
      go_region_held3 (fun w' => (w'.cell? ⟨w.heap.size, 0, none⟩ = some (.bool na) ∧ w'.cell? ⟨w.heap.size, 1, none⟩ = some (.string sa) ∧ w'.cell? ⟨w.heap.size + 1, 0, none⟩ = some (.bool na) ∧ w'.cell? ⟨w.heap.size + 1, 1, none⟩ = some (.string sb)))
        (first | exact ⟨c00, c01, c10, c11⟩ | (refine ⟨?_, ?_, ?_, ?_⟩ <;> assumption) | exact ⟨b0, b1, b2, b3⟩)
        (first
          | (go_simp; go_at_call 58; (with_reducible refine (hofA.out _).mono ?_); rintro e w5 ⟨v5, rfl, ho5, hb5⟩; have H5 : Hid (NumRet _ A (.returned v5) w5) := ⟨v5, rfl, ho5, hb5⟩; have a0 := (hb5.cell (p := ⟨w.heap.size, 0, none⟩) hl0).trans c00; have a1 := (hb5.cell (p := ⟨w.heap.size, 1, none⟩) hl0).trans c01; have a2 := (hb5.cell (p := ⟨w.heap.size + 1, 0, none⟩) hl1).trans c10; have a3 := (hb5.cell (p := ⟨w.heap.size + 1, 1, none⟩) hl1).trans c11; have hm0 := Nat.lt_of_lt_of_le hl0 hb5.size; have hm1 := Nat.lt_of_lt_of_le hl1 hb5.size; clear ho5 hb5)
          | (go_simp; go_at_call 58; (with_reducible refine (hofB.out _).mono ?_); rintro e w6 ⟨v6, rfl, ho6, hb6⟩; have H6 : Hid (NumRet _ C (.returned v6) w6) := ⟨v6, rfl, ho6, hb6⟩; have b0 := (hb6.cell (p := ⟨w.heap.size, 0, none⟩) hm0).trans a0; have b1 := (hb6.cell (p := ⟨w.heap.size, 1, none⟩) hm0).trans a1; have b2 := (hb6.cell (p := ⟨w.heap.size + 1, 0, none⟩) hm1).trans a2; have b3 := (hb6.cell (p := ⟨w.heap.size + 1, 1, none⟩) hm1).trans a3; have HB6 := Lib.hid (H5.out.belD.trans (hb6.mono H5.out.belD.size)); clear ho6 hb6)
          | (go_simp; go_at_call 65; (with_reducible refine (hcmp.out _ _ _ (numR_below H5.out.numR H6.out.bel) H6.out.numR).mono ?_); rintro e w7 ⟨rfl, n7, rfl⟩)
          | (go_simp; go_at_call 64; (with_reducible refine (hsg.out _).mono ?_); rintro e w8 ⟨rfl, rfl⟩))
      have hbf := below_drewN (HBw1.out.trans (HB6.out.mono HBw1.out.size)) n7
      go_wp2
      rw [HP.out]
      exact ⟨by rw [hres.out]; rfl, hbf⟩
    · rw [← cmp_other na nb hs _ _ z1 z2] at hres
      have hcs : (na = true ∧ nb = false) ∨ (na = false ∧ nb = true) := by cases na <;> cases nb <;> simp at hs ⊢
      clear z1 z2 l1 l2 hv
      rcases hcs with ⟨rfl, rfl⟩ | ⟨rfl, rfl⟩
      · have hsg : Hid (∀ W : World, Calls Try.prog 64 #[.bool true, .int .i64 1] W fun e w' => e = .returned (.int .i64 (-1)) ∧ W = w') := fun W => signed_any true 1 (by omega) (by omega) W
        clear hs
        go_wp2_with fail
        (with_reducible refine (hsg.out _).mono ?_)
        rintro e w8 ⟨rfl, rfl⟩
        go_wp2
        rw [HP.out]
        exact ⟨by rw [hres.out]; rfl, HBw1.out⟩
      · have hsg : Hid (∀ W : World, Calls Try.prog 64 #[.bool false, .int .i64 1] W fun e w' => e = .returned (.int .i64 1) ∧ W = w') := fun W => signed_any false 1 (by omega) (by omega) W
        clear hs
        go_wp2_with fail
        (with_reducible refine (hsg.out _).mono ?_)
        rintro e w8 ⟨rfl, rfl⟩
        go_wp2
        rw [HP.out]
        exact ⟨by rw [hres.out]; rfl, HBw1.out⟩
end Go.Proofs.Ytdfklcmiagmgaaa

/- Plain: a text leads back to the integer, and the integer to the text. -/
namespace Go.Proofs.Ytdfklcmiagmgaaa
set_option linter.all false
open Go.WideNum
def digs (d : List UInt8) : List Nat := d.reverse.map (fun c => c.toNat - 48)
theorem decV_digs (d : List UInt8) : decV d = valW 10 (digs d) := by
  have : ∀ r : List UInt8, decV r.reverse = valW 10 (r.map (fun c => c.toNat - 48)) := by
    intro r
    induction r with
    | nil => rfl
    | cons c r ih => rw [List.reverse_cons, decV_snoc, ih, List.map_cons, valW]; omega
  have h := this d.reverse
  rwa [List.reverse_reverse] at h
theorem isDig_spec {c : UInt8} (h : isDig c = true) : 48 ≤ c.toNat ∧ c.toNat ≤ 57 := of_decide_eq_true h
theorem digs_words (d : List UInt8) (h : ∀ c ∈ d, isDig c = true) (hh : d.head? ≠ some 48) : words 10 (decV d) = digs d := by
  rw [decV_digs]
  refine words_val (by omega) (digs d) (fun x hx => ?_) (fun x hx h0 => ?_) _ (Nat.le_refl _)
  · unfold digs at hx
    obtain ⟨c, hc, rfl⟩ := List.mem_map.1 hx
    have := isDig_spec (h c (List.mem_reverse.1 hc))
    show c.toNat - 48 < 10
    omega
  · unfold digs at hx
    rw [List.getLast?_map, List.getLast?_reverse] at hx
    cases hl : d.head? with
    | none => rw [hl] at hx; cases hx
    | some c =>
      rw [hl] at hx
      injection hx with hx
      have hcm : c ∈ d := by
        cases d with
        | nil => cases hl
        | cons a l => injection hl with hl; rw [hl]; simp
      have := isDig_spec (h c hcm)
      apply hh
      rw [hl]
      congr 1
      apply UInt8.toNat_inj.1
      show c.toNat = 48
      have hx' : c.toNat - 48 = x := hx
      omega
theorem undigs (d : List UInt8) (h : ∀ c ∈ d, isDig c = true) : ((digs d).map (fun x => 48 + x)).reverse.map UInt8.ofNat = d := by
  unfold digs
  rw [List.map_map, ← List.map_reverse, List.reverse_reverse, List.map_map]
  have : ∀ l : List UInt8, (∀ c ∈ l, isDig c = true) → l.map (UInt8.ofNat ∘ ((fun x => 48 + x) ∘ fun c => c.toNat - 48)) = l := by
    intro l
    induction l with
    | nil => intro _; rfl
    | cons c l ih =>
      intro h
      have hc := isDig_spec (h c (by simp))
      rw [List.map_cons, ih (fun x hx => h x (by simp [hx]))]
      congr 1
      show UInt8.ofNat (48 + (c.toNat - 48)) = c
      rw [show 48 + (c.toNat - 48) = c.toNat by omega]
      simp
  exact this d h
/-- The digits of a number as text. -/
def numT (n : Nat) : List UInt8 := ((words 10 n).map (fun x => 48 + x)).reverse.map UInt8.ofNat
theorem textL_eq (neg : Bool) (n : Nat) (hn : n ≠ 0) : textL neg n = (if neg then [45] else []) ++ numT n := by
  unfold textL textN numT
  rw [if_neg hn, decDig_words, List.reverse_append, List.map_append]
  cases neg <;> rfl
theorem numT_dig (n : Nat) : ∀ c ∈ numT n, isDig c = true := by
  intro c hc
  unfold numT at hc
  obtain ⟨x, hx, rfl⟩ := List.mem_map.1 hc
  obtain ⟨y, hy, rfl⟩ := List.mem_map.1 (List.mem_reverse.1 hx)
  have := words_lt (B := 10) (by omega) n n y hy
  unfold isDig
  apply decide_eq_true
  rw [UInt8.toNat_ofNat']
  show 48 ≤ (48 + y) % 256 ∧ (48 + y) % 256 ≤ 57
  omega
theorem numT_digs (n : Nat) : digs (numT n) = words 10 n := by
  unfold digs numT
  rw [← List.map_reverse, List.reverse_reverse, List.map_map, List.map_map]
  have : ∀ l : List Nat, (∀ x ∈ l, x < 10) → l.map ((fun c : UInt8 => c.toNat - 48) ∘ (UInt8.ofNat ∘ fun x => 48 + x)) = l := by
    intro l
    induction l with
    | nil => intro _; rfl
    | cons x l ih =>
      intro h
      have hx := h x (by simp)
      rw [List.map_cons, ih (fun y hy => h y (by simp [hy]))]
      congr 1
      show (UInt8.ofNat (48 + x)).toNat - 48 = x
      rw [UInt8.toNat_ofNat']
      show (48 + x) % 256 - 48 = x
      omega
  exact this _ (words_lt (by omega) _ _)
theorem numT_decV (n : Nat) : decV (numT n) = n := by rw [decV_digs, numT_digs]; exact val_words (by omega) n n (Nat.le_refl _)
theorem numT_length (n : Nat) : (numT n).length = (words 10 n).length := by simp [numT]
theorem numT_head (n : Nat) (hn : n ≠ 0) : ∃ c, (numT n).head? = some c ∧ 49 ≤ c.toNat ∧ c.toNat ≤ 57 := by
  have h1 := words_trimmed (B := 10) (by omega) n n (Nat.le_refl _)
  have h0 : ¬ (words 10 n).length = 0 := fun h => hn ((words_len0 (B := 10) (by omega) n).1 h)
  cases hl : (words 10 n).getLast? with
  | none =>
    have := List.getLast?_eq_none_iff.1 hl
    rw [this] at h0; exact absurd rfl h0
  | some x =>
    have hx0 := h1 x hl
    have hx10 := words_lt (B := 10) (by omega) n n x (List.mem_of_getLast? hl)
    refine ⟨UInt8.ofNat (48 + x), ?_, ?_⟩
    · unfold numT
      rw [List.head?_map, List.head?_reverse, List.getLast?_map, hl]; rfl
    · rw [UInt8.toNat_ofNat']
      show 49 ≤ (48 + x) % 256 ∧ (48 + x) % 256 ≤ 57
      omega
theorem lim617 : lim < 10 ^ 617 := by unfold lim; decide +kernel
theorem numT_len {n : Nat} (h : n < lim) : (numT n).length ≤ 617 := by
  rw [numT_length]
  exact words_length (by omega) n 617 (Nat.lt_trans h lim617)
theorem zero_read : readZ (textL false 0) = (outZ (zOf false 0), errZ (zOf false 0)) := by kernel_rfl
/-- Read of the text. -/
theorem read_text (neg : Bool) (n : Nat) (hn : n < lim) (hz : neg = true → n ≠ 0) : readZ (textL neg n) = (outZ (zOf neg n), errZ (zOf neg n)) := by
  by_cases h0 : n = 0
  · subst h0
    have hneg : neg = false := by cases neg with
      | false => rfl
      | true => exact absurd rfl (hz rfl)
    subst hneg
    clear hz hn
    show readZ (textL false 0) = (outZ (zOf false 0), errZ (zOf false 0))
    exact zero_read
  · obtain ⟨c, hc1, hc2, hc3⟩ := numT_head n h0
    have hrn : readNeg (textL neg n) = neg ∧ readDig (textL neg n) = numT n := by
      rw [textL_eq neg n h0]
      unfold readDig readNeg
      cases neg with
      | true => exact ⟨rfl, rfl⟩
      | false =>
        simp only [Bool.false_eq_true, if_false, List.nil_append, hc1]
        have : (some c == some (45 : UInt8)) = false := by
          rw [beq_eq_false_iff_ne]
          intro h
          injection h with h
          rw [h] at hc2
          exact absurd hc2 (by decide)
        rw [this]
        exact ⟨rfl, rfl⟩
    unfold readZ
    rw [hrn.1, hrn.2]
    unfold digRes
    have hb : headBad neg (numT n) = false := by
      unfold headBad
      rw [hc1]
      have : (some c == some (48 : UInt8)) = false := by
        rw [beq_eq_false_iff_ne]
        intro h
        injection h with h
        rw [h] at hc2
        exact absurd hc2 (by decide)
      rw [this]
      cases hl : numT n with
      | nil => rw [hl] at hc1; cases hc1
      | cons a l => rfl
    rw [hb, List.all_eq_true.2 (numT_dig n), if_neg (by decide), if_neg (by have := numT_len hn; omega), numT_decV]
/-- The text of what is read. -/
theorem text_read (l : List UInt8) (h : (readZ l).2 = 0) : ∃ neg n, (readZ l).1 = wideV neg (magB n) ∧ n < lim ∧ (neg = true → n ≠ 0) ∧ textL neg n = l := by
  unfold readZ at h ⊢
  obtain ⟨neg, hneg⟩ : ∃ b, b = readNeg l := ⟨_, rfl⟩
  obtain ⟨d, hd⟩ : ∃ d, d = readDig l := ⟨_, rfl⟩
  have hl : l = (if neg then [45] else []) ++ d := by
    rw [hd, hneg]
    unfold readDig
    by_cases hb : readNeg l = true
    · rw [hb, if_pos rfl, if_pos rfl]
      unfold readNeg at hb
      cases l with
      | nil => cases hb
      | cons a t =>
        have : a = 45 := by simpa using hb
        rw [this]; rfl
    · have hb2 : readNeg l = false := by simpa using hb
      rw [hb2]; rfl
  rw [← hneg, ← hd] at h ⊢
  unfold digRes at h ⊢
  by_cases hbad : (headBad neg d || !d.all isDig) = true
  · rw [if_pos hbad] at h; cases h
  · rw [if_neg hbad] at h ⊢
    by_cases hlen : 617 < d.length
    · rw [if_pos hlen] at h; cases h
    · rw [if_neg hlen] at h ⊢
      have hb2 : headBad neg d = false ∧ d.all isDig = true := by
        cases h1 : headBad neg d <;> cases h2 : d.all isDig <;> rw [h1, h2] at hbad <;> simp at hbad ⊢
      obtain ⟨hb, hall⟩ := hb2
      have hdig := List.all_eq_true.1 hall
      have hlim : (zOf neg (decV d)).natAbs < lim := by
        rcases Nat.lt_or_ge (zOf neg (decV d)).natAbs lim with h1 | h1
        · exact h1
        · exfalso
          have := (outZ_out (zOf neg (decV d)) (by omega)).2
          rw [this] at h
          cases h
      have ho := (outZ_in _ hlim).1
      rw [zOf_natAbs] at hlim
      rw [zOf_natAbs, zOf_neg] at ho
      have hne : d ≠ [] := by
        intro h0
        rw [h0] at hb
        cases hb
      obtain ⟨c, t, hct⟩ := List.exists_cons_of_ne_nil hne
      by_cases h48 : c = 48
      · have hs : neg = false ∧ d.length = 1 := by
          unfold headBad at hb
          rw [hct, h48] at hb
          simp only [List.isEmpty_cons, Bool.false_or, List.head?_cons] at hb
          have hb' : (neg || decide (1 < (48 :: t : List UInt8).length)) = false := by simpa using hb
          rw [Bool.or_eq_false_iff, decide_eq_false_iff_not] at hb'
          rw [hct]
          exact ⟨hb'.1, by have := hb'.2; simp at this ⊢; exact this⟩
        obtain ⟨rfl, hl1⟩ := hs
        have ht : t = [] := by rw [hct] at hl1; simpa using hl1
        have hd48 : d = [48] := by rw [hct, h48, ht]
        refine ⟨false, 0, ?_, lim_pos, by simp, ?_⟩
        · rw [hd48]; kernel_rfl
        · rw [hl, hd48]; rfl
      · have hhd : d.head? ≠ some 48 := by
          rw [hct]
          intro h1
          injection h1 with h1
          exact h48 h1
        have hw := digs_words d hdig hhd
        have hn0 : decV d ≠ 0 := by
          intro h0
          rw [h0] at hw
          have : (digs d).length = 0 := by rw [← hw]; rfl
          unfold digs at this
          rw [List.length_map, List.length_reverse] at this
          exact hne (List.eq_nil_of_length_eq_zero this)
        refine ⟨neg, decV d, ?_, hlim, fun _ => hn0, ?_⟩
        · show outZ _ = _
          rw [ho, decide_eq_true hn0, Bool.and_true]
        · rw [textL_eq neg _ hn0, hl]
          congr 1
          unfold numT
          rw [hw]
          exact undigs d hdig
theorem valid_magB (neg : Bool) (n : Nat) (h : n < lim) (hz : neg = true → n ≠ 0) : validB neg (magB n) = true ∧ numB (magB n) = n := by
  have hnum : numB (magB n) = n := by unfold numB magB; exact valM_magL n
  refine ⟨?_, hnum⟩
  unfold validB
  have hl := magL_length n
  by_cases h0 : n = 0
  · subst h0
    cases neg with
    | false => rfl
    | true => exact absurd rfl (hz rfl)
  · have hsz : (magB n).size = (words 256 n).length := by rw [← hl]; rfl
    have hw0 : ¬ (words 256 n).length = 0 := fun h => h0 ((words_len0 (B := 256) (by omega) n).1 h)
    rw [dif_neg (by rw [hsz]; exact hw0)]
    have h256 := (lim_iff n _ rfl).1 h
    rw [Bool.and_eq_true]
    refine ⟨decide_eq_true ?_, decide_eq_true (by rw [hsz]; exact h256)⟩
    intro hz0
    have htr := words_trimmed (B := 256) (by omega) n n (Nat.le_refl _)
    have hp : 0 < (magL n).length := by rw [hl]; omega
    have e1 : (magL n)[0] = 0 := hz0
    have e2 : (magL n).head? = some 0 := by rw [List.head?_eq_getElem?, List.getElem?_eq_getElem hp, e1]
    unfold magL at e2
    rw [List.head?_reverse, List.getLast?_map] at e2
    cases hg : (words 256 n).getLast? with
    | none => rw [hg] at e2; cases e2
    | some x =>
      rw [hg] at e2
      injection e2 with e2
      have hx := htr x hg
      have hx2 := words_lt (B := 256) (by omega) n n x (List.mem_of_getLast? hg)
      have : (UInt8.ofNat x).toNat = 0 := by
        have e3 : UInt8.ofNat x = 0 := e2
        rw [e3]; rfl
      rw [UInt8.toNat_ofNat'] at this
      have e4 : x % 256 = 0 := this
      omega
theorem cmpZ_facts (a b : Int) : cmpZ a b = -cmpZ b a ∧ -1 ≤ cmpZ a b ∧ cmpZ a b ≤ 1 ∧ (cmpZ a b = 0 ↔ a = b) := by
  unfold cmpZ
  rcases Int.lt_trichotomy a b with h | h | h
  · rw [if_pos h, if_neg (by omega), if_pos h]; omega
  · subst h; rw [if_neg (by omega), if_neg (by omega)]; simp
  · rw [if_neg (by omega), if_pos h, if_pos h]; omega
end Go.Proofs.Ytdfklcmiagmgaaa
