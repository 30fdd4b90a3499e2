/- Walks: quotient and rest of two forms. -/
import Derived.Test.YtdfklcmiagmgaaaWD4
namespace Go.Proofs.Ytdfklcmiagmgaaa
set_option linter.all false
open Go.RowKit Go.Shelf Go.WideNum
/-- What Div answers: quotient, rest, error. -/
def divF (na : Bool) (sa : ByteArray) (nb : Bool) (sb : ByteArray) : Value × Value × Int :=
  if validB na sa && (validB nb sb && decide (sb.size ≠ 0)) then (outZ (zV na sa / zV nb sb), outZ (zV na sa % zV nb sb), errZ (zV na sa / zV nb sb)) else (emptyW, emptyW, 2)
theorem form_numZ (n : Nat) (neg : Bool) (v : Value) (w : World) (h : World.numR w v n) (hl : (wd n).length ≤ 2000) : ∃ b t, outZ (zOf neg n) = .agg #[.bool b, .string t] ∧
    Calls Try.prog 53 #[v, .bool neg] w fun e w' => e = .returned (.tuple #[.agg #[.bool b, .string t], .int .i64 (errZ (zOf neg n))]) ∧ Below w.heap.size w w' := by
  have hwide : ∃ b t, outB neg n = .agg #[.bool b, .string t] := by unfold outB emptyW wideV; split <;> exact ⟨_, _, rfl⟩
  obtain ⟨b, t, hbt⟩ := hwide
  refine ⟨b, t, by rw [← outB_z]; exact hbt, ?_⟩
  have := form_num n neg v w h hl
  unfold FormRet at this
  rwa [hbt, outE_z neg] at this
theorem two_forms (na : Bool) (sa : ByteArray) (nb : Bool) (sb : ByteArray) (W : World) (g : Nat) (h : W.heap[g]? = some (.cells #[.bool na, .string sa, .bool nb, .string sb] 23)) : World.forms W g [(na, sa), (nb, sb)] := by
  intro k x hk
  match k, hk with
  | 0, hk => injection hk with hk; subst hk; exact ⟨by rw [cell_of_row W _ _ _ _ (0, 0) h]; rfl, by rw [cell_of_row W _ _ _ _ (0, 0) h]; rfl⟩
  | 1, hk => injection hk with hk; subst hk; exact ⟨by rw [cell_of_row W _ _ _ _ (0, 0) h]; rfl, by rw [cell_of_row W _ _ _ _ (0, 0) h]; rfl⟩
  | k + 2, hk => simp at hk
theorem valid2_any (na : Bool) (sa : ByteArray) (nb : Bool) (sb : ByteArray) (hsa : sa.size ≤ maxLen) (hsb : sb.size ≤ maxLen) (W : World) (g : Nat) (h : W.heap[g]? = some (.cells #[.bool na, .string sa, .bool nb, .string sb] 23)) :
    Calls Try.prog 63 #[.slice (some ⟨g, 0, none⟩) 2 2] W fun e w' => e = .returned (.bool (validB na sa && validB nb sb)) ∧ Below W.heap.size W w' := by
  have := valid_any [(na, sa), (nb, sb)] g (by simp) (by simp [hsa, hsb]) W (two_forms na sa nb sb W g h) (lt_of_heap h)
  simpa using this
theorem wide_other {W : World} {p q : Nat} (h : p ≠ q) (neg : Bool) (s : ByteArray) : ((W.setCell ⟨q, 0, none⟩ (.bool neg)).setCell ⟨q, 1, none⟩ (.string s)).heap[p]? = W.heap[p]? := by
  rw [Below.heap_setCell _ _ _ _ h, Below.heap_setCell _ _ _ _ h]
theorem wide_set2 {W : World} {p q : Nat} {u0 u1 v0 v1 : Value} (hp : W.heap[p]? = some (.cells #[u0, u1] 23)) (hq : W.heap[q]? = some (.cells #[v0, v1] 23)) (h : p ≠ q) (b : Bool) (s : ByteArray) (c : Bool) (t : ByteArray) :
    ((((W.setCell ⟨p, 0, none⟩ (.bool b)).setCell ⟨p, 1, none⟩ (.string s)).setCell ⟨q, 0, none⟩ (.bool c)).setCell ⟨q, 1, none⟩ (.string t)).heap[p]? = some (.cells #[.bool b, .string s] 23) ∧
    ((((W.setCell ⟨p, 0, none⟩ (.bool b)).setCell ⟨p, 1, none⟩ (.string s)).setCell ⟨q, 0, none⟩ (.bool c)).setCell ⟨q, 1, none⟩ (.string t)).heap[q]? = some (.cells #[.bool c, .string t] 23) :=
  ⟨(wide_other h c t).trans (wide_set hp b s), wide_set ((wide_other (Ne.symm h) b s).trans hq) c t⟩
theorem reads_wide_set {W : World} {B p : Nat} {v : Value} {l : List Nat} {b0 : Bool} {s0 : ByteArray} (h : W.reads B v (l.map u32V)) (hp : W.heap[p]? = some (.cells #[.bool b0, .string s0] 23)) (x : Bool) (y : ByteArray) :
    ((W.setCell ⟨p, 0, none⟩ (.bool x)).setCell ⟨p, 1, none⟩ (.string y)).reads B v (l.map u32V) := by
  obtain ⟨a, cap, hv, hn, hz, hmx, hc⟩ := h
  refine ⟨a, cap, hv, hn, hz, hmx, fun j u hj => ?_⟩
  obtain ⟨b, off, ha, hB, hcell⟩ := hc j u hj
  refine ⟨b, off, ha, hB, ?_⟩
  have hne : b ≠ p := by
    rintro rfl
    rw [cell_of_row W _ _ _ _ (0, 0) hp] at hcell
    obtain ⟨z, _, rfl⟩ := List.mem_map.1 (List.mem_of_getElem? hj)
    have hm := Array.mem_of_getElem? hcell
    simp [u32V] at hm
  have := wide_other (p := b) (q := p) hne x y (W := W)
  exact (World.cell?_of_block (a := ⟨b, off + j, none⟩) this).trans hcell
theorem numR_wide_set {W : World} {p n : Nat} {v : Value} {b0 : Bool} {s0 : ByteArray} (h : World.numR W v n) (hp : W.heap[p]? = some (.cells #[.bool b0, .string s0] 23)) (x : Bool) (y : ByteArray) :
    World.numR ((W.setCell ⟨p, 0, none⟩ (.bool x)).setCell ⟨p, 1, none⟩ (.string y)) v n := by
  have := reads_wide_set h hp x y
  unfold World.numR
  simpa using this
theorem keep4 {W : World} {p q : Nat} {b c : Bool} {s t : ByteArray} (h2 : W.heap[p]? = some (.cells #[.bool b, .string s] 23)) (h3 : W.heap[q]? = some (.cells #[.bool c, .string t] 23)) :
    W.cell? ⟨p, 0, none⟩ = some (.bool b) ∧ W.cell? ⟨p, 1, none⟩ = some (.string s) ∧ W.cell? ⟨q, 0, none⟩ = some (.bool c) ∧ W.cell? ⟨q, 1, none⟩ = some (.string t) :=
  ⟨(wide_cells h2).1, (wide_cells h2).2.1, (wide_cells h3).1, (wide_cells h3).2.1⟩
theorem below_set2 {w W : World} {p : Nat} (hb : Below w.heap.size w W) (hp : w.heap.size ≤ p) (b : Bool) (s : ByteArray) : Below w.heap.size w ((W.setCell ⟨p, 0, none⟩ (.bool b)).setCell ⟨p, 1, none⟩ (.string s)) := (hb.setCell hp _).setCell hp _
set_option maxRecDepth 100000 in
set_option maxHeartbeats 8000000 in
theorem Div_any (na : Bool) (sa : ByteArray) (nb : Bool) (sb : ByteArray) (hsa : sa.size ≤ maxLen) (hsb : sb.size ≤ maxLen)
    (hD : validB na sa = true → validB nb sb = true → sb.size ≠ 0 → DivOK (numB sa) (numB sb)) (w : World) :
    Calls Try.prog 32 #[.agg #[.bool na, .string sa], .agg #[.bool nb, .string sb]] w fun e w' => e = .returned (.tuple #[(divF na sa nb sb).1, (divF na sa nb sb).2.1, .int .i64 (divF na sa nb sb).2.2]) ∧ Below w.heap.size w w' := by
  obtain ⟨HPOST, hpost⟩ : ∃ X : Ending → World → Prop, X = fun e w' => e = .returned (.tuple #[(divF na sa nb sb).1, (divF na sa nb sb).2.1, .int .i64 (divF na sa nb sb).2.2]) ∧ Below w.heap.size w w' := ⟨_, rfl⟩
  rw [← hpost]
  have HP := Lib.hid hpost
  clear hpost
  obtain ⟨W0, hW0⟩ : ∃ W0, W0 = (((w.alloc (.cells #[.bool na, .string sa] 23)).alloc (.cells #[.bool nb, .string sb] 23)).alloc (.cells #[.bool false, .string ⟨#[]⟩] 23)).alloc (.cells #[.bool false, .string ⟨#[]⟩] 23) := ⟨_, rfl⟩
  have g0 : W0.heap[w.heap.size]? = some (.cells #[.bool na, .string sa] 23) := by rw [hW0]; repeat (first | (refine alloc_last _ _ ?_; simp only [World.size_alloc]; done) | (rw [Below.heap_alloc]; rotate_left; (simp only [World.size_alloc]; omega)))
  have g1 : W0.heap[w.heap.size + 1]? = some (.cells #[.bool nb, .string sb] 23) := by rw [hW0]; repeat (first | (refine alloc_last _ _ ?_; simp only [World.size_alloc]; done) | (rw [Below.heap_alloc]; rotate_left; (simp only [World.size_alloc]; omega)))
  have g2 : W0.heap[w.heap.size + 1 + 1]? = some (.cells #[.bool false, .string ⟨#[]⟩] 23) := by rw [hW0]; repeat (first | (refine alloc_last _ _ ?_; simp only [World.size_alloc]; done) | (rw [Below.heap_alloc]; rotate_left; (simp only [World.size_alloc]; omega)))
  have g3 : W0.heap[w.heap.size + 1 + 1 + 1]? = some (.cells #[.bool false, .string ⟨#[]⟩] 23) := by rw [hW0]; repeat (first | (refine alloc_last _ _ ?_; simp only [World.size_alloc]; done) | (rw [Below.heap_alloc]; rotate_left; (simp only [World.size_alloc]; omega)))
  have hz0 : W0.heap.size = w.heap.size + 4 := by rw [hW0]; simp
  have hb0 : Below w.heap.size w W0 := by rw [hW0]; exact (((((Below.refl _ w).alloc (Nat.le_refl _) _).alloc (by simp) _).alloc (by simp; omega) _).alloc (by simp; omega) _)
  have HB0 := Lib.hid hb0
  have HG0 := Lib.hid g0
  have HG1 := Lib.hid g1
  have HG2 := Lib.hid g2
  have HG3 := Lib.hid g3
  have HZ0 := Lib.hid hz0
  obtain ⟨c00, c01, f0⟩ := wide_cells g0
  obtain ⟨c10, c11, f1⟩ := wide_cells g1
  have HW0 := Lib.hid hW0
  clear hb0 g0 g1 g2 g3 hz0 hW0
  go_enter Try.func32, Try.ntmps32
  go_upto_region 1 with (fail)
  rw [← HW0.out]
  go_wp2_with fail
  obtain ⟨ok, hok⟩ : ∃ ok, ok = (validB na sa && validB nb sb) := ⟨_, rfl⟩
  have hval := valid2_any na sa nb sb hsa hsb (W0.alloc (.cells #[.bool na, .string sa, .bool nb, .string sb] 23)) W0.heap.size (heap_alloc_new W0 _)
  rw [← hok] at hval
  have HOK := Lib.hid hok
  clear hok
  (with_reducible refine hval.mono ?_)
  clear hval
  rintro e w1 ⟨rfl, hb1⟩
  have hb01 : Below W0.heap.size W0 w1 := ((Below.refl _ W0).alloc (Nat.le_refl _) _).trans (hb1.mono (by simp))
  have k0 := (hb01.block _ (lt_of_heap HG0.out)).trans HG0.out
  have k1 := (hb01.block _ (lt_of_heap HG1.out)).trans HG1.out
  have k2 := (hb01.block _ (lt_of_heap HG2.out)).trans HG2.out
  have k3 := (hb01.block _ (lt_of_heap HG3.out)).trans HG3.out
  have HK0 := Lib.hid k0
  have HK1 := Lib.hid k1
  have HK2 := Lib.hid k2
  have HK3 := Lib.hid k3
  have HBw1 := Lib.hid (HB0.out.trans (hb01.mono HB0.out.size))
  clear c00 c01 f0 c10 c11 f1 hb1
  obtain ⟨c00, c01, f0⟩ := wide_cells k0
  obtain ⟨c10, c11, f1⟩ := wide_cells k1
  have hsz1 := hb01.size
  clear k0 k1 hb01
  cases ok with
  | false =>
    obtain ⟨c20, c21, f2⟩ := wide_cells k2
    obtain ⟨c30, c31, f3⟩ := wide_cells k3
    clear k2 k3
    have hres : Hid (divF na sa nb sb = (emptyW, emptyW, 2)) := by
      show _ = _
      unfold divF
      have := HOK.out
      cases h1 : validB na sa <;> cases h2 : validB nb sb <;> rw [h1, h2] at this <;> first | rfl | cases this
    go_wp2
    obtain ⟨m2, m3⟩ := wide_set2 HK2.out HK3.out (by omega) false ⟨#[]⟩ false ⟨#[]⟩
    have hb9 := below_set2 (p := w.heap.size + 1 + 1 + 1) (below_set2 (p := w.heap.size + 1 + 1) HBw1.out (by omega) false ⟨#[]⟩) (by omega) false ⟨#[]⟩
    obtain ⟨d20, d21, -⟩ := wide_cells m2
    obtain ⟨d30, d31, -⟩ := wide_cells m3
    clear m2 m3
    generalize (((w1.setCell ⟨w.heap.size + 1 + 1, 0, none⟩ (.bool false)).setCell ⟨w.heap.size + 1 + 1, 1, none⟩ (.string ⟨#[]⟩)).setCell ⟨w.heap.size + 1 + 1 + 1, 0, none⟩ (.bool false)).setCell ⟨w.heap.size + 1 + 1 + 1, 1, none⟩ (.string ⟨#[]⟩) = W9 at d20 d21 d30 d31 hb9 ⊢
    rw [HP.out]
    exact bodyPost_ret (v := .tuple #[emptyW, emptyW, .int .i64 2]) (by simp [results, Try.results32, go_sem, d20, d21, d30, d31]; rfl) rfl ⟨by rw [hres.out], hb9⟩
  | true =>
    have hv : validB na sa = true ∧ validB nb sb = true := by
      have := HOK.out
      cases h1 : validB na sa <;> cases h2 : validB nb sb <;> rw [h1, h2] at this <;> first | exact ⟨rfl, rfl⟩ | cases this
    by_cases h0 : sb.size = 0
    · obtain rfl := str_empty sb h0
      obtain ⟨c20, c21, f2⟩ := wide_cells k2
      obtain ⟨c30, c31, f3⟩ := wide_cells k3
      clear k2 k3
      have hres : Hid (divF na sa nb ⟨#[]⟩ = (emptyW, emptyW, 2)) := by
        show _ = _
        unfold divF
        rw [if_neg]
        intro h
        simp only [Bool.and_eq_true, decide_eq_true_eq] at h
        exact h.2.2 rfl
      clear hv h0
      go_wp2
      obtain ⟨m2, m3⟩ := wide_set2 HK2.out HK3.out (by omega) false ⟨#[]⟩ false ⟨#[]⟩
      have hb9 := below_set2 (p := w.heap.size + 1 + 1 + 1) (below_set2 (p := w.heap.size + 1 + 1) HBw1.out (by omega) false ⟨#[]⟩) (by omega) false ⟨#[]⟩
      obtain ⟨d20, d21, -⟩ := wide_cells m2
      obtain ⟨d30, d31, -⟩ := wide_cells m3
      clear m2 m3
      generalize (((w1.setCell ⟨w.heap.size + 1 + 1, 0, none⟩ (.bool false)).setCell ⟨w.heap.size + 1 + 1, 1, none⟩ (.string ⟨#[]⟩)).setCell ⟨w.heap.size + 1 + 1 + 1, 0, none⟩ (.bool false)).setCell ⟨w.heap.size + 1 + 1 + 1, 1, none⟩ (.string ⟨#[]⟩) = W9 at d20 d21 d30 d31 hb9 ⊢
      rw [HP.out]
      exact bodyPost_ret (v := .tuple #[emptyW, emptyW, .int .i64 2]) (by simp [results, Try.results32, go_sem, d20, d21, d30, d31]; rfl) rfl ⟨by rw [hres.out], hb9⟩
    · clear k2 k3
      obtain ⟨hns, hem⟩ := str_facts sb h0
      obtain ⟨l1, -, -, s256a⟩ := valid_spec na sa hv.1
      obtain ⟨l2, hmg, -, s256b⟩ := valid_spec nb sb hv.2
      have hofA : Hid (∀ W : World, Calls Try.prog 58 #[.agg #[.bool na, .string sa]] W (NumRet W (numB sa))) := of_wide na sa (by omega)
      have hofB : Hid (∀ W : World, Calls Try.prog 58 #[.agg #[.bool nb, .string sb]] W (NumRet W (numB sb))) := of_wide nb sb (by omega)
      have hD2 := hD hv.1 hv.2 h0
      have hB0 : numB sb ≠ 0 := by
        intro h
        rw [h] at hmg
        exact h0 (by rw [← hmg]; rfl)
      have hwa := wd_len65 l1
      have hwb := wd_len65 l2
      have hres : divF na sa nb sb = (outZ (zV na sa / zV nb sb), outZ (zV na sa % zV nb sb), errZ (zV na sa / zV nb sb)) := by
        unfold divF; rw [hv.1, hv.2, decide_eq_true h0]; rfl
      unfold zV at hres
      obtain ⟨A, hA⟩ : ∃ A, A = numB sa := ⟨_, rfl⟩
      obtain ⟨C, hC⟩ : ∃ C, C = numB sb := ⟨_, rfl⟩
      rw [← hA, ← hC] at hres
      rw [← hA] at hofA hwa
      rw [← hC] at hofB hB0 hwb
      rw [← hA, ← hC] at hD2
      obtain ⟨fz1, fz2⟩ := floor_z A na C nb hB0
      rw [← fz1, ← fz2] at hres
      have HRES := Lib.hid hres
      have HFL : Hid (∀ (va vb : Value) (W : World), World.numR W va A → World.numR W vb C → Calls Try.prog 68 #[va, .bool na, vb, .bool nb] W (FloorRet W A na C nb)) := fun va vb W h1 h2 => floor_any A C na nb hB0 hD2 (by omega) (by omega) va vb W h1 h2
      have hql : (wd (floorN A na C)).length ≤ 2000 ∧ (wd (floorR A na C)).length ≤ 2000 := by
        have h1 := wd_vlt A
        have h2 := wd_vlt C
        have h3 := Nat.mod_lt A (show 0 < C by omega)
        have h4 := Nat.div_le_self A C
        have hp : (4294967296 : Nat) ^ (wd A).length ≤ 4294967296 ^ 64 := Nat.pow_le_pow_right (by omega) hwa
        have hp2 : (4294967296 : Nat) ^ (wd C).length ≤ 4294967296 ^ 64 := Nat.pow_le_pow_right (by omega) hwb
        constructor
        · have := words_length (B := 4294967296) (by omega) (floorN A na C) 65 (by
            rw [show (65 : Nat) = 64 + 1 by rfl, Nat.pow_succ]
            unfold floorN
            split <;> omega)
          unfold wd; omega
        · have := words_length (B := 4294967296) (by omega) (floorR A na C) 65 (by
            rw [show (65 : Nat) = 64 + 1 by rfl, Nat.pow_succ]
            unfold floorR
            split <;> omega)
          unfold wd; omega
      have HQL := Lib.hid hql
      have hl0 : w.heap.size < w1.heap.size := lt_of_heap HK0.out
      have hl1 : w.heap.size + 1 < w1.heap.size := lt_of_heap HK1.out
      clear hres hD2 hB0 hwa hwb hql fz1 fz2 hA hC hmg l1 l2 hv h0
      go_wp2_with fail
      go_region_held3 (fun w' => (w'.cell? ⟨w.heap.size, 0, none⟩ = some (.bool na) ∧ w'.cell? ⟨w.heap.size, 1, none⟩ = some (.string sa) ∧ w'.cell? ⟨w.heap.size + 1, 0, none⟩ = some (.bool nb) ∧ w'.cell? ⟨w.heap.size + 1, 1, none⟩ = some (.string sb)))
        (first | exact ⟨c00, c01, c10, c11⟩ | (refine ⟨?_, ?_, ?_, ?_⟩ <;> assumption))
        (first
          | (go_simp; go_at_call 58; (with_reducible refine (hofA.out _).mono ?_); rintro e w5 ⟨v5, rfl, ho5, hb5⟩; have H5 : Hid (NumRet _ A (.returned v5) w5) := ⟨v5, rfl, ho5, hb5⟩; have a0 := (hb5.cell (p := ⟨w.heap.size, 0, none⟩) hl0).trans c00; have a1 := (hb5.cell (p := ⟨w.heap.size, 1, none⟩) hl0).trans c01; have a2 := (hb5.cell (p := ⟨w.heap.size + 1, 0, none⟩) hl1).trans c10; have a3 := (hb5.cell (p := ⟨w.heap.size + 1, 1, none⟩) hl1).trans c11; have hm0 := Nat.lt_of_lt_of_le hl0 hb5.size; have hm1 := Nat.lt_of_lt_of_le hl1 hb5.size; clear ho5 hb5)
          | (go_simp; go_at_call 58; (with_reducible refine (hofB.out _).mono ?_); rintro e w6 ⟨v6, rfl, ho6, hb6⟩; have H6 : Hid (NumRet _ C (.returned v6) w6) := ⟨v6, rfl, ho6, hb6⟩; have b0 := (hb6.cell (p := ⟨w.heap.size, 0, none⟩) hm0).trans a0; have b1 := (hb6.cell (p := ⟨w.heap.size, 1, none⟩) hm0).trans a1; have b2 := (hb6.cell (p := ⟨w.heap.size + 1, 0, none⟩) hm1).trans a2; have b3 := (hb6.cell (p := ⟨w.heap.size + 1, 1, none⟩) hm1).trans a3; have hn0 := Nat.lt_of_lt_of_le hm0 hb6.size; have hn1 := Nat.lt_of_lt_of_le hm1 hb6.size; clear ho6 hb6)
          | (go_simp; go_at_call 68; (with_reducible refine (HFL.out _ _ _ (numR_below H5.out.numR H6.out.bel) H6.out.numR).mono ?_); rintro e w7 ⟨v7, u7, rfl, hq7, hr7, hb7⟩; have HQ7 : Hid (World.numR w7 v7 (floorN A na C)) := hq7; have HR7 : Hid (World.numR w7 u7 (floorR A na C)) := hr7; have HB7 := Lib.hid hb7; have d0 := (hb7.cell (p := ⟨w.heap.size, 0, none⟩) hn0).trans b0; have d1 := (hb7.cell (p := ⟨w.heap.size, 1, none⟩) hn0).trans b1; have d2 := (hb7.cell (p := ⟨w.heap.size + 1, 0, none⟩) hn1).trans b2; have d3 := (hb7.cell (p := ⟨w.heap.size + 1, 1, none⟩) hn1).trans b3; clear hq7 hr7 hb7))
      have hbw7 := HB7.out
      have hb16 : Below w1.heap.size w1 w6 := (show Below w1.heap.size w1 w5 from ((Below.refl w1.heap.size w1).drew).trans H5.out.bel).trans (H6.out.bel.mono (show w1.heap.size ≤ w5.heap.size from H5.out.bel.size))
      have hb17 : Below w1.heap.size w1 w7 := hb16.trans (hbw7.mono hb16.size)
      have HK27 := Lib.hid ((hb17.block _ (lt_of_heap HK2.out)).trans HK2.out)
      have HK37 := Lib.hid ((hb17.block _ (lt_of_heap HK3.out)).trans HK3.out)
      have HBw7 := Lib.hid (HBw1.out.trans (hb17.mono HBw1.out.size))
      obtain ⟨na1, nb1, hnn⟩ : ∃ x y : Nat, x = floorN A na C ∧ y = floorR A na C := ⟨_, _, rfl, rfl⟩
      rw [← hnn.1] at HQ7 HQL HRES
      rw [← hnn.2] at HR7 HQL HRES
      clear hnn hbw7 hb16 hb17 d0 d1 d2 d3 b0 b1 b2 b3 a0 a1 a2 a3 hn0 hn1 hm0 hm1 c00 c01 c10 c11 f0 f1
      obtain ⟨qb, qt, hq1, hq2⟩ := form_numZ na1 (na != nb) v7 w7 HQ7.out HQL.out.1
      have HFQ := Lib.hid hq2
      obtain ⟨a7, c7, rfl⟩ := numR_shape HQ7.out
      obtain ⟨a8, c8, rfl⟩ := numR_shape HR7.out
      rw [hq1] at HRES
      obtain ⟨E, hE⟩ : ∃ E, E = errZ (zOf (na != nb) na1) := ⟨_, rfl⟩
      rw [← hE] at HFQ HRES
      obtain ⟨L7, hL7⟩ : ∃ L, L = (wd na1).length := ⟨_, rfl⟩
      obtain ⟨L8, hL8⟩ : ∃ L, L = (wd nb1).length := ⟨_, rfl⟩
      rw [← hL7] at HQ7 HFQ ⊢
      rw [← hL8] at HR7 ⊢
      clear hE hq1 hq2 hL7 hL8
      go_wp2_with fail
      (with_reducible refine (HFQ.out).mono ?_)
      rintro e w8 ⟨rfl, hb8⟩
      have HR8 := Lib.hid (numR_below HR7.out hb8)
      have k28 := (hb8.block _ (lt_of_heap HK27.out)).trans HK27.out
      have k38 := (hb8.block _ (lt_of_heap HK37.out)).trans HK37.out
      have hbw8 := HBw7.out.trans (hb8.mono HBw7.out.size)
      obtain ⟨c20, c21, f2⟩ := wide_cells k28
      have hl8 := lt_of_heap k28
      have HK28 := Lib.hid k28
      have HK38 := Lib.hid k38
      have HBw8 := Lib.hid hbw8
      have hsz8 := hb8.size
      clear k28 k38 hbw8 hb8
      go_upto_region 5 with (fail)
      have hk2 := wide_set HK28.out qb qt
      have hk3 := (wide_other (p := w.heap.size + 1 + 1 + 1) (q := w.heap.size + 1 + 1) (by omega) qb qt (W := w8)).trans HK38.out
      have hbs := below_set2 HBw8.out (p := w.heap.size + 1 + 1) (by omega) qb qt
      have hr9 : World.numR ((w8.setCell ⟨w.heap.size + 1 + 1, 0, none⟩ (.bool qb)).setCell ⟨w.heap.size + 1 + 1, 1, none⟩ (.string qt)) (.slice a8 L8 c8) nb1 := numR_wide_set HR8.out HK28.out qb qt
      generalize (w8.setCell ⟨w.heap.size + 1 + 1, 0, none⟩ (.bool qb)).setCell ⟨w.heap.size + 1 + 1, 1, none⟩ (.string qt) = w9 at hk2 hk3 hbs hr9 ⊢
      obtain ⟨rb, rt, hr1, hr2⟩ := form_numZ nb1 false (.slice a8 L8 c8) w9 hr9 HQL.out.2
      rw [zOf_false] at hr1 hr2
      rw [hr1] at HRES
      obtain ⟨E2, hE2⟩ : ∃ E, E = errZ (nb1 : Int) := ⟨_, rfl⟩
      rw [← hE2] at hr2
      have HFR := Lib.hid hr2
      have HK29 := Lib.hid hk2
      have HK39 := Lib.hid hk3
      have HBw9 := Lib.hid hbs
      clear hr1 hr2 hE2 hk2 hk3 hbs hr9 c20 c21 f2 hsz8 hl8
      go_wp2_with fail
      (with_reducible refine (HFR.out).mono ?_)
      rintro e w10 ⟨rfl, hb10⟩
      have k2 := (hb10.block _ (lt_of_heap HK29.out)).trans HK29.out
      have k3 := (hb10.block _ (lt_of_heap HK39.out)).trans HK39.out
      obtain ⟨e20, e21, f2⟩ := wide_cells k2
      obtain ⟨e30, e31, f3⟩ := wide_cells k3
      have HBw10 := Lib.hid (HBw9.out.trans (hb10.mono HBw9.out.size))
      have HK2 := Lib.hid k2
      have HK3 := Lib.hid k3
      clear k2 k3 hb10
      go_upto_region 6 with (fail)
      have m3 := wide_set HK3.out rb rt
      have m2 := (wide_other (p := w.heap.size + 1 + 1) (q := w.heap.size + 1 + 1 + 1) (by omega) rb rt (W := w10)).trans HK2.out
      have hb11 := below_set2 HBw10.out (p := w.heap.size + 1 + 1 + 1) (by omega) rb rt
      clear e20 e21 f2 e30 e31 f3
      generalize (w10.setCell ⟨w.heap.size + 1 + 1 + 1, 0, none⟩ (.bool rb)).setCell ⟨w.heap.size + 1 + 1 + 1, 1, none⟩ (.string rt) = w11 at m2 m3 hb11 ⊢
      obtain ⟨e20, e21, f2⟩ := wide_cells m2
      obtain ⟨e30, e31, f3⟩ := wide_cells m3
      have HM2 := Lib.hid m2
      have HM3 := Lib.hid m3
      have HB11 := Lib.hid hb11
      clear m2 m3 hb11
      go_region_held3 (fun w' => (w'.cell? ⟨w.heap.size + 1 + 1, 0, none⟩ = some (.bool qb) ∧ w'.cell? ⟨w.heap.size + 1 + 1, 1, none⟩ = some (.string qt) ∧ w'.cell? ⟨w.heap.size + 1 + 1 + 1, 0, none⟩ = some (.bool rb) ∧ w'.cell? ⟨w.heap.size + 1 + 1 + 1, 1, none⟩ = some (.string rt)))
        (first | exact ⟨e20, e21, e30, e31⟩ | exact keep4 (wide_set HM2.out qb qt) ((wide_other (by omega) qb qt).trans HM3.out) | exact keep4 ((wide_other (by omega) rb rt).trans (wide_set HM2.out qb qt)) (wide_set ((wide_other (by omega) qb qt).trans HM3.out) rb rt))
        (fail)
      have m9 := wide_set2 HM2.out HM3.out (by omega) qb qt rb rt
      have hb9 := (below_set2 (p := w.heap.size + 1 + 1 + 1) (below_set2 (p := w.heap.size + 1 + 1) HB11.out (by omega) qb qt) (by omega) rb rt).drew
      obtain ⟨d20, d21, d30, d31⟩ := keep4 (W := ((((w11.setCell ⟨w.heap.size + 1 + 1, 0, none⟩ (.bool qb)).setCell ⟨w.heap.size + 1 + 1, 1, none⟩ (.string qt)).setCell ⟨w.heap.size + 1 + 1 + 1, 0, none⟩ (.bool rb)).setCell ⟨w.heap.size + 1 + 1 + 1, 1, none⟩ (.string rt)).drew) m9.1 m9.2
      clear m9 e20 e21 f2 e30 e31 f3
      generalize ((((w11.setCell ⟨w.heap.size + 1 + 1, 0, none⟩ (.bool qb)).setCell ⟨w.heap.size + 1 + 1, 1, none⟩ (.string qt)).setCell ⟨w.heap.size + 1 + 1 + 1, 0, none⟩ (.bool rb)).setCell ⟨w.heap.size + 1 + 1 + 1, 1, none⟩ (.string rt)).drew = W9 at d20 d21 d30 d31 hb9 ⊢
      go_wp2
      rw [HP.out]
      exact bodyPost_ret (v := .tuple #[.agg #[.bool qb, .string qt], .agg #[.bool rb, .string rt], .int .i64 E]) (by simp [results, Try.results32, go_sem, d20, d21, d30, d31]) rfl ⟨by rw [HRES.out], hb9⟩
end Go.Proofs.Ytdfklcmiagmgaaa
