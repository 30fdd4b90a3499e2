/- Wide integers: helpers and walks, in one text (WD5 WD6 WD7 WD8 WD9 WMa). -/
import Derived.Test.YtnjblppapmflhaaWQ2
/- Walks: quotient and rest of two forms. -/
namespace Go.Proofs.Ytnjblppapmflhaa
set_option linter.all false
open Go.RowKit Go.Shelf Go.WideNum
/-- What Div answers: quotient, rest, error. -/
def divF (na : Bool) (sa : ByteArray) (nb : Bool) (sb : ByteArray) : Value × Value × Int :=
  if validB na sa && (validB nb sb && decide (sb.size ≠ 0)) then (outZ (zV na sa / zV nb sb), outZ (zV na sa % zV nb sb), errZ (zV na sa / zV nb sb)) else (emptyW, emptyW, 2)
theorem form_numZ (n : Nat) (neg : Bool) (v : Value) (w : World) (h : World.numR w v n) (hl : (wd n).length ≤ 2000) : ∃ b t, outZ (zOf neg n) = .agg #[.bool b, .string t] ∧
    Calls Try.prog 67 #[v, .bool neg] w fun e w' => e = .returned (.tuple #[.agg #[.bool b, .string t], .int .i64 (errZ (zOf neg n))]) ∧ Below w.heap.size w w' := by
  have hwide : ∃ b t, outB neg n = .agg #[.bool b, .string t] := by unfold outB emptyW wideV; split <;> exact ⟨_, _, rfl⟩
  obtain ⟨b, t, hbt⟩ := hwide
  refine ⟨b, t, by rw [← outB_z]; exact hbt, ?_⟩
  have := form_num n neg v w h hl
  unfold FormRet at this
  rwa [hbt, outE_z neg] at this
theorem two_forms (na : Bool) (sa : ByteArray) (nb : Bool) (sb : ByteArray) (W : World) (g : Nat) (h : W.heap[g]? = some (.cells #[.bool na, .string sa, .bool nb, .string sb] 38)) : World.forms W g [(na, sa), (nb, sb)] := by
  intro k x hk
  match k, hk with
  | 0, hk => injection hk with hk; subst hk; exact ⟨by rw [cell_of_row W _ _ _ _ (0, 0) h]; rfl, by rw [cell_of_row W _ _ _ _ (0, 0) h]; rfl⟩
  | 1, hk => injection hk with hk; subst hk; exact ⟨by rw [cell_of_row W _ _ _ _ (0, 0) h]; rfl, by rw [cell_of_row W _ _ _ _ (0, 0) h]; rfl⟩
  | k + 2, hk => simp at hk
theorem valid2_any (na : Bool) (sa : ByteArray) (nb : Bool) (sb : ByteArray) (hsa : sa.size ≤ maxLen) (hsb : sb.size ≤ maxLen) (W : World) (g : Nat) (h : W.heap[g]? = some (.cells #[.bool na, .string sa, .bool nb, .string sb] 38)) :
    Calls Try.prog 76 #[.slice (some ⟨g, 0, none⟩) 2 2] W fun e w' => e = .returned (.bool (validB na sa && validB nb sb)) ∧ Below W.heap.size W w' := by
  have := valid_any [(na, sa), (nb, sb)] g (by simp) (by simp [hsa, hsb]) W (two_forms na sa nb sb W g h) (lt_of_heap h)
  simpa using this
theorem wide_other {W : World} {p q : Nat} (h : p ≠ q) (neg : Bool) (s : ByteArray) : ((W.setCell ⟨q, 0, none⟩ (.bool neg)).setCell ⟨q, 1, none⟩ (.string s)).heap[p]? = W.heap[p]? := by
  rw [Below.heap_setCell _ _ _ _ h, Below.heap_setCell _ _ _ _ h]
theorem wide_set2 {W : World} {p q : Nat} {u0 u1 v0 v1 : Value} (hp : W.heap[p]? = some (.cells #[u0, u1] 38)) (hq : W.heap[q]? = some (.cells #[v0, v1] 38)) (h : p ≠ q) (b : Bool) (s : ByteArray) (c : Bool) (t : ByteArray) :
    ((((W.setCell ⟨p, 0, none⟩ (.bool b)).setCell ⟨p, 1, none⟩ (.string s)).setCell ⟨q, 0, none⟩ (.bool c)).setCell ⟨q, 1, none⟩ (.string t)).heap[p]? = some (.cells #[.bool b, .string s] 38) ∧
    ((((W.setCell ⟨p, 0, none⟩ (.bool b)).setCell ⟨p, 1, none⟩ (.string s)).setCell ⟨q, 0, none⟩ (.bool c)).setCell ⟨q, 1, none⟩ (.string t)).heap[q]? = some (.cells #[.bool c, .string t] 38) :=
  ⟨(wide_other h c t).trans (wide_set hp b s), wide_set ((wide_other (Ne.symm h) b s).trans hq) c t⟩
theorem reads_wide_set {W : World} {B p : Nat} {v : Value} {l : List Nat} {b0 : Bool} {s0 : ByteArray} (h : W.reads B v (l.map u32V)) (hp : W.heap[p]? = some (.cells #[.bool b0, .string s0] 38)) (x : Bool) (y : ByteArray) :
    ((W.setCell ⟨p, 0, none⟩ (.bool x)).setCell ⟨p, 1, none⟩ (.string y)).reads B v (l.map u32V) := by
  obtain ⟨a, cap, hv, hn, hz, hmx, hc⟩ := h
  refine ⟨a, cap, hv, hn, hz, hmx, fun j u hj => ?_⟩
  obtain ⟨b, off, ha, hB, hcell⟩ := hc j u hj
  refine ⟨b, off, ha, hB, ?_⟩
  have hne : b ≠ p := by
    rintro rfl
    rw [cell_of_row W _ _ _ _ (0, 0) hp] at hcell
    obtain ⟨z, _, rfl⟩ := List.mem_map.1 (List.mem_of_getElem? hj)
    have hm := Array.mem_of_getElem? hcell
    simp [u32V] at hm
  have := wide_other (p := b) (q := p) hne x y (W := W)
  exact (World.cell?_of_block (a := ⟨b, off + j, none⟩) this).trans hcell
theorem numR_wide_set {W : World} {p n : Nat} {v : Value} {b0 : Bool} {s0 : ByteArray} (h : World.numR W v n) (hp : W.heap[p]? = some (.cells #[.bool b0, .string s0] 38)) (x : Bool) (y : ByteArray) :
    World.numR ((W.setCell ⟨p, 0, none⟩ (.bool x)).setCell ⟨p, 1, none⟩ (.string y)) v n := by
  have := reads_wide_set h hp x y
  unfold World.numR
  simpa using this
theorem keep4 {W : World} {p q : Nat} {b c : Bool} {s t : ByteArray} (h2 : W.heap[p]? = some (.cells #[.bool b, .string s] 38)) (h3 : W.heap[q]? = some (.cells #[.bool c, .string t] 38)) :
    W.cell? ⟨p, 0, none⟩ = some (.bool b) ∧ W.cell? ⟨p, 1, none⟩ = some (.string s) ∧ W.cell? ⟨q, 0, none⟩ = some (.bool c) ∧ W.cell? ⟨q, 1, none⟩ = some (.string t) :=
  ⟨(wide_cells h2).1, (wide_cells h2).2.1, (wide_cells h3).1, (wide_cells h3).2.1⟩
theorem below_set2 {w W : World} {p : Nat} (hb : Below w.heap.size w W) (hp : w.heap.size ≤ p) (b : Bool) (s : ByteArray) : Below w.heap.size w ((W.setCell ⟨p, 0, none⟩ (.bool b)).setCell ⟨p, 1, none⟩ (.string s)) := (hb.setCell hp _).setCell hp _
end Go.Proofs.Ytnjblppapmflhaa

/- Walks: the balanced remainder. -/
namespace Go.Proofs.Ytnjblppapmflhaa
set_option linter.all false
open Go.RowKit Go.Shelf Go.WideNum
def balZ (a m : Int) : Int := if m < 2 * (a % m) then a % m - m else a % m
def balF (na : Bool) (sa : ByteArray) (nb : Bool) (sb : ByteArray) : Value × Int :=
  if validB na sa && posB nb sb then (outZ (balZ (zV na sa) (zV nb sb)), errZ (balZ (zV na sa) (zV nb sb))) else (emptyW, 2)
theorem NumRet.belD {w w' : World} {e : Ending} {n : Nat} (h : NumRet w.drew n e w') : Below w.heap.size w w' := ((Below.refl w.heap.size w).drew).trans h.bel
theorem left_num (A k : Nat) (hk : k ≤ 100000) (va : Value) (w : World) (hA : World.numR w va A) (hla : (wd A).length ≤ 2000) (z : Int) (hz : z = (k : Int)) :
    Calls Try.prog 99 #[va, .int .i64 z] w (NumRet w (A * 2 ^ k)) := by subst hz; exact left_any A k hk va w hA hla
theorem wd_len_le {A C k : Nat} (h : A ≤ C) (hc : (wd C).length ≤ k) : (wd A).length ≤ k := by
  have h1 := words_length (B := 4294967296) (by omega) A (wd C).length (Nat.lt_of_le_of_lt h (wd_vlt C))
  unfold wd at *; omega
theorem wd_len_double {A k : Nat} (hc : (wd A).length ≤ k) : (wd (A * 2 ^ 1)).length ≤ k + 1 := by
  have h1 := wd_vlt A
  have h2 := words_length (B := 4294967296) (by omega) (A * 2 ^ 1) ((wd A).length + 1) (by rw [Nat.pow_succ]; omega)
  unfold wd at *; omega
set_option maxRecDepth 100000 in
set_option maxHeartbeats 8000000 in
theorem Balanced_any (na : Bool) (sa : ByteArray) (nb : Bool) (sb : ByteArray) (hsa : sa.size ≤ maxLen) (hsb : sb.size ≤ maxLen)
    (hD : validB na sa = true → validB nb sb = true → sb.size ≠ 0 → DivOK (numB sa) (numB sb)) (w : World) :
    Calls Try.prog 82 #[.agg #[.bool na, .string sa], .agg #[.bool nb, .string sb]] w fun e w' => e = .returned (.tuple #[(balF na sa nb sb).1, .int .i64 (balF na sa nb sb).2]) ∧ Below w.heap.size w w' := by
  obtain ⟨HPOST, hpost⟩ : ∃ X : Ending → World → Prop, X = fun e w' => e = .returned (.tuple #[(balF na sa nb sb).1, .int .i64 (balF na sa nb sb).2]) ∧ Below w.heap.size w w' := ⟨_, rfl⟩
  rw [← hpost]
  have HP := Lib.hid hpost
  clear hpost
  obtain ⟨W0, hW0⟩ : ∃ W0, W0 = ((w.alloc (.cells #[.bool na, .string sa] 38)).alloc (.cells #[.bool nb, .string sb] 38)).alloc (.cells #[.bool false, .string ⟨#[]⟩] 38) := ⟨_, rfl⟩
  have g0 : W0.heap[w.heap.size]? = some (.cells #[.bool na, .string sa] 38) := by rw [hW0]; repeat (first | (refine alloc_last _ _ ?_; simp only [World.size_alloc]; done) | (rw [Below.heap_alloc]; rotate_left; (simp only [World.size_alloc]; omega)))
  have g1 : W0.heap[w.heap.size + 1]? = some (.cells #[.bool nb, .string sb] 38) := by rw [hW0]; repeat (first | (refine alloc_last _ _ ?_; simp only [World.size_alloc]; done) | (rw [Below.heap_alloc]; rotate_left; (simp only [World.size_alloc]; omega)))
  have g2 : W0.heap[w.heap.size + 1 + 1]? = some (.cells #[.bool false, .string ⟨#[]⟩] 38) := by rw [hW0]; repeat (first | (refine alloc_last _ _ ?_; simp only [World.size_alloc]; done) | (rw [Below.heap_alloc]; rotate_left; (simp only [World.size_alloc]; omega)))
  have hb0 : Below w.heap.size w W0 := by rw [hW0]; exact ((((Below.refl _ w).alloc (Nat.le_refl _) _).alloc (by simp) _).alloc (by simp; omega) _)
  have HB0 := Lib.hid hb0
  have HG0 := Lib.hid g0
  have HG1 := Lib.hid g1
  have HG2 := Lib.hid g2
  obtain ⟨c00, c01, f0⟩ := wide_cells g0
  obtain ⟨c10, c11, f1⟩ := wide_cells g1
  have HW0 := Lib.hid hW0
  clear hb0 g0 g1 g2 hW0
  have HVAL : Hid (∀ W : World, Calls Try.prog 52 #[.agg #[.bool na, .string sa]] W fun e w' => e = .returned (.bool (validB na sa)) ∧ Below W.heap.size W w') := Valid_wide na sa hsa
  have HPOS : Hid (∀ W : World, Calls Try.prog 96 #[.agg #[.bool nb, .string sb]] W fun e w' => e = .returned (.bool (posB nb sb)) ∧ Below W.heap.size W w') := positive_any nb sb hsb
  obtain ⟨okv, hov⟩ : ∃ ok, ok = validB na sa := ⟨_, rfl⟩
  obtain ⟨okp, hop⟩ : ∃ ok, ok = posB nb sb := ⟨_, rfl⟩
  rw [← hov] at HVAL
  rw [← hop] at HPOS
  have HOV := Lib.hid hov
  have HOP := Lib.hid hop
  clear hov hop
  go_enter Try.func82, Try.ntmps82
  go_upto_region 1 with (fail)
  rw [← HW0.out]
  go_wp2_with fail
  (with_reducible refine (HVAL.out _).mono ?_)
  rintro e w1 ⟨rfl, hb1⟩
  have k0 := (hb1.block _ (lt_of_heap HG0.out)).trans HG0.out
  have k1 := (hb1.block _ (lt_of_heap HG1.out)).trans HG1.out
  have k2 := (hb1.block _ (lt_of_heap HG2.out)).trans HG2.out
  have HBw1 := Lib.hid (HB0.out.trans (hb1.mono HB0.out.size))
  clear c00 c01 f0 c10 c11 f1 hb1
  cases okv with
  | false =>
    obtain ⟨c20, c21, f2⟩ := wide_cells k2
    have HK2 := Lib.hid k2
    clear k0 k1 k2
    have hres : Hid (balF na sa nb sb = (emptyW, 2)) := by show _ = _; unfold balF; rw [← HOV.out]; rfl
    go_wp2
    have m2 := wide_set HK2.out false ⟨#[]⟩
    have hb9 := below_set2 (p := w.heap.size + 1 + 1) HBw1.out (by omega) false ⟨#[]⟩
    obtain ⟨d20, d21, -⟩ := wide_cells m2
    clear m2
    generalize (w1.setCell ⟨w.heap.size + 1 + 1, 0, none⟩ (.bool false)).setCell ⟨w.heap.size + 1 + 1, 1, none⟩ (.string ⟨#[]⟩) = W9 at d20 d21 hb9 ⊢
    rw [HP.out]
    exact bodyPost_ret (v := .tuple #[emptyW, .int .i64 2]) (by simp [results, Try.results82, go_sem, d20, d21]; rfl) rfl ⟨by rw [hres.out], hb9⟩
  | true =>
    obtain ⟨c10, c11, f1⟩ := wide_cells k1
    have HK0 := Lib.hid k0
    have HK1 := Lib.hid k1
    have HK2 := Lib.hid k2
    clear k0 k1 k2
    go_wp2_with fail
    (with_reducible refine (HPOS.out _).mono ?_)
    rintro e w2 ⟨rfl, hb2⟩
    have k0 := (hb2.block _ (lt_of_heap HK0.out)).trans HK0.out
    have k1 := (hb2.block _ (lt_of_heap HK1.out)).trans HK1.out
    have k2 := (hb2.block _ (lt_of_heap HK2.out)).trans HK2.out
    have HBw2 := Lib.hid (HBw1.out.trans (hb2.mono HBw1.out.size))
    clear c10 c11 f1 hb2
    cases okp with
    | false =>
      obtain ⟨c20, c21, f2⟩ := wide_cells k2
      have HK22 := Lib.hid k2
      clear k0 k1 k2
      have hres : Hid (balF na sa nb sb = (emptyW, 2)) := by show _ = _; unfold balF; rw [← HOV.out, ← HOP.out]; rfl
      go_wp2
      have m2 := wide_set HK22.out false ⟨#[]⟩
      have hb9 := below_set2 (p := w.heap.size + 1 + 1) HBw2.out (by omega) false ⟨#[]⟩
      obtain ⟨d20, d21, -⟩ := wide_cells m2
      clear m2
      generalize (w2.setCell ⟨w.heap.size + 1 + 1, 0, none⟩ (.bool false)).setCell ⟨w.heap.size + 1 + 1, 1, none⟩ (.string ⟨#[]⟩) = W9 at d20 d21 hb9 ⊢
      rw [HP.out]
      exact bodyPost_ret (v := .tuple #[emptyW, .int .i64 2]) (by simp [results, Try.results82, go_sem, d20, d21]; rfl) rfl ⟨by rw [hres.out], hb9⟩
    | true =>
      have hp := HOP.out
      unfold posB at hp
      have hv1 : validB nb sb = true := by cases h : validB nb sb <;> rw [h] at hp <;> first | rfl | cases hp
      rw [hv1, Bool.true_and] at hp
      have hp2 : sb.size ≠ 0 ∧ nb = false := by
        have h := hp.symm
        rw [Bool.and_eq_true, decide_eq_true_eq] at h
        exact ⟨h.1, by cases nb with
          | false => rfl
          | true => cases h.2⟩
      obtain ⟨h0, hnb⟩ := hp2
      subst hnb
      obtain ⟨l1, -, -, s256a⟩ := valid_spec na sa HOV.out.symm
      obtain ⟨l2, hmg, -, s256b⟩ := valid_spec false sb hv1
      have hofA : Hid (∀ W : World, Calls Try.prog 78 #[.agg #[.bool na, .string sa]] W (NumRet W (numB sa))) := of_wide na sa (by omega)
      have hofB : Hid (∀ W : World, Calls Try.prog 78 #[.agg #[.bool false, .string sb]] W (NumRet W (numB sb))) := of_wide false sb (by omega)
      have hD2 := hD HOV.out.symm hv1 h0
      have hB0 : numB sb ≠ 0 := by
        intro h
        rw [h] at hmg
        exact h0 (by rw [← hmg]; rfl)
      have hwa := wd_len65 l1
      have hwb := wd_len65 l2
      have hres : balF na sa false sb = (outZ (balZ (zV na sa) (zV false sb)), errZ (balZ (zV na sa) (zV false sb))) := by
        unfold balF; rw [← HOV.out, ← HOP.out]; rfl
      unfold zV at hres
      obtain ⟨A, hA⟩ : ∃ A, A = numB sa := ⟨_, rfl⟩
      obtain ⟨C, hC⟩ : ∃ C, C = numB sb := ⟨_, rfl⟩
      rw [← hA, ← hC] at hres
      rw [← hA] at hofA hwa
      rw [← hC] at hofB hB0 hwb
      rw [← hA, ← hC] at hD2
      obtain ⟨-, fz2⟩ := floor_z A na C false hB0
      have HFL : Hid (∀ (va vb : Value) (W : World), World.numR W va A → World.numR W vb C → Calls Try.prog 97 #[va, .bool na, vb, .bool false] W (FloorRet W A na C false)) := fun va vb W h1 h2 => floor_any A C na false hB0 hD2 (by omega) (by omega) va vb W h1 h2
      obtain ⟨r, hr⟩ : ∃ r, r = floorR A na C := ⟨_, rfl⟩
      have hrC : r < C := by
        rw [hr]
        have h3 := Nat.mod_lt A (show 0 < C by omega)
        unfold floorR
        split <;> omega
      have hwr : (wd r).length ≤ 64 := wd_len_le (Nat.le_of_lt hrC) hwb
      have hbz : balZ (zOf na A) (zOf false C) = if C < r * 2 ^ 1 then -((C - r : Nat) : Int) else (r : Int) := by
        unfold balZ
        rw [← fz2, ← hr, zOf_false]
        by_cases h : C < r * 2 ^ 1
        · rw [if_pos h, if_pos (by omega)]; omega
        · rw [if_neg h, if_neg (by omega)]
      rw [hbz] at hres
      have HRES := Lib.hid hres
      have HRR := Lib.hid hr
      obtain ⟨c00, c01, f0⟩ := wide_cells k0
      obtain ⟨c10, c11, f1⟩ := wide_cells k1
      have hl0 := lt_of_heap k0
      have hl1 := lt_of_heap k1
      have HK02 := Lib.hid k0
      have HK22 := Lib.hid k2
      have HWR := Lib.hid hwr
      have HWB := Lib.hid hwb
      clear hres hD2 hB0 hwa hwb hwr fz2 hA hC hmg l1 l2 h0 hr hbz k0 k1 k2 hv1 hp
      go_wp2_with fail
      (with_reducible refine (hofB.out _).mono ?_)
      rintro e w3 hy
      obtain ⟨vy, rfl, hoy, hby⟩ := hy
      have HY : Hid (World.numR w3 vy C) := hoy.reads
      obtain ⟨ay, cy, rfl⟩ := numR_shape HY.out
      have d0 := (hby.cell (p := ⟨w.heap.size, 0, none⟩) hl0).trans c00
      have d1 := (hby.cell (p := ⟨w.heap.size, 1, none⟩) hl0).trans c01
      have hm0 := Nat.lt_of_lt_of_le hl0 hby.size
      have HK23 := Lib.hid ((hby.block _ (lt_of_heap HK22.out)).trans HK22.out)
      have HBw3 := Lib.hid (HBw2.out.trans (hby.mono HBw2.out.size))
      clear hoy hby c00 c01 f0 c10 c11 f1 hl0 hl1
      go_wp2_with fail
      go_region_held3 (fun w' => (w'.cell? ⟨w.heap.size, 0, none⟩ = some (.bool na) ∧ w'.cell? ⟨w.heap.size, 1, none⟩ = some (.string sa)))
        (first | exact ⟨d0, d1⟩ | (refine ⟨?_, ?_⟩ <;> assumption))
        (first
          | (go_simp; go_at_call 78; (with_reducible refine (hofA.out _).mono ?_); rintro e w5 ⟨v5, rfl, ho5, hb5⟩; have H5 : Hid (NumRet _ A (.returned v5) w5) := ⟨v5, rfl, ho5, hb5⟩; have a0 := (hb5.cell (p := ⟨w.heap.size, 0, none⟩) hm0).trans d0; have a1 := (hb5.cell (p := ⟨w.heap.size, 1, none⟩) hm0).trans d1; have hn0 := Nat.lt_of_lt_of_le hm0 hb5.size; clear ho5 hb5)
          | (go_simp; go_at_call 97; (with_reducible refine (HFL.out _ _ _ H5.out.numR (numR_below HY.out H5.out.belD)).mono ?_); rintro e w7 ⟨v7, u7, rfl, hq7, hr7, hb7⟩; have HQ7 : Hid (World.numR w7 v7 (floorN A na C)) := hq7; have HR7 : Hid (World.numR w7 u7 (floorR A na C)) := hr7; have HB7 := Lib.hid hb7; have b0 := (hb7.cell (p := ⟨w.heap.size, 0, none⟩) hn0).trans a0; have b1 := (hb7.cell (p := ⟨w.heap.size, 1, none⟩) hn0).trans a1; clear hq7 hr7 hb7))
      have hb35 := H5.out.belD
      have hb37 : Below w3.heap.size w3 w7 := hb35.trans (HB7.out.mono hb35.size)
      have HY7 := Lib.hid (numR_below HY.out hb37)
      have HK27 := Lib.hid ((hb37.block _ (lt_of_heap HK23.out)).trans HK23.out)
      have HBw7 := Lib.hid (HBw3.out.trans (hb37.mono HBw3.out.size))
      rw [← HRR.out] at HR7
      obtain ⟨a7, c7, rfl⟩ := numR_shape HQ7.out
      obtain ⟨a8, c8, rfl⟩ := numR_shape HR7.out
      have hlr := left_num r 1 (by omega) _ w7 HR7.out (by have := HWR.out; omega) 1 rfl
      have HLR := Lib.hid hlr
      clear hb35 hb37 a0 a1 b0 b1 d0 d1 hm0 hn0 hlr
      go_wp2_with fail
      (with_reducible refine (HLR.out).mono ?_)
      rintro e w8 hr8
      obtain ⟨v8, rfl, ho8, hb8⟩ := hr8
      have HN8 : Hid (World.numR w8 v8 (r * 2 ^ 1)) := ho8.reads
      have HY8 := Lib.hid (numR_below HY7.out hb8)
      have HR8 := Lib.hid (numR_below HR7.out hb8)
      have HK28 := Lib.hid ((hb8.block _ (lt_of_heap HK27.out)).trans HK27.out)
      have HBw8 := Lib.hid (HBw7.out.trans (hb8.mono HBw7.out.size))
      have hcmp := compare_num (r * 2 ^ 1) C _ _ w8 HN8.out HY8.out (by have := wd_len_double HWR.out; omega) (by have := HWB.out; omega)
      obtain ⟨T, hT⟩ : ∃ T, T = cmpN (r * 2 ^ 1) C := ⟨_, rfl⟩
      rw [← hT] at hcmp
      have HCMP := Lib.hid hcmp
      clear ho8 hb8 hcmp
      by_cases hlt : C < r * 2 ^ 1
      · have ht1 : T = 1 := by rw [hT, cmpN, if_neg (by omega), if_pos hlt]
        have hres : Hid (balF na sa false sb = (outZ (zOf true (C - r)), errZ (zOf true (C - r)))) := by show _ = _; rw [HRES.out, if_pos hlt]; rfl
        subst ht1
        clear hT hlt
        go_wp2_with fail
        (with_reducible refine (HCMP.out).mono ?_)
        rintro e w9 ⟨rfl, n9, rfl⟩
        have hmin := minus_any C r (Nat.le_of_lt hrC) _ _ (w8.drewN n9) (reads_drewN HY8.out n9) (reads_drewN HR8.out n9) (by have := HWB.out; omega) (by have := HWR.out; omega)
        have HMIN := Lib.hid hmin
        clear hmin
        go_wp2_with fail
        (with_reducible refine (HMIN.out).mono ?_)
        rintro e w10 hr10
        obtain ⟨v10, rfl, ho10, hb10⟩ := hr10
        have HN10 : Hid (World.numR w10 v10 (C - r)) := ho10.reads
        have HK210 := Lib.hid ((hb10.block _ (show w.heap.size + 1 + 1 < (w8.drewN n9).heap.size from lt_of_heap HK28.out)).trans HK28.out)
        have HBw10 : Hid (Below w.heap.size w w10) := (below_drewN HBw8.out n9).trans (hb10.mono (show w.heap.size ≤ (w8.drewN n9).heap.size from HBw8.out.size))
        clear ho10 hb10
        obtain ⟨fb, ft, hf1, hf2⟩ := form_numZ (C - r) true v10 w10 HN10.out (by have := wd_len_le (show C - r ≤ C by omega) HWB.out; omega)
        have HF := Lib.hid hf2
        rw [hf1] at hres
        obtain ⟨E, hE⟩ : ∃ E, E = errZ (zOf true (C - r)) := ⟨_, rfl⟩
        rw [← hE] at HF hres
        clear hf1 hf2 hE
        go_wp2_with fail
        (with_reducible refine (HF.out).mono ?_)
        rintro e w11 ⟨rfl, hb11⟩
        have k2 := (hb11.block _ (lt_of_heap HK210.out)).trans HK210.out
        have HBw11 := Lib.hid (HBw10.out.trans (hb11.mono HBw10.out.size))
        obtain ⟨c20, c21, f2⟩ := wide_cells k2
        have HK211 := Lib.hid k2
        clear k2 hb11
        go_wp2
        have m2 := wide_set HK211.out fb ft
        have hb9 := below_set2 (p := w.heap.size + 1 + 1) HBw11.out (by omega) fb ft
        obtain ⟨d20, d21, -⟩ := wide_cells m2
        clear m2
        generalize (w11.setCell ⟨w.heap.size + 1 + 1, 0, none⟩ (.bool fb)).setCell ⟨w.heap.size + 1 + 1, 1, none⟩ (.string ft) = W9 at d20 d21 hb9 ⊢
        rw [HP.out]
        exact bodyPost_ret (v := .tuple #[.agg #[.bool fb, .string ft], .int .i64 E]) (by simp [results, Try.results82, go_sem, d20, d21]) rfl ⟨by rw [hres.out], hb9⟩
      · have ht1 : T = 0 ∨ T = -1 := by
          rw [hT, cmpN]
          by_cases h : r * 2 ^ 1 < C
          · rw [if_pos h]; exact Or.inr rfl
          · rw [if_neg h, if_neg hlt]; exact Or.inl rfl
        have ht2 : ¬ 0 < T := by omega
        have hres : Hid (balF na sa false sb = (outZ (zOf false r), errZ (zOf false r))) := by show _ = _; rw [HRES.out, if_neg hlt]; rfl
        clear hT hlt ht1
        go_wp2_with fail
        (with_reducible refine (HCMP.out).mono ?_)
        rintro e w9 ⟨rfl, n9, rfl⟩
        obtain ⟨fb, ft, hf1, hf2⟩ := form_numZ r false _ (w8.drewN n9) (numR_drewN HR8.out n9) (by have := HWR.out; omega)
        have HF := Lib.hid hf2
        rw [hf1] at hres
        obtain ⟨E, hE⟩ : ∃ E, E = errZ (zOf false r) := ⟨_, rfl⟩
        rw [← hE] at HF hres
        have HK29 : Hid ((w8.drewN n9).heap[w.heap.size + 1 + 1]? = some (.cells #[.bool false, .string ⟨#[]⟩] 38)) := HK28.out
        have HBw9 : Hid (Below w.heap.size w (w8.drewN n9)) := below_drewN HBw8.out n9
        clear hf1 hf2 hE
        go_wp2_with fail
        (with_reducible refine (HF.out).mono ?_)
        rintro e w11 ⟨rfl, hb11⟩
        have k2 := (hb11.block _ (lt_of_heap HK29.out)).trans HK29.out
        have HBw11 := Lib.hid (HBw9.out.trans (hb11.mono HBw9.out.size))
        obtain ⟨c20, c21, f2⟩ := wide_cells k2
        have HK211 := Lib.hid k2
        clear k2 hb11
        go_wp2
        have m2 := wide_set HK211.out fb ft
        have hb9 := below_set2 (p := w.heap.size + 1 + 1) HBw11.out (by omega) fb ft
        obtain ⟨d20, d21, -⟩ := wide_cells m2
        clear m2
        generalize (w11.setCell ⟨w.heap.size + 1 + 1, 0, none⟩ (.bool fb)).setCell ⟨w.heap.size + 1 + 1, 1, none⟩ (.string ft) = W9 at d20 d21 hb9 ⊢
        rw [HP.out]
        exact bodyPost_ret (v := .tuple #[.agg #[.bool fb, .string ft], .int .i64 E]) (by simp [results, Try.results82, go_sem, d20, d21]) rfl ⟨by rw [hres.out], hb9⟩
end Go.Proofs.Ytnjblppapmflhaa

/- Walks: a form shifted to the left. -/
namespace Go.Proofs.Ytnjblppapmflhaa
set_option linter.all false
open Go.RowKit Go.Shelf Go.WideNum
end Go.Proofs.Ytnjblppapmflhaa

/- Walks: the calls that each law makes at its end. -/
namespace Go.Proofs.Ytnjblppapmflhaa
set_option linter.all false
open Go.RowKit Go.Shelf Go.WideNum
theorem below_viaD {a b c : World} (h : Below a.heap.size a b) (k : Below b.drew.heap.size b.drew c) : Below a.heap.size a c := (h.drew).trans (k.mono h.size)
theorem sh_of (n : Int) (v : Value) (h1 : -9223372036854775808 ≤ n) (h2 : n < 9223372036854775808) (hv : outZ n = v) (W : World) : Calls Try.prog 37 #[.int .i64 n] W fun e w' => e = .returned v ∧ Below W.heap.size W w' := by
  have h := Of_any n h1 h2 W
  rwa [hv] at h
theorem small_len (n : Nat) (h : n < 4294967296) : (wd n).length ≤ 2000 := by
  have := words_length (B := 4294967296) (by omega) n 1 (by omega)
  unfold wd; omega
theorem sh_bal (W : World) : Calls Try.prog 82 #[.agg #[.bool false, .string ⟨#[7]⟩], .agg #[.bool false, .string ⟨#[4]⟩]] W fun e w' => e = .returned (.tuple #[.agg #[.bool true, .string ⟨#[1]⟩], .int .i64 0]) ∧ Below W.heap.size W w' := by
  have h := Balanced_any false ⟨#[7]⟩ false ⟨#[4]⟩ (by decide) (by decide) (fun _ _ _ => by
    have e1 : numB ⟨#[7]⟩ = 7 := by kernel_rfl
    have e2 : numB ⟨#[4]⟩ = 4 := by kernel_rfl
    rw [e1, e2]
    exact divide_small 7 4 (by omega) (Or.inr (by omega)) (small_len 7 (by omega)) (small_len 4 (by omega))) W
  have e : balF false ⟨#[7]⟩ false ⟨#[4]⟩ = (.agg #[.bool true, .string ⟨#[1]⟩], 0) := by kernel_rfl
  rw [e] at h
  exact h
theorem shl_out (k : Nat) (hk : k = 8 * 256) : ¬ (zOf false (1 * 2 ^ k)).natAbs < lim := by
  rw [zOf_natAbs]
  unfold lim
  have h : ∀ m : Nat, 256 ^ m = 2 ^ (8 * m) := fun m => by rw [Nat.pow_mul]
  rw [h, ← hk, Nat.one_mul]
  exact Nat.lt_irrefl _
end Go.Proofs.Ytnjblppapmflhaa

/- Walks: two forms compared. -/
namespace Go.Proofs.Ytnjblppapmflhaa
set_option linter.all false
open Go.RowKit Go.Shelf Go.WideNum
def cmpZ (a b : Int) : Int := if a < b then -1 else if b < a then 1 else 0
def cmpF (na : Bool) (sa : ByteArray) (nb : Bool) (sb : ByteArray) : Int × Int := if validB na sa && validB nb sb then (cmpZ (zV na sa) (zV nb sb), 0) else (0, 2)
theorem cmp_same (neg : Bool) (A C : Nat) : (if neg then -cmpN A C else cmpN A C) = cmpZ (zOf neg A) (zOf neg C) := by
  unfold cmpN cmpZ zOf
  cases neg
  · simp only [Bool.false_eq_true, if_false]
    by_cases h1 : A < C
    · rw [if_pos h1, if_pos (by omega)]
    · rw [if_neg h1, if_neg (show ¬ (A : Int) < (C : Int) by omega)]
      by_cases h2 : C < A
      · rw [if_pos h2, if_pos (by omega)]
      · rw [if_neg h2, if_neg (by omega)]
  · simp only [if_true]
    by_cases h1 : A < C
    · rw [if_pos h1, if_neg (by omega), if_pos (by omega)]; rfl
    · by_cases h2 : C < A
      · rw [if_neg h1, if_pos h2, if_pos (by omega)]
      · rw [if_neg h1, if_neg h2, if_neg (by omega), if_neg (by omega)]; rfl
theorem cmp_other (na nb : Bool) (h : na ≠ nb) (A C : Nat) (ha : na = true → A ≠ 0) (hc : nb = true → C ≠ 0) : (if na then (-1 : Int) else 1) = cmpZ (zOf na A) (zOf nb C) := by
  unfold cmpZ zOf
  cases na <;> cases nb
  · exact absurd rfl h
  · have := hc rfl
    simp only [Bool.false_eq_true, if_false, if_true]
    rw [if_neg (by omega), if_pos (by omega)]
  · have := ha rfl
    simp only [Bool.false_eq_true, if_false, if_true]
    rw [if_pos (by omega)]
  · exact absurd rfl h
theorem cmpN_bd (A C : Nat) : -1 ≤ cmpN A C ∧ cmpN A C ≤ 1 := by unfold cmpN; split <;> (try split) <;> omega
end Go.Proofs.Ytnjblppapmflhaa

/- Plain: a text leads back to the integer, and the integer to the text. -/
namespace Go.Proofs.Ytnjblppapmflhaa
set_option linter.all false
open Go.WideNum
def digs (d : List UInt8) : List Nat := d.reverse.map (fun c => c.toNat - 48)
theorem decV_digs (d : List UInt8) : decV d = valW 10 (digs d) := by
  have : ∀ r : List UInt8, decV r.reverse = valW 10 (r.map (fun c => c.toNat - 48)) := by
    intro r
    induction r with
    | nil => rfl
    | cons c r ih => rw [List.reverse_cons, decV_snoc, ih, List.map_cons, valW]; omega
  have h := this d.reverse
  rwa [List.reverse_reverse] at h
theorem isDig_spec {c : UInt8} (h : isDig c = true) : 48 ≤ c.toNat ∧ c.toNat ≤ 57 := of_decide_eq_true h
theorem digs_words (d : List UInt8) (h : ∀ c ∈ d, isDig c = true) (hh : d.head? ≠ some 48) : words 10 (decV d) = digs d := by
  rw [decV_digs]
  refine words_val (by omega) (digs d) (fun x hx => ?_) (fun x hx h0 => ?_) _ (Nat.le_refl _)
  · unfold digs at hx
    obtain ⟨c, hc, rfl⟩ := List.mem_map.1 hx
    have := isDig_spec (h c (List.mem_reverse.1 hc))
    show c.toNat - 48 < 10
    omega
  · unfold digs at hx
    rw [List.getLast?_map, List.getLast?_reverse] at hx
    cases hl : d.head? with
    | none => rw [hl] at hx; cases hx
    | some c =>
      rw [hl] at hx
      injection hx with hx
      have hcm : c ∈ d := by
        cases d with
        | nil => cases hl
        | cons a l => injection hl with hl; rw [hl]; simp
      have := isDig_spec (h c hcm)
      apply hh
      rw [hl]
      congr 1
      apply UInt8.toNat_inj.1
      show c.toNat = 48
      have hx' : c.toNat - 48 = x := hx
      omega
theorem undigs (d : List UInt8) (h : ∀ c ∈ d, isDig c = true) : ((digs d).map (fun x => 48 + x)).reverse.map UInt8.ofNat = d := by
  unfold digs
  rw [List.map_map, ← List.map_reverse, List.reverse_reverse, List.map_map]
  have : ∀ l : List UInt8, (∀ c ∈ l, isDig c = true) → l.map (UInt8.ofNat ∘ ((fun x => 48 + x) ∘ fun c => c.toNat - 48)) = l := by
    intro l
    induction l with
    | nil => intro _; rfl
    | cons c l ih =>
      intro h
      have hc := isDig_spec (h c (by simp))
      rw [List.map_cons, ih (fun x hx => h x (by simp [hx]))]
      congr 1
      show UInt8.ofNat (48 + (c.toNat - 48)) = c
      rw [show 48 + (c.toNat - 48) = c.toNat by omega]
      simp
  exact this d h
/-- The digits of a number as text. -/
def numT (n : Nat) : List UInt8 := ((words 10 n).map (fun x => 48 + x)).reverse.map UInt8.ofNat
theorem textL_eq (neg : Bool) (n : Nat) (hn : n ≠ 0) : textL neg n = (if neg then [45] else []) ++ numT n := by
  unfold textL textN numT
  rw [if_neg hn, decDig_words, List.reverse_append, List.map_append]
  cases neg <;> rfl
theorem numT_dig (n : Nat) : ∀ c ∈ numT n, isDig c = true := by
  intro c hc
  unfold numT at hc
  obtain ⟨x, hx, rfl⟩ := List.mem_map.1 hc
  obtain ⟨y, hy, rfl⟩ := List.mem_map.1 (List.mem_reverse.1 hx)
  have := words_lt (B := 10) (by omega) n n y hy
  unfold isDig
  apply decide_eq_true
  rw [UInt8.toNat_ofNat']
  show 48 ≤ (48 + y) % 256 ∧ (48 + y) % 256 ≤ 57
  omega
theorem numT_digs (n : Nat) : digs (numT n) = words 10 n := by
  unfold digs numT
  rw [← List.map_reverse, List.reverse_reverse, List.map_map, List.map_map]
  have : ∀ l : List Nat, (∀ x ∈ l, x < 10) → l.map ((fun c : UInt8 => c.toNat - 48) ∘ (UInt8.ofNat ∘ fun x => 48 + x)) = l := by
    intro l
    induction l with
    | nil => intro _; rfl
    | cons x l ih =>
      intro h
      have hx := h x (by simp)
      rw [List.map_cons, ih (fun y hy => h y (by simp [hy]))]
      congr 1
      show (UInt8.ofNat (48 + x)).toNat - 48 = x
      rw [UInt8.toNat_ofNat']
      show (48 + x) % 256 - 48 = x
      omega
  exact this _ (words_lt (by omega) _ _)
theorem numT_decV (n : Nat) : decV (numT n) = n := by rw [decV_digs, numT_digs]; exact val_words (by omega) n n (Nat.le_refl _)
theorem numT_length (n : Nat) : (numT n).length = (words 10 n).length := by simp [numT]
theorem numT_head (n : Nat) (hn : n ≠ 0) : ∃ c, (numT n).head? = some c ∧ 49 ≤ c.toNat ∧ c.toNat ≤ 57 := by
  have h1 := words_trimmed (B := 10) (by omega) n n (Nat.le_refl _)
  have h0 : ¬ (words 10 n).length = 0 := fun h => hn ((words_len0 (B := 10) (by omega) n).1 h)
  cases hl : (words 10 n).getLast? with
  | none =>
    have := List.getLast?_eq_none_iff.1 hl
    rw [this] at h0; exact absurd rfl h0
  | some x =>
    have hx0 := h1 x hl
    have hx10 := words_lt (B := 10) (by omega) n n x (List.mem_of_getLast? hl)
    refine ⟨UInt8.ofNat (48 + x), ?_, ?_⟩
    · unfold numT
      rw [List.head?_map, List.head?_reverse, List.getLast?_map, hl]; rfl
    · rw [UInt8.toNat_ofNat']
      show 49 ≤ (48 + x) % 256 ∧ (48 + x) % 256 ≤ 57
      omega
theorem lim617 : lim < 10 ^ 617 := by unfold lim; decide +kernel
theorem numT_len {n : Nat} (h : n < lim) : (numT n).length ≤ 617 := by
  rw [numT_length]
  exact words_length (by omega) n 617 (Nat.lt_trans h lim617)
theorem zero_read : readZ (textL false 0) = (outZ (zOf false 0), errZ (zOf false 0)) := by kernel_rfl
/-- Read of the text. -/
theorem read_text (neg : Bool) (n : Nat) (hn : n < lim) (hz : neg = true → n ≠ 0) : readZ (textL neg n) = (outZ (zOf neg n), errZ (zOf neg n)) := by
  by_cases h0 : n = 0
  · subst h0
    have hneg : neg = false := by cases neg with
      | false => rfl
      | true => exact absurd rfl (hz rfl)
    subst hneg
    clear hz hn
    show readZ (textL false 0) = (outZ (zOf false 0), errZ (zOf false 0))
    exact zero_read
  · obtain ⟨c, hc1, hc2, hc3⟩ := numT_head n h0
    have hrn : readNeg (textL neg n) = neg ∧ readDig (textL neg n) = numT n := by
      rw [textL_eq neg n h0]
      unfold readDig readNeg
      cases neg with
      | true => exact ⟨rfl, rfl⟩
      | false =>
        simp only [Bool.false_eq_true, if_false, List.nil_append, hc1]
        have : (some c == some (45 : UInt8)) = false := by
          rw [beq_eq_false_iff_ne]
          intro h
          injection h with h
          rw [h] at hc2
          exact absurd hc2 (by decide)
        rw [this]
        exact ⟨rfl, rfl⟩
    unfold readZ
    rw [hrn.1, hrn.2]
    unfold digRes
    have hb : headBad neg (numT n) = false := by
      unfold headBad
      rw [hc1]
      have : (some c == some (48 : UInt8)) = false := by
        rw [beq_eq_false_iff_ne]
        intro h
        injection h with h
        rw [h] at hc2
        exact absurd hc2 (by decide)
      rw [this]
      cases hl : numT n with
      | nil => rw [hl] at hc1; cases hc1
      | cons a l => rfl
    rw [hb, List.all_eq_true.2 (numT_dig n), if_neg (by decide), if_neg (by have := numT_len hn; omega), numT_decV]
/-- The text of what is read. -/
theorem text_read (l : List UInt8) (h : (readZ l).2 = 0) : ∃ neg n, (readZ l).1 = wideV neg (magB n) ∧ n < lim ∧ (neg = true → n ≠ 0) ∧ textL neg n = l := by
  unfold readZ at h ⊢
  obtain ⟨neg, hneg⟩ : ∃ b, b = readNeg l := ⟨_, rfl⟩
  obtain ⟨d, hd⟩ : ∃ d, d = readDig l := ⟨_, rfl⟩
  have hl : l = (if neg then [45] else []) ++ d := by
    rw [hd, hneg]
    unfold readDig
    by_cases hb : readNeg l = true
    · rw [hb, if_pos rfl, if_pos rfl]
      unfold readNeg at hb
      cases l with
      | nil => cases hb
      | cons a t =>
        have : a = 45 := by simpa using hb
        rw [this]; rfl
    · have hb2 : readNeg l = false := by simpa using hb
      rw [hb2]; rfl
  rw [← hneg, ← hd] at h ⊢
  unfold digRes at h ⊢
  by_cases hbad : (headBad neg d || !d.all isDig) = true
  · rw [if_pos hbad] at h; cases h
  · rw [if_neg hbad] at h ⊢
    by_cases hlen : 617 < d.length
    · rw [if_pos hlen] at h; cases h
    · rw [if_neg hlen] at h ⊢
      have hb2 : headBad neg d = false ∧ d.all isDig = true := by
        cases h1 : headBad neg d <;> cases h2 : d.all isDig <;> rw [h1, h2] at hbad <;> simp at hbad ⊢
      obtain ⟨hb, hall⟩ := hb2
      have hdig := List.all_eq_true.1 hall
      have hlim : (zOf neg (decV d)).natAbs < lim := by
        rcases Nat.lt_or_ge (zOf neg (decV d)).natAbs lim with h1 | h1
        · exact h1
        · exfalso
          have := (outZ_out (zOf neg (decV d)) (by omega)).2
          rw [this] at h
          cases h
      have ho := (outZ_in _ hlim).1
      rw [zOf_natAbs] at hlim
      rw [zOf_natAbs, zOf_neg] at ho
      have hne : d ≠ [] := by
        intro h0
        rw [h0] at hb
        cases hb
      obtain ⟨c, t, hct⟩ := List.exists_cons_of_ne_nil hne
      by_cases h48 : c = 48
      · have hs : neg = false ∧ d.length = 1 := by
          unfold headBad at hb
          rw [hct, h48] at hb
          simp only [List.isEmpty_cons, Bool.false_or, List.head?_cons] at hb
          have hb' : (neg || decide (1 < (48 :: t : List UInt8).length)) = false := by simpa using hb
          rw [Bool.or_eq_false_iff, decide_eq_false_iff_not] at hb'
          rw [hct]
          exact ⟨hb'.1, by have := hb'.2; simp at this ⊢; exact this⟩
        obtain ⟨rfl, hl1⟩ := hs
        have ht : t = [] := by rw [hct] at hl1; simpa using hl1
        have hd48 : d = [48] := by rw [hct, h48, ht]
        refine ⟨false, 0, ?_, lim_pos, by simp, ?_⟩
        · rw [hd48]; kernel_rfl
        · rw [hl, hd48]; rfl
      · have hhd : d.head? ≠ some 48 := by
          rw [hct]
          intro h1
          injection h1 with h1
          exact h48 h1
        have hw := digs_words d hdig hhd
        have hn0 : decV d ≠ 0 := by
          intro h0
          rw [h0] at hw
          have : (digs d).length = 0 := by rw [← hw]; rfl
          unfold digs at this
          rw [List.length_map, List.length_reverse] at this
          exact hne (List.eq_nil_of_length_eq_zero this)
        refine ⟨neg, decV d, ?_, hlim, fun _ => hn0, ?_⟩
        · show outZ _ = _
          rw [ho, decide_eq_true hn0, Bool.and_true]
        · rw [textL_eq neg _ hn0, hl]
          congr 1
          unfold numT
          rw [hw]
          exact undigs d hdig
theorem valid_magB (neg : Bool) (n : Nat) (h : n < lim) (hz : neg = true → n ≠ 0) : validB neg (magB n) = true ∧ numB (magB n) = n := by
  have hnum : numB (magB n) = n := by unfold numB magB; exact valM_magL n
  refine ⟨?_, hnum⟩
  unfold validB
  have hl := magL_length n
  by_cases h0 : n = 0
  · subst h0
    cases neg with
    | false => rfl
    | true => exact absurd rfl (hz rfl)
  · have hsz : (magB n).size = (words 256 n).length := by rw [← hl]; rfl
    have hw0 : ¬ (words 256 n).length = 0 := fun h => h0 ((words_len0 (B := 256) (by omega) n).1 h)
    rw [dif_neg (by rw [hsz]; exact hw0)]
    have h256 := (lim_iff n _ rfl).1 h
    rw [Bool.and_eq_true]
    refine ⟨decide_eq_true ?_, decide_eq_true (by rw [hsz]; exact h256)⟩
    intro hz0
    have htr := words_trimmed (B := 256) (by omega) n n (Nat.le_refl _)
    have hp : 0 < (magL n).length := by rw [hl]; omega
    have e1 : (magL n)[0] = 0 := hz0
    have e2 : (magL n).head? = some 0 := by rw [List.head?_eq_getElem?, List.getElem?_eq_getElem hp, e1]
    unfold magL at e2
    rw [List.head?_reverse, List.getLast?_map] at e2
    cases hg : (words 256 n).getLast? with
    | none => rw [hg] at e2; cases e2
    | some x =>
      rw [hg] at e2
      injection e2 with e2
      have hx := htr x hg
      have hx2 := words_lt (B := 256) (by omega) n n x (List.mem_of_getLast? hg)
      have : (UInt8.ofNat x).toNat = 0 := by
        have e3 : UInt8.ofNat x = 0 := e2
        rw [e3]; rfl
      rw [UInt8.toNat_ofNat'] at this
      have e4 : x % 256 = 0 := this
      omega
theorem cmpZ_facts (a b : Int) : cmpZ a b = -cmpZ b a ∧ -1 ≤ cmpZ a b ∧ cmpZ a b ≤ 1 ∧ (cmpZ a b = 0 ↔ a = b) := by
  unfold cmpZ
  rcases Int.lt_trichotomy a b with h | h | h
  · rw [if_pos h, if_neg (by omega), if_pos h]; omega
  · subst h; rw [if_neg (by omega), if_neg (by omega)]; simp
  · rw [if_neg (by omega), if_pos h, if_pos h]; omega
end Go.Proofs.Ytnjblppapmflhaa
