/- Helpers and walks, in one text. -/
import Derived.Test.YtkjlfjnncdkmlaaGreatPA3
set_option linter.all false
set_option maxRecDepth 100000
set_option maxHeartbeats 40000000
/- Walks: the product of two forms. -/
namespace Go.Proofs.YtkjlfjnncdkmlaaGreat
section
open Go.RowKit Go.Shelf Go.WideNum
theorem Mul_any (na : Bool) (sa : ByteArray) (nb : Bool) (sb : ByteArray) (hsa : sa.size ≤ maxLen) (hsb : sb.size ≤ maxLen) (w : World) :
  Calls Tryz.prog 45 #[.agg #[.bool na, .string sa], .agg #[.bool nb, .string sb]] w fun e w' => e = .returned (.tuple #[(opF (fun a b => a * b) na sa nb sb).1, .int .i64 (opF (fun a b => a * b) na sa nb sb).2]) ∧ Below w.heap.size w w' := by
 obtain ⟨HPOST, hpost⟩ : ∃ X : Ending → World → Prop, X = fun e w' => e = .returned (.tuple #[(opF (fun a b => a * b) na sa nb sb).1, .int .i64 (opF (fun a b => a * b) na sa nb sb).2]) ∧ Below w.heap.size w w' := ⟨_, rfl⟩
 rw [← hpost]
 have HP := Lib.hid hpost
 clear hpost
 obtain ⟨W0, hW0⟩ : ∃ W0, W0 = ((w.alloc (.cells #[.bool na, .string sa] 40)).alloc (.cells #[.bool nb, .string sb] 40)).alloc (.cells #[.bool false, .string ⟨#[]⟩] 40) := ⟨_, rfl⟩
 have g0 : W0.heap[w.heap.size]? = some (.cells #[.bool na, .string sa] 40) := by rw [hW0]; repeat (first | (refine alloc_last _ _ ?_; simp only [World.size_alloc]; done) | (rw [Below.heap_alloc]; rotate_left; (simp only [World.size_alloc]; omega)))
 have g1 : W0.heap[w.heap.size + 1]? = some (.cells #[.bool nb, .string sb] 40) := by rw [hW0]; repeat (first | (refine alloc_last _ _ ?_; simp only [World.size_alloc]; done) | (rw [Below.heap_alloc]; rotate_left; (simp only [World.size_alloc]; omega)))
 have g2 : W0.heap[w.heap.size + 1 + 1]? = some (.cells #[.bool false, .string ⟨#[]⟩] 40) := by rw [hW0]; repeat (first | (refine alloc_last _ _ ?_; simp only [World.size_alloc]; done) | (rw [Below.heap_alloc]; rotate_left; (simp only [World.size_alloc]; omega)))
 have hb0 : Below w.heap.size w W0 := by rw [hW0]; exact ((((Below.refl _ w).alloc (Nat.le_refl _) _).alloc (by simp) _).alloc (by simp; omega) _)
 have HB0 := Lib.hid hb0
 have HG0 := Lib.hid g0
 have HG1 := Lib.hid g1
 have HG2 := Lib.hid g2
 obtain ⟨c00, c01, f0⟩ := wide_cells g0
 obtain ⟨c10, c11, f1⟩ := wide_cells g1
 have HW0 := Lib.hid hW0
 clear hb0 g0 g1 g2 hW0
 go_enter Tryz.func45, Tryz.ntmps45
 go_upto_region 1 with (fail)
 rw [← HW0.out]
 go_wp2_with fail
 obtain ⟨ok, hok⟩ : ∃ ok, ok = (validB na sa && validB nb sb) := ⟨_, rfl⟩
 have hval := valid2_any na sa nb sb hsa hsb (W0.alloc (.cells #[.bool na, .string sa, .bool nb, .string sb] 40)) W0.heap.size (heap_alloc_new W0 _)
 rw [← hok] at hval
 have HOK := Lib.hid hok
 clear hok
 (with_reducible refine hval.mono ?_)
 clear hval
 rintro e w1 ⟨rfl, hb1⟩
 have hb01 : Below W0.heap.size W0 w1 := ((Below.refl _ W0).alloc (Nat.le_refl _) _).trans (hb1.mono (by simp))
 have k0 := (hb01.block _ (lt_of_heap HG0.out)).trans HG0.out
 have k1 := (hb01.block _ (lt_of_heap HG1.out)).trans HG1.out
 have k2 := (hb01.block _ (lt_of_heap HG2.out)).trans HG2.out
 have HK2 := Lib.hid k2
 have HBw1 := Lib.hid (HB0.out.trans (hb01.mono HB0.out.size))
 clear c00 c01 f0 c10 c11 f1 hb1
 obtain ⟨c00, c01, f0⟩ := wide_cells k0
 obtain ⟨c10, c11, f1⟩ := wide_cells k1
 obtain ⟨e20, e21, f2⟩ := wide_cells k2
 have hl0 := lt_of_heap k0
 have hl1 := lt_of_heap k1
 have hl2 := lt_of_heap k2
 clear k0 k1 k2 hb01
 cases ok with
 | false =>
  have hres : Hid (opF (fun a b => a * b) na sa nb sb = (emptyW, 2)) := by show _ = _; unfold opF; rw [← HOK.out]; rfl
  go_wp2
  have m2 := wide_set HK2.out false ⟨#[]⟩
  have hb9 := below_set2 (p := w.heap.size + 1 + 1) HBw1.out (by omega) false ⟨#[]⟩
  obtain ⟨d20, d21, -⟩ := wide_cells m2
  clear m2 e20 e21 f2
  generalize (w1.setCell ⟨w.heap.size + 1 + 1, 0, none⟩ (.bool false)).setCell ⟨w.heap.size + 1 + 1, 1, none⟩ (.string ⟨#[]⟩) = W9 at d20 d21 hb9 ⊢
  rw [HP.out]
  exact bodyPost_ret (v := .tuple #[emptyW, .int .i64 2]) (by simp [results, Tryz.results45, go_sem, d20, d21]; rfl) rfl ⟨by rw [hres.out], hb9⟩
 | true =>
  have hv : validB na sa = true ∧ validB nb sb = true := by
   have := HOK.out
   cases h1 : validB na sa <;> cases h2 : validB nb sb <;> rw [h1, h2] at this <;> first | exact ⟨rfl, rfl⟩ | cases this
  obtain ⟨l1, -, -, s256a⟩ := valid_spec na sa hv.1
  obtain ⟨l2, -, -, s256b⟩ := valid_spec nb sb hv.2
  have hofA : Hid (∀ W : World, Calls Tryz.prog 73 #[.agg #[.bool na, .string sa]] W (NumRet W (numB sa))) := of_wide na sa (by omega)
  have hofB : Hid (∀ W : World, Calls Tryz.prog 73 #[.agg #[.bool nb, .string sb]] W (NumRet W (numB sb))) := of_wide nb sb (by omega)
  have hwa := wd_len65 l1
  have hwb := wd_len65 l2
  have hres : opF (fun a b => a * b) na sa nb sb = (outZ ((fun a b => a * b) (zV na sa) (zV nb sb)), errZ ((fun a b => a * b) (zV na sa) (zV nb sb))) := by unfold opF; rw [← HOK.out]; rfl
  unfold zV at hres
  obtain ⟨A, hA⟩ : ∃ A, A = numB sa := ⟨_, rfl⟩
  obtain ⟨C, hC⟩ : ∃ C, C = numB sb := ⟨_, rfl⟩
  rw [← hA, ← hC] at hres
  rw [← hA] at hofA hwa
  rw [← hC] at hofB hwb
  have HSUM : Hid (∀ (va vb : Value) (W : World), World.numR W va A → World.numR W vb C → Calls Tryz.prog 72 #[va, vb] W fun e w' => (∃ v, e = .returned v ∧ World.numR w' v (A * C)) ∧ Below W.heap.size W w') := fun va vb W h1 h2 => times_num A C va vb W h1 h2 (by omega)
  obtain ⟨S, hS⟩ : ∃ S, S = (na != nb) := ⟨_, rfl⟩
  obtain ⟨M, hMM⟩ : ∃ M, M = A * C := ⟨_, rfl⟩
  have hML : (wd M).length ≤ 128 := by rw [hMM]; exact wd_len_prod hwa hwb
  rw [show (fun a b => a * b) (zOf na A) (zOf nb C) = zOf S M by rw [hS, hMM]; exact (mul_z A na C nb).symm] at hres
  rw [← hMM] at HSUM
  have hff : ∃ fb ft, outZ (zOf S M) = .agg #[.bool fb, .string ft] ∧ ∀ (v : Value) (W : World) (S' : Bool), World.numR W v M → S' = S → Calls Tryz.prog 68 #[v, .bool S'] W fun e w' => e = .returned (.tuple #[.agg #[.bool fb, .string ft], .int .i64 (errZ (zOf S M))]) ∧ Below W.heap.size W w' := by
   have hwide : ∃ b t, outB S M = .agg #[.bool b, .string t] := by unfold outB emptyW wideV; split <;> exact ⟨_, _, rfl⟩
   obtain ⟨b, t, hbt⟩ := hwide
   refine ⟨b, t, by rw [← outB_z]; exact hbt, fun v W S' h hS => ?_⟩
   subst hS
   obtain ⟨b', t', h1, h2⟩ := form_numZ M S' v W h (by omega)
   rw [← outB_z, hbt] at h1
   rwa [← h1] at h2
  obtain ⟨fb, ft, hf1, hf2⟩ := hff
  obtain ⟨E, hE⟩ : ∃ E, E = errZ (zOf S M) := ⟨_, rfl⟩
  rw [hf1, ← hE] at hres
  rw [← hE] at hf2
  have HFF := Lib.hid hf2
  have HRES := Lib.hid hres
  skip
  clear hres hf1 hf2 hE hA hC l1 l2 hwa hwb hv hML hMM
  go_wp2_with fail
  go_region_held3 (fun w' => (w'.cell? ⟨w.heap.size, 0, none⟩ = some (.bool na) ∧ w'.cell? ⟨w.heap.size, 1, none⟩ = some (.string sa) ∧ w'.cell? ⟨w.heap.size + 1, 0, none⟩ = some (.bool nb) ∧ w'.cell? ⟨w.heap.size + 1, 1, none⟩ = some (.string sb)))
   (first | exact ⟨c00, c01, c10, c11⟩ | (refine ⟨?_, ?_, ?_, ?_⟩ <;> assumption) | exact ⟨(World.cell?_of_block (a := ⟨w.heap.size, 0, none⟩) (wide_other (p := w.heap.size) (q := w.heap.size + 1 + 1) (by omega) fb ft)).trans q0, (World.cell?_of_block (a := ⟨w.heap.size, 1, none⟩) (wide_other (p := w.heap.size) (q := w.heap.size + 1 + 1) (by omega) fb ft)).trans q1, (World.cell?_of_block (a := ⟨w.heap.size + 1, 0, none⟩) (wide_other (p := w.heap.size + 1) (q := w.heap.size + 1 + 1) (by omega) fb ft)).trans q2, (World.cell?_of_block (a := ⟨w.heap.size + 1, 1, none⟩) (wide_other (p := w.heap.size + 1) (q := w.heap.size + 1 + 1) (by omega) fb ft)).trans q3⟩)
   (first
    | (go_simp; go_at_call 73; (with_reducible refine (hofA.out _).mono ?_); rintro e w5 ⟨v5, rfl, ho5, hb5⟩; have H5 : Hid (NumRet _ A (.returned v5) w5) := ⟨v5, rfl, ho5, hb5⟩; have a0 := (hb5.cell (p := ⟨w.heap.size, 0, none⟩) hl0).trans c00; have a1 := (hb5.cell (p := ⟨w.heap.size, 1, none⟩) hl0).trans c01; have a2 := (hb5.cell (p := ⟨w.heap.size + 1, 0, none⟩) hl1).trans c10; have a3 := (hb5.cell (p := ⟨w.heap.size + 1, 1, none⟩) hl1).trans c11; have ha0 := Nat.lt_of_lt_of_le hl0 hb5.size; have ha1 := Nat.lt_of_lt_of_le hl1 hb5.size;  clear ho5 hb5)
    | (go_simp; go_at_call 73; (with_reducible refine (hofB.out _).mono ?_); rintro e w6 ⟨v6, rfl, ho6, hb6⟩; have H6 : Hid (NumRet _ C (.returned v6) w6) := ⟨v6, rfl, ho6, hb6⟩; have b0 := (hb6.cell (p := ⟨w.heap.size, 0, none⟩) ha0).trans a0; have b1 := (hb6.cell (p := ⟨w.heap.size, 1, none⟩) ha0).trans a1; have b2 := (hb6.cell (p := ⟨w.heap.size + 1, 0, none⟩) ha1).trans a2; have b3 := (hb6.cell (p := ⟨w.heap.size + 1, 1, none⟩) ha1).trans a3; have hb_0 := Nat.lt_of_lt_of_le ha0 hb6.size; have hb_1 := Nat.lt_of_lt_of_le ha1 hb6.size;  clear ho6 hb6)
    | (go_simp; go_at_call 72; (with_reducible refine (HSUM.out _ _ _ (numR_below H5.out.numR H6.out.bel) H6.out.numR).mono ?_); rintro e w7 ⟨⟨v7, rfl, h7⟩, hb7⟩; have H7 : Hid (World.numR w7 v7 M) := h7; have HB7 := Lib.hid hb7; have d0 := (hb7.cell (p := ⟨w.heap.size, 0, none⟩) hb_0).trans b0; have d1 := (hb7.cell (p := ⟨w.heap.size, 1, none⟩) hb_0).trans b1; have d2 := (hb7.cell (p := ⟨w.heap.size + 1, 0, none⟩) hb_1).trans b2; have d3 := (hb7.cell (p := ⟨w.heap.size + 1, 1, none⟩) hb_1).trans b3; have hd_0 := Nat.lt_of_lt_of_le hb_0 hb7.size; have hd_1 := Nat.lt_of_lt_of_le hb_1 hb7.size;  clear h7 hb7)
    | (go_simp; go_at_call 68; (with_reducible refine (HFF.out _ _ _ H7.out ((bne_eq na nb).trans hS.symm)).mono ?_); rintro e w8 ⟨rfl, hb8⟩; have q0 := (hb8.cell (p := ⟨w.heap.size, 0, none⟩) hd_0).trans d0; have q1 := (hb8.cell (p := ⟨w.heap.size, 1, none⟩) hd_0).trans d1; have q2 := (hb8.cell (p := ⟨w.heap.size + 1, 0, none⟩) hd_1).trans d2; have q3 := (hb8.cell (p := ⟨w.heap.size + 1, 1, none⟩) hd_1).trans d3; have hq_0 := Nat.lt_of_lt_of_le hd_0 hb8.size; have hq_1 := Nat.lt_of_lt_of_le hd_1 hb8.size;  have HB8 := Lib.hid (H5.out.belD.trans (((H6.out.bel.trans (HB7.out.mono H6.out.bel.size)).trans (hb8.mono (Nat.le_trans H6.out.bel.size HB7.out.size))).mono H5.out.belD.size)); have K28 := (HB8.out.block _ hl2).trans HK2.out; have HK28 := Lib.hid K28; obtain ⟨e28, e29, f28⟩ := wide_cells K28; clear hb8 K28))
  all_goals
   go_wp2
   have m2 := wide_set HK28.out fb ft
   have hb9 := below_set2 (p := w.heap.size + 1 + 1) (HBw1.out.trans (HB8.out.mono HBw1.out.size)) (by omega) fb ft
   obtain ⟨d20, d21, -⟩ := wide_cells m2
   clear m2
   generalize (w8.setCell ⟨w.heap.size + 1 + 1, 0, none⟩ (.bool fb)).setCell ⟨w.heap.size + 1 + 1, 1, none⟩ (.string ft) = W9 at d20 d21 hb9 ⊢
   rw [HP.out]
   exact bodyPost_ret (v := .tuple #[.agg #[.bool fb, .string ft], .int .i64 E]) (by simp [results, Tryz.results45, go_sem, d20, d21]) rfl ⟨by rw [HRES.out], hb9⟩
end
/- Drawn regions in which an extraction may come behind the first late store: it may be thought to come ahead of it. -/
end Go.Proofs.YtkjlfjnncdkmlaaGreat
namespace Go
open Go.RowKit Go.Shelf
section
variable {P : Program} {ops : Array Oper} {Q : Exit → Act → World → Prop}
def moreAfter (e : Nat) (o : Oper) : Oper := { o with after := o.after.push ⟨e, .data⟩ }
def withEdge (ops : Array Oper) (k e : Nat) : Array Oper := (ops.toList.modify k (moreAfter e)).toArray
theorem withEdge_get (ops : Array Oper) (k e j : Nat) : (withEdge ops k e)[j]? = if k = j then (ops[j]?).map (moreAfter e) else ops[j]? := by
 unfold withEdge
 rw [List.getElem?_toArray, List.getElem?_modify]
 simp only [Array.getElem?_toList]
 split <;> simp
theorem wpOp_withEdge (k e i : Nat) (K : Act → World → Prop) (a : Act) (w : World) : wpOp P (withEdge ops k e) Q i K a w = wpOp P ops Q i K a w := by
 have hy : yielded (withEdge ops k e) a.tmps = yielded ops a.tmps := yielded_congr (fun j => by
  rw [withEdge_get]
  split
  ·cases ops[j]? <;> rfl
  ·rfl) _
 unfold wpOp
 rw [withEdge_get, hy]
 by_cases hki : k = i
 ·rw [if_pos hki]; cases ops[i]? <;> rfl
 ·rw [if_neg hki]
def waitsFor (ops : Array Oper) (k j : Nat) : Bool := ((ops[k]?).map fun o => o.after.any fun e => Region.binds .any e && e.on == j).getD false
theorem waitsFor_listed {k j : Nat} {listed : Array Bool} (h : waitsFor ops k j = true) (hr : k ∈ Region.ready .any ops listed) : listed.getD j false = true := by
 obtain ⟨-, o, ho, hall⟩ := mem_ready.1 hr
 unfold waitsFor at h
 simp only [ho, Option.map_some, Option.getD_some] at h
 obtain ⟨e, he, h1⟩ := Array.any_eq_true'.1 h
 simp only [Bool.and_eq_true, beq_iff_eq] at h1
 rw [← h1.2]
 exact hall e he h1.1
def pureE (oe : Oper) : Bool := (match oe.op with | .extract .. => true | _ => false) && oe.guard.isNone
def edgeB (ops : Array Oper) (k e : Nat) : Bool := e != k && Region.noSelect ops && match ops[e]? with
 | none => false
 | some oe => pureE oe && oe.after.all (fun x => !Region.binds .any x || waitsFor ops k x.on) && (List.range ops.size).all fun j => j == e || waitsFor ops k j || waitsFor ops j e || match ops[j]? with
  | some oj => oe.apart ops oj
  | none => true
theorem pure_yields {oe : Oper} {e : Nat} (he : ops[e]? = some oe) (hp : pureE oe = true) {K : Act → World → Prop} {a : Act} {w : World} (h : wpOp P ops Q e K a w) : ∃ v, Yields P ops oe v a ∧ K (a.put oe.dst v) w := by
 unfold pureE at hp
 simp only [Bool.and_eq_true] at hp
 obtain ⟨h1, h2⟩ := hp
 have hw : ∀ y, Region.wanted oe y = true := fun y => by
  unfold Region.wanted
  cases hg : oe.guard with
  | none => rfl
  | some x => rw [hg] at h2; cases h2
 unfold wpOp at h
 simp only [he, hw, if_true] at h
 cases hop : oe.op with
 | extract t ix =>
  have hx : execOp a.eval oe = (do pure (.value (← Instr.extract (a.eval t) ix)) : Sem Next) := by unfold execOp; rw [hop]
  have hbad : ∀ m, execOp a.eval oe = (do pure (.value (← (stuck m : Sem Value))) : Sem Next) → False := fun m hm => by
   rcases h with h | ⟨h, -⟩
   ·unfold Oper.wp at h; rw [hm] at h; exact h
   ·unfold Oper.asks at h; rw [hm] at h; exact absurd h.1 (by show ¬ noRoomEvent ∈ (#[] : Array Event); simp)
  generalize a.eval t = u at hx
  cases u with
  | tuple vs =>
   cases hv : vs[ix]? with
   | some v =>
    have hm : execOp a.eval oe = (do pure (.value (← (pure v : Sem Value))) : Sem Next) := by rw [hx]; simp only [Instr.extract, hv]
    have hr : ∀ w, (execOp a.eval oe).run P w = .ok (.value v) w := fun w => by rw [hm]; rfl
    refine ⟨v, .inl ⟨hw _, hr⟩, ?_⟩
    rcases h with h | ⟨h, -⟩
    ·unfold Oper.wp at h; rw [hr] at h; exact h
    ·unfold Oper.asks at h; rw [hm] at h; exact absurd h.1 (by show ¬ noRoomEvent ∈ (#[] : Array Event); simp)
   | none => exact (hbad "Extract: no such component" (by rw [hx]; simp only [Instr.extract, hv])).elim
  | _ => exact (hbad "Extract: tuple expected" (by rw [hx]; rfl)).elim
 | _ => rw [hop] at h1; cases h1
theorem wpAny_edge {k e : Nat} {oe : Oper} (he : ops[e]? = some oe) (hB : edgeB ops k e = true) (hQ : ∀ v c a w, Q (.panic c) (a.put oe.dst v) w → Q (.panic c) a w) :
  ∀ (fuel : Nat) (listed : Array Bool) (a : Act) (w : World), e < listed.size → wpAny P .any (withEdge ops k e) Q fuel listed a w → wpAny P .any ops Q fuel listed a w := by
 unfold edgeB at hB
 rw [he] at hB
 simp only [Bool.and_eq_true, bne_iff_ne, ne_eq, List.all_eq_true, List.mem_range, Array.all_eq_true_iff_forall_mem, Bool.or_eq_true, Bool.not_eq_true', beq_iff_eq] at hB
 obtain ⟨⟨hek, hs⟩, ⟨hp, hin⟩, hfree⟩ := hB
 have hsub : ∀ listed j, j ∈ Region.ready .any (withEdge ops k e) listed → j ∈ Region.ready .any ops listed := fun listed j hj => by
  obtain ⟨h1, o, ho, h2⟩ := mem_ready.1 hj
  rw [withEdge_get] at ho
  split at ho
  ·cases hoj : ops[j]? with
   | none => rw [hoj] at ho; cases ho
   | some o' =>
    rw [hoj] at ho
    injection ho with ho
    subst ho
    exact mem_ready.2 ⟨h1, o', hoj, fun x hx hb => h2 x (Array.mem_push_of_mem _ hx) hb⟩
  ·exact mem_ready.2 ⟨h1, o, ho, h2⟩
 have hsup : ∀ listed j, j ∈ Region.ready .any ops listed → (j = k → listed.getD e false = true) → j ∈ Region.ready .any (withEdge ops k e) listed := fun listed j hj hk => by
  obtain ⟨h1, o, ho, h2⟩ := mem_ready.1 hj
  by_cases hjk : k = j
  ·refine mem_ready.2 ⟨h1, moreAfter e o, by rw [withEdge_get, if_pos hjk, ho]; rfl, fun x hx hb => ?_⟩
   rcases Array.mem_push.1 hx with hx | hx
   ·exact h2 x hx hb
   ·subst hx; exact hk hjk.symm
  ·exact mem_ready.2 ⟨h1, o, by rw [withEdge_get, if_neg hjk]; exact ho, h2⟩
 have hre : ∀ listed, k ∈ Region.ready .any ops listed → listed.getD e true = false → e ∈ Region.ready .any ops listed := fun listed hk hl =>
  mem_ready.2 ⟨hl, oe, he, fun x hx hb => by
   rcases hin x hx with h | h
   ·rw [h] at hb; cases hb
   ·exact waitsFor_listed h hk⟩
 have hcase : ∀ listed : Array Bool, e < listed.size → (k ∈ Region.ready .any ops listed ∧ listed.getD e true = false) ∨ (∀ j, j ∈ Region.ready .any ops listed → j ∈ Region.ready .any (withEdge ops k e) listed) := fun listed hsz => by
  by_cases hk : k ∈ Region.ready .any ops listed
  ·cases hl : listed.getD e true with
   | false => exact .inl ⟨hk, rfl⟩
   | true =>
    refine .inr fun j hj => hsup listed j hj fun _ => ?_
    simpa [hsz] using hl
  ·exact .inr fun j hj => hsup listed j hj fun h => absurd (h ▸ hj) hk
 intro fuel
 induction fuel with
 | zero =>
  intro listed a w hsz H
  refine ⟨?_, H.2⟩
  rcases hcase listed hsz with ⟨hk, hl⟩ | h
  ·have := hsup listed e (hre listed hk hl) (fun h => absurd h hek)
   rw [H.1] at this; cases this
  ·refine List.eq_nil_iff_forall_not_mem.2 fun j hj => ?_
   have := h j hj
   rw [H.1] at this; cases this
 | succ fuel ih =>
  intro listed a w hsz H
  rcases hcase listed hsz with ⟨hk, hl⟩ | h
  ·have her := hre listed hk hl
   have h1 := H.2 e (hsup listed e her (fun h => absurd h hek))
   rw [wpOp_withEdge] at h1
   obtain ⟨v, hy, h2⟩ := pure_yields he hp h1
   refine wpAny_first he (Region.noSelect_spec hs) (hQ v) fuel listed a w (fun j oj hj hje hun hno => ?_) her hy (ih _ _ _ (by simpa using hsz) h2)
   have := hfree j (Array.getElem?_eq_some_iff.1 hj).1
   rcases this with ((h | h) | h) | h
   ·exact absurd h hje
   ·have := waitsFor_listed h hk
    exact (unlisted_not hun this).elim
   ·unfold waitsFor at h
    simp only [hj, Option.map_some, Option.getD_some] at h
    obtain ⟨x, hx, h1⟩ := Array.any_eq_true'.1 h
    simp only [Bool.and_eq_true, beq_iff_eq] at h1
    exact absurd h1.2 (hno x hx h1.1)
   ·rw [hj] at h; exact h
  ·refine ⟨fun h0 => H.1 ?_, fun j hj => ?_⟩
   ·refine List.eq_nil_iff_forall_not_mem.2 fun j hj => ?_
    have := hsub listed j hj
    rw [h0] at this; cases this
   ·have h1 := H.2 j (h j hj)
    rw [wpOp_withEdge] at h1
    exact wpOp_mono (fun a' w' => ih _ a' w' (by simpa using hsz)) h1
theorem wp_region_AE {id : Nat} {a : Act} {w : World} (k e : Nat) {oe : Oper} (B : Nat) (S F : World → Prop) (late : Nat → Bool) (hm : P.follows .mixedOrders = true) (he : ops.toList[e]? = some oe) (hB : edgeB ops k e = true)
  (hQ : ∀ v c a w, Q (.panic c) (a.put oe.dst v) w → Q (.panic c) a w) (hw : waitsA (withEdge ops k e) late = true) (hF : Fact B S F) (hFw : F w.drew)
  (h : Fact B S F → wpAnyA P (withEdge ops k e) Q B S late (fun fuel listed a w => wpAny P .any (withEdge ops k e) Q fuel listed a w) ops.size (Array.replicate ops.size false) a F) : (Code.region id ops true).wp P Q a w := by
 have he' : ops[e]? = some oe := by simpa using he
 exact wp_region_any hm (wpAny_edge he' hB hQ _ _ _ _ (by rw [Array.size_replicate]; exact (Array.getElem?_eq_some_iff.1 he').1) (wpAny_of_A (waitsA_spec hw) _ _ _ F _ (h hF) hFw))
end
end Go
/- Wide integers: helpers and walks, in one text (XG1 XG2 XG3). -/
/- The reference: an absolute value divided by a number below 2^16. -/
namespace Go.Proofs.YtkjlfjnncdkmlaaGreat
section
open Go.RowKit Go.Shelf Go.WideNum
def ShortRetH (w : World) (A n : Nat) (e : Ending) (w' : World) : Prop := ∃ v, e = .returned (.tuple #[v, .int .u32 ((A % n : Nat) : Int)]) ∧ World.rawH w' v (A / n) (hw A).length ∧ Below w.heap.size w w'
theorem rowF_raw {w W : World} {g n p : Nat} {T : TypeId} (hg : W.heap[g]? = some (.cells (rowF (dig 65536 n) p) T)) (hp : p ≤ 100000) : World.rawH W (.slice (some ⟨g, 0, none⟩) p p) n p := by
 have := reads_block (B := W.heap.size) (l := ((List.range p).map (dig 65536 n)).map u32V) hg (lt_of_heap hg) p (by simp) (by unfold maxLen; omega)
 rw [List.length_map, List.length_map, List.length_range] at this
 exact this
theorem hshort_any (A n : Nat) (hn0 : 0 < n) (hn : n < 65536) (va : Value) (w : World) (hA : World.numH w va A) (hla : (hw A).length ≤ 4000) :
  Calls Tryz.prog 110 #[va, .int .u32 (n : Int)] w (ShortRetH w A n) := by
 obtain ⟨aa, p, ca, hp, rfl, hca, hma, hsa⟩ := numH_words hA
 clear hA
 have hva := hw_vlt A
 rw [← hp] at hla hva
 have HA := Lib.hid hsa
 have HVA := Lib.hid hva
 obtain ⟨HPOST, hpost⟩ : ∃ R, R = ShortRetH w A n := ⟨_, rfl⟩
 rw [← hpost]
 have HP := Lib.hid hpost
 have HPL := Lib.hid hp
 clear hp hsa hva hpost
 have hmk : ∀ W : World, (Instr.makeSlice 23 (.int .i64 (p : Int)) (.int .i64 (p : Int))).run Tryz.prog W = .ok (.slice (some ⟨W.heap.size, 0, none⟩) p p) (W.alloc (.cells (zrow p) 22)) := fun W => make_u32 p (by omega) W
 have hpI : (p : Int) ≤ 4000 := by omega
 go_enter Tryz.func110, Tryz.ntmps110
 go_wp2_with fail
 go_loopw [7, 8] (fun c iv wr => ∃ k : Nat, k ≤ p ∧ iv = .int .i64 ((k : Int) - 1) ∧ c = .int .u32 ((A / 65536 ^ k % n : Nat) : Int) ∧ wr.heap[w.heap.size]? = some (.cells (rowF (fun j => if k ≤ j then dig 65536 (A / n) j else 0) p) 22) ∧ Below w.heap.size w wr) (fun _ iv _ => (intOf iv + 1).toNat)
 case atStart => exact ⟨p, Nat.le_refl _, rfl, by rw [Nat.div_eq_of_lt HVA.out, Nat.zero_mod]; rfl, by rw [rowF_congr (f' := fun _ => 0) (fun j hj => if_neg (by omega)), rowF_zero]; exact heap_alloc_new w _, (Below.refl _ w).alloc (Nat.le_refl _) _⟩
 case round =>
  obtain ⟨k, hk, rfl, rfl, hgk, hb⟩ := hrel
  cases k with
  | zero =>
   rw [rowF_congr (f' := dig 65536 (A / n)) (fun j hj => if_pos (Nat.zero_le j))] at hgk
   rw [Nat.pow_zero, Nat.div_one]
   have HGK := Lib.hid hgk
   obtain ⟨r, er⟩ : ∃ r, r = A % n := ⟨_, rfl⟩
   rw [← er]
   have ER := Lib.hid er
   clear hgk er
   have h0 : ¬ (0 : Int) ≤ ((0 : Nat) : Int) - 1 := by omega
   go_wp2
   rw [HP.out, ER.out]
   exact ⟨_, rfl, by rw [← HPL.out]; exact rowF_raw (w := w) HGK.out (by omega), hb⟩
  | succ j =>
   rw [show ((j + 1 : Nat) : Int) - 1 = (j : Int) by omega]
   obtain ⟨b, off, rfl, hbl, hx0⟩ := HA.out j (by omega)
   have hx : wr.cell? ⟨b, off + j, none⟩ = some (.int .u32 (dig 65536 A j : Int)) := (hb.cell (p := ⟨b, off + j, none⟩) hbl).trans hx0
   obtain ⟨hcu, hfu⟩ := rowF_cell hgk j (by omega)
   have HST := Lib.hid (short_step (B := 65536) (by omega) hn0 A j)
   have hd1 := hw_dig A j
   have hr := Nat.mod_lt (A / 65536 ^ (j + 1)) hn0
   obtain ⟨x, ex⟩ : ∃ x, x = dig 65536 A j := ⟨_, rfl⟩
   obtain ⟨r, er⟩ : ∃ x, x = A / 65536 ^ (j + 1) % n := ⟨_, rfl⟩
   rw [← ex, ← er] at HST
   rw [← ex] at hx hd1
   rw [← er] at hr ⊢
   obtain ⟨y, ey⟩ : ∃ y, y = r * 65536 + x := ⟨_, rfl⟩
   have HQ : Hid (y / n = dig 65536 (A / n) j) := by show _ = _; rw [ey]; exact HST.out.1
   have HR2 : Hid (y % n = A / 65536 ^ j % n) := by show _ = _; rw [ey]; exact HST.out.2
   have hq2 : y / n < 65536 := by rw [HQ.out]; exact hw_dig _ _
   have hy : y < 4294967296 := by rw [ey]; omega
   have u1 : IntKind.u32.wrap ((r : Int) * 65536) = ((r * 65536 : Nat) : Int) := by rw [IntKind.wrap_u32]; omega
   have u1' : IntKind.u32.wrap ((r : Int) * 2 ^ 16) = ((r * 65536 : Nat) : Int) := by rw [IntKind.wrap_u32]; omega
   have u2 : ((r * 65536 : Nat) : Int) + (x : Int) = (y : Int) := by omega
   have u3 : (r : Int) * 65536 + (x : Int) = (y : Int) := by omega
   have HGK := Lib.hid hgk
   have hne : ((n : Int) == 0) = false := by rw [beq_eq_false_iff_ne]; omega
   obtain ⟨z, ez⟩ : ∃ z, z = y / n := ⟨_, rfl⟩
   obtain ⟨m, em⟩ : ∃ m, m = y % n := ⟨_, rfl⟩
   rw [← ez] at HQ hq2
   rw [← em] at HR2
   have t1 : IntKind.u32.wrap ((y : Int) / (n : Int)) = (z : Int) := by
    rw [← Int.natCast_ediv, ← ez, IntKind.wrap_u32]
    omega
   have t1' : (y : Int) / (n : Int) = (z : Int) := by rw [← Int.natCast_ediv, ← ez]
   have t3 : (z : Int) % 4294967296 = (z : Int) := by omega
   have t2 : (y : Int) % (n : Int) = (m : Int) := by rw [em, Int.natCast_emod]
   clear ex er ey hx0 hgk ez em hq2
   go_wp2_with fail
   go_roundw
   case rel => exact ⟨j, by omega, rfl, by first | (rw [t2, HR2.out]; done) | rw [HR2.out], by
    rw [show z = (fun i => if j ≤ i then dig 65536 (A / n) i else 0) j by rw [HQ.out]; exact (if_pos (Nat.le_refl j)).symm]
    refine rowF_set (f' := fun i => if j ≤ i then dig 65536 (A / n) i else 0) HGK.out (fun i _ hi => ?_)
    show (if j + 1 ≤ i then _ else _) = (if j ≤ i then _ else _)
    by_cases h : j ≤ i
    ·rw [if_pos h, if_pos (by omega)]
    ·rw [if_neg h, if_neg (by omega)], hb.setCell (by simp) _⟩
   case measure => simp [intOf]
end
/- The reference: the decimal text of a form. -/
section
open Go.RowKit Go.Shelf Go.WideNum
theorem field1 (s : Bool) (a : Option Addr) (n c : Nat) (W : World) : (Instr.field 72 (.agg #[.bool s, .slice a n c]) 1).run Tryz.prog W = .ok (.slice a n c) W := by kernel_rfl
theorem hw_pos {n : Nat} : 0 < (hw n).length ↔ n ≠ 0 := by
 have := words_len0 (B := 65536) (by omega) n
 unfold hw
 omega
end
/- The reference: the integer of a text. -/
/- Wide integers: helpers and walks, in one text (XC1 XC2 XC3 XC4). -/
/- How many binary digits a form has. -/
section
open Go.RowKit Go.Shelf Go.WideNum
def bitsN (n : Nat) : Nat := (words 2 n).length
theorem bitsN_le {n k : Nat} (h : n < 2 ^ k) : bitsN n ≤ k := words_length (by omega) n k h
theorem bitsN_vlt (n : Nat) : n < 2 ^ bitsN n := words_vlt (by omega) n
theorem bits_top {n k : Nat} (h : bitsN n = k + 1) : dig 2 n k ≠ 0 := by
 have h1 := words_trimmed (B := 2) (by omega) n n (Nat.le_refl _)
 have h2 : (wordsOf 2 n n).getLast? = some (dig 2 n k) := by
  have h3 : (words 2 n).length = k + 1 := h
  have h4 : (words 2 n).getLast? = some (dig 2 n k) := by
   rw [List.getLast?_eq_getElem?, h3, Nat.add_sub_cancel]
   exact words_getE (by omega) n k (by omega)
  exact h4
 exact h1 _ h2
theorem pow16 (q : Nat) : 65536 ^ q = 2 ^ (16 * q) := by rw [show (65536 : Nat) = 2 ^ 16 by rfl, ← Nat.pow_mul]
theorem dig_bit (n i q r : Nat) (hi : i = 16 * q + r) (hr : r < 16) : dig 65536 n q / 2 ^ r % 2 = dig 2 n i := by
 subst hi
 unfold dig
 rw [pow16, Nat.pow_add, ← Nat.div_div_eq_div_mul]
 generalize n / 2 ^ (16 * q) = m
 have h1 : 2 ^ r * (2 * 2 ^ (15 - r)) = 65536 := by
  rw [show (65536 : Nat) = 2 ^ 16 by rfl, ← Nat.pow_succ', ← Nat.pow_add]
  congr 1; omega
 rw [← h1, Nat.mod_mul_right_div_self, Nat.mod_mul_right_mod]
theorem and_one (y : Nat) (hy : y < 4294967296) : bits .and .u32 (y : Int) 1 = ((y % 2 : Nat) : Int) := by
 show IntKind.u32.wrap ((BitVec.ofInt 32 _ &&& BitVec.ofInt 32 _).toNat : Int) = _
 rw [BitVec.ofInt_natCast, show (1 : Int) = ((1 : Nat) : Int) by rfl, BitVec.ofInt_natCast, BitVec.toNat_and, BitVec.toNat_ofNat, BitVec.toNat_ofNat, Nat.mod_eq_of_lt (by omega), Nat.mod_eq_of_lt (by omega), Nat.and_one_is_mod, IntKind.wrap_u32]
 omega
theorem bit_far (n i : Nat) (h : (hw n).length ≤ i / 16) : dig 2 n i = 0 := by
 refine dig_high (by omega) n i (Nat.lt_of_lt_of_le (hw_vlt n) ?_)
 rw [pow16]
 exact Nat.pow_le_pow_right (by omega) (by omega)
theorem hbit_any (A i : Nat) (hi : i ≤ 1000000) (va : Value) (w : World) (hA : World.numH w va A) (hla : (hw A).length ≤ 4000) (z : Int) (hz : z = (i : Int)) :
  Calls Tryz.prog 113 #[va, .int .i64 z] w fun e w' => e = .returned (.int .u32 (dig 2 A i : Int)) ∧ w = w' := by
 subst hz
 obtain ⟨aa, p, ca, hp, rfl, hca, hma, hsa⟩ := numH_words hA
 clear hA
 obtain ⟨R, hR⟩ : ∃ R, R = dig 2 A i := ⟨_, rfl⟩
 rw [← hR]
 obtain ⟨q, hq⟩ : ∃ q, q = i / 16 := ⟨_, rfl⟩
 obtain ⟨r, hr⟩ : ∃ q, q = i % 16 := ⟨_, rfl⟩
 have e1 : (i : Int) / 16 = (q : Int) := by omega
 have e2 : (i : Int) % 16 = (r : Int) := by omega
 by_cases hlt : q < p
 ·have hlt' : ¬ (p : Int) ≤ (q : Int) := by omega
  have hlt2 : (q : Int) < (p : Int) := by omega
  have hq0 : (0 : Int) ≤ (q : Int) := by omega
  have hr0 : (0 : Int) ≤ (r : Int) := by omega
  have hr16 : (r : Int) < 16 := by omega
  obtain ⟨b, off, rfl, hbl, hx⟩ := hsa q hlt
  have hd := hw_dig A q
  have hb := dig_bit A i q r (by omega) (by omega)
  rw [← hR] at hb
  obtain ⟨x, ex⟩ : ∃ x, x = dig 65536 A q := ⟨_, rfl⟩
  rw [← ex] at hx hd hb
  obtain ⟨y, ey⟩ : ∃ y, y = x / 2 ^ r := ⟨_, rfl⟩
  rw [← ey] at hb
  have hyx : y ≤ x := by rw [ey]; exact Nat.div_le_self _ _
  have t1 : (x : Int) / 2 ^ r = (y : Int) := by rw [ey]; simp
  have t2 : bits .and .u32 (y : Int) 1 = (R : Int) := by rw [and_one y (by omega), hb]
  have HI : Hid (i ≤ 1000000) := hi
  clear hR hq hr hsa ex ey hb hp
  go_enter Tryz.func113, Tryz.ntmps113
  go_wp2
  go_ret
  exact ⟨rfl, rfl⟩
 ·have hlt' : (p : Int) ≤ (q : Int) := by omega
  have hR0 : R = 0 := by rw [hR]; exact bit_far A i (by omega)
  subst hR0
  clear hR hq hr hsa hp
  go_enter Tryz.func113, Tryz.ntmps113
  go_wp2
  go_ret
  exact ⟨rfl, rfl⟩
theorem hbits_any (A : Nat) (va : Value) (w : World) (hA : World.numH w va A) (hla : (hw A).length ≤ 4000) :
  Calls Tryz.prog 111 #[va] w fun e w' => e = .returned (.int .i64 (bitsN A : Int)) ∧ w = w' := by
 have HA := Lib.hid hA
 obtain ⟨aa, p, ca, hp, rfl, hca, hma, hsa⟩ := numH_words hA
 obtain ⟨M, hM⟩ : ∃ M, M = bitsN A := ⟨_, rfl⟩
 rw [← hM]
 have HM := Lib.hid hM
 have hMp : M ≤ 16 * p := by
  rw [hM]
  refine bitsN_le ?_
  rw [← pow16, hp]
  exact hw_vlt A
 have hp4 : p ≤ 4000 := by omega
 have HLA := Lib.hid hla
 clear hA hsa hM hp hla
 go_enter Tryz.func111, Tryz.ntmps111
 go_wp2_with fail
 go_loop [3] (fun kv => ∃ k : Nat, M ≤ k ∧ k ≤ 16 * p ∧ kv = .int .i64 (k : Int)) (fun kv => (intOf kv).toNat)
 case atStart => exact ⟨16 * p, hMp, Nat.le_refl _, by go_num⟩
 case round =>
  obtain ⟨k, hk1, hk2, rfl⟩ := hrel
  by_cases hlt : M < k
  ·obtain ⟨j, rfl⟩ : ∃ j, k = j + 1 := ⟨k - 1, by omega⟩
   have hz : dig 2 A j = 0 := dig_high (by omega) A j (Nat.lt_of_lt_of_le (bitsN_vlt A) (Nat.pow_le_pow_right (by omega) (by rw [← HM.out]; omega)))
   have hb := hbit_any A j (by omega) _ w HA.out HLA.out
   rw [hz] at hb
   have HBT := Lib.hid hb
   have t0 : (0 : Int) < ((j + 1 : Nat) : Int) := by omega
   clear hb hz
   go_wp2_with fail
   (with_reducible refine (HBT.out _ (by omega)).mono ?_)
   rintro e w1 ⟨rfl, rfl⟩
   go_wp2_with fail
   go_round
   case rel => exact ⟨j, by omega, by omega, by go_num⟩
   case measure => simp [intOf]
  ·obtain rfl : k = M := by omega
   rcases Nat.eq_zero_or_pos k with h0 | h0
   ·subst h0
    have t0 : ¬ (0 : Int) < ((0 : Nat) : Int) := by omega
    go_wp2
    go_ret
    exact ⟨rfl, rfl⟩
   ·obtain ⟨j, rfl⟩ : ∃ j, k = j + 1 := ⟨k - 1, by omega⟩
    have hz := bits_top HM.out.symm
    have hd : dig 2 A j < 2 := dig_lt (by omega) A j
    have hb := hbit_any A j (by omega) _ w HA.out HLA.out
    obtain ⟨d, ed⟩ : ∃ d, d = dig 2 A j := ⟨_, rfl⟩
    rw [← ed] at hb hz
    have HBT := Lib.hid hb
    have t0 : (0 : Int) < ((j + 1 : Nat) : Int) := by omega
    have t1 : ((d : Int) == 0) = false := by rw [beq_eq_false_iff_ne]; omega
    clear hb hz ed hd
    go_wp2_with fail
    (with_reducible refine (HBT.out _ (by omega)).mono ?_)
    rintro e w1 ⟨rfl, rfl⟩
    go_wp2
    go_ret
    exact ⟨rfl, rfl⟩
end
/- The reference: two numbers with signs compared; the number of binary digits of a form, both. -/
end Go.Proofs.YtkjlfjnncdkmlaaGreat
namespace Go
section
variable {P : Program} {ops : Array Oper} {Q : Exit → Act → World → Prop} {S : World → Prop} {late : Nat → Bool}
theorem wpAnyD_two (i j : Nat) {oi oj : Oper} {fuel : Nat} {listed : Array Bool} {a : Act} {w : World} (hr : Region.ready .any ops listed = [i, j]) (hoi : ops.toList[i]? = some oi) (hoj : ops.toList[j]? = some oj)
  (h1 : ∀ K' : Act → World → Prop, Shut (∀ a w, S w → (S w → wpAnyD P ops Q S late fuel (listed.setIfInBounds i true) a w) → K' a w) → if Region.wanted oi (yielded ops a.tmps) = true then Oper.wp P oi a w K' Q else K' (a.put oi.dst undef) w)
  (h2 : ∀ K' : Act → World → Prop, Shut (∀ a w, S w → (S w → wpAnyD P ops Q S late fuel (listed.setIfInBounds j true) a w) → K' a w) → if Region.wanted oj (yielded ops a.tmps) = true then Oper.wp P oj a w K' Q else K' (a.put oj.dst undef) w) :
  wpAnyD P ops Q S late (fuel + 1) listed a w := by
 refine ⟨fun h0 => (by rw [hr] at h0; cases h0), fun k hk => ?_⟩
 rw [hr] at hk
 rcases List.mem_cons.1 hk with h | h
 ·subst h
  exact wpOp_step (by simpa using hoi) (fun K' hK => h1 K' (fun a w hS hW => hK a w ⟨fun _ _ => hS, hW hS⟩))
 ·obtain rfl : k = j := by simpa using h
  exact wpOp_step (by simpa using hoj) (fun K' hK => h2 K' (fun a w hS hW => hK a w ⟨fun _ _ => hS, hW hS⟩))
end
end Go
namespace Go.Proofs.YtkjlfjnncdkmlaaGreat
section
open Go.RowKit Go.Shelf Go.WideNum
theorem cmp_sign (an : Bool) (A : Nat) (bn : Bool) (C : Nat) (S : Bool) (N : Nat) (hz : zOf S N = zOf an A - zOf bn C) (hS : S = true → N ≠ 0) :
  cmpZ (zOf an A) (zOf bn C) = if S then -1 else if N = 0 then 0 else 1 := by
 unfold cmpZ
 generalize zOf an A = x at *
 generalize zOf bn C = y at *
 unfold zOf at hz
 cases S with
 | true =>
  have := hS rfl
  simp at hz ⊢
  omega
 | false =>
  simp at hz ⊢
  by_cases h : N = 0
  ·rw [if_neg (by omega), if_neg (by omega), if_pos h]
  ·rw [if_neg (by omega), if_pos (by omega), if_neg h]
theorem hcompare_any (an : Bool) (A : Nat) (va : Value) (bn : Bool) (C : Nat) (vb : Value) (w : World) (hA : World.numH w va A) (hC : World.numH w vb C) (hla : (hw A).length ≤ 2000) (hlc : (hw C).length ≤ 2000) :
  Calls Tryz.prog 87 #[.agg #[.bool an, va], .agg #[.bool bn, vb]] w fun e w' => e = .returned (.int .i64 (cmpZ (zOf an A) (zOf bn C))) ∧ Below w.heap.size w w' := by
 have HA : Hid (World.numH w va A) := hA
 have HC : Hid (World.numH w vb C) := hC
 obtain ⟨aa, p, ca, -, rfl, -, -, -⟩ := numH_words hA
 obtain ⟨ab, q, cb, -, rfl, -, -, -⟩ := numH_words hC
 clear hA hC
 obtain ⟨W0, hW0⟩ : ∃ W0, W0 = (w.alloc (.cells #[.bool an, .slice aa p ca] 72)).alloc (.cells #[.bool bn, .slice ab q cb] 72) := ⟨_, rfl⟩
 have g0 : W0.heap[w.heap.size]? = some (.cells #[.bool an, .slice aa p ca] 72) := by rw [hW0, Below.heap_alloc _ _ _ (by simp)]; exact heap_alloc_new w _
 have g1 : W0.heap[w.heap.size + 1]? = some (.cells #[.bool bn, .slice ab q cb] 72) := by rw [hW0]; exact alloc_last _ _ (by simp)
 have hb0 : Below w.heap.size w W0 := by rw [hW0]; exact (((Below.refl _ w).alloc (Nat.le_refl _) _).alloc (by simp) _)
 have HB0 := Lib.hid hb0
 obtain ⟨c00, c01, f00, f01⟩ := num_cells g0
 obtain ⟨c10, c11, f10, f11⟩ := num_cells g1
 have HW0 := Lib.hid hW0
 have HNA := Lib.hid (numH_below HA.out hb0)
 have HNC := Lib.hid (numH_below HC.out hb0)
 have hcx : Hid (∀ W, Below W0.heap.size W0 W → W.cell? ⟨w.heap.size, 0, none⟩ = some (.bool an) ∧ W.cell? ⟨w.heap.size, 1, none⟩ = some (.slice aa p ca) ∧ W.cell? ⟨w.heap.size + 1, 0, none⟩ = some (.bool bn) ∧ W.cell? ⟨w.heap.size + 1, 1, none⟩ = some (.slice ab q cb)) := fun W hb => by
  obtain ⟨k0, k1, -, -⟩ := num_cells ((hb.block _ (lt_of_heap g0)).trans g0)
  obtain ⟨k2, k3, -, -⟩ := num_cells ((hb.block _ (lt_of_heap g1)).trans g1)
  exact ⟨k0, k1, k2, k3⟩
 have hz0 := lt_of_heap g0
 have hz1 := lt_of_heap g1
 obtain ⟨nc, hnc⟩ : ∃ s, s = (!bn && decide (C ≠ 0)) := ⟨_, rfl⟩
 have HNEG : Hid (∀ W v, World.numH W v C → Calls Tryz.prog 89 #[.agg #[.bool bn, v]] W (SRet W nc C)) := fun W v h => by rw [hnc]; exact negative_any bn C _ (hw_vlt C) (by omega) v W (numH_raw h)
 obtain ⟨S, hS⟩ : ∃ S, S = (sumS A an C nc && decide (sumN A an C nc ≠ 0)) := ⟨_, rfl⟩
 obtain ⟨M, hM⟩ : ∃ M, M = sumN A an C nc := ⟨_, rfl⟩
 have HADD : Hid (∀ W va vb, World.numH W va A → World.numH W vb C → Calls Tryz.prog 85 #[.agg #[.bool an, va], .agg #[.bool nc, vb]] W (SRet W S M)) := fun W va vb h1 h2 => by rw [hS, hM]; exact hadd_any an A va nc C vb W h1 h2 (by omega) (by omega)
 have hz : zOf S M = zOf an A - zOf bn C := by
  rw [hS, hM, zOf_and]
  refine (sum_z A an C nc).trans ?_
  rw [hnc, zOf_and]
  unfold zOf
  cases bn <;> simp <;> omega
 have hc := cmp_sign an A bn C S M hz (fun h => by
  rw [hS, ← hM] at h
  intro h0
  rw [h0] at h
  simp at h)
 obtain ⟨R, hR⟩ : ∃ R, R = cmpZ (zOf an A) (zOf bn C) := ⟨_, rfl⟩
 rw [← hR] at hc ⊢
 have HRR := Lib.hid hc
 obtain ⟨HPOST, hpost⟩ : ∃ X : Ending → World → Prop, X = fun e w' => e = .returned (.int .i64 R) ∧ Below w.heap.size w w' := ⟨_, rfl⟩
 rw [← hpost]
 have HP := Lib.hid hpost
 clear hb0 g0 g1 hW0 hpost hnc hS hM hz hc hR
 go_enter Tryz.func87, Tryz.ntmps87
 go_upto_region 1 with (fail)
 rw [← HW0.out]
 go_wp2_with fail
 refine wp_region_late (fun w' => w'.cell? ⟨w.heap.size, 0, none⟩ = some (.bool an) ∧ w'.cell? ⟨w.heap.size, 1, none⟩ = some (.slice aa p ca) ∧ w'.cell? ⟨w.heap.size + 1, 0, none⟩ = some (.bool bn) ∧ w'.cell? ⟨w.heap.size + 1, 1, none⟩ = some (.slice ab q cb)) (fun j => decide (j = 5)) (by kernel_rfl) ⟨c00, c01, c10, c11⟩ (fun hHeld => ?_)
 refine tkD 0 (v := ?_) rfl ?_ ?_
 rotate_left
 ·(intro wq hSq; (try dsimp only at hSq); go_simp; try with_reducible rfl)
 try simp only [Act.put, List.setIfInBounds_toArray, List.set_cons_zero, List.set_cons_succ]
 refine tkD 1 (v := ?_) rfl ?_ ?_
 rotate_left
 ·(intro wq hSq; (try dsimp only at hSq); go_simp; try with_reducible rfl)
 try simp only [Act.put, List.setIfInBounds_toArray, List.set_cons_zero, List.set_cons_succ]
 have hdd := ((Below.refl W0.heap.size W0).drew)
 have hna := HNA.out.drew
 have hnc := HNC.out.drew
 have HHA : Hid (World.numH W0.drew (.slice aa p ca) A) := hna
 have HHC : Hid (World.numH W0.drew (.slice ab q cb) C) := hnc
 generalize W0.drew = X0 at hdd HHA HHC hHeld ⊢
 have HDD := Lib.hid hdd
 clear hna hnc hdd c00 c01 c10 c11 f00 f01 f10 f11
 refine wpAnyD_two 2 4 (by kernel_rfl) rfl rfl (fun K hK => ?_) (fun K hK => ?_)
 ·go_simp
  go_at_call 89
  (with_reducible refine (HNEG.out _ _ HHC.out).mono ?_)
  rintro e u1 ⟨vu1, rfl, hnu1, hbu⟩
  obtain ⟨au1, Lu1, cu1, eu1⟩ : ∃ a L c, vu1 = .slice a L c := by obtain ⟨x, y, h⟩ := reads_len hnu1; exact ⟨x, _, y, h⟩
  subst eu1
  have hbx := below_via HDD.out hbu
  have HD1 := Lib.hid hbx
  have HF1A := Lib.hid (numH_below HHA.out hbu)
  have HF1B := Lib.hid (numH_below HHC.out hbu)
  have HF1u1 := Lib.hid hnu1
  refine hK.out _ _ (hcx.out _ hbx) (fun hHeld1 => ?_)
  clear hbu hbx hnu1 hK K hHeld
  try simp only [Act.put, List.setIfInBounds_toArray, List.set_cons_zero, List.set_cons_succ]
  refine wpAnyD_two 3 4 (by kernel_rfl) rfl rfl (fun K hK => ?_) (fun K hK => ?_)
  ·go_simp
   go_at_call 85
   (with_reducible refine (HADD.out _ _ _ HF1A.out HF1u1.out).mono ?_)
   rintro e u2 ⟨vu2, rfl, hnu2, hbu⟩
   obtain ⟨au2, Lu2, cu2, eu2⟩ : ∃ a L c, vu2 = .slice a L c := by obtain ⟨x, y, h⟩ := reads_len hnu2; exact ⟨x, _, y, h⟩
   subst eu2
   have hbx := below_via HD1.out hbu
   have HD2 := Lib.hid hbx
   have HF2A := Lib.hid (numH_below HF1A.out hbu)
   have HF2B := Lib.hid (numH_below HF1B.out hbu)
   have HF2u1 := Lib.hid (numH_below HF1u1.out hbu)
   have HF2u2 := Lib.hid hnu2
   refine hK.out _ _ (hcx.out _ hbx) (fun hHeld2 => ?_)
   clear hbu hbx hnu2 hK K hHeld1
   try simp only [Act.put, List.setIfInBounds_toArray, List.set_cons_zero, List.set_cons_succ]
   refine wpAnyD_keep 4 (by kernel_rfl) rfl (fun K hK => ?_)
   go_simp
   have hbx : Below W0.heap.size W0 (u2.alloc (.cells #[.bool false, .slice none 0 0] 72)) := HD2.out.alloc HD2.out.size _
   have hpx : (u2.alloc (.cells #[.bool false, .slice none 0 0] 72)).heap[u2.heap.size]? = some (.cells #[.bool false, .slice none 0 0] 72) := heap_alloc_new u2 _
   have hbd : Below u2.heap.size u2 (u2.alloc (.cells #[.bool false, .slice none 0 0] 72)) := (Below.refl _ _).alloc (Nat.le_refl _) _
   have HD3 := Lib.hid hbx
   have HP3 := Lib.hid hpx
   have HF3A := Lib.hid (numH_below HF2A.out hbd)
   have HF3B := Lib.hid (numH_below HF2B.out hbd)
   have HF3u1 := Lib.hid (numH_below HF2u1.out hbd)
   have HF3u2 := Lib.hid (numH_below HF2u2.out hbd)
   refine hK.out _ _ (hcx.out _ hbx) (fun hHeld3 => ?_)
   clear hbd hbx hpx hK K hHeld2
   try simp only [Act.put, List.setIfInBounds_toArray, List.set_cons_zero, List.set_cons_succ]
   generalize u2.alloc (.cells #[.bool false, .slice none 0 0] 72) = x3 at HD3 HP3 HF3A HF3B HF3u1 HF3u2 ⊢
   have hPz : W0.heap.size ≤ u2.heap.size := by first | exact Nat.le_refl _ | exact HD2.out.size
   obtain ⟨d0, d1, fz0, fz1⟩ := num_cells HP3.out
   refine wpAnyD_step 5 (by kernel_rfl) rfl rfl (fun K hK => ?_)
   go_simp
   refine hK.out _ _ ?_
   clear hK K hHeld3 d0 d1 fz0 fz1
   try simp only [Act.put, List.setIfInBounds_toArray, List.set_cons_zero, List.set_cons_succ]
   refine wpAnyD_end (by kernel_rfl) ?_
   have m2 := num_set HP3.out (.bool S) (.slice au2 Lu2 cu2)
   have hb9 : Below W0.heap.size W0 ((x3.setCell ⟨u2.heap.size, 0, none⟩ (.bool S)).setCell ⟨u2.heap.size, 1, none⟩ (.slice au2 Lu2 cu2)) := (HD3.out.setCell hPz _).setCell hPz _
   have hL : Lu2 = (hw M).length := by
    obtain ⟨x, y, e⟩ := reads_len HF3u2.out
    injection e with _ e2 _
    rw [e2, List.length_map]
   obtain ⟨d20, d21, -, -⟩ := num_cells m2
   clear m2
   generalize (x3.setCell ⟨u2.heap.size, 0, none⟩ (.bool S)).setCell ⟨u2.heap.size, 1, none⟩ (.slice au2 Lu2 cu2) = W9 at d20 d21 hb9 ⊢
   have HB9 := Lib.hid (HB0.out.trans (hb9.mono HB0.out.size))
   have hM : (M = 0 ∧ Lu2 = 0) ∨ (M ≠ 0 ∧ 0 < Lu2) := by
    have h3 := hw_pos (n := M)
    by_cases h : M = 0
    ·left; exact ⟨h, by rw [hL, h]; rfl⟩
    ·right; exact ⟨h, by rw [hL]; exact h3.2 h⟩
   have HRR2 := HRR.out
   clear hb9 hL
   cases S with
   | true =>
    have hRR : R = -1 := by rw [HRR2]; rfl
    subst hRR
    clear hM HRR2
    go_wp2
    rw [HP.out]
    exact ⟨rfl, HB9.out⟩
   | false =>
    rcases hM with ⟨hM0, hL0⟩ | ⟨hM0, hL0⟩
    ·have hRR : R = 0 := by rw [HRR2, hM0]; rfl
     subst hL0 hRR
     clear HRR2 hM0
     have t0 : ¬ (0 : Int) < ((0 : Nat) : Int) := by omega
     go_wp2
     rw [HP.out]
     exact ⟨rfl, HB9.out⟩
    ·have hRR : R = 1 := by rw [HRR2, if_neg (by decide), if_neg hM0]
     subst hRR
     clear HRR2 hM0
     have t0 : (0 : Int) < (Lu2 : Int) := by omega
     go_wp2
     rw [HP.out]
     exact ⟨rfl, HB9.out⟩
  ·go_simp
   have hbx : Below W0.heap.size W0 (u1.alloc (.cells #[.bool false, .slice none 0 0] 72)) := HD1.out.alloc HD1.out.size _
   have hpx : (u1.alloc (.cells #[.bool false, .slice none 0 0] 72)).heap[u1.heap.size]? = some (.cells #[.bool false, .slice none 0 0] 72) := heap_alloc_new u1 _
   have hbd : Below u1.heap.size u1 (u1.alloc (.cells #[.bool false, .slice none 0 0] 72)) := (Below.refl _ _).alloc (Nat.le_refl _) _
   have HD2 := Lib.hid hbx
   have HP2 := Lib.hid hpx
   have HF2A := Lib.hid (numH_below HF1A.out hbd)
   have HF2B := Lib.hid (numH_below HF1B.out hbd)
   have HF2u1 := Lib.hid (numH_below HF1u1.out hbd)
   refine hK.out _ _ (hcx.out _ hbx) (fun hHeld2 => ?_)
   clear hbd hbx hpx hK K hHeld1
   try simp only [Act.put, List.setIfInBounds_toArray, List.set_cons_zero, List.set_cons_succ]
   generalize u1.alloc (.cells #[.bool false, .slice none 0 0] 72) = x2 at HD2 HP2 HF2A HF2B HF2u1 ⊢
   refine wpAnyD_keep 3 (by kernel_rfl) rfl (fun K hK => ?_)
   go_simp
   go_at_call 85
   (with_reducible refine (HADD.out _ _ _ HF2A.out HF2u1.out).mono ?_)
   rintro e u3 ⟨vu3, rfl, hnu3, hbu⟩
   obtain ⟨au3, Lu3, cu3, eu3⟩ : ∃ a L c, vu3 = .slice a L c := by obtain ⟨x, y, h⟩ := reads_len hnu3; exact ⟨x, _, y, h⟩
   subst eu3
   have hbx := below_via HD2.out hbu
   have HD3 := Lib.hid hbx
   have HF3A := Lib.hid (numH_below HF2A.out hbu)
   have HF3B := Lib.hid (numH_below HF2B.out hbu)
   have HF3u1 := Lib.hid (numH_below HF2u1.out hbu)
   have HF3u3 := Lib.hid hnu3
   have HP3 := Lib.hid ((hbu.block _ (lt_of_heap HP2.out)).trans HP2.out)
   refine hK.out _ _ (hcx.out _ hbx) (fun hHeld3 => ?_)
   clear hbu hbx hnu3 hK K hHeld2
   try simp only [Act.put, List.setIfInBounds_toArray, List.set_cons_zero, List.set_cons_succ]
   have hPz : W0.heap.size ≤ u1.heap.size := by first | exact Nat.le_refl _ | exact HD1.out.size
   obtain ⟨d0, d1, fz0, fz1⟩ := num_cells HP3.out
   refine wpAnyD_step 5 (by kernel_rfl) rfl rfl (fun K hK => ?_)
   go_simp
   refine hK.out _ _ ?_
   clear hK K hHeld3 d0 d1 fz0 fz1
   try simp only [Act.put, List.setIfInBounds_toArray, List.set_cons_zero, List.set_cons_succ]
   refine wpAnyD_end (by kernel_rfl) ?_
   have m2 := num_set HP3.out (.bool S) (.slice au3 Lu3 cu3)
   have hb9 : Below W0.heap.size W0 ((u3.setCell ⟨u1.heap.size, 0, none⟩ (.bool S)).setCell ⟨u1.heap.size, 1, none⟩ (.slice au3 Lu3 cu3)) := (HD3.out.setCell hPz _).setCell hPz _
   have hL : Lu3 = (hw M).length := by
    obtain ⟨x, y, e⟩ := reads_len HF3u3.out
    injection e with _ e2 _
    rw [e2, List.length_map]
   obtain ⟨d20, d21, -, -⟩ := num_cells m2
   clear m2
   generalize (u3.setCell ⟨u1.heap.size, 0, none⟩ (.bool S)).setCell ⟨u1.heap.size, 1, none⟩ (.slice au3 Lu3 cu3) = W9 at d20 d21 hb9 ⊢
   have HB9 := Lib.hid (HB0.out.trans (hb9.mono HB0.out.size))
   have hM : (M = 0 ∧ Lu3 = 0) ∨ (M ≠ 0 ∧ 0 < Lu3) := by
    have h3 := hw_pos (n := M)
    by_cases h : M = 0
    ·left; exact ⟨h, by rw [hL, h]; rfl⟩
    ·right; exact ⟨h, by rw [hL]; exact h3.2 h⟩
   have HRR2 := HRR.out
   clear hb9 hL
   cases S with
   | true =>
    have hRR : R = -1 := by rw [HRR2]; rfl
    subst hRR
    clear hM HRR2
    go_wp2
    rw [HP.out]
    exact ⟨rfl, HB9.out⟩
   | false =>
    rcases hM with ⟨hM0, hL0⟩ | ⟨hM0, hL0⟩
    ·have hRR : R = 0 := by rw [HRR2, hM0]; rfl
     subst hL0 hRR
     clear HRR2 hM0
     have t0 : ¬ (0 : Int) < ((0 : Nat) : Int) := by omega
     go_wp2
     rw [HP.out]
     exact ⟨rfl, HB9.out⟩
    ·have hRR : R = 1 := by rw [HRR2, if_neg (by decide), if_neg hM0]
     subst hRR
     clear HRR2 hM0
     have t0 : (0 : Int) < (Lu3 : Int) := by omega
     go_wp2
     rw [HP.out]
     exact ⟨rfl, HB9.out⟩
 ·go_simp
  have hbx : Below W0.heap.size W0 (X0.alloc (.cells #[.bool false, .slice none 0 0] 72)) := HDD.out.alloc HDD.out.size _
  have hpx : (X0.alloc (.cells #[.bool false, .slice none 0 0] 72)).heap[X0.heap.size]? = some (.cells #[.bool false, .slice none 0 0] 72) := heap_alloc_new X0 _
  have hbd : Below X0.heap.size X0 (X0.alloc (.cells #[.bool false, .slice none 0 0] 72)) := (Below.refl _ _).alloc (Nat.le_refl _) _
  have HD1 := Lib.hid hbx
  have HP1 := Lib.hid hpx
  have HF1A := Lib.hid (numH_below HHA.out hbd)
  have HF1B := Lib.hid (numH_below HHC.out hbd)
  refine hK.out _ _ (hcx.out _ hbx) (fun hHeld1 => ?_)
  clear hbd hbx hpx hK K hHeld
  try simp only [Act.put, List.setIfInBounds_toArray, List.set_cons_zero, List.set_cons_succ]
  generalize X0.alloc (.cells #[.bool false, .slice none 0 0] 72) = x1 at HD1 HP1 HF1A HF1B ⊢
  refine wpAnyD_keep 2 (by kernel_rfl) rfl (fun K hK => ?_)
  go_simp
  go_at_call 89
  (with_reducible refine (HNEG.out _ _ HF1B.out).mono ?_)
  rintro e u4 ⟨vu4, rfl, hnu4, hbu⟩
  obtain ⟨au4, Lu4, cu4, eu4⟩ : ∃ a L c, vu4 = .slice a L c := by obtain ⟨x, y, h⟩ := reads_len hnu4; exact ⟨x, _, y, h⟩
  subst eu4
  have hbx := below_via HD1.out hbu
  have HD2 := Lib.hid hbx
  have HF2A := Lib.hid (numH_below HF1A.out hbu)
  have HF2B := Lib.hid (numH_below HF1B.out hbu)
  have HF2u4 := Lib.hid hnu4
  have HP2 := Lib.hid ((hbu.block _ (lt_of_heap HP1.out)).trans HP1.out)
  refine hK.out _ _ (hcx.out _ hbx) (fun hHeld2 => ?_)
  clear hbu hbx hnu4 hK K hHeld1
  try simp only [Act.put, List.setIfInBounds_toArray, List.set_cons_zero, List.set_cons_succ]
  refine wpAnyD_keep 3 (by kernel_rfl) rfl (fun K hK => ?_)
  go_simp
  go_at_call 85
  (with_reducible refine (HADD.out _ _ _ HF2A.out HF2u4.out).mono ?_)
  rintro e u5 ⟨vu5, rfl, hnu5, hbu⟩
  obtain ⟨au5, Lu5, cu5, eu5⟩ : ∃ a L c, vu5 = .slice a L c := by obtain ⟨x, y, h⟩ := reads_len hnu5; exact ⟨x, _, y, h⟩
  subst eu5
  have hbx := below_via HD2.out hbu
  have HD3 := Lib.hid hbx
  have HF3A := Lib.hid (numH_below HF2A.out hbu)
  have HF3B := Lib.hid (numH_below HF2B.out hbu)
  have HF3u4 := Lib.hid (numH_below HF2u4.out hbu)
  have HF3u5 := Lib.hid hnu5
  have HP3 := Lib.hid ((hbu.block _ (lt_of_heap HP2.out)).trans HP2.out)
  refine hK.out _ _ (hcx.out _ hbx) (fun hHeld3 => ?_)
  clear hbu hbx hnu5 hK K hHeld2
  try simp only [Act.put, List.setIfInBounds_toArray, List.set_cons_zero, List.set_cons_succ]
  have hPz : W0.heap.size ≤ X0.heap.size := by first | exact Nat.le_refl _ | exact HDD.out.size
  obtain ⟨d0, d1, fz0, fz1⟩ := num_cells HP3.out
  refine wpAnyD_step 5 (by kernel_rfl) rfl rfl (fun K hK => ?_)
  go_simp
  refine hK.out _ _ ?_
  clear hK K hHeld3 d0 d1 fz0 fz1
  try simp only [Act.put, List.setIfInBounds_toArray, List.set_cons_zero, List.set_cons_succ]
  refine wpAnyD_end (by kernel_rfl) ?_
  have m2 := num_set HP3.out (.bool S) (.slice au5 Lu5 cu5)
  have hb9 : Below W0.heap.size W0 ((u5.setCell ⟨X0.heap.size, 0, none⟩ (.bool S)).setCell ⟨X0.heap.size, 1, none⟩ (.slice au5 Lu5 cu5)) := (HD3.out.setCell hPz _).setCell hPz _
  have hL : Lu5 = (hw M).length := by
   obtain ⟨x, y, e⟩ := reads_len HF3u5.out
   injection e with _ e2 _
   rw [e2, List.length_map]
  obtain ⟨d20, d21, -, -⟩ := num_cells m2
  clear m2
  generalize (u5.setCell ⟨X0.heap.size, 0, none⟩ (.bool S)).setCell ⟨X0.heap.size, 1, none⟩ (.slice au5 Lu5 cu5) = W9 at d20 d21 hb9 ⊢
  have HB9 := Lib.hid (HB0.out.trans (hb9.mono HB0.out.size))
  have hM : (M = 0 ∧ Lu5 = 0) ∨ (M ≠ 0 ∧ 0 < Lu5) := by
   have h3 := hw_pos (n := M)
   by_cases h : M = 0
   ·left; exact ⟨h, by rw [hL, h]; rfl⟩
   ·right; exact ⟨h, by rw [hL]; exact h3.2 h⟩
  have HRR2 := HRR.out
  clear hb9 hL
  cases S with
  | true =>
   have hRR : R = -1 := by rw [HRR2]; rfl
   subst hRR
   clear hM HRR2
   go_wp2
   rw [HP.out]
   exact ⟨rfl, HB9.out⟩
  | false =>
   rcases hM with ⟨hM0, hL0⟩ | ⟨hM0, hL0⟩
   ·have hRR : R = 0 := by rw [HRR2, hM0]; rfl
    subst hL0 hRR
    clear HRR2 hM0
    have t0 : ¬ (0 : Int) < ((0 : Nat) : Int) := by omega
    go_wp2
    rw [HP.out]
    exact ⟨rfl, HB9.out⟩
   ·have hRR : R = 1 := by rw [HRR2, if_neg (by decide), if_neg hM0]
    subst hRR
    clear HRR2 hM0
    have t0 : (0 : Int) < (Lu5 : Int) := by omega
    go_wp2
    rw [HP.out]
    exact ⟨rfl, HB9.out⟩
end
/- Binary digits, comparisons: both. -/
/- Comparisons, negatives, absolute values and maxima: both. -/
section
open Go.RowKit Go.Shelf Go.WideNum
theorem refCmp_any (na : Bool) (sa : ByteArray) (nb : Bool) (sb : ByteArray) (hsa : sa.size ≤ maxLen) (hsb : sb.size ≤ maxLen) (R E : Int) (h : cmpF na sa nb sb = (R, E)) (w : World) :
  Calls Tryz.prog 63 #[.agg #[.bool na, .string sa], .agg #[.bool nb, .string sb]] w fun e w' => e = .returned (.tuple #[.int .i64 R, .int .i64 E]) ∧ Below w.heap.size w w' := by
 obtain ⟨HPOST, hpost⟩ : ∃ X : Ending → World → Prop, X = fun e w' => e = .returned (.tuple #[.int .i64 R, .int .i64 E]) ∧ Below w.heap.size w w' := ⟨_, rfl⟩
 rw [← hpost]
 have HP := Lib.hid hpost
 clear hpost
 obtain ⟨oka, hoka⟩ : ∃ ok, ok = validB na sa := ⟨_, rfl⟩
 obtain ⟨okb, hokb⟩ : ∃ ok, ok = validB nb sb := ⟨_, rfl⟩
 have HVA := Lib.hid (refValid_wide na sa hsa oka hoka)
 have HVB := Lib.hid (refValid_wide nb sb hsb okb hokb)
 unfold cmpF at h
 rw [← hoka, ← hokb] at h
 have HOA := Lib.hid hoka
 have HOB := Lib.hid hokb
 have HH := Lib.hid h
 clear hoka hokb h
 obtain ⟨W0, hW0⟩ : ∃ W0, W0 = (w.alloc (.cells #[.bool na, .string sa] 40)).alloc (.cells #[.bool nb, .string sb] 40) := ⟨_, rfl⟩
 have g0 : W0.heap[w.heap.size]? = some (.cells #[.bool na, .string sa] 40) := by rw [hW0, Below.heap_alloc _ _ _ (by simp)]; exact heap_alloc_new w _
 have g1 : W0.heap[w.heap.size + 1]? = some (.cells #[.bool nb, .string sb] 40) := by rw [hW0]; exact alloc_last _ _ (by simp)
 have hb0 : Below w.heap.size w W0 := by rw [hW0]; exact (((Below.refl _ w).alloc (Nat.le_refl _) _).alloc (by simp) _)
 have HB0 := Lib.hid hb0
 have hcx : Hid (∀ W, Below W0.heap.size W0 W → W.cell? ⟨w.heap.size, 0, none⟩ = some (.bool na) ∧ W.cell? ⟨w.heap.size, 1, none⟩ = some (.string sa) ∧ W.cell? ⟨w.heap.size + 1, 0, none⟩ = some (.bool nb) ∧ W.cell? ⟨w.heap.size + 1, 1, none⟩ = some (.string sb)) :=
  fun W hb => keep4 ((hb.block _ (lt_of_heap g0)).trans g0) ((hb.block _ (lt_of_heap g1)).trans g1)
 have HW0 := Lib.hid hW0
 clear hb0 g0 g1 hW0
 obtain ⟨c00, c01, c10, c11⟩ := hcx.out W0 (Below.refl _ W0)
 go_enter Tryz.func63, Tryz.ntmps63
 go_upto_region 1 with (fail)
 rw [← HW0.out]
 go_wp2_with fail
 (with_reducible refine (HVA.out _).mono ?_)
 rintro e w1 ⟨rfl, hb1⟩
 have HB1 := Lib.hid hb1
 clear c00 c01 c10 c11 hb1
 obtain ⟨c00, c01, c10, c11⟩ := hcx.out w1 HB1.out
 cases oka with
 | false =>
  obtain ⟨rfl, rfl⟩ : R = 0 ∧ E = 2 := by
   have h : ((0 : Int), (2 : Int)) = (R, E) := HH.out
   injection h with h1 h2
   exact ⟨h1.symm, h2.symm⟩
  have HBW := Lib.hid (HB0.out.trans (HB1.out.mono HB0.out.size))
  clear c00 c01 c10 c11
  go_wp2
  rw [HP.out]
  exact ⟨rfl, HBW.out⟩
 | true =>
  go_wp2_with fail
  (with_reducible refine (HVB.out _).mono ?_)
  rintro e w2 ⟨rfl, hb2⟩
  have HB2 := Lib.hid (below_via HB1.out hb2)
  clear c00 c01 c10 c11 hb2
  cases okb with
  | false =>
   obtain ⟨rfl, rfl⟩ : R = 0 ∧ E = 2 := by
    have h : ((0 : Int), (2 : Int)) = (R, E) := HH.out
    injection h with h1 h2
    exact ⟨h1.symm, h2.symm⟩
   have HBW := Lib.hid (HB0.out.trans (HB2.out.mono HB0.out.size))
   go_wp2
   rw [HP.out]
   exact ⟨rfl, HBW.out⟩
  | true =>
   obtain ⟨l1, -, -, -⟩ := valid_spec na sa HOA.out.symm
   obtain ⟨l2, -, -, -⟩ := valid_spec nb sb HOB.out.symm
   have HINA := Lib.hid (in_any na sa HOA.out.symm)
   have HINB := Lib.hid (in_any nb sb HOB.out.symm)
   have hwa := hw_len129 l1
   have hwb := hw_len129 l2
   obtain ⟨rfl, rfl⟩ : R = cmpZ (zV na sa) (zV nb sb) ∧ E = 0 := by
    have h : (cmpZ (zV na sa) (zV nb sb), (0 : Int)) = (R, E) := by have h := HH.out; simpa using h
    injection h with h1 h2
    exact ⟨h1.symm, h2.symm⟩
   unfold zV at HP
   obtain ⟨A, eA⟩ : ∃ A, A = numB sa := ⟨_, rfl⟩
   obtain ⟨C, eC⟩ : ∃ C, C = numB sb := ⟨_, rfl⟩
   rw [← eA] at HP hwa HINA
   rw [← eC] at HP hwb HINB
   have HCM : Hid (∀ W va vb, World.numH W va A → World.numH W vb C → Calls Tryz.prog 87 #[.agg #[.bool na, va], .agg #[.bool nb, vb]] W fun e w' => e = .returned (.int .i64 (cmpZ (zOf na A) (zOf nb C))) ∧ Below W.heap.size W w') := fun W va vb h1 h2 => hcompare_any na A va nb C vb W h1 h2 (by omega) (by omega)
   obtain ⟨R, hR⟩ : ∃ R, R = cmpZ (zOf na A) (zOf nb C) := ⟨_, rfl⟩
   rw [← hR] at HCM HP
   clear eA eC l1 l2 hwa hwb hR HH
   obtain ⟨c00, c01, c10, c11⟩ := hcx.out w2 HB2.out
   go_wp2_with fail
   refine wp_region_late (fun w' => w'.cell? ⟨w.heap.size, 0, none⟩ = some (.bool na) ∧ w'.cell? ⟨w.heap.size, 1, none⟩ = some (.string sa) ∧ w'.cell? ⟨w.heap.size + 1, 0, none⟩ = some (.bool nb) ∧ w'.cell? ⟨w.heap.size + 1, 1, none⟩ = some (.string sb)) (fun _ => false) (by kernel_rfl) ⟨c00, c01, c10, c11⟩ (fun hHeld => ?_)
   refine tkD 0 (v := ?_) rfl ?_ ?_
   rotate_left
   ·(intro wq hSq; (try dsimp only at hSq); go_simp; try with_reducible rfl)
   try simp only [Act.put, List.setIfInBounds_toArray, List.set_cons_zero, List.set_cons_succ]
   refine tkD 2 (v := ?_) rfl ?_ ?_
   rotate_left
   ·(intro wq hSq; (try dsimp only at hSq); go_simp; try with_reducible rfl)
   try simp only [Act.put, List.setIfInBounds_toArray, List.set_cons_zero, List.set_cons_succ]
   clear c00 c01 c10 c11
   refine wpAnyD_keep 1 (by kernel_rfl) rfl (fun K hK => ?_)
   go_simp
   go_at_call 81
   (with_reducible refine (HINA.out _).mono ?_)
   rintro e u1 ⟨vu1, rfl, hnu1, hbu⟩
   obtain ⟨au1, Lu1, cu1, eu1⟩ : ∃ a L c, vu1 = .slice a L c := by obtain ⟨x, y, h⟩ := reads_len hnu1; exact ⟨x, _, y, h⟩
   subst eu1
   have HNu1 := Lib.hid hnu1
   have HB3 := Lib.hid (below_viaD HB2.out hbu)
   refine hK.out _ _ (hcx.out _ HB3.out) (fun hHeld1 => ?_)
   clear hbu hnu1 hK K hHeld
   try simp only [Act.put, List.setIfInBounds_toArray, List.set_cons_zero, List.set_cons_succ]
   refine wpAnyD_keep 3 (by kernel_rfl) rfl (fun K hK => ?_)
   go_simp
   go_at_call 81
   (with_reducible refine (HINB.out _).mono ?_)
   rintro e u2 ⟨vu2, rfl, hnu2, hbu⟩
   obtain ⟨au2, Lu2, cu2, eu2⟩ : ∃ a L c, vu2 = .slice a L c := by obtain ⟨x, y, h⟩ := reads_len hnu2; exact ⟨x, _, y, h⟩
   subst eu2
   have HNu2 := Lib.hid hnu2
   have HB4 := Lib.hid (below_via HB3.out hbu)
   have HNA2 := Lib.hid (numH_below HNu1.out hbu)
   refine hK.out _ _ (hcx.out _ HB4.out) (fun hHeld2 => ?_)
   clear hbu hnu2 hK K hHeld1
   try simp only [Act.put, List.setIfInBounds_toArray, List.set_cons_zero, List.set_cons_succ]
   refine wpAnyD_keep 4 (by kernel_rfl) rfl (fun K hK => ?_)
   go_simp
   go_at_call 87
   (with_reducible refine (HCM.out _ _ _ HNA2.out HNu2.out).mono ?_)
   rintro e u3 ⟨rfl, hbu⟩
   have HB5 := Lib.hid (below_via HB4.out hbu)
   refine hK.out _ _ (hcx.out _ HB5.out) (fun hHeld3 => ?_)
   clear hbu hK K hHeld2
   try simp only [Act.put, List.setIfInBounds_toArray, List.set_cons_zero, List.set_cons_succ]
   refine tkW 5 (v := ?_) rfl ?_ ?_
   rotate_left
   ·(intro wq hSq; (try dsimp only at hSq); go_simp; try with_reducible rfl)
   try simp only [Act.put, List.setIfInBounds_toArray, List.set_cons_zero, List.set_cons_succ]
   refine tkW 6 (v := ?_) rfl ?_ ?_
   rotate_left
   ·(intro wq hSq; (try dsimp only at hSq); go_simp; try with_reducible rfl)
   try simp only [Act.put, List.setIfInBounds_toArray, List.set_cons_zero, List.set_cons_succ]
   refine wpAnyD_end (by kernel_rfl) ?_
   have HBW := Lib.hid (HB0.out.trans (HB5.out.mono HB0.out.size))
   go_wp2
   rw [HP.out]
   exact ⟨rfl, HBW.out⟩
def absF (neg : Bool) (s : ByteArray) : Bool × ByteArray × Int := if validB neg s then (false, s, 0) else (false, ⟨#[]⟩, 2)
theorem refAbs_any (neg : Bool) (s : ByteArray) (hs : s.size ≤ maxLen) (fb : Bool) (ft : ByteArray) (E : Int) (h : absF neg s = (fb, ft, E)) (w : World) :
  Calls Tryz.prog 28 #[.agg #[.bool neg, .string s]] w fun e w' => e = .returned (.tuple #[.agg #[.bool fb, .string ft], .int .i64 E]) ∧ Below w.heap.size w w' := by
 obtain ⟨HPOST, hpost⟩ : ∃ X : Ending → World → Prop, X = fun e w' => e = .returned (.tuple #[.agg #[.bool fb, .string ft], .int .i64 E]) ∧ Below w.heap.size w w' := ⟨_, rfl⟩
 rw [← hpost]
 have HP := Lib.hid hpost
 clear hpost
 have hs63 : s.size ≤ 9223372036854775807 := hs
 obtain ⟨ok, hok⟩ : ∃ ok, ok = validB neg s := ⟨_, rfl⟩
 have HV : Hid (∀ W : World, Calls Tryz.prog 62 #[.agg #[.bool neg, .string s]] W fun e w' => e = .returned (.bool ok) ∧ Below W.heap.size W w') := fun W => by rw [hok]; exact refValid_wide neg s hs _ rfl W
 unfold absF at h
 rw [← hok] at h
 have HOK := Lib.hid hok
 have HH := Lib.hid h
 clear hok h
 obtain ⟨W0, hW0⟩ : ∃ W0, W0 = (w.alloc (.cells #[.bool neg, .string s] 40)).alloc (.cells #[.bool false, .string ⟨#[]⟩] 40) := ⟨_, rfl⟩
 have g0 : W0.heap[w.heap.size]? = some (.cells #[.bool neg, .string s] 40) := by rw [hW0, Below.heap_alloc _ _ _ (by simp)]; exact heap_alloc_new w _
 have g1 : W0.heap[w.heap.size + 1]? = some (.cells #[.bool false, .string ⟨#[]⟩] 40) := by rw [hW0]; exact alloc_last _ _ (by simp)
 have hb0 : Below w.heap.size w W0 := by rw [hW0]; exact (((Below.refl _ w).alloc (Nat.le_refl _) _).alloc (by simp) _)
 have HB0 := Lib.hid hb0
 have HG0 := Lib.hid g0
 have HG1 := Lib.hid g1
 have HW0 := Lib.hid hW0
 obtain ⟨c0, c1, f0⟩ := wide_cells g0
 clear hb0 g0 g1 hW0
 go_enter Tryz.func28, Tryz.ntmps28
 go_upto_region 1 with (fail)
 rw [← HW0.out]
 go_wp2_with fail
 (with_reducible refine (HV.out _).mono ?_)
 rintro e w1 ⟨rfl, hb1⟩
 have HK0 := Lib.hid (wide_hold (w := W0) HG0.out hb1)
 have HK1 := Lib.hid (wide_hold (w := W0) HG1.out hb1)
 have HB1 := Lib.hid (HB0.out.trans (hb1.mono HB0.out.size))
 clear c0 c1 f0 hb1
 obtain ⟨c0, c1, f0⟩ := wide_cells HK0.out
 obtain ⟨d0, d1, f1⟩ := wide_cells HK1.out
 cases ok with
 | false =>
  obtain ⟨rfl, rfl, rfl⟩ : fb = false ∧ ft = ⟨#[]⟩ ∧ E = 2 := by
   have h : (false, (⟨#[]⟩ : ByteArray), (2 : Int)) = (fb, ft, E) := HH.out
   injection h with h1 h2
   injection h2 with h2 h3
   exact ⟨h1.symm, h2.symm, h3.symm⟩
  clear HH c0 c1 f0
  go_wp2
  have m2 := wide_set HK1.out false ⟨#[]⟩
  have hb9 := below_set2 (p := w.heap.size + 1) HB1.out (by omega) false ⟨#[]⟩
  clear d0 d1 f1
  obtain ⟨d20, d21, -⟩ := wide_cells m2
  clear m2
  generalize (w1.setCell ⟨w.heap.size + 1, 0, none⟩ (.bool false)).setCell ⟨w.heap.size + 1, 1, none⟩ (.string ⟨#[]⟩) = W9 at d20 d21 hb9 ⊢
  rw [HP.out]
  exact bodyPost_ret (v := .tuple #[.agg #[.bool false, .string ⟨#[]⟩], .int .i64 2]) (by simp [results, Tryz.results28, go_sem, d20, d21]) rfl ⟨rfl, hb9⟩
 | true =>
  obtain ⟨rfl, rfl, rfl⟩ : fb = false ∧ ft = s ∧ E = 0 := by
   have h : (false, s, (0 : Int)) = (fb, ft, E) := by have h := HH.out; simpa using h
   injection h with h1 h2
   injection h2 with h2 h3
   exact ⟨h1.symm, h2.symm, h3.symm⟩
  clear HH
  go_wp2
  have m2 := wide_set HK1.out false ft
  have hb9 := below_set2 (p := w.heap.size + 1) HB1.out (by omega) false ft
  clear d0 d1 f1
  obtain ⟨d20, d21, -⟩ := wide_cells m2
  clear m2
  generalize (w1.setCell ⟨w.heap.size + 1, 0, none⟩ (.bool false)).setCell ⟨w.heap.size + 1, 1, none⟩ (.string ft) = W9 at d20 d21 hb9 ⊢
  rw [HP.out]
  exact bodyPost_ret (v := .tuple #[.agg #[.bool false, .string ft], .int .i64 0]) (by simp [results, Tryz.results28, go_sem, d20, d21]) rfl ⟨rfl, hb9⟩
def maxF (na : Bool) (sa : ByteArray) (nb : Bool) (sb : ByteArray) : Bool × ByteArray × Int := match cmpF na sa nb sb with
 | (c, E) => if E = 0 then (if c < 0 then (nb, sb, 0) else (na, sa, 0)) else (false, ⟨#[]⟩, E)
theorem Cmp_res (na : Bool) (sa : ByteArray) (nb : Bool) (sb : ByteArray) (hsa : sa.size ≤ maxLen) (hsb : sb.size ≤ maxLen) (R E : Int) (h : cmpF na sa nb sb = (R, E)) (w : World) :
  Calls Tryz.prog 49 #[.agg #[.bool na, .string sa], .agg #[.bool nb, .string sb]] w fun e w' => e = .returned (.tuple #[.int .i64 R, .int .i64 E]) ∧ Below w.heap.size w w' := by
 have := Cmp_any na sa nb sb hsa hsb w
 rwa [h] at this
theorem Max_any (na : Bool) (sa : ByteArray) (nb : Bool) (sb : ByteArray) (hsa : sa.size ≤ maxLen) (hsb : sb.size ≤ maxLen) (w : World) :
  Calls Tryz.prog 21 #[.agg #[.bool na, .string sa], .agg #[.bool nb, .string sb]] w fun e w' => e = .returned (.tuple #[.agg #[.bool (maxF na sa nb sb).1, .string (maxF na sa nb sb).2.1], .int .i64 (maxF na sa nb sb).2.2]) ∧ Below w.heap.size w w' := by
 obtain ⟨HPOST, hpost⟩ : ∃ X : Ending → World → Prop, X = fun e w' => e = .returned (.tuple #[.agg #[.bool (maxF na sa nb sb).1, .string (maxF na sa nb sb).2.1], .int .i64 (maxF na sa nb sb).2.2]) ∧ Below w.heap.size w w' := ⟨_, rfl⟩
 rw [← hpost]
 have HP := Lib.hid hpost
 clear hpost
 obtain ⟨c, E, hc⟩ : ∃ c E, cmpF na sa nb sb = (c, E) := ⟨_, _, rfl⟩
 have HC := Lib.hid (Cmp_res na sa nb sb hsa hsb c E hc)
 have HH0 : Hid (maxF na sa nb sb = if E = 0 then (if c < 0 then (nb, sb, 0) else (na, sa, 0)) else (false, ⟨#[]⟩, E)) := by show _ = _; unfold maxF; rw [hc]
 have hE : E = 0 ∨ E = 2 := by
  unfold cmpF at hc
  split at hc <;> (injection hc with _ h2; omega)
 clear hc
 obtain ⟨W0, hW0⟩ : ∃ W0, W0 = ((w.alloc (.cells #[.bool na, .string sa] 40)).alloc (.cells #[.bool nb, .string sb] 40)).alloc (.cells #[.bool false, .string ⟨#[]⟩] 40) := ⟨_, rfl⟩
 have g0 : W0.heap[w.heap.size]? = some (.cells #[.bool na, .string sa] 40) := by rw [hW0, Below.heap_alloc _ _ _ (by simp; omega), Below.heap_alloc _ _ _ (by simp)]; exact heap_alloc_new w _
 have g1 : W0.heap[w.heap.size + 1]? = some (.cells #[.bool nb, .string sb] 40) := by rw [hW0, Below.heap_alloc _ _ _ (by simp)]; exact alloc_last _ _ (by simp)
 have g2 : W0.heap[w.heap.size + 1 + 1]? = some (.cells #[.bool false, .string ⟨#[]⟩] 40) := by rw [hW0]; exact alloc_last _ _ (by simp)
 have hb0 : Below w.heap.size w W0 := by rw [hW0]; exact ((((Below.refl _ w).alloc (Nat.le_refl _) _).alloc (by simp) _).alloc (by simp; omega) _)
 have HB0 := Lib.hid hb0
 have HG0 := Lib.hid g0
 have HG1 := Lib.hid g1
 have HG2 := Lib.hid g2
 have HW0 := Lib.hid hW0
 obtain ⟨c00, c01, f0⟩ := wide_cells g0
 obtain ⟨c10, c11, f1⟩ := wide_cells g1
 clear hb0 g0 g1 g2 hW0
 go_enter Tryz.func21, Tryz.ntmps21
 go_upto_region 1 with (fail)
 rw [← HW0.out]
 go_wp2_with fail
 (with_reducible refine (HC.out _).mono ?_)
 rintro e w1 ⟨rfl, hb1⟩
 have HK0 := Lib.hid (wide_hold (w := W0) HG0.out hb1)
 have HK1 := Lib.hid (wide_hold (w := W0) HG1.out hb1)
 have HK2 := Lib.hid (wide_hold (w := W0) HG2.out hb1)
 have HB1 := Lib.hid (HB0.out.trans (hb1.mono HB0.out.size))
 clear c00 c01 f0 c10 c11 f1 hb1
 obtain ⟨c00, c01, -⟩ := wide_cells HK0.out
 obtain ⟨c10, c11, -⟩ := wide_cells HK1.out
 obtain ⟨d0, d1, f2⟩ := wide_cells HK2.out
 rcases hE with rfl | rfl
 ·by_cases hlt : c < 0
  ·have HH : Hid (maxF na sa nb sb = (nb, sb, 0)) := by show _ = _; rw [HH0.out, if_pos rfl, if_pos hlt]
   clear HH0
   go_wp2
   have m2 := wide_set HK2.out nb sb
   have hb9 := below_set2 (p := w.heap.size + 1 + 1) HB1.out (by omega) nb sb
   clear d0 d1 f2
   obtain ⟨d20, d21, -⟩ := wide_cells m2
   clear m2
   generalize (w1.setCell ⟨w.heap.size + 1 + 1, 0, none⟩ (.bool nb)).setCell ⟨w.heap.size + 1 + 1, 1, none⟩ (.string sb) = W9 at d20 d21 hb9 ⊢
   rw [HP.out]
   exact bodyPost_ret (v := .tuple #[.agg #[.bool nb, .string sb], .int .i64 0]) (by simp [results, Tryz.results21, go_sem, d20, d21]) rfl ⟨by rw [HH.out], hb9⟩
  ·have HH : Hid (maxF na sa nb sb = (na, sa, 0)) := by show _ = _; rw [HH0.out, if_pos rfl, if_neg hlt]
   clear HH0
   go_wp2
   have m2 := wide_set HK2.out na sa
   have hb9 := below_set2 (p := w.heap.size + 1 + 1) HB1.out (by omega) na sa
   clear d0 d1 f2
   obtain ⟨d20, d21, -⟩ := wide_cells m2
   clear m2
   generalize (w1.setCell ⟨w.heap.size + 1 + 1, 0, none⟩ (.bool na)).setCell ⟨w.heap.size + 1 + 1, 1, none⟩ (.string sa) = W9 at d20 d21 hb9 ⊢
   rw [HP.out]
   exact bodyPost_ret (v := .tuple #[.agg #[.bool na, .string sa], .int .i64 0]) (by simp [results, Tryz.results21, go_sem, d20, d21]) rfl ⟨by rw [HH.out], hb9⟩
 ·have HH : Hid (maxF na sa nb sb = (false, ⟨#[]⟩, 2)) := by show _ = _; rw [HH0.out, if_neg (by decide)]
  clear HH0
  go_wp2
  have m2 := wide_set HK2.out false ⟨#[]⟩
  have hb9 := below_set2 (p := w.heap.size + 1 + 1) HB1.out (by omega) false ⟨#[]⟩
  clear d0 d1 f2
  obtain ⟨d20, d21, -⟩ := wide_cells m2
  clear m2
  generalize (w1.setCell ⟨w.heap.size + 1 + 1, 0, none⟩ (.bool false)).setCell ⟨w.heap.size + 1 + 1, 1, none⟩ (.string ⟨#[]⟩) = W9 at d20 d21 hb9 ⊢
  rw [HP.out]
  exact bodyPost_ret (v := .tuple #[.agg #[.bool false, .string ⟨#[]⟩], .int .i64 2]) (by simp [results, Tryz.results21, go_sem, d20, d21]) rfl ⟨by rw [HH.out], hb9⟩
theorem refMax_any (na : Bool) (sa : ByteArray) (nb : Bool) (sb : ByteArray) (hsa : sa.size ≤ maxLen) (hsb : sb.size ≤ maxLen) (w : World) :
  Calls Tryz.prog 29 #[.agg #[.bool na, .string sa], .agg #[.bool nb, .string sb]] w fun e w' => e = .returned (.tuple #[.agg #[.bool (maxF na sa nb sb).1, .string (maxF na sa nb sb).2.1], .int .i64 (maxF na sa nb sb).2.2]) ∧ Below w.heap.size w w' := by
 obtain ⟨HPOST, hpost⟩ : ∃ X : Ending → World → Prop, X = fun e w' => e = .returned (.tuple #[.agg #[.bool (maxF na sa nb sb).1, .string (maxF na sa nb sb).2.1], .int .i64 (maxF na sa nb sb).2.2]) ∧ Below w.heap.size w w' := ⟨_, rfl⟩
 rw [← hpost]
 have HP := Lib.hid hpost
 clear hpost
 obtain ⟨c, E, hc⟩ : ∃ c E, cmpF na sa nb sb = (c, E) := ⟨_, _, rfl⟩
 have HC := Lib.hid (refCmp_any na sa nb sb hsa hsb c E hc)
 have HH0 : Hid (maxF na sa nb sb = if E = 0 then (if c < 0 then (nb, sb, 0) else (na, sa, 0)) else (false, ⟨#[]⟩, E)) := by show _ = _; unfold maxF; rw [hc]
 have hE : E = 0 ∨ E = 2 := by
  unfold cmpF at hc
  split at hc <;> (injection hc with _ h2; omega)
 clear hc
 obtain ⟨W0, hW0⟩ : ∃ W0, W0 = ((w.alloc (.cells #[.bool na, .string sa] 40)).alloc (.cells #[.bool nb, .string sb] 40)).alloc (.cells #[.bool false, .string ⟨#[]⟩] 40) := ⟨_, rfl⟩
 have g0 : W0.heap[w.heap.size]? = some (.cells #[.bool na, .string sa] 40) := by rw [hW0, Below.heap_alloc _ _ _ (by simp; omega), Below.heap_alloc _ _ _ (by simp)]; exact heap_alloc_new w _
 have g1 : W0.heap[w.heap.size + 1]? = some (.cells #[.bool nb, .string sb] 40) := by rw [hW0, Below.heap_alloc _ _ _ (by simp)]; exact alloc_last _ _ (by simp)
 have g2 : W0.heap[w.heap.size + 1 + 1]? = some (.cells #[.bool false, .string ⟨#[]⟩] 40) := by rw [hW0]; exact alloc_last _ _ (by simp)
 have hb0 : Below w.heap.size w W0 := by rw [hW0]; exact ((((Below.refl _ w).alloc (Nat.le_refl _) _).alloc (by simp) _).alloc (by simp; omega) _)
 have HB0 := Lib.hid hb0
 have HG0 := Lib.hid g0
 have HG1 := Lib.hid g1
 have HG2 := Lib.hid g2
 have HW0 := Lib.hid hW0
 obtain ⟨c00, c01, f0⟩ := wide_cells g0
 obtain ⟨c10, c11, f1⟩ := wide_cells g1
 clear hb0 g0 g1 g2 hW0
 go_enter Tryz.func29, Tryz.ntmps29
 go_upto_region 1 with (fail)
 rw [← HW0.out]
 go_wp2_with fail
 (with_reducible refine (HC.out _).mono ?_)
 rintro e w1 ⟨rfl, hb1⟩
 have HK0 := Lib.hid (wide_hold (w := W0) HG0.out hb1)
 have HK1 := Lib.hid (wide_hold (w := W0) HG1.out hb1)
 have HK2 := Lib.hid (wide_hold (w := W0) HG2.out hb1)
 have HB1 := Lib.hid (HB0.out.trans (hb1.mono HB0.out.size))
 clear c00 c01 f0 c10 c11 f1 hb1
 obtain ⟨c00, c01, -⟩ := wide_cells HK0.out
 obtain ⟨c10, c11, -⟩ := wide_cells HK1.out
 obtain ⟨d0, d1, f2⟩ := wide_cells HK2.out
 rcases hE with rfl | rfl
 ·by_cases hlt : c < 0
  ·have HH : Hid (maxF na sa nb sb = (nb, sb, 0)) := by show _ = _; rw [HH0.out, if_pos rfl, if_pos hlt]
   clear HH0
   go_wp2
   have m2 := wide_set HK2.out nb sb
   have hb9 := below_set2 (p := w.heap.size + 1 + 1) HB1.out (by omega) nb sb
   clear d0 d1 f2
   obtain ⟨d20, d21, -⟩ := wide_cells m2
   clear m2
   generalize (w1.setCell ⟨w.heap.size + 1 + 1, 0, none⟩ (.bool nb)).setCell ⟨w.heap.size + 1 + 1, 1, none⟩ (.string sb) = W9 at d20 d21 hb9 ⊢
   rw [HP.out]
   exact bodyPost_ret (v := .tuple #[.agg #[.bool nb, .string sb], .int .i64 0]) (by simp [results, Tryz.results29, go_sem, d20, d21]) rfl ⟨by rw [HH.out], hb9⟩
  ·have HH : Hid (maxF na sa nb sb = (na, sa, 0)) := by show _ = _; rw [HH0.out, if_pos rfl, if_neg hlt]
   clear HH0
   go_wp2
   have m2 := wide_set HK2.out na sa
   have hb9 := below_set2 (p := w.heap.size + 1 + 1) HB1.out (by omega) na sa
   clear d0 d1 f2
   obtain ⟨d20, d21, -⟩ := wide_cells m2
   clear m2
   generalize (w1.setCell ⟨w.heap.size + 1 + 1, 0, none⟩ (.bool na)).setCell ⟨w.heap.size + 1 + 1, 1, none⟩ (.string sa) = W9 at d20 d21 hb9 ⊢
   rw [HP.out]
   exact bodyPost_ret (v := .tuple #[.agg #[.bool na, .string sa], .int .i64 0]) (by simp [results, Tryz.results29, go_sem, d20, d21]) rfl ⟨by rw [HH.out], hb9⟩
 ·have HH : Hid (maxF na sa nb sb = (false, ⟨#[]⟩, 2)) := by show _ = _; rw [HH0.out, if_neg (by decide)]
  clear HH0
  go_wp2
  have m2 := wide_set HK2.out false ⟨#[]⟩
  have hb9 := below_set2 (p := w.heap.size + 1 + 1) HB1.out (by omega) false ⟨#[]⟩
  clear d0 d1 f2
  obtain ⟨d20, d21, -⟩ := wide_cells m2
  clear m2
  generalize (w1.setCell ⟨w.heap.size + 1 + 1, 0, none⟩ (.bool false)).setCell ⟨w.heap.size + 1 + 1, 1, none⟩ (.string ⟨#[]⟩) = W9 at d20 d21 hb9 ⊢
  rw [HP.out]
  exact bodyPost_ret (v := .tuple #[.agg #[.bool false, .string ⟨#[]⟩], .int .i64 2]) (by simp [results, Tryz.results29, go_sem, d20, d21]) rfl ⟨by rw [HH.out], hb9⟩
end
/- The reference: an absolute value times 2. -/
section
open Go.RowKit Go.Shelf Go.WideNum
theorem hleft_any (A : Nat) (va : Value) (w : World) (hA : World.numH w va A) (hla : (hw A).length ≤ 4000) :
  Calls Tryz.prog 112 #[va, .int .i64 1] w (RawRet w (A * 2) ((hw A).length + 1)) := by
 obtain ⟨aa, p, ca, hp, rfl, hca, hma, hsa⟩ := numH_words hA
 clear hA
 have hva := hw_vlt A
 rw [← hp] at hla hva ⊢
 have HA := Lib.hid hsa
 have HVA := Lib.hid hva
 obtain ⟨HPOST, hpost⟩ : ∃ R, R = RawRet w (A * 2) (p + 1) := ⟨_, rfl⟩
 rw [← hpost]
 have HP := Lib.hid hpost
 clear hp hsa hva hpost
 have hmk : ∀ W : World, (Instr.makeSlice 23 (.int .i64 0) (.int .i64 0)).run Tryz.prog W = .ok (.slice (some ⟨W.heap.size, 0, none⟩) 0 0) (W.alloc (.cells (zrow 0) 22)) := fun W => make_u32 0 (by omega) W
 have hown0 : (w.alloc (.cells (zrow 0) 22)).owns w.heap.size 22 1 (.slice (some ⟨w.heap.size, 0, none⟩) 0 0) 0 (((List.range 0).map (dig 65536 (A * 2))).map u32V) := owns_zrow (l := 0) (base := w.heap.size) (heap_alloc_new w _) (Nat.le_refl _) (by omega) (by omega)
 have HO0 := Lib.hid hown0
 clear hown0
 go_enter Tryz.func112, Tryz.ntmps112
 go_wp2_with fail
 go_loopw [5, 6, 7] (fun sv cv iv wr => ∃ (i : Nat) (xa : Option Addr) (xc : Nat), i ≤ p ∧ iv = .int .i64 (i : Int) ∧ sv = .slice xa i xc ∧ cv = .int .u32 (carryM 65536 A 2 i : Int) ∧ Hid (wr.owns w.heap.size 22 1 (.slice xa i xc) i (((List.range i).map (dig 65536 (A * 2))).map u32V)) ∧ Hid (Below w.heap.size w wr)) (fun _ _ iv _ => p - (intOf iv).toNat)
 case atStart => exact ⟨0, _, _, Nat.zero_le _, rfl, rfl, by rw [carryM_zero]; rfl, HO0.out, (Below.refl _ w).alloc (Nat.le_refl _) _⟩
 case round =>
  obtain ⟨i, xa, xc, hi, rfl, rfl, rfl, hO, hB⟩ := hrel
  have hz := hB.out.size
  have hcl := carryM_lt (B := 65536) (by omega) A 2 i (by omega)
  by_cases hlt : i < p
  ·obtain ⟨b, off, rfl, hbl, hx0⟩ := HA.out i hlt
   have hx : wr.cell? ⟨b, off + i, none⟩ = some (.int .u32 (dig 65536 A i : Int)) := (hB.out.cell (p := ⟨b, off + i, none⟩) hbl).trans hx0
   have HST := Lib.hid (mul_step (B := 65536) (by omega) A 2 i)
   have hd1 := hw_dig A i
   have hd3 := hw_dig (A * 2) i
   obtain ⟨x, ex⟩ : ∃ x, x = dig 65536 A i := ⟨_, rfl⟩
   obtain ⟨z, ez⟩ : ∃ x, x = dig 65536 (A * 2) i := ⟨_, rfl⟩
   obtain ⟨c, ec⟩ : ∃ x, x = carryM 65536 A 2 i := ⟨_, rfl⟩
   obtain ⟨d, ed⟩ : ∃ x, x = carryM 65536 A 2 (i + 1) := ⟨_, rfl⟩
   rw [← ex, ← ez, ← ec, ← ed] at HST
   rw [← ex] at hx hd1
   rw [← ez] at hd3
   rw [← ec] at hcl ⊢
   have EZ := Lib.hid ez
   have ED := Lib.hid ed
   obtain ⟨y, ey⟩ : ∃ y, y = 2 * x := ⟨_, rfl⟩
   have u1 : IntKind.u32.wrap ((x : Int) * 2) = (y : Int) := by rw [IntKind.wrap_u32]; omega
   have u2 : IntKind.u32.wrap ((x : Int) * 2 ^ 1) = (y : Int) := by rw [IntKind.wrap_u32]; omega
   have u3 : (x : Int) * 2 = (y : Int) := by omega
   have t1 : ((c : Int) + (y : Int)) % 65536 = (z : Int) := by have := HST.out; omega
   have t2 : ((c : Int) + (y : Int)) / 65536 = (d : Int) := by have := HST.out; omega
   have hy : y < 131072 := by omega
   clear ex ez ec ed hx0 ey
   go_wp2_with (at_builtin; refine app_u32 wr 23 Tryz.underlying23 rfl (.tmp 26) (.tmp 29) rfl w.heap.size (.slice xa i xc) i _ rfl hO.out (z : Int) wr.heap.size rfl rfl (by omega) hz ?_; intro v5 w5 hown5 hg5 hz5; have HO5 := Lib.hid hown5; obtain ⟨g5, q5, rfl⟩ := hown5.succ; have HB5 := Lib.hid (hB.out.trans (below_grown hO.out hg5 w.heap.size (Nat.le_refl _) hz)); clear hown5 hg5)
   go_roundw
   case rel =>
    refine ⟨i + 1, some ⟨g5, 0, none⟩, q5, by omega, by go_num, rfl, (by first | (rw [← ED.out, t2]; done) | rw [← ED.out]), ?_, HB5.out⟩
    show w5.owns _ _ _ _ _ _
    rw [List.range_succ, List.map_append, List.map_append]
    show w5.owns _ _ _ _ _ (_ ++ [u32V (dig 65536 (A * 2) i)])
    rw [← EZ.out]
    exact HO5.out
   case measure => simp [intOf]; omega
  ·obtain rfl : i = p := by omega
   have hst := mul_step (B := 65536) (by omega) A 2 i
   have h2 : dig 65536 A i = 0 := dig_high (by omega) A i HVA.out
   have h3 : carryM 65536 A 2 (i + 1) = 0 := by
    unfold carryM
    rw [Nat.div_eq_of_lt]
    have h4 := Nat.lt_of_le_of_lt (Nat.mod_le A (65536 ^ (i + 1))) HVA.out
    have h5 := HVA.out
    have e1 : 65536 ^ (i + 1) = 65536 ^ i * 65536 := Nat.pow_succ ..
    generalize 65536 ^ (i + 1) = Q at *
    generalize 65536 ^ i = P at *
    omega
   rw [h2, h3] at hst
   obtain ⟨c, ec⟩ : ∃ x, x = carryM 65536 A 2 i := ⟨_, rfl⟩
   rw [← ec] at hst hcl ⊢
   have HC : Hid (c = dig 65536 (A * 2) i) := by show _ = _; omega
   clear hst h2 h3 ec
   go_wp2_with (at_builtin; refine app_u32 wr 23 Tryz.underlying23 rfl (.tmp 33) (.tmp 35) rfl w.heap.size (.slice xa i xc) i _ rfl hO.out (c : Int) wr.heap.size rfl rfl (by omega) hz ?_; intro v5 w5 hown5 hg5 hz5; have HO5 := Lib.hid hown5; have HB5 := Lib.hid (hB.out.trans (below_grown hO.out hg5 w.heap.size (Nat.le_refl _) hz)); clear hown5 hg5)
   rw [HP.out]
   refine ⟨v5, rfl, ?_, HB5.out⟩
   have h := HO5.out
   show World.reads _ _ _ _
   rw [List.range_succ, List.map_append, List.map_append]
   show World.reads _ _ _ (_ ++ [u32V (dig 65536 (A * 2) i)])
   rw [← HC.out]
   exact h.reads
end
/- The reference: quotient and rest of absolute values, bit by bit. -/
section
open Go.RowKit Go.Shelf Go.WideNum
def LongRet (w : World) (A C : Nat) (e : Ending) (w' : World) : Prop := ∃ vq vr, e = .returned (.tuple #[vq, vr]) ∧ World.rawH w' vq (A / C) (hw A).length ∧ World.numH w' vr (A % C) ∧ Below w.heap.size w w'
theorem div_two (A j : Nat) : A / 2 ^ j = 2 * (A / 2 ^ (j + 1)) + dig 2 A j := by
 have := div_pow_succ 2 A j
 omega
theorem long_step {C q R bt n : Nat} (hC : 0 < C) (hR : R < C) (hb : bt < 2) (hn : n = 2 * (q * C + R) + bt) :
  (2 * R + bt < C → n / C = 2 * q ∧ n % C = 2 * R + bt) ∧ (C ≤ 2 * R + bt → n / C = 2 * q + 1 ∧ n % C = 2 * R + bt - C) := by
 constructor
 ·intro h
  have e : n = (2 * R + bt) + C * (2 * q) := by rw [hn, Nat.mul_add, ← Nat.mul_assoc, Nat.mul_comm (2 * q)]; omega
  rw [e]
  exact ⟨by rw [Nat.add_mul_div_left _ _ hC, Nat.div_eq_of_lt h, Nat.zero_add], by rw [Nat.add_mul_mod_self_left, Nat.mod_eq_of_lt h]⟩
 ·intro h
  have e : n = (2 * R + bt - C) + C * (2 * q + 1) := by rw [hn, Nat.mul_add, Nat.mul_add, ← Nat.mul_assoc, Nat.mul_comm (2 * q)]; omega
  have h2 : 2 * R + bt - C < C := by omega
  rw [e]
  exact ⟨by rw [Nat.add_mul_div_left _ _ hC, Nat.div_eq_of_lt h2, Nat.zero_add], by rw [Nat.add_mul_mod_self_left, Nat.mod_eq_of_lt h2]⟩
theorem odd_mod (q S : Nat) (hS : 0 < S) : (2 * q + 1) % (2 * S) = 2 * (q % S) + 1 ∧ (2 * q) % (2 * S) = 2 * (q % S) ∧ (2 * q + 1) / (2 * S) = q / S ∧ (2 * q) / (2 * S) = q / S := by
 have h1 := Nat.mod_add_div q S
 have h2 := Nat.mod_lt q hS
 have e1 : 2 * q + 1 = (2 * (q % S) + 1) + 2 * S * (q / S) := by rw [Nat.mul_assoc]; omega
 have e2 : 2 * q = 2 * (q % S) + 2 * S * (q / S) := by rw [Nat.mul_assoc]; omega
 have p : 0 < 2 * S := by omega
 refine ⟨?_, ?_, ?_, ?_⟩
 ·conv => lhs; rw [e1]
  rw [Nat.add_mul_mod_self_left, Nat.mod_eq_of_lt (by omega)]
 ·rw [Nat.mul_mod_mul_left]
 ·conv => lhs; rw [e1]
  rw [Nat.add_mul_div_left _ _ p, Nat.div_eq_of_lt (by omega), Nat.zero_add]
 ·rw [Nat.mul_div_mul_left _ _ (by omega)]
theorem set_bit (q j m r : Nat) (hj : j = 16 * m + r) (hr : r < 16) (i : Nat) :
  dig 65536 ((2 * q + 1) * 2 ^ j) i = if i = m then dig 65536 (2 * q * 2 ^ j) m + 2 ^ r else dig 65536 (2 * q * 2 ^ j) i := by
 subst hj
 have e : ∀ z : Nat, z * 2 ^ (16 * m + r) = z * 2 ^ r * 65536 ^ m := fun z => by rw [pow16, Nat.pow_add, Nat.mul_assoc, Nat.mul_comm (2 ^ (16 * m))]
 rw [e, e]
 have hS : 65536 = 2 ^ r * (2 * 2 ^ (15 - r)) := by
  rw [← Nat.pow_succ', ← Nat.pow_add, show r + (15 - r + 1) = 16 by omega]
 obtain ⟨o1, o2, o3, o4⟩ := odd_mod q (2 ^ (15 - r)) (Nat.pow_pos (by omega))
 have hp : 0 < 2 ^ r := Nat.pow_pos (by omega)
 rcases Nat.lt_trichotomy i m with h | h | h
 ·rw [if_neg (by omega), dig_shift_lo (by omega) _ _ _ h, dig_shift_lo (by omega) _ _ _ h]
 ·subst h
  rw [if_pos rfl]
  have h1 : dig 65536 ((2 * q + 1) * 2 ^ r * 65536 ^ i) i = dig 65536 ((2 * q + 1) * 2 ^ r) 0 := dig_shift_hi (B := 65536) (by omega) ((2 * q + 1) * 2 ^ r) i 0
  have h2 : dig 65536 (2 * q * 2 ^ r * 65536 ^ i) i = dig 65536 (2 * q * 2 ^ r) 0 := dig_shift_hi (B := 65536) (by omega) (2 * q * 2 ^ r) i 0
  rw [h1, h2, dig_zero, dig_zero]
  have e1 : (2 * q + 1) * 2 ^ r % 65536 = 2 ^ r * (2 * (q % 2 ^ (15 - r)) + 1) := by
   conv => lhs; rw [hS, Nat.mul_comm, Nat.mul_mod_mul_left, o1]
  have e2 : 2 * q * 2 ^ r % 65536 = 2 ^ r * (2 * (q % 2 ^ (15 - r))) := by
   conv => lhs; rw [hS, Nat.mul_comm, Nat.mul_mod_mul_left, o2]
  rw [e1, e2, Nat.mul_add, Nat.mul_one]
 ·rw [if_neg (by omega)]
  obtain ⟨d, rfl⟩ : ∃ d, i = m + (d + 1) := ⟨i - m - 1, by omega⟩
  rw [dig_shift_hi (by omega), dig_shift_hi (by omega), dig_succ, dig_succ]
  congr 1
  have e1 : (2 * q + 1) * 2 ^ r / 65536 = q / 2 ^ (15 - r) := by
   conv => lhs; rw [hS, Nat.mul_comm, Nat.mul_div_mul_left _ _ hp, o3]
  have e2 : 2 * q * 2 ^ r / 65536 = q / 2 ^ (15 - r) := by
   conv => lhs; rw [hS, Nat.mul_comm, Nat.mul_div_mul_left _ _ hp, o4]
  rw [e1, e2]
theorem one_raw (r : Nat) (hr : r < 65536) (W : World) : World.rawH (W.alloc (.cells #[.int .u32 (r : Int)] 22)) (.slice (some ⟨W.heap.size, 0, none⟩) 1 1) r 1 := by
 have e : ((List.range 1).map (dig 65536 r)).map u32V = [.int .u32 (r : Int)] := by
  simp [List.range_succ, dig, u32V, Nat.mod_eq_of_lt hr]
 have h := reads_alloc_new W [.int .u32 (r : Int)] 22 1 (by simp) (by unfold maxLen; omega)
 show World.reads _ _ _ _
 rw [e]
 simpa using h
theorem hw_one : (hw 1).length = 1 := by decide
theorem hlong_any (A C : Nat) (hC0 : C ≠ 0) (va vb : Value) (w : World) (hA : World.numH w va A) (hC : World.numH w vb C) (hla : (hw A).length ≤ 2000) (hlc : (hw C).length ≤ 2000) :
  Calls Tryz.prog 105 #[va, vb] w (LongRet w A C) := by
 have HA := Lib.hid hA
 have HC := Lib.hid hC
 obtain ⟨aa, p, ca, hp, rfl, hca, hma, hsa⟩ := numH_words hA
 obtain ⟨ab, q, cb, hq, rfl, hcb, hmb, hsb⟩ := numH_words hC
 obtain ⟨HPOST, hpost⟩ : ∃ R, R = LongRet w A C := ⟨_, rfl⟩
 rw [← hpost]
 have HP := Lib.hid hpost
 have HPA := Lib.hid hp
 have HPC := Lib.hid hq
 have HLA := Lib.hid hla
 have HLC := Lib.hid hlc
 have hp2 : p ≤ 2000 := by omega
 have hq2 : q ≤ 2000 := by omega
 have hCp : 0 < C := by omega
 clear hA hC hsa hpost hla hlc
 by_cases hq1 : q = 1
 ·have hC16 : C < 65536 := by
   have h := hw_vlt C
   rw [← hq, hq1] at h; omega
  obtain ⟨b, off, rfl, hbl, hx⟩ := hsb 0 (by omega)
  have hd : dig 65536 C 0 = C := by rw [dig_zero, Nat.mod_eq_of_lt hC16]
  rw [hd, Nat.add_zero] at hx
  have hsh := hshort_any A C hCp hC16 _ w HA.out (by have := HLA.out; omega)
  unfold ShortRetH at hsh
  have HSH := Lib.hid hsh
  have hrl : A % C < 65536 := Nat.lt_trans (Nat.mod_lt A hCp) hC16
  obtain ⟨r, er⟩ : ∃ r, r = A % C := ⟨_, rfl⟩
  rw [← er] at HSH hrl
  have ER := Lib.hid er
  have HTR : Hid (∀ v W, World.rawH W v r 1 → Calls Tryz.prog 65 #[.agg #[.bool false, v]] W (SRet W false r)) := fun v W h => htrim_any false r 1 (by omega) (by omega) v W h
  have HRL := Lib.hid hrl
  subst hq1
  clear hq hp hsb hd hsh er hC16 hCp hrl hC0
  go_enter Tryz.func105, Tryz.ntmps105
  go_wp2_with fail
  (with_reducible refine (HSH.out).mono ?_)
  rintro e w1 ⟨v1, rfl, hr1, hb1⟩
  obtain ⟨a1, L1, c1, rfl⟩ : ∃ a L c, v1 = .slice a L c := by obtain ⟨x, y, h, -⟩ := rawH_words hr1; exact ⟨x, _, y, h⟩
  have hone := one_raw r HRL.out w1
  have hba : Below w1.heap.size w1 (w1.alloc (.cells #[.int .u32 (r : Int)] 22)) := (Below.refl _ _).alloc (Nat.le_refl _) _
  have HR1 := Lib.hid (rawH_below hr1 hba)
  have HB1 := Lib.hid (below_via hb1 hba)
  have HONE := Lib.hid hone
  clear hr1 hb1 hba hone
  go_wp2_with fail
  generalize w1.alloc (.cells #[.int .u32 (r : Int)] 22) = w2 at HR1 HB1 HONE ⊢
  (with_reducible refine (HTR.out _ _ HONE.out).mono ?_)
  rintro e w3 ⟨v3, rfl, hn3, hb3⟩
  obtain ⟨a3, L3, c3, rfl⟩ : ∃ a L c, v3 = .slice a L c := by obtain ⟨x, y, h⟩ := reads_len hn3; exact ⟨x, _, y, h⟩
  have hfld := field1 false a3 L3 c3
  have HR3 := Lib.hid (rawH_below HR1.out hb3)
  have HB3 := Lib.hid (below_via HB1.out hb3)
  have HN3 := Lib.hid hn3
  clear hn3 hb3
  go_wp2
  rw [HP.out]
  exact ⟨_, _, rfl, HR3.out, by rw [← ER.out]; exact HN3.out, HB3.out⟩
 ·have t1 : ((q : Int) == 1) = false := by rw [beq_eq_false_iff_ne]; omega
  have hmk : ∀ W : World, (Instr.makeSlice 23 (.int .i64 (p : Int)) (.int .i64 (p : Int))).run Tryz.prog W = .ok (.slice (some ⟨W.heap.size, 0, none⟩) p p) (W.alloc (.cells (zrow p) 22)) := fun W => make_u32 p (by omega) W
  obtain ⟨M, hM⟩ : ∃ M, M = bitsN A := ⟨_, rfl⟩
  have HBI : Hid (∀ W, World.numH W (.slice aa p ca) A → Calls Tryz.prog 111 #[.slice aa p ca] W fun e w' => e = .returned (.int .i64 (M : Int)) ∧ W = w') := fun W h => by rw [hM]; exact hbits_any A _ W h (by have := HLA.out; omega)
  have hMp : M ≤ 16 * p := by
   rw [hM]
   refine bitsN_le ?_
   rw [← pow16, hp]
   exact hw_vlt A
  have hM2 : M ≤ 32000 := by omega
  have HM := Lib.hid hM
  have HBT : Hid (∀ (j : Nat) (W : World), j < M → World.numH W (.slice aa p ca) A → Calls Tryz.prog 113 #[.slice aa p ca, .int .i64 (j : Int)] W fun e w' => e = .returned (.int .u32 (dig 2 A j : Int)) ∧ W = w') := fun j W hj h => hbit_any A j (by omega) _ W h (by have := HLA.out; omega) _ rfl
  have HRC : Hid (∀ k, (hw (A / 2 ^ k % C)).length ≤ 2000) := fun k => hw_len_mono (Nat.le_of_lt (Nat.mod_lt _ hCp)) HLC.out
  clear hp hq hsb hM
  go_enter Tryz.func105, Tryz.ntmps105
  go_wp2_with fail
  have hb1 : Below w.heap.size w (w.alloc (.cells (zrow p) 22)) := (Below.refl _ w).alloc (Nat.le_refl _) _
  have hg1 : (w.alloc (.cells (zrow p) 22)).heap[w.heap.size]? = some (.cells (zrow p) 22) := heap_alloc_new w _
  have HB1 := Lib.hid hb1
  have HG1 := Lib.hid hg1
  clear hb1 hg1
  (with_reducible refine (HBI.out _ (numH_below HA.out HB1.out)).mono ?_)
  rintro e w1 ⟨rfl, rfl⟩
  go_wp2_with fail
  go_loopw [9, 10] (fun rv iv wr => ∃ (k : Nat) (xa : Option Addr) (xl xc : Nat), k ≤ M ∧ iv = .int .i64 ((k : Int) - 1) ∧ rv = .slice xa xl xc ∧ Hid (World.numH wr (.slice xa xl xc) (A / 2 ^ k % C)) ∧ Hid (wr.heap[w.heap.size]? = some (.cells (rowF (dig 65536 (A / 2 ^ k / C * 2 ^ k)) p) 22)) ∧ Hid (Below w.heap.size w wr)) (fun _ iv _ => (intOf iv + 1).toNat)
  case atStart =>
   have h0 : A / 2 ^ M = 0 := Nat.div_eq_of_lt (by rw [HM.out]; exact bitsN_vlt A)
   refine ⟨M, none, 0, 0, Nat.le_refl _, rfl, rfl, ?_, ?_, HB1.out⟩
   ·show World.numH _ _ _
    rw [h0, Nat.zero_mod]; exact reads_nil _ _
   ·show _ = _
    rw [h0, Nat.zero_div, Nat.zero_mul, rowF_congr (f' := fun _ => 0) (fun j hj => by simp [dig]), rowF_zero]
    exact HG1.out
  case round =>
   obtain ⟨k, xa, xl, xc, hk, rfl, rfl, hN, hG, hB⟩ := hrel
   clear hmk
   cases k with
   | zero =>
    have h0 : ¬ (0 : Int) ≤ ((0 : Nat) : Int) - 1 := by omega
    have hraw : World.rawH wr (.slice (some ⟨w.heap.size, 0, none⟩) p p) (A / C) p := by
     have h := hG.out
     rw [Nat.pow_zero, Nat.mul_one, Nat.div_one] at h
     exact rowF_raw (w := w) h (by omega)
    have hnn : World.numH wr (.slice xa xl xc) (A % C) := by
     have h := hN.out
     rw [Nat.pow_zero, Nat.div_one] at h
     exact h
    have HRAW := Lib.hid hraw
    have HNN := Lib.hid hnn
    clear hraw hnn
    go_wp2
    rw [HP.out]
    exact ⟨_, _, rfl, by rw [← HPA.out]; exact HRAW.out, HNN.out, hB.out⟩
   | succ j =>
    rw [show ((j + 1 : Nat) : Int) - 1 = (j : Int) by omega]
    obtain ⟨R, hR⟩ : ∃ R, R = A / 2 ^ (j + 1) % C := ⟨_, rfl⟩
    obtain ⟨Q, hQ⟩ : ∃ Q, Q = A / 2 ^ (j + 1) / C := ⟨_, rfl⟩
    obtain ⟨bt, hbt⟩ : ∃ bt, bt = dig 2 A j := ⟨_, rfl⟩
    have hbl : bt < 2 := by rw [hbt]; exact dig_lt (by omega) _ _
    have hRC : R < C := by rw [hR]; exact Nat.mod_lt _ hCp
    have hRl : (hw R).length ≤ 2000 := by rw [hR]; exact HRC.out _
    obtain ⟨hlo, hhi⟩ := long_step (C := C) (q := Q) (R := R) (bt := bt) (n := A / 2 ^ j) hCp hRC hbl (by
     rw [div_two A j, ← hbt]
     have h := Nat.mod_add_div (A / 2 ^ (j + 1)) C
     rw [← hR, ← hQ] at h
     rw [Nat.mul_comm Q]
     omega)
    rw [← hR] at hN
    rw [← hQ] at hG
    have hlft : Hid (∀ W, World.numH W (.slice xa xl xc) R → Calls Tryz.prog 112 #[.slice xa xl xc, .int .i64 1] W (RawRet W (R * 2) ((hw R).length + 1))) := fun W h => hleft_any R _ W h (by omega)
    have h2l : R * 2 < 65536 ^ ((hw R).length + 1) := by
     have h := hw_vlt R
     rw [Nat.pow_succ]
     generalize 65536 ^ (hw R).length = P at *
     omega
    have HTR : Hid (∀ v W, World.rawH W v (R * 2) ((hw R).length + 1) → Calls Tryz.prog 65 #[.agg #[.bool false, v]] W (SRet W false (R * 2))) := fun v W h => htrim_any false (R * 2) _ h2l (by omega) v W h
    have hl2 : (hw (R * 2)).length ≤ 2001 := Nat.le_trans (hw_len_le h2l) (by omega)
    have hbit := fun W h => HBT.out j W (by omega) h
    rw [← hbt] at hbit
    have HBIT : Hid (∀ W, World.numH W (.slice aa p ca) A → Calls Tryz.prog 113 #[.slice aa p ca, .int .i64 (j : Int)] W fun e w' => e = .returned (.int .u32 (bt : Int)) ∧ W = w') := hbit
    obtain ⟨n, hn⟩ : ∃ n, n = R * 2 + bt := ⟨_, rfl⟩
    have hnl : (hw n).length ≤ 2001 := by
     rw [hn]
     refine Nat.le_trans (hw_len_le (k := (hw R).length + 1) ?_) (by omega)
     have h := hw_vlt R
     rw [Nat.pow_succ]
     generalize 65536 ^ (hw R).length = P at *
     omega
    have HOR : Hid (∀ v W, World.numH W v n → World.numH W (.slice ab q cb) C → Calls Tryz.prog 103 #[v, .slice ab q cb] W fun e w' => e = .returned (.int .i64 (cmpN n C)) ∧ ∃ k, w' = W.drewN k) := fun v W h1 h2 => order_num n C v _ W h1 h2 (by omega) (by have := HLC.out; omega)
    have hQ2 : Q * 2 ^ (j + 1) = 2 * Q * 2 ^ j := by rw [Nat.pow_succ, Nat.mul_comm (2 ^ j), ← Nat.mul_assoc, Nat.mul_comm Q]
    rw [hQ2] at hG
    have HLO : Hid (n < C → A / 2 ^ j / C * 2 ^ j = 2 * Q * 2 ^ j ∧ A / 2 ^ j % C = n) := fun h => by
     obtain ⟨e1, e2⟩ := hlo (by omega)
     rw [e1, e2]
     exact ⟨rfl, by omega⟩
    have HHI : Hid (C ≤ n → A / 2 ^ j / C * 2 ^ j = (2 * Q + 1) * 2 ^ j ∧ A / 2 ^ j % C = n - C) := fun h => by
     obtain ⟨e1, e2⟩ := hhi (by omega)
     rw [e1, e2]
     exact ⟨rfl, by omega⟩
    have HNE := Lib.hid hn
    have hzw := lt_of_heap hG.out
    have HL2 := Lib.hid hl2
    have HNL := Lib.hid hnl
    have hjM : j < 32000 := by omega
    have HMJ : Hid (j < 16 * p) := by show _ < _; omega
    clear hlo hhi hR hQ hbt hRl h2l hbit hn hnl hQ2 hl2
    go_wp2_with fail
    (with_reducible refine (hlft.out _ hN.out).mono ?_)
    rintro e u1 ⟨v1, rfl, hr1, hb1⟩
    obtain ⟨a1, L1, c1, rfl⟩ : ∃ a L c, v1 = .slice a L c := by obtain ⟨x, y, h, -⟩ := rawH_words hr1; exact ⟨x, _, y, h⟩
    have HR1 := Lib.hid hr1
    have HD1 := Lib.hid hb1
    clear hr1 hb1
    go_wp2_with fail
    (with_reducible refine (HTR.out _ _ HR1.out).mono ?_)
    rintro e u2 ⟨v2, rfl, hn2, hb2⟩
    obtain ⟨a2, L2, c2, rfl⟩ : ∃ a L c, v2 = .slice a L c := by obtain ⟨x, y, h⟩ := reads_len hn2; exact ⟨x, _, y, h⟩
    have hfld := field1 false a2 L2 c2
    have HN2 := Lib.hid hn2
    have HD2 := Lib.hid (below_via HD1.out hb2)
    clear hn2 hb2
    go_wp2_with fail
    (with_reducible refine (HBIT.out _ (numH_below HA.out (hB.out.trans (HD2.out.mono hB.out.size)))).mono ?_)
    rintro e u3 ⟨rfl, rfl⟩
    clear hfld
    rcases (show bt = 0 ∨ bt = 1 by omega) with rfl | rfl
    ·have HNN : Hid (World.numH u2 (.slice a2 L2 c2) n) := by show World.numH _ _ _; rw [HNE.out]; exact HN2.out
     clear hbl
     go_wp2_with fail
     (with_reducible refine (HOR.out _ _ HNN.out (numH_below HC.out (hB.out.trans (HD2.out.mono hB.out.size)))).mono ?_)
     rintro e u5 ⟨rfl, n5, hu5⟩
     have hb5 : Below u2.heap.size u2 u5 := by rw [hu5]; exact below_drewN (Below.refl _ _) _
     have HN5 := Lib.hid (numH_below HNN.out hb5)
     have HD5 := Lib.hid (below_via HD2.out hb5)
     clear hu5 hb5
     by_cases hlt : n < C
     ·obtain ⟨l1, l2⟩ := HLO.out hlt
      have hcm : cmpN n C = -1 := by rw [cmpN, if_pos hlt]
      rw [hcm]
      have L1' := Lib.hid l1
      have L2' := Lib.hid l2
      clear l1 l2 hcm hlt
      go_wp2_with fail
      go_roundw
      case rel =>
       refine ⟨j, _, _, _, by omega, rfl, rfl, ?_, ?_, hB.out.trans (HD5.out.mono hB.out.size)⟩
       ·show World.numH _ _ _; rw [L2'.out]; exact HN5.out
       ·show _ = _; rw [L1'.out]; exact (HD5.out.block _ hzw).trans hG.out
      case measure => simp [intOf]
     ·obtain ⟨l1, l2⟩ := HHI.out (by omega)
      obtain ⟨R5, hR5⟩ : ∃ R5, R5 = cmpN n C := ⟨_, rfl⟩
      rw [← hR5]
      have hge : (0 : Int) ≤ R5 := by rw [hR5, cmpN, if_neg hlt]; split <;> omega
      have hmi : Hid (∀ v W, World.numH W v n → World.numH W (.slice ab q cb) C → Calls Tryz.prog 104 #[v, .slice ab q cb] W (RawRet W (n - C) (hw n).length)) := fun v W h1 h2 => hminus_any n C (by omega) v _ W h1 h2 (by have := HNL.out; omega) (by have := HLC.out; omega)
      have HTR2 : Hid (∀ v W, World.rawH W v (n - C) (hw n).length → Calls Tryz.prog 65 #[.agg #[.bool false, v]] W (SRetO W false (n - C))) := fun v W h => htrim_own false (n - C) _ hw_lt_sub (by have := HNL.out; omega) v W h
      have L1' := Lib.hid l1
      have L2' := Lib.hid l2
      clear l1 l2 hR5 hlt
      go_wp2_with fail
      (with_reducible refine (hmi.out _ _ HN5.out (numH_below HC.out (hB.out.trans (HD5.out.mono hB.out.size)))).mono ?_)
      rintro e u6 ⟨v6, rfl, hr6, hb6⟩
      obtain ⟨a6, L6, c6, rfl⟩ : ∃ a L c, v6 = .slice a L c := by obtain ⟨x, y, h, -⟩ := rawH_words hr6; exact ⟨x, _, y, h⟩
      have HR6 := Lib.hid hr6
      have HD6 := Lib.hid (below_via HD5.out hb6)
      clear hr6 hb6
      go_wp2_with fail
      (with_reducible refine (HTR2.out _ _ HR6.out).mono ?_)
      rintro e u7 ⟨v7, rfl, hn7, hb7⟩
      obtain ⟨a7, L7, c7, rfl⟩ : ∃ a L c, v7 = .slice a L c := by obtain ⟨x, y, h⟩ := reads_len hn7.reads; exact ⟨x, _, y, h⟩
      have hfld := field1 false a7 L7 c7
      have HN7 := Lib.hid hn7
      have HD7 := Lib.hid (below_via HD6.out hb7)
      have HW6 : Hid (w.heap.size < u6.heap.size) := by show _ < _; exact Nat.lt_of_lt_of_le hzw HD6.out.size
      clear hn7 hb7
      go_wp2_with fail
      clear hfld
      obtain ⟨m, em⟩ : ∃ m, m = j / 16 := ⟨_, rfl⟩
      obtain ⟨r, er⟩ : ∃ m, m = j % 16 := ⟨_, rfl⟩
      have hsb := set_bit Q j m r (by omega) (by omega)
      have hg7 := (HD7.out.block _ hzw).trans hG.out
      have hmp : m < p := by have := HMJ.out; omega
      obtain ⟨hcu, hfu⟩ := rowF_cell hg7 m hmp
      have hd := hw_dig (2 * Q * 2 ^ j) m
      have hd2 := hw_dig ((2 * Q + 1) * 2 ^ j) m
      have hsm := hsb m
      rw [if_pos rfl] at hsm
      obtain ⟨pw, hpw⟩ : ∃ x, x = 2 ^ r := ⟨_, rfl⟩
      obtain ⟨x, ex⟩ : ∃ x, x = dig 65536 (2 * Q * 2 ^ j) m := ⟨_, rfl⟩
      obtain ⟨y, ey⟩ : ∃ x, x = dig 65536 ((2 * Q + 1) * 2 ^ j) m := ⟨_, rfl⟩
      rw [← ex] at hcu hd
      rw [← ey] at hd2
      rw [← ex, ← ey, ← hpw] at hsm
      have hpI : (2 : Int) ^ r = (pw : Int) := by rw [hpw]; simp
      have hpl : pw ≤ 65536 := by omega
      have v1 : IntKind.u32.wrap ((1 : Int) * 2 ^ r) = (pw : Int) := by rw [hpI, IntKind.wrap_u32]; omega
      have v2 : IntKind.u32.wrap ((2 : Int) ^ r) = (pw : Int) := by rw [hpI, IntKind.wrap_u32]; omega
      have v3 : IntKind.u32.wrap ((x : Int) + (pw : Int)) = (y : Int) := by rw [IntKind.wrap_u32]; omega
      have v3' : (x : Int) + (pw : Int) = (y : Int) := by omega
      have v3'' : ((x : Int) + (pw : Int)) % 4294967296 = (y : Int) := by omega
      have v4 : (j : Int) / 16 = (m : Int) := by omega
      have v5 : (j : Int) % 16 = (r : Int) := by omega
      have v6 : (j : Int).tmod 16 = (r : Int) := by rw [Int.tmod_eq_emod_of_nonneg (by omega)]; omega
      have v7 : (j : Int).tdiv 16 = (m : Int) := by rw [Int.tdiv_eq_ediv_of_nonneg (by omega)]; omega
      have v8 : IntKind.i64.wrap (m : Int) = (m : Int) := IntWalk.i64_in _ (by omega)
      have v9 : IntKind.i64.wrap (r : Int) = (r : Int) := IntWalk.i64_in _ (by omega)
      have v10 : (0 : Int) ≤ (m : Int) := by omega
      have v11 : (m : Int) < (p : Int) := by omega
      have v12 : (0 : Int) ≤ (r : Int) := by omega
      have HG7 := Lib.hid hg7
      have HSB := Lib.hid hsb
      have EY := Lib.hid ey
      clear hsb hg7 hd hd2 hsm hpw ex ey em er hge
      refine wp_region_line (fun w' => w'.cell? ⟨w.heap.size, m, none⟩ = some (.int .u32 (x : Int))) 13 (by kernel_rfl) hcu (fun hHeld => ?_)
      refine tkT 0 (v := ?_) rfl rfl ?_ ?_
      rotate_left
      ·(intro wq hSq; (try dsimp only at hSq); go_simp; try with_reducible rfl)
      try simp only [Act.put, List.setIfInBounds_toArray, List.set_cons_zero, List.set_cons_succ]
      refine tkT 1 (v := ?_) rfl rfl ?_ ?_
      rotate_left
      ·(intro wq hSq; (try dsimp only at hSq); go_simp; try with_reducible rfl)
      try simp only [Act.put, List.setIfInBounds_toArray, List.set_cons_zero, List.set_cons_succ]
      refine tkT 2 (v := ?_) rfl rfl ?_ ?_
      rotate_left
      ·(intro wq hSq; (try dsimp only at hSq); go_simp; try with_reducible rfl)
      try simp only [Act.put, List.setIfInBounds_toArray, List.set_cons_zero, List.set_cons_succ]
      refine tkT 3 (v := ?_) rfl rfl ?_ ?_
      rotate_left
      ·(intro wq hSq; (try dsimp only at hSq); go_simp; try with_reducible rfl)
      try simp only [Act.put, List.setIfInBounds_toArray, List.set_cons_zero, List.set_cons_succ]
      refine tkT 4 (v := ?_) rfl rfl ?_ ?_
      rotate_left
      ·(intro wq hSq; (try dsimp only at hSq); go_simp; try with_reducible rfl)
      try simp only [Act.put, List.setIfInBounds_toArray, List.set_cons_zero, List.set_cons_succ]
      refine tkT 5 (v := ?_) rfl rfl ?_ ?_
      rotate_left
      ·(intro wq hSq; (try dsimp only at hSq); go_simp; try with_reducible rfl)
      try simp only [Act.put, List.setIfInBounds_toArray, List.set_cons_zero, List.set_cons_succ]
      refine tkT 6 (v := ?_) rfl rfl ?_ ?_
      rotate_left
      ·(intro wq hSq; (try dsimp only at hSq); go_simp; try with_reducible rfl)
      try simp only [Act.put, List.setIfInBounds_toArray, List.set_cons_zero, List.set_cons_succ]
      refine tkT 7 (v := ?_) rfl rfl ?_ ?_
      rotate_left
      ·(intro wq hSq; (try dsimp only at hSq); go_simp; try with_reducible rfl)
      try simp only [Act.put, List.setIfInBounds_toArray, List.set_cons_zero, List.set_cons_succ]
      refine tkT 8 (v := ?_) rfl rfl ?_ ?_
      rotate_left
      ·(intro wq hSq; (try dsimp only at hSq); go_simp; try with_reducible rfl)
      try simp only [Act.put, List.setIfInBounds_toArray, List.set_cons_zero, List.set_cons_succ]
      refine tkT 9 (v := ?_) rfl rfl ?_ ?_
      rotate_left
      ·(intro wq hSq; (try dsimp only at hSq); go_simp; try with_reducible rfl)
      try simp only [Act.put, List.setIfInBounds_toArray, List.set_cons_zero, List.set_cons_succ]
      refine tkT 10 (v := ?_) rfl rfl ?_ ?_
      rotate_left
      ·(intro wq hSq; (try dsimp only at hSq); go_simp; try with_reducible rfl)
      try simp only [Act.put, List.setIfInBounds_toArray, List.set_cons_zero, List.set_cons_succ]
      refine tkT 11 (v := ?_) rfl rfl ?_ ?_
      rotate_left
      ·(intro wq hSq; (try dsimp only at hSq); go_simp; try with_reducible rfl)
      try simp only [Act.put, List.setIfInBounds_toArray, List.set_cons_zero, List.set_cons_succ]
      refine tkT 12 (v := ?_) rfl rfl ?_ ?_
      rotate_left
      ·(intro wq hSq; (try dsimp only at hSq); go_simp; try with_reducible rfl)
      try simp only [Act.put, List.setIfInBounds_toArray, List.set_cons_zero, List.set_cons_succ]
      refine wpAnyT_last (by kernel_rfl) (by kernel_rfl) rfl (fun K hK => ?_)
      go_simp
      refine hK.out _ _ ?_
      clear hK K hHeld
      go_wp2
      go_roundw
      case rel =>
       refine ⟨j, _, _, _, by omega, rfl, rfl, ?_, ?_, ?_⟩
       ·show World.numH _ _ _
        rw [L2'.out]
        exact (World.owns.setCell HN7.out HW6.out _).reads
       ·show _ = _
        rw [L1'.out]
        first | rw [v3'] | rw [v3''] | rw [v3] | skip
        rw [EY.out]
        exact rowF_set (f' := dig 65536 ((2 * Q + 1) * 2 ^ j)) HG7.out (fun i _ hi => by rw [HSB.out i, if_neg hi])
       ·show Below _ _ _
        exact ((hB.out.trans (HD7.out.mono hB.out.size)).setCell (by simp) _).drew
      case measure => simp [intOf]
    ·have hpl1 : Hid (∀ v W, World.numH W (.slice a2 L2 c2) (R * 2) → World.numH W v 1 → Calls Tryz.prog 102 #[.slice a2 L2 c2, v] W (HRet W (R * 2 + 1))) := fun v W h1 h2 => hplus_any (R * 2) 1 _ v W h1 h2 (by have := HL2.out; omega) (by rw [hw_one]; omega)
     have hone := rawH_num (one_raw 1 (by omega) u2) hw_one.symm
     have hba : Below u2.heap.size u2 (u2.alloc (.cells #[.int .u32 1] 22)) := (Below.refl _ _).alloc (Nat.le_refl _) _
     have HNB := Lib.hid (numH_below HN2.out hba)
     have HDB := Lib.hid (below_via HD2.out hba)
     have HONE : Hid (World.numH (u2.alloc (.cells #[.int .u32 1] 22)) (.slice (some ⟨u2.heap.size, 0, none⟩) 1 1) 1) := hone
     clear hone hba hbl
     go_wp2_with fail
     (with_reducible refine (hpl1.out _ _ HNB.out HONE.out).mono ?_)
     rintro e u4 ⟨v4, rfl, hn4, hb4⟩
     obtain ⟨a4, L4, c4, rfl⟩ : ∃ a L c, v4 = .slice a L c := by obtain ⟨x, y, h⟩ := reads_len hn4; exact ⟨x, _, y, h⟩
     have HD4 := Lib.hid (below_via HDB.out hb4)
     have HNN : Hid (World.numH u4 (.slice a4 L4 c4) n) := by show World.numH _ _ _; rw [HNE.out]; exact hn4
     clear hn4 hb4
     go_wp2_with fail
     (with_reducible refine (HOR.out _ _ HNN.out (numH_below HC.out (hB.out.trans (HD4.out.mono hB.out.size)))).mono ?_)
     rintro e u5 ⟨rfl, n5, hu5⟩
     have hb5 : Below u4.heap.size u4 u5 := by rw [hu5]; exact below_drewN (Below.refl _ _) _
     have HN5 := Lib.hid (numH_below HNN.out hb5)
     have HD5 := Lib.hid (below_via HD4.out hb5)
     clear hu5 hb5
     by_cases hlt : n < C
     ·obtain ⟨l1, l2⟩ := HLO.out hlt
      have hcm : cmpN n C = -1 := by rw [cmpN, if_pos hlt]
      rw [hcm]
      have L1' := Lib.hid l1
      have L2' := Lib.hid l2
      clear l1 l2 hcm hlt
      go_wp2_with fail
      go_roundw
      case rel =>
       refine ⟨j, _, _, _, by omega, rfl, rfl, ?_, ?_, hB.out.trans (HD5.out.mono hB.out.size)⟩
       ·show World.numH _ _ _; rw [L2'.out]; exact HN5.out
       ·show _ = _; rw [L1'.out]; exact (HD5.out.block _ hzw).trans hG.out
      case measure => simp [intOf]
     ·obtain ⟨l1, l2⟩ := HHI.out (by omega)
      obtain ⟨R5, hR5⟩ : ∃ R5, R5 = cmpN n C := ⟨_, rfl⟩
      rw [← hR5]
      have hge : (0 : Int) ≤ R5 := by rw [hR5, cmpN, if_neg hlt]; split <;> omega
      have hmi : Hid (∀ v W, World.numH W v n → World.numH W (.slice ab q cb) C → Calls Tryz.prog 104 #[v, .slice ab q cb] W (RawRet W (n - C) (hw n).length)) := fun v W h1 h2 => hminus_any n C (by omega) v _ W h1 h2 (by have := HNL.out; omega) (by have := HLC.out; omega)
      have HTR2 : Hid (∀ v W, World.rawH W v (n - C) (hw n).length → Calls Tryz.prog 65 #[.agg #[.bool false, v]] W (SRetO W false (n - C))) := fun v W h => htrim_own false (n - C) _ hw_lt_sub (by have := HNL.out; omega) v W h
      have L1' := Lib.hid l1
      have L2' := Lib.hid l2
      clear l1 l2 hR5 hlt
      go_wp2_with fail
      (with_reducible refine (hmi.out _ _ HN5.out (numH_below HC.out (hB.out.trans (HD5.out.mono hB.out.size)))).mono ?_)
      rintro e u6 ⟨v6, rfl, hr6, hb6⟩
      obtain ⟨a6, L6, c6, rfl⟩ : ∃ a L c, v6 = .slice a L c := by obtain ⟨x, y, h, -⟩ := rawH_words hr6; exact ⟨x, _, y, h⟩
      have HR6 := Lib.hid hr6
      have HD6 := Lib.hid (below_via HD5.out hb6)
      clear hr6 hb6
      go_wp2_with fail
      (with_reducible refine (HTR2.out _ _ HR6.out).mono ?_)
      rintro e u7 ⟨v7, rfl, hn7, hb7⟩
      obtain ⟨a7, L7, c7, rfl⟩ : ∃ a L c, v7 = .slice a L c := by obtain ⟨x, y, h⟩ := reads_len hn7.reads; exact ⟨x, _, y, h⟩
      have hfld := field1 false a7 L7 c7
      have HN7 := Lib.hid hn7
      have HD7 := Lib.hid (below_via HD6.out hb7)
      have HW6 : Hid (w.heap.size < u6.heap.size) := by show _ < _; exact Nat.lt_of_lt_of_le hzw HD6.out.size
      clear hn7 hb7
      go_wp2_with fail
      clear hfld
      obtain ⟨m, em⟩ : ∃ m, m = j / 16 := ⟨_, rfl⟩
      obtain ⟨r, er⟩ : ∃ m, m = j % 16 := ⟨_, rfl⟩
      have hsb := set_bit Q j m r (by omega) (by omega)
      have hg7 := (HD7.out.block _ hzw).trans hG.out
      have hmp : m < p := by have := HMJ.out; omega
      obtain ⟨hcu, hfu⟩ := rowF_cell hg7 m hmp
      have hd := hw_dig (2 * Q * 2 ^ j) m
      have hd2 := hw_dig ((2 * Q + 1) * 2 ^ j) m
      have hsm := hsb m
      rw [if_pos rfl] at hsm
      obtain ⟨pw, hpw⟩ : ∃ x, x = 2 ^ r := ⟨_, rfl⟩
      obtain ⟨x, ex⟩ : ∃ x, x = dig 65536 (2 * Q * 2 ^ j) m := ⟨_, rfl⟩
      obtain ⟨y, ey⟩ : ∃ x, x = dig 65536 ((2 * Q + 1) * 2 ^ j) m := ⟨_, rfl⟩
      rw [← ex] at hcu hd
      rw [← ey] at hd2
      rw [← ex, ← ey, ← hpw] at hsm
      have hpI : (2 : Int) ^ r = (pw : Int) := by rw [hpw]; simp
      have hpl : pw ≤ 65536 := by omega
      have v1 : IntKind.u32.wrap ((1 : Int) * 2 ^ r) = (pw : Int) := by rw [hpI, IntKind.wrap_u32]; omega
      have v2 : IntKind.u32.wrap ((2 : Int) ^ r) = (pw : Int) := by rw [hpI, IntKind.wrap_u32]; omega
      have v3 : IntKind.u32.wrap ((x : Int) + (pw : Int)) = (y : Int) := by rw [IntKind.wrap_u32]; omega
      have v3' : (x : Int) + (pw : Int) = (y : Int) := by omega
      have v3'' : ((x : Int) + (pw : Int)) % 4294967296 = (y : Int) := by omega
      have v4 : (j : Int) / 16 = (m : Int) := by omega
      have v5 : (j : Int) % 16 = (r : Int) := by omega
      have v6 : (j : Int).tmod 16 = (r : Int) := by rw [Int.tmod_eq_emod_of_nonneg (by omega)]; omega
      have v7 : (j : Int).tdiv 16 = (m : Int) := by rw [Int.tdiv_eq_ediv_of_nonneg (by omega)]; omega
      have v8 : IntKind.i64.wrap (m : Int) = (m : Int) := IntWalk.i64_in _ (by omega)
      have v9 : IntKind.i64.wrap (r : Int) = (r : Int) := IntWalk.i64_in _ (by omega)
      have v10 : (0 : Int) ≤ (m : Int) := by omega
      have v11 : (m : Int) < (p : Int) := by omega
      have v12 : (0 : Int) ≤ (r : Int) := by omega
      have HG7 := Lib.hid hg7
      have HSB := Lib.hid hsb
      have EY := Lib.hid ey
      clear hsb hg7 hd hd2 hsm hpw ex ey em er hge
      refine wp_region_line (fun w' => w'.cell? ⟨w.heap.size, m, none⟩ = some (.int .u32 (x : Int))) 13 (by kernel_rfl) hcu (fun hHeld => ?_)
      refine tkT 0 (v := ?_) rfl rfl ?_ ?_
      rotate_left
      ·(intro wq hSq; (try dsimp only at hSq); go_simp; try with_reducible rfl)
      try simp only [Act.put, List.setIfInBounds_toArray, List.set_cons_zero, List.set_cons_succ]
      refine tkT 1 (v := ?_) rfl rfl ?_ ?_
      rotate_left
      ·(intro wq hSq; (try dsimp only at hSq); go_simp; try with_reducible rfl)
      try simp only [Act.put, List.setIfInBounds_toArray, List.set_cons_zero, List.set_cons_succ]
      refine tkT 2 (v := ?_) rfl rfl ?_ ?_
      rotate_left
      ·(intro wq hSq; (try dsimp only at hSq); go_simp; try with_reducible rfl)
      try simp only [Act.put, List.setIfInBounds_toArray, List.set_cons_zero, List.set_cons_succ]
      refine tkT 3 (v := ?_) rfl rfl ?_ ?_
      rotate_left
      ·(intro wq hSq; (try dsimp only at hSq); go_simp; try with_reducible rfl)
      try simp only [Act.put, List.setIfInBounds_toArray, List.set_cons_zero, List.set_cons_succ]
      refine tkT 4 (v := ?_) rfl rfl ?_ ?_
      rotate_left
      ·(intro wq hSq; (try dsimp only at hSq); go_simp; try with_reducible rfl)
      try simp only [Act.put, List.setIfInBounds_toArray, List.set_cons_zero, List.set_cons_succ]
      refine tkT 5 (v := ?_) rfl rfl ?_ ?_
      rotate_left
      ·(intro wq hSq; (try dsimp only at hSq); go_simp; try with_reducible rfl)
      try simp only [Act.put, List.setIfInBounds_toArray, List.set_cons_zero, List.set_cons_succ]
      refine tkT 6 (v := ?_) rfl rfl ?_ ?_
      rotate_left
      ·(intro wq hSq; (try dsimp only at hSq); go_simp; try with_reducible rfl)
      try simp only [Act.put, List.setIfInBounds_toArray, List.set_cons_zero, List.set_cons_succ]
      refine tkT 7 (v := ?_) rfl rfl ?_ ?_
      rotate_left
      ·(intro wq hSq; (try dsimp only at hSq); go_simp; try with_reducible rfl)
      try simp only [Act.put, List.setIfInBounds_toArray, List.set_cons_zero, List.set_cons_succ]
      refine tkT 8 (v := ?_) rfl rfl ?_ ?_
      rotate_left
      ·(intro wq hSq; (try dsimp only at hSq); go_simp; try with_reducible rfl)
      try simp only [Act.put, List.setIfInBounds_toArray, List.set_cons_zero, List.set_cons_succ]
      refine tkT 9 (v := ?_) rfl rfl ?_ ?_
      rotate_left
      ·(intro wq hSq; (try dsimp only at hSq); go_simp; try with_reducible rfl)
      try simp only [Act.put, List.setIfInBounds_toArray, List.set_cons_zero, List.set_cons_succ]
      refine tkT 10 (v := ?_) rfl rfl ?_ ?_
      rotate_left
      ·(intro wq hSq; (try dsimp only at hSq); go_simp; try with_reducible rfl)
      try simp only [Act.put, List.setIfInBounds_toArray, List.set_cons_zero, List.set_cons_succ]
      refine tkT 11 (v := ?_) rfl rfl ?_ ?_
      rotate_left
      ·(intro wq hSq; (try dsimp only at hSq); go_simp; try with_reducible rfl)
      try simp only [Act.put, List.setIfInBounds_toArray, List.set_cons_zero, List.set_cons_succ]
      refine tkT 12 (v := ?_) rfl rfl ?_ ?_
      rotate_left
      ·(intro wq hSq; (try dsimp only at hSq); go_simp; try with_reducible rfl)
      try simp only [Act.put, List.setIfInBounds_toArray, List.set_cons_zero, List.set_cons_succ]
      refine wpAnyT_last (by kernel_rfl) (by kernel_rfl) rfl (fun K hK => ?_)
      go_simp
      refine hK.out _ _ ?_
      clear hK K hHeld
      go_wp2
      go_roundw
      case rel =>
       refine ⟨j, _, _, _, by omega, rfl, rfl, ?_, ?_, ?_⟩
       ·show World.numH _ _ _
        rw [L2'.out]
        exact (World.owns.setCell HN7.out HW6.out _).reads
       ·show _ = _
        rw [L1'.out]
        first | rw [v3'] | rw [v3''] | rw [v3] | skip
        rw [EY.out]
        exact rowF_set (f' := dig 65536 ((2 * Q + 1) * 2 ^ j)) HG7.out (fun i _ hi => by rw [HSB.out i, if_neg hi])
       ·show Below _ _ _
        exact ((hB.out.trans (HD7.out.mono hB.out.size)).setCell (by simp) _).drew
      case measure => simp [intOf]
end
/- The reference: quotient and rest with signs, the rest from zero on. -/
section
open Go.RowKit Go.Shelf Go.WideNum
theorem hold {w w' : World} {g : Nat} {o : Obj} (h : w.heap[g]? = some o) (hb : Below w.heap.size w w') : w'.heap[g]? = some o := (hb.block _ (lt_of_heap h)).trans h
theorem numHold {w w' : World} {v : Value} {n : Nat} (h : World.numH w v n) (hb : Below w.heap.size w w') : World.numH w' v n := numH_below h hb
theorem numH_slice {w : World} {v : Value} {n : Nat} (h : World.numH w v n) : ∃ a c, v = .slice a (hw n).length c := by
 obtain ⟨a, c, e⟩ := reads_len h
 rw [List.length_map] at e
 exact ⟨a, c, e⟩
def DivRetH (w : World) (an : Bool) (A : Nat) (bn : Bool) (C : Nat) (e : Ending) (w' : World) : Prop :=
 ∃ vq vr, e = .returned (.tuple #[.agg #[.bool ((an != bn) && decide (floorN A an C ≠ 0)), vq], .agg #[.bool false, vr]]) ∧ World.numH w' vq (floorN A an C) ∧ World.numH w' vr (floorR A an C) ∧ Below w.heap.size w w'
theorem add_one_z (S1 : Bool) (q : Nat) : sumN q (S1 && decide (q ≠ 0)) 1 S1 = q + 1 ∧ (sumS q (S1 && decide (q ≠ 0)) 1 S1 && decide (sumN q (S1 && decide (q ≠ 0)) 1 S1 ≠ 0)) = (S1 && decide (q + 1 ≠ 0)) := by
 unfold sumN sumS
 by_cases h : q = 0
 ·subst h; cases S1 <;> simp
 ·cases S1 <;> simp [h]
theorem hdiv_any (an : Bool) (A : Nat) (va : Value) (bn : Bool) (C : Nat) (vb : Value) (hC0 : C ≠ 0) (w : World) (hA : World.numH w va A) (hC : World.numH w vb C) (hla : (hw A).length ≤ 1900) (hlc : (hw C).length ≤ 1900) :
  Calls Tryz.prog 86 #[.agg #[.bool an, va], .agg #[.bool bn, vb]] w (DivRetH w an A bn C) := by
 have HA := Lib.hid hA
 have HC := Lib.hid hC
 obtain ⟨aa, p, ca, -, rfl, -, -, -⟩ := numH_words hA
 obtain ⟨ab, q, cb, -, rfl, -, -, -⟩ := numH_words hC
 clear hA hC
 obtain ⟨HPOST, hpost⟩ : ∃ R, R = DivRetH w an A bn C := ⟨_, rfl⟩
 rw [← hpost]
 have HP := Lib.hid hpost
 obtain ⟨W0, hW0⟩ : ∃ W0, W0 = (((w.alloc (.cells #[.bool an, .slice aa p ca] 72)).alloc (.cells #[.bool bn, .slice ab q cb] 72)).alloc (.cells #[.bool false, .slice none 0 0] 72)).alloc (.cells #[.bool false, .slice none 0 0] 72) := ⟨_, rfl⟩
 have g0 : W0.heap[w.heap.size]? = some (.cells #[.bool an, .slice aa p ca] 72) := by rw [hW0, Below.heap_alloc _ _ _ (by first | (simp; done) | (simp; omega) | omega), Below.heap_alloc _ _ _ (by first | (simp; done) | (simp; omega) | omega), Below.heap_alloc _ _ _ (by simp)]; exact heap_alloc_new w _
 have g1 : W0.heap[w.heap.size + 1]? = some (.cells #[.bool bn, .slice ab q cb] 72) := by rw [hW0, Below.heap_alloc _ _ _ (by first | (simp; done) | (simp; omega) | omega), Below.heap_alloc _ _ _ (by simp)]; exact alloc_last _ _ (by simp)
 have g2 : W0.heap[w.heap.size + 1 + 1]? = some (.cells #[.bool false, .slice none 0 0] 72) := by rw [hW0, Below.heap_alloc _ _ _ (by simp)]; exact alloc_last _ _ (by simp)
 have g3 : W0.heap[w.heap.size + 1 + 1 + 1]? = some (.cells #[.bool false, .slice none 0 0] 72) := by rw [hW0]; exact alloc_last _ _ (by simp)
 have hb0 : Below w.heap.size w W0 := by rw [hW0]; exact (((((Below.refl _ w).alloc (Nat.le_refl _) _).alloc (by simp) _).alloc (by first | (simp; done) | (simp; omega) | omega) _).alloc (by first | (simp; done) | (simp; omega) | omega) _)
 have HGA := Lib.hid g0
 have HGB := Lib.hid g1
 have HGR := Lib.hid g2
 have HGT := Lib.hid g3
 have HD := Lib.hid hb0
 have HNA := Lib.hid (numH_below HA.out hb0)
 have HNC := Lib.hid (numH_below HC.out hb0)
 have HW0 := Lib.hid hW0
 obtain ⟨c00, c01, f00, f01⟩ := num_cells g0
 obtain ⟨c10, c11, f10, f11⟩ := num_cells g1
 obtain ⟨sg, hsg⟩ : ∃ sg, sg = (an != bn) := ⟨_, rfl⟩
 have t1 : (!(an == bn)) = sg := by rw [hsg]; rfl
 have t2 : (an != bn) = sg := hsg.symm
 have HSG := Lib.hid hsg
 have hlong := hlong_any A C hC0 (.slice aa p ca) (.slice ab q cb) W0 HNA.out HNC.out (by omega) (by omega)
 have hCp : 0 < C := by omega
 have hrC := Nat.mod_lt A hCp
 have hqA := Nat.div_le_self A C
 have hQL : (hw (A / C)).length ≤ 1900 := hw_len_mono hqA hla
 have hRL : (hw (A % C)).length ≤ 1900 := hw_len_mono (Nat.le_of_lt hrC) hlc
 have hq65 : A / C < 65536 ^ (hw A).length := Nat.lt_of_le_of_lt hqA (hw_vlt A)
 obtain ⟨Q, eQ⟩ : ∃ Q, Q = A / C := ⟨_, rfl⟩
 obtain ⟨R, eR⟩ : ∃ R, R = A % C := ⟨_, rfl⟩
 unfold LongRet at hlong
 rw [← eQ, ← eR] at hlong
 rw [← eQ] at hQL hq65
 rw [← eR] at hRL hrC
 have HLONG := Lib.hid hlong
 have HTQ : Hid (∀ v W, World.rawH W v Q (hw A).length → Calls Tryz.prog 65 #[.agg #[.bool sg, v]] W (SRet W (sg && decide (Q ≠ 0)) Q)) := fun v W h => htrim_any sg Q _ hq65 (by omega) v W h
 have HTR : Hid (∀ v W, World.numH W v R → Calls Tryz.prog 65 #[.agg #[.bool false, v]] W (SRet W false R)) := fun v W h => htrim_any false R _ (hw_vlt R) (by omega) v W (numH_raw h)
 have HFN : Hid (floorN A an C = (if an = true ∧ R ≠ 0 then Q + 1 else Q) ∧ floorR A an C = (if an = true ∧ R ≠ 0 then C - R else R)) := by unfold floorN floorR; rw [eQ, eR]; exact ⟨rfl, rfl⟩
 have HAD : Hid (∀ W va vb, World.numH W va Q → World.numH W vb 1 → Calls Tryz.prog 85 #[.agg #[.bool (sg && decide (Q ≠ 0)), va], .agg #[.bool sg, vb]] W (SRet W (sg && decide (Q + 1 ≠ 0)) (Q + 1))) := fun W va vb h1 h2 => by
  have := hadd_any (sg && decide (Q ≠ 0)) Q va sg 1 vb W h1 h2 (by omega) (by rw [hw_one]; omega)
  rw [(add_one_z sg Q).2, (add_one_z sg Q).1] at this
  exact this
 have HMI : Hid (∀ v u W, World.numH W v C → World.numH W u R → Calls Tryz.prog 104 #[v, u] W (RawRet W (C - R) (hw C).length)) := fun v u W h1 h2 => hminus_any C R (Nat.le_of_lt hrC) v u W h1 h2 (by omega) (by omega)
 have HTM : Hid (∀ v W, World.rawH W v (C - R) (hw C).length → Calls Tryz.prog 65 #[.agg #[.bool false, v]] W (SRet W false (C - R))) := fun v W h => htrim_any false (C - R) _ hw_lt_sub (by omega) v W h
 have HWO : Hid (∀ W, Calls Tryz.prog 88 #[.int .u32 1] W (SRet W false 1)) := fun W => word_any 1 (by omega) W
 clear g0 g1 g2 g3 hb0 hW0 hpost hsg hlong hla hlc hC0 hCp hrC hqA hQL hRL hq65 eQ eR
 go_enter Tryz.func86, Tryz.ntmps86
 go_upto_region 1 with (fail)
 rw [← HW0.out]
 go_wp2_with fail
 (with_reducible refine (HLONG.out).mono ?_)
 rintro e u1 ⟨vq, vr, rfl, hrq, hnr, hb1⟩
 obtain ⟨aq, Lq, cq, rfl⟩ : ∃ a L c, vq = .slice a L c := by obtain ⟨x, y, h, -⟩ := rawH_words hrq; exact ⟨x, _, y, h⟩
 obtain ⟨ar, cr, er⟩ := numH_slice hnr
 subst er
 obtain ⟨Lr, hLr⟩ : ∃ L, L = (hw R).length := ⟨_, rfl⟩
 rw [← hLr] at hnr ⊢
 have HRQ := Lib.hid hrq
 clear c00 c01 c10 c11 f00 f01 f10 f11 hLr
 have HA1 := Lib.hid (hold HGA.out hb1)
 have HB1 := Lib.hid (hold HGB.out hb1)
 have HR1 := Lib.hid (hold HGR.out hb1)
 have HT1 := Lib.hid (hold HGT.out hb1)
 have NC1 := Lib.hid (numHold HNC.out hb1)
 have D1 := Lib.hid (HD.out.trans (hb1.mono HD.out.size))
 have HNR := Lib.hid hnr
 clear hb1 hnr hrq
 go_wp2_with fail
 (with_reducible refine (HTR.out _ _ HNR.out).mono ?_)
 rintro e u2 ⟨v2, rfl, hn2, hb2⟩
 obtain ⟨a2, c2, e2⟩ := numH_slice hn2
 subst e2
 obtain ⟨L2, hL2⟩ : ∃ L, L = (hw R).length := ⟨_, rfl⟩
 rw [← hL2] at hn2 ⊢
 have HL2 := Lib.hid hL2
 clear hL2
 have HA2 := Lib.hid (hold HA1.out hb2)
 have HB2 := Lib.hid (hold HB1.out hb2)
 have HR2 := Lib.hid (hold HR1.out hb2)
 have HT2 := Lib.hid (hold HT1.out hb2)
 have NC2 := Lib.hid (numHold NC1.out hb2)
 have NR2 := Lib.hid (numHold HNR.out hb2)
 have D2 := Lib.hid (D1.out.trans (hb2.mono D1.out.size))
 have HRQ2 := Lib.hid (rawH_below HRQ.out hb2)
 have HN2 := Lib.hid hn2
 clear hb2 hn2
 have hba : Below u2.heap.size u2 (u2.alloc (.cells #[.bool false, .slice a2 L2 c2] 72)) := (Below.refl _ _).alloc (Nat.le_refl _) _
 have hga : (u2.alloc (.cells #[.bool false, .slice a2 L2 c2] 72)).heap[u2.heap.size]? = some (.cells #[.bool false, .slice a2 L2 c2] 72) := heap_alloc_new _ _
 have HA3 := Lib.hid (hold HA2.out hba)
 have HB3 := Lib.hid (hold HB2.out hba)
 have HR3 := Lib.hid (hold HR2.out hba)
 have HT3 := Lib.hid (hold HT2.out hba)
 have NC3 := Lib.hid (numHold NC2.out hba)
 have NS3 := Lib.hid (numHold HN2.out hba)
 have D3 := Lib.hid (D2.out.trans (hba.mono D2.out.size))
 have HRQ3 := Lib.hid (rawH_below HRQ2.out hba)
 have HP8 := Lib.hid hga
 clear hba hga
 obtain ⟨c00, c01, -, -⟩ := num_cells HA3.out
 obtain ⟨c10, c11, -, -⟩ := num_cells HB3.out
 go_wp2_with fail
 obtain ⟨P8, hP8⟩ : ∃ P, P = u2.heap.size := ⟨_, rfl⟩
 have HP8R : Hid (w.heap.size + 1 + 1 + 1 < P8) := by show _ < _; rw [hP8]; exact lt_of_heap HT2.out
 rw [← hP8] at HP8 ⊢
 clear hP8
 generalize u2.alloc (.cells #[.bool false, .slice a2 L2 c2] 72) = x2 at HA3 HB3 HR3 HT3 NC3 NS3 D3 HRQ3 HP8 c00 c01 c10 c11 ⊢
 clear c00 c01 c10 c11
 (with_reducible refine (HTQ.out _ _ HRQ3.out).mono ?_)
 rintro e u3 ⟨v3, rfl, hn3, hb3⟩
 obtain ⟨a3, L3, c3, rfl⟩ : ∃ a L c, v3 = .slice a L c := by obtain ⟨x, y, h⟩ := reads_len hn3; exact ⟨x, _, y, h⟩
 obtain ⟨SQ, hSQ⟩ : ∃ SQ, SQ = (sg && decide (Q ≠ 0)) := ⟨_, rfl⟩
 rw [← hSQ] at HAD ⊢
 have HSQ := Lib.hid hSQ
 clear hSQ
 have HA4 := Lib.hid (hold HA3.out hb3)
 have HB4 := Lib.hid (hold HB3.out hb3)
 have HR4 := Lib.hid (hold HR3.out hb3)
 have HT4 := Lib.hid (hold HT3.out hb3)
 have H84 := Lib.hid (hold HP8.out hb3)
 have NC4 := Lib.hid (numHold NC3.out hb3)
 have NS4 := Lib.hid (numHold NS3.out hb3)
 have D4 := Lib.hid (D3.out.trans (hb3.mono D3.out.size))
 have HN3 := Lib.hid hn3
 clear hb3 hn3
 have hba : Below u3.heap.size u3 (u3.alloc (.cells #[.bool SQ, .slice a3 L3 c3] 72)) := (Below.refl _ _).alloc (Nat.le_refl _) _
 have hga : (u3.alloc (.cells #[.bool SQ, .slice a3 L3 c3] 72)).heap[u3.heap.size]? = some (.cells #[.bool SQ, .slice a3 L3 c3] 72) := heap_alloc_new _ _
 have HA5 := Lib.hid (hold HA4.out hba)
 have HB5 := Lib.hid (hold HB4.out hba)
 have HR5 := Lib.hid (hold HR4.out hba)
 have HT5 := Lib.hid (hold HT4.out hba)
 have H85 := Lib.hid (hold H84.out hba)
 have NC5 := Lib.hid (numHold NC4.out hba)
 have NS5 := Lib.hid (numHold NS4.out hba)
 have NQ5 := Lib.hid (numHold HN3.out hba)
 have D5 := Lib.hid (D4.out.trans (hba.mono D4.out.size))
 have HP9 := Lib.hid hga
 have HDU := Lib.hid (D5.out.size)
 clear hba hga
 obtain ⟨P9, hP9⟩ : ∃ P, P = u3.heap.size := ⟨_, rfl⟩
 have HP9R : Hid (w.heap.size + 1 + 1 + 1 < P9) := by show _ < _; rw [hP9]; exact lt_of_heap HT4.out
 obtain ⟨c00, c01, -, -⟩ := num_cells HA5.out
 obtain ⟨c80, c81, -, -⟩ := num_cells H85.out
 by_cases hadj : an = true ∧ R ≠ 0
 ·have HF1 : Hid (floorN A an C = Q + 1) := by show _ = _; rw [HFN.out.1, if_pos hadj]
  have HF2 : Hid (floorR A an C = C - R) := by show _ = _; rw [HFN.out.2, if_pos hadj]
  obtain ⟨rfl, hR0⟩ := hadj
  have hLp : 0 < L2 := by rw [HL2.out]; exact hw_pos.2 hR0
  have t0 : ((L2 : Int) == 0) = false := by rw [beq_eq_false_iff_ne]; omega
  clear hR0
  obtain ⟨SF, hSF⟩ : ∃ SF, SF = (sg && decide (Q + 1 ≠ 0)) := ⟨_, rfl⟩
  rw [← hSF] at HAD
  have HSF := Lib.hid hSF
  have hsb : sg = !bn := by rw [HSG.out]; cases bn <;> rfl
  subst hsb
  clear hSF t1 t2
  go_wp2_with fail
  rw [← hP9] at HP9 ⊢
  generalize u3.alloc (.cells #[.bool SQ, .slice a3 L3 c3] 72) = x3 at HA5 HB5 HR5 HT5 H85 HP9 NC5 NS5 NQ5 D5 c00 c01 c80 c81 ⊢
  clear c00 c01 c80 c81 hP9
  (with_reducible refine (HWO.out _).mono ?_)
  rintro e u4 ⟨v4, rfl, hn4, hb4⟩
  obtain ⟨a4, L4, c4, rfl⟩ : ∃ a L c, v4 = .slice a L c := by obtain ⟨x, y, h⟩ := reads_len hn4; exact ⟨x, _, y, h⟩
  have HA6 := Lib.hid (hold HA5.out hb4)
  have HB6 := Lib.hid (hold HB5.out hb4)
  have HR6 := Lib.hid (hold HR5.out hb4)
  have HT6 := Lib.hid (hold HT5.out hb4)
  have H86 := Lib.hid (hold H85.out hb4)
  have H96 := Lib.hid (hold HP9.out hb4)
  have NC6 := Lib.hid (numHold NC5.out hb4)
  have NS6 := Lib.hid (numHold NS5.out hb4)
  have NQ6 := Lib.hid (numHold NQ5.out hb4)
  have D6 := Lib.hid (D5.out.trans (hb4.mono D5.out.size))
  have HN4 := Lib.hid hn4
  clear hb4 hn4
  have hb0 : Below u4.heap.size u4 (u4.alloc (.cells #[.bool false, .slice a4 L4 c4] 72)) := (Below.refl _ _).alloc (Nat.le_refl _) _
  obtain ⟨y00, y01, -, -⟩ := num_cells (hold HA6.out hb0)
  obtain ⟨y10, y11, -, -⟩ := num_cells (hold HB6.out hb0)
  obtain ⟨y20, y21, z20, z21⟩ := num_cells (heap_alloc_new u4 (.cells #[.bool false, .slice a4 L4 c4] 72))
  clear hb0
  have hba : Below u4.heap.size u4 (u4.alloc (.cells #[.bool (!bn), .slice a4 L4 c4] 72)) := (Below.refl _ _).alloc (Nat.le_refl _) _
  have hga : (u4.alloc (.cells #[.bool (!bn), .slice a4 L4 c4] 72)).heap[u4.heap.size]? = some (.cells #[.bool (!bn), .slice a4 L4 c4] 72) := heap_alloc_new _ _
  have HA7 := Lib.hid (hold HA6.out hba)
  have HB7 := Lib.hid (hold HB6.out hba)
  have HR7 := Lib.hid (hold HR6.out hba)
  have HT7 := Lib.hid (hold HT6.out hba)
  have H87 := Lib.hid (hold H86.out hba)
  have H97 := Lib.hid (hold H96.out hba)
  have NC7 := Lib.hid (numHold NC6.out hba)
  have NS7 := Lib.hid (numHold NS6.out hba)
  have NQ7 := Lib.hid (numHold NQ6.out hba)
  have N17 := Lib.hid (numHold HN4.out hba)
  have D7 := Lib.hid (D6.out.trans (hba.mono D6.out.size))
  have HP10 := Lib.hid hga
  clear hba hga
  obtain ⟨P10, hP10⟩ : ∃ P, P = u4.heap.size := ⟨_, rfl⟩
  have HP10R : Hid (w.heap.size + 1 + 1 + 1 < P10) := by show _ < _; rw [hP10]; exact lt_of_heap HT6.out
  have HBL1 := num_cells HA7.out
  obtain ⟨c00, c01, -, -⟩ := HBL1
  obtain ⟨c10, c11, -, -⟩ := num_cells HB7.out
  go_wp2_with fail
  rw [← hP10] at HP10 ⊢
  generalize u4.alloc (.cells #[.bool (!bn), .slice a4 L4 c4] 72) = x4 at HA7 HB7 HR7 HT7 H87 H97 HP10 NC7 NS7 NQ7 N17 D7 c00 c01 c10 c11 ⊢
  clear c00 c01 c10 hP10 y00 y01 y10 y11 y20 y21 z20 z21
  obtain ⟨q0, q1, -, -⟩ := num_cells H97.out
  obtain ⟨o0, o1, -, -⟩ := num_cells HP10.out
  obtain ⟨-, r1, -, -⟩ := num_cells H87.out
  refine wp_region_late (fun w' => w'.cell? ⟨P9, 0, none⟩ = some (.bool SQ) ∧ w'.cell? ⟨P9, 1, none⟩ = some (.slice a3 L3 c3) ∧ w'.cell? ⟨P10, 0, none⟩ = some (.bool (!bn)) ∧ w'.cell? ⟨P10, 1, none⟩ = some (.slice a4 L4 c4) ∧ w'.cell? ⟨w.heap.size + 1, 1, none⟩ = some (.slice ab q cb) ∧ w'.cell? ⟨P8, 1, none⟩ = some (.slice a2 L2 c2)) (fun _ => false) (by kernel_rfl) ⟨q0, q1, o0, o1, c11, r1⟩ (fun hHeld => ?_)
  refine tkD 0 (v := ?_) rfl ?_ ?_
  rotate_left
  ·(intro wq hSq; (try dsimp only at hSq); go_simp; try with_reducible rfl)
  try simp only [Act.put, List.setIfInBounds_toArray, List.set_cons_zero, List.set_cons_succ]
  refine tkD 1 (v := ?_) rfl ?_ ?_
  rotate_left
  ·(intro wq hSq; (try dsimp only at hSq); go_simp; try with_reducible rfl)
  try simp only [Act.put, List.setIfInBounds_toArray, List.set_cons_zero, List.set_cons_succ]
  refine tkD 3 (v := ?_) rfl ?_ ?_
  rotate_left
  ·(intro wq hSq; (try dsimp only at hSq); go_simp; try with_reducible rfl)
  try simp only [Act.put, List.setIfInBounds_toArray, List.set_cons_zero, List.set_cons_succ]
  refine tkD 4 (v := ?_) rfl ?_ ?_
  rotate_left
  ·(intro wq hSq; (try dsimp only at hSq); go_simp; try with_reducible rfl)
  try simp only [Act.put, List.setIfInBounds_toArray, List.set_cons_zero, List.set_cons_succ]
  refine tkD 5 (v := ?_) rfl ?_ ?_
  rotate_left
  ·(intro wq hSq; (try dsimp only at hSq); go_simp; try with_reducible rfl)
  try simp only [Act.put, List.setIfInBounds_toArray, List.set_cons_zero, List.set_cons_succ]
  refine tkD 6 (v := ?_) rfl ?_ ?_
  rotate_left
  ·(intro wq hSq; (try dsimp only at hSq); go_simp; try with_reducible rfl)
  try simp only [Act.put, List.setIfInBounds_toArray, List.set_cons_zero, List.set_cons_succ]
  have hdr : Below x4.heap.size x4 x4.drew := (Below.refl _ _).drew
  have HA8 := Lib.hid (hold HA7.out hdr)
  have HB8 := Lib.hid (hold HB7.out hdr)
  have HR8 := Lib.hid (hold HR7.out hdr)
  have HT8 := Lib.hid (hold HT7.out hdr)
  have H88 := Lib.hid (hold H87.out hdr)
  have H98 := Lib.hid (hold H97.out hdr)
  have H08 := Lib.hid (hold HP10.out hdr)
  have NC8 := Lib.hid (numHold NC7.out hdr)
  have NS8 := Lib.hid (numHold NS7.out hdr)
  have NQ8 := Lib.hid (numHold NQ7.out hdr)
  have N18 := Lib.hid (numHold N17.out hdr)
  have D8 := Lib.hid (D7.out.trans (hdr.mono D7.out.size))
  clear hdr q0 q1 o0 o1 c11 r1
  generalize x4.drew = x5 at HA8 HB8 HR8 HT8 H88 H98 H08 NC8 NS8 NQ8 N18 D8 hHeld ⊢
  refine wpAnyD_keep 2 (by kernel_rfl) rfl (fun K hK => ?_)
  go_simp
  go_at_call 85
  (with_reducible refine (HAD.out _ _ _ NQ8.out N18.out).mono ?_)
  rintro e u6 ⟨vu6, rfl, hnu6, hbu⟩
  obtain ⟨au6, Lu6, cu6, eu6⟩ : ∃ a L c, vu6 = .slice a L c := by obtain ⟨x, y, h⟩ := reads_len hnu6; exact ⟨x, _, y, h⟩
  subst eu6
  have HA9 := Lib.hid (hold HA8.out hbu)
  have HB9 := Lib.hid (hold HB8.out hbu)
  have HR9 := Lib.hid (hold HR8.out hbu)
  have HT9 := Lib.hid (hold HT8.out hbu)
  have H89 := Lib.hid (hold H88.out hbu)
  have H99 := Lib.hid (hold H98.out hbu)
  have H09 := Lib.hid (hold H08.out hbu)
  have NC9 := Lib.hid (numHold NC8.out hbu)
  have NS9 := Lib.hid (numHold NS8.out hbu)
  have NQ9 := Lib.hid (numHold NQ8.out hbu)
  have N19 := Lib.hid (numHold N18.out hbu)
  have D9 := Lib.hid (D8.out.trans (hbu.mono D8.out.size))
  have HNu6 := Lib.hid hnu6
  obtain ⟨q0, q1, -, -⟩ := num_cells H99.out
  obtain ⟨o0, o1, -, -⟩ := num_cells H09.out
  obtain ⟨-, r1, -, -⟩ := num_cells H89.out
  obtain ⟨-, c11, -, -⟩ := num_cells HB9.out
  refine hK.out _ _ ⟨q0, q1, o0, o1, c11, r1⟩ (fun hHeld2 => ?_)
  clear hbu hnu6 q0 q1 o0 o1 c11 r1 hK K hHeld
  try simp only [Act.put, List.setIfInBounds_toArray, List.set_cons_zero, List.set_cons_succ]
  refine wpAnyD_keep 7 (by kernel_rfl) rfl (fun K hK => ?_)
  go_simp
  go_at_call 104
  (with_reducible refine (HMI.out _ _ _ NC9.out NS9.out).mono ?_)
  rintro e u7 ⟨vu7, rfl, hnu7, hbu⟩
  obtain ⟨au7, Lu7, cu7, eu7⟩ : ∃ a L c, vu7 = .slice a L c := by obtain ⟨x, y, h, -⟩ := rawH_words hnu7; exact ⟨x, _, y, h⟩
  subst eu7
  have HA10 := Lib.hid (hold HA9.out hbu)
  have HB10 := Lib.hid (hold HB9.out hbu)
  have HR10 := Lib.hid (hold HR9.out hbu)
  have HT10 := Lib.hid (hold HT9.out hbu)
  have H810 := Lib.hid (hold H89.out hbu)
  have H910 := Lib.hid (hold H99.out hbu)
  have H010 := Lib.hid (hold H09.out hbu)
  have NC10 := Lib.hid (numHold NC9.out hbu)
  have NS10 := Lib.hid (numHold NS9.out hbu)
  have NQ10 := Lib.hid (numHold NQ9.out hbu)
  have N110 := Lib.hid (numHold N19.out hbu)
  have NF10 := Lib.hid (numHold HNu6.out hbu)
  have D10 := Lib.hid (D9.out.trans (hbu.mono D9.out.size))
  have HNu7 := Lib.hid hnu7
  obtain ⟨q0, q1, -, -⟩ := num_cells H910.out
  obtain ⟨o0, o1, -, -⟩ := num_cells H010.out
  obtain ⟨-, r1, -, -⟩ := num_cells H810.out
  obtain ⟨-, c11, -, -⟩ := num_cells HB10.out
  refine hK.out _ _ ⟨q0, q1, o0, o1, c11, r1⟩ (fun hHeld3 => ?_)
  clear hbu hnu7 q0 q1 o0 o1 c11 r1 hK K hHeld2
  try simp only [Act.put, List.setIfInBounds_toArray, List.set_cons_zero, List.set_cons_succ]
  refine tkW 8 (v := ?_) rfl ?_ ?_
  rotate_left
  ·(intro wq hSq; (try dsimp only at hSq); go_simp; try with_reducible rfl)
  try simp only [Act.put, List.setIfInBounds_toArray, List.set_cons_zero, List.set_cons_succ]
  refine wpAnyD_keep 9 (by kernel_rfl) rfl (fun K hK => ?_)
  go_simp
  go_at_call 65
  (with_reducible refine (HTM.out _ _ HNu7.out).mono ?_)
  rintro e u8 ⟨vu8, rfl, hnu8, hbu⟩
  obtain ⟨au8, Lu8, cu8, eu8⟩ : ∃ a L c, vu8 = .slice a L c := by obtain ⟨x, y, h⟩ := reads_len hnu8; exact ⟨x, _, y, h⟩
  subst eu8
  have HA11 := Lib.hid (hold HA10.out hbu)
  have HB11 := Lib.hid (hold HB10.out hbu)
  have HR11 := Lib.hid (hold HR10.out hbu)
  have HT11 := Lib.hid (hold HT10.out hbu)
  have H811 := Lib.hid (hold H810.out hbu)
  have H911 := Lib.hid (hold H910.out hbu)
  have H011 := Lib.hid (hold H010.out hbu)
  have NC11 := Lib.hid (numHold NC10.out hbu)
  have NS11 := Lib.hid (numHold NS10.out hbu)
  have NQ11 := Lib.hid (numHold NQ10.out hbu)
  have N111 := Lib.hid (numHold N110.out hbu)
  have NF11 := Lib.hid (numHold NF10.out hbu)
  have D11 := Lib.hid (D10.out.trans (hbu.mono D10.out.size))
  have HNu8 := Lib.hid hnu8
  obtain ⟨q0, q1, -, -⟩ := num_cells H911.out
  obtain ⟨o0, o1, -, -⟩ := num_cells H011.out
  obtain ⟨-, r1, -, -⟩ := num_cells H811.out
  obtain ⟨-, c11, -, -⟩ := num_cells HB11.out
  refine hK.out _ _ ⟨q0, q1, o0, o1, c11, r1⟩ (fun hHeld4 => ?_)
  clear hbu hnu8 q0 q1 o0 o1 c11 r1 hK K hHeld3
  try simp only [Act.put, List.setIfInBounds_toArray, List.set_cons_zero, List.set_cons_succ]
  obtain ⟨d0, d1, z0, z1⟩ := num_cells HR11.out
  refine wpAnyD_keep 10 (by kernel_rfl) rfl (fun K hK => ?_)
  go_simp
  clear d0 d1 z0 z1
  have H912 := Lib.hid ((two_other (W := u8) (p := w.heap.size + 1 + 1) (.bool SF) (.slice au6 Lu6 cu6) (P9) (by have := HP9R.out; omega)).trans H911.out)
  have H012 := Lib.hid ((two_other (W := u8) (p := w.heap.size + 1 + 1) (.bool SF) (.slice au6 Lu6 cu6) (P10) (by have := HP10R.out; omega)).trans H011.out)
  have H812 := Lib.hid ((two_other (W := u8) (p := w.heap.size + 1 + 1) (.bool SF) (.slice au6 Lu6 cu6) (P8) (by have := HP8R.out; omega)).trans H811.out)
  have HB12 := Lib.hid ((two_other (W := u8) (p := w.heap.size + 1 + 1) (.bool SF) (.slice au6 Lu6 cu6) (w.heap.size + 1) (by omega)).trans HB11.out)
  have HT12 := Lib.hid ((two_other (W := u8) (p := w.heap.size + 1 + 1) (.bool SF) (.slice au6 Lu6 cu6) (w.heap.size + 1 + 1 + 1) (by omega)).trans HT11.out)
  have HR12 := Lib.hid (num_set HR11.out (.bool SF) (.slice au6 Lu6 cu6))
  have NF12 := Lib.hid (numH_set NF11.out HR11.out (.bool SF) (.slice au6 Lu6 cu6))
  have NG12 := Lib.hid (numH_set HNu8.out HR11.out (.bool SF) (.slice au6 Lu6 cu6))
  have D12 : Hid (Below w.heap.size w ((u8.setCell ⟨w.heap.size + 1 + 1, 0, none⟩ (.bool SF)).setCell ⟨w.heap.size + 1 + 1, 1, none⟩ (.slice au6 Lu6 cu6))) := (D11.out.setCell (by first | (simp; done) | (simp; omega) | omega) _).setCell (by first | (simp; done) | (simp; omega) | omega) _
  obtain ⟨q0, q1, -, -⟩ := num_cells H912.out
  obtain ⟨o0, o1, -, -⟩ := num_cells H012.out
  obtain ⟨-, r1, -, -⟩ := num_cells H812.out
  obtain ⟨-, c11, -, -⟩ := num_cells HB12.out
  refine hK.out _ _ ⟨q0, q1, o0, o1, c11, r1⟩ (fun hHeld5 => ?_)
  clear q0 q1 o0 o1 c11 r1 hK K hHeld4
  try simp only [Act.put, List.setIfInBounds_toArray, List.set_cons_zero, List.set_cons_succ]
  generalize (u8.setCell ⟨w.heap.size + 1 + 1, 0, none⟩ (.bool SF)).setCell ⟨w.heap.size + 1 + 1, 1, none⟩ (.slice au6 Lu6 cu6) = x8 at H912 H012 H812 HB12 HT12 HR12 NF12 NG12 D12 hHeld5 ⊢
  obtain ⟨d0, d1, z0, z1⟩ := num_cells HT12.out
  refine wpAnyD_keep 11 (by kernel_rfl) rfl (fun K hK => ?_)
  go_simp
  clear d0 d1 z0 z1
  have H913 := Lib.hid ((two_other (W := x8) (p := w.heap.size + 1 + 1 + 1) (.bool false) (.slice au8 Lu8 cu8) (P9) (by have := HP9R.out; omega)).trans H912.out)
  have H013 := Lib.hid ((two_other (W := x8) (p := w.heap.size + 1 + 1 + 1) (.bool false) (.slice au8 Lu8 cu8) (P10) (by have := HP10R.out; omega)).trans H012.out)
  have H813 := Lib.hid ((two_other (W := x8) (p := w.heap.size + 1 + 1 + 1) (.bool false) (.slice au8 Lu8 cu8) (P8) (by have := HP8R.out; omega)).trans H812.out)
  have HB13 := Lib.hid ((two_other (W := x8) (p := w.heap.size + 1 + 1 + 1) (.bool false) (.slice au8 Lu8 cu8) (w.heap.size + 1) (by omega)).trans HB12.out)
  have HR13 := Lib.hid ((two_other (W := x8) (p := w.heap.size + 1 + 1 + 1) (.bool false) (.slice au8 Lu8 cu8) (w.heap.size + 1 + 1) (by omega)).trans HR12.out)
  have HT13 := Lib.hid (num_set HT12.out (.bool false) (.slice au8 Lu8 cu8))
  have NF13 := Lib.hid (numH_set NF12.out HT12.out (.bool false) (.slice au8 Lu8 cu8))
  have NG13 := Lib.hid (numH_set NG12.out HT12.out (.bool false) (.slice au8 Lu8 cu8))
  have D13 : Hid (Below w.heap.size w ((x8.setCell ⟨w.heap.size + 1 + 1 + 1, 0, none⟩ (.bool false)).setCell ⟨w.heap.size + 1 + 1 + 1, 1, none⟩ (.slice au8 Lu8 cu8))) := (D12.out.setCell (by first | (simp; done) | (simp; omega) | omega) _).setCell (by first | (simp; done) | (simp; omega) | omega) _
  obtain ⟨q0, q1, -, -⟩ := num_cells H913.out
  obtain ⟨o0, o1, -, -⟩ := num_cells H013.out
  obtain ⟨-, r1, -, -⟩ := num_cells H813.out
  obtain ⟨-, c11, -, -⟩ := num_cells HB13.out
  refine hK.out _ _ ⟨q0, q1, o0, o1, c11, r1⟩ (fun hHeld6 => ?_)
  clear q0 q1 o0 o1 c11 r1 hK K hHeld5
  try simp only [Act.put, List.setIfInBounds_toArray, List.set_cons_zero, List.set_cons_succ]
  generalize (x8.setCell ⟨w.heap.size + 1 + 1 + 1, 0, none⟩ (.bool false)).setCell ⟨w.heap.size + 1 + 1 + 1, 1, none⟩ (.slice au8 Lu8 cu8) = x9 at H913 H013 H813 HB13 HR13 HT13 NF13 NG13 D13 hHeld6 ⊢
  refine wpAnyD_end (by kernel_rfl) ?_
  obtain ⟨d10, d11, -, -⟩ := num_cells HR13.out
  obtain ⟨d20, d21, -, -⟩ := num_cells HT13.out
  go_wp2
  rw [HP.out]
  exact bodyPost_ret (v := .tuple #[.agg #[.bool SF, .slice au6 Lu6 cu6], .agg #[.bool false, .slice au8 Lu8 cu8]]) (by simp [results, Tryz.results86, go_sem, d20, d21, d10, d11]) rfl ⟨_, _, by rw [HSF.out, HSG.out, HF1.out], by rw [HF1.out]; exact NF13.out, by rw [HF2.out]; exact NG13.out, D13.out⟩
 ·have HF1 : Hid (floorN A an C = Q) := by show _ = _; rw [HFN.out.1, if_neg hadj]
  have HF2 : Hid (floorR A an C = R) := by show _ = _; rw [HFN.out.2, if_neg hadj]
  cases an with
  | false =>
   clear hadj
   go_wp2_with fail
   rw [← hP9] at HP9 ⊢
   generalize u3.alloc (.cells #[.bool SQ, .slice a3 L3 c3] 72) = x3 at HA5 HB5 HR5 HT5 H85 HP9 NC5 NS5 NQ5 D5 c00 c01 c80 c81 ⊢
   clear c00 c01 c80 c81 hP9
   obtain ⟨q0, q1, -, -⟩ := num_cells HP9.out
   obtain ⟨r0, r1, -, -⟩ := num_cells H85.out
   obtain ⟨d0, d1, z0, z1⟩ := num_cells HR5.out
   refine wp_region_late (fun w' => w'.cell? ⟨P9, 0, none⟩ = some (.bool SQ) ∧ w'.cell? ⟨P9, 1, none⟩ = some (.slice a3 L3 c3) ∧ w'.cell? ⟨P8, 0, none⟩ = some (.bool false) ∧ w'.cell? ⟨P8, 1, none⟩ = some (.slice a2 L2 c2)) (fun j => decide (j = 3)) (by kernel_rfl) ⟨q0, q1, r0, r1⟩ (fun hHeld => ?_)
   refine tkD 0 (v := ?_) rfl ?_ ?_
   rotate_left
   ·(intro wq hSq; (try dsimp only at hSq); go_simp; try with_reducible rfl)
   try simp only [Act.put, List.setIfInBounds_toArray, List.set_cons_zero, List.set_cons_succ]
   refine tkD 1 (v := ?_) rfl ?_ ?_
   rotate_left
   ·(intro wq hSq; (try dsimp only at hSq); go_simp; try with_reducible rfl)
   try simp only [Act.put, List.setIfInBounds_toArray, List.set_cons_zero, List.set_cons_succ]
   refine wpAnyD_keep 2 (by kernel_rfl) rfl (fun K hK => ?_)
   go_simp
   have w9 := two_other (W := x3) (p := w.heap.size + 1 + 1) (.bool SQ) (.slice a3 L3 c3) P9 (by have := HP9R.out; omega)
   have w8 := two_other (W := x3) (p := w.heap.size + 1 + 1) (.bool SQ) (.slice a3 L3 c3) P8 (by have := HP8R.out; omega)
   obtain ⟨y0, y1, -, -⟩ := num_cells (w9.trans HP9.out)
   obtain ⟨y2, y3, -, -⟩ := num_cells (w8.trans H85.out)
   refine hK.out _ _ ⟨y0, y1, y2, y3⟩ (fun hHeld2 => ?_)
   clear hK K hHeld q0 q1 r0 r1 d0 d1 z0 z1 w9 w8 y0 y1 y2 y3
   try simp only [Act.put, List.setIfInBounds_toArray, List.set_cons_zero, List.set_cons_succ]
   have m4 := num_set HR5.out (.bool SQ) (.slice a3 L3 c3)
   have m5 := (two_other (W := x3) (p := w.heap.size + 1 + 1) (.bool SQ) (.slice a3 L3 c3) (w.heap.size + 1 + 1 + 1) (by omega)).trans HT5.out
   have nq := numH_set NQ5.out HR5.out (.bool SQ) (.slice a3 L3 c3)
   have nr := numH_set NS5.out HR5.out (.bool SQ) (.slice a3 L3 c3)
   have hbw : Below w.heap.size w ((x3.setCell ⟨w.heap.size + 1 + 1, 0, none⟩ (.bool SQ)).setCell ⟨w.heap.size + 1 + 1, 1, none⟩ (.slice a3 L3 c3)) := (D5.out.setCell (by first | (simp; done) | (simp; omega) | omega) _).setCell (by first | (simp; done) | (simp; omega) | omega) _
   first
    | generalize (x3.setCell ⟨w.heap.size + 1 + 1, 0, none⟩ (.bool SQ)).setCell ⟨w.heap.size + 1 + 1, 1, none⟩ (.slice a3 L3 c3) = x4 at m4 m5 nq nr hbw hHeld2 ⊢
   have hbw2 := hbw.drew
   have HX4 : Hid (x4.drew.heap[w.heap.size + 1 + 1]? = some (.cells #[.bool SQ, .slice a3 L3 c3] 72)) := m4
   have HX5 : Hid (x4.drew.heap[w.heap.size + 1 + 1 + 1]? = some (.cells #[.bool false, .slice none 0 0] 72)) := m5
   have HXQ : Hid (World.numH x4.drew (.slice a3 L3 c3) Q) := nq
   have HXR : Hid (World.numH x4.drew (.slice a2 L2 c2) R) := nr
   have HXD := Lib.hid hbw2
   clear m4 m5 nq nr hbw hbw2
   generalize x4.drew = x5 at HX4 HX5 HXQ HXR HXD hHeld2 ⊢
   obtain ⟨d0, d1, z0, z1⟩ := num_cells HX5.out
   refine wpAnyD_step 3 (by kernel_rfl) rfl rfl (fun K hK => ?_)
   go_simp
   refine hK.out _ _ ?_
   clear hK K d0 d1 z0 z1 hHeld2
   try simp only [Act.put, List.setIfInBounds_toArray, List.set_cons_zero, List.set_cons_succ]
   refine wpAnyD_end (by kernel_rfl) ?_
   have m2 := num_set HX5.out (.bool false) (.slice a2 L2 c2)
   have m4 := (two_other (W := x5) (p := w.heap.size + 1 + 1 + 1) (.bool false) (.slice a2 L2 c2) (w.heap.size + 1 + 1) (by omega)).trans HX4.out
   have nq := numH_set HXQ.out HX5.out (.bool false) (.slice a2 L2 c2)
   have nr := numH_set HXR.out HX5.out (.bool false) (.slice a2 L2 c2)
   have hb9 : Below w.heap.size w ((x5.setCell ⟨w.heap.size + 1 + 1 + 1, 0, none⟩ (.bool false)).setCell ⟨w.heap.size + 1 + 1 + 1, 1, none⟩ (.slice a2 L2 c2)) := (HXD.out.setCell (by first | (simp; done) | (simp; omega) | omega) _).setCell (by first | (simp; done) | (simp; omega) | omega) _
   obtain ⟨d20, d21, -, -⟩ := num_cells m2
   obtain ⟨d10, d11, -, -⟩ := num_cells m4
   clear m2 m4
   generalize (x5.setCell ⟨w.heap.size + 1 + 1 + 1, 0, none⟩ (.bool false)).setCell ⟨w.heap.size + 1 + 1 + 1, 1, none⟩ (.slice a2 L2 c2) = W9 at d20 d21 d10 d11 nq nr hb9 ⊢
   have HNQ := Lib.hid nq
   have HNR9 := Lib.hid nr
   have HB9 := Lib.hid hb9
   clear nq nr hb9
   go_wp2
   rw [HP.out]
   exact bodyPost_ret (v := .tuple #[.agg #[.bool SQ, .slice a3 L3 c3], .agg #[.bool false, .slice a2 L2 c2]]) (by simp [results, Tryz.results86, go_sem, d20, d21, d10, d11]) rfl ⟨_, _, by rw [HSQ.out, HSG.out, HF1.out], by rw [HF1.out]; exact HNQ.out, by rw [HF2.out]; exact HNR9.out, HB9.out⟩
  | true =>
   have hR0 : R = 0 := by
    rcases Nat.eq_zero_or_pos R with h | h
    ·exact h
    ·exact absurd ⟨rfl, by omega⟩ hadj
   have hL0 : L2 = 0 := by rw [HL2.out, hR0]; rfl
   have t0 : ((L2 : Int) == 0) = true := by rw [hL0]; rfl
   clear hL0 hR0 hadj
   go_wp2_with fail
   rw [← hP9] at HP9 ⊢
   generalize u3.alloc (.cells #[.bool SQ, .slice a3 L3 c3] 72) = x3 at HA5 HB5 HR5 HT5 H85 HP9 NC5 NS5 NQ5 D5 c00 c01 c80 c81 ⊢
   clear c00 c01 c80 c81 hP9
   obtain ⟨q0, q1, -, -⟩ := num_cells HP9.out
   obtain ⟨r0, r1, -, -⟩ := num_cells H85.out
   obtain ⟨d0, d1, z0, z1⟩ := num_cells HR5.out
   refine wp_region_late (fun w' => w'.cell? ⟨P9, 0, none⟩ = some (.bool SQ) ∧ w'.cell? ⟨P9, 1, none⟩ = some (.slice a3 L3 c3) ∧ w'.cell? ⟨P8, 0, none⟩ = some (.bool false) ∧ w'.cell? ⟨P8, 1, none⟩ = some (.slice a2 L2 c2)) (fun j => decide (j = 3)) (by kernel_rfl) ⟨q0, q1, r0, r1⟩ (fun hHeld => ?_)
   refine tkD 0 (v := ?_) rfl ?_ ?_
   rotate_left
   ·(intro wq hSq; (try dsimp only at hSq); go_simp; try with_reducible rfl)
   try simp only [Act.put, List.setIfInBounds_toArray, List.set_cons_zero, List.set_cons_succ]
   refine tkD 1 (v := ?_) rfl ?_ ?_
   rotate_left
   ·(intro wq hSq; (try dsimp only at hSq); go_simp; try with_reducible rfl)
   try simp only [Act.put, List.setIfInBounds_toArray, List.set_cons_zero, List.set_cons_succ]
   refine wpAnyD_keep 2 (by kernel_rfl) rfl (fun K hK => ?_)
   go_simp
   have w9 := two_other (W := x3) (p := w.heap.size + 1 + 1) (.bool SQ) (.slice a3 L3 c3) P9 (by have := HP9R.out; omega)
   have w8 := two_other (W := x3) (p := w.heap.size + 1 + 1) (.bool SQ) (.slice a3 L3 c3) P8 (by have := HP8R.out; omega)
   obtain ⟨y0, y1, -, -⟩ := num_cells (w9.trans HP9.out)
   obtain ⟨y2, y3, -, -⟩ := num_cells (w8.trans H85.out)
   refine hK.out _ _ ⟨y0, y1, y2, y3⟩ (fun hHeld2 => ?_)
   clear hK K hHeld q0 q1 r0 r1 d0 d1 z0 z1 w9 w8 y0 y1 y2 y3
   try simp only [Act.put, List.setIfInBounds_toArray, List.set_cons_zero, List.set_cons_succ]
   have m4 := num_set HR5.out (.bool SQ) (.slice a3 L3 c3)
   have m5 := (two_other (W := x3) (p := w.heap.size + 1 + 1) (.bool SQ) (.slice a3 L3 c3) (w.heap.size + 1 + 1 + 1) (by omega)).trans HT5.out
   have nq := numH_set NQ5.out HR5.out (.bool SQ) (.slice a3 L3 c3)
   have nr := numH_set NS5.out HR5.out (.bool SQ) (.slice a3 L3 c3)
   have hbw : Below w.heap.size w ((x3.setCell ⟨w.heap.size + 1 + 1, 0, none⟩ (.bool SQ)).setCell ⟨w.heap.size + 1 + 1, 1, none⟩ (.slice a3 L3 c3)) := (D5.out.setCell (by first | (simp; done) | (simp; omega) | omega) _).setCell (by first | (simp; done) | (simp; omega) | omega) _
   first
    | generalize (x3.setCell ⟨w.heap.size + 1 + 1, 0, none⟩ (.bool SQ)).setCell ⟨w.heap.size + 1 + 1, 1, none⟩ (.slice a3 L3 c3) = x4 at m4 m5 nq nr hbw hHeld2 ⊢
   have hbw2 := hbw.drew
   have HX4 : Hid (x4.drew.heap[w.heap.size + 1 + 1]? = some (.cells #[.bool SQ, .slice a3 L3 c3] 72)) := m4
   have HX5 : Hid (x4.drew.heap[w.heap.size + 1 + 1 + 1]? = some (.cells #[.bool false, .slice none 0 0] 72)) := m5
   have HXQ : Hid (World.numH x4.drew (.slice a3 L3 c3) Q) := nq
   have HXR : Hid (World.numH x4.drew (.slice a2 L2 c2) R) := nr
   have HXD := Lib.hid hbw2
   clear m4 m5 nq nr hbw hbw2
   generalize x4.drew = x5 at HX4 HX5 HXQ HXR HXD hHeld2 ⊢
   obtain ⟨d0, d1, z0, z1⟩ := num_cells HX5.out
   refine wpAnyD_step 3 (by kernel_rfl) rfl rfl (fun K hK => ?_)
   go_simp
   refine hK.out _ _ ?_
   clear hK K d0 d1 z0 z1 hHeld2
   try simp only [Act.put, List.setIfInBounds_toArray, List.set_cons_zero, List.set_cons_succ]
   refine wpAnyD_end (by kernel_rfl) ?_
   have m2 := num_set HX5.out (.bool false) (.slice a2 L2 c2)
   have m4 := (two_other (W := x5) (p := w.heap.size + 1 + 1 + 1) (.bool false) (.slice a2 L2 c2) (w.heap.size + 1 + 1) (by omega)).trans HX4.out
   have nq := numH_set HXQ.out HX5.out (.bool false) (.slice a2 L2 c2)
   have nr := numH_set HXR.out HX5.out (.bool false) (.slice a2 L2 c2)
   have hb9 : Below w.heap.size w ((x5.setCell ⟨w.heap.size + 1 + 1 + 1, 0, none⟩ (.bool false)).setCell ⟨w.heap.size + 1 + 1 + 1, 1, none⟩ (.slice a2 L2 c2)) := (HXD.out.setCell (by first | (simp; done) | (simp; omega) | omega) _).setCell (by first | (simp; done) | (simp; omega) | omega) _
   obtain ⟨d20, d21, -, -⟩ := num_cells m2
   obtain ⟨d10, d11, -, -⟩ := num_cells m4
   clear m2 m4
   generalize (x5.setCell ⟨w.heap.size + 1 + 1 + 1, 0, none⟩ (.bool false)).setCell ⟨w.heap.size + 1 + 1 + 1, 1, none⟩ (.slice a2 L2 c2) = W9 at d20 d21 d10 d11 nq nr hb9 ⊢
   have HNQ := Lib.hid nq
   have HNR9 := Lib.hid nr
   have HB9 := Lib.hid hb9
   clear nq nr hb9
   go_wp2
   rw [HP.out]
   exact bodyPost_ret (v := .tuple #[.agg #[.bool SQ, .slice a3 L3 c3], .agg #[.bool false, .slice a2 L2 c2]]) (by simp [results, Tryz.results86, go_sem, d20, d21, d10, d11]) rfl ⟨_, _, by rw [HSQ.out, HSG.out, HF1.out], by rw [HF1.out]; exact HNQ.out, by rw [HF2.out]; exact HNR9.out, HB9.out⟩
end
/- The reference: division of forms. -/
section
open Go.RowKit Go.Shelf Go.WideNum
theorem floorR_lt (A : Nat) (an : Bool) (C : Nat) (hC : C ≠ 0) : floorR A an C < C := by
 have := Nat.mod_lt A (show 0 < C by omega)
 unfold floorR
 split <;> omega
end
/- The reference: the balanced remainder. -/
section
open Go.RowKit Go.Shelf Go.WideNum
theorem hcompare_if (an : Bool) (A : Nat) (bn : Bool) (C : Nat) (k : Int) (hk : cmpZ (zOf an A) (zOf bn C) = k) (hla : (hw A).length ≤ 2000) (hlc : (hw C).length ≤ 2000) (va vb : Value) (w : World) (hA : World.numH w va A) (hC : World.numH w vb C) :
  Calls Tryz.prog 87 #[.agg #[.bool an, va], .agg #[.bool bn, vb]] w fun e w' => e = .returned (.int .i64 k) ∧ Below w.heap.size w w' := by
 subst hk; exact hcompare_any an A va bn C vb w hA hC hla hlc
theorem hw_two : (hw 2).length = 1 := by decide +kernel
theorem refBalanced_any (na : Bool) (sa : ByteArray) (nb : Bool) (sb : ByteArray) (hsa : sa.size ≤ maxLen) (hsb : sb.size ≤ maxLen) (fb : Bool) (ft : ByteArray) (E : Int) (hop : balF na sa nb sb = (.agg #[.bool fb, .string ft], E)) (w : World) :
  Calls Tryz.prog 61 #[.agg #[.bool na, .string sa], .agg #[.bool nb, .string sb]] w fun e w' => e = .returned (.tuple #[.agg #[.bool fb, .string ft], .int .i64 E]) ∧ Below w.heap.size w w' := by
 obtain ⟨HPOST, hpost⟩ : ∃ X : Ending → World → Prop, X = fun e w' => e = .returned (.tuple #[.agg #[.bool fb, .string ft], .int .i64 E]) ∧ Below w.heap.size w w' := ⟨_, rfl⟩
 rw [← hpost]
 obtain ⟨oka, hoka⟩ : ∃ ok, ok = validB na sa := ⟨_, rfl⟩
 obtain ⟨okb, hokb⟩ : ∃ ok, ok = validB nb sb := ⟨_, rfl⟩
 have HVA := Lib.hid (refValid_wide na sa hsa oka hoka)
 have HVB := Lib.hid (refValid_wide nb sb hsb okb hokb)
 have hno : (oka && (okb && (decide (sb.size ≠ 0) && !nb))) = false → (Value.agg #[.bool fb, .string ft], E) = (emptyW, (2 : Int)) := fun h => by
  rw [← hop]; unfold balF posB; rw [← hoka, ← hokb, h]; rfl
 have hyes : oka = true → okb = true → sb.size ≠ 0 → nb = false → outZ (balZ (zV na sa) (zV nb sb)) = .agg #[.bool fb, .string ft] ∧ errZ (balZ (zV na sa) (zV nb sb)) = E := fun h1 h2 h3 h4 => by
  unfold balF posB at hop; rw [← hoka, ← hokb, h1, h2, decide_eq_true h3, h4] at hop
  rw [h4]
  injection hop with e1 e2
  exact ⟨e1, e2⟩
 have HNO := Lib.hid hno
 have HYES := Lib.hid hyes
 have HA := Lib.hid hoka
 have HB := Lib.hid hokb
 clear hop hno hyes hoka hokb
 obtain ⟨W0, hW0⟩ : ∃ W0, W0 = ((w.alloc (.cells #[.bool na, .string sa] 40)).alloc (.cells #[.bool nb, .string sb] 40)).alloc (.cells #[.bool false, .string ⟨#[]⟩] 40) := ⟨_, rfl⟩
 have g0 : W0.heap[w.heap.size]? = some (.cells #[.bool na, .string sa] 40) := by rw [hW0]; repeat (first | (refine alloc_last _ _ ?_; simp only [World.size_alloc]; done) | (rw [Below.heap_alloc]; rotate_left; (simp only [World.size_alloc]; omega)))
 have g1 : W0.heap[w.heap.size + 1]? = some (.cells #[.bool nb, .string sb] 40) := by rw [hW0]; repeat (first | (refine alloc_last _ _ ?_; simp only [World.size_alloc]; done) | (rw [Below.heap_alloc]; rotate_left; (simp only [World.size_alloc]; omega)))
 have g2 : W0.heap[w.heap.size + 1 + 1]? = some (.cells #[.bool false, .string ⟨#[]⟩] 40) := by rw [hW0]; repeat (first | (refine alloc_last _ _ ?_; simp only [World.size_alloc]; done) | (rw [Below.heap_alloc]; rotate_left; (simp only [World.size_alloc]; omega)))
 have hb0 : Below w.heap.size w W0 := by rw [hW0]; exact ((((Below.refl _ w).alloc (Nat.le_refl _) _).alloc (by simp) _).alloc (by simp; omega) _)
 have HB0 := Lib.hid hb0
 have HG0 := Lib.hid g0
 have HG1 := Lib.hid g1
 have HG2 := Lib.hid g2
 obtain ⟨c00, c01, f0⟩ := wide_cells g0
 have HW0 := Lib.hid hW0
 clear hb0 g0 g1 g2 hW0
 go_enter Tryz.func61, Tryz.ntmps61
 go_upto_region 1 with (fail)
 rw [← HW0.out]
 rw [hpost]
 rw [← hpost]
 have HP := Lib.hid hpost
 clear hpost
 go_wp2_with fail
 (with_reducible refine (HVA.out _).mono ?_)
 rintro e w1 ⟨rfl, hb1⟩
 have HK0 := Lib.hid (wide_hold (w := W0) HG0.out hb1)
 have HK1 := Lib.hid (wide_hold (w := W0) HG1.out hb1)
 have HK2 := Lib.hid (wide_hold (w := W0) HG2.out hb1)
 have HBW1 := Lib.hid (HB0.out.trans (hb1.mono HB0.out.size))
 clear c00 c01 f0 hb1
 obtain ⟨c10, c11, f1⟩ := wide_cells HK1.out
 cases oka with
 | false =>
  have hz := HNO.out rfl
  injection hz with hz1 hz2
  unfold emptyW wideV at hz1
  injection hz1 with hz1
  injection hz1 with hz1
  injection hz1 with hz1 hz3
  injection hz1 with hz1
  injection hz3 with hz3 hz4
  injection hz3 with hz3
  subst hz1 hz2 hz3
  clear hz4 c10 c11 f1
  obtain ⟨e20, e21, f2⟩ := wide_cells HK2.out
  go_wp2
  have m2 := wide_set HK2.out false ⟨#[]⟩
  have hb9 := below_set2 (p := w.heap.size + 1 + 1) HBW1.out (by omega) false ⟨#[]⟩
  obtain ⟨d20, d21, -⟩ := wide_cells m2
  clear m2 e20 e21 f2
  generalize (w1.setCell ⟨w.heap.size + 1 + 1, 0, none⟩ (.bool false)).setCell ⟨w.heap.size + 1 + 1, 1, none⟩ (.string ⟨#[]⟩) = W9 at d20 d21 hb9 ⊢
  rw [HP.out]
  exact bodyPost_ret (v := .tuple #[.agg #[.bool false, .string ⟨#[]⟩], .int .i64 2]) (by simp [results, Tryz.results61, go_sem, d20, d21]) rfl ⟨rfl, hb9⟩
 | true =>
  go_wp2_with fail
  (with_reducible refine (HVB.out _).mono ?_)
  rintro e w2 ⟨rfl, hb2⟩
  have HM0 := Lib.hid (wide_hold (w := w1) HK0.out hb2)
  have HM1 := Lib.hid (wide_hold (w := w1) HK1.out hb2)
  have HM2 := Lib.hid (wide_hold (w := w1) HK2.out hb2)
  have HBW2 := Lib.hid (HBW1.out.trans (hb2.mono HBW1.out.size))
  clear c10 c11 f1 hb2
  cases okb with
  | false =>
   have hz := HNO.out rfl
   injection hz with hz1 hz2
   unfold emptyW wideV at hz1
   injection hz1 with hz1
   injection hz1 with hz1
   injection hz1 with hz1 hz3
   injection hz1 with hz1
   injection hz3 with hz3 hz4
   injection hz3 with hz3
   subst hz1 hz2 hz3
   clear hz4
   obtain ⟨e20, e21, f2⟩ := wide_cells HM2.out
   go_wp2
   have m2 := wide_set HM2.out false ⟨#[]⟩
   have hb9 := below_set2 (p := w.heap.size + 1 + 1) HBW2.out (by omega) false ⟨#[]⟩
   obtain ⟨d20, d21, -⟩ := wide_cells m2
   clear m2 e20 e21 f2
   generalize (w2.setCell ⟨w.heap.size + 1 + 1, 0, none⟩ (.bool false)).setCell ⟨w.heap.size + 1 + 1, 1, none⟩ (.string ⟨#[]⟩) = W9 at d20 d21 hb9 ⊢
   rw [HP.out]
   exact bodyPost_ret (v := .tuple #[.agg #[.bool false, .string ⟨#[]⟩], .int .i64 2]) (by simp [results, Tryz.results61, go_sem, d20, d21]) rfl ⟨rfl, hb9⟩
  | true =>
   obtain ⟨c00, c01, f0⟩ := wide_cells HM0.out
   obtain ⟨c10, c11, f1⟩ := wide_cells HM1.out
   by_cases h0 : sb.size = 0
   ·have hz := HNO.out (by rw [decide_eq_false (fun h => h h0)]; rfl)
    obtain rfl := str_empty sb h0
    clear h0
    injection hz with hz1 hz2
    unfold emptyW wideV at hz1
    injection hz1 with hz1
    injection hz1 with hz1
    injection hz1 with hz1 hz3
    injection hz1 with hz1
    injection hz3 with hz3 hz4
    injection hz3 with hz3
    subst hz1 hz2 hz3
    clear hz4
    obtain ⟨e20, e21, f2⟩ := wide_cells HM2.out
    go_wp2
    have m2 := wide_set HM2.out false ⟨#[]⟩
    have hb9 := below_set2 (p := w.heap.size + 1 + 1) HBW2.out (by omega) false ⟨#[]⟩
    obtain ⟨d20, d21, -⟩ := wide_cells m2
    clear m2 e20 e21 f2
    generalize (w2.setCell ⟨w.heap.size + 1 + 1, 0, none⟩ (.bool false)).setCell ⟨w.heap.size + 1 + 1, 1, none⟩ (.string ⟨#[]⟩) = W9 at d20 d21 hb9 ⊢
    rw [HP.out]
    exact bodyPost_ret (v := .tuple #[.agg #[.bool false, .string ⟨#[]⟩], .int .i64 2]) (by simp [results, Tryz.results61, go_sem, d20, d21]) rfl ⟨rfl, hb9⟩
   ·obtain ⟨s1, s2⟩ := str_facts sb h0
    cases nb with
    | true =>
     have hz := HNO.out (by rw [decide_eq_true h0]; rfl)
     clear h0
     injection hz with hz1 hz2
     unfold emptyW wideV at hz1
     injection hz1 with hz1
     injection hz1 with hz1
     injection hz1 with hz1 hz3
     injection hz1 with hz1
     injection hz3 with hz3 hz4
     injection hz3 with hz3
     subst hz1 hz2 hz3
     clear hz4
     obtain ⟨e20, e21, f2⟩ := wide_cells HM2.out
     go_wp2
     have m2 := wide_set HM2.out false ⟨#[]⟩
     have hb9 := below_set2 (p := w.heap.size + 1 + 1) HBW2.out (by omega) false ⟨#[]⟩
     obtain ⟨d20, d21, -⟩ := wide_cells m2
     clear m2 e20 e21 f2
     generalize (w2.setCell ⟨w.heap.size + 1 + 1, 0, none⟩ (.bool false)).setCell ⟨w.heap.size + 1 + 1, 1, none⟩ (.string ⟨#[]⟩) = W9 at d20 d21 hb9 ⊢
     rw [HP.out]
     exact bodyPost_ret (v := .tuple #[.agg #[.bool false, .string ⟨#[]⟩], .int .i64 2]) (by simp [results, Tryz.results61, go_sem, d20, d21]) rfl ⟨rfl, hb9⟩
    | false =>
     obtain ⟨l1, -, -, -⟩ := valid_spec na sa HA.out.symm
     obtain ⟨l2, hmg, -, -⟩ := valid_spec false sb HB.out.symm
     have HINA := Lib.hid (in_any na sa HA.out.symm)
     have HINB := Lib.hid (in_any false sb HB.out.symm)
     obtain ⟨hy1, hy2⟩ := HYES.out (by simp) (by simp) h0 rfl
     unfold zV at hy1 hy2
     have hwa := hw_len129 l1
     have hwb := hw_len129 l2
     have hC0 : numB sb ≠ 0 := by
      intro h
      rw [h] at hmg
      exact h0 (by rw [← hmg]; rfl)
     obtain ⟨A, eA⟩ : ∃ A, A = numB sa := ⟨_, rfl⟩
     obtain ⟨C, eC⟩ : ∃ C, C = numB sb := ⟨_, rfl⟩
     rw [← eA] at hy1 hy2 hwa HINA l1
     rw [← eC] at hy1 hy2 hwb HINB l2 hC0
     obtain ⟨-, fz2⟩ := floor_z A na C false hC0
     have hR := floorR_lt A na C hC0
     have HDIV : Hid (∀ va vb W, World.numH W va A → World.numH W vb C → Calls Tryz.prog 86 #[.agg #[.bool na, va], .agg #[.bool false, vb]] W (DivRetH W na A false C)) := fun va vb W h1 h2 => hdiv_any na A va false C vb hC0 W h1 h2 (by omega) (by omega)
     have hRL : (hw (floorR A na C)).length ≤ 1000 := hw_len_mono (Nat.le_of_lt hR) (by omega)
     obtain ⟨M, hM⟩ : ∃ M, M = floorN A na C := ⟨_, rfl⟩
     obtain ⟨R, hRR⟩ : ∃ R, R = floorR A na C := ⟨_, rfl⟩
     unfold DivRetH at HDIV
     rw [← hM] at HDIV
     rw [← hRR] at HDIV hR hRL fz2
     unfold balZ at hy1 hy2
     rw [← fz2, zOf_false] at hy1 hy2
     obtain ⟨SG, hSG⟩ : ∃ SG, SG = ((na != false) && decide (M ≠ 0)) := ⟨_, rfl⟩
     rw [← hSG] at HDIV
     have HOR : Hid (¬ C < 2 * R → ∀ v W, World.numH W v R → Calls Tryz.prog 37 #[.agg #[.bool false, v]] W fun e w' => e = .returned (.tuple #[.agg #[.bool fb, .string ft], .int .i64 E]) ∧ Below W.heap.size W w') := fun hlt v W h => by
      rw [if_neg (by omega)] at hy1 hy2
      exact hout_num false R (by omega) fb ft E (by rw [zOf_false]; exact hy1) (by rw [zOf_false]; exact hy2) v W h
     obtain ⟨NS, hNS⟩ : ∃ S, S = (!false && decide (C ≠ 0)) := ⟨_, rfl⟩
     obtain ⟨S2, hS2⟩ : ∃ S, S = (sumS R false C NS && decide (sumN R false C NS ≠ 0)) := ⟨_, rfl⟩
     obtain ⟨N2, hN2⟩ : ∃ S, S = sumN R false C NS := ⟨_, rfl⟩
     have hz2 : zOf S2 N2 = (R : Int) - (C : Int) := by
      rw [hS2, hN2, zOf_and, sum_z, hNS, decide_eq_true hC0, zOf_false]
      show (R : Int) + -(C : Int) = _
      omega
     have hNL2 : (hw N2).length ≤ 4001 := hw_len_sum (A := R) (C := C) (by omega) (by omega) (by rw [hN2]; exact sumN_le _ _ _ _)
     have HAD : Hid (∀ va vb W, World.numH W va R → World.numH W vb C → Calls Tryz.prog 85 #[.agg #[.bool false, va], .agg #[.bool NS, vb]] W (SRet W S2 N2)) := fun va vb W h1 h2 => by rw [hS2, hN2]; exact hadd_any false R va _ C vb W h1 h2 (by omega) (by omega)
     have HOB : Hid (C < 2 * R → ∀ v W, World.numH W v N2 → Calls Tryz.prog 37 #[.agg #[.bool S2, v]] W fun e w' => e = .returned (.tuple #[.agg #[.bool fb, .string ft], .int .i64 E]) ∧ Below W.heap.size W w') := fun hlt v W h => by
      rw [if_pos (by omega)] at hy1 hy2
      exact hout_num S2 N2 (by omega) fb ft E (by rw [hz2]; exact hy1) (by rw [hz2]; exact hy2) v W h
     have HNG : Hid (∀ v W, World.numH W v C → Calls Tryz.prog 89 #[.agg #[.bool false, v]] W (SRet W NS C)) := fun v W h => by rw [hNS]; exact negative_any false C _ (hw_vlt C) (by omega) v W (numH_raw h)
     have HWO : Hid (∀ W, Calls Tryz.prog 88 #[.int .u32 2] W (SRet W false 2)) := fun W => word_any 2 (by omega) W
     obtain ⟨S3, hS3⟩ : ∃ S, S = ((false != false) && decide (2 * R ≠ 0)) := ⟨_, rfl⟩
     have hS3' : S3 = false := by rw [hS3]; rfl
     subst hS3'
     have HMU : Hid (∀ va vb W, World.numH W va 2 → World.numH W vb R → Calls Tryz.prog 80 #[.agg #[.bool false, va], .agg #[.bool false, vb]] W (SRet W false (2 * R))) := fun va vb W h1 h2 => by rw [hS3]; exact hmul_any false 2 va false R vb W h1 h2 (by rw [hw_two]; omega) (by omega)
     have h2L : (hw (2 * R)).length ≤ 2000 := by
      have := hw_len_mul (A := 2) (C := R) (Nat.le_of_eq hw_two) hRL
      omega
     obtain ⟨k, hk⟩ : ∃ k, cmpZ (zOf false (2 * R)) (zOf false C) = k := ⟨_, rfl⟩
     have HCM : Hid (∀ va vb W, World.numH W va (2 * R) → World.numH W vb C → Calls Tryz.prog 87 #[.agg #[.bool false, va], .agg #[.bool false, vb]] W fun e w' => e = .returned (.int .i64 k) ∧ Below W.heap.size W w') := fun va vb W h1 h2 => hcompare_if false (2 * R) false C k hk h2L (by omega) va vb W h1 h2
     have HK : Hid ((C < 2 * R ∧ k = 1) ∨ (¬ C < 2 * R ∧ k ≤ 0)) := by
      show _ ∨ _
      unfold cmpZ at hk
      rw [zOf_false, zOf_false] at hk
      by_cases hlt : C < 2 * R
      ·rw [if_neg (by omega), if_pos (by omega)] at hk; exact .inl ⟨hlt, hk.symm⟩
      ·rw [if_neg (show ¬ (C : Int) < ((2 * R : Nat) : Int) by omega)] at hk
       refine .inr ⟨hlt, ?_⟩
       split at hk <;> omega
     clear hM hRR hSG hwa hwb hy1 hy2 hR hRL fz2 eA eC l1 l2 hmg hC0 h0 hS2 hN2 hz2 hNL2 hS3 h2L hk hNS
     go_wp2_with fail
     have hS0 : ∀ W, Below w2.heap.size w2 W → W.cell? ⟨w.heap.size, 0, none⟩ = some (.bool na) ∧ W.cell? ⟨w.heap.size, 1, none⟩ = some (.string sa) ∧ W.cell? ⟨w.heap.size + 1, 0, none⟩ = some (.bool false) ∧ W.cell? ⟨w.heap.size + 1, 1, none⟩ = some (.string sb) := fun W hb => keep4 (wide_hold (w := w2) HM0.out hb) (wide_hold (w := w2) HM1.out hb)
     clear c00 c01 f0 c10 c11 f1 s1 s2
     refine wp_region_AE 10 7 w2.heap.size (fun w' => w'.cell? ⟨w.heap.size, 0, none⟩ = some (.bool na) ∧ w'.cell? ⟨w.heap.size, 1, none⟩ = some (.string sa) ∧ w'.cell? ⟨w.heap.size + 1, 0, none⟩ = some (.bool false) ∧ w'.cell? ⟨w.heap.size + 1, 1, none⟩ = some (.string sb)) (fun W => Below w2.heap.size w2 W) (fun j => decide (10 ≤ j)) (by kernel_rfl) rfl (by kernel_rfl) (fun _ _ _ _ h => h) (by kernel_rfl) (fact_below (Nat.le_refl _) hS0) ((Below.refl _ _).drew) (fun hF => ?_)
     clear hS0
     refine wpAnyA_alloc2 8 9 (.cells #[.bool false, .slice none 0 0] 72) (.cells #[.bool false, .slice none 0 0] 72) (by kernel_rfl) (by kernel_rfl) (by decide) rfl rfl rfl rfl (by kernel_rfl) (by kernel_rfl) (by kernel_rfl) (by kernel_rfl) (by kernel_rfl) (fun _ => rfl) (fun _ => rfl) (fun _ _ => rfl) (fun _ _ => rfl) (fun _ _ _ _ h => h) (fun _ _ _ _ h => h) hF ?_
     try simp only [Act.put, List.setIfInBounds_toArray, List.set_cons_zero, List.set_cons_succ]
     refine wpAnyA_take 0 (v := ?_) (by kernel_rfl) rfl rfl (by kernel_rfl) (by kernel_rfl) (fun _ _ _ h => h) (Or.inl ⟨by rfl, ?_⟩) (by assumption) ?_
     rotate_left
     ·(intro wq hSq; (try dsimp only at hSq); go_simp; try with_reducible rfl)
     try simp only [Act.put, List.setIfInBounds_toArray, List.set_cons_zero, List.set_cons_succ]
     refine wpAnyA_take 2 (v := ?_) (by kernel_rfl) rfl rfl (by kernel_rfl) (by kernel_rfl) (fun _ _ _ h => h) (Or.inl ⟨by rfl, ?_⟩) (by assumption) ?_
     rotate_left
     ·(intro wq hSq; (try dsimp only at hSq); go_simp; try with_reducible rfl)
     try simp only [Act.put, List.setIfInBounds_toArray, List.set_cons_zero, List.set_cons_succ]
     refine wpAnyA_step 1 (by kernel_rfl) rfl rfl (fun wq (hFq : Below w2.heap.size w2 wq) K hK => ?_)
     go_simp
     (with_reducible refine (HINA.out _).mono ?_)
     rintro e w5 ⟨v5, rfl, hn5, hb5⟩
     obtain ⟨a5, L5, c5, rfl⟩ : ∃ a L c, v5 = .slice a L c := by obtain ⟨x, y, h⟩ := reads_len hn5; exact ⟨x, _, y, h⟩
     have hq5 : Below w2.heap.size w2 w5 := hFq.trans (hb5.mono hFq.size)
     have hd5 : Below w2.heap.size w2 w5 := hq5
     have N5_5 := Lib.hid hn5
     have D5 := Lib.hid hd5
     have hF5 : Fact w2.heap.size (fun w' => w'.cell? ⟨w.heap.size, 0, none⟩ = some (.bool na) ∧ w'.cell? ⟨w.heap.size, 1, none⟩ = some (.string sa) ∧ w'.cell? ⟨w.heap.size + 1, 0, none⟩ = some (.bool false) ∧ w'.cell? ⟨w.heap.size + 1, 1, none⟩ = some (.string sb)) (fun W => Below w5.heap.size w5 W) := fact_below hd5.size (fun W hb => keep4 (wide_hold (w := w2) HM0.out (D5.out.trans (hb.mono D5.out.size))) (wide_hold (w := w2) HM1.out (D5.out.trans (hb.mono D5.out.size))))
     refine hK.out _ _ hb5 (fun W => Below w5.heap.size w5 W) hF5 (Below.refl _ _) ?_
     clear hK K hb5 hq5 hd5 hFq  hn5
     try simp only [Act.put, List.setIfInBounds_toArray, List.set_cons_zero, List.set_cons_succ]
     refine wpAnyA_step 3 (by kernel_rfl) rfl rfl (fun wq (hFq : Below w5.heap.size w5 wq) K hK => ?_)
     have NQ_5 := Lib.hid (numHold N5_5.out hFq)
     go_simp
     (with_reducible refine (HINB.out _).mono ?_)
     rintro e w6 ⟨v6, rfl, hn6, hb6⟩
     obtain ⟨a6, L6, c6, rfl⟩ : ∃ a L c, v6 = .slice a L c := by obtain ⟨x, y, h⟩ := reads_len hn6; exact ⟨x, _, y, h⟩
     have hq6 : Below w5.heap.size w5 w6 := hFq.trans (hb6.mono hFq.size)
     have hd6 : Below w2.heap.size w2 w6 := D5.out.trans (hq6.mono D5.out.size)
     have N6_5 := Lib.hid (numHold NQ_5.out hb6)
     have N6_6 := Lib.hid hn6
     have D6 := Lib.hid hd6
     have hF6 : Fact w2.heap.size (fun w' => w'.cell? ⟨w.heap.size, 0, none⟩ = some (.bool na) ∧ w'.cell? ⟨w.heap.size, 1, none⟩ = some (.string sa) ∧ w'.cell? ⟨w.heap.size + 1, 0, none⟩ = some (.bool false) ∧ w'.cell? ⟨w.heap.size + 1, 1, none⟩ = some (.string sb)) (fun W => Below w6.heap.size w6 W) := fact_below hd6.size (fun W hb => keep4 (wide_hold (w := w2) HM0.out (D6.out.trans (hb.mono D6.out.size))) (wide_hold (w := w2) HM1.out (D6.out.trans (hb.mono D6.out.size))))
     refine hK.out _ _ hb6 (fun W => Below w6.heap.size w6 W) hF6 (Below.refl _ _) ?_
     clear hK K hb6 hq6 hd6 hFq NQ_5 hn6
     try simp only [Act.put, List.setIfInBounds_toArray, List.set_cons_zero, List.set_cons_succ]
     refine wpAnyA_step 4 (by kernel_rfl) rfl rfl (fun wq (hFq : Below w6.heap.size w6 wq) K hK => ?_)
     have NQ_5 := Lib.hid (numHold N6_5.out hFq)
     have NQ_6 := Lib.hid (numHold N6_6.out hFq)
     go_simp
     (with_reducible refine (HDIV.out _ _ _ NQ_5.out NQ_6.out).mono ?_)
     rintro e w7 ⟨v7, u7, rfl, hn7, hm7, hb7⟩
     obtain ⟨a7, L7, c7, rfl⟩ : ∃ a L c, v7 = .slice a L c := by obtain ⟨x, y, h⟩ := reads_len hn7; exact ⟨x, _, y, h⟩
     obtain ⟨am7, Lm7, cm7, rfl⟩ : ∃ a L c, u7 = .slice a L c := by obtain ⟨x, y, h⟩ := reads_len hm7; exact ⟨x, _, y, h⟩
     have hq7 : Below w6.heap.size w6 w7 := hFq.trans (hb7.mono hFq.size)
     have hd7 : Below w2.heap.size w2 w7 := D6.out.trans (hq7.mono D6.out.size)
     have N7_5 := Lib.hid (numHold NQ_5.out hb7)
     have N7_6 := Lib.hid (numHold NQ_6.out hb7)
     have N7_7 := Lib.hid hn7
     have N7_m7 := Lib.hid hm7
     have D7 := Lib.hid hd7
     have hF7 : Fact w2.heap.size (fun w' => w'.cell? ⟨w.heap.size, 0, none⟩ = some (.bool na) ∧ w'.cell? ⟨w.heap.size, 1, none⟩ = some (.string sa) ∧ w'.cell? ⟨w.heap.size + 1, 0, none⟩ = some (.bool false) ∧ w'.cell? ⟨w.heap.size + 1, 1, none⟩ = some (.string sb)) (fun W => Below w7.heap.size w7 W) := fact_below hd7.size (fun W hb => keep4 (wide_hold (w := w2) HM0.out (D7.out.trans (hb.mono D7.out.size))) (wide_hold (w := w2) HM1.out (D7.out.trans (hb.mono D7.out.size))))
     refine hK.out _ _ hb7 (fun W => Below w7.heap.size w7 W) hF7 (Below.refl _ _) ?_
     clear hK K hb7 hq7 hd7 hFq NQ_5 NQ_6 hn7 hm7
     try simp only [Act.put, List.setIfInBounds_toArray, List.set_cons_zero, List.set_cons_succ]
     refine wpAnyA_take 5 (v := ?_) (by kernel_rfl) rfl rfl (by kernel_rfl) (by kernel_rfl) (fun _ _ _ h => h) (Or.inl ⟨by rfl, ?_⟩) (by assumption) ?_
     rotate_left
     ·(intro wq hSq; (try dsimp only at hSq); go_simp; try with_reducible rfl)
     try simp only [Act.put, List.setIfInBounds_toArray, List.set_cons_zero, List.set_cons_succ]
     refine wpAnyA_take 6 (v := ?_) (by kernel_rfl) rfl rfl (by kernel_rfl) (by kernel_rfl) (fun _ _ _ h => h) (Or.inl ⟨by rfl, ?_⟩) (by assumption) ?_
     rotate_left
     ·(intro wq hSq; (try dsimp only at hSq); go_simp; try with_reducible rfl)
     try simp only [Act.put, List.setIfInBounds_toArray, List.set_cons_zero, List.set_cons_succ]
     refine wpAnyA_take 7 (v := ?_) (by kernel_rfl) rfl rfl (by kernel_rfl) (by kernel_rfl) (fun _ _ _ h => h) (Or.inl ⟨by rfl, ?_⟩) (by assumption) ?_
     rotate_left
     ·(intro wq hSq; (try dsimp only at hSq); go_simp; try with_reducible rfl)
     try simp only [Act.put, List.setIfInBounds_toArray, List.set_cons_zero, List.set_cons_succ]
     refine wpAnyA_end (by kernel_rfl) (fun x0 (hFx : Below w7.heap.size w7 x0) => ?_)
     intro p q hp hq hpq h7 h8
     have hd0 := D7.out.trans (hFx.mono D7.out.size)
     have hm1 := wide_hold (w := w2) HM1.out hd0
     have hm2 := wide_hold (w := w2) HM2.out hd0
     have hw3 := lt_of_heap HM2.out
     have hn := numHold N7_7.out hFx
     have hr := numHold N7_m7.out hFx
     have hD := HBW2.out.trans (hd0.mono HBW2.out.size)
     obtain ⟨d0, d1, z0, z1⟩ := num_cells h7
     refine wpAny_of_D (S := fun _ => True) (late := fun _ => true) _ _ _ _ ?_
     refine wpAnyD_step 10 (by kernel_rfl) rfl rfl (fun K hK => ?_)
     simp only [moreAfter]
     go_simp
     refine hK.out _ _ ?_
     clear hK K d0 d1 z0 z1
     try simp only [Act.put, List.setIfInBounds_toArray, List.set_cons_zero, List.set_cons_succ]
     have e7 := num_set h7 (.bool SG) (.slice a7 L7 c7)
     have e8 := (two_other (W := x0) (p := p) (.bool SG) (.slice a7 L7 c7) q (Ne.symm hpq)).trans h8
     have e1 := (two_other (W := x0) (p := p) (.bool SG) (.slice a7 L7 c7) (w.heap.size + 1) (by omega)).trans hm1
     have e2 := (two_other (W := x0) (p := p) (.bool SG) (.slice a7 L7 c7) (w.heap.size + 1 + 1) (by omega)).trans hm2
     have en := numH_set hn h7 (.bool SG) (.slice a7 L7 c7)
     have er := numH_set hr h7 (.bool SG) (.slice a7 L7 c7)
     have eD : Below w.heap.size w ((x0.setCell ⟨p, 0, none⟩ (.bool SG)).setCell ⟨p, 1, none⟩ (.slice a7 L7 c7)) := (hD.setCell (show w.heap.size ≤ p by omega) _).setCell (show w.heap.size ≤ p by omega) _
     clear h7 h8 hm1 hm2 hn hr hD
     generalize (x0.setCell ⟨p, 0, none⟩ (.bool SG)).setCell ⟨p, 1, none⟩ (.slice a7 L7 c7) = x1 at e7 e8 e1 e2 en er eD ⊢
     obtain ⟨d0, d1, z0, z1⟩ := num_cells e8
     refine wpAnyD_step 11 (by kernel_rfl) rfl rfl (fun K hK => ?_)
     go_simp
     refine hK.out _ _ ?_
     clear hK K d0 d1 z0 z1
     try simp only [Act.put, List.setIfInBounds_toArray, List.set_cons_zero, List.set_cons_succ]
     refine wpAnyD_end (by kernel_rfl) ?_
     have i8 := num_set e8 (.bool false) (.slice am7 Lm7 cm7)
     have i7 := (two_other (W := x1) (p := q) (.bool false) (.slice am7 Lm7 cm7) p hpq).trans e7
     have i1 := (two_other (W := x1) (p := q) (.bool false) (.slice am7 Lm7 cm7) (w.heap.size + 1) (by omega)).trans e1
     have i2 := (two_other (W := x1) (p := q) (.bool false) (.slice am7 Lm7 cm7) (w.heap.size + 1 + 1) (by omega)).trans e2
     have jn := numH_set en e8 (.bool false) (.slice am7 Lm7 cm7)
     have jr := numH_set er e8 (.bool false) (.slice am7 Lm7 cm7)
     have jD : Below w.heap.size w ((x1.setCell ⟨q, 0, none⟩ (.bool false)).setCell ⟨q, 1, none⟩ (.slice am7 Lm7 cm7)) := (eD.setCell (show w.heap.size ≤ q by omega) _).setCell (show w.heap.size ≤ q by omega) _
     clear e7 e8 e1 e2 en er eD
     generalize (x1.setCell ⟨q, 0, none⟩ (.bool false)).setCell ⟨q, 1, none⟩ (.slice am7 Lm7 cm7) = x2 at i8 i7 i1 i2 jn jr jD ⊢
     have HJ7 := Lib.hid i7
     have HJ8 := Lib.hid i8
     have HJ1 := Lib.hid i1
     have HJ2 := Lib.hid i2
     have HJN := Lib.hid jn
     have HJR := Lib.hid jr
     have HJD := Lib.hid jD
     clear i7 i8 i1 i2 jn jr jD hFx hd0
     clear hpq hp HJ7 HJN N7_5 N7_6 N7_7 N7_m7 hF hF5 hF6 hF7
     have Hx2_q := HJ8
     have Hx2_1 := HJ1
     have Hx2_2 := HJ2
     have Nx2_R := HJR
     have Dx2 := HJD
     have hqg : w.heap.size + 1 + 1 < q := by omega
     clear hq hw3 HJ8 HJ1 HJ2 HJR HJD
     go_upto_region 4 with (fail)
     obtain ⟨c00, c01, z0, z1⟩ := num_cells Hx2_q.out
     obtain ⟨c10, c11, f1⟩ := wide_cells Hx2_1.out
     refine wp_region_late (fun w' => w'.cell? ⟨q, 0, none⟩ = some (.bool false) ∧ w'.cell? ⟨q, 1, none⟩ = some (.slice am7 Lm7 cm7) ∧ w'.cell? ⟨w.heap.size + 1, 0, none⟩ = some (.bool false) ∧ w'.cell? ⟨w.heap.size + 1, 1, none⟩ = some (.string sb)) (fun _ => false) (by kernel_rfl) ⟨c00, c01, c10, c11⟩ (fun hHeld => ?_)
     refine tkD 1 (v := ?_) rfl ?_ ?_
     rotate_left
     ·(intro wq hSq; (try dsimp only at hSq); go_simp; try with_reducible rfl)
     try simp only [Act.put, List.setIfInBounds_toArray, List.set_cons_zero, List.set_cons_succ]
     refine tkD 3 (v := ?_) rfl ?_ ?_
     rotate_left
     ·(intro wq hSq; (try dsimp only at hSq); go_simp; try with_reducible rfl)
     try simp only [Act.put, List.setIfInBounds_toArray, List.set_cons_zero, List.set_cons_succ]
     have Hx3_q : Hid (x2.drew.heap[q]? = some (.cells #[.bool false, .slice am7 Lm7 cm7] 72)) := Hx2_q.out
     have Hx3_1 : Hid (x2.drew.heap[w.heap.size + 1]? = some (.cells #[.bool false, .string sb] 40)) := Hx2_1.out
     have Hx3_2 : Hid (x2.drew.heap[w.heap.size + 1 + 1]? = some (.cells #[.bool false, .string ⟨#[]⟩] 40)) := Hx2_2.out
     have Nx3_R : Hid (World.numH x2.drew (.slice am7 Lm7 cm7) R) := Nx2_R.out
     have Dx3 := Lib.hid (Dx2.out.drew)
     clear c00 c01 z0 z1 c10 c11 f1 Hx2_q Hx2_1 Hx2_2 Nx2_R Dx2
     generalize x2.drew = x3 at Hx3_q Hx3_1 Hx3_2 Nx3_R Dx3 hHeld ⊢
     refine wpAnyD_keep 0 (by kernel_rfl) rfl (fun K hK => ?_)
     go_simp
     (with_reducible refine (HWO.out _).mono ?_)
     rintro e x4 ⟨v, rfl, hn, hb⟩
     obtain ⟨ax4, Lx4, cx4, rfl⟩ : ∃ a L c, v = .slice a L c := by obtain ⟨x, y, h⟩ := reads_len hn; exact ⟨x, _, y, h⟩
     have Hx4_q := Lib.hid (hold Hx3_q.out hb)
     have Hx4_1 := Lib.hid (hold Hx3_1.out hb)
     have Hx4_2 := Lib.hid (hold Hx3_2.out hb)
     have Nx4_R := Lib.hid (numHold Nx3_R.out hb)
     have Nx4_x4 := Lib.hid hn
     have Dx4 := Lib.hid (Dx3.out.trans (hb.mono Dx3.out.size))
     obtain ⟨j0, j1, -, -⟩ := num_cells Hx4_q.out
     obtain ⟨j2, j3, -⟩ := wide_cells Hx4_1.out
     refine hK.out _ _ ⟨j0, j1, j2, j3⟩ (fun hHeldx4 => ?_)
     clear hK K hb hHeld hn j0 j1 j2 j3
     try simp only [Act.put, List.setIfInBounds_toArray, List.set_cons_zero, List.set_cons_succ]
     refine wpAnyD_keep 2 (by kernel_rfl) rfl (fun K hK => ?_)
     go_simp
     (with_reducible refine (HMU.out _ _ _ Nx4_x4.out Nx4_R.out).mono ?_)
     rintro e x5 ⟨v, rfl, hn, hb⟩
     obtain ⟨ax5, Lx5, cx5, rfl⟩ : ∃ a L c, v = .slice a L c := by obtain ⟨x, y, h⟩ := reads_len hn; exact ⟨x, _, y, h⟩
     have Hx5_q := Lib.hid (hold Hx4_q.out hb)
     have Hx5_1 := Lib.hid (hold Hx4_1.out hb)
     have Hx5_2 := Lib.hid (hold Hx4_2.out hb)
     have Nx5_R := Lib.hid (numHold Nx4_R.out hb)
     have Nx5_x5 := Lib.hid hn
     have Dx5 := Lib.hid (Dx4.out.trans (hb.mono Dx4.out.size))
     obtain ⟨j0, j1, -, -⟩ := num_cells Hx5_q.out
     obtain ⟨j2, j3, -⟩ := wide_cells Hx5_1.out
     refine hK.out _ _ ⟨j0, j1, j2, j3⟩ (fun hHeldx5 => ?_)
     clear hK K hb hHeldx4 hn j0 j1 j2 j3
     try simp only [Act.put, List.setIfInBounds_toArray, List.set_cons_zero, List.set_cons_succ]
     refine wpAnyD_keep 4 (by kernel_rfl) rfl (fun K hK => ?_)
     go_simp
     (with_reducible refine (HINB.out _).mono ?_)
     rintro e x6 ⟨v, rfl, hn, hb⟩
     obtain ⟨ax6, Lx6, cx6, rfl⟩ : ∃ a L c, v = .slice a L c := by obtain ⟨x, y, h⟩ := reads_len hn; exact ⟨x, _, y, h⟩
     have Hx6_q := Lib.hid (hold Hx5_q.out hb)
     have Hx6_1 := Lib.hid (hold Hx5_1.out hb)
     have Hx6_2 := Lib.hid (hold Hx5_2.out hb)
     have Nx6_R := Lib.hid (numHold Nx5_R.out hb)
     have Nx6_x5 := Lib.hid (numHold Nx5_x5.out hb)
     have Nx6_x6 := Lib.hid hn
     have Dx6 := Lib.hid (Dx5.out.trans (hb.mono Dx5.out.size))
     obtain ⟨j0, j1, -, -⟩ := num_cells Hx6_q.out
     obtain ⟨j2, j3, -⟩ := wide_cells Hx6_1.out
     refine hK.out _ _ ⟨j0, j1, j2, j3⟩ (fun hHeldx6 => ?_)
     clear hK K hb hHeldx5 hn j0 j1 j2 j3
     try simp only [Act.put, List.setIfInBounds_toArray, List.set_cons_zero, List.set_cons_succ]
     refine wpAnyD_keep 5 (by kernel_rfl) rfl (fun K hK => ?_)
     go_simp
     (with_reducible refine (HCM.out _ _ _ Nx6_x5.out Nx6_x6.out).mono ?_)
     rintro e x7 ⟨rfl, hb⟩
     have Hx7_q := Lib.hid (hold Hx6_q.out hb)
     have Hx7_1 := Lib.hid (hold Hx6_1.out hb)
     have Hx7_2 := Lib.hid (hold Hx6_2.out hb)
     have Nx7_R := Lib.hid (numHold Nx6_R.out hb)
     have Dx7 := Lib.hid (Dx6.out.trans (hb.mono Dx6.out.size))
     obtain ⟨j0, j1, -, -⟩ := num_cells Hx7_q.out
     obtain ⟨j2, j3, -⟩ := wide_cells Hx7_1.out
     refine hK.out _ _ ⟨j0, j1, j2, j3⟩ (fun hHeldx7 => ?_)
     clear hK K hb hHeldx6  j0 j1 j2 j3
     try simp only [Act.put, List.setIfInBounds_toArray, List.set_cons_zero, List.set_cons_succ]
     rcases HK.out with ⟨hlt, hk⟩ | ⟨hlt, hk⟩
     ·subst hk
      refine tkD 6 (v := ?_) rfl ?_ ?_
      rotate_left
      ·(intro wq hSq; (try dsimp only at hSq); go_simp; try with_reducible rfl)
      try simp only [Act.put, List.setIfInBounds_toArray, List.set_cons_zero, List.set_cons_succ]
      refine wpAnyD_end (by kernel_rfl) ?_
      have HLT := Lib.hid hlt
      clear hHeldx7 hlt
      go_upto_region 5 with (fail)
      obtain ⟨c00, c01, z0, z1⟩ := num_cells Hx7_q.out
      obtain ⟨c10, c11, f1⟩ := wide_cells Hx7_1.out
      refine wp_region_late (fun w' => w'.cell? ⟨q, 0, none⟩ = some (.bool false) ∧ w'.cell? ⟨q, 1, none⟩ = some (.slice am7 Lm7 cm7) ∧ w'.cell? ⟨w.heap.size + 1, 0, none⟩ = some (.bool false) ∧ w'.cell? ⟨w.heap.size + 1, 1, none⟩ = some (.string sb)) (fun j => decide (j = 5)) (by kernel_rfl) ⟨c00, c01, c10, c11⟩ (fun hHeld => ?_)
      refine tkD 0 (v := ?_) rfl ?_ ?_
      rotate_left
      ·(intro wq hSq; (try dsimp only at hSq); go_simp; try with_reducible rfl)
      try simp only [Act.put, List.setIfInBounds_toArray, List.set_cons_zero, List.set_cons_succ]
      refine tkD 1 (v := ?_) rfl ?_ ?_
      rotate_left
      ·(intro wq hSq; (try dsimp only at hSq); go_simp; try with_reducible rfl)
      try simp only [Act.put, List.setIfInBounds_toArray, List.set_cons_zero, List.set_cons_succ]
      have Hx8_q : Hid (x7.drew.heap[q]? = some (.cells #[.bool false, .slice am7 Lm7 cm7] 72)) := Hx7_q.out
      have Hx8_1 : Hid (x7.drew.heap[w.heap.size + 1]? = some (.cells #[.bool false, .string sb] 40)) := Hx7_1.out
      have Hx8_2 : Hid (x7.drew.heap[w.heap.size + 1 + 1]? = some (.cells #[.bool false, .string ⟨#[]⟩] 40)) := Hx7_2.out
      have Nx8_R : Hid (World.numH x7.drew (.slice am7 Lm7 cm7) R) := Nx7_R.out
      have Dx8 := Lib.hid (Dx7.out.drew)
      clear c00 c01 z0 z1 c10 c11 f1
      generalize x7.drew = x8 at Hx8_q Hx8_1 Hx8_2 Nx8_R Dx8 hHeld ⊢
      refine wpAnyD_keep 2 (by kernel_rfl) rfl (fun K hK => ?_)
      go_simp
      (with_reducible refine (HINB.out _).mono ?_)
      rintro e x9 ⟨v, rfl, hn, hb⟩
      obtain ⟨ax9, Lx9, cx9, rfl⟩ : ∃ a L c, v = .slice a L c := by obtain ⟨x, y, h⟩ := reads_len hn; exact ⟨x, _, y, h⟩
      have Hx9_q := Lib.hid (hold Hx8_q.out hb)
      have Hx9_1 := Lib.hid (hold Hx8_1.out hb)
      have Hx9_2 := Lib.hid (hold Hx8_2.out hb)
      have Nx9_R := Lib.hid (numHold Nx8_R.out hb)
      have Nx9_x9 := Lib.hid hn
      have Dx9 := Lib.hid (Dx8.out.trans (hb.mono Dx8.out.size))
      obtain ⟨j0, j1, -, -⟩ := num_cells Hx9_q.out
      obtain ⟨j2, j3, -⟩ := wide_cells Hx9_1.out
      refine hK.out _ _ ⟨j0, j1, j2, j3⟩ (fun hHeldx9 => ?_)
      clear hK K hb hHeld hn j0 j1 j2 j3
      try simp only [Act.put, List.setIfInBounds_toArray, List.set_cons_zero, List.set_cons_succ]
      refine wpAnyD_keep 3 (by kernel_rfl) rfl (fun K hK => ?_)
      go_simp
      (with_reducible refine (HNG.out _ _ Nx9_x9.out).mono ?_)
      rintro e x10 ⟨v, rfl, hn, hb⟩
      obtain ⟨ax10, Lx10, cx10, rfl⟩ : ∃ a L c, v = .slice a L c := by obtain ⟨x, y, h⟩ := reads_len hn; exact ⟨x, _, y, h⟩
      have Hx10_q := Lib.hid (hold Hx9_q.out hb)
      have Hx10_1 := Lib.hid (hold Hx9_1.out hb)
      have Hx10_2 := Lib.hid (hold Hx9_2.out hb)
      have Nx10_R := Lib.hid (numHold Nx9_R.out hb)
      have Nx10_x10 := Lib.hid hn
      have Dx10 := Lib.hid (Dx9.out.trans (hb.mono Dx9.out.size))
      obtain ⟨j0, j1, -, -⟩ := num_cells Hx10_q.out
      obtain ⟨j2, j3, -⟩ := wide_cells Hx10_1.out
      refine hK.out _ _ ⟨j0, j1, j2, j3⟩ (fun hHeldx10 => ?_)
      clear hK K hb hHeldx9 hn j0 j1 j2 j3
      try simp only [Act.put, List.setIfInBounds_toArray, List.set_cons_zero, List.set_cons_succ]
      refine wpAnyD_keep 4 (by kernel_rfl) rfl (fun K hK => ?_)
      go_simp
      (with_reducible refine (HAD.out _ _ _ Nx10_R.out Nx10_x10.out).mono ?_)
      rintro e x11 ⟨v, rfl, hn, hb⟩
      obtain ⟨ax11, Lx11, cx11, rfl⟩ : ∃ a L c, v = .slice a L c := by obtain ⟨x, y, h⟩ := reads_len hn; exact ⟨x, _, y, h⟩
      have Hx11_q := Lib.hid (hold Hx10_q.out hb)
      have Hx11_1 := Lib.hid (hold Hx10_1.out hb)
      have Hx11_2 := Lib.hid (hold Hx10_2.out hb)
      have Nx11_x11 := Lib.hid hn
      have Dx11 := Lib.hid (Dx10.out.trans (hb.mono Dx10.out.size))
      obtain ⟨j0, j1, -, -⟩ := num_cells Hx11_q.out
      obtain ⟨j2, j3, -⟩ := wide_cells Hx11_1.out
      refine hK.out _ _ ⟨j0, j1, j2, j3⟩ (fun hHeldx11 => ?_)
      clear hK K hb hHeldx10 hn j0 j1 j2 j3
      try simp only [Act.put, List.setIfInBounds_toArray, List.set_cons_zero, List.set_cons_succ]
      obtain ⟨d0, d1, z0, z1⟩ := num_cells Hx11_q.out
      refine wpAnyD_step 5 (by kernel_rfl) rfl rfl (fun K hK => ?_)
      go_simp
      refine hK.out _ _ ?_
      clear hK K d0 d1 z0 z1 hHeldx11
      try simp only [Act.put, List.setIfInBounds_toArray, List.set_cons_zero, List.set_cons_succ]
      refine wpAnyD_end (by kernel_rfl) ?_
      have i8 := num_set Hx11_q.out (.bool S2) (.slice ax11 Lx11 cx11)
      have i2 := (two_other (W := x11) (p := q) (.bool S2) (.slice ax11 Lx11 cx11) (w.heap.size + 1 + 1) (by omega)).trans Hx11_2.out
      have jn := numH_set Nx11_x11.out Hx11_q.out (.bool S2) (.slice ax11 Lx11 cx11)
      have jD : Below w.heap.size w ((x11.setCell ⟨q, 0, none⟩ (.bool S2)).setCell ⟨q, 1, none⟩ (.slice ax11 Lx11 cx11)) := (Dx11.out.setCell (show w.heap.size ≤ q by omega) _).setCell (show w.heap.size ≤ q by omega) _
      generalize (x11.setCell ⟨q, 0, none⟩ (.bool S2)).setCell ⟨q, 1, none⟩ (.slice ax11 Lx11 cx11) = x12 at i8 i2 jn jD ⊢
      have Hx12_q := Lib.hid i8
      have Hx12_2 := Lib.hid i2
      have Nx12 := Lib.hid jn
      have Dx12 := Lib.hid jD
      clear i8 i2 jn jD
      go_upto_region 6 with (fail)
      obtain ⟨d0, d1, z0, z1⟩ := num_cells Hx12_q.out
      go_wp2_with fail
      (with_reducible refine (HOB.out HLT.out _ _ Nx12.out).mono ?_)
      rintro e y1 ⟨rfl, hby⟩
      clear d0 d1 z0 z1
      have k2 := hold Hx12_2.out hby
      have kD := Dx12.out.trans (hby.mono Dx12.out.size)
      obtain ⟨e20, e21, f2⟩ := wide_cells k2
      have m2 := wide_set k2 fb ft
      have hb9 := below_set2 (p := w.heap.size + 1 + 1) kD (by omega) fb ft
      clear k2 kD hby
      go_wp2
      clear e20 e21 f2
      obtain ⟨d20, d21, -⟩ := wide_cells m2
      clear m2
      generalize (y1.setCell ⟨w.heap.size + 1 + 1, 0, none⟩ (.bool fb)).setCell ⟨w.heap.size + 1 + 1, 1, none⟩ (.string ft) = W9 at d20 d21 hb9 ⊢
      rw [HP.out]
      exact bodyPost_ret (v := .tuple #[.agg #[.bool fb, .string ft], .int .i64 E]) (by simp [results, Tryz.results61, go_sem, d20, d21]) rfl ⟨rfl, hb9⟩
     ·have hk2 : ¬ 0 < k := by omega
      refine tkD 6 (v := ?_) rfl ?_ ?_
      rotate_left
      ·(intro wq hSq; (try dsimp only at hSq); go_simp; try with_reducible rfl)
      try simp only [Act.put, List.setIfInBounds_toArray, List.set_cons_zero, List.set_cons_succ]
      refine wpAnyD_end (by kernel_rfl) ?_
      clear hHeldx7
      have HLT := Lib.hid hlt
      clear hlt hk2 hk
      go_upto_region 6 with (fail)
      obtain ⟨d0, d1, z0, z1⟩ := num_cells Hx7_q.out
      go_wp2_with fail
      (with_reducible refine (HOR.out HLT.out _ _ Nx7_R.out).mono ?_)
      rintro e y1 ⟨rfl, hby⟩
      clear d0 d1 z0 z1
      have k2 := hold Hx7_2.out hby
      have kD := Dx7.out.trans (hby.mono Dx7.out.size)
      obtain ⟨e20, e21, f2⟩ := wide_cells k2
      have m2 := wide_set k2 fb ft
      have hb9 := below_set2 (p := w.heap.size + 1 + 1) kD (by omega) fb ft
      clear k2 kD hby
      go_wp2
      clear e20 e21 f2
      obtain ⟨d20, d21, -⟩ := wide_cells m2
      clear m2
      generalize (y1.setCell ⟨w.heap.size + 1 + 1, 0, none⟩ (.bool fb)).setCell ⟨w.heap.size + 1 + 1, 1, none⟩ (.string ft) = W9 at d20 d21 hb9 ⊢
      rw [HP.out]
      exact bodyPost_ret (v := .tuple #[.agg #[.bool fb, .string ft], .int .i64 E]) (by simp [results, Tryz.results61, go_sem, d20, d21]) rfl ⟨rfl, hb9⟩
end
/- The reference: the quotient to the nearest. -/
/- Walks: the quotient to the nearest. -/
section
open Go.RowKit Go.Shelf Go.WideNum
def DivAll : Prop := ∀ A C : Nat, C ≠ 0 → (wd A).length ≤ 200 → (wd C).length ≤ 200 → DivOK A C
end
/- Both programs: the rest by a word. -/
section
open Go.RowKit Go.Shelf Go.WideNum
def modF (na : Bool) (sa : ByteArray) (n : Nat) : Nat × Int := if validB na sa && decide (n ≠ 0) then (floorR (numB sa) na n, 0) else (0, 2)
theorem valM_snoc (l : List UInt8) (x : UInt8) : valM (l ++ [x]) = valM l * 256 + x.toNat := by
 unfold valM
 rw [List.reverse_append]
 show valW 256 (x.toNat :: (l.reverse.map UInt8.toNat)) = _
 show x.toNat + 256 * _ = _
 omega
theorem mod_step (a b c n : Nat) : (a * b + c) % n = (a % n * b + c) % n := by
 rw [Nat.add_mod, Nat.mul_mod]
 conv => rhs; rw [Nat.add_mod, Nat.mul_mod, Nat.mod_mod]
theorem refMod_any (na : Bool) (sa : ByteArray) (hsa : sa.size ≤ maxLen) (n : Nat) (hn : n < 4294967296) (r : Nat) (E : Int) (hop : modF na sa n = (r, E)) (w : World) :
  Calls Tryz.prog 56 #[.agg #[.bool na, .string sa], .int .u32 (n : Int)] w fun e w' => e = .returned (.tuple #[.int .u32 (r : Int), .int .i64 E]) ∧ Below w.heap.size w w' := by
 obtain ⟨HPOST, hpost⟩ : ∃ X : Ending → World → Prop, X = fun e w' => e = .returned (.tuple #[.int .u32 (r : Int), .int .i64 E]) ∧ Below w.heap.size w w' := ⟨_, rfl⟩
 rw [← hpost]
 obtain ⟨ok, hok⟩ : ∃ ok, ok = validB na sa := ⟨_, rfl⟩
 have HVAL := Lib.hid (refValid_wide na sa hsa ok hok)
 unfold modF at hop
 rw [← hok] at hop
 have HOK := Lib.hid hok
 have HOP := Lib.hid hop
 clear hok hop
 have hg0 : (w.alloc (.cells #[.bool na, .string sa] 40)).heap[w.heap.size]? = some (.cells #[.bool na, .string sa] 40) := heap_alloc_new w _
 have hb0 : Below w.heap.size w (w.alloc (.cells #[.bool na, .string sa] 40)) := (Below.refl _ w).alloc (Nat.le_refl _) _
 obtain ⟨W0, hW0⟩ : ∃ W0, W0 = w.alloc (.cells #[.bool na, .string sa] 40) := ⟨_, rfl⟩
 rw [← hW0] at hg0 hb0
 have HG0 := Lib.hid hg0
 have HB0 := Lib.hid hb0
 have HW0 := Lib.hid hW0
 obtain ⟨c00, c01, f0⟩ := wide_cells hg0
 clear hg0 hb0 hW0
 go_enter Tryz.func56, Tryz.ntmps56
 go_upto_region 1 with (fail)
 rw [← HW0.out]
 rw [hpost]
 rw [← hpost]
 have HP := Lib.hid hpost
 clear hpost
 go_wp2_with fail
 (with_reducible refine (HVAL.out _).mono ?_)
 rintro e w1 ⟨rfl, hb1⟩
 have HK0 := Lib.hid (hold HG0.out hb1)
 have HD1 := Lib.hid (HB0.out.trans (hb1.mono HB0.out.size))
 clear c00 c01 f0 hb1
 cases ok with
 | false =>
  have hz := HOP.out
  injection hz with hz1 hz2
  subst hz1 hz2
  go_wp2
  rw [HP.out]
  exact ⟨rfl, HD1.out⟩
 | true =>
  obtain ⟨c00, c01, f0⟩ := wide_cells HK0.out
  by_cases hn0 : n = 0
  ·subst hn0
   have hz := HOP.out
   injection hz with hz1 hz2
   subst hz1 hz2
   go_wp2
   rw [HP.out]
   exact ⟨rfl, HD1.out⟩
  ·have hz := HOP.out
   rw [decide_eq_true hn0] at hz
   injection hz with hz1 hz2
   subst hz2
   have hnI : ¬ (n : Int) = 0 := by omega
   obtain ⟨l1, -, -, s256a⟩ := valid_spec na sa HOK.out.symm
   have HZ : Hid (floorR (numB sa) na n = r) := hz1
   clear hz1 l1
   have hsz : sa.size ≤ 256 := s256a
   go_wp2_with fail
   go_loopw [6, 7] (fun rv iv wr => ∃ k : Nat, k ≤ sa.size ∧ iv = .int .i64 (k : Int) ∧ rv = .int .u64 ((valM (sa.data.toList.take k) % n : Nat) : Int) ∧ wr = w1) (fun _ iv _ => (256 - intOf iv).toNat)
   case atStart => exact ⟨0, Nat.zero_le _, rfl, by simp [valM, valW], rfl⟩
   case round =>
    obtain ⟨k, hk, rfl, rfl, rfl⟩ := hrel
    have hm := Nat.mod_lt (valM (sa.data.toList.take k)) (show 0 < n by omega)
    by_cases hlt : k < sa.size
    ·have hgk : sa.data.toList[k]? = some sa[k] := by rw [List.getElem?_eq_getElem (show k < sa.data.toList.length from hlt)]; rfl
     have hsn : valM (sa.data.toList.take (k + 1)) = valM (sa.data.toList.take k) * 256 + sa[k].toNat := by
      rw [List.take_add_one, hgk]; exact valM_snoc _ _
     have hst : valM (sa.data.toList.take (k + 1)) % n = (valM (sa.data.toList.take k) % n * 256 + sa[k].toNat) % n := by
      rw [hsn]; exact mod_step _ _ _ _
     have hx := sa[k].toNat_lt
     obtain ⟨m, em⟩ : ∃ m, m = valM (sa.data.toList.take k) % n := ⟨_, rfl⟩
     rw [← em] at hm hst ⊢
     obtain ⟨x, ex⟩ : ∃ x, x = sa[k].toNat := ⟨_, rfl⟩
     rw [← ex] at hx hst
     obtain ⟨y, ey⟩ : ∃ y, y = m * 256 + x := ⟨_, rfl⟩
     rw [← ey] at hst
     have HST := Lib.hid hst
     have w3 : (k : Int) < (sa.size : Int) := by omega
     have w4 : (0 : Int) ≤ (k : Int) := by omega
     have w5 : IntKind.u64.wrap ((m : Int) * 256) = ((m * 256 : Nat) : Int) := by rw [IntKind.wrap_u64]; omega
     have w6 : IntKind.u64.wrap (x : Int) = (x : Int) := by rw [IntKind.wrap_u64]; omega
     have w7 : ((m * 256 : Nat) : Int) + (x : Int) = (y : Int) := by omega
     have w8 : (m : Int) * 256 + (x : Int) = (y : Int) := by omega
     have w9 : IntKind.u64.wrap (y : Int) = (y : Int) := by rw [IntKind.wrap_u64]; omega
     have w10 : IntKind.u64.wrap (n : Int) = (n : Int) := by rw [IntKind.wrap_u64]; omega
     have hne : ((n : Int) == 0) = false := by rw [beq_eq_false_iff_ne]; omega
     have EX := Lib.hid ex
     obtain ⟨t, et⟩ : ∃ t, t = y % n := ⟨_, rfl⟩
     have t2 : (y : Int) % (n : Int) = (t : Int) := by rw [et, Int.natCast_emod]
     have HT := Lib.hid et
     clear em ey hst hsn hgk et
     have ex' : ((sa[k].toNat : Nat) : Int) = (x : Int) := by rw [EX.out]
     clear ex
     go_wp2
     go_roundw
     case rel => exact ⟨k + 1, by omega, rfl, by rw [t2, HT.out, HST.out], trivial⟩
     case measure => simp [intOf]; omega
    ·obtain rfl : k = sa.size := by omega
     rw [show sa.data.toList.take sa.size = sa.data.toList from List.take_length] at hm ⊢
     have hfr : (if na = true ∧ valM sa.data.toList % n ≠ 0 then n - valM sa.data.toList % n else valM sa.data.toList % n) = r := HZ.out
     obtain ⟨m, em⟩ : ∃ m, m = valM sa.data.toList % n := ⟨_, rfl⟩
     rw [← em] at hm hfr ⊢
     have HFR := Lib.hid hfr
     clear hfr em HZ
     cases na with
     | false =>
      have hr : m = r := by have := HFR.out; rwa [if_neg (by simp)] at this
      subst hr
      have w5 : IntKind.u32.wrap (m : Int) = (m : Int) := by rw [IntKind.wrap_u32]; omega
      clear HFR hn0
      go_wp2
      rw [HP.out]
      exact ⟨by first | rfl | rw [w5] | (simp; omega), HD1.out⟩
     | true =>
      by_cases hm0 : m = 0
      ·subst hm0
       have hr : 0 = r := by have := HFR.out; rwa [if_neg (by simp)] at this
       subst hr
       clear HFR hn0
       go_wp2
       rw [HP.out]
       exact ⟨rfl, HD1.out⟩
      ·have hr : n - m = r := by have := HFR.out; rwa [if_pos ⟨rfl, hm0⟩] at this
       have hmp : 0 < m := by omega
       have w10 : IntKind.u64.wrap (n : Int) = (n : Int) := by rw [IntKind.wrap_u64]; omega
       have w11 : IntKind.u64.wrap ((n : Int) - (m : Int)) = (r : Int) := by rw [IntKind.wrap_u64]; omega
       have w12 : IntKind.u32.wrap (r : Int) = (r : Int) := by rw [IntKind.wrap_u32]; omega
       have w13 : (r : Int) % 4294967296 = (r : Int) := by omega
       have w14 : (n : Int) - (m : Int) = (r : Int) := by omega
       clear HFR hn0 hr
       go_wp2
       rw [HP.out]
       exact ⟨by first | rfl | (simp [w10, w11, w12, w13, w14]; done), HD1.out⟩
end
/- The reference: sums, differences and products of forms. -/
section
open Go.RowKit Go.Shelf Go.WideNum
theorem refAdd_any (na : Bool) (sa : ByteArray) (nb : Bool) (sb : ByteArray) (hsa : sa.size ≤ maxLen) (hsb : sb.size ≤ maxLen) (fb : Bool) (ft : ByteArray) (E : Int) (hop : opF (fun a b => a + b) na sa nb sb = (.agg #[.bool fb, .string ft], E)) (w : World) :
  Calls Tryz.prog 60 #[.agg #[.bool na, .string sa], .agg #[.bool nb, .string sb]] w fun e w' => e = .returned (.tuple #[.agg #[.bool fb, .string ft], .int .i64 E]) ∧ Below w.heap.size w w' := by
 obtain ⟨HPOST, hpost⟩ : ∃ X : Ending → World → Prop, X = fun e w' => e = .returned (.tuple #[.agg #[.bool fb, .string ft], .int .i64 E]) ∧ Below w.heap.size w w' := ⟨_, rfl⟩
 rw [← hpost]
 obtain ⟨oka, hoka⟩ : ∃ ok, ok = validB na sa := ⟨_, rfl⟩
 obtain ⟨okb, hokb⟩ : ∃ ok, ok = validB nb sb := ⟨_, rfl⟩
 have HVA := Lib.hid (refValid_wide na sa hsa oka hoka)
 have HVB := Lib.hid (refValid_wide nb sb hsb okb hokb)
 have hno : (oka && okb) = false → (.agg #[.bool fb, .string ft], E) = (emptyW, (2 : Int)) := fun h => by
  rw [← hop]; unfold opF; rw [← hoka, ← hokb, h]; rfl
 have hyes : oka = true → okb = true → outZ ((fun a b => a + b) (zV na sa) (zV nb sb)) = .agg #[.bool fb, .string ft] ∧ errZ ((fun a b => a + b) (zV na sa) (zV nb sb)) = E := fun h1 h2 => by
  unfold opF at hop; rw [← hoka, ← hokb, h1, h2] at hop
  injection hop with e1 e2
  exact ⟨e1, e2⟩
 have HNO := Lib.hid hno
 have HYES := Lib.hid hyes
 have HA := Lib.hid hoka
 have HB := Lib.hid hokb
 clear hop hno hyes hoka hokb
 obtain ⟨W0, hW0⟩ : ∃ W0, W0 = ((w.alloc (.cells #[.bool na, .string sa] 40)).alloc (.cells #[.bool nb, .string sb] 40)).alloc (.cells #[.bool false, .string ⟨#[]⟩] 40) := ⟨_, rfl⟩
 have g0 : W0.heap[w.heap.size]? = some (.cells #[.bool na, .string sa] 40) := by rw [hW0, Below.heap_alloc _ _ _ (by simp; omega), Below.heap_alloc _ _ _ (by simp)]; exact heap_alloc_new w _
 have g1 : W0.heap[w.heap.size + 1]? = some (.cells #[.bool nb, .string sb] 40) := by rw [hW0, Below.heap_alloc _ _ _ (by simp)]; exact alloc_last _ _ (by simp)
 have g2 : W0.heap[w.heap.size + 1 + 1]? = some (.cells #[.bool false, .string ⟨#[]⟩] 40) := by rw [hW0]; exact alloc_last _ _ (by simp)
 have hb0 : Below w.heap.size w W0 := by rw [hW0]; exact ((((Below.refl _ w).alloc (Nat.le_refl _) _).alloc (by simp) _).alloc (by simp; omega) _)
 have HB0 := Lib.hid hb0
 have HG0 := Lib.hid g0
 have HG1 := Lib.hid g1
 have HG2 := Lib.hid g2
 obtain ⟨c00, c01, f0⟩ := wide_cells g0
 have HW0 := Lib.hid hW0
 clear hb0 g0 g1 g2 hW0
 go_enter Tryz.func60, Tryz.ntmps60
 go_upto_region 1 with (fail)
 rw [← HW0.out]
 rw [hpost]
 rw [← hpost]
 have HP := Lib.hid hpost
 clear hpost
 go_wp2_with fail
 (with_reducible refine (HVA.out _).mono ?_)
 rintro e w1 ⟨rfl, hb1⟩
 have HK0 := Lib.hid (wide_hold (w := W0) HG0.out hb1)
 have HK1 := Lib.hid (wide_hold (w := W0) HG1.out hb1)
 have HK2 := Lib.hid (wide_hold (w := W0) HG2.out hb1)
 have HBW1 := Lib.hid (HB0.out.trans (hb1.mono HB0.out.size))
 clear c00 c01 f0 hb1
 obtain ⟨c10, c11, f1⟩ := wide_cells HK1.out
 obtain ⟨e20, e21, f2⟩ := wide_cells HK2.out
 cases oka with
 | false =>
  have hz := HNO.out rfl
  injection hz with hz1 hz2
  unfold emptyW wideV at hz1
  injection hz1 with hz1
  injection hz1 with hz1
  injection hz1 with hz1 hz3
  injection hz1 with hz1
  injection hz3 with hz3 hz4
  injection hz3 with hz3
  subst hz1 hz2 hz3
  clear hz4 c10 c11 f1
  go_wp2
  have m2 := wide_set HK2.out false ⟨#[]⟩
  have hb9 := below_set2 (p := w.heap.size + 1 + 1) HBW1.out (by omega) false ⟨#[]⟩
  obtain ⟨d20, d21, -⟩ := wide_cells m2
  clear m2 e20 e21 f2
  generalize (w1.setCell ⟨w.heap.size + 1 + 1, 0, none⟩ (.bool false)).setCell ⟨w.heap.size + 1 + 1, 1, none⟩ (.string ⟨#[]⟩) = W9 at d20 d21 hb9 ⊢
  rw [HP.out]
  exact bodyPost_ret (v := .tuple #[.agg #[.bool false, .string ⟨#[]⟩], .int .i64 2]) (by simp [results, Tryz.results60, go_sem, d20, d21]) rfl ⟨rfl, hb9⟩
 | true =>
  go_wp2_with fail
  (with_reducible refine (HVB.out _).mono ?_)
  rintro e w2 ⟨rfl, hb2⟩
  have HM0 := Lib.hid (wide_hold (w := w1) HK0.out hb2)
  have HM1 := Lib.hid (wide_hold (w := w1) HK1.out hb2)
  have HM2 := Lib.hid (wide_hold (w := w1) HK2.out hb2)
  have HBW2 := Lib.hid (HBW1.out.trans (hb2.mono HBW1.out.size))
  clear c10 c11 f1 e20 e21 f2 hb2
  obtain ⟨e20, e21, f2⟩ := wide_cells HM2.out
  cases okb with
  | false =>
   have hz := HNO.out rfl
   injection hz with hz1 hz2
   unfold emptyW wideV at hz1
   injection hz1 with hz1
   injection hz1 with hz1
   injection hz1 with hz1 hz3
   injection hz1 with hz1
   injection hz3 with hz3 hz4
   injection hz3 with hz3
   subst hz1 hz2 hz3
   clear hz4
   go_wp2
   have m2 := wide_set HM2.out false ⟨#[]⟩
   have hb9 := below_set2 (p := w.heap.size + 1 + 1) HBW2.out (by omega) false ⟨#[]⟩
   obtain ⟨d20, d21, -⟩ := wide_cells m2
   clear m2 e20 e21 f2
   generalize (w2.setCell ⟨w.heap.size + 1 + 1, 0, none⟩ (.bool false)).setCell ⟨w.heap.size + 1 + 1, 1, none⟩ (.string ⟨#[]⟩) = W9 at d20 d21 hb9 ⊢
   rw [HP.out]
   exact bodyPost_ret (v := .tuple #[.agg #[.bool false, .string ⟨#[]⟩], .int .i64 2]) (by simp [results, Tryz.results60, go_sem, d20, d21]) rfl ⟨rfl, hb9⟩
  | true =>
   obtain ⟨l1, -, -, -⟩ := valid_spec na sa HA.out.symm
   obtain ⟨l2, -, -, -⟩ := valid_spec nb sb HB.out.symm
   have HINA := Lib.hid (in_any na sa HA.out.symm)
   have HINB := Lib.hid (in_any nb sb HB.out.symm)
   obtain ⟨hy1, hy2⟩ := HYES.out (by simp) (by simp)
   unfold zV at hy1 hy2
   have hwa := hw_len129 l1
   have hwb := hw_len129 l2
   obtain ⟨A, eA⟩ : ∃ A, A = numB sa := ⟨_, rfl⟩
   obtain ⟨C, eC⟩ : ∃ C, C = numB sb := ⟨_, rfl⟩
   rw [← eA] at hy1 hy2 hwa HINA
   rw [← eC] at hy1 hy2 hwb HINB
   clear eA eC l1 l2
   obtain ⟨S, hS⟩ : ∃ S, S = (sumS A na C nb && decide (sumN A na C nb ≠ 0)) := ⟨_, rfl⟩
   obtain ⟨M, hM⟩ : ∃ M, M = sumN A na C nb := ⟨_, rfl⟩
   have HADD : Hid (∀ W va vb, World.numH W va A → World.numH W vb C → Calls Tryz.prog 85 #[.agg #[.bool na, va], .agg #[.bool nb, vb]] W (SRet W S M)) := fun W va vb h1 h2 => by rw [hS, hM]; exact hadd_any na A va nb C vb W h1 h2 (by omega) (by omega)
   have hz : zOf S M = zOf na A + zOf nb C := by rw [hS, hM, zOf_and]; exact sum_z A na C nb
   have hML : (hw M).length ≤ 4001 := hw_len_sum (A := A) (C := C) (by omega) (by omega) (by rw [hM]; exact sumN_le _ _ _ _)
   have HOUT : Hid (∀ v W, World.numH W v M → Calls Tryz.prog 37 #[.agg #[.bool S, v]] W fun e w' => e = .returned (.tuple #[.agg #[.bool fb, .string ft], .int .i64 E]) ∧ Below W.heap.size W w') := fun v W h => hout_num S M (by omega) fb ft E (by rw [hz]; exact hy1) (by rw [hz]; exact hy2) v W h
   clear hS hM hz hML
   clear e20 e21 f2 hwa hwb hy1 hy2
   obtain ⟨c00, c01, -⟩ := wide_cells HM0.out
   obtain ⟨c10, c11, -⟩ := wide_cells HM1.out
   go_wp2_with fail
   refine wp_region_late (fun w' => w'.cell? ⟨w.heap.size, 0, none⟩ = some (.bool na) ∧ w'.cell? ⟨w.heap.size, 1, none⟩ = some (.string sa) ∧ w'.cell? ⟨w.heap.size + 1, 0, none⟩ = some (.bool nb) ∧ w'.cell? ⟨w.heap.size + 1, 1, none⟩ = some (.string sb)) (fun j => decide (j = 8)) (by kernel_rfl) ⟨c00, c01, c10, c11⟩ (fun hHeld => ?_)
   refine tkD 0 (v := ?_) rfl ?_ ?_
   rotate_left
   ·(intro wq hSq; (try dsimp only at hSq); go_simp; try with_reducible rfl)
   try simp only [Act.put, List.setIfInBounds_toArray, List.set_cons_zero, List.set_cons_succ]
   refine tkD 2 (v := ?_) rfl ?_ ?_
   rotate_left
   ·(intro wq hSq; (try dsimp only at hSq); go_simp; try with_reducible rfl)
   try simp only [Act.put, List.setIfInBounds_toArray, List.set_cons_zero, List.set_cons_succ]
   have HD := Lib.hid ((Below.refl w2.heap.size w2).drew)
   have HBD := Lib.hid (HBW2.out.drew)
   have HQ0 : Hid (w2.drew.heap[w.heap.size]? = some (.cells #[.bool na, .string sa] 40)) := HM0.out
   have HQ1 : Hid (w2.drew.heap[w.heap.size + 1]? = some (.cells #[.bool nb, .string sb] 40)) := HM1.out
   have HQ2 : Hid (w2.drew.heap[w.heap.size + 1 + 1]? = some (.cells #[.bool false, .string ⟨#[]⟩] 40)) := HM2.out
   clear c00 c01 c10 c11
   refine wpAnyD_keep 1 (by kernel_rfl) rfl (fun K hK => ?_)
   go_simp
   go_at_call 81
   (with_reducible refine (HINA.out _).mono ?_)
   rintro e w5 ⟨v5, rfl, hn5, hb5⟩
   obtain ⟨a5, L5, c5, rfl⟩ : ∃ a L c, v5 = .slice a L c := by obtain ⟨x, y, h⟩ := reads_len hn5; exact ⟨x, _, y, h⟩
   have hx0 := wide_hold (w := w2.drew) HQ0.out hb5
   have hx1 := wide_hold (w := w2.drew) HQ1.out hb5
   have hx2 := wide_hold (w := w2.drew) HQ2.out hb5
   have HBX0 := Lib.hid (HBD.out.trans (hb5.mono HBD.out.size))
   obtain ⟨j0, j1, -⟩ := wide_cells hx0
   obtain ⟨j2, j3, -⟩ := wide_cells hx1
   refine hK.out _ _ ⟨j0, j1, j2, j3⟩ (fun hHeld0 => ?_)
   have HX00 := Lib.hid hx0
   have HX01 := Lib.hid hx1
   have HX02 := Lib.hid hx2
   have HN0_n := Lib.hid hn5
   clear hb5 hn5 hx0 hx1 hx2 j0 j1 j2 j3 hK K hHeld
   try simp only [Act.put, List.setIfInBounds_toArray, List.set_cons_zero, List.set_cons_succ]
   refine wpAnyD_keep 3 (by kernel_rfl) rfl (fun K hK => ?_)
   go_simp
   go_at_call 81
   (with_reducible refine (HINB.out _).mono ?_)
   rintro e w6 ⟨v6, rfl, hn6, hb6⟩
   obtain ⟨a6, L6, c6, rfl⟩ : ∃ a L c, v6 = .slice a L c := by obtain ⟨x, y, h⟩ := reads_len hn6; exact ⟨x, _, y, h⟩
   have hx0 := wide_hold (w := w5) HX00.out hb6
   have hx1 := wide_hold (w := w5) HX01.out hb6
   have hx2 := wide_hold (w := w5) HX02.out hb6
   have HBX1 := Lib.hid (HBX0.out.trans (hb6.mono HBX0.out.size))
   obtain ⟨j0, j1, -⟩ := wide_cells hx0
   obtain ⟨j2, j3, -⟩ := wide_cells hx1
   refine hK.out _ _ ⟨j0, j1, j2, j3⟩ (fun hHeld1 => ?_)
   have HX10 := Lib.hid hx0
   have HX11 := Lib.hid hx1
   have HX12 := Lib.hid hx2
   have HN1_0 := Lib.hid (numH_below (HN0_n.out) hb6)
   have HN1_n := Lib.hid hn6
   clear hb6 hn6 hx0 hx1 hx2 j0 j1 j2 j3 hK K hHeld0
   try simp only [Act.put, List.setIfInBounds_toArray, List.set_cons_zero, List.set_cons_succ]
   refine wpAnyD_keep 4 (by kernel_rfl) rfl (fun K hK => ?_)
   go_simp
   go_at_call 85
   (with_reducible refine (HADD.out _ _ _ (HN1_0.out) (HN1_n.out)).mono ?_)
   rintro e w7 ⟨v7, rfl, hn7, hb7⟩
   obtain ⟨a7, L7, c7, rfl⟩ : ∃ a L c, v7 = .slice a L c := by obtain ⟨x, y, h⟩ := reads_len hn7; exact ⟨x, _, y, h⟩
   have hx0 := wide_hold (w := w6) HX10.out hb7
   have hx1 := wide_hold (w := w6) HX11.out hb7
   have hx2 := wide_hold (w := w6) HX12.out hb7
   have HBX2 := Lib.hid (HBX1.out.trans (hb7.mono HBX1.out.size))
   obtain ⟨j0, j1, -⟩ := wide_cells hx0
   obtain ⟨j2, j3, -⟩ := wide_cells hx1
   refine hK.out _ _ ⟨j0, j1, j2, j3⟩ (fun hHeld2 => ?_)
   have HX20 := Lib.hid hx0
   have HX21 := Lib.hid hx1
   have HX22 := Lib.hid hx2
   have HN2_0 := Lib.hid (numH_below (HN1_0.out) hb7)
   have HN2_1 := Lib.hid (numH_below (HN1_n.out) hb7)
   have HN2_n := Lib.hid hn7
   clear hb7 hn7 hx0 hx1 hx2 j0 j1 j2 j3 hK K hHeld1
   try simp only [Act.put, List.setIfInBounds_toArray, List.set_cons_zero, List.set_cons_succ]
   refine wpAnyD_keep 5 (by kernel_rfl) rfl (fun K hK => ?_)
   go_simp
   go_at_call 37
   (with_reducible refine (HOUT.out _ _ (HN2_n.out)).mono ?_)
   rintro e w8 ⟨rfl, hb8⟩
   have hx0 := wide_hold (w := w7) HX20.out hb8
   have hx1 := wide_hold (w := w7) HX21.out hb8
   have hx2 := wide_hold (w := w7) HX22.out hb8
   have HBX3 := Lib.hid (HBX2.out.trans (hb8.mono HBX2.out.size))
   obtain ⟨j0, j1, -⟩ := wide_cells hx0
   obtain ⟨j2, j3, -⟩ := wide_cells hx1
   refine hK.out _ _ ⟨j0, j1, j2, j3⟩ (fun hHeld3 => ?_)
   have HX30 := Lib.hid hx0
   have HX31 := Lib.hid hx1
   have HX32 := Lib.hid hx2
   have HN3_0 := Lib.hid (numH_below (HN2_0.out) hb8)
   have HN3_1 := Lib.hid (numH_below (HN2_1.out) hb8)
   have HN3_2 := Lib.hid (numH_below (HN2_n.out) hb8)
   clear hb8 hx0 hx1 hx2 j0 j1 j2 j3 hK K hHeld2
   try simp only [Act.put, List.setIfInBounds_toArray, List.set_cons_zero, List.set_cons_succ]
   refine tkD 6 (v := ?_) rfl ?_ ?_
   rotate_left
   ·(intro wq hSq; (try dsimp only at hSq); go_simp; try with_reducible rfl)
   try simp only [Act.put, List.setIfInBounds_toArray, List.set_cons_zero, List.set_cons_succ]
   refine tkD 7 (v := ?_) rfl ?_ ?_
   rotate_left
   ·(intro wq hSq; (try dsimp only at hSq); go_simp; try with_reducible rfl)
   try simp only [Act.put, List.setIfInBounds_toArray, List.set_cons_zero, List.set_cons_succ]
   obtain ⟨d0, d1, fz⟩ := wide_cells HX32.out
   refine wpAnyD_step 8 (by kernel_rfl) rfl rfl (fun K hK => ?_)
   go_simp
   refine hK.out _ _ ?_
   clear hK K hHeld3
   try simp only [Act.put, List.setIfInBounds_toArray, List.set_cons_zero, List.set_cons_succ]
   refine tkW 9 (v := ?_) rfl ?_ ?_
   rotate_left
   ·(intro wq hSq; (try dsimp only at hSq); go_simp; try with_reducible rfl)
   try simp only [Act.put, List.setIfInBounds_toArray, List.set_cons_zero, List.set_cons_succ]
   refine wpAnyD_end (by kernel_rfl) ?_
   have m2 := wide_set HX32.out fb ft
   have hb9 := below_set2 (p := w.heap.size + 1 + 1) HBX3.out (by omega) fb ft
   clear d0 d1 fz
   obtain ⟨d20, d21, -⟩ := wide_cells m2
   clear m2
   generalize (w8.setCell ⟨w.heap.size + 1 + 1, 0, none⟩ (.bool fb)).setCell ⟨w.heap.size + 1 + 1, 1, none⟩ (.string ft) = W9 at d20 d21 hb9 ⊢
   go_wp2
   rw [HP.out]
   exact bodyPost_ret (v := .tuple #[.agg #[.bool fb, .string ft], .int .i64 E]) (by simp [results, Tryz.results60, go_sem, d20, d21]) rfl ⟨rfl, hb9⟩
theorem refMul_any (na : Bool) (sa : ByteArray) (nb : Bool) (sb : ByteArray) (hsa : sa.size ≤ maxLen) (hsb : sb.size ≤ maxLen) (fb : Bool) (ft : ByteArray) (E : Int) (hop : opF (fun a b => a * b) na sa nb sb = (.agg #[.bool fb, .string ft], E)) (w : World) :
  Calls Tryz.prog 54 #[.agg #[.bool na, .string sa], .agg #[.bool nb, .string sb]] w fun e w' => e = .returned (.tuple #[.agg #[.bool fb, .string ft], .int .i64 E]) ∧ Below w.heap.size w w' := by
 obtain ⟨HPOST, hpost⟩ : ∃ X : Ending → World → Prop, X = fun e w' => e = .returned (.tuple #[.agg #[.bool fb, .string ft], .int .i64 E]) ∧ Below w.heap.size w w' := ⟨_, rfl⟩
 rw [← hpost]
 obtain ⟨oka, hoka⟩ : ∃ ok, ok = validB na sa := ⟨_, rfl⟩
 obtain ⟨okb, hokb⟩ : ∃ ok, ok = validB nb sb := ⟨_, rfl⟩
 have HVA := Lib.hid (refValid_wide na sa hsa oka hoka)
 have HVB := Lib.hid (refValid_wide nb sb hsb okb hokb)
 have hno : (oka && okb) = false → (.agg #[.bool fb, .string ft], E) = (emptyW, (2 : Int)) := fun h => by
  rw [← hop]; unfold opF; rw [← hoka, ← hokb, h]; rfl
 have hyes : oka = true → okb = true → outZ ((fun a b => a * b) (zV na sa) (zV nb sb)) = .agg #[.bool fb, .string ft] ∧ errZ ((fun a b => a * b) (zV na sa) (zV nb sb)) = E := fun h1 h2 => by
  unfold opF at hop; rw [← hoka, ← hokb, h1, h2] at hop
  injection hop with e1 e2
  exact ⟨e1, e2⟩
 have HNO := Lib.hid hno
 have HYES := Lib.hid hyes
 have HA := Lib.hid hoka
 have HB := Lib.hid hokb
 clear hop hno hyes hoka hokb
 obtain ⟨W0, hW0⟩ : ∃ W0, W0 = ((w.alloc (.cells #[.bool na, .string sa] 40)).alloc (.cells #[.bool nb, .string sb] 40)).alloc (.cells #[.bool false, .string ⟨#[]⟩] 40) := ⟨_, rfl⟩
 have g0 : W0.heap[w.heap.size]? = some (.cells #[.bool na, .string sa] 40) := by rw [hW0, Below.heap_alloc _ _ _ (by simp; omega), Below.heap_alloc _ _ _ (by simp)]; exact heap_alloc_new w _
 have g1 : W0.heap[w.heap.size + 1]? = some (.cells #[.bool nb, .string sb] 40) := by rw [hW0, Below.heap_alloc _ _ _ (by simp)]; exact alloc_last _ _ (by simp)
 have g2 : W0.heap[w.heap.size + 1 + 1]? = some (.cells #[.bool false, .string ⟨#[]⟩] 40) := by rw [hW0]; exact alloc_last _ _ (by simp)
 have hb0 : Below w.heap.size w W0 := by rw [hW0]; exact ((((Below.refl _ w).alloc (Nat.le_refl _) _).alloc (by simp) _).alloc (by simp; omega) _)
 have HB0 := Lib.hid hb0
 have HG0 := Lib.hid g0
 have HG1 := Lib.hid g1
 have HG2 := Lib.hid g2
 obtain ⟨c00, c01, f0⟩ := wide_cells g0
 have HW0 := Lib.hid hW0
 clear hb0 g0 g1 g2 hW0
 go_enter Tryz.func54, Tryz.ntmps54
 go_upto_region 1 with (fail)
 rw [← HW0.out]
 rw [hpost]
 rw [← hpost]
 have HP := Lib.hid hpost
 clear hpost
 go_wp2_with fail
 (with_reducible refine (HVA.out _).mono ?_)
 rintro e w1 ⟨rfl, hb1⟩
 have HK0 := Lib.hid (wide_hold (w := W0) HG0.out hb1)
 have HK1 := Lib.hid (wide_hold (w := W0) HG1.out hb1)
 have HK2 := Lib.hid (wide_hold (w := W0) HG2.out hb1)
 have HBW1 := Lib.hid (HB0.out.trans (hb1.mono HB0.out.size))
 clear c00 c01 f0 hb1
 obtain ⟨c10, c11, f1⟩ := wide_cells HK1.out
 obtain ⟨e20, e21, f2⟩ := wide_cells HK2.out
 cases oka with
 | false =>
  have hz := HNO.out rfl
  injection hz with hz1 hz2
  unfold emptyW wideV at hz1
  injection hz1 with hz1
  injection hz1 with hz1
  injection hz1 with hz1 hz3
  injection hz1 with hz1
  injection hz3 with hz3 hz4
  injection hz3 with hz3
  subst hz1 hz2 hz3
  clear hz4 c10 c11 f1
  go_wp2
  have m2 := wide_set HK2.out false ⟨#[]⟩
  have hb9 := below_set2 (p := w.heap.size + 1 + 1) HBW1.out (by omega) false ⟨#[]⟩
  obtain ⟨d20, d21, -⟩ := wide_cells m2
  clear m2 e20 e21 f2
  generalize (w1.setCell ⟨w.heap.size + 1 + 1, 0, none⟩ (.bool false)).setCell ⟨w.heap.size + 1 + 1, 1, none⟩ (.string ⟨#[]⟩) = W9 at d20 d21 hb9 ⊢
  rw [HP.out]
  exact bodyPost_ret (v := .tuple #[.agg #[.bool false, .string ⟨#[]⟩], .int .i64 2]) (by simp [results, Tryz.results54, go_sem, d20, d21]) rfl ⟨rfl, hb9⟩
 | true =>
  go_wp2_with fail
  (with_reducible refine (HVB.out _).mono ?_)
  rintro e w2 ⟨rfl, hb2⟩
  have HM0 := Lib.hid (wide_hold (w := w1) HK0.out hb2)
  have HM1 := Lib.hid (wide_hold (w := w1) HK1.out hb2)
  have HM2 := Lib.hid (wide_hold (w := w1) HK2.out hb2)
  have HBW2 := Lib.hid (HBW1.out.trans (hb2.mono HBW1.out.size))
  clear c10 c11 f1 e20 e21 f2 hb2
  obtain ⟨e20, e21, f2⟩ := wide_cells HM2.out
  cases okb with
  | false =>
   have hz := HNO.out rfl
   injection hz with hz1 hz2
   unfold emptyW wideV at hz1
   injection hz1 with hz1
   injection hz1 with hz1
   injection hz1 with hz1 hz3
   injection hz1 with hz1
   injection hz3 with hz3 hz4
   injection hz3 with hz3
   subst hz1 hz2 hz3
   clear hz4
   go_wp2
   have m2 := wide_set HM2.out false ⟨#[]⟩
   have hb9 := below_set2 (p := w.heap.size + 1 + 1) HBW2.out (by omega) false ⟨#[]⟩
   obtain ⟨d20, d21, -⟩ := wide_cells m2
   clear m2 e20 e21 f2
   generalize (w2.setCell ⟨w.heap.size + 1 + 1, 0, none⟩ (.bool false)).setCell ⟨w.heap.size + 1 + 1, 1, none⟩ (.string ⟨#[]⟩) = W9 at d20 d21 hb9 ⊢
   rw [HP.out]
   exact bodyPost_ret (v := .tuple #[.agg #[.bool false, .string ⟨#[]⟩], .int .i64 2]) (by simp [results, Tryz.results54, go_sem, d20, d21]) rfl ⟨rfl, hb9⟩
  | true =>
   obtain ⟨l1, -, -, -⟩ := valid_spec na sa HA.out.symm
   obtain ⟨l2, -, -, -⟩ := valid_spec nb sb HB.out.symm
   have HINA := Lib.hid (in_any na sa HA.out.symm)
   have HINB := Lib.hid (in_any nb sb HB.out.symm)
   obtain ⟨hy1, hy2⟩ := HYES.out (by simp) (by simp)
   unfold zV at hy1 hy2
   have hwa := hw_len129 l1
   have hwb := hw_len129 l2
   obtain ⟨A, eA⟩ : ∃ A, A = numB sa := ⟨_, rfl⟩
   obtain ⟨C, eC⟩ : ∃ C, C = numB sb := ⟨_, rfl⟩
   rw [← eA] at hy1 hy2 hwa HINA
   rw [← eC] at hy1 hy2 hwb HINB
   clear eA eC l1 l2
   obtain ⟨S, hS⟩ : ∃ S, S = ((na != nb) && decide (A * C ≠ 0)) := ⟨_, rfl⟩
   obtain ⟨M, hM⟩ : ∃ M, M = A * C := ⟨_, rfl⟩
   have HADD : Hid (∀ W va vb, World.numH W va A → World.numH W vb C → Calls Tryz.prog 80 #[.agg #[.bool na, va], .agg #[.bool nb, vb]] W (SRet W S M)) := fun W va vb h1 h2 => by rw [hS, hM]; exact hmul_any na A va nb C vb W h1 h2 (by omega) (by omega)
   have hz : zOf S M = zOf na A * zOf nb C := by rw [hS, hM, zOf_and]; exact mul_z A na C nb
   have hML : (hw M).length ≤ 129 + 129 := by rw [hM]; exact hw_len_mul hwa hwb
   have HOUT : Hid (∀ v W, World.numH W v M → Calls Tryz.prog 37 #[.agg #[.bool S, v]] W fun e w' => e = .returned (.tuple #[.agg #[.bool fb, .string ft], .int .i64 E]) ∧ Below W.heap.size W w') := fun v W h => hout_num S M (by omega) fb ft E (by rw [hz]; exact hy1) (by rw [hz]; exact hy2) v W h
   clear hS hM hz hML
   clear e20 e21 f2 hwa hwb hy1 hy2
   obtain ⟨c00, c01, -⟩ := wide_cells HM0.out
   obtain ⟨c10, c11, -⟩ := wide_cells HM1.out
   go_wp2_with fail
   refine wp_region_late (fun w' => w'.cell? ⟨w.heap.size, 0, none⟩ = some (.bool na) ∧ w'.cell? ⟨w.heap.size, 1, none⟩ = some (.string sa) ∧ w'.cell? ⟨w.heap.size + 1, 0, none⟩ = some (.bool nb) ∧ w'.cell? ⟨w.heap.size + 1, 1, none⟩ = some (.string sb)) (fun j => decide (j = 8)) (by kernel_rfl) ⟨c00, c01, c10, c11⟩ (fun hHeld => ?_)
   refine tkD 0 (v := ?_) rfl ?_ ?_
   rotate_left
   ·(intro wq hSq; (try dsimp only at hSq); go_simp; try with_reducible rfl)
   try simp only [Act.put, List.setIfInBounds_toArray, List.set_cons_zero, List.set_cons_succ]
   refine tkD 2 (v := ?_) rfl ?_ ?_
   rotate_left
   ·(intro wq hSq; (try dsimp only at hSq); go_simp; try with_reducible rfl)
   try simp only [Act.put, List.setIfInBounds_toArray, List.set_cons_zero, List.set_cons_succ]
   have HD := Lib.hid ((Below.refl w2.heap.size w2).drew)
   have HBD := Lib.hid (HBW2.out.drew)
   have HQ0 : Hid (w2.drew.heap[w.heap.size]? = some (.cells #[.bool na, .string sa] 40)) := HM0.out
   have HQ1 : Hid (w2.drew.heap[w.heap.size + 1]? = some (.cells #[.bool nb, .string sb] 40)) := HM1.out
   have HQ2 : Hid (w2.drew.heap[w.heap.size + 1 + 1]? = some (.cells #[.bool false, .string ⟨#[]⟩] 40)) := HM2.out
   clear c00 c01 c10 c11
   refine wpAnyD_keep 1 (by kernel_rfl) rfl (fun K hK => ?_)
   go_simp
   go_at_call 81
   (with_reducible refine (HINA.out _).mono ?_)
   rintro e w5 ⟨v5, rfl, hn5, hb5⟩
   obtain ⟨a5, L5, c5, rfl⟩ : ∃ a L c, v5 = .slice a L c := by obtain ⟨x, y, h⟩ := reads_len hn5; exact ⟨x, _, y, h⟩
   have hx0 := wide_hold (w := w2.drew) HQ0.out hb5
   have hx1 := wide_hold (w := w2.drew) HQ1.out hb5
   have hx2 := wide_hold (w := w2.drew) HQ2.out hb5
   have HBX0 := Lib.hid (HBD.out.trans (hb5.mono HBD.out.size))
   obtain ⟨j0, j1, -⟩ := wide_cells hx0
   obtain ⟨j2, j3, -⟩ := wide_cells hx1
   refine hK.out _ _ ⟨j0, j1, j2, j3⟩ (fun hHeld0 => ?_)
   have HX00 := Lib.hid hx0
   have HX01 := Lib.hid hx1
   have HX02 := Lib.hid hx2
   have HN0_n := Lib.hid hn5
   clear hb5 hn5 hx0 hx1 hx2 j0 j1 j2 j3 hK K hHeld
   try simp only [Act.put, List.setIfInBounds_toArray, List.set_cons_zero, List.set_cons_succ]
   refine wpAnyD_keep 3 (by kernel_rfl) rfl (fun K hK => ?_)
   go_simp
   go_at_call 81
   (with_reducible refine (HINB.out _).mono ?_)
   rintro e w6 ⟨v6, rfl, hn6, hb6⟩
   obtain ⟨a6, L6, c6, rfl⟩ : ∃ a L c, v6 = .slice a L c := by obtain ⟨x, y, h⟩ := reads_len hn6; exact ⟨x, _, y, h⟩
   have hx0 := wide_hold (w := w5) HX00.out hb6
   have hx1 := wide_hold (w := w5) HX01.out hb6
   have hx2 := wide_hold (w := w5) HX02.out hb6
   have HBX1 := Lib.hid (HBX0.out.trans (hb6.mono HBX0.out.size))
   obtain ⟨j0, j1, -⟩ := wide_cells hx0
   obtain ⟨j2, j3, -⟩ := wide_cells hx1
   refine hK.out _ _ ⟨j0, j1, j2, j3⟩ (fun hHeld1 => ?_)
   have HX10 := Lib.hid hx0
   have HX11 := Lib.hid hx1
   have HX12 := Lib.hid hx2
   have HN1_0 := Lib.hid (numH_below (HN0_n.out) hb6)
   have HN1_n := Lib.hid hn6
   clear hb6 hn6 hx0 hx1 hx2 j0 j1 j2 j3 hK K hHeld0
   try simp only [Act.put, List.setIfInBounds_toArray, List.set_cons_zero, List.set_cons_succ]
   refine wpAnyD_keep 4 (by kernel_rfl) rfl (fun K hK => ?_)
   go_simp
   go_at_call 80
   (with_reducible refine (HADD.out _ _ _ (HN1_0.out) (HN1_n.out)).mono ?_)
   rintro e w7 ⟨v7, rfl, hn7, hb7⟩
   obtain ⟨a7, L7, c7, rfl⟩ : ∃ a L c, v7 = .slice a L c := by obtain ⟨x, y, h⟩ := reads_len hn7; exact ⟨x, _, y, h⟩
   have hx0 := wide_hold (w := w6) HX10.out hb7
   have hx1 := wide_hold (w := w6) HX11.out hb7
   have hx2 := wide_hold (w := w6) HX12.out hb7
   have HBX2 := Lib.hid (HBX1.out.trans (hb7.mono HBX1.out.size))
   obtain ⟨j0, j1, -⟩ := wide_cells hx0
   obtain ⟨j2, j3, -⟩ := wide_cells hx1
   refine hK.out _ _ ⟨j0, j1, j2, j3⟩ (fun hHeld2 => ?_)
   have HX20 := Lib.hid hx0
   have HX21 := Lib.hid hx1
   have HX22 := Lib.hid hx2
   have HN2_0 := Lib.hid (numH_below (HN1_0.out) hb7)
   have HN2_1 := Lib.hid (numH_below (HN1_n.out) hb7)
   have HN2_n := Lib.hid hn7
   clear hb7 hn7 hx0 hx1 hx2 j0 j1 j2 j3 hK K hHeld1
   try simp only [Act.put, List.setIfInBounds_toArray, List.set_cons_zero, List.set_cons_succ]
   refine wpAnyD_keep 5 (by kernel_rfl) rfl (fun K hK => ?_)
   go_simp
   go_at_call 37
   (with_reducible refine (HOUT.out _ _ (HN2_n.out)).mono ?_)
   rintro e w8 ⟨rfl, hb8⟩
   have hx0 := wide_hold (w := w7) HX20.out hb8
   have hx1 := wide_hold (w := w7) HX21.out hb8
   have hx2 := wide_hold (w := w7) HX22.out hb8
   have HBX3 := Lib.hid (HBX2.out.trans (hb8.mono HBX2.out.size))
   obtain ⟨j0, j1, -⟩ := wide_cells hx0
   obtain ⟨j2, j3, -⟩ := wide_cells hx1
   refine hK.out _ _ ⟨j0, j1, j2, j3⟩ (fun hHeld3 => ?_)
   have HX30 := Lib.hid hx0
   have HX31 := Lib.hid hx1
   have HX32 := Lib.hid hx2
   have HN3_0 := Lib.hid (numH_below (HN2_0.out) hb8)
   have HN3_1 := Lib.hid (numH_below (HN2_1.out) hb8)
   have HN3_2 := Lib.hid (numH_below (HN2_n.out) hb8)
   clear hb8 hx0 hx1 hx2 j0 j1 j2 j3 hK K hHeld2
   try simp only [Act.put, List.setIfInBounds_toArray, List.set_cons_zero, List.set_cons_succ]
   refine tkD 6 (v := ?_) rfl ?_ ?_
   rotate_left
   ·(intro wq hSq; (try dsimp only at hSq); go_simp; try with_reducible rfl)
   try simp only [Act.put, List.setIfInBounds_toArray, List.set_cons_zero, List.set_cons_succ]
   refine tkD 7 (v := ?_) rfl ?_ ?_
   rotate_left
   ·(intro wq hSq; (try dsimp only at hSq); go_simp; try with_reducible rfl)
   try simp only [Act.put, List.setIfInBounds_toArray, List.set_cons_zero, List.set_cons_succ]
   obtain ⟨d0, d1, fz⟩ := wide_cells HX32.out
   refine wpAnyD_step 8 (by kernel_rfl) rfl rfl (fun K hK => ?_)
   go_simp
   refine hK.out _ _ ?_
   clear hK K hHeld3
   try simp only [Act.put, List.setIfInBounds_toArray, List.set_cons_zero, List.set_cons_succ]
   refine tkW 9 (v := ?_) rfl ?_ ?_
   rotate_left
   ·(intro wq hSq; (try dsimp only at hSq); go_simp; try with_reducible rfl)
   try simp only [Act.put, List.setIfInBounds_toArray, List.set_cons_zero, List.set_cons_succ]
   refine wpAnyD_end (by kernel_rfl) ?_
   have m2 := wide_set HX32.out fb ft
   have hb9 := below_set2 (p := w.heap.size + 1 + 1) HBX3.out (by omega) fb ft
   clear d0 d1 fz
   obtain ⟨d20, d21, -⟩ := wide_cells m2
   clear m2
   generalize (w8.setCell ⟨w.heap.size + 1 + 1, 0, none⟩ (.bool fb)).setCell ⟨w.heap.size + 1 + 1, 1, none⟩ (.string ft) = W9 at d20 d21 hb9 ⊢
   go_wp2
   rw [HP.out]
   exact bodyPost_ret (v := .tuple #[.agg #[.bool fb, .string ft], .int .i64 E]) (by simp [results, Tryz.results54, go_sem, d20, d21]) rfl ⟨rfl, hb9⟩
end
/- Wide integers: helpers and walks, in one text (XF2 XF3). -/
/- Walks: the integer of 64 bits of a form: the reference's. -/
/- Walks: the form of an integer of 64 bits: the reference's. -/
section
open Go.RowKit Go.Shelf Go.WideNum
theorem refOf_any (n : Int) (h1 : -9223372036854775808 ≤ n) (h2 : n < 9223372036854775808) (fb : Bool) (ft : ByteArray) (hout : outZ n = .agg #[.bool fb, .string ft]) (w : World) :
  Calls Tryz.prog 15 #[.int .i64 n] w fun e w' => e = .returned (.agg #[.bool fb, .string ft]) ∧ Below w.heap.size w w' := by
 obtain ⟨HPOST, hpost⟩ : ∃ X : Ending → World → Prop, X = fun e w' => e = .returned (.agg #[.bool fb, .string ft]) ∧ Below w.heap.size w w' := ⟨_, rfl⟩
 rw [← hpost]
 have HP := Lib.hid hpost
 clear hpost
 obtain ⟨m, hm⟩ : ∃ m, m = n.natAbs := ⟨_, rfl⟩
 obtain ⟨sg, hsg⟩ : ∃ b, b = decide (n < 0) := ⟨_, rfl⟩
 have hzo : zOf sg m = n := by
  rw [hsg, hm]; unfold zOf
  by_cases h : n < 0
  ·simp [h]; omega
  ·simp [h]; omega
 have hm64 : m < 18446744073709551616 := by omega
 have hml : (hw m).length ≤ 4 := hw_len_le (by omega)
 have HOUT : Hid (∀ v W, World.numH W v m → Calls Tryz.prog 37 #[.agg #[.bool sg, v]] W fun e w' => e = .returned (.tuple #[.agg #[.bool fb, .string ft], .int .i64 (errZ n)]) ∧ Below W.heap.size W w') := fun v W h => hout_num sg m (by omega) fb ft (errZ n) (by rw [hzo]; exact hout) (by rw [hzo]) v W h
 obtain ⟨EE, hEE⟩ : ∃ EE, EE = errZ n := ⟨_, rfl⟩
 rw [← hEE] at HOUT
 have HML := Lib.hid hml
 have hcase : (n < 0 ∧ sg = true ∧ IntKind.u64.wrap (-(IntKind.u64.wrap n)) = (m : Int)) ∨ (¬ n < 0 ∧ sg = false ∧ IntKind.u64.wrap n = (m : Int)) := by
  by_cases h : n < 0
  ·left
   refine ⟨h, by rw [hsg, decide_eq_true h], ?_⟩
   rw [IntKind.wrap_u64, IntKind.wrap_u64]; omega
  ·right
   refine ⟨h, by rw [hsg, decide_eq_false h], ?_⟩
   rw [IntKind.wrap_u64]; omega
 have HCASE := Lib.hid hcase
 clear hcase hsg hzo hout hEE hml
 obtain ⟨W0, hW0⟩ : ∃ W0, W0 = (w.alloc (.cells #[.bool false, .string ⟨#[]⟩] 40)).alloc (.cells #[.bool sg, .slice none 0 0] 72) := ⟨_, rfl⟩
 have g0 : W0.heap[w.heap.size]? = some (.cells #[.bool false, .string ⟨#[]⟩] 40) := by rw [hW0, Below.heap_alloc _ _ _ (by simp)]; exact heap_alloc_new w _
 have g1 : W0.heap[w.heap.size + 1]? = some (.cells #[.bool sg, .slice none 0 0] 72) := by rw [hW0]; exact alloc_last _ _ (by simp)
 have hb0 : Below w.heap.size w W0 := by rw [hW0]; exact (((Below.refl _ w).alloc (Nat.le_refl _) _).alloc (by simp) _)
 have hz0 : W0.heap.size = w.heap.size + 1 + 1 := by rw [hW0]; simp
 have HB0 := Lib.hid hb0
 have HG0 := Lib.hid g0
 have HG1 := Lib.hid g1
 have HZ0 := Lib.hid hz0
 have HW0 := Lib.hid hW0
 clear hb0 g0 g1 hz0 hW0
 go_enter Tryz.func15, Tryz.ntmps15
 go_upto_if 13 with (fail)
 go_cut [4] (fun nv wx => nv = .int .u64 (m : Int) ∧ wx = W0)
 case first =>
  rcases HCASE.out with ⟨hn, hsg, hu⟩ | ⟨hn, hsg, hu⟩
  ·have hd : decide (n < 0) = true := decide_eq_true hn
   subst hsg
   clear hm
   go_wp2
   go_meet
   case rel => exact ⟨by first | rfl | rw [hu], HW0.out.symm⟩
  ·have hd : decide (n < 0) = false := decide_eq_false hn
   subst hsg
   clear hm
   go_wp2
   go_meet
   case rel => exact ⟨by first | rfl | rw [hu], HW0.out.symm⟩
 case rest =>
  obtain ⟨rfl, rfl⟩ := hcut
  obtain ⟨M, hM⟩ : ∃ M, M = (hw m).length := ⟨_, rfl⟩
  have HM := Lib.hid hM
  have hM4 : M ≤ 4 := by rw [hM]; exact HML.out
  clear hm hM HCASE
  go_wp2_with fail
  go_loopw [4] (fun nv wr => ∃ (k : Nat) (xa : Option Addr) (xc : Nat), k ≤ M ∧ nv = .int .u64 ((m / 65536 ^ k : Nat) : Int) ∧ Hid (wr.heap[w.heap.size]? = some (.cells #[.bool false, .string ⟨#[]⟩] 40)) ∧ Hid (wr.heap[w.heap.size + 1]? = some (.cells #[.bool sg, .slice xa k xc] 72)) ∧ Hid (wr.owns (w.heap.size + 1 + 1) 22 1 (.slice xa k xc) k (((List.range k).map (dig 65536 m)).map u32V)) ∧ Hid (Below w.heap.size w wr) ∧ w.heap.size + 1 + 1 ≤ wr.heap.size) (fun nv _ => (intOf nv).toNat)
  case atStart => exact ⟨0, none, 0, Nat.zero_le _, by rw [Nat.pow_zero, Nat.div_one], HG0.out, HG1.out, owns_nil _ _ _, HB0.out, by rw [HZ0.out]; exact Nat.le_refl _⟩
  case round =>
   obtain ⟨k, xa, xc, hk, rfl, hG0, hG1, hO, hB, hz⟩ := hrel
   obtain ⟨c10, c11, f10, f11⟩ := num_cells hG1.out
   by_cases hlt : k < M
   ·have hst := div_pow_succ 65536 m k
    have hdl := hw_dig m k
    have hge : 65536 ^ k ≤ m := hw_len_ge (by rw [← HM.out]; exact hlt)
    have hpos : 0 < m / 65536 ^ k := Nat.div_pos hge (Nat.pow_pos (by omega))
    have hle := Nat.div_le_self m (65536 ^ k)
    obtain ⟨r, er⟩ : ∃ r, r = m / 65536 ^ k := ⟨_, rfl⟩
    obtain ⟨z, ez⟩ : ∃ r, r = dig 65536 m k := ⟨_, rfl⟩
    obtain ⟨q, eq⟩ : ∃ r, r = m / 65536 ^ (k + 1) := ⟨_, rfl⟩
    rw [← er, ← ez, ← eq] at hst
    rw [← er] at hpos hle
    rw [← ez] at hdl
    rw [← er]
    have EZ := Lib.hid ez
    have EQ := Lib.hid eq
    have t0 : (0 : Int) < (r : Int) := by omega
    have t1 : (r : Int) % 65536 = (z : Int) := by omega
    have t2 : (z : Int) % 4294967296 = (z : Int) := by omega
    have t3 : (r : Int) / 65536 = (q : Int) := by omega
    have HRQ : Hid (q < r) := by show q < r; omega
    have hr64 : r < 18446744073709551616 := by omega
    clear er ez eq hst hge hpos
    go_wp2_with (at_builtin; refine app_u32 wr 23 Tryz.underlying23 rfl (.tmp 19) (.tmp 23) rfl (w.heap.size + 1 + 1) (.slice xa k xc) k _ rfl hO.out (z : Int) wr.heap.size rfl rfl (by omega) hz ?_; intro v5 w5 hown5 hg5 hz5; have HO5 := Lib.hid hown5; obtain ⟨g5, q5, rfl⟩ := hown5.succ; have hb5 := below_grown hO.out hg5 (w.heap.size + 1 + 1) (Nat.le_refl _) hz; have HB5 := Lib.hid hb5; have K0 := Lib.hid ((hb5.block _ (by omega)).trans hG0.out); have hk1 := (hb5.block _ (by omega)).trans hG1.out; have K1 := Lib.hid hk1; obtain ⟨e10, e11, i10, i11⟩ := num_cells hk1; clear hown5 hg5 hb5 hk1)
    go_roundw
    case rel =>
     refine ⟨k + 1, some ⟨g5, 0, none⟩, q5, by omega, by first | (rw [← EQ.out]; done) | (rw [t3, ← EQ.out]), ?_, ?_, ?_, ?_, ?_⟩
     ·show _ = _; rw [cell_other (by omega)]; exact K0.out
     ·show _ = _; exact num_set1 K1.out _
     ·show World.owns _ _ _ _ _ _ _
      refine World.owns.setCell ?_ (by simp) _
      rw [List.range_succ, List.map_append, List.map_append]
      show w5.owns _ _ _ _ _ (_ ++ [u32V (dig 65536 m k)])
      rw [← EZ.out]
      exact HO5.out
     ·show Below _ _ _
      exact (hB.out.trans (HB5.out.mono (by omega))).setCell (by simp) _
     ·simp; omega
    case measure =>
     have := HRQ.out
     first | (simp [intOf, t3]; done) | (simp [intOf, t3]; omega) | (simp [intOf]; omega)
   ·obtain rfl : k = M := by omega
    have h0 : m / 65536 ^ k = 0 := Nat.div_eq_of_lt (by rw [HM.out]; exact hw_vlt m)
    rw [h0]
    have hnum : World.numH wr (.slice xa k xc) m := rawH_num hO.out.reads HM.out
    have t0 : ¬ (0 : Int) < ((0 : Nat) : Int) := by omega
    have HNUM := Lib.hid hnum
    clear h0 hnum
    go_wp2_with fail
    (with_reducible refine (HOUT.out _ _ HNUM.out).mono ?_)
    rintro e w6 ⟨rfl, hb6⟩
    have hg6 := wide_hold (w := wr) hG0.out hb6
    have HB6 := Lib.hid (hB.out.trans (hb6.mono hB.out.size))
    have hz6 := hb6.size
    have ha6 : (w6.alloc (.cells #[.bool fb, .string ft] 40)).heap[w.heap.size]? = some (.cells #[.bool false, .string ⟨#[]⟩] 40) := by rw [Below.heap_alloc _ _ _ (by omega)]; exact hg6
    have ha7 : (w6.alloc (.cells #[.bool fb, .string ft] 40)).heap[w6.heap.size]? = some (.cells #[.bool fb, .string ft] 40) := heap_alloc_new w6 _
    have hb7 : Below w.heap.size w (w6.alloc (.cells #[.bool fb, .string ft] 40)) := HB6.out.alloc HB6.out.size _
    clear c10 c11 f10 f11 hb6
    obtain ⟨d0, d1, fd⟩ := wide_cells ha6
    obtain ⟨i0, i1, -⟩ := wide_cells ha7
    have HA6 := Lib.hid ha6
    have HB7 := Lib.hid hb7
    clear ha6 ha7 hb7 hg6
    go_wp2
    have m2 := wide_set HA6.out fb ft
    have hb9 : Below w.heap.size w (((w6.alloc (.cells #[.bool fb, .string ft] 40)).setCell ⟨w.heap.size, 0, none⟩ (.bool fb)).setCell ⟨w.heap.size, 1, none⟩ (.string ft)) := (HB7.out.setCell (by simp) _).setCell (by simp) _
    clear d0 d1 fd i0 i1
    obtain ⟨d20, d21, -⟩ := wide_cells m2
    clear m2
    generalize ((w6.alloc (.cells #[.bool fb, .string ft] 40)).setCell ⟨w.heap.size, 0, none⟩ (.bool fb)).setCell ⟨w.heap.size, 1, none⟩ (.string ft) = W9 at d20 d21 hb9 ⊢
    rw [HP.out]
    exact bodyPost_ret (v := .agg #[.bool fb, .string ft]) (by simp [results, Tryz.results15, go_sem, d20, d21]) rfl ⟨rfl, hb9⟩
end
/- Walks: integers of many words, by value: calls whose results lie in range. -/
section
open Go.RowKit Go.Shelf Go.WideNum
theorem div_all : DivAll := fun A C hC hla hlc => by
 by_cases hs : A < C ∨ C < 4294967296
 ·exact divide_small A C hC hs (by omega) (by omega)
 ·exact divide_big A C (by omega) (by omega) (by omega)
theorem div_valid (na : Bool) (sa : ByteArray) (nb : Bool) (sb : ByteArray) (ha : validB na sa = true) (hb : validB nb sb = true) (h0 : sb.size ≠ 0) : DivOK (numB sa) (numB sb) := by
 obtain ⟨l1, -, -, -⟩ := valid_spec na sa ha
 obtain ⟨l2, hmg, -, -⟩ := valid_spec nb sb hb
 have h1 := wd_len65 l1
 have h2 := wd_len65 l2
 exact div_all _ _ (fun h => by rw [h] at hmg; exact h0 (by rw [← hmg]; rfl)) (by omega) (by omega)
def zN (z : Int) : Bool := decide (z < 0)
def zT (z : Int) : ByteArray := magB z.natAbs
def InR (z : Int) : Prop := z.natAbs < lim
theorem lim_words : lim = 4294967296 ^ 64 := by unfold lim; rw [show (4294967296 : Nat) = 256 ^ 4 by rfl, ← Nat.pow_mul]
theorem inR_of {z : Int} {k : Nat} (h : z.natAbs < 4294967296 ^ k) (hk : k ≤ 64) : InR z := by
 unfold InR
 rw [lim_words]
 exact Nat.lt_of_lt_of_le h (Nat.pow_le_pow_right (by omega) hk)
theorem inR_small {z : Int} (h : z.natAbs < 18446744073709551616) : InR z := inR_of (k := 2) (Nat.lt_of_lt_of_le h (by decide)) (by omega)
theorem outZ_zW {z : Int} (h : InR z) : outZ z = .agg #[.bool (zN z), .string (zT z)] ∧ errZ z = 0 := outZ_in z h
theorem z_valid {z : Int} (h : InR z) : validB (zN z) (zT z) = true ∧ zV (zN z) (zT z) = z := by
 obtain ⟨v1, v2⟩ := valid_magB (decide (z < 0)) z.natAbs h (fun hn => by have := of_decide_eq_true hn; omega)
 refine ⟨v1, ?_⟩
 unfold zV zOf zT zN
 rw [v2]
 by_cases hn : z < 0
 ·rw [decide_eq_true hn, if_pos rfl]; omega
 ·rw [decide_eq_false hn, if_neg (by decide)]; omega
theorem z_size {z : Int} (h : InR z) : (zT z).size ≤ maxLen := by
 have := (valid_spec _ _ (z_valid h).1).2.2.2
 unfold maxLen; omega
theorem opF_z (f : Int → Int → Int) {x y : Int} (hx : InR x) (hy : InR y) (h : InR (f x y)) : opF f (zN x) (zT x) (zN y) (zT y) = (.agg #[.bool (zN (f x y)), .string (zT (f x y))], 0) := by
 unfold opF
 rw [(z_valid hx).1, (z_valid hy).1, (z_valid hx).2, (z_valid hy).2, if_pos (by rfl), (outZ_zW h).1, (outZ_zW h).2]
def WideOk (z : Int) (w : World) (e : Ending) (w' : World) : Prop := e = .returned (.tuple #[.agg #[.bool (zN z), .string (zT z)], .int .i64 0]) ∧ Below w.heap.size w w'
theorem Mul_z (x y : Int) (hx : InR x) (hy : InR y) (h : InR (x * y)) (w : World) :
  Calls Tryz.prog 45 #[.agg #[.bool (zN x), .string (zT x)], .agg #[.bool (zN y), .string (zT y)]] w (WideOk (x * y) w) := by
 have := Mul_any (zN x) (zT x) (zN y) (zT y) (z_size hx) (z_size hy) w
 rwa [opF_z (fun a b => a * b) hx hy h] at this
theorem Add_z (x y : Int) (hx : InR x) (hy : InR y) (h : InR (x + y)) (w : World) :
  Calls Tryz.prog 75 #[.agg #[.bool (zN x), .string (zT x)], .agg #[.bool (zN y), .string (zT y)]] w (WideOk (x + y) w) := by
 have := Add_any (zN x) (zT x) (zN y) (zT y) (z_size hx) (z_size hy) w
 rwa [opF_z (fun a b => a + b) hx hy h] at this
theorem refMul_z (x y : Int) (hx : InR x) (hy : InR y) (h : InR (x * y)) (w : World) :
  Calls Tryz.prog 54 #[.agg #[.bool (zN x), .string (zT x)], .agg #[.bool (zN y), .string (zT y)]] w (WideOk (x * y) w) :=
 refMul_any (zN x) (zT x) (zN y) (zT y) (z_size hx) (z_size hy) _ _ _ (opF_z (fun a b => a * b) hx hy h) w
theorem refAdd_z (x y : Int) (hx : InR x) (hy : InR y) (h : InR (x + y)) (w : World) :
  Calls Tryz.prog 60 #[.agg #[.bool (zN x), .string (zT x)], .agg #[.bool (zN y), .string (zT y)]] w (WideOk (x + y) w) :=
 refAdd_any (zN x) (zT x) (zN y) (zT y) (z_size hx) (z_size hy) _ _ _ (opF_z (fun a b => a + b) hx hy h) w
theorem Of_z (n : Int) (h1 : -9223372036854775808 ≤ n) (h2 : n < 9223372036854775808) (w : World) :
  Calls Tryz.prog 42 #[.int .i64 n] w fun e w' => e = .returned (.agg #[.bool (zN n), .string (zT n)]) ∧ Below w.heap.size w w' := by
 have := Of_any n h1 h2 w
 rwa [(outZ_zW (inR_small (by omega))).1] at this
theorem refOf_z (n : Int) (h1 : -9223372036854775808 ≤ n) (h2 : n < 9223372036854775808) (w : World) :
  Calls Tryz.prog 15 #[.int .i64 n] w fun e w' => e = .returned (.agg #[.bool (zN n), .string (zT n)]) ∧ Below w.heap.size w w' :=
 refOf_any n h1 h2 _ _ (outZ_zW (inR_small (by omega))).1 w
theorem pos_of {m : Int} (h : InR m) (h0 : 0 < m) : posB (zN m) (zT m) = true := by
 unfold posB
 have h1 := (z_valid h).1
 have h2 : zN m = false := decide_eq_false (by omega)
 have h3 : (zT m).size ≠ 0 := fun h3 => by
  have h4 := (z_valid h).2
  have h5 : zT m = ⟨#[]⟩ := by
   apply ByteArray.ext
   exact Array.eq_empty_of_size_eq_zero h3
  rw [h5, h2] at h4
  have : zV false ⟨#[]⟩ = 0 := by kernel_rfl
  omega
 rw [h2] at h1 ⊢
 simp [h1, h3]
theorem balZ_abs (x m : Int) (h0 : 0 < m) : -m < balZ x m ∧ balZ x m < m := by
 have h1 := Int.emod_nonneg x (show m ≠ 0 by omega)
 have h2 := Int.emod_lt_of_pos x h0
 unfold balZ
 split <;> omega
theorem balF_z {x m : Int} (hx : InR x) (hm : InR m) (h0 : 0 < m) : balF (zN x) (zT x) (zN m) (zT m) = (.agg #[.bool (zN (balZ x m)), .string (zT (balZ x m))], 0) := by
 have hb := balZ_abs x m h0
 have hr : InR (balZ x m) := by unfold InR at *; omega
 unfold balF
 rw [(z_valid hx).1, pos_of hm h0, (z_valid hx).2, (z_valid hm).2, if_pos (by rfl), (outZ_zW hr).1, (outZ_zW hr).2]
theorem Balanced_z (x m : Int) (hx : InR x) (hm : InR m) (h0 : 0 < m) (w : World) :
  Calls Tryz.prog 76 #[.agg #[.bool (zN x), .string (zT x)], .agg #[.bool (zN m), .string (zT m)]] w (WideOk (balZ x m) w) := by
 have := Balanced_any (zN x) (zT x) (zN m) (zT m) (z_size hx) (z_size hm) (div_valid _ _ _ _) w
 rwa [balF_z hx hm h0] at this
theorem refBalanced_z (x m : Int) (hx : InR x) (hm : InR m) (h0 : 0 < m) (w : World) :
  Calls Tryz.prog 61 #[.agg #[.bool (zN x), .string (zT x)], .agg #[.bool (zN m), .string (zT m)]] w (WideOk (balZ x m) w) :=
 refBalanced_any (zN x) (zT x) (zN m) (zT m) (z_size hx) (z_size hm) _ _ _ (balF_z hx hm h0) w
theorem modF_z {x : Int} {n r : Nat} (hx : InR x) (h0 : 0 < n) (hr : x % (n : Int) = (r : Int)) : modF (zN x) (zT x) n = (r, 0) := by
 unfold modF
 have h1 := (floor_z (numB (zT x)) (zN x) n false (by omega)).2
 have h2 : zOf (zN x) (numB (zT x)) = x := (z_valid hx).2
 rw [h2, show zOf false n = (n : Int) by rfl, hr] at h1
 rw [(z_valid hx).1, decide_eq_true (show n ≠ 0 by omega), if_pos (by rfl)]
 congr 1
 omega
theorem refMod_z (x : Int) (n r : Nat) (hx : InR x) (h0 : 0 < n) (hn : n < 4294967296) (hr : x % (n : Int) = (r : Int)) (w : World) :
  Calls Tryz.prog 56 #[.agg #[.bool (zN x), .string (zT x)], .int .u32 (n : Int)] w fun e w' => e = .returned (.tuple #[.int .u32 (r : Int), .int .i64 0]) ∧ Below w.heap.size w w' :=
 refMod_any (zN x) (zT x) (z_size hx) n hn r 0 (modF_z hx h0 hr) w
end
end Go.Proofs.YtkjlfjnncdkmlaaGreat
