/- The reference: quotient and rest with signs, the rest from zero on. -/
import Derived.Test.YtnjblppapmflhaaXE2
namespace Go.Proofs.Ytnjblppapmflhaa
set_option linter.all false
open Go.RowKit Go.Shelf Go.WideNum
theorem hold {w w' : World} {g : Nat} {o : Obj} (h : w.heap[g]? = some o) (hb : Below w.heap.size w w') : w'.heap[g]? = some o := (hb.block _ (lt_of_heap h)).trans h
theorem numHold {w w' : World} {v : Value} {n : Nat} (h : World.numH w v n) (hb : Below w.heap.size w w') : World.numH w' v n := numH_below h hb
theorem numH_slice {w : World} {v : Value} {n : Nat} (h : World.numH w v n) : ∃ a c, v = .slice a (hw n).length c := by
  obtain ⟨a, c, e⟩ := reads_len h
  rw [List.length_map] at e
  exact ⟨a, c, e⟩
def DivRetH (w : World) (an : Bool) (A : Nat) (bn : Bool) (C : Nat) (e : Ending) (w' : World) : Prop :=
  ∃ vq vr, e = .returned (.tuple #[.agg #[.bool ((an != bn) && decide (floorN A an C ≠ 0)), vq], .agg #[.bool false, vr]]) ∧ World.numH w' vq (floorN A an C) ∧ World.numH w' vr (floorR A an C) ∧ Below w.heap.size w w'
theorem add_one_z (S1 : Bool) (q : Nat) : sumN q (S1 && decide (q ≠ 0)) 1 S1 = q + 1 ∧ (sumS q (S1 && decide (q ≠ 0)) 1 S1 && decide (sumN q (S1 && decide (q ≠ 0)) 1 S1 ≠ 0)) = (S1 && decide (q + 1 ≠ 0)) := by
  unfold sumN sumS
  by_cases h : q = 0
  · subst h; cases S1 <;> simp
  · cases S1 <;> simp [h]
set_option maxRecDepth 100000 in
set_option maxHeartbeats 8000000 in
theorem hdiv_any (an : Bool) (A : Nat) (va : Value) (bn : Bool) (C : Nat) (vb : Value) (hC0 : C ≠ 0) (w : World) (hA : World.numH w va A) (hC : World.numH w vb C) (hla : (hw A).length ≤ 1900) (hlc : (hw C).length ≤ 1900) :
    Calls Try.prog 58 #[.agg #[.bool an, va], .agg #[.bool bn, vb]] w (DivRetH w an A bn C) := by
  have HA := Lib.hid hA
  have HC := Lib.hid hC
  obtain ⟨aa, p, ca, -, rfl, -, -, -⟩ := numH_words hA
  obtain ⟨ab, q, cb, -, rfl, -, -, -⟩ := numH_words hC
  clear hA hC
  obtain ⟨HPOST, hpost⟩ : ∃ R, R = DivRetH w an A bn C := ⟨_, rfl⟩
  rw [← hpost]
  have HP := Lib.hid hpost
  obtain ⟨W0, hW0⟩ : ∃ W0, W0 = (((w.alloc (.cells #[.bool an, .slice aa p ca] 86)).alloc (.cells #[.bool bn, .slice ab q cb] 86)).alloc (.cells #[.bool false, .slice none 0 0] 86)).alloc (.cells #[.bool false, .slice none 0 0] 86) := ⟨_, rfl⟩
  have g0 : W0.heap[w.heap.size]? = some (.cells #[.bool an, .slice aa p ca] 86) := by rw [hW0, Below.heap_alloc _ _ _ (by first | (simp; done) | (simp; omega) | omega), Below.heap_alloc _ _ _ (by first | (simp; done) | (simp; omega) | omega), Below.heap_alloc _ _ _ (by simp)]; exact heap_alloc_new w _
  have g1 : W0.heap[w.heap.size + 1]? = some (.cells #[.bool bn, .slice ab q cb] 86) := by rw [hW0, Below.heap_alloc _ _ _ (by first | (simp; done) | (simp; omega) | omega), Below.heap_alloc _ _ _ (by simp)]; exact alloc_last _ _ (by simp)
  have g2 : W0.heap[w.heap.size + 1 + 1]? = some (.cells #[.bool false, .slice none 0 0] 86) := by rw [hW0, Below.heap_alloc _ _ _ (by simp)]; exact alloc_last _ _ (by simp)
  have g3 : W0.heap[w.heap.size + 1 + 1 + 1]? = some (.cells #[.bool false, .slice none 0 0] 86) := by rw [hW0]; exact alloc_last _ _ (by simp)
  have hb0 : Below w.heap.size w W0 := by rw [hW0]; exact (((((Below.refl _ w).alloc (Nat.le_refl _) _).alloc (by simp) _).alloc (by first | (simp; done) | (simp; omega) | omega) _).alloc (by first | (simp; done) | (simp; omega) | omega) _)
  have HGA := Lib.hid g0
  have HGB := Lib.hid g1
  have HGR := Lib.hid g2
  have HGT := Lib.hid g3
  have HD := Lib.hid hb0
  have HNA := Lib.hid (numH_below HA.out hb0)
  have HNC := Lib.hid (numH_below HC.out hb0)
  have HW0 := Lib.hid hW0
  obtain ⟨c00, c01, f00, f01⟩ := num_cells g0
  obtain ⟨c10, c11, f10, f11⟩ := num_cells g1
  obtain ⟨sg, hsg⟩ : ∃ sg, sg = (an != bn) := ⟨_, rfl⟩
  have t1 : (!(an == bn)) = sg := by rw [hsg]; rfl
  have t2 : (an != bn) = sg := hsg.symm
  have HSG := Lib.hid hsg
  have hlong := hlong_any A C hC0 (.slice aa p ca) (.slice ab q cb) W0 HNA.out HNC.out (by omega) (by omega)
  have hCp : 0 < C := by omega
  have hrC := Nat.mod_lt A hCp
  have hqA := Nat.div_le_self A C
  have hQL : (hw (A / C)).length ≤ 1900 := hw_len_mono hqA hla
  have hRL : (hw (A % C)).length ≤ 1900 := hw_len_mono (Nat.le_of_lt hrC) hlc
  have hq65 : A / C < 65536 ^ (hw A).length := Nat.lt_of_le_of_lt hqA (hw_vlt A)
  obtain ⟨Q, eQ⟩ : ∃ Q, Q = A / C := ⟨_, rfl⟩
  obtain ⟨R, eR⟩ : ∃ R, R = A % C := ⟨_, rfl⟩
  unfold LongRet at hlong
  rw [← eQ, ← eR] at hlong
  rw [← eQ] at hQL hq65
  rw [← eR] at hRL hrC
  have HLONG := Lib.hid hlong
  have HTQ : Hid (∀ v W, World.rawH W v Q (hw A).length → Calls Try.prog 83 #[.agg #[.bool sg, v]] W (SRet W (sg && decide (Q ≠ 0)) Q)) := fun v W h => htrim_any sg Q _ hq65 (by omega) v W h
  have HTR : Hid (∀ v W, World.numH W v R → Calls Try.prog 83 #[.agg #[.bool false, v]] W (SRet W false R)) := fun v W h => htrim_any false R _ (hw_vlt R) (by omega) v W (numH_raw h)
  have HFN : Hid (floorN A an C = (if an = true ∧ R ≠ 0 then Q + 1 else Q) ∧ floorR A an C = (if an = true ∧ R ≠ 0 then C - R else R)) := by unfold floorN floorR; rw [eQ, eR]; exact ⟨rfl, rfl⟩
  have HAD : Hid (∀ W va vb, World.numH W va Q → World.numH W vb 1 → Calls Try.prog 56 #[.agg #[.bool (sg && decide (Q ≠ 0)), va], .agg #[.bool sg, vb]] W (SRet W (sg && decide (Q + 1 ≠ 0)) (Q + 1))) := fun W va vb h1 h2 => by
    have := hadd_any (sg && decide (Q ≠ 0)) Q va sg 1 vb W h1 h2 (by omega) (by rw [hw_one]; omega)
    rw [(add_one_z sg Q).2, (add_one_z sg Q).1] at this
    exact this
  have HMI : Hid (∀ v u W, World.numH W v C → World.numH W u R → Calls Try.prog 86 #[v, u] W (RawRet W (C - R) (hw C).length)) := fun v u W h1 h2 => hminus_any C R (Nat.le_of_lt hrC) v u W h1 h2 (by omega) (by omega)
  have HTM : Hid (∀ v W, World.rawH W v (C - R) (hw C).length → Calls Try.prog 83 #[.agg #[.bool false, v]] W (SRet W false (C - R))) := fun v W h => htrim_any false (C - R) _ hw_lt_sub (by omega) v W h
  have HWO : Hid (∀ W, Calls Try.prog 64 #[.int .u32 1] W (SRet W false 1)) := fun W => word_any 1 (by omega) W
  clear g0 g1 g2 g3 hb0 hW0 hpost hsg hlong hla hlc hC0 hCp hrC hqA hQL hRL hq65 eQ eR
  go_enter Try.func58, Try.ntmps58
  go_upto_region 1 with (fail)
  rw [← HW0.out]
  go_wp2_with fail
  (with_reducible refine (HLONG.out).mono ?_)
  rintro e u1 ⟨vq, vr, rfl, hrq, hnr, hb1⟩
  obtain ⟨aq, Lq, cq, rfl⟩ : ∃ a L c, vq = .slice a L c := by obtain ⟨x, y, h, -⟩ := rawH_words hrq; exact ⟨x, _, y, h⟩
  obtain ⟨ar, cr, er⟩ := numH_slice hnr
  subst er
  obtain ⟨Lr, hLr⟩ : ∃ L, L = (hw R).length := ⟨_, rfl⟩
  rw [← hLr] at hnr ⊢
  have HRQ := Lib.hid hrq
  clear c00 c01 c10 c11 f00 f01 f10 f11 hLr
  have HA1 := Lib.hid (hold HGA.out hb1)
  have HB1 := Lib.hid (hold HGB.out hb1)
  have HR1 := Lib.hid (hold HGR.out hb1)
  have HT1 := Lib.hid (hold HGT.out hb1)
  have NC1 := Lib.hid (numHold HNC.out hb1)
  have D1 := Lib.hid (HD.out.trans (hb1.mono HD.out.size))
  have HNR := Lib.hid hnr
  clear hb1 hnr hrq
  go_wp2_with fail
  (with_reducible refine (HTR.out _ _ HNR.out).mono ?_)
  rintro e u2 ⟨v2, rfl, hn2, hb2⟩
  obtain ⟨a2, c2, e2⟩ := numH_slice hn2
  subst e2
  obtain ⟨L2, hL2⟩ : ∃ L, L = (hw R).length := ⟨_, rfl⟩
  rw [← hL2] at hn2 ⊢
  have HL2 := Lib.hid hL2
  clear hL2
  have HA2 := Lib.hid (hold HA1.out hb2)
  have HB2 := Lib.hid (hold HB1.out hb2)
  have HR2 := Lib.hid (hold HR1.out hb2)
  have HT2 := Lib.hid (hold HT1.out hb2)
  have NC2 := Lib.hid (numHold NC1.out hb2)
  have NR2 := Lib.hid (numHold HNR.out hb2)
  have D2 := Lib.hid (D1.out.trans (hb2.mono D1.out.size))
  have HRQ2 := Lib.hid (rawH_below HRQ.out hb2)
  have HN2 := Lib.hid hn2
  clear hb2 hn2
  have hba : Below u2.heap.size u2 (u2.alloc (.cells #[.bool false, .slice a2 L2 c2] 86)) := (Below.refl _ _).alloc (Nat.le_refl _) _
  have hga : (u2.alloc (.cells #[.bool false, .slice a2 L2 c2] 86)).heap[u2.heap.size]? = some (.cells #[.bool false, .slice a2 L2 c2] 86) := heap_alloc_new _ _
  have HA3 := Lib.hid (hold HA2.out hba)
  have HB3 := Lib.hid (hold HB2.out hba)
  have HR3 := Lib.hid (hold HR2.out hba)
  have HT3 := Lib.hid (hold HT2.out hba)
  have NC3 := Lib.hid (numHold NC2.out hba)
  have NS3 := Lib.hid (numHold HN2.out hba)
  have D3 := Lib.hid (D2.out.trans (hba.mono D2.out.size))
  have HRQ3 := Lib.hid (rawH_below HRQ2.out hba)
  have HP8 := Lib.hid hga
  clear hba hga
  obtain ⟨c00, c01, -, -⟩ := num_cells HA3.out
  obtain ⟨c10, c11, -, -⟩ := num_cells HB3.out
  go_wp2_with fail
  obtain ⟨P8, hP8⟩ : ∃ P, P = u2.heap.size := ⟨_, rfl⟩
  have HP8R : Hid (w.heap.size + 1 + 1 + 1 < P8) := by show _ < _; rw [hP8]; exact lt_of_heap HT2.out
  rw [← hP8] at HP8 ⊢
  clear hP8
  generalize u2.alloc (.cells #[.bool false, .slice a2 L2 c2] 86) = x2 at HA3 HB3 HR3 HT3 NC3 NS3 D3 HRQ3 HP8 c00 c01 c10 c11 ⊢
  clear c00 c01 c10 c11
  (with_reducible refine (HTQ.out _ _ HRQ3.out).mono ?_)
  rintro e u3 ⟨v3, rfl, hn3, hb3⟩
  obtain ⟨a3, L3, c3, rfl⟩ : ∃ a L c, v3 = .slice a L c := by obtain ⟨x, y, h⟩ := reads_len hn3; exact ⟨x, _, y, h⟩
  obtain ⟨SQ, hSQ⟩ : ∃ SQ, SQ = (sg && decide (Q ≠ 0)) := ⟨_, rfl⟩
  rw [← hSQ] at HAD ⊢
  have HSQ := Lib.hid hSQ
  clear hSQ
  have HA4 := Lib.hid (hold HA3.out hb3)
  have HB4 := Lib.hid (hold HB3.out hb3)
  have HR4 := Lib.hid (hold HR3.out hb3)
  have HT4 := Lib.hid (hold HT3.out hb3)
  have H84 := Lib.hid (hold HP8.out hb3)
  have NC4 := Lib.hid (numHold NC3.out hb3)
  have NS4 := Lib.hid (numHold NS3.out hb3)
  have D4 := Lib.hid (D3.out.trans (hb3.mono D3.out.size))
  have HN3 := Lib.hid hn3
  clear hb3 hn3
  have hba : Below u3.heap.size u3 (u3.alloc (.cells #[.bool SQ, .slice a3 L3 c3] 86)) := (Below.refl _ _).alloc (Nat.le_refl _) _
  have hga : (u3.alloc (.cells #[.bool SQ, .slice a3 L3 c3] 86)).heap[u3.heap.size]? = some (.cells #[.bool SQ, .slice a3 L3 c3] 86) := heap_alloc_new _ _
  have HA5 := Lib.hid (hold HA4.out hba)
  have HB5 := Lib.hid (hold HB4.out hba)
  have HR5 := Lib.hid (hold HR4.out hba)
  have HT5 := Lib.hid (hold HT4.out hba)
  have H85 := Lib.hid (hold H84.out hba)
  have NC5 := Lib.hid (numHold NC4.out hba)
  have NS5 := Lib.hid (numHold NS4.out hba)
  have NQ5 := Lib.hid (numHold HN3.out hba)
  have D5 := Lib.hid (D4.out.trans (hba.mono D4.out.size))
  have HP9 := Lib.hid hga
  have HDU := Lib.hid (D5.out.size)
  clear hba hga
  obtain ⟨P9, hP9⟩ : ∃ P, P = u3.heap.size := ⟨_, rfl⟩
  have HP9R : Hid (w.heap.size + 1 + 1 + 1 < P9) := by show _ < _; rw [hP9]; exact lt_of_heap HT4.out
  obtain ⟨c00, c01, -, -⟩ := num_cells HA5.out
  obtain ⟨c80, c81, -, -⟩ := num_cells H85.out
  by_cases hadj : an = true ∧ R ≠ 0
  · have HF1 : Hid (floorN A an C = Q + 1) := by show _ = _; rw [HFN.out.1, if_pos hadj]
    have HF2 : Hid (floorR A an C = C - R) := by show _ = _; rw [HFN.out.2, if_pos hadj]
    obtain ⟨rfl, hR0⟩ := hadj
    have hLp : 0 < L2 := by rw [HL2.out]; exact hw_pos.2 hR0
    have t0 : ((L2 : Int) == 0) = false := by rw [beq_eq_false_iff_ne]; omega
    clear hR0
    obtain ⟨SF, hSF⟩ : ∃ SF, SF = (sg && decide (Q + 1 ≠ 0)) := ⟨_, rfl⟩
    rw [← hSF] at HAD
    have HSF := Lib.hid hSF
    have hsb : sg = !bn := by rw [HSG.out]; cases bn <;> rfl
    subst hsb
    clear hSF t1 t2
    go_wp2_with fail
    rw [← hP9] at HP9 ⊢
    generalize u3.alloc (.cells #[.bool SQ, .slice a3 L3 c3] 86) = x3 at HA5 HB5 HR5 HT5 H85 HP9 NC5 NS5 NQ5 D5 c00 c01 c80 c81 ⊢
    clear c00 c01 c80 c81 hP9
    (with_reducible refine (HWO.out _).mono ?_)
    rintro e u4 ⟨v4, rfl, hn4, hb4⟩
    obtain ⟨a4, L4, c4, rfl⟩ : ∃ a L c, v4 = .slice a L c := by obtain ⟨x, y, h⟩ := reads_len hn4; exact ⟨x, _, y, h⟩
    have HA6 := Lib.hid (hold HA5.out hb4)
    have HB6 := Lib.hid (hold HB5.out hb4)
    have HR6 := Lib.hid (hold HR5.out hb4)
    have HT6 := Lib.hid (hold HT5.out hb4)
    have H86 := Lib.hid (hold H85.out hb4)
    have H96 := Lib.hid (hold HP9.out hb4)
    have NC6 := Lib.hid (numHold NC5.out hb4)
    have NS6 := Lib.hid (numHold NS5.out hb4)
    have NQ6 := Lib.hid (numHold NQ5.out hb4)
    have D6 := Lib.hid (D5.out.trans (hb4.mono D5.out.size))
    have HN4 := Lib.hid hn4
    clear hb4 hn4
    have hb0 : Below u4.heap.size u4 (u4.alloc (.cells #[.bool false, .slice a4 L4 c4] 86)) := (Below.refl _ _).alloc (Nat.le_refl _) _
    obtain ⟨y00, y01, -, -⟩ := num_cells (hold HA6.out hb0)
    obtain ⟨y10, y11, -, -⟩ := num_cells (hold HB6.out hb0)
    obtain ⟨y20, y21, z20, z21⟩ := num_cells (heap_alloc_new u4 (.cells #[.bool false, .slice a4 L4 c4] 86))
    clear hb0
    have hba : Below u4.heap.size u4 (u4.alloc (.cells #[.bool (!bn), .slice a4 L4 c4] 86)) := (Below.refl _ _).alloc (Nat.le_refl _) _
    have hga : (u4.alloc (.cells #[.bool (!bn), .slice a4 L4 c4] 86)).heap[u4.heap.size]? = some (.cells #[.bool (!bn), .slice a4 L4 c4] 86) := heap_alloc_new _ _
    have HA7 := Lib.hid (hold HA6.out hba)
    have HB7 := Lib.hid (hold HB6.out hba)
    have HR7 := Lib.hid (hold HR6.out hba)
    have HT7 := Lib.hid (hold HT6.out hba)
    have H87 := Lib.hid (hold H86.out hba)
    have H97 := Lib.hid (hold H96.out hba)
    have NC7 := Lib.hid (numHold NC6.out hba)
    have NS7 := Lib.hid (numHold NS6.out hba)
    have NQ7 := Lib.hid (numHold NQ6.out hba)
    have N17 := Lib.hid (numHold HN4.out hba)
    have D7 := Lib.hid (D6.out.trans (hba.mono D6.out.size))
    have HP10 := Lib.hid hga
    clear hba hga
    obtain ⟨P10, hP10⟩ : ∃ P, P = u4.heap.size := ⟨_, rfl⟩
    have HP10R : Hid (w.heap.size + 1 + 1 + 1 < P10) := by show _ < _; rw [hP10]; exact lt_of_heap HT6.out
    have HBL1 := num_cells HA7.out
    obtain ⟨c00, c01, -, -⟩ := HBL1
    obtain ⟨c10, c11, -, -⟩ := num_cells HB7.out
    go_wp2_with fail
    rw [← hP10] at HP10 ⊢
    generalize u4.alloc (.cells #[.bool (!bn), .slice a4 L4 c4] 86) = x4 at HA7 HB7 HR7 HT7 H87 H97 HP10 NC7 NS7 NQ7 N17 D7 c00 c01 c10 c11 ⊢
    clear c00 c01 c10 hP10 y00 y01 y10 y11 y20 y21 z20 z21
    obtain ⟨q0, q1, -, -⟩ := num_cells H97.out
    obtain ⟨o0, o1, -, -⟩ := num_cells HP10.out
    obtain ⟨-, r1, -, -⟩ := num_cells H87.out
    refine wp_region_late (fun w' => w'.cell? ⟨P9, 0, none⟩ = some (.bool SQ) ∧ w'.cell? ⟨P9, 1, none⟩ = some (.slice a3 L3 c3) ∧ w'.cell? ⟨P10, 0, none⟩ = some (.bool (!bn)) ∧ w'.cell? ⟨P10, 1, none⟩ = some (.slice a4 L4 c4) ∧ w'.cell? ⟨w.heap.size + 1, 1, none⟩ = some (.slice ab q cb) ∧ w'.cell? ⟨P8, 1, none⟩ = some (.slice a2 L2 c2)) (fun _ => false) (by kernel_rfl) ⟨q0, q1, o0, o1, c11, r1⟩ (fun hHeld => ?_)
    refine wpAnyD_take 0 (v := ?_) (by kernel_rfl) (by kernel_rfl) rfl (by kernel_rfl) (by kernel_rfl) (fun _ _ _ h => h) (Or.inl ⟨by rfl, ?_⟩) (by assumption) ?_
    rotate_left
    · (intro wq hSq; (try dsimp only at hSq); go_simp; try with_reducible rfl)
    try simp only [Act.put, List.setIfInBounds_toArray, List.set_cons_zero, List.set_cons_succ]
    refine wpAnyD_take 1 (v := ?_) (by kernel_rfl) (by kernel_rfl) rfl (by kernel_rfl) (by kernel_rfl) (fun _ _ _ h => h) (Or.inl ⟨by rfl, ?_⟩) (by assumption) ?_
    rotate_left
    · (intro wq hSq; (try dsimp only at hSq); go_simp; try with_reducible rfl)
    try simp only [Act.put, List.setIfInBounds_toArray, List.set_cons_zero, List.set_cons_succ]
    refine wpAnyD_take 3 (v := ?_) (by kernel_rfl) (by kernel_rfl) rfl (by kernel_rfl) (by kernel_rfl) (fun _ _ _ h => h) (Or.inl ⟨by rfl, ?_⟩) (by assumption) ?_
    rotate_left
    · (intro wq hSq; (try dsimp only at hSq); go_simp; try with_reducible rfl)
    try simp only [Act.put, List.setIfInBounds_toArray, List.set_cons_zero, List.set_cons_succ]
    refine wpAnyD_take 4 (v := ?_) (by kernel_rfl) (by kernel_rfl) rfl (by kernel_rfl) (by kernel_rfl) (fun _ _ _ h => h) (Or.inl ⟨by rfl, ?_⟩) (by assumption) ?_
    rotate_left
    · (intro wq hSq; (try dsimp only at hSq); go_simp; try with_reducible rfl)
    try simp only [Act.put, List.setIfInBounds_toArray, List.set_cons_zero, List.set_cons_succ]
    refine wpAnyD_take 5 (v := ?_) (by kernel_rfl) (by kernel_rfl) rfl (by kernel_rfl) (by kernel_rfl) (fun _ _ _ h => h) (Or.inl ⟨by rfl, ?_⟩) (by assumption) ?_
    rotate_left
    · (intro wq hSq; (try dsimp only at hSq); go_simp; try with_reducible rfl)
    try simp only [Act.put, List.setIfInBounds_toArray, List.set_cons_zero, List.set_cons_succ]
    refine wpAnyD_take 6 (v := ?_) (by kernel_rfl) (by kernel_rfl) rfl (by kernel_rfl) (by kernel_rfl) (fun _ _ _ h => h) (Or.inl ⟨by rfl, ?_⟩) (by assumption) ?_
    rotate_left
    · (intro wq hSq; (try dsimp only at hSq); go_simp; try with_reducible rfl)
    try simp only [Act.put, List.setIfInBounds_toArray, List.set_cons_zero, List.set_cons_succ]
    have hdr : Below x4.heap.size x4 x4.drew := (Below.refl _ _).drew
    have HA8 := Lib.hid (hold HA7.out hdr)
    have HB8 := Lib.hid (hold HB7.out hdr)
    have HR8 := Lib.hid (hold HR7.out hdr)
    have HT8 := Lib.hid (hold HT7.out hdr)
    have H88 := Lib.hid (hold H87.out hdr)
    have H98 := Lib.hid (hold H97.out hdr)
    have H08 := Lib.hid (hold HP10.out hdr)
    have NC8 := Lib.hid (numHold NC7.out hdr)
    have NS8 := Lib.hid (numHold NS7.out hdr)
    have NQ8 := Lib.hid (numHold NQ7.out hdr)
    have N18 := Lib.hid (numHold N17.out hdr)
    have D8 := Lib.hid (D7.out.trans (hdr.mono D7.out.size))
    clear hdr q0 q1 o0 o1 c11 r1
    generalize x4.drew = x5 at HA8 HB8 HR8 HT8 H88 H98 H08 NC8 NS8 NQ8 N18 D8 hHeld ⊢
    refine wpAnyD_keep 2 (by kernel_rfl) rfl (fun K hK => ?_)
    go_simp
    go_at_call 56
    (with_reducible refine (HAD.out _ _ _ NQ8.out N18.out).mono ?_)
    rintro e u6 ⟨vu6, rfl, hnu6, hbu⟩
    obtain ⟨au6, Lu6, cu6, eu6⟩ : ∃ a L c, vu6 = .slice a L c := by obtain ⟨x, y, h⟩ := reads_len hnu6; exact ⟨x, _, y, h⟩
    subst eu6
    have HA9 := Lib.hid (hold HA8.out hbu)
    have HB9 := Lib.hid (hold HB8.out hbu)
    have HR9 := Lib.hid (hold HR8.out hbu)
    have HT9 := Lib.hid (hold HT8.out hbu)
    have H89 := Lib.hid (hold H88.out hbu)
    have H99 := Lib.hid (hold H98.out hbu)
    have H09 := Lib.hid (hold H08.out hbu)
    have NC9 := Lib.hid (numHold NC8.out hbu)
    have NS9 := Lib.hid (numHold NS8.out hbu)
    have NQ9 := Lib.hid (numHold NQ8.out hbu)
    have N19 := Lib.hid (numHold N18.out hbu)
    have D9 := Lib.hid (D8.out.trans (hbu.mono D8.out.size))
    have HNu6 := Lib.hid hnu6
    obtain ⟨q0, q1, -, -⟩ := num_cells H99.out
    obtain ⟨o0, o1, -, -⟩ := num_cells H09.out
    obtain ⟨-, r1, -, -⟩ := num_cells H89.out
    obtain ⟨-, c11, -, -⟩ := num_cells HB9.out
    refine hK.out _ _ ⟨q0, q1, o0, o1, c11, r1⟩ (fun hHeld2 => ?_)
    clear hbu hnu6 q0 q1 o0 o1 c11 r1 hK K hHeld
    try simp only [Act.put, List.setIfInBounds_toArray, List.set_cons_zero, List.set_cons_succ]
    refine wpAnyD_keep 7 (by kernel_rfl) rfl (fun K hK => ?_)
    go_simp
    go_at_call 86
    (with_reducible refine (HMI.out _ _ _ NC9.out NS9.out).mono ?_)
    rintro e u7 ⟨vu7, rfl, hnu7, hbu⟩
    obtain ⟨au7, Lu7, cu7, eu7⟩ : ∃ a L c, vu7 = .slice a L c := by obtain ⟨x, y, h, -⟩ := rawH_words hnu7; exact ⟨x, _, y, h⟩
    subst eu7
    have HA10 := Lib.hid (hold HA9.out hbu)
    have HB10 := Lib.hid (hold HB9.out hbu)
    have HR10 := Lib.hid (hold HR9.out hbu)
    have HT10 := Lib.hid (hold HT9.out hbu)
    have H810 := Lib.hid (hold H89.out hbu)
    have H910 := Lib.hid (hold H99.out hbu)
    have H010 := Lib.hid (hold H09.out hbu)
    have NC10 := Lib.hid (numHold NC9.out hbu)
    have NS10 := Lib.hid (numHold NS9.out hbu)
    have NQ10 := Lib.hid (numHold NQ9.out hbu)
    have N110 := Lib.hid (numHold N19.out hbu)
    have NF10 := Lib.hid (numHold HNu6.out hbu)
    have D10 := Lib.hid (D9.out.trans (hbu.mono D9.out.size))
    have HNu7 := Lib.hid hnu7
    obtain ⟨q0, q1, -, -⟩ := num_cells H910.out
    obtain ⟨o0, o1, -, -⟩ := num_cells H010.out
    obtain ⟨-, r1, -, -⟩ := num_cells H810.out
    obtain ⟨-, c11, -, -⟩ := num_cells HB10.out
    refine hK.out _ _ ⟨q0, q1, o0, o1, c11, r1⟩ (fun hHeld3 => ?_)
    clear hbu hnu7 q0 q1 o0 o1 c11 r1 hK K hHeld2
    try simp only [Act.put, List.setIfInBounds_toArray, List.set_cons_zero, List.set_cons_succ]
    refine wpAnyD_takeW 8 (v := ?_) (by kernel_rfl) rfl (by kernel_rfl) (by kernel_rfl) (fun _ _ _ h => h) (Or.inl ⟨by rfl, ?_⟩) ?_
    rotate_left
    · (intro wq hSq; (try dsimp only at hSq); go_simp; try with_reducible rfl)
    try simp only [Act.put, List.setIfInBounds_toArray, List.set_cons_zero, List.set_cons_succ]
    refine wpAnyD_keep 9 (by kernel_rfl) rfl (fun K hK => ?_)
    go_simp
    go_at_call 83
    (with_reducible refine (HTM.out _ _ HNu7.out).mono ?_)
    rintro e u8 ⟨vu8, rfl, hnu8, hbu⟩
    obtain ⟨au8, Lu8, cu8, eu8⟩ : ∃ a L c, vu8 = .slice a L c := by obtain ⟨x, y, h⟩ := reads_len hnu8; exact ⟨x, _, y, h⟩
    subst eu8
    have HA11 := Lib.hid (hold HA10.out hbu)
    have HB11 := Lib.hid (hold HB10.out hbu)
    have HR11 := Lib.hid (hold HR10.out hbu)
    have HT11 := Lib.hid (hold HT10.out hbu)
    have H811 := Lib.hid (hold H810.out hbu)
    have H911 := Lib.hid (hold H910.out hbu)
    have H011 := Lib.hid (hold H010.out hbu)
    have NC11 := Lib.hid (numHold NC10.out hbu)
    have NS11 := Lib.hid (numHold NS10.out hbu)
    have NQ11 := Lib.hid (numHold NQ10.out hbu)
    have N111 := Lib.hid (numHold N110.out hbu)
    have NF11 := Lib.hid (numHold NF10.out hbu)
    have D11 := Lib.hid (D10.out.trans (hbu.mono D10.out.size))
    have HNu8 := Lib.hid hnu8
    obtain ⟨q0, q1, -, -⟩ := num_cells H911.out
    obtain ⟨o0, o1, -, -⟩ := num_cells H011.out
    obtain ⟨-, r1, -, -⟩ := num_cells H811.out
    obtain ⟨-, c11, -, -⟩ := num_cells HB11.out
    refine hK.out _ _ ⟨q0, q1, o0, o1, c11, r1⟩ (fun hHeld4 => ?_)
    clear hbu hnu8 q0 q1 o0 o1 c11 r1 hK K hHeld3
    try simp only [Act.put, List.setIfInBounds_toArray, List.set_cons_zero, List.set_cons_succ]
    obtain ⟨d0, d1, z0, z1⟩ := num_cells HR11.out
    refine wpAnyD_keep 10 (by kernel_rfl) rfl (fun K hK => ?_)
    go_simp
    clear d0 d1 z0 z1
    have H912 := Lib.hid ((two_other (W := u8) (p := w.heap.size + 1 + 1) (.bool SF) (.slice au6 Lu6 cu6) (P9) (by have := HP9R.out; omega)).trans H911.out)
    have H012 := Lib.hid ((two_other (W := u8) (p := w.heap.size + 1 + 1) (.bool SF) (.slice au6 Lu6 cu6) (P10) (by have := HP10R.out; omega)).trans H011.out)
    have H812 := Lib.hid ((two_other (W := u8) (p := w.heap.size + 1 + 1) (.bool SF) (.slice au6 Lu6 cu6) (P8) (by have := HP8R.out; omega)).trans H811.out)
    have HB12 := Lib.hid ((two_other (W := u8) (p := w.heap.size + 1 + 1) (.bool SF) (.slice au6 Lu6 cu6) (w.heap.size + 1) (by omega)).trans HB11.out)
    have HT12 := Lib.hid ((two_other (W := u8) (p := w.heap.size + 1 + 1) (.bool SF) (.slice au6 Lu6 cu6) (w.heap.size + 1 + 1 + 1) (by omega)).trans HT11.out)
    have HR12 := Lib.hid (num_set HR11.out (.bool SF) (.slice au6 Lu6 cu6))
    have NF12 := Lib.hid (numH_set NF11.out HR11.out (.bool SF) (.slice au6 Lu6 cu6))
    have NG12 := Lib.hid (numH_set HNu8.out HR11.out (.bool SF) (.slice au6 Lu6 cu6))
    have D12 : Hid (Below w.heap.size w ((u8.setCell ⟨w.heap.size + 1 + 1, 0, none⟩ (.bool SF)).setCell ⟨w.heap.size + 1 + 1, 1, none⟩ (.slice au6 Lu6 cu6))) := (D11.out.setCell (by first | (simp; done) | (simp; omega) | omega) _).setCell (by first | (simp; done) | (simp; omega) | omega) _
    obtain ⟨q0, q1, -, -⟩ := num_cells H912.out
    obtain ⟨o0, o1, -, -⟩ := num_cells H012.out
    obtain ⟨-, r1, -, -⟩ := num_cells H812.out
    obtain ⟨-, c11, -, -⟩ := num_cells HB12.out
    refine hK.out _ _ ⟨q0, q1, o0, o1, c11, r1⟩ (fun hHeld5 => ?_)
    clear q0 q1 o0 o1 c11 r1 hK K hHeld4
    try simp only [Act.put, List.setIfInBounds_toArray, List.set_cons_zero, List.set_cons_succ]
    generalize (u8.setCell ⟨w.heap.size + 1 + 1, 0, none⟩ (.bool SF)).setCell ⟨w.heap.size + 1 + 1, 1, none⟩ (.slice au6 Lu6 cu6) = x8 at H912 H012 H812 HB12 HT12 HR12 NF12 NG12 D12 hHeld5 ⊢
    obtain ⟨d0, d1, z0, z1⟩ := num_cells HT12.out
    refine wpAnyD_keep 11 (by kernel_rfl) rfl (fun K hK => ?_)
    go_simp
    clear d0 d1 z0 z1
    have H913 := Lib.hid ((two_other (W := x8) (p := w.heap.size + 1 + 1 + 1) (.bool false) (.slice au8 Lu8 cu8) (P9) (by have := HP9R.out; omega)).trans H912.out)
    have H013 := Lib.hid ((two_other (W := x8) (p := w.heap.size + 1 + 1 + 1) (.bool false) (.slice au8 Lu8 cu8) (P10) (by have := HP10R.out; omega)).trans H012.out)
    have H813 := Lib.hid ((two_other (W := x8) (p := w.heap.size + 1 + 1 + 1) (.bool false) (.slice au8 Lu8 cu8) (P8) (by have := HP8R.out; omega)).trans H812.out)
    have HB13 := Lib.hid ((two_other (W := x8) (p := w.heap.size + 1 + 1 + 1) (.bool false) (.slice au8 Lu8 cu8) (w.heap.size + 1) (by omega)).trans HB12.out)
    have HR13 := Lib.hid ((two_other (W := x8) (p := w.heap.size + 1 + 1 + 1) (.bool false) (.slice au8 Lu8 cu8) (w.heap.size + 1 + 1) (by omega)).trans HR12.out)
    have HT13 := Lib.hid (num_set HT12.out (.bool false) (.slice au8 Lu8 cu8))
    have NF13 := Lib.hid (numH_set NF12.out HT12.out (.bool false) (.slice au8 Lu8 cu8))
    have NG13 := Lib.hid (numH_set NG12.out HT12.out (.bool false) (.slice au8 Lu8 cu8))
    have D13 : Hid (Below w.heap.size w ((x8.setCell ⟨w.heap.size + 1 + 1 + 1, 0, none⟩ (.bool false)).setCell ⟨w.heap.size + 1 + 1 + 1, 1, none⟩ (.slice au8 Lu8 cu8))) := (D12.out.setCell (by first | (simp; done) | (simp; omega) | omega) _).setCell (by first | (simp; done) | (simp; omega) | omega) _
    obtain ⟨q0, q1, -, -⟩ := num_cells H913.out
    obtain ⟨o0, o1, -, -⟩ := num_cells H013.out
    obtain ⟨-, r1, -, -⟩ := num_cells H813.out
    obtain ⟨-, c11, -, -⟩ := num_cells HB13.out
    refine hK.out _ _ ⟨q0, q1, o0, o1, c11, r1⟩ (fun hHeld6 => ?_)
    clear q0 q1 o0 o1 c11 r1 hK K hHeld5
    try simp only [Act.put, List.setIfInBounds_toArray, List.set_cons_zero, List.set_cons_succ]
    generalize (x8.setCell ⟨w.heap.size + 1 + 1 + 1, 0, none⟩ (.bool false)).setCell ⟨w.heap.size + 1 + 1 + 1, 1, none⟩ (.slice au8 Lu8 cu8) = x9 at H913 H013 H813 HB13 HR13 HT13 NF13 NG13 D13 hHeld6 ⊢
    refine wpAnyD_end (by kernel_rfl) ?_
    obtain ⟨d10, d11, -, -⟩ := num_cells HR13.out
    obtain ⟨d20, d21, -, -⟩ := num_cells HT13.out
    go_wp2
    rw [HP.out]
    exact bodyPost_ret (v := .tuple #[.agg #[.bool SF, .slice au6 Lu6 cu6], .agg #[.bool false, .slice au8 Lu8 cu8]]) (by simp [results, Try.results58, go_sem, d20, d21, d10, d11]) rfl ⟨_, _, by rw [HSF.out, HSG.out, HF1.out], by rw [HF1.out]; exact NF13.out, by rw [HF2.out]; exact NG13.out, D13.out⟩
  · have HF1 : Hid (floorN A an C = Q) := by show _ = _; rw [HFN.out.1, if_neg hadj]
    have HF2 : Hid (floorR A an C = R) := by show _ = _; rw [HFN.out.2, if_neg hadj]
    cases an with
    | false =>
      clear hadj
      go_wp2_with fail
      rw [← hP9] at HP9 ⊢
      generalize u3.alloc (.cells #[.bool SQ, .slice a3 L3 c3] 86) = x3 at HA5 HB5 HR5 HT5 H85 HP9 NC5 NS5 NQ5 D5 c00 c01 c80 c81 ⊢
      clear c00 c01 c80 c81 hP9
      obtain ⟨q0, q1, -, -⟩ := num_cells HP9.out
      obtain ⟨r0, r1, -, -⟩ := num_cells H85.out
      obtain ⟨d0, d1, z0, z1⟩ := num_cells HR5.out
      refine wp_region_late (fun w' => w'.cell? ⟨P9, 0, none⟩ = some (.bool SQ) ∧ w'.cell? ⟨P9, 1, none⟩ = some (.slice a3 L3 c3) ∧ w'.cell? ⟨P8, 0, none⟩ = some (.bool false) ∧ w'.cell? ⟨P8, 1, none⟩ = some (.slice a2 L2 c2)) (fun j => decide (j = 3)) (by kernel_rfl) ⟨q0, q1, r0, r1⟩ (fun hHeld => ?_)
      refine wpAnyD_take 0 (v := ?_) (by kernel_rfl) (by kernel_rfl) rfl (by kernel_rfl) (by kernel_rfl) (fun _ _ _ h => h) (Or.inl ⟨by rfl, ?_⟩) (by assumption) ?_
      rotate_left
      · (intro wq hSq; (try dsimp only at hSq); go_simp; try with_reducible rfl)
      try simp only [Act.put, List.setIfInBounds_toArray, List.set_cons_zero, List.set_cons_succ]
      refine wpAnyD_take 1 (v := ?_) (by kernel_rfl) (by kernel_rfl) rfl (by kernel_rfl) (by kernel_rfl) (fun _ _ _ h => h) (Or.inl ⟨by rfl, ?_⟩) (by assumption) ?_
      rotate_left
      · (intro wq hSq; (try dsimp only at hSq); go_simp; try with_reducible rfl)
      try simp only [Act.put, List.setIfInBounds_toArray, List.set_cons_zero, List.set_cons_succ]
      refine wpAnyD_keep 2 (by kernel_rfl) rfl (fun K hK => ?_)
      go_simp
      have w9 := two_other (W := x3) (p := w.heap.size + 1 + 1) (.bool SQ) (.slice a3 L3 c3) P9 (by have := HP9R.out; omega)
      have w8 := two_other (W := x3) (p := w.heap.size + 1 + 1) (.bool SQ) (.slice a3 L3 c3) P8 (by have := HP8R.out; omega)
      obtain ⟨y0, y1, -, -⟩ := num_cells (w9.trans HP9.out)
      obtain ⟨y2, y3, -, -⟩ := num_cells (w8.trans H85.out)
      refine hK.out _ _ ⟨y0, y1, y2, y3⟩ (fun hHeld2 => ?_)
      clear hK K hHeld q0 q1 r0 r1 d0 d1 z0 z1 w9 w8 y0 y1 y2 y3
      try simp only [Act.put, List.setIfInBounds_toArray, List.set_cons_zero, List.set_cons_succ]
      have m4 := num_set HR5.out (.bool SQ) (.slice a3 L3 c3)
      have m5 := (two_other (W := x3) (p := w.heap.size + 1 + 1) (.bool SQ) (.slice a3 L3 c3) (w.heap.size + 1 + 1 + 1) (by omega)).trans HT5.out
      have nq := numH_set NQ5.out HR5.out (.bool SQ) (.slice a3 L3 c3)
      have nr := numH_set NS5.out HR5.out (.bool SQ) (.slice a3 L3 c3)
      have hbw : Below w.heap.size w ((x3.setCell ⟨w.heap.size + 1 + 1, 0, none⟩ (.bool SQ)).setCell ⟨w.heap.size + 1 + 1, 1, none⟩ (.slice a3 L3 c3)) := (D5.out.setCell (by first | (simp; done) | (simp; omega) | omega) _).setCell (by first | (simp; done) | (simp; omega) | omega) _
      first
        | generalize (x3.setCell ⟨w.heap.size + 1 + 1, 0, none⟩ (.bool SQ)).setCell ⟨w.heap.size + 1 + 1, 1, none⟩ (.slice a3 L3 c3) = x4 at m4 m5 nq nr hbw hHeld2 ⊢
      have hbw2 := hbw.drew
      have HX4 : Hid (x4.drew.heap[w.heap.size + 1 + 1]? = some (.cells #[.bool SQ, .slice a3 L3 c3] 86)) := m4
      have HX5 : Hid (x4.drew.heap[w.heap.size + 1 + 1 + 1]? = some (.cells #[.bool false, .slice none 0 0] 86)) := m5
      have HXQ : Hid (World.numH x4.drew (.slice a3 L3 c3) Q) := nq
      have HXR : Hid (World.numH x4.drew (.slice a2 L2 c2) R) := nr
      have HXD := Lib.hid hbw2
      clear m4 m5 nq nr hbw hbw2
      generalize x4.drew = x5 at HX4 HX5 HXQ HXR HXD hHeld2 ⊢
      obtain ⟨d0, d1, z0, z1⟩ := num_cells HX5.out
      refine wpAnyD_step 3 (by kernel_rfl) rfl rfl (fun K hK => ?_)
      go_simp
      refine hK.out _ _ ?_
      clear hK K d0 d1 z0 z1 hHeld2
      try simp only [Act.put, List.setIfInBounds_toArray, List.set_cons_zero, List.set_cons_succ]
      refine wpAnyD_end (by kernel_rfl) ?_
      have m2 := num_set HX5.out (.bool false) (.slice a2 L2 c2)
      have m4 := (two_other (W := x5) (p := w.heap.size + 1 + 1 + 1) (.bool false) (.slice a2 L2 c2) (w.heap.size + 1 + 1) (by omega)).trans HX4.out
      have nq := numH_set HXQ.out HX5.out (.bool false) (.slice a2 L2 c2)
      have nr := numH_set HXR.out HX5.out (.bool false) (.slice a2 L2 c2)
      have hb9 : Below w.heap.size w ((x5.setCell ⟨w.heap.size + 1 + 1 + 1, 0, none⟩ (.bool false)).setCell ⟨w.heap.size + 1 + 1 + 1, 1, none⟩ (.slice a2 L2 c2)) := (HXD.out.setCell (by first | (simp; done) | (simp; omega) | omega) _).setCell (by first | (simp; done) | (simp; omega) | omega) _
      obtain ⟨d20, d21, -, -⟩ := num_cells m2
      obtain ⟨d10, d11, -, -⟩ := num_cells m4
      clear m2 m4
      generalize (x5.setCell ⟨w.heap.size + 1 + 1 + 1, 0, none⟩ (.bool false)).setCell ⟨w.heap.size + 1 + 1 + 1, 1, none⟩ (.slice a2 L2 c2) = W9 at d20 d21 d10 d11 nq nr hb9 ⊢
      have HNQ := Lib.hid nq
      have HNR9 := Lib.hid nr
      have HB9 := Lib.hid hb9
      clear nq nr hb9
      go_wp2
      rw [HP.out]
      exact bodyPost_ret (v := .tuple #[.agg #[.bool SQ, .slice a3 L3 c3], .agg #[.bool false, .slice a2 L2 c2]]) (by simp [results, Try.results58, go_sem, d20, d21, d10, d11]) rfl ⟨_, _, by rw [HSQ.out, HSG.out, HF1.out], by rw [HF1.out]; exact HNQ.out, by rw [HF2.out]; exact HNR9.out, HB9.out⟩
    | true =>
      have hR0 : R = 0 := by
        rcases Nat.eq_zero_or_pos R with h | h
        · exact h
        · exact absurd ⟨rfl, by omega⟩ hadj
      have hL0 : L2 = 0 := by rw [HL2.out, hR0]; rfl
      have t0 : ((L2 : Int) == 0) = true := by rw [hL0]; rfl
      clear hL0 hR0 hadj
      go_wp2_with fail
      rw [← hP9] at HP9 ⊢
      generalize u3.alloc (.cells #[.bool SQ, .slice a3 L3 c3] 86) = x3 at HA5 HB5 HR5 HT5 H85 HP9 NC5 NS5 NQ5 D5 c00 c01 c80 c81 ⊢
      clear c00 c01 c80 c81 hP9
      obtain ⟨q0, q1, -, -⟩ := num_cells HP9.out
      obtain ⟨r0, r1, -, -⟩ := num_cells H85.out
      obtain ⟨d0, d1, z0, z1⟩ := num_cells HR5.out
      refine wp_region_late (fun w' => w'.cell? ⟨P9, 0, none⟩ = some (.bool SQ) ∧ w'.cell? ⟨P9, 1, none⟩ = some (.slice a3 L3 c3) ∧ w'.cell? ⟨P8, 0, none⟩ = some (.bool false) ∧ w'.cell? ⟨P8, 1, none⟩ = some (.slice a2 L2 c2)) (fun j => decide (j = 3)) (by kernel_rfl) ⟨q0, q1, r0, r1⟩ (fun hHeld => ?_)
      refine wpAnyD_take 0 (v := ?_) (by kernel_rfl) (by kernel_rfl) rfl (by kernel_rfl) (by kernel_rfl) (fun _ _ _ h => h) (Or.inl ⟨by rfl, ?_⟩) (by assumption) ?_
      rotate_left
      · (intro wq hSq; (try dsimp only at hSq); go_simp; try with_reducible rfl)
      try simp only [Act.put, List.setIfInBounds_toArray, List.set_cons_zero, List.set_cons_succ]
      refine wpAnyD_take 1 (v := ?_) (by kernel_rfl) (by kernel_rfl) rfl (by kernel_rfl) (by kernel_rfl) (fun _ _ _ h => h) (Or.inl ⟨by rfl, ?_⟩) (by assumption) ?_
      rotate_left
      · (intro wq hSq; (try dsimp only at hSq); go_simp; try with_reducible rfl)
      try simp only [Act.put, List.setIfInBounds_toArray, List.set_cons_zero, List.set_cons_succ]
      refine wpAnyD_keep 2 (by kernel_rfl) rfl (fun K hK => ?_)
      go_simp
      have w9 := two_other (W := x3) (p := w.heap.size + 1 + 1) (.bool SQ) (.slice a3 L3 c3) P9 (by have := HP9R.out; omega)
      have w8 := two_other (W := x3) (p := w.heap.size + 1 + 1) (.bool SQ) (.slice a3 L3 c3) P8 (by have := HP8R.out; omega)
      obtain ⟨y0, y1, -, -⟩ := num_cells (w9.trans HP9.out)
      obtain ⟨y2, y3, -, -⟩ := num_cells (w8.trans H85.out)
      refine hK.out _ _ ⟨y0, y1, y2, y3⟩ (fun hHeld2 => ?_)
      clear hK K hHeld q0 q1 r0 r1 d0 d1 z0 z1 w9 w8 y0 y1 y2 y3
      try simp only [Act.put, List.setIfInBounds_toArray, List.set_cons_zero, List.set_cons_succ]
      have m4 := num_set HR5.out (.bool SQ) (.slice a3 L3 c3)
      have m5 := (two_other (W := x3) (p := w.heap.size + 1 + 1) (.bool SQ) (.slice a3 L3 c3) (w.heap.size + 1 + 1 + 1) (by omega)).trans HT5.out
      have nq := numH_set NQ5.out HR5.out (.bool SQ) (.slice a3 L3 c3)
      have nr := numH_set NS5.out HR5.out (.bool SQ) (.slice a3 L3 c3)
      have hbw : Below w.heap.size w ((x3.setCell ⟨w.heap.size + 1 + 1, 0, none⟩ (.bool SQ)).setCell ⟨w.heap.size + 1 + 1, 1, none⟩ (.slice a3 L3 c3)) := (D5.out.setCell (by first | (simp; done) | (simp; omega) | omega) _).setCell (by first | (simp; done) | (simp; omega) | omega) _
      first
        | generalize (x3.setCell ⟨w.heap.size + 1 + 1, 0, none⟩ (.bool SQ)).setCell ⟨w.heap.size + 1 + 1, 1, none⟩ (.slice a3 L3 c3) = x4 at m4 m5 nq nr hbw hHeld2 ⊢
      have hbw2 := hbw.drew
      have HX4 : Hid (x4.drew.heap[w.heap.size + 1 + 1]? = some (.cells #[.bool SQ, .slice a3 L3 c3] 86)) := m4
      have HX5 : Hid (x4.drew.heap[w.heap.size + 1 + 1 + 1]? = some (.cells #[.bool false, .slice none 0 0] 86)) := m5
      have HXQ : Hid (World.numH x4.drew (.slice a3 L3 c3) Q) := nq
      have HXR : Hid (World.numH x4.drew (.slice a2 L2 c2) R) := nr
      have HXD := Lib.hid hbw2
      clear m4 m5 nq nr hbw hbw2
      generalize x4.drew = x5 at HX4 HX5 HXQ HXR HXD hHeld2 ⊢
      obtain ⟨d0, d1, z0, z1⟩ := num_cells HX5.out
      refine wpAnyD_step 3 (by kernel_rfl) rfl rfl (fun K hK => ?_)
      go_simp
      refine hK.out _ _ ?_
      clear hK K d0 d1 z0 z1 hHeld2
      try simp only [Act.put, List.setIfInBounds_toArray, List.set_cons_zero, List.set_cons_succ]
      refine wpAnyD_end (by kernel_rfl) ?_
      have m2 := num_set HX5.out (.bool false) (.slice a2 L2 c2)
      have m4 := (two_other (W := x5) (p := w.heap.size + 1 + 1 + 1) (.bool false) (.slice a2 L2 c2) (w.heap.size + 1 + 1) (by omega)).trans HX4.out
      have nq := numH_set HXQ.out HX5.out (.bool false) (.slice a2 L2 c2)
      have nr := numH_set HXR.out HX5.out (.bool false) (.slice a2 L2 c2)
      have hb9 : Below w.heap.size w ((x5.setCell ⟨w.heap.size + 1 + 1 + 1, 0, none⟩ (.bool false)).setCell ⟨w.heap.size + 1 + 1 + 1, 1, none⟩ (.slice a2 L2 c2)) := (HXD.out.setCell (by first | (simp; done) | (simp; omega) | omega) _).setCell (by first | (simp; done) | (simp; omega) | omega) _
      obtain ⟨d20, d21, -, -⟩ := num_cells m2
      obtain ⟨d10, d11, -, -⟩ := num_cells m4
      clear m2 m4
      generalize (x5.setCell ⟨w.heap.size + 1 + 1 + 1, 0, none⟩ (.bool false)).setCell ⟨w.heap.size + 1 + 1 + 1, 1, none⟩ (.slice a2 L2 c2) = W9 at d20 d21 d10 d11 nq nr hb9 ⊢
      have HNQ := Lib.hid nq
      have HNR9 := Lib.hid nr
      have HB9 := Lib.hid hb9
      clear nq nr hb9
      go_wp2
      rw [HP.out]
      exact bodyPost_ret (v := .tuple #[.agg #[.bool SQ, .slice a3 L3 c3], .agg #[.bool false, .slice a2 L2 c2]]) (by simp [results, Try.results58, go_sem, d20, d21, d10, d11]) rfl ⟨_, _, by rw [HSQ.out, HSG.out, HF1.out], by rw [HF1.out]; exact HNQ.out, by rw [HF2.out]; exact HNR9.out, HB9.out⟩
end Go.Proofs.Ytnjblppapmflhaa
