/- Walks: the law ResidueBack. -/
import Derived.Test.YtnjblppapmflhaaKF
import Derived.Test.YtnjblppapmflhaaHeldE
import Derived.Test.YtnjblppapmflhaaXC
namespace Go.Proofs.Ytnjblppapmflhaa
set_option linter.all false
open Go.RowKit Go.Shelf Go.WideNum PN
theorem refCmp_z (a b : Int) (ha : InR a) (hb : InR b) (w : World) :
    Calls Try.prog 26 #[.agg #[.bool (zN a), .string (zT a)], .agg #[.bool (zN b), .string (zT b)]] w fun e w' => e = .returned (.tuple #[.int .i64 (cmpZ a b), .int .i64 0]) ∧ Below w.heap.size w w' := by
  refine refCmp_any (zN a) (zT a) (zN b) (zT b) (z_size ha) (z_size hb) (cmpZ a b) 0 ?_ w
  unfold cmpF
  rw [(z_valid ha).1, (z_valid hb).1, (z_valid ha).2, (z_valid hb).2]
  rfl
set_option maxRecDepth 100000 in
set_option maxHeartbeats 16000000 in
theorem back_law (ps us : List Nat) (pv uv : Value) (nx : Bool) (sx : ByteArray) (hsx : sx.size ≤ maxLen) (w : World) (hr : w.reads w.heap.size pv (ps.map u32V)) (hpb : ∀ q ∈ ps, q < 4294967296) (hr2 : w.reads w.heap.size uv (us.map u32V)) (hub : ∀ q ∈ us, q < 4294967296) :
    Calls Try.prog 6 #[pv, uv, .agg #[.bool nx, .string sx]] w fun e w' => e = .returned (.bool true) ∧ Below w.heap.size w w' := by
  have HSH := Lib.hid shown_any
  obtain ⟨ok, hok⟩ : ∃ ok, ok = validB nx sx := ⟨_, rfl⟩
  have HV := Lib.hid (refValid_wide nx sx hsx ok hok)
  have HOK := Lib.hid hok
  obtain ⟨ok1, hok1⟩ := em_bool (SysP ps)
  obtain ⟨ok2, hok2⟩ := em_bool (SysP us)
  have HN1 : Hid (∀ W, Below w.heap.size w W → Calls Try.prog 19 #[pv] W (NewRet W ps ok1)) := fun W hb => New_any ps pv W ((hr.below hb).mono hb.size) hpb ok1 hok1
  have HN2 : Hid (∀ W, Below w.heap.size w W → Calls Try.prog 19 #[uv] W (NewRet W us ok2)) := fun W hb => New_any us uv W ((hr2.below hb).mono hb.size) hub ok2 hok2
  have HO1 := Lib.hid hok1
  have HO2 := Lib.hid hok2
  have hl1 := hr.le_map
  have hl2 := hr2.le_map
  obtain ⟨pa, pc, rfl, -⟩ := reads_u32 hr
  obtain ⟨ua, uc, rfl, -⟩ := reads_u32 hr2
  obtain ⟨m, hm⟩ : ∃ m, m = ps.length := ⟨_, rfl⟩
  obtain ⟨k, hk⟩ : ∃ k, k = us.length := ⟨_, rfl⟩
  rw [← hm] at HN1 hl1 ⊢
  rw [← hk] at HN2 hl2 ⊢
  clear hok hok1 hok2 hr hr2 hpb hub hm hk
  obtain ⟨sz, hz⟩ : ∃ z, z = sx.size := ⟨_, rfl⟩
  have HZ := Lib.hid hz
  obtain ⟨wb, hwb⟩ : ∃ W, W = w.alloc (.cells #[.bool nx, .string sx] 38) := ⟨_, rfl⟩
  have hbb : Below w.heap.size w wb := by rw [hwb]; exact (Below.refl _ _).alloc (Nat.le_refl _) _
  have hgb : wb.heap[w.heap.size]? = some (.cells #[.bool nx, .string sx] 38) := by rw [hwb]; exact heap_alloc_new w _
  have HBB := Lib.hid hbb
  have HGB := Lib.hid hgb
  have hcx : Hid (∀ W, Below wb.heap.size wb W → W.cell? ⟨w.heap.size, 0, none⟩ = some (.bool nx) ∧ W.cell? ⟨w.heap.size, 1, none⟩ = some (.string sx)) := fun W hb => by
    obtain ⟨a, b, -⟩ := wide_cells (wide_hold (w := wb) hgb hb)
    exact ⟨a, b⟩
  clear hbb hgb
  go_enter Try.func6, Try.ntmps6
  go_upto_region 1 with (fail)
  rw [← hwb]
  obtain ⟨c0, c1⟩ := hcx.out wb (Below.refl _ _)
  clear hwb
  by_cases h1 : 40 < m
  · have t1 : (40 : Int) < (m : Int) := by omega
    clear h1 hz
    go_wp2_with fail
    (with_reducible refine (HSH.out _).mono ?_)
    rintro e w1 ⟨rfl, hb1⟩
    go_wp2
    go_ret
    exact ⟨rfl, below_via HBB.out hb1⟩
  have t1 : ¬ (40 : Int) < (m : Int) := by omega
  by_cases h2 : 40 < k
  · have t2 : (40 : Int) < (k : Int) := by omega
    clear h1 h2 hz
    go_wp2_with fail
    (with_reducible refine (HSH.out _).mono ?_)
    rintro e w1 ⟨rfl, hb1⟩
    go_wp2
    go_ret
    exact ⟨rfl, below_via HBB.out hb1⟩
  have t2 : ¬ (40 : Int) < (k : Int) := by omega
  by_cases h3 : 300 < sz
  · have t3 : (300 : Int) < (sx.size : Int) := by omega
    clear h1 h2 h3 hz
    go_wp2_with fail
    (with_reducible refine (HSH.out _).mono ?_)
    rintro e w1 ⟨rfl, hb1⟩
    go_wp2
    go_ret
    exact ⟨rfl, below_via HBB.out hb1⟩
  have t3 : ¬ (300 : Int) < (sx.size : Int) := by omega
  clear h1 h2 h3 hz
  cases ok with
  | false =>
    go_wp2_with fail
    (with_reducible refine (HV.out _).mono ?_)
    rintro e w1 ⟨rfl, hb1⟩
    have B1 := Lib.hid (below_via HBB.out hb1)
    clear hb1
    go_wp2_with fail
    (with_reducible refine (HSH.out _).mono ?_)
    rintro e w2 ⟨rfl, hb1⟩
    go_wp2
    go_ret
    exact ⟨rfl, below_via B1.out hb1⟩
  | true =>
    go_wp2_with fail
    (with_reducible refine (HV.out _).mono ?_)
    rintro e w1 ⟨rfl, hb1⟩
    have B1 := Lib.hid (below_via HBB.out hb1)
    have D1 := Lib.hid hb1
    clear hb1 c0 c1 t1 t2 t3
    go_wp2_with fail
    (with_reducible refine (HN1.out _ B1.out).mono ?_)
    cases ok1 with
    | false =>
      rintro e w2 ⟨hb2, he2⟩
      subst he2
      have B2 := Lib.hid (below_via B1.out hb2)
      clear hb2
      go_wp2_with fail
      (with_reducible refine (HSH.out _).mono ?_)
      rintro e w3 ⟨rfl, hb3⟩
      go_wp2
      go_ret
      exact ⟨rfl, below_via B2.out hb3⟩
    | true =>
      rintro e w2 ⟨hb2, he2, hs2⟩
      subst he2
      have hsys := HO1.out.1 rfl
      obtain ⟨hzr, hzn, hzt⟩ := z_of_valid HOK.out.symm
      obtain ⟨b, hbd⟩ : ∃ b, b = w1.heap.size := ⟨_, rfl⟩
      rw [← hbd] at hs2 ⊢
      have S2 := Lib.hid hs2
      have B2 := Lib.hid (below_via B1.out hb2)
      have D2 := Lib.hid (below_via D1.out hb2)
      clear hs2 hb2 hbd
      obtain ⟨L1, hL1⟩ : ∃ L, L = resL ps (zV nx sx) := ⟨_, rfl⟩
      have hrow : RowP ps L1 := by rw [hL1]; exact resL_row hsys _
      have hJ : joinZ ps L1 = balZ (zV nx sx) (prodL ps : Nat) := by rw [hL1]; exact join_res hsys _
      obtain ⟨jb, hjb⟩ : ∃ z, z = zN (joinZ ps L1) := ⟨_, rfl⟩
      obtain ⟨jt, hjt⟩ : ∃ z, z = zT (joinZ ps L1) := ⟨_, rfl⟩
      obtain ⟨qb, hqb⟩ : ∃ z, z = zN (prodL ps : Nat) := ⟨_, rfl⟩
      obtain ⟨qt, hqt⟩ : ∃ z, z = zT (prodL ps : Nat) := ⟨_, rfl⟩
      have HSP : Hid (∀ W, SysAt W b ps → Calls Try.prog 20 #[.pointer (some ⟨b, 0, none⟩), .agg #[.bool nx, .string sx]] W (RowE W L1 0)) := fun W h => by
        have := Split_any b ps nx sx hsx W h hsys
        rwa [splitF, ← HOK.out, if_pos rfl, ← hL1] at this
      have HJ : Hid (∀ W v, SysAt W b ps → W.reads W.heap.size v (L1.map u32V) → Calls Try.prog 21 #[.pointer (some ⟨b, 0, none⟩), v] W fun e w' => e = .returned (.tuple #[.agg #[.bool jb, .string jt], .int .i64 0]) ∧ Below W.heap.size W w') := fun W v h hv => by
        have := Join_any b ps L1 v W h hsys hv true ⟨fun _ => hrow, fun _ => rfl⟩
        rw [if_pos rfl, if_pos rfl] at this
        rw [hjb, hjt]
        exact this
      have HP : Hid (∀ W, SysAt W b ps → Calls Try.prog 27 #[.pointer (some ⟨b, 0, none⟩)] W fun e w' => e = .returned (.agg #[.bool qb, .string qt]) ∧ Below W.heap.size W w') := fun W h => by
        rw [hqb, hqt]; exact Product_any b ps W h
      have HB : Hid (∀ W : World, Calls Try.prog 34 #[.agg #[.bool nx, .string sx], .agg #[.bool qb, .string qt]] W fun e w' => e = .returned (.tuple #[.agg #[.bool jb, .string jt], .int .i64 0]) ∧ Below W.heap.size W w') := fun W => by
        have h0 := prodL_pos' hsys.sep
        have := refBalanced_z (zV nx sx) (prodL ps : Nat) hzr (inR_prodL hsys.sep hsys.2.1) (by omega) W
        rw [hzn, hzt, ← hJ] at this
        rw [hjb, hjt, hqb, hqt]
        exact this
      have HROW := Lib.hid hrow
      have HL1 := Lib.hid hL1
      have HSYS := Lib.hid hsys
      have HQB := Lib.hid hqb
      have HQT := Lib.hid hqt
      clear hsys hzr hzn hzt hrow hJ hjb hjt hqb hqt hL1
      obtain ⟨c0, c1⟩ := hcx.out w2 D2.out
      go_wp2_with fail
      (with_reducible refine (HSP.out _ S2.out).mono ?_)
      rintro e w3 ⟨r, rfl, hr3, hb3⟩
      have S3 := Lib.hid (S2.out.below hb3)
      have B3 := Lib.hid (below_via B2.out hb3)
      have D3 := Lib.hid (below_via D2.out hb3)
      have R3 : Hid (w3.reads w3.heap.size r (L1.map u32V)) := hr3.reads
      have hlr := R3.out.le_map
      obtain ⟨ra, rc, rfl, -⟩ := reads_u32 R3.out
      obtain ⟨ln, hln⟩ : ∃ n, n = L1.length := ⟨_, rfl⟩
      rw [← hln] at R3 hlr ⊢
      clear hb3 hr3 c0 c1 S2 B2 D2 hln
      go_wp2_with fail
      (with_reducible refine (HJ.out _ _ S3.out R3.out).mono ?_)
      rintro e w4 ⟨rfl, hb4⟩
      have S4 := Lib.hid (S3.out.below hb4)
      have B4 := Lib.hid (below_via B3.out hb4)
      have D4 := Lib.hid (below_via D3.out hb4)
      have R4 := Lib.hid ((R3.out.below hb4).mono hb4.size)
      clear hb4 S3 B3 D3 R3
      go_upto_region 8 with (fail)
      have hab : Below w4.heap.size w4 (w4.alloc (.cells #[.bool jb, .string jt] 38)) := (Below.refl _ _).alloc (Nat.le_refl _) _
      have hg : (w4.alloc (.cells #[.bool jb, .string jt] 38)).heap[w4.heap.size]? = some (.cells #[.bool jb, .string jt] 38) := heap_alloc_new w4 _
      obtain ⟨p, hp⟩ : ∃ p, p = w4.heap.size := ⟨_, rfl⟩
      rw [← hp] at hg ⊢
      generalize w4.alloc (.cells #[.bool jb, .string jt] 38) = w5 at hab hg ⊢
      have S5 := Lib.hid (S4.out.below hab)
      have B5 := Lib.hid (below_via B4.out hab)
      have D5 := Lib.hid (below_via D4.out hab)
      have R5 := Lib.hid ((R4.out.below hab).mono hab.size)
      have P5 := Lib.hid hg
      clear hab hg hp S4 B4 D4 R4
      have hS0 : ∀ W, Below w5.heap.size w5 W → W.cell? ⟨w.heap.size, 0, none⟩ = some (.bool nx) ∧ W.cell? ⟨w.heap.size, 1, none⟩ = some (.string sx) := fun W hb => hcx.out W (below_via D5.out hb)
      refine wp_region_AE 8 6 w5.heap.size (fun w' => w'.cell? ⟨w.heap.size, 0, none⟩ = some (.bool nx) ∧ w'.cell? ⟨w.heap.size, 1, none⟩ = some (.string sx)) (fun W => Below w5.heap.size w5 W) (fun j => decide (8 ≤ j)) (by kernel_rfl) rfl (by kernel_rfl) (fun _ _ _ _ h => h) (by kernel_rfl) (fact_below (Nat.le_refl _) hS0) ((Below.refl _ _).drew) (fun hF => ?_)
      refine wpAnyA_alloc 7 (.cells #[.bool false, .string ⟨#[]⟩] 38) (by kernel_rfl) rfl rfl (by kernel_rfl) (by kernel_rfl) (fun _ => rfl) (fun _ _ => rfl) (fun _ _ _ _ h => h) hF ?_
      try simp only [Act.put, List.setIfInBounds_toArray, List.set_cons_zero, List.set_cons_succ]
      refine wpAnyA_take 0 (v := ?_) (by kernel_rfl) rfl rfl (by kernel_rfl) (by kernel_rfl) (fun _ _ _ h => h) (Or.inl ⟨by rfl, ?_⟩) (by assumption) ?_
      rotate_left
      · (intro wq hSq; (try dsimp only at hSq); go_simp; try with_reducible rfl)
      try simp only [Act.put, List.setIfInBounds_toArray, List.set_cons_zero, List.set_cons_succ]
      refine wpAnyA_take 1 (v := ?_) (by kernel_rfl) rfl rfl (by kernel_rfl) (by kernel_rfl) (fun _ _ _ h => h) (Or.inl ⟨by rfl, ?_⟩) (by assumption) ?_
      rotate_left
      · (intro wq hSq; (try dsimp only at hSq); go_simp; try with_reducible rfl)
      try simp only [Act.put, List.setIfInBounds_toArray, List.set_cons_zero, List.set_cons_succ]
      refine wpAnyA_step 2 (by kernel_rfl) rfl rfl (fun wq (hFq : Below w5.heap.size w5 wq) K hK => ?_)
      go_simp
      (with_reducible refine (HP.out _ (S5.out.below hFq)).mono ?_)
      rintro e w6 ⟨rfl, hb6⟩
      have hd6 : Below w5.heap.size w5 w6 := below_via hFq hb6
      have hF6 : Fact w5.heap.size (fun w' => w'.cell? ⟨w.heap.size, 0, none⟩ = some (.bool nx) ∧ w'.cell? ⟨w.heap.size, 1, none⟩ = some (.string sx)) (fun W => Below w6.heap.size w6 W) := fact_below hd6.size (fun W hb => hS0 W (below_via hd6 hb))
      refine hK.out _ _ hb6 (fun W => Below w6.heap.size w6 W) hF6 (Below.refl _ _) ?_
      clear hK K hFq hb6
      try simp only [Act.put, List.setIfInBounds_toArray, List.set_cons_zero, List.set_cons_succ]
      refine wpAnyA_step 3 (by kernel_rfl) rfl rfl (fun wq (hFq : Below w6.heap.size w6 wq) K hK => ?_)
      go_simp
      (with_reducible refine (HB.out _).mono ?_)
      rintro e w7 ⟨rfl, hb7⟩
      have hd7 : Below w5.heap.size w5 w7 := below_via hd6 (below_via hFq hb7)
      have hF7 : Fact w5.heap.size (fun w' => w'.cell? ⟨w.heap.size, 0, none⟩ = some (.bool nx) ∧ w'.cell? ⟨w.heap.size, 1, none⟩ = some (.string sx)) (fun W => Below w7.heap.size w7 W) := fact_below hd7.size (fun W hb => hS0 W (below_via hd7 hb))
      refine hK.out _ _ hb7 (fun W => Below w7.heap.size w7 W) hF7 (Below.refl _ _) ?_
      clear hK K hFq hb7
      try simp only [Act.put, List.setIfInBounds_toArray, List.set_cons_zero, List.set_cons_succ]
      refine wpAnyA_take 4 (v := ?_) (by kernel_rfl) rfl rfl (by kernel_rfl) (by kernel_rfl) (fun _ _ _ h => h) (Or.inl ⟨by rfl, ?_⟩) (by assumption) ?_
      rotate_left
      · (intro wq hSq; (try dsimp only at hSq); go_simp; try with_reducible rfl)
      try simp only [Act.put, List.setIfInBounds_toArray, List.set_cons_zero, List.set_cons_succ]
      refine wpAnyA_take 5 (v := ?_) (by kernel_rfl) rfl rfl (by kernel_rfl) (by kernel_rfl) (fun _ _ _ h => h) (Or.inl ⟨by rfl, ?_⟩) (by assumption) ?_
      rotate_left
      · (intro wq hSq; (try dsimp only at hSq); go_simp; try with_reducible rfl)
      try simp only [Act.put, List.setIfInBounds_toArray, List.set_cons_zero, List.set_cons_succ]
      refine wpAnyA_take 6 (v := ?_) (by kernel_rfl) rfl rfl (by kernel_rfl) (by kernel_rfl) (fun _ _ _ h => h) (Or.inl ⟨by rfl, ?_⟩) (by assumption) ?_
      rotate_left
      · (intro wq hSq; (try dsimp only at hSq); go_simp; try with_reducible rfl)
      try simp only [Act.put, List.setIfInBounds_toArray, List.set_cons_zero, List.set_cons_succ]
      refine wpAnyA_end (by kernel_rfl) (fun x0 (hFx : Below w7.heap.size w7 x0) => ?_)
      intro q hq hq7
      have hd0 := below_via hd7 hFx
      clear hF hF6 hF7 hS0 hd6 hd7 hFx
      obtain ⟨d0, d1, z0⟩ := wide_cells hq7
      have hz0 := z0 0
      have hz1 := z0 1
      refine wpAny_of_D (S := fun _ => True) (late := fun _ => true) _ _ _ _ ?_
      refine wpAnyD_step 8 (by kernel_rfl) rfl rfl (fun K hK => ?_)
      simp only [moreAfter]
      go_simp
      refine hK.out _ _ ?_
      clear hK K d0 d1 z0 hz0 hz1
      try simp only [Act.put, List.setIfInBounds_toArray, List.set_cons_zero, List.set_cons_succ]
      have m0 := wide_set hq7 jb jt
      have hd1 : Below w5.heap.size w5 ((x0.setCell ⟨q, 0, none⟩ (.bool jb)).setCell ⟨q, 1, none⟩ (.string jt)) := (hd0.setCell hq _).setCell hq _
      clear hq7 hd0
      generalize (x0.setCell ⟨q, 0, none⟩ (.bool jb)).setCell ⟨q, 1, none⟩ (.string jt) = w8 at m0 hd1 ⊢
      refine wpAnyD_step 9 (by kernel_rfl) rfl rfl (fun K hK => ?_)
      go_simp
      refine hK.out _ _ ?_
      clear hK K
      try simp only [Act.put, List.setIfInBounds_toArray, List.set_cons_zero, List.set_cons_succ]
      refine wpAnyD_end (by kernel_rfl) ?_
      have S8 := Lib.hid (S5.out.below hd1)
      have B8 := Lib.hid (below_via B5.out hd1)
      have R8 := Lib.hid ((R5.out.below hd1).mono hd1.size)
      obtain ⟨p0, p1, -⟩ := wide_cells (wide_hold (w := w5) P5.out hd1)
      obtain ⟨q0, q1, -⟩ := wide_cells m0
      clear hd1 m0 hq S5 B5 D5 R5 P5 hcx
      go_wp2_with fail
      clear p0 p1 q0 q1
      (with_reducible refine (HN2.out _ B8.out).mono ?_)
      cases ok2 with
      | false =>
        rintro e w9 ⟨hb9, he9⟩
        subst he9
        have B9 := Lib.hid (below_via B8.out hb9)
        clear hb9
        go_wp2_with fail
        (with_reducible refine (HSH.out _).mono ?_)
        rintro e w10 ⟨rfl, hb3⟩
        go_wp2
        go_ret
        exact ⟨rfl, below_via B9.out hb3⟩
      | true =>
        rintro e w9 ⟨hb9, he9, hs9⟩
        subst he9
        have hu := HO2.out.1 rfl
        obtain ⟨c, hc⟩ : ∃ b, b = w8.heap.size := ⟨_, rfl⟩
        rw [← hc] at hs9 ⊢
        have U9 := Lib.hid hs9
        have S9 := Lib.hid (S8.out.below hb9)
        have B9 := Lib.hid (below_via B8.out hb9)
        have R9 := Lib.hid ((R8.out.below hb9).mono hb9.size)
        clear hs9 hb9 hc S8 B8 R8
        obtain ⟨L2, hL2⟩ : ∃ L, L = resL us (joinZ ps L1) := ⟨_, rfl⟩
        obtain ⟨ub, hub⟩ : ∃ z, z = zN (prodL us : Nat) := ⟨_, rfl⟩
        obtain ⟨ut, hut⟩ : ∃ z, z = zT (prodL us : Nat) := ⟨_, rfl⟩
        obtain ⟨C, hC⟩ : ∃ z, z = cmpZ (prodL us : Nat) (prodL ps : Nat) := ⟨_, rfl⟩
        have HC1 : Hid (∀ W v, SysAt W b ps → SysAt W c us → W.reads W.heap.size v (L1.map u32V) → Calls Try.prog 32 #[.pointer (some ⟨b, 0, none⟩), v, .pointer (some ⟨c, 0, none⟩)] W (RowE W L2 0)) := fun W v h1 h2 hv => by
          have := Convert_any b c ps us L1 v W h1 HSYS.out h2 hu hv true ⟨fun _ => HROW.out, fun _ => rfl⟩
          rwa [if_pos rfl, if_pos rfl, ← hL2] at this
        have HPU : Hid (∀ W, SysAt W c us → Calls Try.prog 27 #[.pointer (some ⟨c, 0, none⟩)] W fun e w' => e = .returned (.agg #[.bool ub, .string ut]) ∧ Below W.heap.size W w') := fun W h => by
          rw [hub, hut]; exact Product_any c us W h
        have HCM : Hid (∀ W : World, Calls Try.prog 26 #[.agg #[.bool ub, .string ut], .agg #[.bool qb, .string qt]] W fun e w' => e = .returned (.tuple #[.int .i64 C, .int .i64 0]) ∧ Below W.heap.size W w') := fun W => by
          rw [hub, hut, HQB.out, HQT.out, hC]
          exact refCmp_z _ _ (inR_prodL hu.sep hu.2.1) (inR_prodL HSYS.out.sep HSYS.out.2.1) W
        have HC2 : Hid (¬ C < 0 → ∀ W v, SysAt W b ps → SysAt W c us → W.reads W.heap.size v (L2.map u32V) → Calls Try.prog 32 #[.pointer (some ⟨c, 0, none⟩), v, .pointer (some ⟨b, 0, none⟩)] W (RowE W L1 0)) := fun h0 W v h1 h2 hv => by
          have hle : prodL ps ≤ prodL us := by
            rw [hC] at h0
            unfold cmpZ at h0
            split at h0
            · omega
            · omega
          have := Convert_any c b us ps L2 v W h2 hu h1 HSYS.out hv true ⟨fun _ => by rw [hL2]; exact resL_row hu _, fun _ => rfl⟩
          rwa [if_pos rfl, if_pos rfl, hL2, HL1.out, back_res HSYS.out hu hle, ← HL1.out] at this
        have hCl : -9223372036854775808 ≤ C ∧ C < 9223372036854775808 := by
          rw [hC]; unfold cmpZ; split
          · omega
          · split <;> omega
        clear hu hL2 hub hut hC HROW HL1 HSYS HQB HQT HO1 HO2
        go_wp2_with fail
        (with_reducible refine (HC1.out _ _ S9.out U9.out R9.out).mono ?_)
        rintro e w10 ⟨l, rfl, hl10, hb10⟩
        have S10 := Lib.hid (S9.out.below hb10)
        have U10 := Lib.hid (U9.out.below hb10)
        have B10 := Lib.hid (below_via B9.out hb10)
        have R10 := Lib.hid ((R9.out.below hb10).mono hb10.size)
        have L10 : Hid (w10.reads w10.heap.size l (L2.map u32V)) := hl10.reads
        have hll := L10.out.le_map
        obtain ⟨la, lc, rfl, -⟩ := reads_u32 L10.out
        obtain ⟨ll, hlln⟩ : ∃ n, n = L2.length := ⟨_, rfl⟩
        rw [← hlln] at L10 hll ⊢
        clear hb10 hl10 S9 U9 B9 R9 hlln
        go_wp2_with fail
        (with_reducible refine (HPU.out _ U10.out).mono ?_)
        rintro e w11 ⟨rfl, hb11⟩
        have S11 := Lib.hid (S10.out.below hb11)
        have U11 := Lib.hid (U10.out.below hb11)
        have B11 := Lib.hid (below_via B10.out hb11)
        have R11 := Lib.hid ((R10.out.below hb11).mono hb11.size)
        have L11 := Lib.hid ((L10.out.below hb11).mono hb11.size)
        clear hb11 S10 U10 B10 R10 L10
        go_wp2_with fail
        (with_reducible refine (HP.out _ S11.out).mono ?_)
        rintro e w12 ⟨rfl, hb12⟩
        have S12 := Lib.hid (S11.out.below hb12)
        have U12 := Lib.hid (U11.out.below hb12)
        have B12 := Lib.hid (below_via B11.out hb12)
        have R12 := Lib.hid ((R11.out.below hb12).mono hb12.size)
        have L12 := Lib.hid ((L11.out.below hb12).mono hb12.size)
        clear hb12 S11 U11 B11 R11 L11
        go_wp2_with fail
        (with_reducible refine (HCM.out _).mono ?_)
        rintro e w13 ⟨rfl, hb13⟩
        have S13 := Lib.hid (S12.out.below hb13)
        have U13 := Lib.hid (U12.out.below hb13)
        have B13 := Lib.hid (below_via B12.out hb13)
        have R13 := Lib.hid ((R12.out.below hb13).mono hb13.size)
        have L13 := Lib.hid ((L12.out.below hb13).mono hb13.size)
        clear hb13 S12 U12 B12 R12 L12
        by_cases hc0 : C < 0
        · go_wp2_with fail
          (with_reducible refine (HSH.out _).mono ?_)
          rintro e w14 ⟨rfl, hb3⟩
          go_wp2
          go_ret
          exact ⟨rfl, below_via B13.out hb3⟩
        · go_wp2_with fail
          (with_reducible refine (HC2.out hc0 _ _ S13.out U13.out L13.out).mono ?_)
          rintro e w14 ⟨y, rfl, hy14, hb14⟩
          have B14 := Lib.hid (below_via B13.out hb14)
          have R14 := Lib.hid ((R13.out.below hb14).mono hb14.size)
          have Y14 : Hid (w14.reads w14.heap.size y (L1.map u32V)) := hy14.reads
          obtain ⟨ya, yc, rfl, -⟩ := reads_u32 Y14.out
          have hsame : Calls Try.prog 14 #[.slice ya L1.length yc, .slice ra ln rc] w14 (fun e w' => e = .returned (.bool true) ∧ ∃ n, w' = w14.drewN n) := by
            have := samew_any (.slice ya L1.length yc) (.slice ra ln rc) L1 L1 _ _ w14 Y14.out R14.out
            simpa using this
          have HSAME := Lib.hid hsame
          clear hsame
          obtain ⟨yl, hyl⟩ : ∃ n, n = L1.length := ⟨_, rfl⟩
          rw [← hyl] at HSAME ⊢
          clear hb14 hy14 S13 U13 B13 R13 L13 hyl Y14 R14
          go_wp2_with fail
          (with_reducible refine (HSAME.out).mono ?_)
          rintro e w15 ⟨rfl, n15, rfl⟩
          go_wp2_with fail
          (with_reducible refine (HSH.out _).mono ?_)
          rintro e w16 ⟨rfl, hb3⟩
          go_wp2
          go_ret
          exact ⟨rfl, below_via (below_drewN B14.out _) hb3⟩
end Go.Proofs.Ytnjblppapmflhaa
