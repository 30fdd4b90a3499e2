/- Walks: the law ResidueSplits. -/
import Derived.Test.YtnjblppapmflhaaPK8
namespace Go.Proofs.Ytnjblppapmflhaa
set_option linter.all false
open Go.RowKit Go.Shelf Go.WideNum PN
set_option maxRecDepth 100000 in
set_option maxHeartbeats 16000000 in
theorem splits_law (ps us rs : List Nat) (pv uv rv : Value) (nx : Bool) (sx : ByteArray) (hsx : sx.size ≤ maxLen) (w : World) (hr : w.reads w.heap.size pv (ps.map u32V)) (hpb : ∀ q ∈ ps, q < 4294967296) (hr1 : w.reads w.heap.size uv (us.map u32V)) (hub : ∀ q ∈ us, q < 4294967296) (hr2 : w.reads w.heap.size rv (rs.map u32V)) :
    Calls Try.prog 5 #[.agg #[pv, uv, rv, .bool nx, .string sx]] w fun e w' => e = .returned (.bool true) ∧ Below w.heap.size w w' := by
  have HSH := Lib.hid shown_any
  obtain ⟨ok1, hok1⟩ := em_bool (SysP ps)
  obtain ⟨ok2, hok2⟩ := em_bool (SysP us)
  obtain ⟨ok3, hok3⟩ := em_bool (RowP ps rs)
  have HB1 : Hid (∀ W, Below w.heap.size w W → Calls Try.prog 10 #[pv] W (BothRet W ps ok1)) := fun W hb => both_any ps pv W ((hr.below hb).mono hb.size) hpb ok1 hok1
  have HB2 : Hid (∀ W, Below w.heap.size w W → Calls Try.prog 10 #[uv] W (BothRet W us ok2)) := fun W hb => both_any us uv W ((hr1.below hb).mono hb.size) hub ok2 hok2
  have HO1 := Lib.hid hok1
  have HO2 := Lib.hid hok2
  have HO3 := Lib.hid hok3
  have R := Lib.hid hr2
  have hl1 := hr.le_map
  have hl2 := hr1.le_map
  have hl3 := hr2.le_map
  obtain ⟨pa, pc, rfl, -⟩ := reads_u32 hr
  obtain ⟨ua, uc, rfl, -⟩ := reads_u32 hr1
  obtain ⟨ra, rc, rfl, -⟩ := reads_u32 hr2
  obtain ⟨m, hm⟩ : ∃ m, m = ps.length := ⟨_, rfl⟩
  obtain ⟨n, hn⟩ : ∃ m, m = us.length := ⟨_, rfl⟩
  obtain ⟨k, hk⟩ : ∃ k, k = rs.length := ⟨_, rfl⟩
  rw [← hm] at HB1 hl1 ⊢
  rw [← hn] at HB2 hl2 ⊢
  rw [← hk] at R hl3 ⊢
  have HK := Lib.hid hk
  clear hok1 hok2 hok3 hr hr1 hr2 hpb hub hm hn hk
  obtain ⟨sz, hz⟩ : ∃ z, z = sx.size := ⟨_, rfl⟩
  go_enter Try.func5, Try.ntmps5
  go_upto_region 1 with (fail)
  have hb : Below w.heap.size w (w.alloc (.cells #[.slice pa m pc, .slice ua n uc, .slice ra k rc, .bool nx, .string sx] 55)) := (Below.refl _ _).alloc (Nat.le_refl _) _
  have hg : (w.alloc (.cells #[.slice pa m pc, .slice ua n uc, .slice ra k rc, .bool nx, .string sx] 55)).heap[w.heap.size]? = some (.cells #[.slice pa m pc, .slice ua n uc, .slice ra k rc, .bool nx, .string sx] 55) := heap_alloc_new w _
  obtain ⟨g, hgd⟩ : ∃ z, z = w.heap.size := ⟨_, rfl⟩
  rw [← hgd] at hg ⊢
  generalize w.alloc (.cells #[.slice pa m pc, .slice ua n uc, .slice ra k rc, .bool nx, .string sx] 55) = wb at hb hg ⊢
  have B0 := Lib.hid hb
  have hS0 : ∀ W, Below wb.heap.size wb W → W.cell? ⟨g, 0, none⟩ = some (.slice pa m pc) ∧ W.cell? ⟨g, 1, none⟩ = some (.slice ua n uc) ∧ W.cell? ⟨g, 2, none⟩ = some (.slice ra k rc) ∧ W.cell? ⟨g, 3, none⟩ = some (.bool nx) ∧ W.cell? ⟨g, 4, none⟩ = some (.string sx) := fun W hb => by
    have h := hold_heap (w := wb) hg hb
    exact ⟨by rw [cell_of_row W g 0 _ _ (0, 0) h]; rfl, by rw [cell_of_row W g 1 _ _ (0, 0) h]; rfl, by rw [cell_of_row W g 2 _ _ (0, 0) h]; rfl, by rw [cell_of_row W g 3 _ _ (0, 0) h]; rfl, by rw [cell_of_row W g 4 _ _ (0, 0) h]; rfl⟩
  clear hb hg hgd
  refine wp_region_A wb.heap.size (fun W => W.cell? ⟨g, 0, none⟩ = some (.slice pa m pc) ∧ W.cell? ⟨g, 1, none⟩ = some (.slice ua n uc) ∧ W.cell? ⟨g, 2, none⟩ = some (.slice ra k rc) ∧ W.cell? ⟨g, 3, none⟩ = some (.bool nx) ∧ W.cell? ⟨g, 4, none⟩ = some (.string sx)) (fun W => Below wb.heap.size wb W) (fun j => decide (12 ≤ j)) (by kernel_rfl) (by kernel_rfl) (fact_below (Nat.le_refl _) hS0) ((Below.refl _ _).drew) (fun hF => ?_)
  refine wpAnyA_alloc 8 (.cells #[.bool false, .string ⟨#[]⟩] 38) (by kernel_rfl) rfl rfl (by kernel_rfl) (by kernel_rfl) (fun _ => rfl) (fun _ _ => rfl) (fun _ _ _ _ h => h) hF ?_
  try simp only [Act.put, List.setIfInBounds_toArray, List.set_cons_zero, List.set_cons_succ]
  refine wpAnyA_take 0 (v := ?_) (by kernel_rfl) rfl rfl (by kernel_rfl) (by kernel_rfl) (fun _ _ _ h => h) (Or.inl ⟨by rfl, ?_⟩) (by assumption) ?_
  rotate_left
  · (intro wq hSq; (try dsimp only at hSq); go_simp; try with_reducible rfl)
  try simp only [Act.put, List.setIfInBounds_toArray, List.set_cons_zero, List.set_cons_succ]
  refine wpAnyA_take 1 (v := ?_) (by kernel_rfl) rfl rfl (by kernel_rfl) (by kernel_rfl) (fun _ _ _ h => h) (Or.inl ⟨by rfl, ?_⟩) (by assumption) ?_
  rotate_left
  · (intro wq hSq; (try dsimp only at hSq); go_simp; try with_reducible rfl)
  try simp only [Act.put, List.setIfInBounds_toArray, List.set_cons_zero, List.set_cons_succ]
  refine wpAnyA_take 2 (v := ?_) (by kernel_rfl) rfl rfl (by kernel_rfl) (by kernel_rfl) (fun _ _ _ h => h) (Or.inl ⟨by rfl, ?_⟩) (by assumption) ?_
  rotate_left
  · (intro wq hSq; (try dsimp only at hSq); go_simp; try with_reducible rfl)
  try simp only [Act.put, List.setIfInBounds_toArray, List.set_cons_zero, List.set_cons_succ]
  refine wpAnyA_take 3 (v := ?_) (by kernel_rfl) rfl rfl (by kernel_rfl) (by kernel_rfl) (fun _ _ _ h => h) (Or.inl ⟨by rfl, ?_⟩) (by assumption) ?_
  rotate_left
  · (intro wq hSq; (try dsimp only at hSq); go_simp; try with_reducible rfl)
  try simp only [Act.put, List.setIfInBounds_toArray, List.set_cons_zero, List.set_cons_succ]
  refine wpAnyA_take 4 (v := ?_) (by kernel_rfl) rfl rfl (by kernel_rfl) (by kernel_rfl) (fun _ _ _ h => h) (Or.inl ⟨by rfl, ?_⟩) (by assumption) ?_
  rotate_left
  · (intro wq hSq; (try dsimp only at hSq); go_simp; try with_reducible rfl)
  try simp only [Act.put, List.setIfInBounds_toArray, List.set_cons_zero, List.set_cons_succ]
  refine wpAnyA_take 5 (v := ?_) (by kernel_rfl) rfl rfl (by kernel_rfl) (by kernel_rfl) (fun _ _ _ h => h) (Or.inl ⟨by rfl, ?_⟩) (by assumption) ?_
  rotate_left
  · (intro wq hSq; (try dsimp only at hSq); go_simp; try with_reducible rfl)
  try simp only [Act.put, List.setIfInBounds_toArray, List.set_cons_zero, List.set_cons_succ]
  refine wpAnyA_take 6 (v := ?_) (by kernel_rfl) rfl rfl (by kernel_rfl) (by kernel_rfl) (fun _ _ _ h => h) (Or.inl ⟨by rfl, ?_⟩) (by assumption) ?_
  rotate_left
  · (intro wq hSq; (try dsimp only at hSq); go_simp; try with_reducible rfl)
  try simp only [Act.put, List.setIfInBounds_toArray, List.set_cons_zero, List.set_cons_succ]
  refine wpAnyA_take 7 (v := ?_) (by kernel_rfl) rfl rfl (by kernel_rfl) (by kernel_rfl) (fun _ _ _ h => h) (Or.inl ⟨by rfl, ?_⟩) (by assumption) ?_
  rotate_left
  · (intro wq hSq; (try dsimp only at hSq); go_simp; try with_reducible rfl)
  try simp only [Act.put, List.setIfInBounds_toArray, List.set_cons_zero, List.set_cons_succ]
  refine wpAnyA_take 9 (v := ?_) (by kernel_rfl) rfl rfl (by kernel_rfl) (by kernel_rfl) (fun _ _ _ h => h) (Or.inl ⟨by rfl, ?_⟩) (by assumption) ?_
  rotate_left
  · (intro wq hSq; (try dsimp only at hSq); go_simp; try with_reducible rfl)
  try simp only [Act.put, List.setIfInBounds_toArray, List.set_cons_zero, List.set_cons_succ]
  refine wpAnyA_take 10 (v := ?_) (by kernel_rfl) rfl rfl (by kernel_rfl) (by kernel_rfl) (fun _ _ _ h => h) (Or.inl ⟨by rfl, ?_⟩) (by assumption) ?_
  rotate_left
  · (intro wq hSq; (try dsimp only at hSq); go_simp; try with_reducible rfl)
  try simp only [Act.put, List.setIfInBounds_toArray, List.set_cons_zero, List.set_cons_succ]
  refine wpAnyA_take 11 (v := ?_) (by kernel_rfl) rfl rfl (by kernel_rfl) (by kernel_rfl) (fun _ _ _ h => h) (Or.inl ⟨by rfl, ?_⟩) (by assumption) ?_
  rotate_left
  · (intro wq hSq; (try dsimp only at hSq); go_simp; try with_reducible rfl)
  try simp only [Act.put, List.setIfInBounds_toArray, List.set_cons_zero, List.set_cons_succ]
  refine wpAnyA_end (by kernel_rfl) (fun x0 (hFx : Below wb.heap.size wb x0) => ?_)
  intro q hq hq7
  have hd0 := hFx
  clear hF hS0 hFx
  refine wpAny_of_D (S := fun _ => True) (late := fun _ => true) _ _ _ _ ?_
  obtain ⟨e0, e1, ef⟩ := wide_cells hq7
  have ef0 := ef 0
  have ef1 := ef 1
  refine wpAnyD_step 12 (by kernel_rfl) rfl rfl (fun K hK => ?_)
  go_simp
  refine hK.out _ _ ?_
  clear hK K e0 e1 ef ef0 ef1
  try simp only [Act.put, List.setIfInBounds_toArray, List.set_cons_zero, List.set_cons_succ]
  have m0 := wide_set hq7 nx sx
  replace hd0 : Below wb.heap.size wb ((x0.setCell ⟨q, 0, none⟩ (.bool nx)).setCell ⟨q, 1, none⟩ (.string sx)) := (hd0.setCell hq _).setCell hq _
  clear hq7 hq
  generalize (x0.setCell ⟨q, 0, none⟩ (.bool nx)).setCell ⟨q, 1, none⟩ (.string sx) = x1 at m0 hd0 ⊢
  refine wpAnyD_end (by kernel_rfl) ?_
  have B := bH B0 hd0
  replace R := rH R B.out
  have X := Lib.hid m0
  clear B0 m0 hd0
  obtain ⟨x0, x1, -⟩ := wide_cells X.out
  by_cases h1 : 40 < m
  · have t1 : (40 : Int) < (m : Int) := by omega
    clear h1 hz
    go_wp2_with fail
    (with_reducible refine (HSH.out _).mono ?_)
    rintro e wz ⟨rfl, hb⟩
    go_wp2
    go_ret
    exact ⟨rfl, below_via B.out hb⟩
  have t1 : ¬ (40 : Int) < (m : Int) := by omega
  clear h1
  by_cases h1 : 40 < n
  · have t2 : (40 : Int) < (n : Int) := by omega
    clear h1 hz
    go_wp2_with fail
    (with_reducible refine (HSH.out _).mono ?_)
    rintro e wz ⟨rfl, hb⟩
    go_wp2
    go_ret
    exact ⟨rfl, below_via B.out hb⟩
  have t2 : ¬ (40 : Int) < (n : Int) := by omega
  clear h1
  by_cases h1 : 60 < k
  · have t3 : (60 : Int) < (k : Int) := by omega
    clear h1 hz
    go_wp2_with fail
    (with_reducible refine (HSH.out _).mono ?_)
    rintro e wz ⟨rfl, hb⟩
    go_wp2
    go_ret
    exact ⟨rfl, below_via B.out hb⟩
  have t3 : ¬ (60 : Int) < (k : Int) := by omega
  have hk6 : rs.length ≤ 1000 := by have := HK.out; omega
  have HK6 := Lib.hid hk6
  clear hk6
  clear h1
  by_cases h1 : 300 < sz
  · have t4 : (300 : Int) < (sx.size : Int) := by omega
    clear h1 hz
    go_wp2_with fail
    (with_reducible refine (HSH.out _).mono ?_)
    rintro e wz ⟨rfl, hb⟩
    go_wp2
    go_ret
    exact ⟨rfl, below_via B.out hb⟩
  have t4 : ¬ (300 : Int) < (sx.size : Int) := by omega
  clear h1
  clear hz
  go_wp2_with fail
  (with_reducible refine (HB1.out _ B.out).mono ?_)
  cases ok1 with
  | false =>
    rintro e v1 ⟨hb, he⟩
    subst he
    replace B := bH B hb
    clear hb x0 x1 t1 t2 t3 t4
    go_wp2_with fail
    (with_reducible refine (HB2.out _ B.out).mono ?_)
    cases ok2 with
    | false =>
      rintro e v2 ⟨hb, he⟩
      subst he
      replace B := bH B hb
      clear hb
      go_wp2_with fail
      (with_reducible refine (HSH.out _).mono ?_)
      rintro e wz ⟨rfl, hb⟩
      go_wp2
      go_ret
      exact ⟨rfl, below_via B.out hb⟩
    | true =>
      rintro e v2 ⟨hb, b, c, he, hs, hu⟩
      subst he
      replace B := bH B hb
      clear hb hs hu
      go_wp2_with fail
      (with_reducible refine (HSH.out _).mono ?_)
      rintro e wz ⟨rfl, hb⟩
      go_wp2
      go_ret
      exact ⟨rfl, below_via B.out hb⟩
  | true =>
  rintro e v1 ⟨hb, b, c, he, hs, hu⟩
  subst he
  have S0 := Lib.hid hs
  have U0 := Lib.hid hu
  replace B := bH B hb
  replace R := rH R hb
  replace X := wH X hb
  have S := S0
  have U := U0
  clear hb hs hu S0 U0 x0 x1 t1 t2 t3 t4
  go_wp2_with fail
  (with_reducible refine (HB2.out _ B.out).mono ?_)
  cases ok2 with
  | false =>
    rintro e v2 ⟨hb, he⟩
    subst he
    replace B := bH B hb
    clear hb
    go_wp2_with fail
    (with_reducible refine (HSH.out _).mono ?_)
    rintro e wz ⟨rfl, hb⟩
    go_wp2
    go_ret
    exact ⟨rfl, below_via B.out hb⟩
  | true =>
  rintro e v2 ⟨hb, b2, c2, he, hs, hu⟩
  subst he
  have S0 := Lib.hid hs
  have U0 := Lib.hid hu
  replace B := bH B hb
  replace R := rH R hb
  replace X := wH X hb
  replace S := sH S hb
  replace U := uH U hb
  have T := S0
  have V := U0
  clear hb hs hu S0 U0
  have h1 : SysP ps := by first | exact HO1.out.1 rfl | exact HO1.out.1 trivial
  have h2 : SysP us := by first | exact HO2.out.1 rfl | exact HO2.out.1 trivial
  obtain ⟨L1, hL1⟩ : ∃ L, L = (splitF ps nx sx).1 := ⟨_, rfl⟩
  obtain ⟨e1, he1⟩ : ∃ L, L = (splitF ps nx sx).2 := ⟨_, rfl⟩
  obtain ⟨J, hJ⟩ : ∃ L, L = (if ok3 then joinZ ps rs else 0) := ⟨_, rfl⟩
  obtain ⟨e2, he2⟩ : ∃ L : Int, L = (if ok3 then 0 else 2) := ⟨_, rfl⟩
  obtain ⟨L2, hL2⟩ : ∃ L, L = (if ok3 then resL us (joinZ ps rs) else []) := ⟨_, rfl⟩
  have HS1 : Hid (∀ W, SysAt W b ps → Calls Try.prog 20 #[.pointer (some ⟨b, 0, none⟩), .agg #[.bool nx, .string sx]] W (RowE W L1 e1)) := fun W h => by rw [hL1, he1]; exact Split_any b ps nx sx hsx W h h1
  have HS2 : Hid (∀ W, RefAt W c ps → Calls Try.prog 30 #[.pointer (some ⟨c, 0, none⟩), .agg #[.bool nx, .string sx]] W (RowE W L1 e1)) := fun W h => by
    rw [hL1, he1]
    exact refSplit_any c ps nx sx hsx W h.pr (fun p hp => ⟨(h1.sep.mem hp).1.pos, by have := (h1.sep.mem hp).2.2; omega⟩) (by have := h1.2.1; omega)
  have HJ1 : Hid (∀ W v, SysAt W b ps → W.reads W.heap.size v (rs.map u32V) → Calls Try.prog 21 #[.pointer (some ⟨b, 0, none⟩), v] W (FormE W J e2)) := fun W v h hv => by rw [hJ, he2]; exact Join_any b ps rs v W h h1 hv ok3 HO3.out
  have HJ2 : Hid (∀ W v, RefAt W c ps → W.reads W.heap.size v (rs.map u32V) → Calls Try.prog 31 #[.pointer (some ⟨c, 0, none⟩), v] W (FormE W J e2)) := fun W v h hv => by rw [hJ, he2]; exact refJoin_any c ps rs v W h h1 hv ok3 HO3.out
  have HC1 : Hid (∀ W v, SysAt W b ps → SysAt W b2 us → W.reads W.heap.size v (rs.map u32V) → Calls Try.prog 32 #[.pointer (some ⟨b, 0, none⟩), v, .pointer (some ⟨b2, 0, none⟩)] W (RowE W L2 e2)) := fun W v h k hv => by rw [hL2, he2]; exact Convert_any b b2 ps us rs v W h h1 k h2 hv ok3 HO3.out
  have HC2 : Hid (∀ W v, RefAt W c ps → RefAt W c2 us → W.reads W.heap.size v (rs.map u32V) → Calls Try.prog 33 #[.pointer (some ⟨c, 0, none⟩), v, .pointer (some ⟨c2, 0, none⟩)] W (RowE W L2 e2)) := fun W v h k hv => by
    rw [hL2, he2]
    obtain ⟨a3, k3, r3, -⟩ := id hv
    exact refConvert_of c c2 ps us rs v W h1 k h2 ⟨_, _, _, r3⟩ ok3 (refJoin_any c ps rs v W h h1 hv ok3 HO3.out)
  obtain ⟨jb, hjb⟩ : ∃ z, z = zN J := ⟨_, rfl⟩
  obtain ⟨jt, hjt⟩ : ∃ z, z = zT J := ⟨_, rfl⟩
  unfold FormE at HJ1 HJ2
  rw [← hjb, ← hjt] at HJ1 HJ2
  clear h1 h2 hL1 he1 hJ he2 hL2 hjb hjt
  obtain ⟨x0, x1, -⟩ := wide_cells X.out
  go_wp2_with fail
  (with_reducible refine (HS1.out _ S.out).mono ?_)
  rintro e v1 ⟨v, rfl, ho, hb⟩
  have A0 := Lib.hid ho.reads
  obtain ⟨ya, yc, rfl, -⟩ := ho.at_
  replace B := bH B hb
  replace R := rH R hb
  replace X := wH X hb
  replace S := sH S hb
  replace U := uH U hb
  replace T := sH T hb
  replace V := uH V hb
  have A := A0
  clear ho hb A0
  clear x0 x1
  obtain ⟨x0, x1, -⟩ := wide_cells X.out
  go_wp2_with fail
  (with_reducible refine (HS2.out _ U.out).mono ?_)
  rintro e v2 ⟨v, rfl, ho, hb⟩
  have C0 := Lib.hid ho.reads
  obtain ⟨za, zc, rfl, -⟩ := ho.at_
  replace B := bH B hb
  replace R := rH R hb
  replace X := wH X hb
  replace S := sH S hb
  replace U := uH U hb
  replace T := sH T hb
  replace V := uH V hb
  replace A := rH A hb
  have C := C0
  clear ho hb C0
  clear x0 x1
  clear X
  go_wp2_with fail
  (with_reducible refine (same_b _ _ L1 _ A.out C.out).mono ?_)
  rintro e v3 ⟨rfl, hb⟩
  replace B := bH B hb
  replace R := rH R hb
  replace S := sH S hb
  replace U := uH U hb
  replace T := sH T hb
  replace V := uH V hb
  replace A := rH A hb
  replace C := rH C hb
  clear hb
  clear A C
  go_wp2_with fail
  (with_reducible refine (Lend_any rs _ HK6.out _ R.out).mono ?_)
  rintro e v4 ⟨own, rfl, hl, hb⟩
  have LE0 := Lib.hid hl
  have O0 := Lib.hid (hl.reads)
  obtain ⟨oa, on, oc, rfl⟩ := hl.slice
  replace B := bH B hb
  replace R := rH R hb
  replace S := sH S hb
  replace U := uH U hb
  replace T := sH T hb
  replace V := uH V hb
  clear hb hl
  have LE := LE0
  have O := O0
  clear LE0 O0
  go_wp2_with fail
  (with_reducible refine (HJ1.out _ _ S.out O.out).mono ?_)
  rintro e v5 ⟨rfl, hb⟩
  replace B := bH B hb
  replace R := rH R hb
  replace S := sH S hb
  replace U := uH U hb
  replace T := sH T hb
  replace V := uH V hb
  replace LE := lH LE hb
  replace O := rH O hb
  clear hb
  go_upto_region 14 with (fail)
  obtain ⟨hb, hg⟩ := wide_box v5 jb jt
  obtain ⟨pY, hp⟩ : ∃ z, z = v5.heap.size := ⟨_, rfl⟩
  rw [← hp] at hg ⊢
  generalize v5.alloc (.cells #[.bool jb, .string jt] 38) = v6 at hb hg ⊢
  replace B := bH B hb
  replace R := rH R hb
  replace S := sH S hb
  replace U := uH U hb
  replace T := sH T hb
  replace V := uH V hb
  replace LE := lH LE hb
  replace O := rH O hb
  have Y := Lib.hid hg
  clear hb hg hp
  go_wp2_with fail
  (with_reducible refine (HJ2.out _ _ U.out R.out).mono ?_)
  rintro e v7 ⟨rfl, hb⟩
  replace B := bH B hb
  replace R := rH R hb
  replace S := sH S hb
  replace U := uH U hb
  replace T := sH T hb
  replace V := uH V hb
  replace LE := lH LE hb
  replace O := rH O hb
  replace Y := wH Y hb
  clear hb
  go_upto_region 15 with (fail)
  obtain ⟨hb, hg⟩ := wide_box v7 jb jt
  obtain ⟨pZ, hp⟩ : ∃ z, z = v7.heap.size := ⟨_, rfl⟩
  rw [← hp] at hg ⊢
  generalize v7.alloc (.cells #[.bool jb, .string jt] 38) = v8 at hb hg ⊢
  replace B := bH B hb
  replace R := rH R hb
  replace S := sH S hb
  replace U := uH U hb
  replace T := sH T hb
  replace V := uH V hb
  replace LE := lH LE hb
  replace O := rH O hb
  replace Y := wH Y hb
  have Z := Lib.hid hg
  clear hb hg hp
  obtain ⟨y0, y1, -⟩ := wide_cells Y.out
  obtain ⟨z0, z1, -⟩ := wide_cells Z.out
  go_wp2_with fail
  (with_reducible refine (kept_b rs _ _ HK6.out _ R.out LE.out).mono ?_)
  rintro e v9 ⟨rfl, hb⟩
  replace B := bH B hb
  replace R := rH R hb
  replace S := sH S hb
  replace U := uH U hb
  replace T := sH T hb
  replace V := uH V hb
  replace LE := lH LE hb
  replace O := rH O hb
  replace Y := wH Y hb
  replace Z := wH Z hb
  clear hb
  clear y0 y1 z0 z1
  clear Y Z
  go_wp2_with fail
  (with_reducible refine (HC1.out _ _ S.out T.out O.out).mono ?_)
  rintro e v10 ⟨v, rfl, ho, hb⟩
  have A0 := Lib.hid ho.reads
  obtain ⟨ga, gc, rfl, -⟩ := ho.at_
  replace B := bH B hb
  replace R := rH R hb
  replace S := sH S hb
  replace U := uH U hb
  replace T := sH T hb
  replace V := uH V hb
  replace LE := lH LE hb
  replace O := rH O hb
  have A := A0
  clear ho hb A0
  clear S T O
  go_wp2_with fail
  (with_reducible refine (HC2.out _ _ U.out V.out R.out).mono ?_)
  rintro e v11 ⟨v, rfl, ho, hb⟩
  have C0 := Lib.hid ho.reads
  obtain ⟨ha, hc, rfl, -⟩ := ho.at_
  replace B := bH B hb
  replace R := rH R hb
  replace U := uH U hb
  replace V := uH V hb
  replace LE := lH LE hb
  replace A := rH A hb
  have C := C0
  clear ho hb C0
  clear U V
  go_wp2_with fail
  (with_reducible refine (same_b _ _ L2 _ A.out C.out).mono ?_)
  rintro e v12 ⟨rfl, hb⟩
  replace B := bH B hb
  replace R := rH R hb
  replace LE := lH LE hb
  replace A := rH A hb
  replace C := rH C hb
  clear hb
  clear A C
  go_wp2_with fail
  (with_reducible refine (kept_b rs _ _ HK6.out _ R.out LE.out).mono ?_)
  rintro e v13 ⟨rfl, hb⟩
  replace B := bH B hb
  replace R := rH R hb
  replace LE := lH LE hb
  clear hb
  clear R LE
  go_wp2_with fail
  (with_reducible refine (HSH.out _).mono ?_)
  rintro e v14 ⟨rfl, hb⟩
  replace B := bH B hb
  clear hb
  go_wp2
  go_ret
  exact ⟨rfl, B.out⟩
end Go.Proofs.Ytnjblppapmflhaa
