/- Walks: whether two elements may be added; sums. -/
import Derived.Test.YtpcpgmgpkegjlaaGH2
import Derived.Test.YtpcpgmgpkegjlaaGF4
namespace Go.Proofs.Ytpcpgmgpkegjlaa
open Go.RowKit Go.Shelf Go.BigFrame
/-- The rows of an element, below their moduli. -/
def EltOk (n : Nat) (ml : List Nat) (rows : List (List Nat)) : Prop := rows.length = ml.length ∧ ∀ (i : Nat) (r : List Nat), rows[i]? = some r → r.length = n ∧ ∃ q, ml[i]? = some q ∧ ∀ x ∈ r, x < q
theorem modl_ok2 {N : Int} {chain : List Nat} {sp lv : Nat} {special : Bool} (hv : validB N chain sp = true) (hp : placeB chain sp (lv : Int) special = true) : ∀ q ∈ modl chain sp lv special, 3 ≤ q ∧ q ≤ 2147483647 := by
  intro q hq
  obtain ⟨i, hi, rfl⟩ := List.getElem_of_mem hq
  exact modAt_ok hv hp ⟨i, hi⟩
theorem checkB_elt {N : Int} {chain : List Nat} {sp : Nat} {level : Int} {special : Bool} {rows : List (List Nat)} (h : checkB N chain sp level special rows = true) :
    ∃ n lv : Nat, N = (n : Int) ∧ level = (lv : Int) ∧ 4 ≤ n ∧ n ≤ 32 ∧ 1 ≤ lv ∧ lv ≤ chain.length ∧ chain.length ≤ 24 ∧ (∀ q ∈ modl chain sp lv special, 3 ≤ q ∧ q ≤ 2147483647) ∧ EltOk n (modl chain sp lv special) rows := by
  unfold checkB at h
  rw [Bool.and_eq_true, Bool.and_eq_true] at h
  obtain ⟨hp, hl, hall⟩ := h
  unfold preB at hp
  rw [Bool.and_eq_true] at hp
  obtain ⟨hv, hpl⟩ := hp
  obtain ⟨lv, rfl, h1, h2⟩ := levB_nat hpl
  obtain ⟨n, rfl, hn1, hn2⟩ := sizeB_nat hv
  refine ⟨n, lv, rfl, rfl, hn1, hn2, h1, h2, (validB_len hv).2, modl_ok2 hv hpl, by simpa using hl, fun i r hr => ?_⟩
  simp only [Int.toNat_natCast] at hl hall
  have hi : i < (modl chain sp lv special).length := by
    have := (List.getElem?_eq_some_iff.1 hr).1
    rw [decide_eq_true_eq] at hl; omega
  rw [List.all_eq_true] at hall
  have := hall ⟨i, hi⟩ (List.mem_finRange _)
  unfold okRow at this
  simp only [hr, Option.any_some, Bool.and_eq_true, decide_eq_true_eq, Bool.not_eq_true'] at this
  obtain ⟨k1, k2⟩ := this
  refine ⟨by omega, _, List.getElem?_eq_getElem hi, fun x hx => ?_⟩
  unfold anyGe at k2
  rw [List.any_eq_false] at k2
  have := k2 x hx
  simp at this
  exact this
def zipRows (f : Nat → List Nat → List Nat → List Nat) (ml : List Nat) (xs ys : List (List Nat)) (k : Nat) : List (List Nat) := (List.range k).map fun i => f (ml.getD i 0) (xs.getD i []) (ys.getD i [])
theorem zipRows_succ (f : Nat → List Nat → List Nat → List Nat) (ml : List Nat) (xs ys : List (List Nat)) (k q : Nat) (a b : List Nat) (h1 : ml[k]? = some q) (h2 : xs[k]? = some a) (h3 : ys[k]? = some b) : zipRows f ml xs ys (k + 1) = zipRows f ml xs ys k ++ [f q a b] := by
  unfold zipRows
  rw [map_range_succ]
  simp only [List.getD_eq_getElem?_getD, h1, h2, h3, Option.getD_some]
theorem zipRows_length (f : Nat → List Nat → List Nat → List Nat) (ml : List Nat) (xs ys : List (List Nat)) (k : Nat) : (zipRows f ml xs ys k).length = k := by simp [zipRows]
def twoB (N : Int) (chain : List Nat) (sp : Nat) (la lb : Int) (sa sb : Bool) (xs ys : List (List Nat)) : Bool := checkB N chain sp la sa xs && checkB N chain sp lb sb ys && decide (la = lb) && decide (sa = sb)
/-- The sum of a row and a multiple of another. -/
def sumRow (k : Int) (n q : Nat) (a b : List Nat) : List Nat := (List.range n).map fun j => (a.getD j 0 + b.getD j 0 * resN q k) % q
set_option maxRecDepth 100000 in
set_option maxHeartbeats 16000000 in
theorem two_any (N pr pw wt er : Int) (cv : Value) (chain : List Nat) (sp : Nat) (la lb : Int) (sa sb : Bool) (av bv : Value) (xs ys : List (List Nat)) (w : World) (hr : w.reads w.heap.size cv (chain.map u32V)) (ha : w.rows u32V w.heap.size av xs) (hb : w.rows u32V w.heap.size bv ys) :
    Calls Try.prog 44 #[.agg #[.int .i64 N, .int .u32 pr, .int .i64 pw, cv, .int .u32 (sp : Int), .int .i64 wt, .int .u32 er], .agg #[.int .i64 la, .bool sa, av], .agg #[.int .i64 lb, .bool sb, bv]] w (OkPost (twoB N chain sp la lb sa sb xs ys) w) := by
  obtain ⟨r, hrr⟩ : ∃ r, r = twoB N chain sp la lb sa sb xs ys := ⟨_, rfl⟩
  rw [← hrr]
  unfold twoB at hrr
  have hpost : ∀ e w', e = .returned (.bool r) ∧ Below w.heap.size w w' → OkPost r w e w' := fun _ _ h => h
  have HPOST := Lib.hid hpost
  obtain ⟨a, cap, rfl, hcap, hmx, -⟩ := reads_u32 hr
  obtain ⟨aa, ac, rfl, -⟩ := ha.shape
  obtain ⟨ba, bc, rfl, -⟩ := hb.shape
  obtain ⟨W0, hW0⟩ : ∃ W0, W0 = ((w.alloc (.cells #[.int .i64 N, .int .u32 pr, .int .i64 pw, .slice a chain.length cap, .int .u32 (sp : Int), .int .i64 wt, .int .u32 er] 25)).alloc (.cells #[.int .i64 la, .bool sa, .slice aa xs.length ac] 28)).alloc (.cells #[.int .i64 lb, .bool sb, .slice ba ys.length bc] 28) := ⟨_, rfl⟩
  have hB0 : Below w.heap.size w W0 := by rw [hW0]; exact (((Below.refl _ w).alloc (Nat.le_refl _) _).alloc (by simp) _).alloc (by simp; omega) _
  have g0 : W0.heap[w.heap.size]? = some (.cells #[.int .i64 N, .int .u32 pr, .int .i64 pw, .slice a chain.length cap, .int .u32 (sp : Int), .int .i64 wt, .int .u32 er] 25) := by rw [hW0, Below.heap_alloc _ _ _ (by simp; omega), Below.heap_alloc _ _ _ (by simp)]; exact alloc_last _ _ rfl
  have e0 : W0.heap[w.heap.size + 1]? = some (.cells #[.int .i64 la, .bool sa, .slice aa xs.length ac] 28) := by rw [hW0, Below.heap_alloc _ _ _ (by simp)]; exact alloc_last _ _ (by simp)
  have e1 : W0.heap[w.heap.size + 1 + 1]? = some (.cells #[.int .i64 lb, .bool sb, .slice ba ys.length bc] 28) := by rw [hW0]; exact alloc_last _ _ (by simp)
  have hz2 := lt_of_heap e1
  have hz0 : w.heap.size + 1 < W0.heap.size := by omega
  have hz1 : w.heap.size < W0.heap.size := by omega
  have HR0 := Lib.hid ((hr.below hB0).mono hB0.size)
  have HA0 := Lib.hid ((ha.below hB0).mono hB0.size)
  have HB0 := Lib.hid ((hb.below hB0).mono hB0.size)
  have HCA := Lib.hid (rcheck_any N pr pw wt er _ chain sp la sa _ xs W0 HR0.out HA0.out)
  have HCB := Lib.hid (fun W hb => rcheck_any N pr pw wt er _ chain sp lb sb _ ys W ((HR0.out.below hb).mono (Below.size hb)) ((HB0.out.below hb).mono (Below.size hb)))
  unfold ErrPost at HCA HCB
  obtain ⟨ka, hka⟩ : ∃ k, k = checkB N chain sp la sa xs := ⟨_, rfl⟩
  obtain ⟨kb, hkb⟩ : ∃ k, k = checkB N chain sp lb sb ys := ⟨_, rfl⟩
  rw [← hka] at HCA hrr
  rw [← hkb] at HCB hrr
  have HR := Lib.hid hrr
  obtain ⟨m, hm⟩ : ∃ m, m = chain.length := ⟨_, rfl⟩
  obtain ⟨l1, hl1⟩ : ∃ m, m = xs.length := ⟨_, rfl⟩
  obtain ⟨l2, hl2⟩ : ∃ m, m = ys.length := ⟨_, rfl⟩
  rw [← hm] at hcap g0 hW0 HCA HCB ⊢
  rw [← hl1] at e0 hW0 HCA ⊢
  rw [← hl2] at e1 hW0 HCB ⊢
  obtain ⟨c0, c1, c2, c3, c4, c5, c6⟩ := par_cells g0
  obtain ⟨k0, k1, k2, -, -, -⟩ := elem_cells e0
  obtain ⟨j0, j1, j2, -, -, -⟩ := elem_cells e1
  have HG0 := Lib.hid g0
  have HE0 := Lib.hid e0
  have HE1 := Lib.hid e1
  have HW0 := Lib.hid hW0
  clear hr ha hb g0 e0 e1 hW0 hm hl1 hl2 hrr hka hkb hpost
  cases ka
  · obtain rfl : r = false := by rw [HR.out]; rfl
    go_enter Try.func44, Try.ntmps44
    go_upto_region 1 with (fail)
    rw [← HW0.out]
    go_wp2_with fail
    refine HCA.out.mono ?_
    rintro e w1 ⟨rfl, hb1⟩
    go_wp2
    go_ret
    exact HPOST.out _ _ ⟨rfl, hB0.trans (hb1.mono hB0.size)⟩
  go_enter Try.func44, Try.ntmps44
  go_upto_region 1 with (fail)
  rw [← HW0.out]
  go_wp2_with fail
  refine HCA.out.mono ?_
  rintro e w1 ⟨rfl, hb1⟩
  have hg1 := (hb1.block _ hz1).trans HG0.out
  have hf1 := (hb1.block _ hz2).trans HE1.out
  have HC1 := HCB.out w1 hb1
  have hs1 := hb1.size
  clear c0 c1 c2 c3 c4 c5 c6 k0 k1 k2 j0 j1 j2
  obtain ⟨c0, c1, c2, c3, c4, c5, c6⟩ := par_cells hg1
  obtain ⟨j0, j1, j2, -, -, -⟩ := elem_cells hf1
  clear hg1 hf1
  go_wp2_with fail
  refine HC1.mono ?_
  rintro e w2 ⟨rfl, hb2⟩
  have hB2 := hb1.trans (hb2.mono hs1)
  have hBw := hB0.trans (hB2.mono hB0.size)
  have he2 := (hB2.block _ hz0).trans HE0.out
  have hf2 := (hB2.block _ hz2).trans HE1.out
  clear c0 c1 c2 c3 c4 c5 c6 j0 j1 j2 HC1
  obtain ⟨k0, k1, k2, -, -, -⟩ := elem_cells he2
  obtain ⟨j0, j1, j2, -, -, -⟩ := elem_cells hf2
  clear he2 hf2 hb1 hb2 hB2 hB0 HCA HCB
  cases kb
  · obtain rfl : r = false := by rw [HR.out]; rfl
    go_wp2
    go_ret
    exact HPOST.out _ _ ⟨rfl, hBw⟩
  by_cases hl : la = lb
  case neg =>
    obtain rfl : r = false := by rw [HR.out]; simp [hl]
    have t1 : (la == lb) = false := by simpa using hl
    clear hl
    go_wp2
    go_ret
    exact HPOST.out _ _ ⟨rfl, hBw⟩
  subst hl
  have t1 : (la == la) = true := by simp
  by_cases hs : sa = sb
  case neg =>
    obtain rfl : r = false := by rw [HR.out]; simp [hs]
    have t2 : (sa == sb) = false := by rw [beq_eq_false_iff_ne]; exact hs
    clear hs
    go_wp2
    go_ret
    exact HPOST.out _ _ ⟨rfl, hBw⟩
  subst hs
  obtain rfl : r = true := by rw [HR.out]; simp
  have t2 : (sa == sa) = true := by simp
  go_wp2
  go_ret
  exact HPOST.out _ _ ⟨rfl, hBw⟩
end Go.Proofs.Ytpcpgmgpkegjlaa
