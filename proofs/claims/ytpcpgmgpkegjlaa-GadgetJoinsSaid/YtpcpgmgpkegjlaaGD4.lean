/- Walks: the digits of an element, or the error. -/
import Derived.Test.YtpcpgmgpkegjlaaGD3
namespace Go.Proofs.Ytpcpgmgpkegjlaa
open Go.RowKit Go.Shelf Go.BigFrame
theorem checkB_parts {N : Int} {chain : List Nat} {sp : Nat} {level : Int} {rows : List (List Nat)} (h : checkB N chain sp level false rows = true) :
    ∃ n lv : Nat, N = (n : Int) ∧ level = (lv : Int) ∧ 4 ≤ n ∧ n ≤ 32 ∧ 1 ≤ lv ∧ lv ≤ chain.length ∧ rows.length = lv ∧ RowsOk n chain rows := by
  unfold checkB at h
  rw [Bool.and_eq_true, Bool.and_eq_true] at h
  obtain ⟨hp, hl, hall⟩ := h
  unfold preB at hp
  rw [Bool.and_eq_true] at hp
  obtain ⟨hv, hpl⟩ := hp
  obtain ⟨lv, rfl, h1, h2⟩ := levB_nat hpl
  have hN : N = 4 ∨ N = 8 ∨ N = 16 ∨ N = 32 := by
    unfold validB at hv
    rw [Bool.and_eq_true, Bool.and_eq_true] at hv
    have := hv.1.1
    unfold sizeB at this
    simp only [Bool.or_eq_true, beq_iff_eq] at this
    omega
  have hml := modl_length chain sp ((lv : Int)).toNat false (by simpa using h2)
  have hrl : rows.length = lv := by
    rw [decide_eq_true_eq, hml] at hl; simpa using hl
  refine ⟨N.toNat, lv, by omega, rfl, by omega, by omega, h1, h2, hrl, fun i r hr => ?_⟩
  have hi : i < lv := by rw [← hrl]; exact (List.getElem?_eq_some_iff.1 hr).1
  have hml' : i < (modl chain sp ((lv : Int)).toNat false).length := by rw [hml]; simp; omega
  rw [List.all_eq_true] at hall
  have := hall ⟨i, hml'⟩ (List.mem_finRange _)
  unfold okRow at this
  simp only [hr, Option.any_some, Bool.and_eq_true, decide_eq_true_eq, Bool.not_eq_true'] at this
  obtain ⟨k1, k2⟩ := this
  have hq : chain[i]? = some ((modl chain sp ((lv : Int)).toNat false)[i]) := by
    have : (modl chain sp ((lv : Int)).toNat false)[i]? = some ((modl chain sp ((lv : Int)).toNat false)[i]) := List.getElem?_eq_getElem hml'
    rw [← this]
    unfold modl
    simp only [Int.toNat_natCast, Bool.false_eq_true, if_false, List.append_nil]
    rw [List.getElem?_take, if_pos hi]
  refine ⟨by omega, _, hq, fun x hx => ?_⟩
  unfold anyGe at k2
  rw [List.any_eq_false] at k2
  have := k2 x hx
  simp at this
  exact this
def digB (N : Int) (chain : List Nat) (sp : Nat) (width level : Int) (special : Bool) (rows : List (List Nat)) : Bool := madeB N chain sp width && levB chain.length level && !special && checkB N chain sp level special rows
def digRows (N : Int) (chain : List Nat) (width level : Int) (rows : List (List Nat)) : List (List Int) := digL (2 ^ (width - 1).toNat) (partsI width).toNat N.toNat chain rows (level.toNat * (partsI width).toNat)
def DigPost (N : Int) (chain : List Nat) (sp : Nat) (width level : Int) (special : Bool) (rows : List (List Nat)) (w : World) (e : Ending) (w' : World) : Prop :=
  (if digB N chain sp width level special rows then ∃ v, e = .returned (.tuple #[v, .int .i64 0]) ∧ w'.rows i64V w'.heap.size v (digRows N chain width level rows)
    else e = .returned (.tuple #[.slice none 0 0, .int .i64 2])) ∧ Below w.heap.size w w'
set_option maxRecDepth 100000 in
set_option maxHeartbeats 8000000 in
theorem Digits_err (N pr pw wt er : Int) (cv : Value) (chain : List Nat) (sp : Nat) (width level : Int) (special : Bool) (rv : Value) (rows : List (List Nat)) (w : World) (hr : w.reads w.heap.size cv (chain.map u32V)) (hrow : w.rows u32V w.heap.size rv rows) (hcb : ∀ q ∈ chain, q < 4294967296)
    (hbad : digB N chain sp width level special rows = false) :
    Calls Try.prog 11 #[.agg #[.int .i64 N, .int .u32 pr, .int .i64 pw, cv, .int .u32 (sp : Int), .int .i64 wt, .int .u32 er], .int .i64 width, .agg #[.int .i64 level, .bool special, rv]] w
      fun e w' => e = .returned (.tuple #[.slice none 0 0, .int .i64 2]) ∧ Below w.heap.size w w' := by
  obtain ⟨W0, hW0⟩ : ∃ W0, W0 = ((w.alloc (.cells #[.int .i64 N, .int .u32 pr, .int .i64 pw, cv, .int .u32 (sp : Int), .int .i64 wt, .int .u32 er] 25)).alloc (.cells #[.int .i64 level, .bool special, rv] 28)) := ⟨_, rfl⟩
  have hB0 : Below w.heap.size w W0 := by rw [hW0]; exact ((Below.refl _ w).alloc (Nat.le_refl _) _).alloc (by simp) _
  have hp0 : W0.heap[w.heap.size]? = some (.cells #[.int .i64 N, .int .u32 pr, .int .i64 pw, cv, .int .u32 (sp : Int), .int .i64 wt, .int .u32 er] 25) := by
    rw [hW0, Below.heap_alloc _ _ _ (by simp)]; exact alloc_last _ _ rfl
  have ha0 : W0.heap[w.heap.size + 1]? = some (.cells #[.int .i64 level, .bool special, rv] 28) := by
    rw [hW0]; exact alloc_last _ _ (by simp)
  have hz0 := lt_of_heap ha0
  have hr0 := (hr.below hB0).mono hB0.size
  have hrow0 := (hrow.below hB0).mono hB0.size
  have HA := Lib.hid (asked_level N pr pw wt er cv chain sp width level w.heap.size W0 hr0 hcb hp0)
  have HC := Lib.hid (fun W h1 h2 => Check_any N pr pw wt er cv chain sp level special rv rows W h1 h2)
  unfold AskedPost at HA
  have HR0 := Lib.hid hr0
  have HROW0 := Lib.hid hrow0
  have HP0 := Lib.hid hp0
  have HA0 := Lib.hid ha0
  have HW0 := Lib.hid hW0
  have HBAD := Lib.hid hbad
  clear hr hrow hr0 hrow0 hcb hp0 ha0 hW0 hbad
  obtain ⟨mb, hmb⟩ : ∃ mb, mb = madeB N chain sp width := ⟨_, rfl⟩
  rw [← hmb] at HA
  have HMB := Lib.hid hmb
  clear hmb
  obtain ⟨lb, hlb⟩ : ∃ lb, lb = levB chain.length level := ⟨_, rfl⟩
  rw [← hlb] at HA
  have HLB := Lib.hid hlb
  clear hlb
  cases mb
  · go_enter Try.func11, Try.ntmps11
    go_wp2_with fail
    rw [← HW0.out]
    refine HA.out.mono ?_
    rintro e w1 ⟨h, hb⟩
    obtain rfl : e = _ := h
    go_wp2
    go_ret2
    have hB1 := hB0.trans (hb.mono hB0.size)
    exact ⟨rfl, hB1.alloc hB1.size _⟩
  · go_enter Try.func11, Try.ntmps11
    go_wp2_with fail
    rw [← HW0.out]
    refine HA.out.mono ?_
    rintro e w1 ⟨h, hb⟩
    rw [if_pos trivial] at h
    obtain ⟨b, rfl, hwb, hcut⟩ := h
    have hB1 := hB0.trans (hb.mono hB0.size)
    have hs1 := hB1.size
    have hs1' := hb.size
    clear hcut
    cases lb
    · go_wp2
      go_ret2
      exact ⟨rfl, hB1.alloc hs1 _⟩
    · have ha1 := (hb.block _ hz0).trans HA0.out
      have hp1 := (hb.block _ (lt_of_heap HP0.out)).trans HP0.out
      have a0 : w1.cell? ⟨w.heap.size + 1, 0, none⟩ = some (.int .i64 level) := by simp [World.cell?, ha1]
      have a1 : w1.cell? ⟨w.heap.size + 1, 1, none⟩ = some (.bool special) := by simp [World.cell?, ha1]
      have a2 : w1.cell? ⟨w.heap.size + 1, 2, none⟩ = some rv := by simp [World.cell?, ha1]
      obtain ⟨c0, c1, c2, c3, c4, c5, c6⟩ := par_cells hp1
      have l1 : w.heap.size < w1.heap.size := by omega
      have l2 : w.heap.size + 1 < w1.heap.size := by omega
      clear ha1 hp1
      cases special
      · have hck : checkB N chain sp level false rows = false := by
          have := HBAD.out
          unfold digB at this
          rw [← HMB.out, ← HLB.out] at this
          simpa using this
        rw [hck] at HC
        obtain ⟨W1, hW1⟩ : ∃ W1, W1 = w1.alloc (.cells #[.pointer (some ⟨b, 0, none⟩)] 52) := ⟨_, rfl⟩
        have hb1 : Below w1.heap.size w1 W1 := by rw [hW1]; exact (Below.refl _ _).alloc (Nat.le_refl _) _
        have hB1' := hb.trans (hb1.mono hs1')
        have HCK := HC.out W1 ((HR0.out.below hB1').mono hB1'.size) ((HROW0.out.below hB1').mono hB1'.size)
        have hWW := hB1.trans (hb1.mono hs1)
        go_wp2_with fail
        rw [← hW1]
        refine HCK.mono ?_
        rintro e w2 ⟨rfl, hb2⟩
        go_wp2
        go_ret2
        exact ⟨rfl, hWW.trans (hb2.mono hWW.size)⟩
      · go_wp2
        go_ret2
        exact ⟨rfl, hB1.alloc hs1 _⟩
theorem Digits_any (N pr pw wt er : Int) (cv : Value) (chain : List Nat) (sp : Nat) (width level : Int) (special : Bool) (rv : Value) (rows : List (List Nat)) (w : World) (hr : w.reads w.heap.size cv (chain.map u32V)) (hrow : w.rows u32V w.heap.size rv rows) (hcb : ∀ q ∈ chain, q < 4294967296) :
    Calls Try.prog 11 #[.agg #[.int .i64 N, .int .u32 pr, .int .i64 pw, cv, .int .u32 (sp : Int), .int .i64 wt, .int .u32 er], .int .i64 width, .agg #[.int .i64 level, .bool special, rv]] w (DigPost N chain sp width level special rows w) := by
  unfold DigPost
  cases hb : digB N chain sp width level special rows
  · exact (Digits_err N pr pw wt er cv chain sp width level special rv rows w hr hrow hcb hb).mono fun e w' h => h
  · have hb' := hb
    unfold digB at hb'
    simp only [Bool.and_eq_true, Bool.not_eq_true'] at hb'
    obtain ⟨⟨⟨h1, h2⟩, rfl⟩, h4⟩ := hb'
    obtain ⟨n, lv, rfl, rfl, i1, i2, i3, i4, i5, i6⟩ := checkB_parts h4
    obtain ⟨hw1, hw2, -, -⟩ := madeB_parts h1
    have hpb := parts_bound hw1 hw2
    exact (Digits_ok n lv (partsI width).toNat pr pw wt er cv chain sp width rv rows w hr hrow hcb h1 (by omega) i3 i4 h4 (by omega) i5 i6).mono fun e w' h => h
end Go.Proofs.Ytpcpgmgpkegjlaa
