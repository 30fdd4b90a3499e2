/- Walks: the reference's digits of an element, or the error. -/
import Derived.Test.YtpcpgmgpkegjlaaGF9
namespace Go.Proofs.Ytpcpgmgpkegjlaa
open Go.RowKit Go.Shelf Go.BigFrame
theorem checkB_lev {N : Int} {chain : List Nat} {sp : Nat} {level : Int} {special : Bool} {rows : List (List Nat)} (h : checkB N chain sp level special rows = true) : levB chain.length level = true := by
  unfold checkB preB placeB at h
  simp only [Bool.and_eq_true] at h
  exact h.1.2.1
set_option maxRecDepth 100000 in
set_option maxHeartbeats 8000000 in
theorem rdigits_err (N pr pw wt er : Int) (cv : Value) (chain : List Nat) (sp : Nat) (width level : Int) (special : Bool) (rv : Value) (rows : List (List Nat)) (w : World) (hr : w.reads w.heap.size cv (chain.map u32V)) (hrow : w.rows u32V w.heap.size rv rows) (hcb : ∀ q ∈ chain, q < 4294967296)
    (hbad : digB N chain sp width level special rows = false) :
    Calls Try.prog 18 #[.agg #[.int .i64 N, .int .u32 pr, .int .i64 pw, cv, .int .u32 (sp : Int), .int .i64 wt, .int .u32 er], .int .i64 width, .agg #[.int .i64 level, .bool special, rv]] w
      fun e w' => e = .returned (.tuple #[.slice none 0 0, .int .i64 2]) ∧ Below w.heap.size w w' := by
  obtain ⟨a, cap, rfl, hcap, hmx, -⟩ := reads_u32 hr
  obtain ⟨ra, rcap, rfl, hrc, hrm, -⟩ := hrow.shape
  obtain ⟨W0, hW0⟩ : ∃ W0, W0 = (w.alloc (.cells #[.int .i64 N, .int .u32 pr, .int .i64 pw, .slice a chain.length cap, .int .u32 (sp : Int), .int .i64 wt, .int .u32 er] 25)).alloc (.cells #[.int .i64 level, .bool special, .slice ra rows.length rcap] 28) := ⟨_, rfl⟩
  have hB0 : Below w.heap.size w W0 := by rw [hW0]; exact ((Below.refl _ w).alloc (Nat.le_refl _) _).alloc (by simp) _
  have g0 : W0.heap[w.heap.size]? = some (.cells #[.int .i64 N, .int .u32 pr, .int .i64 pw, .slice a chain.length cap, .int .u32 (sp : Int), .int .i64 wt, .int .u32 er] 25) := by rw [hW0, Below.heap_alloc _ _ _ (by simp)]; exact alloc_last _ _ rfl
  have e0 : W0.heap[w.heap.size + 1]? = some (.cells #[.int .i64 level, .bool special, .slice ra rows.length rcap] 28) := by rw [hW0]; exact alloc_last _ _ (by simp)
  have hz0 := lt_of_heap e0
  have hz1 : w.heap.size < W0.heap.size := by omega
  have HR0 := Lib.hid ((hr.below hB0).mono hB0.size)
  have HROW := Lib.hid ((hrow.below hB0).mono hB0.size)
  have HV := Lib.hid (valid17_any N pr pw wt er _ chain sp width W0 HR0.out hcb)
  have HC := Lib.hid (fun W hb => rcheck_any N pr pw wt er _ chain sp level special _ rows W ((HR0.out.below hb).mono (Below.size hb)) ((HROW.out.below hb).mono (Below.size hb)))
  unfold OkPost at HV
  unfold ErrPost at HC
  obtain ⟨mb, hmb⟩ : ∃ mb, mb = madeB N chain sp width := ⟨_, rfl⟩
  rw [← hmb] at HV
  obtain ⟨ck, hck⟩ : ∃ ck, ck = checkB N chain sp level special rows := ⟨_, rfl⟩
  rw [← hck] at HC
  have hspc : mb = true → ck = true → special = true := by
    intro h1 h2
    unfold digB at hbad
    rw [← hmb, ← hck, h1, h2, checkB_lev (by rw [← hck]; exact h2)] at hbad
    simpa using hbad
  have HSPC := Lib.hid hspc
  obtain ⟨m, hm⟩ : ∃ m, m = chain.length := ⟨_, rfl⟩
  obtain ⟨l, hl⟩ : ∃ l, l = rows.length := ⟨_, rfl⟩
  rw [← hm] at hcap g0 hW0 HV HC ⊢
  rw [← hl] at hrc e0 hW0 HC ⊢
  obtain ⟨c0, c1, c2, c3, c4, c5, c6⟩ := par_cells g0
  obtain ⟨k0, k1, k2, -, -, -⟩ := elem_cells e0
  have HG0 := Lib.hid g0
  have HE0 := Lib.hid e0
  have HW0 := Lib.hid hW0
  clear hr hrow g0 e0 hW0 hm hl hmb hck hspc hbad hcb
  cases mb
  · go_enter Try.func18, Try.ntmps18
    go_upto_region 1 with (fail)
    rw [← HW0.out]
    go_wp2_with fail
    refine HV.out.mono ?_
    rintro e w1 ⟨rfl, hb1⟩
    go_wp2
    go_ret2
    exact ⟨rfl, hB0.trans (hb1.mono hB0.size)⟩
  go_enter Try.func18, Try.ntmps18
  go_upto_region 1 with (fail)
  rw [← HW0.out]
  go_wp2_with fail
  refine HV.out.mono ?_
  rintro e w1 ⟨rfl, hb1⟩
  have hg1 := (hb1.block _ hz1).trans HG0.out
  have he1 := (hb1.block _ hz0).trans HE0.out
  have HC1 := HC.out w1 hb1
  have hs1 := hb1.size
  clear c0 c1 c2 c3 c4 c5 c6 k0 k1 k2
  obtain ⟨c0, c1, c2, c3, c4, c5, c6⟩ := par_cells hg1
  obtain ⟨k0, k1, k2, -, -, -⟩ := elem_cells he1
  clear hg1 he1
  cases ck
  · go_wp2_with fail
    refine HC1.mono ?_
    rintro e w2 ⟨rfl, hb2⟩
    have hB2 := hb1.trans (hb2.mono hs1)
    clear HC1
    go_wp2
    go_ret2
    exact ⟨rfl, hB0.trans (hB2.mono hB0.size)⟩
  · obtain rfl : special = true := HSPC.out (by first | rfl | trivial) (by first | rfl | trivial)
    go_wp2_with fail
    refine HC1.mono ?_
    rintro e w2 ⟨rfl, hb2⟩
    have hB2 := hb1.trans (hb2.mono hs1)
    have he2 := (hB2.block _ hz0).trans HE0.out
    clear HC1 k0 k1 k2
    obtain ⟨-, k1, -, -, -, -⟩ := elem_cells he2
    clear he2
    go_wp2
    go_ret2
    exact ⟨rfl, hB0.trans (hB2.mono hB0.size)⟩
theorem rdigits_any (N pr pw wt er : Int) (cv : Value) (chain : List Nat) (sp : Nat) (width level : Int) (special : Bool) (rv : Value) (rows : List (List Nat)) (w : World) (hr : w.reads w.heap.size cv (chain.map u32V)) (hrow : w.rows u32V w.heap.size rv rows) (hcb : ∀ q ∈ chain, q < 4294967296) :
    Calls Try.prog 18 #[.agg #[.int .i64 N, .int .u32 pr, .int .i64 pw, cv, .int .u32 (sp : Int), .int .i64 wt, .int .u32 er], .int .i64 width, .agg #[.int .i64 level, .bool special, rv]] w (DigPost N chain sp width level special rows w) := by
  unfold DigPost
  cases hb : digB N chain sp width level special rows
  · exact (rdigits_err N pr pw wt er cv chain sp width level special rv rows w hr hrow hcb hb).mono fun e w' h => h
  · obtain ⟨rfl, hw1, hw2, hmade, n, lv, rfl, rfl, i1, i2, i3, i4, i5, i6⟩ := digB_parts hb
    have hck : checkB (n : Int) chain sp (lv : Int) false rows = true := by
      unfold digB at hb
      simp only [Bool.and_eq_true] at hb
      exact hb.2
    exact (rdigits_ok n lv (partsI width).toNat pr pw wt er cv chain sp width rv rows w hr hrow hcb hmade rfl i4 hck (by omega) i5 i6).mono fun e w' h => h
end Go.Proofs.Ytpcpgmgpkegjlaa
