/- The reference's numbers with signs: the product. -/
import Derived.Test.YtdfklcmiagmgaaaXR7
namespace Go.Proofs.Ytdfklcmiagmgaaa
set_option linter.all false
open Go.RowKit Go.Shelf Go.WideNum
theorem list_dig {B : Nat} (hB : 0 < B) (t : List Nat) (L : Nat) (ht : t.length = L) (hl : ∀ x ∈ t, x < B) : t = (List.range L).map (dig B (valW B t)) := by
  apply List.ext_getElem
  · simp [ht]
  · intro i h1 h2
    rw [List.getElem_map, List.getElem_range, valW_dig hB t hl, List.getD_eq_getElem?_getD, List.getElem?_eq_getElem h1]
    rfl
theorem zrow_map (n : Nat) : zrow n = ((List.replicate n 0).map u32V).toArray := by simp [zrow, u32V]
set_option maxRecDepth 100000 in
set_option maxHeartbeats 8000000 in
theorem hmul_any (an : Bool) (A : Nat) (va : Value) (bn : Bool) (C : Nat) (vb : Value) (w : World) (hA : World.numH w va A) (hC : World.numH w vb C) (hla : (hw A).length ≤ 4000) (hlc : (hw C).length ≤ 4000) :
    Calls Try.prog 55 #[.agg #[.bool an, va], .agg #[.bool bn, vb]] w (SRet w ((an != bn) && decide (A * C ≠ 0)) (A * C)) := by
  obtain ⟨aa, p, ca, hp, rfl, hca, hma, hsa⟩ := numH_words hA
  obtain ⟨ab, q, cb, hq, rfl, hcb, hmb, hsb⟩ := numH_words hC
  clear hA hC
  have hva := hw_vlt A
  have hvc := hw_vlt C
  rw [← hp] at hla hva
  rw [← hq] at hlc hvc
  have HA := Lib.hid hsa
  have HC := Lib.hid hsb
  have HVA := Lib.hid hva
  have HVC := Lib.hid hvc
  obtain ⟨sg, hsg⟩ : ∃ sg, sg = (an != bn) := ⟨_, rfl⟩
  rw [← hsg]
  have HSG := Lib.hid hsg
  obtain ⟨S, hS⟩ : ∃ S, S = (sg && decide (A * C ≠ 0)) := ⟨_, rfl⟩
  rw [← hS]
  have HTR : Hid (∀ v W, World.rawH W v (A * C) (p + q) → Calls Try.prog 62 #[.agg #[.bool sg, v]] W (SRet W S (A * C))) := fun v W h => by
    rw [hS]
    exact htrim_any sg (A * C) _ (by rw [Nat.pow_add]; exact Nat.mul_lt_mul'' hva hvc) (by omega) v W h
  obtain ⟨HPOST, hpost⟩ : ∃ R, R = SRet w S (A * C) := ⟨_, rfl⟩
  rw [← hpost]
  have HP := Lib.hid hpost
  have hmk : ∀ W : World, (Instr.makeSlice 57 (.int .i64 ((p : Int) + (q : Int))) (.int .i64 ((p : Int) + (q : Int)))).run Try.prog W = .ok (.slice (some ⟨W.heap.size, 0, none⟩) (p + q) (p + q)) (W.alloc (.cells (zrow (p + q)) 47)) := fun W => make_u32 (p + q) (by omega) W
  clear hp hq hsa hsb hva hvc hpost hS hsg hma hmb
  obtain ⟨W0, hW0⟩ : ∃ W0, W0 = ((w.alloc (.cells #[.bool an, .slice aa p ca] 63)).alloc (.cells #[.bool bn, .slice ab q cb] 63)).alloc (.cells #[.bool false, .slice none 0 0] 63) := ⟨_, rfl⟩
  have g0 : W0.heap[w.heap.size]? = some (.cells #[.bool an, .slice aa p ca] 63) := by rw [hW0, Below.heap_alloc _ _ _ (by simp; omega), Below.heap_alloc _ _ _ (by simp)]; exact heap_alloc_new w _
  have g1 : W0.heap[w.heap.size + 1]? = some (.cells #[.bool bn, .slice ab q cb] 63) := by rw [hW0, Below.heap_alloc _ _ _ (by simp)]; exact alloc_last _ _ (by simp)
  have g2 : W0.heap[w.heap.size + 1 + 1]? = some (.cells #[.bool false, .slice none 0 0] 63) := by rw [hW0]; exact alloc_last _ _ (by simp)
  have hb0 : Below w.heap.size w W0 := by rw [hW0]; exact ((((Below.refl _ w).alloc (Nat.le_refl _) _).alloc (by simp) _).alloc (by simp; omega) _)
  have HB0 := Lib.hid hb0
  have HG0 := Lib.hid g0
  have HG1 := Lib.hid g1
  have HG2 := Lib.hid g2
  obtain ⟨c00, c01, f00, f01⟩ := num_cells g0
  obtain ⟨c10, c11, f10, f11⟩ := num_cells g1
  have HW0 := Lib.hid hW0
  have hz0 : w.heap.size < W0.heap.size := lt_of_heap HG0.out
  have hz1 : w.heap.size + 1 < W0.heap.size := lt_of_heap HG1.out
  have hz2 : w.heap.size + 1 + 1 < W0.heap.size := lt_of_heap HG2.out
  clear hb0 g0 g1 g2 hW0
  go_enter Try.func55, Try.ntmps55
  go_upto_region 1 with (fail)
  rw [← HW0.out]
  go_wp2_with fail
  go_loopw [6] (fun iv wr => ∃ (i : Nat) (t : List Nat), i ≤ p ∧ iv = .int .i64 (i : Int) ∧ MulSt 65536 A C i 0 0 t q (p + q) ∧ wr.heap[W0.heap.size]? = some (.cells (t.map u32V).toArray 47) ∧ Below W0.heap.size W0 wr) (fun iv _ => p - (intOf iv).toNat)
  case atStart => exact ⟨0, List.replicate (p + q) 0, Nat.zero_le _, rfl, MulSt.start (by omega) rfl, by rw [← zrow_map]; exact heap_alloc_new W0 _, (Below.refl _ W0).alloc (Nat.le_refl _) _⟩
  case round =>
    obtain ⟨i, t, hi, rfl, hM, hg, hb⟩ := hrel
    have hz3 := lt_of_heap hg
    clear c00 c01 c10 c11 f00 f01 f10 f11 hmk
    by_cases hlt : i < p
    · obtain ⟨b, off, rfl, hbl, hx0⟩ := HA.out i hlt
      obtain ⟨wo, hwo⟩ : ∃ x, x = wr := ⟨_, rfl⟩
      rw [← hwo] at hg hb ⊢
      clear hwo
      obtain ⟨c00, c01, f00, f01⟩ := num_cells ((hb.block _ hz0).trans HG0.out)
      have HM := Lib.hid hM
      have HG := Lib.hid hg
      have HB := Lib.hid hb
      clear hM hg hb
      go_wp2_with fail
      clear c00 c01 f00 f01
      go_loopw [7, 8] (fun cv kv wr => ∃ (k c : Nat) (t : List Nat), k ≤ q ∧ kv = .int .i64 (k : Int) ∧ cv = .int .u32 (c : Int) ∧ MulSt 65536 A C i k c t q (p + q) ∧ wr.heap[W0.heap.size]? = some (.cells (t.map u32V).toArray 47) ∧ Below W0.heap.size W0 wr) (fun _ kv _ => q - (intOf kv).toNat)
      case atStart => exact ⟨0, 0, t, Nat.zero_le _, rfl, rfl, HM.out, HG.out, HB.out⟩
      case round =>
        obtain ⟨k, c, t2, hk, rfl, rfl, hM, hg, hb⟩ := hrel
        obtain ⟨c00, c01, f00, f01⟩ := num_cells ((hb.block _ hz0).trans HG0.out)
        obtain ⟨c10, c11, f10, f11⟩ := num_cells ((hb.block _ hz1).trans HG1.out)
        by_cases hkt : k < q
        · obtain ⟨b2, off2, rfl, hbl2, hy0⟩ := HC.out k hkt
          have hx := (hb.cell (p := ⟨b, off + i, none⟩) (show b < W0.heap.size by omega)).trans ((HB0.out.cell (p := ⟨b, off + i, none⟩) hbl).trans hx0)
          have hy := (hb.cell (p := ⟨b2, off2 + k, none⟩) (show b2 < W0.heap.size by omega)).trans ((HB0.out.cell (p := ⟨b2, off2 + k, none⟩) hbl2).trans hy0)
          obtain ⟨hs, hM2⟩ := hM.step (by omega) hkt (by omega)
          obtain ⟨hcu, hfu⟩ := arr_cell hg (i + k) (by rw [hM.len]; omega)
          have hxd := hw_dig A i
          have hyd := hw_dig C k
          have hvd := getD_lt (B := 65536) (by omega) hM.low (i + k)
          have hcd := hM.clt
          obtain ⟨x, ex⟩ : ∃ x, x = dig 65536 A i := ⟨_, rfl⟩
          obtain ⟨y, ey⟩ : ∃ x, x = dig 65536 C k := ⟨_, rfl⟩
          obtain ⟨v, ev⟩ : ∃ x, x = t2.getD (i + k) 0 := ⟨_, rfl⟩
          rw [← ex] at hx hs hM2 hxd
          rw [← ey] at hy hs hM2 hyd
          rw [← ev] at hcu hs hM2 hvd
          obtain ⟨m, em⟩ : ∃ m, m = x * y := ⟨_, rfl⟩
          rw [← em] at hs hM2
          obtain ⟨n1, en⟩ : ∃ n, n = c + v := ⟨_, rfl⟩
          obtain ⟨s, es⟩ : ∃ n, n = n1 + m := ⟨_, rfl⟩
          rw [show c + (v + m) = s by omega] at hs hM2
          have w1 : IntKind.u32.wrap ((x : Int) * (y : Int)) = (m : Int) := by
            rw [← Int.natCast_mul, ← em, IntKind.wrap_u32]
            omega
          have w2 : IntKind.u32.wrap ((c : Int) + (v : Int)) = (n1 : Int) := by rw [IntKind.wrap_u32]; omega
          have w3 : IntKind.u32.wrap ((n1 : Int) + (m : Int)) = (s : Int) := by rw [IntKind.wrap_u32]; omega
          obtain ⟨j, ej⟩ : ∃ j, j = i + k := ⟨_, rfl⟩
          have w7 : IntKind.i64.wrap ((i : Int) + (k : Int)) = (j : Int) := by rw [ej]; exact IntWalk.i64_in _ (by omega)
          have w8 : (0 : Int) ≤ (j : Int) := by omega
          have w9 : (j : Int) < ((p + q : Nat) : Int) := by omega
          have w9' : (j : Int) < (p : Int) + (q : Int) := by omega
          have w10 : (i : Int) < (p : Int) := by omega
          have w11 : (k : Int) < (q : Int) := by omega
          have w12 : (i : Int) + (k : Int) = (j : Int) := by omega
          have w13 : IntKind.i64.wrap (j : Int) = (j : Int) := IntWalk.i64_in _ (by omega)
          rw [← ej] at hcu hfu hM2
          have HG2 := Lib.hid hg
          have HM2 := Lib.hid hM2
          clear hx0 hy0 ex ey ev em en es ej hg hM hM2
          go_wp2_with fail
          refine wp_region_heldL (fun w' => w'.cell? ⟨W0.heap.size, j, none⟩ = some (.int .u32 (v : Int)) ∧ w'.cell? ⟨w.heap.size, 1, none⟩ = some (.slice (some ⟨b, off, none⟩) p ca) ∧ w'.cell? ⟨w.heap.size + 1, 1, none⟩ = some (.slice (some ⟨b2, off2, none⟩) q cb) ∧ w'.cell? ⟨b, off + i, none⟩ = some (.int .u32 (x : Int)) ∧ w'.cell? ⟨b2, off2 + k, none⟩ = some (.int .u32 (y : Int))) (by kernel_rfl) ⟨hcu, c01, c11, hx, hy⟩ (fun hS => ?_)
          refine wpAnyH_takeL 0 (v := ?_) (by kernel_rfl) rfl (by kernel_rfl) (by kernel_rfl) (fun _ _ _ h => h) (Or.inl ⟨by rfl, ?_⟩) (by assumption) ?_
          rotate_left
          · (intro wq hSq; (try dsimp only at hSq); go_simp; try with_reducible rfl)
          try simp only [Act.put, List.setIfInBounds_toArray, List.set_cons_zero, List.set_cons_succ]
          refine wpAnyH_takeL 1 (v := ?_) (by kernel_rfl) rfl (by kernel_rfl) (by kernel_rfl) (fun _ _ _ h => h) (Or.inl ⟨by rfl, ?_⟩) (by assumption) ?_
          rotate_left
          · (intro wq hSq; (try dsimp only at hSq); go_simp; try with_reducible rfl)
          try simp only [Act.put, List.setIfInBounds_toArray, List.set_cons_zero, List.set_cons_succ]
          refine wpAnyH_takeL 2 (v := ?_) (by kernel_rfl) rfl (by kernel_rfl) (by kernel_rfl) (fun _ _ _ h => h) (Or.inl ⟨by rfl, ?_⟩) (by assumption) ?_
          rotate_left
          · (intro wq hSq; (try dsimp only at hSq); go_simp; try with_reducible rfl)
          try simp only [Act.put, List.setIfInBounds_toArray, List.set_cons_zero, List.set_cons_succ]
          refine wpAnyH_takeL 3 (v := ?_) (by kernel_rfl) rfl (by kernel_rfl) (by kernel_rfl) (fun _ _ _ h => h) (Or.inl ⟨by rfl, ?_⟩) (by assumption) ?_
          rotate_left
          · (intro wq hSq; (try dsimp only at hSq); go_simp; try with_reducible rfl)
          try simp only [Act.put, List.setIfInBounds_toArray, List.set_cons_zero, List.set_cons_succ]
          refine wpAnyH_takeL 4 (v := ?_) (by kernel_rfl) rfl (by kernel_rfl) (by kernel_rfl) (fun _ _ _ h => h) (Or.inl ⟨by rfl, ?_⟩) (by assumption) ?_
          rotate_left
          · (intro wq hSq; (try dsimp only at hSq); go_simp; try with_reducible rfl)
          try simp only [Act.put, List.setIfInBounds_toArray, List.set_cons_zero, List.set_cons_succ]
          refine wpAnyH_takeL 5 (v := ?_) (by kernel_rfl) rfl (by kernel_rfl) (by kernel_rfl) (fun _ _ _ h => h) (Or.inl ⟨by rfl, ?_⟩) (by assumption) ?_
          rotate_left
          · (intro wq hSq; (try dsimp only at hSq); go_simp; try with_reducible rfl)
          try simp only [Act.put, List.setIfInBounds_toArray, List.set_cons_zero, List.set_cons_succ]
          refine wpAnyH_takeL 6 (v := ?_) (by kernel_rfl) rfl (by kernel_rfl) (by kernel_rfl) (fun _ _ _ h => h) (Or.inl ⟨by rfl, ?_⟩) (by assumption) ?_
          rotate_left
          · (intro wq hSq; (try dsimp only at hSq); go_simp; try with_reducible rfl)
          try simp only [Act.put, List.setIfInBounds_toArray, List.set_cons_zero, List.set_cons_succ]
          refine wpAnyH_takeL 7 (v := ?_) (by kernel_rfl) rfl (by kernel_rfl) (by kernel_rfl) (fun _ _ _ h => h) (Or.inl ⟨by rfl, ?_⟩) (by assumption) ?_
          rotate_left
          · (intro wq hSq; (try dsimp only at hSq); go_simp; try with_reducible rfl)
          try simp only [Act.put, List.setIfInBounds_toArray, List.set_cons_zero, List.set_cons_succ]
          refine wpAnyH_takeL 8 (v := ?_) (by kernel_rfl) rfl (by kernel_rfl) (by kernel_rfl) (fun _ _ _ h => h) (Or.inl ⟨by rfl, ?_⟩) (by assumption) ?_
          rotate_left
          · (intro wq hSq; (try dsimp only at hSq); go_simp; try with_reducible rfl)
          try simp only [Act.put, List.setIfInBounds_toArray, List.set_cons_zero, List.set_cons_succ]
          refine wpAnyH_takeL 9 (v := ?_) (by kernel_rfl) rfl (by kernel_rfl) (by kernel_rfl) (fun _ _ _ h => h) (Or.inl ⟨by rfl, ?_⟩) (by assumption) ?_
          rotate_left
          · (intro wq hSq; (try dsimp only at hSq); go_simp; try with_reducible rfl)
          try simp only [Act.put, List.setIfInBounds_toArray, List.set_cons_zero, List.set_cons_succ]
          refine wpAnyH_takeL 10 (v := ?_) (by kernel_rfl) rfl (by kernel_rfl) (by kernel_rfl) (fun _ _ _ h => h) (Or.inl ⟨by rfl, ?_⟩) (by assumption) ?_
          rotate_left
          · (intro wq hSq; (try dsimp only at hSq); go_simp; try with_reducible rfl)
          try simp only [Act.put, List.setIfInBounds_toArray, List.set_cons_zero, List.set_cons_succ]
          refine wpAnyH_takeL 11 (v := ?_) (by kernel_rfl) rfl (by kernel_rfl) (by kernel_rfl) (fun _ _ _ h => h) (Or.inl ⟨by rfl, ?_⟩) (by assumption) ?_
          rotate_left
          · (intro wq hSq; (try dsimp only at hSq); go_simp; try with_reducible rfl)
          try simp only [Act.put, List.setIfInBounds_toArray, List.set_cons_zero, List.set_cons_succ]
          refine wpAnyH_takeL 12 (v := ?_) (by kernel_rfl) rfl (by kernel_rfl) (by kernel_rfl) (fun _ _ _ h => h) (Or.inl ⟨by rfl, ?_⟩) (by assumption) ?_
          rotate_left
          · (intro wq hSq; (try dsimp only at hSq); go_simp; try with_reducible rfl)
          try simp only [Act.put, List.setIfInBounds_toArray, List.set_cons_zero, List.set_cons_succ]
          refine wpAnyH_takeL 13 (v := ?_) (by kernel_rfl) rfl (by kernel_rfl) (by kernel_rfl) (fun _ _ _ h => h) (Or.inl ⟨by rfl, ?_⟩) (by assumption) ?_
          rotate_left
          · (intro wq hSq; (try dsimp only at hSq); go_simp; try with_reducible rfl)
          try simp only [Act.put, List.setIfInBounds_toArray, List.set_cons_zero, List.set_cons_succ]
          refine wpAnyH_takeL 14 (v := ?_) (by kernel_rfl) rfl (by kernel_rfl) (by kernel_rfl) (fun _ _ _ h => h) (Or.inl ⟨by rfl, ?_⟩) (by assumption) ?_
          rotate_left
          · (intro wq hSq; (try dsimp only at hSq); go_simp; try with_reducible rfl)
          try simp only [Act.put, List.setIfInBounds_toArray, List.set_cons_zero, List.set_cons_succ]
          refine wpAnyH_takeL 15 (v := ?_) (by kernel_rfl) rfl (by kernel_rfl) (by kernel_rfl) (fun _ _ _ h => h) (Or.inl ⟨by rfl, ?_⟩) (by assumption) ?_
          rotate_left
          · (intro wq hSq; (try dsimp only at hSq); go_simp; try with_reducible rfl)
          try simp only [Act.put, List.setIfInBounds_toArray, List.set_cons_zero, List.set_cons_succ]
          refine wpAnyH_takeL 16 (v := ?_) (by kernel_rfl) rfl (by kernel_rfl) (by kernel_rfl) (fun _ _ _ h => h) (Or.inl ⟨by rfl, ?_⟩) (by assumption) ?_
          rotate_left
          · (intro wq hSq; (try dsimp only at hSq); go_simp; try with_reducible rfl)
          try simp only [Act.put, List.setIfInBounds_toArray, List.set_cons_zero, List.set_cons_succ]
          refine wpAnyH_takeL 17 (v := ?_) (by kernel_rfl) rfl (by kernel_rfl) (by kernel_rfl) (fun _ _ _ h => h) (Or.inl ⟨by rfl, ?_⟩) (by assumption) ?_
          rotate_left
          · (intro wq hSq; (try dsimp only at hSq); go_simp; try with_reducible rfl)
          try simp only [Act.put, List.setIfInBounds_toArray, List.set_cons_zero, List.set_cons_succ]
          refine wpAnyH_takeL 18 (v := ?_) (by kernel_rfl) rfl (by kernel_rfl) (by kernel_rfl) (fun _ _ _ h => h) (Or.inl ⟨by rfl, ?_⟩) (by assumption) ?_
          rotate_left
          · (intro wq hSq; (try dsimp only at hSq); go_simp; try with_reducible rfl)
          try simp only [Act.put, List.setIfInBounds_toArray, List.set_cons_zero, List.set_cons_succ]
          refine wpAnyH_takeL 19 (v := ?_) (by kernel_rfl) rfl (by kernel_rfl) (by kernel_rfl) (fun _ _ _ h => h) (Or.inl ⟨by rfl, ?_⟩) (by assumption) ?_
          rotate_left
          · (intro wq hSq; (try dsimp only at hSq); go_simp; try with_reducible rfl)
          try simp only [Act.put, List.setIfInBounds_toArray, List.set_cons_zero, List.set_cons_succ]
          refine wpAnyH_takeL 20 (v := ?_) (by kernel_rfl) rfl (by kernel_rfl) (by kernel_rfl) (fun _ _ _ h => h) (Or.inl ⟨by rfl, ?_⟩) (by assumption) ?_
          rotate_left
          · (intro wq hSq; (try dsimp only at hSq); go_simp; try with_reducible rfl)
          try simp only [Act.put, List.setIfInBounds_toArray, List.set_cons_zero, List.set_cons_succ]
          refine wpAnyH_end (by kernel_rfl) ?_
          go_wp2_with fail
          go_roundw
          case rel =>
            refine ⟨k + 1, s / 65536, t2.set j (s % 65536), by omega, by go_num, by simp, HM2.out, ?_, (hb.setCell (by simp) _).drew⟩
            rw [show ((s : Int) % 65536) = ((s % 65536 : Nat) : Int) by omega]
            exact arr_set HG2.out _
          case measure => simp [intOf]; omega
        · obtain rfl : k = q := by omega
          obtain ⟨hcu, hfu⟩ := arr_cell hg (i + k) (by rw [hM.len]; omega)
          have hcd := hM.clt
          have HM2 := Lib.hid (hM.row (by omega) (by omega) HVC.out)
          have HG2 := Lib.hid hg
          clear hM hg
          go_wp2_with fail
          go_roundw
          case rel => exact ⟨i + 1, t2.set (i + k) c, by omega, by go_num, HM2.out, arr_set HG2.out _, hb.setCell (by simp) _⟩
          case measure => simp [intOf]; omega
    · obtain rfl : i = p := by omega
      obtain ⟨c00, c01, f00, f01⟩ := num_cells ((hb.block _ hz0).trans HG0.out)
      obtain ⟨c10, c11, f10, f11⟩ := num_cells ((hb.block _ hz1).trans HG1.out)
      have hraw : World.rawH wr (.slice (some ⟨W0.heap.size, 0, none⟩) (i + q) (i + q)) (A * C) (i + q) := by
        have hd := hM.done HVA.out
        rw [List.take_of_length_le (by rw [hM.len]; exact Nat.le_refl _)] at hd
        have hl := list_dig (B := 65536) (by omega) t (i + q) hM.len hM.low
        rw [hd] at hl
        show World.reads _ _ _ _
        rw [← hl]
        have := reads_block (B := wr.heap.size) (l := t.map u32V) hg hz3 (i + q) (by simp [hM.len]) (by unfold maxLen; omega)
        rw [List.length_map, hM.len] at this
        exact this
      have HR := Lib.hid hraw
      have HGR := Lib.hid ((hb.block _ hz2).trans HG2.out)
      have HBW := Lib.hid (HB0.out.trans (hb.mono HB0.out.size))
      have t1 : (!(an == bn)) = sg := by rw [HSG.out]; rfl
      have t2 : (an != bn) = sg := HSG.out.symm
      clear hM hg hb hraw
      go_wp2_with fail
      (with_reducible refine (HTR.out _ _ HR.out).mono ?_)
      rintro e w6 ⟨v6, rfl, hn6, hb6⟩
      obtain ⟨a6, L6, c6, rfl⟩ : ∃ a5 L5 c5, v6 = .slice a5 L5 c5 := by obtain ⟨x, y, h⟩ := reads_len hn6; exact ⟨x, _, y, h⟩
      have hg6 := (hb6.block _ (lt_of_heap HGR.out)).trans HGR.out
      have HB6 := Lib.hid (HBW.out.trans (hb6.mono HBW.out.size))
      have HN6 := Lib.hid hn6
      have HG6 := Lib.hid hg6
      clear c00 c01 f00 f01 c10 c11 f10 f11
      obtain ⟨d0, d1, fz0, fz1⟩ := num_cells hg6
      clear hb6 hn6 hg6
      go_wp2
      have m2 := num_set HG6.out (.bool S) (.slice a6 L6 c6)
      have hb9 : Below w.heap.size w ((w6.setCell ⟨w.heap.size + 1 + 1, 0, none⟩ (.bool S)).setCell ⟨w.heap.size + 1 + 1, 1, none⟩ (.slice a6 L6 c6)) := (HB6.out.setCell (by simp; omega) _).setCell (by simp; omega) _
      have hn9 := numH_set HN6.out HG6.out (.bool S) (.slice a6 L6 c6)
      obtain ⟨d20, d21, -, -⟩ := num_cells m2
      clear m2 d0 d1 fz0 fz1
      generalize (w6.setCell ⟨w.heap.size + 1 + 1, 0, none⟩ (.bool S)).setCell ⟨w.heap.size + 1 + 1, 1, none⟩ (.slice a6 L6 c6) = W9 at d20 d21 hb9 hn9 ⊢
      rw [HP.out]
      exact bodyPost_ret (v := .agg #[.bool S, .slice a6 L6 c6]) (by simp [results, Try.results55, go_sem, d20, d21]) rfl ⟨.slice a6 L6 c6, rfl, hn9, hb9⟩
end Go.Proofs.Ytdfklcmiagmgaaa
