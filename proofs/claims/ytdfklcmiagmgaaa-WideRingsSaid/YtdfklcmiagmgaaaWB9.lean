/- Walks: the product of two numbers. -/
import Derived.Test.YtdfklcmiagmgaaaWM6
namespace Go.Proofs.Ytdfklcmiagmgaaa
set_option linter.all false
open Go.RowKit Go.Shelf Go.WideNum
theorem zero_arr : Try.zeroCells89 = ((List.replicate 134 0).map u32V).toArray := by kernel_rfl
theorem arr_info : (Try.prog.info? 89).map (·.size) = some 134 := by kernel_rfl
theorem arr_cell {W : World} {g : Nat} {t : List Nat} {T : TypeId} (h : W.heap[g]? = some (.cells (t.map u32V).toArray T)) (k : Nat) (hk : k < t.length) : W.cell? ⟨g, k, none⟩ = some (.int .u32 (t.getD k 0 : Int)) ∧ W.frozen? ⟨g, k, none⟩ = false := by
  refine ⟨?_, by simp [World.frozen?, h]⟩
  rw [cell_of_row W g k _ T (0, 0) h]
  simp [hk, u32V]
theorem arr_set {W : World} {g k : Nat} {t : List Nat} {T : TypeId} (h : W.heap[g]? = some (.cells (t.map u32V).toArray T)) (z : Nat) :
    (W.setCell ⟨g, k, none⟩ (.int .u32 (z : Int))).heap[g]? = some (.cells ((t.set k z).map u32V).toArray T) := by
  rw [List.map_set]
  simp [World.setCell, Array.getElem?_modify, h, u32V]
theorem whole_any2 (t : List Nat) (T : Array Value) (hT : Hid (T = (t.map u32V).toArray)) (ht : t.length = 134) (hB : ∀ x ∈ t, x < 4294967296) (n : Nat) (hn : n ≤ 134) (z : Int) (hz : z = (n : Int)) (w : World) :
    Calls Try.prog 76 #[.agg T, .int .i64 z] w (NumRet w (valW 4294967296 (t.take n))) := by
  rw [hT.out, hz]
  exact whole_any t ht hB n hn w
theorem NumRet.back {w W : World} {n : Nat} {e : Ending} {w' : World} (h : NumRet W n e w') (hb : Below w.heap.size w W) : NumRet w n e w' := by
  obtain ⟨v, rfl, ho, hb2⟩ := h
  exact ⟨v, rfl, ho.mono hb.size, hb.trans (hb2.mono hb.size)⟩
set_option maxRecDepth 100000 in
set_option maxHeartbeats 4000000 in
theorem times_any (A C : Nat) (va vb : Value) (w : World) (hA : w.reads w.heap.size va ((wd A).map u32V)) (hC : w.reads w.heap.size vb ((wd C).map u32V))
    (hl : (wd A).length + (wd C).length ≤ 134) :
    Calls Try.prog 51 #[va, vb] w (NumRet w (A * C)) := by
  obtain ⟨aa, ca, rfl, hca, hma, hsa⟩ := reads_u32 hA
  obtain ⟨ab, cb, rfl, hcb, hmb, hsb⟩ := reads_u32 hC
  clear hA hC
  obtain ⟨p, hp⟩ : ∃ n, n = (wd A).length := ⟨_, rfl⟩
  obtain ⟨q, hq⟩ : ∃ n, n = (wd C).length := ⟨_, rfl⟩
  have hva := wd_vlt A
  have hvc := wd_vlt C
  rw [← hp] at hl hca hva ⊢
  rw [← hq] at hl hcb hvc ⊢
  have HA : Hid (∀ k, k < p → ∃ b off, aa = some ⟨b, off, none⟩ ∧ b < w.heap.size ∧ w.cell? ⟨b, off + k, none⟩ = some (.int .u32 (dig 4294967296 A k : Int))) := fun k hk => hsa k _ (wd_get A k (by omega))
  have HC : Hid (∀ k, k < q → ∃ b off, ab = some ⟨b, off, none⟩ ∧ b < w.heap.size ∧ w.cell? ⟨b, off + k, none⟩ = some (.int .u32 (dig 4294967296 C k : Int))) := fun k hk => hsb k _ (wd_get C k (by omega))
  have HVA := Lib.hid hva
  have HVC := Lib.hid hvc
  clear hp hq hsa hsb hva hvc
  obtain ⟨HPOST, hpost⟩ : ∃ R, R = NumRet w (A * C) := ⟨_, rfl⟩
  rw [← hpost]
  have HP := Lib.hid hpost
  clear hpost
  go_enter Try.func51, Try.ntmps51
  go_wp2_with fail
  go_loopw [11] (fun iv wr => ∃ (i : Nat) (t : List Nat), i ≤ p ∧ iv = .int .i64 (i : Int) ∧ MulSt 4294967296 A C i 0 0 t q 134 ∧ wr.heap[w.heap.size]? = some (.cells (t.map u32V).toArray 89) ∧ Below w.heap.size w wr) (fun iv _ => p - (intOf iv).toNat)
  case atStart => exact ⟨0, List.replicate 134 0, Nat.zero_le _, rfl, MulSt.start (by omega) rfl, by rw [zero_arr]; exact heap_alloc_new w _, (Below.refl _ w).alloc (Nat.le_refl _) _⟩
  case round =>
    obtain ⟨i, t, hi, rfl, hM, hg, hb⟩ := hrel
    by_cases hlt : i < p
    · obtain ⟨b, off, rfl, hbl, hx0⟩ := HA.out i hlt
      obtain ⟨wo, hwo⟩ : ∃ x, x = wr := ⟨_, rfl⟩
      rw [← hwo] at hg hb ⊢
      clear hwo
      have HM := Lib.hid hM
      have HG := Lib.hid hg
      have HB := Lib.hid hb
      clear hM hg hb
      go_wp2_with fail
      go_loopw [7, 16] (fun cv kv wr => ∃ (k c : Nat) (t : List Nat), k ≤ q ∧ kv = .int .i64 (k : Int) ∧ cv = .int .u64 (c : Int) ∧ MulSt 4294967296 A C i k c t q 134 ∧ wr.heap[w.heap.size]? = some (.cells (t.map u32V).toArray 89) ∧ Below w.heap.size w wr) (fun _ kv _ => q - (intOf kv).toNat)
      case atStart => exact ⟨0, 0, t, Nat.zero_le _, rfl, rfl, HM.out, HG.out, HB.out⟩
      case round =>
        obtain ⟨k, c, t2, hk, rfl, rfl, hM, hg, hb⟩ := hrel
        by_cases hkt : k < q
        · obtain ⟨b2, off2, rfl, hbl2, hy0⟩ := HC.out k hkt
          have hx := (hb.cell (p := ⟨b, off + i, none⟩) hbl).trans hx0
          have hy := (hb.cell (p := ⟨b2, off2 + k, none⟩) hbl2).trans hy0
          obtain ⟨hs, hM2⟩ := hM.step (by omega) hkt (by omega)
          obtain ⟨hcu, hfu⟩ := arr_cell hg (i + k) (by rw [hM.len]; omega)
          have hxd := wd_dig A i
          have hyd := wd_dig C k
          have hvd := getD_lt (B := 4294967296) (by omega) hM.low (i + k)
          have hcd := hM.clt
          obtain ⟨x, ex⟩ : ∃ x, x = dig 4294967296 A i := ⟨_, rfl⟩
          obtain ⟨y, ey⟩ : ∃ x, x = dig 4294967296 C k := ⟨_, rfl⟩
          obtain ⟨v, ev⟩ : ∃ x, x = t2.getD (i + k) 0 := ⟨_, rfl⟩
          rw [← ex] at hx hs hM2 hxd
          rw [← ey] at hy hs hM2 hyd
          rw [← ev] at hcu hs hM2 hvd
          obtain ⟨m, em⟩ : ∃ m, m = x * y := ⟨_, rfl⟩
          have w1 : IntKind.u64.wrap ((x : Int) * (y : Int)) = (m : Int) := by
            rw [← Int.natCast_mul, ← em, IntKind.wrap_u64]
            rw [← em] at hs; omega
          rw [← em] at hs hM2
          obtain ⟨n1, en⟩ : ∃ n, n = v + m := ⟨_, rfl⟩
          have w2 : IntKind.u64.wrap ((v : Int) + (m : Int)) = (n1 : Int) := by rw [IntKind.wrap_u64]; omega
          rw [← en] at hs hM2
          obtain ⟨s, es⟩ : ∃ n, n = c + n1 := ⟨_, rfl⟩
          have w3 : IntKind.u64.wrap ((c : Int) + (n1 : Int)) = (s : Int) := by rw [IntKind.wrap_u64]; omega
          rw [← es] at hs hM2
          have w4 : IntKind.u64.wrap (v : Int) = (v : Int) := by rw [IntKind.wrap_u64]; omega
          have w5 : IntKind.u64.wrap (x : Int) = (x : Int) := by rw [IntKind.wrap_u64]; omega
          have w6 : IntKind.u64.wrap (y : Int) = (y : Int) := by rw [IntKind.wrap_u64]; omega
          obtain ⟨j, ej⟩ : ∃ j, j = i + k := ⟨_, rfl⟩
          have w7 : IntKind.i64.wrap ((i : Int) + (k : Int)) = (j : Int) := by rw [ej]; exact IntWalk.i64_in _ (by omega)
          have w8 : (0 : Int) ≤ (j : Int) := by omega
          have w9 : (j : Int) < 134 := by omega
          have w10 : (i : Int) < (p : Int) := by omega
          have w11 : (k : Int) < (q : Int) := by omega
          have w12 : (i : Int) + (k : Int) = (j : Int) := by omega
          have w13 : IntKind.i64.wrap (j : Int) = (j : Int) := IntWalk.i64_in _ (by omega)
          rw [← ej] at hcu hfu hM2
          have HG2 := Lib.hid hg
          have HM2 := Lib.hid hM2
          clear hx0 hy0 ex ey ev em en es ej hg hM hM2
          go_wp2_with fail
          refine wp_region_heldL (fun w' => w'.cell? ⟨w.heap.size, j, none⟩ = some (.int .u32 (v : Int)) ∧ w'.cell? ⟨b, off + i, none⟩ = some (.int .u32 (x : Int)) ∧ w'.cell? ⟨b2, off2 + k, none⟩ = some (.int .u32 (y : Int))) (by kernel_rfl) ⟨hcu, hx, hy⟩ (fun hS => ?_)
          refine wpAnyH_takeL 0 (v := ?_) (by kernel_rfl) rfl (by kernel_rfl) (by kernel_rfl) (fun _ _ _ h => h) (Or.inl ⟨by rfl, ?_⟩) (by assumption) ?_
          rotate_left
          · (intro wq hSq; (try dsimp only at hSq); go_simp; try with_reducible rfl)
          try simp only [Act.put, List.setIfInBounds_toArray, List.set_cons_zero, List.set_cons_succ]
          refine wpAnyH_takeL 1 (v := ?_) (by kernel_rfl) rfl (by kernel_rfl) (by kernel_rfl) (fun _ _ _ h => h) (Or.inl ⟨by rfl, ?_⟩) (by assumption) ?_
          rotate_left
          · (intro wq hSq; (try dsimp only at hSq); go_simp; try with_reducible rfl)
          try simp only [Act.put, List.setIfInBounds_toArray, List.set_cons_zero, List.set_cons_succ]
          refine wpAnyH_takeL 2 (v := ?_) (by kernel_rfl) rfl (by kernel_rfl) (by kernel_rfl) (fun _ _ _ h => h) (Or.inl ⟨by rfl, ?_⟩) (by assumption) ?_
          rotate_left
          · (intro wq hSq; (try dsimp only at hSq); go_simp; try with_reducible rfl)
          try simp only [Act.put, List.setIfInBounds_toArray, List.set_cons_zero, List.set_cons_succ]
          refine wpAnyH_takeL 3 (v := ?_) (by kernel_rfl) rfl (by kernel_rfl) (by kernel_rfl) (fun _ _ _ h => h) (Or.inl ⟨by rfl, ?_⟩) (by assumption) ?_
          rotate_left
          · (intro wq hSq; (try dsimp only at hSq); go_simp; try with_reducible rfl)
          try simp only [Act.put, List.setIfInBounds_toArray, List.set_cons_zero, List.set_cons_succ]
          refine wpAnyH_takeL 4 (v := ?_) (by kernel_rfl) rfl (by kernel_rfl) (by kernel_rfl) (fun _ _ _ h => h) (Or.inl ⟨by rfl, ?_⟩) (by assumption) ?_
          rotate_left
          · (intro wq hSq; (try dsimp only at hSq); go_simp; try with_reducible rfl)
          try simp only [Act.put, List.setIfInBounds_toArray, List.set_cons_zero, List.set_cons_succ]
          refine wpAnyH_takeL 5 (v := ?_) (by kernel_rfl) rfl (by kernel_rfl) (by kernel_rfl) (fun _ _ _ h => h) (Or.inl ⟨by rfl, ?_⟩) (by assumption) ?_
          rotate_left
          · (intro wq hSq; (try dsimp only at hSq); go_simp; try with_reducible rfl)
          try simp only [Act.put, List.setIfInBounds_toArray, List.set_cons_zero, List.set_cons_succ]
          refine wpAnyH_takeL 6 (v := ?_) (by kernel_rfl) rfl (by kernel_rfl) (by kernel_rfl) (fun _ _ _ h => h) (Or.inl ⟨by rfl, ?_⟩) (by assumption) ?_
          rotate_left
          · (intro wq hSq; (try dsimp only at hSq); go_simp; try with_reducible rfl)
          try simp only [Act.put, List.setIfInBounds_toArray, List.set_cons_zero, List.set_cons_succ]
          refine wpAnyH_takeL 7 (v := ?_) (by kernel_rfl) rfl (by kernel_rfl) (by kernel_rfl) (fun _ _ _ h => h) (Or.inl ⟨by rfl, ?_⟩) (by assumption) ?_
          rotate_left
          · (intro wq hSq; (try dsimp only at hSq); go_simp; try with_reducible rfl)
          try simp only [Act.put, List.setIfInBounds_toArray, List.set_cons_zero, List.set_cons_succ]
          refine wpAnyH_takeL 8 (v := ?_) (by kernel_rfl) rfl (by kernel_rfl) (by kernel_rfl) (fun _ _ _ h => h) (Or.inl ⟨by rfl, ?_⟩) (by assumption) ?_
          rotate_left
          · (intro wq hSq; (try dsimp only at hSq); go_simp; try with_reducible rfl)
          try simp only [Act.put, List.setIfInBounds_toArray, List.set_cons_zero, List.set_cons_succ]
          refine wpAnyH_takeL 9 (v := ?_) (by kernel_rfl) rfl (by kernel_rfl) (by kernel_rfl) (fun _ _ _ h => h) (Or.inl ⟨by rfl, ?_⟩) (by assumption) ?_
          rotate_left
          · (intro wq hSq; (try dsimp only at hSq); go_simp; try with_reducible rfl)
          try simp only [Act.put, List.setIfInBounds_toArray, List.set_cons_zero, List.set_cons_succ]
          refine wpAnyH_takeL 10 (v := ?_) (by kernel_rfl) rfl (by kernel_rfl) (by kernel_rfl) (fun _ _ _ h => h) (Or.inl ⟨by rfl, ?_⟩) (by assumption) ?_
          rotate_left
          · (intro wq hSq; (try dsimp only at hSq); go_simp; try with_reducible rfl)
          try simp only [Act.put, List.setIfInBounds_toArray, List.set_cons_zero, List.set_cons_succ]
          refine wpAnyH_takeL 11 (v := ?_) (by kernel_rfl) rfl (by kernel_rfl) (by kernel_rfl) (fun _ _ _ h => h) (Or.inl ⟨by rfl, ?_⟩) (by assumption) ?_
          rotate_left
          · (intro wq hSq; (try dsimp only at hSq); go_simp; try with_reducible rfl)
          try simp only [Act.put, List.setIfInBounds_toArray, List.set_cons_zero, List.set_cons_succ]
          refine wpAnyH_takeL 12 (v := ?_) (by kernel_rfl) rfl (by kernel_rfl) (by kernel_rfl) (fun _ _ _ h => h) (Or.inl ⟨by rfl, ?_⟩) (by assumption) ?_
          rotate_left
          · (intro wq hSq; (try dsimp only at hSq); go_simp; try with_reducible rfl)
          try simp only [Act.put, List.setIfInBounds_toArray, List.set_cons_zero, List.set_cons_succ]
          refine wpAnyH_takeL 13 (v := ?_) (by kernel_rfl) rfl (by kernel_rfl) (by kernel_rfl) (fun _ _ _ h => h) (Or.inl ⟨by rfl, ?_⟩) (by assumption) ?_
          rotate_left
          · (intro wq hSq; (try dsimp only at hSq); go_simp; try with_reducible rfl)
          try simp only [Act.put, List.setIfInBounds_toArray, List.set_cons_zero, List.set_cons_succ]
          refine wpAnyH_takeL 14 (v := ?_) (by kernel_rfl) rfl (by kernel_rfl) (by kernel_rfl) (fun _ _ _ h => h) (Or.inl ⟨by rfl, ?_⟩) (by assumption) ?_
          rotate_left
          · (intro wq hSq; (try dsimp only at hSq); go_simp; try with_reducible rfl)
          try simp only [Act.put, List.setIfInBounds_toArray, List.set_cons_zero, List.set_cons_succ]
          refine wpAnyH_takeL 15 (v := ?_) (by kernel_rfl) rfl (by kernel_rfl) (by kernel_rfl) (fun _ _ _ h => h) (Or.inl ⟨by rfl, ?_⟩) (by assumption) ?_
          rotate_left
          · (intro wq hSq; (try dsimp only at hSq); go_simp; try with_reducible rfl)
          try simp only [Act.put, List.setIfInBounds_toArray, List.set_cons_zero, List.set_cons_succ]
          refine wpAnyH_takeL 16 (v := ?_) (by kernel_rfl) rfl (by kernel_rfl) (by kernel_rfl) (fun _ _ _ h => h) (Or.inl ⟨by rfl, ?_⟩) (by assumption) ?_
          rotate_left
          · (intro wq hSq; (try dsimp only at hSq); go_simp; try with_reducible rfl)
          try simp only [Act.put, List.setIfInBounds_toArray, List.set_cons_zero, List.set_cons_succ]
          refine wpAnyH_takeL 17 (v := ?_) (by kernel_rfl) rfl (by kernel_rfl) (by kernel_rfl) (fun _ _ _ h => h) (Or.inl ⟨by rfl, ?_⟩) (by assumption) ?_
          rotate_left
          · (intro wq hSq; (try dsimp only at hSq); go_simp; try with_reducible rfl)
          try simp only [Act.put, List.setIfInBounds_toArray, List.set_cons_zero, List.set_cons_succ]
          refine wpAnyH_takeL 18 (v := ?_) (by kernel_rfl) rfl (by kernel_rfl) (by kernel_rfl) (fun _ _ _ h => h) (Or.inl ⟨by rfl, ?_⟩) (by assumption) ?_
          rotate_left
          · (intro wq hSq; (try dsimp only at hSq); go_simp; try with_reducible rfl)
          try simp only [Act.put, List.setIfInBounds_toArray, List.set_cons_zero, List.set_cons_succ]
          refine wpAnyH_takeL 19 (v := ?_) (by kernel_rfl) rfl (by kernel_rfl) (by kernel_rfl) (fun _ _ _ h => h) (Or.inl ⟨by rfl, ?_⟩) (by assumption) ?_
          rotate_left
          · (intro wq hSq; (try dsimp only at hSq); go_simp; try with_reducible rfl)
          try simp only [Act.put, List.setIfInBounds_toArray, List.set_cons_zero, List.set_cons_succ]
          refine wpAnyH_takeL 20 (v := ?_) (by kernel_rfl) rfl (by kernel_rfl) (by kernel_rfl) (fun _ _ _ h => h) (Or.inl ⟨by rfl, ?_⟩) (by assumption) ?_
          rotate_left
          · (intro wq hSq; (try dsimp only at hSq); go_simp; try with_reducible rfl)
          try simp only [Act.put, List.setIfInBounds_toArray, List.set_cons_zero, List.set_cons_succ]
          refine wpAnyH_end (by kernel_rfl) ?_
          go_wp2_with fail
          go_roundw
          case rel =>
            refine ⟨k + 1, s / 4294967296, t2.set j (s % 4294967296), by omega, by go_num, by simp, HM2.out, ?_, (hb.setCell (by simp) _).drew⟩
            rw [show ((s : Int) % 4294967296) = ((s % 4294967296 : Nat) : Int) by omega]
            exact arr_set HG2.out _
          case measure => simp [intOf]; omega
        · obtain rfl : k = q := by omega
          obtain ⟨hcu, hfu⟩ := arr_cell hg (i + k) (by rw [hM.len]; omega)
          have hcd := hM.clt
          have HM2 := Lib.hid (hM.row (by omega) (by omega) HVC.out)
          have HG2 := Lib.hid hg
          have w1 : (c : Int) % 4294967296 = (c : Int) := by omega
          clear hM hg
          go_wp2_with fail
          go_roundw
          case rel => exact ⟨i + 1, t2.set (i + k) c, by omega, by go_num, HM2.out, arr_set HG2.out _, hb.setCell (by simp) _⟩
          case measure => simp [intOf]; omega
    · obtain rfl : i = p := by omega
      obtain ⟨T, hT⟩ : ∃ T, T = (t.map u32V).toArray := ⟨_, rfl⟩
      rw [← hT] at hg
      have hTs : some 134 = some T.size := by rw [hT]; simp [hM.len]
      have HT := Lib.hid hT
      have HM := Lib.hid hM
      have HG := Lib.hid hg
      have HB := Lib.hid hb
      clear hT hM hg hb
      go_wp2_with (with_reducible refine wpList_load_row rfl 89 (.tmp 5) rfl w.heap.size rfl 89 T (0, 0) _ HG.out arr_und rfl (arr_info.trans hTs) ?_)
      (with_reducible refine (whole_any2 t T HT HM.out.len HM.out.low (i + q) hl _ (by omega) wr).mono ?_)
      rintro e w2 hr
      have hr2 := hr.back HB.out
      rw [HM.out.done HVA.out] at hr2
      obtain ⟨v, rfl, ho, hb2⟩ := hr2
      have HR : Hid (NumRet w (A * C) (.returned v) w2) := ⟨v, rfl, ho, hb2⟩
      clear hr ho hb2
      go_wp2
      rw [HP.out]
      exact HR.out
end Go.Proofs.Ytdfklcmiagmgaaa
