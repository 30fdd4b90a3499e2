/- Walks: the number of a form. -/
import Derived.Test.YtdfklcmiagmgaaaWM5
namespace Go.Proofs.Ytdfklcmiagmgaaa
set_option linter.all false
open Go.RowKit Go.Shelf Go.WideNum
def numB (s : ByteArray) : Nat := valM s.data.toList
theorem or_part (u x r : Nat) (hr : r < 4) (hx : x < 256) (h : u * 2 ^ (8 * r + 8) + x * 2 ^ (8 * r) < 4294967296) :
    bits .or .u32 ((u * 2 ^ (8 * r + 8) : Nat) : Int) (IntKind.u32.wrap ((x : Int) * 2 ^ (8 * r))) = ((u * 2 ^ (8 * r + 8) + x * 2 ^ (8 * r) : Nat) : Int) := by
  have h1 : IntKind.u32.wrap ((x : Int) * 2 ^ (8 * r)) = ((x * 2 ^ (8 * r) : Nat) : Int) := by
    rw [IntKind.wrap_u32]
    have e : ((x : Int) * 2 ^ (8 * r)) = ((x * 2 ^ (8 * r) : Nat) : Int) := by simp
    rw [e]
    generalize x * 2 ^ (8 * r) = y at *
    generalize u * 2 ^ (8 * r + 8) = z at *
    omega
  rw [h1]
  refine or_lo .u32 (Or.inr rfl) (8 * r + 8) u (x * 2 ^ (8 * r)) ?_ (by simp only [reduceCtorEq, if_false]; omega)
  rw [Nat.pow_add, Nat.mul_comm]
  exact (Nat.mul_lt_mul_left (Nat.pow_pos (by omega))).2 hx
set_option maxRecDepth 100000 in
set_option maxHeartbeats 4000000 in
theorem of_any (neg : Bool) (s : ByteArray) (hs : s.size ≤ 2000) (w : World) :
    Calls Try.prog 58 #[wideV neg s] w (NumRet w (numB s)) := by
  unfold wideV
  obtain ⟨n, hn⟩ : ∃ n, n = numB s := ⟨_, rfl⟩
  rw [← hn]
  have hnl : n < 256 ^ s.size := by rw [hn]; exact valM_lt _
  have HBY : Hid (∀ i (h : i < s.size), (s[i].toNat) = dig 256 n (s.size - 1 - i)) := fun i h => by rw [hn]; exact byte_dig s.data.toList i h
  obtain ⟨N, hN⟩ : ∃ N, N = s.size := ⟨_, rfl⟩
  have HNL := Lib.hid hnl
  clear hn hnl
  obtain ⟨HPOST, hpost⟩ : ∃ X, X = NumRet w n := ⟨_, rfl⟩
  rw [← hpost]
  have HP := Lib.hid hpost
  clear hpost
  obtain ⟨p, hp⟩ : ∃ p, p = (N + 3) / 4 := ⟨_, rfl⟩
  have e0 : ((s.size : Int) + 3) / 4 = (p : Int) := by omega
  have hmk : ∀ W : World, (Instr.makeSlice 58 (.int .i64 (p : Int)) (.int .i64 (p : Int))).run Try.prog W = .ok (.slice (some ⟨W.heap.size, 0, none⟩) p p) (W.alloc (.cells (zrow p) 47)) := fun W => make_nat p (by omega) W
  have HPN : Hid (4 * p ≤ N + 3 ∧ N ≤ 4 * p) := ⟨by omega, by omega⟩
  have HN := Lib.hid hN
  clear hp hN
  go_enter Try.func58, Try.ntmps58
  go_wp2_with fail
  clear e0
  go_loopw [15] (fun iv wr => ∃ i : Nat, i ≤ N ∧ iv = .int .i64 (i : Int) ∧ wr.heap[w.heap.size + 1]? = some (.cells (rowF (dig 4294967296 (topB n (N - i))) p) 47) ∧ wr.heap[w.heap.size]? = some (.cells #[.bool neg, .string s] 23) ∧ Below w.heap.size w wr) (fun iv _ => N - (intOf iv).toNat)
  case atStart =>
    refine ⟨0, Nat.zero_le _, rfl, ?_, ?_, ((Below.refl _ w).alloc (Nat.le_refl _) _).alloc (by simp) _⟩
    · rw [Nat.sub_zero, topB_all n N (by rw [HN.out]; exact HNL.out), rowF_congr (f' := fun _ => 0) (fun j hj => by simp [dig]), rowF_zero]
      exact alloc_last _ _ (by simp)
    · rw [Below.heap_alloc _ _ _ (by simp)]; exact heap_alloc_new w _
  case round =>
    obtain ⟨i, hi, rfl, hg, hw, hb⟩ := hrel
    have c0 : wr.cell? ⟨w.heap.size, 0, none⟩ = some (.bool neg) := by rw [cell_of_row wr _ _ _ _ (0, 0) hw]; rfl
    have c1 : wr.cell? ⟨w.heap.size, 1, none⟩ = some (.string s) := by rw [cell_of_row wr _ _ _ _ (0, 0) hw]; rfl
    by_cases hlt : i < N
    · have hlt2 : i < s.size := by rw [← HN.out]; exact hlt
      have hlt3 : (i : Int) < (s.size : Int) := by omega
      obtain ⟨k, hk⟩ : ∃ k, k = N - 1 - i := ⟨_, rfl⟩
      obtain ⟨q, hq⟩ : ∃ q, q = k / 4 := ⟨_, rfl⟩
      obtain ⟨r, hr⟩ : ∃ r, r = k % 4 := ⟨_, rfl⟩
      have hNs := HN.out
      have hPN := HPN.out
      have e1 : (s.size : Int) - 1 - (i : Int) = (k : Int) := by omega
      have e2 : (k : Int) / 4 = (q : Int) := by omega
      have e3 : (k : Int) % 4 = (r : Int) := by omega
      have hr4 : r < 4 := by omega
      have hqp : q < p := by omega
      have hkk : k = 4 * q + r := by omega
      have hki : N - i = k + 1 := by omega
      have hki2 : N - (i + 1) = k := by omega
      obtain ⟨hst1, u, hst2, hst3⟩ := topB_step n k q r hkk hr4
      rw [hki] at hg
      obtain ⟨hcu, hfu⟩ := rowF_cell hg q hqp
      rw [hst2] at hcu
      have hby := HBY.out i hlt2
      rw [← hNs, ← hk] at hby
      have hdl := wd_dig (topB n k) q
      rw [hst3] at hdl
      have hor := or_part u (dig 256 n k) r hr4 (dig_lt (by omega) _ _) hdl
      rw [← hst3] at hor
      obtain ⟨x, hx⟩ : ∃ x, x = s[i].toNat := ⟨_, rfl⟩
      rw [← hby, ← hx] at hor
      obtain ⟨o, ho⟩ : ∃ o, o = u * 2 ^ (8 * r + 8) := ⟨_, rfl⟩
      rw [← ho] at hor hcu
      obtain ⟨z, hz⟩ : ∃ z, z = dig 4294967296 (topB n k) q := ⟨_, rfl⟩
      rw [← hz] at hor
      have hx256 : x < 256 := by rw [hx]; exact s[i].toNat_lt
      have hxx : (s[i].toNat : Int) = (x : Int) := by rw [hx]
      have HST1 := Lib.hid hst1
      have HZ := Lib.hid hz
      have HG := Lib.hid hg
      have HKI2 := Lib.hid hki2
      have w1 : IntKind.i64.wrap (q : Int) = (q : Int) := IntWalk.i64_in _ (by omega)
      have w2 : IntKind.i64.wrap (r : Int) = (r : Int) := IntWalk.i64_in _ (by omega)
      have w3 : IntKind.i64.wrap (8 * (r : Int)) = 8 * (r : Int) := IntWalk.i64_in _ (by omega)
      have w4 : (0 : Int) ≤ (q : Int) := by omega
      have w5 : (q : Int) < (p : Int) := by omega
      have w6 : (0 : Int) ≤ 8 * (r : Int) := by omega
      have w7 : (0 : Int) ≤ (i : Int) := by omega
      have w8 : (k : Int).tmod 4 = (r : Int) := by rw [Int.tmod_eq_emod_of_nonneg (by omega)]; omega
      have w9 : (k : Int).tdiv 4 = (q : Int) := by rw [Int.tdiv_eq_ediv_of_nonneg (by omega)]; omega
      have w10 : IntKind.u32.wrap (x : Int) = (x : Int) := by rw [IntKind.wrap_u32]; omega
      have w11 : (8 * (r : Int)).toNat = 8 * r := by omega
      clear hst1 hst2 hst3 hz ho hx hby hki hki2 hkk hg hq hr hk hNs hPN hdl
      go_wp2_with fail
      refine wp_region_line (fun w' => w'.cell? ⟨w.heap.size + 1, q, none⟩ = some (.int .u32 (o : Int)) ∧ w'.cell? ⟨w.heap.size, 1, none⟩ = some (.string s)) 16 (by kernel_rfl) ⟨hcu, c1⟩ (fun hHeld => ?_)
      refine wpAnyT_take 0 (v := ?_) (by kernel_rfl) rfl (by kernel_rfl) (by decide) rfl (by kernel_rfl) (by kernel_rfl) (fun _ _ _ h => h) (Or.inl ⟨by rfl, ?_⟩) (by assumption) ?_
      rotate_left
      · (intro wq hSq; (try dsimp only at hSq); go_simp; try with_reducible rfl)
      try simp only [Act.put, List.setIfInBounds_toArray, List.set_cons_zero, List.set_cons_succ]
      refine wpAnyT_take 1 (v := ?_) (by kernel_rfl) rfl (by kernel_rfl) (by decide) rfl (by kernel_rfl) (by kernel_rfl) (fun _ _ _ h => h) (Or.inl ⟨by rfl, ?_⟩) (by assumption) ?_
      rotate_left
      · (intro wq hSq; (try dsimp only at hSq); go_simp; try with_reducible rfl)
      try simp only [Act.put, List.setIfInBounds_toArray, List.set_cons_zero, List.set_cons_succ]
      refine wpAnyT_take 2 (v := ?_) (by kernel_rfl) rfl (by kernel_rfl) (by decide) rfl (by kernel_rfl) (by kernel_rfl) (fun _ _ _ h => h) (Or.inl ⟨by rfl, ?_⟩) (by assumption) ?_
      rotate_left
      · (intro wq hSq; (try dsimp only at hSq); go_simp; try with_reducible rfl)
      try simp only [Act.put, List.setIfInBounds_toArray, List.set_cons_zero, List.set_cons_succ]
      refine wpAnyT_take 3 (v := ?_) (by kernel_rfl) rfl (by kernel_rfl) (by decide) rfl (by kernel_rfl) (by kernel_rfl) (fun _ _ _ h => h) (Or.inl ⟨by rfl, ?_⟩) (by assumption) ?_
      rotate_left
      · (intro wq hSq; (try dsimp only at hSq); go_simp; try with_reducible rfl)
      try simp only [Act.put, List.setIfInBounds_toArray, List.set_cons_zero, List.set_cons_succ]
      refine wpAnyT_take 4 (v := ?_) (by kernel_rfl) rfl (by kernel_rfl) (by decide) rfl (by kernel_rfl) (by kernel_rfl) (fun _ _ _ h => h) (Or.inl ⟨by rfl, ?_⟩) (by assumption) ?_
      rotate_left
      · (intro wq hSq; (try dsimp only at hSq); go_simp; try with_reducible rfl)
      try simp only [Act.put, List.setIfInBounds_toArray, List.set_cons_zero, List.set_cons_succ]
      refine wpAnyT_take 5 (v := ?_) (by kernel_rfl) rfl (by kernel_rfl) (by decide) rfl (by kernel_rfl) (by kernel_rfl) (fun _ _ _ h => h) (Or.inl ⟨by rfl, ?_⟩) (by assumption) ?_
      rotate_left
      · (intro wq hSq; (try dsimp only at hSq); go_simp; try with_reducible rfl)
      try simp only [Act.put, List.setIfInBounds_toArray, List.set_cons_zero, List.set_cons_succ]
      refine wpAnyT_take 6 (v := ?_) (by kernel_rfl) rfl (by kernel_rfl) (by decide) rfl (by kernel_rfl) (by kernel_rfl) (fun _ _ _ h => h) (Or.inl ⟨by rfl, ?_⟩) (by assumption) ?_
      rotate_left
      · (intro wq hSq; (try dsimp only at hSq); go_simp; try with_reducible rfl)
      try simp only [Act.put, List.setIfInBounds_toArray, List.set_cons_zero, List.set_cons_succ]
      refine wpAnyT_take 7 (v := ?_) (by kernel_rfl) rfl (by kernel_rfl) (by decide) rfl (by kernel_rfl) (by kernel_rfl) (fun _ _ _ h => h) (Or.inl ⟨by rfl, ?_⟩) (by assumption) ?_
      rotate_left
      · (intro wq hSq; (try dsimp only at hSq); go_simp; try with_reducible rfl)
      try simp only [Act.put, List.setIfInBounds_toArray, List.set_cons_zero, List.set_cons_succ]
      refine wpAnyT_take 8 (v := ?_) (by kernel_rfl) rfl (by kernel_rfl) (by decide) rfl (by kernel_rfl) (by kernel_rfl) (fun _ _ _ h => h) (Or.inl ⟨by rfl, ?_⟩) (by assumption) ?_
      rotate_left
      · (intro wq hSq; (try dsimp only at hSq); go_simp; try with_reducible rfl)
      try simp only [Act.put, List.setIfInBounds_toArray, List.set_cons_zero, List.set_cons_succ]
      refine wpAnyT_take 9 (v := ?_) (by kernel_rfl) rfl (by kernel_rfl) (by decide) rfl (by kernel_rfl) (by kernel_rfl) (fun _ _ _ h => h) (Or.inl ⟨by rfl, ?_⟩) (by assumption) ?_
      rotate_left
      · (intro wq hSq; (try dsimp only at hSq); go_simp; try with_reducible rfl)
      try simp only [Act.put, List.setIfInBounds_toArray, List.set_cons_zero, List.set_cons_succ]
      refine wpAnyT_take 10 (v := ?_) (by kernel_rfl) rfl (by kernel_rfl) (by decide) rfl (by kernel_rfl) (by kernel_rfl) (fun _ _ _ h => h) (Or.inl ⟨by rfl, ?_⟩) (by assumption) ?_
      rotate_left
      · (intro wq hSq; (try dsimp only at hSq); go_simp; try with_reducible rfl)
      try simp only [Act.put, List.setIfInBounds_toArray, List.set_cons_zero, List.set_cons_succ]
      refine wpAnyT_take 11 (v := ?_) (by kernel_rfl) rfl (by kernel_rfl) (by decide) rfl (by kernel_rfl) (by kernel_rfl) (fun _ _ _ h => h) (Or.inl ⟨by rfl, ?_⟩) (by assumption) ?_
      rotate_left
      · (intro wq hSq; (try dsimp only at hSq); go_simp; try with_reducible rfl)
      try simp only [Act.put, List.setIfInBounds_toArray, List.set_cons_zero, List.set_cons_succ]
      refine wpAnyT_take 12 (v := ?_) (by kernel_rfl) rfl (by kernel_rfl) (by decide) rfl (by kernel_rfl) (by kernel_rfl) (fun _ _ _ h => h) (Or.inl ⟨by rfl, ?_⟩) (by assumption) ?_
      rotate_left
      · (intro wq hSq; (try dsimp only at hSq); go_simp; try with_reducible rfl)
      try simp only [Act.put, List.setIfInBounds_toArray, List.set_cons_zero, List.set_cons_succ]
      refine wpAnyT_take 13 (v := ?_) (by kernel_rfl) rfl (by kernel_rfl) (by decide) rfl (by kernel_rfl) (by kernel_rfl) (fun _ _ _ h => h) (Or.inl ⟨by rfl, ?_⟩) (by assumption) ?_
      rotate_left
      · (intro wq hSq; (try dsimp only at hSq); go_simp; try with_reducible rfl)
      try simp only [Act.put, List.setIfInBounds_toArray, List.set_cons_zero, List.set_cons_succ]
      refine wpAnyT_take 14 (v := ?_) (by kernel_rfl) rfl (by kernel_rfl) (by decide) rfl (by kernel_rfl) (by kernel_rfl) (fun _ _ _ h => h) (Or.inl ⟨by rfl, ?_⟩) (by assumption) ?_
      rotate_left
      · (intro wq hSq; (try dsimp only at hSq); go_simp; try with_reducible rfl)
      try simp only [Act.put, List.setIfInBounds_toArray, List.set_cons_zero, List.set_cons_succ]
      refine wpAnyT_take 15 (v := ?_) (by kernel_rfl) rfl (by kernel_rfl) (by decide) rfl (by kernel_rfl) (by kernel_rfl) (fun _ _ _ h => h) (Or.inl ⟨by rfl, ?_⟩) (by assumption) ?_
      rotate_left
      · (intro wq hSq; (try dsimp only at hSq); go_simp; try with_reducible rfl)
      try simp only [Act.put, List.setIfInBounds_toArray, List.set_cons_zero, List.set_cons_succ]
      refine wpAnyT_last (by kernel_rfl) (by kernel_rfl) rfl (fun K hK => ?_)
      go_simp
      refine hK.out _ _ ?_
      clear hK K hHeld
      go_wp2
      go_roundw
      case rel =>
        refine ⟨i + 1, by omega, by go_num, ?_, ?_, ((hb.setCell (by simp) _).drew)⟩
        · rw [HKI2.out, HZ.out]
          exact rowF_set (f' := dig 4294967296 (topB n k)) HG.out (fun j _ hj => HST1.out j hj)
        · exact (Below.heap_setCell wr ⟨w.heap.size + 1, q, none⟩ _ w.heap.size (by simp)).trans hw
      case measure => simp [intOf]; omega
    · obtain rfl : i = N := by omega
      rw [Nat.sub_self, topB_zero] at hg
      have hNs : (s.size : Int) = (i : Int) := by rw [HN.out]
      obtain ⟨R, HR⟩ : ∃ R, Hid (R = (trimL ((List.range p).map (dig 4294967296 n))).length) := ⟨_, rfl⟩
      have HG := Lib.hid hg
      have hpp : p ≤ 100000 := by have := HPN.out; have := HN.out; omega
      have HNP : Hid (n < 4294967296 ^ p) := by
        show _ < _
        rw [pow4]
        exact Nat.lt_of_lt_of_le HNL.out (Nat.pow_le_pow_right (by omega) (by have := HPN.out; have := HN.out; omega))
      clear hg
      go_wp2_with fail
      (with_reducible refine (norm_rowF _ _ _ R HR _ _ HG.out hpp).mono ?_)
      rintro e w2 ⟨rfl, rfl⟩
      go_wp2
      rw [HP.out]
      exact num_retF HR HG.out hb (by omega) hpp HNP.out
end Go.Proofs.Ytdfklcmiagmgaaa
