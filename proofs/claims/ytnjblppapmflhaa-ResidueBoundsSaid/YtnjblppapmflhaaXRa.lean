/- Wide integers: helpers and walks, in one text (XR1 XR2 XR3 XR4 XR5). -/
import Derived.Test.YtnjblppapmflhaaWQ1
import Derived.Test.YtnjblppapmflhaaWQ2
/- The reference's numbers: words of 16 bits: compared, their sum, their difference. -/
namespace Go.Proofs.Ytnjblppapmflhaa
set_option linter.all false
open Go.RowKit Go.Shelf Go.WideNum
/-- A number of the reference in memory. -/
abbrev World.numH (w : World) (v : Value) (n : Nat) : Prop := w.reads w.heap.size v ((hw n).map u32V)
/-- One with zeros at its end: L words. -/
abbrev World.rawH (w : World) (v : Value) (n L : Nat) : Prop := w.reads w.heap.size v (((List.range L).map (dig 65536 n)).map u32V)
def HRet (w : World) (n : Nat) (e : Ending) (w' : World) : Prop := ∃ v, e = .returned v ∧ World.numH w' v n ∧ Below w.heap.size w w'
def RawRet (w : World) (n L : Nat) (e : Ending) (w' : World) : Prop := ∃ v, e = .returned v ∧ World.rawH w' v n L ∧ Below w.heap.size w w'
theorem range_hw (n m : Nat) (h : n < 65536 ^ m) : trimL ((List.range m).map (dig 65536 n)) = hw n := trim_range (by omega) n m h
theorem hw_range (n : Nat) : (List.range (hw n).length).map (dig 65536 n) = hw n := by
  apply List.ext_getElem?
  intro i
  rcases Nat.lt_or_ge i (hw n).length with h | h
  · rw [hw_get n i h]; simp [h]
  · rw [List.getElem?_eq_none (by simpa using h), List.getElem?_eq_none h]
theorem numH_below {w w' : World} {v : Value} {n : Nat} (h : World.numH w v n) (hb : Below w.heap.size w w') : World.numH w' v n := (World.reads.below h hb).mono hb.size
theorem rawH_below {w w' : World} {v : Value} {n L : Nat} (h : World.rawH w v n L) (hb : Below w.heap.size w w') : World.rawH w' v n L := (World.reads.below h hb).mono hb.size
theorem numH_raw {w : World} {v : Value} {n : Nat} (h : World.numH w v n) : World.rawH w v n (hw n).length := by
  show w.reads _ _ _
  rw [hw_range]; exact h
theorem rawH_num {w : World} {v : Value} {n L : Nat} (h : World.rawH w v n L) (hL : L = (hw n).length) : World.numH w v n := by
  subst hL
  have h : w.reads _ _ _ := h
  rw [hw_range] at h; exact h
theorem hw_len_lt {A C : Nat} (h : (hw A).length < (hw C).length) : A < C := by
  rcases Nat.lt_or_ge A C with h1 | h1
  · exact h1
  · have h2 := words_length (B := 65536) (by omega) C (hw A).length (Nat.lt_of_le_of_lt h1 (hw_vlt A))
    unfold hw at h h2
    omega
theorem hw_len_ge {n k : Nat} (h : k < (hw n).length) : 65536 ^ k ≤ n := by
  rcases Nat.lt_or_ge n (65536 ^ k) with h1 | h1
  · have := words_length (B := 65536) (by omega) n k h1
    unfold hw at h; omega
  · exact h1
theorem hw_len_le {n k : Nat} (h : n < 65536 ^ k) : (hw n).length ≤ k := words_length (by omega) n k h
theorem cmpTo_hw (A C k : Nat) (h1 : k = (hw A).length) (h2 : k = (hw C).length) : cmpTo (hw A) (hw C) k = cmpN A C := by
  rw [cmpTo_val 65536 (by omega) (hw A) (hw C) (words_lt (by omega) A A) (words_lt (by omega) C C) k (by omega) (by omega), List.take_of_length_le (by omega), List.take_of_length_le (by omega), valW_hw, valW_hw]
  rfl
/-- The words that a contract asks for, one by one. -/
theorem numH_words {w : World} {v : Value} {n : Nat} (h : World.numH w v n) : ∃ (a : Option Addr) (p c : Nat), p = (hw n).length ∧ v = .slice a p c ∧ p ≤ c ∧ c ≤ maxLen ∧
    ∀ k, k < p → ∃ b off, a = some ⟨b, off, none⟩ ∧ b < w.heap.size ∧ w.cell? ⟨b, off + k, none⟩ = some (.int .u32 (dig 65536 n k : Int)) := by
  obtain ⟨a, c, rfl, hc, hm, hs⟩ := reads_u32 h
  exact ⟨a, _, c, rfl, rfl, hc, hm, fun k hk => hs k _ (hw_get n k hk)⟩
theorem owns_nil (w : World) (base : Nat) (T : TypeId) : w.owns base T 1 (.slice none 0 0) 0 [] := ⟨rfl, .inl ⟨rfl, rfl⟩⟩
set_option maxRecDepth 100000 in
set_option maxHeartbeats 4000000 in
theorem order_num (A C : Nat) (va vb : Value) (w : World) (hA : World.numH w va A) (hC : World.numH w vb C) (hla : (hw A).length ≤ 4000) (hlc : (hw C).length ≤ 4000) :
    Calls Try.prog 85 #[va, vb] w fun e w' => e = .returned (.int .i64 (cmpN A C)) ∧ ∃ n, w' = w.drewN n := by
  obtain ⟨aa, p, ca, hp, rfl, hca, hma, hsa⟩ := numH_words hA
  obtain ⟨ab, q, cb, hq, rfl, hcb, hmb, hsb⟩ := numH_words hC
  clear hA hC
  rw [← hp] at hla
  rw [← hq] at hlc
  obtain ⟨R, hR⟩ : ∃ R, R = cmpN A C := ⟨_, rfl⟩
  rw [← hR]
  have HA := Lib.hid hsa
  have HC := Lib.hid hsb
  clear hsa hsb
  rcases Nat.lt_trichotomy p q with h | h | h
  · have h1 : (p : Int) < (q : Int) := by omega
    have h2 : ((p : Int) != (q : Int)) = true := by rw [bne_iff_ne]; omega
    have hre : R = -1 := by rw [hR, cmpN, if_pos (hw_len_lt (by omega))]
    subst hre
    clear h hp hq hR
    go_enter Try.func85, Try.ntmps85
    go_wp2
    go_ret
    exact ⟨rfl, 0, rfl⟩
  · subst h
    have hre : Hid (R = cmpTo (hw A) (hw C) p) := by show _ = _; rw [hR, cmpTo_hw A C p hp hq]
    have h2 : ((p : Int) != (p : Int)) = false := by simp
    have HPA := Lib.hid hp
    have HPC := Lib.hid hq
    clear hR hp hq
    go_enter Try.func85, Try.ntmps85
    go_wp2_with fail
    go_loopw [5] (fun iv wr => ∃ (k n : Nat), k ≤ p ∧ iv = .int .i64 ((k : Int) - 1) ∧ Hid (R = cmpTo (hw A) (hw C) k) ∧ wr = w.drewN n) (fun iv _ => (intOf iv + 1).toNat)
    case atStart => exact ⟨p, 0, Nat.le_refl _, rfl, hre.out, rfl⟩
    case round =>
      obtain ⟨k, n, hk, rfl, hT, hwr⟩ := hrel
      cases k with
      | zero =>
        have hre0 : R = 0 := hT.out
        subst hre0
        have h0 : ¬ (0 : Int) ≤ ((0 : Nat) : Int) - 1 := by omega
        go_wp2
        go_ret
        exact ⟨rfl, n, by first | exact hwr | rfl⟩
      | succ j =>
        rw [show ((j + 1 : Nat) : Int) - 1 = (j : Int) by omega]
        obtain ⟨ba, oa, rfl, hba, cx⟩ := HA.out j (by omega)
        obtain ⟨bb, ob, rfl, hbb, cy⟩ := HC.out j (by omega)
        have hst : Hid (R = if dig 65536 A j < dig 65536 C j then -1 else if dig 65536 C j < dig 65536 A j then 1 else cmpTo (hw A) (hw C) j) := by
          show _ = _
          rw [hT.out, cmpTo, List.getD_eq_getElem?_getD, List.getD_eq_getElem?_getD, hw_get A j (by have := HPA.out; omega), hw_get C j (by have := HPC.out; omega)]; rfl
        obtain ⟨x, ex⟩ : ∃ x, x = dig 65536 A j := ⟨_, rfl⟩
        obtain ⟨y, ey⟩ : ∃ x, x = dig 65536 C j := ⟨_, rfl⟩
        rw [← ex] at cx hst
        rw [← ey] at cy hst
        have kx : wr.cell? ⟨ba, oa + j, none⟩ = some (.int .u32 (x : Int)) := by rw [hwr]; exact cx
        have ky : wr.cell? ⟨bb, ob + j, none⟩ = some (.int .u32 (y : Int)) := by rw [hwr]; exact cy
        have HW := Lib.hid hwr
        have hjp : j < p := by omega
        have hjp' : (j : Int) < (p : Int) := by omega
        clear ex ey cx cy hwr
        rcases Nat.lt_trichotomy x y with h | h | h
        · have t0 : ((x : Int) != (y : Int)) = true := by rw [bne_iff_ne]; omega
          have t1 : decide ((x : Int) < (y : Int)) = true := decide_eq_true (by omega)
          have hre1 : R = -1 := by rw [hst.out, if_pos h]
          subst hre1
          go_wp2_with fail
          refine wp_region_heldL (fun w' => w'.cell? ⟨ba, oa + j, none⟩ = some (.int .u32 (x : Int)) ∧ w'.cell? ⟨bb, ob + j, none⟩ = some (.int .u32 (y : Int))) (by kernel_rfl) ⟨kx, ky⟩ (fun hS => ?_)
          refine wpAnyH_takeL 0 (v := ?_) (by kernel_rfl) rfl (by kernel_rfl) (by kernel_rfl) (fun _ _ _ h => h) (Or.inl ⟨by rfl, ?_⟩) (by assumption) ?_
          rotate_left
          · (intro wq hSq; (try dsimp only at hSq); go_simp; try with_reducible rfl)
          try simp only [Act.put, List.setIfInBounds_toArray, List.set_cons_zero, List.set_cons_succ]
          refine wpAnyH_takeL 1 (v := ?_) (by kernel_rfl) rfl (by kernel_rfl) (by kernel_rfl) (fun _ _ _ h => h) (Or.inl ⟨by rfl, ?_⟩) (by assumption) ?_
          rotate_left
          · (intro wq hSq; (try dsimp only at hSq); go_simp; try with_reducible rfl)
          try simp only [Act.put, List.setIfInBounds_toArray, List.set_cons_zero, List.set_cons_succ]
          refine wpAnyH_takeL 2 (v := ?_) (by kernel_rfl) rfl (by kernel_rfl) (by kernel_rfl) (fun _ _ _ h => h) (Or.inl ⟨by rfl, ?_⟩) (by assumption) ?_
          rotate_left
          · (intro wq hSq; (try dsimp only at hSq); go_simp; try with_reducible rfl)
          try simp only [Act.put, List.setIfInBounds_toArray, List.set_cons_zero, List.set_cons_succ]
          refine wpAnyH_takeL 3 (v := ?_) (by kernel_rfl) rfl (by kernel_rfl) (by kernel_rfl) (fun _ _ _ h => h) (Or.inl ⟨by rfl, ?_⟩) (by assumption) ?_
          rotate_left
          · (intro wq hSq; (try dsimp only at hSq); go_simp; try with_reducible rfl)
          try simp only [Act.put, List.setIfInBounds_toArray, List.set_cons_zero, List.set_cons_succ]
          refine wpAnyH_takeL 4 (v := ?_) (by kernel_rfl) rfl (by kernel_rfl) (by kernel_rfl) (fun _ _ _ h => h) (Or.inl ⟨by rfl, ?_⟩) (by assumption) ?_
          rotate_left
          · (intro wq hSq; (try dsimp only at hSq); go_simp; try with_reducible rfl)
          try simp only [Act.put, List.setIfInBounds_toArray, List.set_cons_zero, List.set_cons_succ]
          refine wpAnyH_takeL 5 (v := ?_) (by kernel_rfl) rfl (by kernel_rfl) (by kernel_rfl) (fun _ _ _ h => h) (Or.inl ⟨by rfl, ?_⟩) (by assumption) ?_
          rotate_left
          · (intro wq hSq; (try dsimp only at hSq); go_simp; try with_reducible rfl)
          try simp only [Act.put, List.setIfInBounds_toArray, List.set_cons_zero, List.set_cons_succ]
          refine wpAnyH_takeL 6 (v := ?_) (by kernel_rfl) rfl (by kernel_rfl) (by kernel_rfl) (fun _ _ _ h => h) (Or.inl ⟨by rfl, ?_⟩) (by assumption) ?_
          rotate_left
          · (intro wq hSq; (try dsimp only at hSq); go_simp; try with_reducible rfl)
          try simp only [Act.put, List.setIfInBounds_toArray, List.set_cons_zero, List.set_cons_succ]
          refine wpAnyH_takeL 7 (v := ?_) (by kernel_rfl) rfl (by kernel_rfl) (by kernel_rfl) (fun _ _ _ h => h) (Or.inl ⟨by rfl, ?_⟩) (by assumption) ?_
          rotate_left
          · (intro wq hSq; (try dsimp only at hSq); go_simp; try with_reducible rfl)
          try simp only [Act.put, List.setIfInBounds_toArray, List.set_cons_zero, List.set_cons_succ]
          refine wpAnyH_takeL 8 (v := ?_) (by kernel_rfl) rfl (by kernel_rfl) (by kernel_rfl) (fun _ _ _ h => h) (Or.inl ⟨by rfl, ?_⟩) (by assumption) ?_
          rotate_left
          · (intro wq hSq; (try dsimp only at hSq); go_simp; try with_reducible rfl)
          try simp only [Act.put, List.setIfInBounds_toArray, List.set_cons_zero, List.set_cons_succ]
          refine wpAnyH_end (by kernel_rfl) ?_
          go_wp2_with fail
          refine wp_region_heldL (fun w' => w'.cell? ⟨ba, oa + j, none⟩ = some (.int .u32 (x : Int)) ∧ w'.cell? ⟨bb, ob + j, none⟩ = some (.int .u32 (y : Int))) (by kernel_rfl) ⟨kx, ky⟩ (fun hS => ?_)
          refine wpAnyH_takeL 0 (v := ?_) (by kernel_rfl) rfl (by kernel_rfl) (by kernel_rfl) (fun _ _ _ h => h) (Or.inl ⟨by rfl, ?_⟩) (by assumption) ?_
          rotate_left
          · (intro wq hSq; (try dsimp only at hSq); go_simp; try with_reducible rfl)
          try simp only [Act.put, List.setIfInBounds_toArray, List.set_cons_zero, List.set_cons_succ]
          refine wpAnyH_takeL 1 (v := ?_) (by kernel_rfl) rfl (by kernel_rfl) (by kernel_rfl) (fun _ _ _ h => h) (Or.inl ⟨by rfl, ?_⟩) (by assumption) ?_
          rotate_left
          · (intro wq hSq; (try dsimp only at hSq); go_simp; try with_reducible rfl)
          try simp only [Act.put, List.setIfInBounds_toArray, List.set_cons_zero, List.set_cons_succ]
          refine wpAnyH_takeL 2 (v := ?_) (by kernel_rfl) rfl (by kernel_rfl) (by kernel_rfl) (fun _ _ _ h => h) (Or.inl ⟨by rfl, ?_⟩) (by assumption) ?_
          rotate_left
          · (intro wq hSq; (try dsimp only at hSq); go_simp; try with_reducible rfl)
          try simp only [Act.put, List.setIfInBounds_toArray, List.set_cons_zero, List.set_cons_succ]
          refine wpAnyH_takeL 3 (v := ?_) (by kernel_rfl) rfl (by kernel_rfl) (by kernel_rfl) (fun _ _ _ h => h) (Or.inl ⟨by rfl, ?_⟩) (by assumption) ?_
          rotate_left
          · (intro wq hSq; (try dsimp only at hSq); go_simp; try with_reducible rfl)
          try simp only [Act.put, List.setIfInBounds_toArray, List.set_cons_zero, List.set_cons_succ]
          refine wpAnyH_takeL 4 (v := ?_) (by kernel_rfl) rfl (by kernel_rfl) (by kernel_rfl) (fun _ _ _ h => h) (Or.inl ⟨by rfl, ?_⟩) (by assumption) ?_
          rotate_left
          · (intro wq hSq; (try dsimp only at hSq); go_simp; try with_reducible rfl)
          try simp only [Act.put, List.setIfInBounds_toArray, List.set_cons_zero, List.set_cons_succ]
          refine wpAnyH_takeL 5 (v := ?_) (by kernel_rfl) rfl (by kernel_rfl) (by kernel_rfl) (fun _ _ _ h => h) (Or.inl ⟨by rfl, ?_⟩) (by assumption) ?_
          rotate_left
          · (intro wq hSq; (try dsimp only at hSq); go_simp; try with_reducible rfl)
          try simp only [Act.put, List.setIfInBounds_toArray, List.set_cons_zero, List.set_cons_succ]
          refine wpAnyH_takeL 6 (v := ?_) (by kernel_rfl) rfl (by kernel_rfl) (by kernel_rfl) (fun _ _ _ h => h) (Or.inl ⟨by rfl, ?_⟩) (by assumption) ?_
          rotate_left
          · (intro wq hSq; (try dsimp only at hSq); go_simp; try with_reducible rfl)
          try simp only [Act.put, List.setIfInBounds_toArray, List.set_cons_zero, List.set_cons_succ]
          refine wpAnyH_takeL 7 (v := ?_) (by kernel_rfl) rfl (by kernel_rfl) (by kernel_rfl) (fun _ _ _ h => h) (Or.inl ⟨by rfl, ?_⟩) (by assumption) ?_
          rotate_left
          · (intro wq hSq; (try dsimp only at hSq); go_simp; try with_reducible rfl)
          try simp only [Act.put, List.setIfInBounds_toArray, List.set_cons_zero, List.set_cons_succ]
          refine wpAnyH_takeL 8 (v := ?_) (by kernel_rfl) rfl (by kernel_rfl) (by kernel_rfl) (fun _ _ _ h => h) (Or.inl ⟨by rfl, ?_⟩) (by assumption) ?_
          rotate_left
          · (intro wq hSq; (try dsimp only at hSq); go_simp; try with_reducible rfl)
          try simp only [Act.put, List.setIfInBounds_toArray, List.set_cons_zero, List.set_cons_succ]
          refine wpAnyH_end (by kernel_rfl) ?_
          go_wp2
          go_ret
          exact ⟨rfl, n + 1 + 1, by rw [HW.out]; rfl⟩
        · subst h
          have t0 : ((x : Int) != (x : Int)) = false := by simp
          have HREJ : Hid (R = cmpTo (hw A) (hw C) j) := by show _ = _; rw [hst.out, if_neg (by omega), if_neg (by omega)]
          go_wp2_with fail
          refine wp_region_heldL (fun w' => w'.cell? ⟨ba, oa + j, none⟩ = some (.int .u32 (x : Int)) ∧ w'.cell? ⟨bb, ob + j, none⟩ = some (.int .u32 (x : Int))) (by kernel_rfl) ⟨kx, ky⟩ (fun hS => ?_)
          refine wpAnyH_takeL 0 (v := ?_) (by kernel_rfl) rfl (by kernel_rfl) (by kernel_rfl) (fun _ _ _ h => h) (Or.inl ⟨by rfl, ?_⟩) (by assumption) ?_
          rotate_left
          · (intro wq hSq; (try dsimp only at hSq); go_simp; try with_reducible rfl)
          try simp only [Act.put, List.setIfInBounds_toArray, List.set_cons_zero, List.set_cons_succ]
          refine wpAnyH_takeL 1 (v := ?_) (by kernel_rfl) rfl (by kernel_rfl) (by kernel_rfl) (fun _ _ _ h => h) (Or.inl ⟨by rfl, ?_⟩) (by assumption) ?_
          rotate_left
          · (intro wq hSq; (try dsimp only at hSq); go_simp; try with_reducible rfl)
          try simp only [Act.put, List.setIfInBounds_toArray, List.set_cons_zero, List.set_cons_succ]
          refine wpAnyH_takeL 2 (v := ?_) (by kernel_rfl) rfl (by kernel_rfl) (by kernel_rfl) (fun _ _ _ h => h) (Or.inl ⟨by rfl, ?_⟩) (by assumption) ?_
          rotate_left
          · (intro wq hSq; (try dsimp only at hSq); go_simp; try with_reducible rfl)
          try simp only [Act.put, List.setIfInBounds_toArray, List.set_cons_zero, List.set_cons_succ]
          refine wpAnyH_takeL 3 (v := ?_) (by kernel_rfl) rfl (by kernel_rfl) (by kernel_rfl) (fun _ _ _ h => h) (Or.inl ⟨by rfl, ?_⟩) (by assumption) ?_
          rotate_left
          · (intro wq hSq; (try dsimp only at hSq); go_simp; try with_reducible rfl)
          try simp only [Act.put, List.setIfInBounds_toArray, List.set_cons_zero, List.set_cons_succ]
          refine wpAnyH_takeL 4 (v := ?_) (by kernel_rfl) rfl (by kernel_rfl) (by kernel_rfl) (fun _ _ _ h => h) (Or.inl ⟨by rfl, ?_⟩) (by assumption) ?_
          rotate_left
          · (intro wq hSq; (try dsimp only at hSq); go_simp; try with_reducible rfl)
          try simp only [Act.put, List.setIfInBounds_toArray, List.set_cons_zero, List.set_cons_succ]
          refine wpAnyH_takeL 5 (v := ?_) (by kernel_rfl) rfl (by kernel_rfl) (by kernel_rfl) (fun _ _ _ h => h) (Or.inl ⟨by rfl, ?_⟩) (by assumption) ?_
          rotate_left
          · (intro wq hSq; (try dsimp only at hSq); go_simp; try with_reducible rfl)
          try simp only [Act.put, List.setIfInBounds_toArray, List.set_cons_zero, List.set_cons_succ]
          refine wpAnyH_takeL 6 (v := ?_) (by kernel_rfl) rfl (by kernel_rfl) (by kernel_rfl) (fun _ _ _ h => h) (Or.inl ⟨by rfl, ?_⟩) (by assumption) ?_
          rotate_left
          · (intro wq hSq; (try dsimp only at hSq); go_simp; try with_reducible rfl)
          try simp only [Act.put, List.setIfInBounds_toArray, List.set_cons_zero, List.set_cons_succ]
          refine wpAnyH_takeL 7 (v := ?_) (by kernel_rfl) rfl (by kernel_rfl) (by kernel_rfl) (fun _ _ _ h => h) (Or.inl ⟨by rfl, ?_⟩) (by assumption) ?_
          rotate_left
          · (intro wq hSq; (try dsimp only at hSq); go_simp; try with_reducible rfl)
          try simp only [Act.put, List.setIfInBounds_toArray, List.set_cons_zero, List.set_cons_succ]
          refine wpAnyH_takeL 8 (v := ?_) (by kernel_rfl) rfl (by kernel_rfl) (by kernel_rfl) (fun _ _ _ h => h) (Or.inl ⟨by rfl, ?_⟩) (by assumption) ?_
          rotate_left
          · (intro wq hSq; (try dsimp only at hSq); go_simp; try with_reducible rfl)
          try simp only [Act.put, List.setIfInBounds_toArray, List.set_cons_zero, List.set_cons_succ]
          refine wpAnyH_end (by kernel_rfl) ?_
          go_wp2
          go_roundw
          case rel => exact ⟨j, n + 1, by omega, rfl, HREJ.out, by rw [HW.out]; rfl⟩
          case measure => first | (simp [intOf]; done) | (simp [intOf]; omega)
        · have t0 : ((x : Int) != (y : Int)) = true := by rw [bne_iff_ne]; omega
          have t1 : decide ((x : Int) < (y : Int)) = false := decide_eq_false (by omega)
          have hre1 : R = 1 := by rw [hst.out, if_neg (by omega), if_pos h]
          subst hre1
          go_wp2_with fail
          refine wp_region_heldL (fun w' => w'.cell? ⟨ba, oa + j, none⟩ = some (.int .u32 (x : Int)) ∧ w'.cell? ⟨bb, ob + j, none⟩ = some (.int .u32 (y : Int))) (by kernel_rfl) ⟨kx, ky⟩ (fun hS => ?_)
          refine wpAnyH_takeL 0 (v := ?_) (by kernel_rfl) rfl (by kernel_rfl) (by kernel_rfl) (fun _ _ _ h => h) (Or.inl ⟨by rfl, ?_⟩) (by assumption) ?_
          rotate_left
          · (intro wq hSq; (try dsimp only at hSq); go_simp; try with_reducible rfl)
          try simp only [Act.put, List.setIfInBounds_toArray, List.set_cons_zero, List.set_cons_succ]
          refine wpAnyH_takeL 1 (v := ?_) (by kernel_rfl) rfl (by kernel_rfl) (by kernel_rfl) (fun _ _ _ h => h) (Or.inl ⟨by rfl, ?_⟩) (by assumption) ?_
          rotate_left
          · (intro wq hSq; (try dsimp only at hSq); go_simp; try with_reducible rfl)
          try simp only [Act.put, List.setIfInBounds_toArray, List.set_cons_zero, List.set_cons_succ]
          refine wpAnyH_takeL 2 (v := ?_) (by kernel_rfl) rfl (by kernel_rfl) (by kernel_rfl) (fun _ _ _ h => h) (Or.inl ⟨by rfl, ?_⟩) (by assumption) ?_
          rotate_left
          · (intro wq hSq; (try dsimp only at hSq); go_simp; try with_reducible rfl)
          try simp only [Act.put, List.setIfInBounds_toArray, List.set_cons_zero, List.set_cons_succ]
          refine wpAnyH_takeL 3 (v := ?_) (by kernel_rfl) rfl (by kernel_rfl) (by kernel_rfl) (fun _ _ _ h => h) (Or.inl ⟨by rfl, ?_⟩) (by assumption) ?_
          rotate_left
          · (intro wq hSq; (try dsimp only at hSq); go_simp; try with_reducible rfl)
          try simp only [Act.put, List.setIfInBounds_toArray, List.set_cons_zero, List.set_cons_succ]
          refine wpAnyH_takeL 4 (v := ?_) (by kernel_rfl) rfl (by kernel_rfl) (by kernel_rfl) (fun _ _ _ h => h) (Or.inl ⟨by rfl, ?_⟩) (by assumption) ?_
          rotate_left
          · (intro wq hSq; (try dsimp only at hSq); go_simp; try with_reducible rfl)
          try simp only [Act.put, List.setIfInBounds_toArray, List.set_cons_zero, List.set_cons_succ]
          refine wpAnyH_takeL 5 (v := ?_) (by kernel_rfl) rfl (by kernel_rfl) (by kernel_rfl) (fun _ _ _ h => h) (Or.inl ⟨by rfl, ?_⟩) (by assumption) ?_
          rotate_left
          · (intro wq hSq; (try dsimp only at hSq); go_simp; try with_reducible rfl)
          try simp only [Act.put, List.setIfInBounds_toArray, List.set_cons_zero, List.set_cons_succ]
          refine wpAnyH_takeL 6 (v := ?_) (by kernel_rfl) rfl (by kernel_rfl) (by kernel_rfl) (fun _ _ _ h => h) (Or.inl ⟨by rfl, ?_⟩) (by assumption) ?_
          rotate_left
          · (intro wq hSq; (try dsimp only at hSq); go_simp; try with_reducible rfl)
          try simp only [Act.put, List.setIfInBounds_toArray, List.set_cons_zero, List.set_cons_succ]
          refine wpAnyH_takeL 7 (v := ?_) (by kernel_rfl) rfl (by kernel_rfl) (by kernel_rfl) (fun _ _ _ h => h) (Or.inl ⟨by rfl, ?_⟩) (by assumption) ?_
          rotate_left
          · (intro wq hSq; (try dsimp only at hSq); go_simp; try with_reducible rfl)
          try simp only [Act.put, List.setIfInBounds_toArray, List.set_cons_zero, List.set_cons_succ]
          refine wpAnyH_takeL 8 (v := ?_) (by kernel_rfl) rfl (by kernel_rfl) (by kernel_rfl) (fun _ _ _ h => h) (Or.inl ⟨by rfl, ?_⟩) (by assumption) ?_
          rotate_left
          · (intro wq hSq; (try dsimp only at hSq); go_simp; try with_reducible rfl)
          try simp only [Act.put, List.setIfInBounds_toArray, List.set_cons_zero, List.set_cons_succ]
          refine wpAnyH_end (by kernel_rfl) ?_
          go_wp2_with fail
          refine wp_region_heldL (fun w' => w'.cell? ⟨ba, oa + j, none⟩ = some (.int .u32 (x : Int)) ∧ w'.cell? ⟨bb, ob + j, none⟩ = some (.int .u32 (y : Int))) (by kernel_rfl) ⟨kx, ky⟩ (fun hS => ?_)
          refine wpAnyH_takeL 0 (v := ?_) (by kernel_rfl) rfl (by kernel_rfl) (by kernel_rfl) (fun _ _ _ h => h) (Or.inl ⟨by rfl, ?_⟩) (by assumption) ?_
          rotate_left
          · (intro wq hSq; (try dsimp only at hSq); go_simp; try with_reducible rfl)
          try simp only [Act.put, List.setIfInBounds_toArray, List.set_cons_zero, List.set_cons_succ]
          refine wpAnyH_takeL 1 (v := ?_) (by kernel_rfl) rfl (by kernel_rfl) (by kernel_rfl) (fun _ _ _ h => h) (Or.inl ⟨by rfl, ?_⟩) (by assumption) ?_
          rotate_left
          · (intro wq hSq; (try dsimp only at hSq); go_simp; try with_reducible rfl)
          try simp only [Act.put, List.setIfInBounds_toArray, List.set_cons_zero, List.set_cons_succ]
          refine wpAnyH_takeL 2 (v := ?_) (by kernel_rfl) rfl (by kernel_rfl) (by kernel_rfl) (fun _ _ _ h => h) (Or.inl ⟨by rfl, ?_⟩) (by assumption) ?_
          rotate_left
          · (intro wq hSq; (try dsimp only at hSq); go_simp; try with_reducible rfl)
          try simp only [Act.put, List.setIfInBounds_toArray, List.set_cons_zero, List.set_cons_succ]
          refine wpAnyH_takeL 3 (v := ?_) (by kernel_rfl) rfl (by kernel_rfl) (by kernel_rfl) (fun _ _ _ h => h) (Or.inl ⟨by rfl, ?_⟩) (by assumption) ?_
          rotate_left
          · (intro wq hSq; (try dsimp only at hSq); go_simp; try with_reducible rfl)
          try simp only [Act.put, List.setIfInBounds_toArray, List.set_cons_zero, List.set_cons_succ]
          refine wpAnyH_takeL 4 (v := ?_) (by kernel_rfl) rfl (by kernel_rfl) (by kernel_rfl) (fun _ _ _ h => h) (Or.inl ⟨by rfl, ?_⟩) (by assumption) ?_
          rotate_left
          · (intro wq hSq; (try dsimp only at hSq); go_simp; try with_reducible rfl)
          try simp only [Act.put, List.setIfInBounds_toArray, List.set_cons_zero, List.set_cons_succ]
          refine wpAnyH_takeL 5 (v := ?_) (by kernel_rfl) rfl (by kernel_rfl) (by kernel_rfl) (fun _ _ _ h => h) (Or.inl ⟨by rfl, ?_⟩) (by assumption) ?_
          rotate_left
          · (intro wq hSq; (try dsimp only at hSq); go_simp; try with_reducible rfl)
          try simp only [Act.put, List.setIfInBounds_toArray, List.set_cons_zero, List.set_cons_succ]
          refine wpAnyH_takeL 6 (v := ?_) (by kernel_rfl) rfl (by kernel_rfl) (by kernel_rfl) (fun _ _ _ h => h) (Or.inl ⟨by rfl, ?_⟩) (by assumption) ?_
          rotate_left
          · (intro wq hSq; (try dsimp only at hSq); go_simp; try with_reducible rfl)
          try simp only [Act.put, List.setIfInBounds_toArray, List.set_cons_zero, List.set_cons_succ]
          refine wpAnyH_takeL 7 (v := ?_) (by kernel_rfl) rfl (by kernel_rfl) (by kernel_rfl) (fun _ _ _ h => h) (Or.inl ⟨by rfl, ?_⟩) (by assumption) ?_
          rotate_left
          · (intro wq hSq; (try dsimp only at hSq); go_simp; try with_reducible rfl)
          try simp only [Act.put, List.setIfInBounds_toArray, List.set_cons_zero, List.set_cons_succ]
          refine wpAnyH_takeL 8 (v := ?_) (by kernel_rfl) rfl (by kernel_rfl) (by kernel_rfl) (fun _ _ _ h => h) (Or.inl ⟨by rfl, ?_⟩) (by assumption) ?_
          rotate_left
          · (intro wq hSq; (try dsimp only at hSq); go_simp; try with_reducible rfl)
          try simp only [Act.put, List.setIfInBounds_toArray, List.set_cons_zero, List.set_cons_succ]
          refine wpAnyH_end (by kernel_rfl) ?_
          go_wp2
          go_ret
          exact ⟨rfl, n + 1 + 1, by rw [HW.out]; rfl⟩
  · have h1 : ¬ (p : Int) < (q : Int) := by omega
    have h2 : ((p : Int) != (q : Int)) = true := by rw [bne_iff_ne]; omega
    have hlt := hw_len_lt (A := C) (C := A) (by omega)
    have hre : R = 1 := by rw [hR, cmpN, if_neg (by omega), if_pos hlt]
    subst hre
    clear h hp hq hR hlt
    go_enter Try.func85, Try.ntmps85
    go_wp2
    go_ret
    exact ⟨rfl, 0, rfl⟩
end Go.Proofs.Ytnjblppapmflhaa

/- The reference's numbers: sums and differences. -/
namespace Go.Proofs.Ytnjblppapmflhaa
set_option linter.all false
open Go.RowKit Go.Shelf Go.WideNum
/-- Where the words of a sum end. -/
theorem sum_more (A C i : Nat) : i < (hw (A + C)).length ↔ (i < (hw A).length ∨ i < (hw C).length ∨ 0 < carry 65536 A C i) := by
  constructor
  · intro h
    by_cases h1 : i < (hw A).length
    · exact .inl h1
    by_cases h2 : i < (hw C).length
    · exact .inr (.inl h2)
    refine .inr (.inr ?_)
    have e1 := Nat.lt_of_lt_of_le (hw_vlt A) (Nat.pow_le_pow_right (show 0 < 65536 by omega) (Nat.le_of_not_lt h1))
    have e2 := Nat.lt_of_lt_of_le (hw_vlt C) (Nat.pow_le_pow_right (show 0 < 65536 by omega) (Nat.le_of_not_lt h2))
    unfold carry
    rw [Nat.mod_eq_of_lt e1, Nat.mod_eq_of_lt e2]
    exact Nat.div_pos (hw_len_ge h) (Nat.pow_pos (by omega))
  · intro h
    rcases Nat.lt_or_ge i (hw (A + C)).length with h1 | h1
    · exact h1
    have e := Nat.lt_of_lt_of_le (hw_vlt (A + C)) (Nat.pow_le_pow_right (show 0 < 65536 by omega) h1)
    rcases h with h | h | h
    · have := hw_len_ge h; omega
    · have := hw_len_ge h; omega
    · have h2 : 65536 ^ i ≤ A % 65536 ^ i + C % 65536 ^ i := by
        rcases Nat.lt_or_ge (A % 65536 ^ i + C % 65536 ^ i) (65536 ^ i) with h3 | h3
        · unfold carry at h; rw [Nat.div_eq_of_lt h3] at h; omega
        · exact h3
      have h3 := Nat.mod_le A (65536 ^ i)
      have h4 := Nat.mod_le C (65536 ^ i)
      omega
set_option maxRecDepth 100000 in
set_option maxHeartbeats 4000000 in
theorem hplus_any (A C : Nat) (va vb : Value) (w : World) (hA : World.numH w va A) (hC : World.numH w vb C) (hla : (hw A).length ≤ 4000) (hlc : (hw C).length ≤ 4000) :
    Calls Try.prog 84 #[va, vb] w (HRet w (A + C)) := by
  obtain ⟨aa, p, ca, hp, rfl, hca, hma, hsa⟩ := numH_words hA
  obtain ⟨ab, q, cb, hq, rfl, hcb, hmb, hsb⟩ := numH_words hC
  clear hA hC
  rw [← hp] at hla
  rw [← hq] at hlc
  have HA := Lib.hid hsa
  have HC := Lib.hid hsb
  have HZA : Hid (∀ k, p ≤ k → dig 65536 A k = 0) := fun k hk => hw_high A k (by omega)
  have HZC : Hid (∀ k, q ≤ k → dig 65536 C k = 0) := fun k hk => hw_high C k (by omega)
  obtain ⟨L, hL⟩ : ∃ L, L = (hw (A + C)).length := ⟨_, rfl⟩
  have HMO : Hid (∀ i, i < L ↔ (i < p ∨ i < q ∨ 0 < carry 65536 A C i)) := fun i => by rw [hL, hp, hq]; exact sum_more A C i
  have HL := Lib.hid hL
  have hL2 : L ≤ 4001 := by
    obtain ⟨K, hK⟩ : ∃ K, K = 4000 := ⟨_, rfl⟩
    have e1 := Nat.lt_of_lt_of_le (hw_vlt A) (Nat.pow_le_pow_right (show 0 < 65536 by omega) (show (hw A).length ≤ K by omega))
    have e2 := Nat.lt_of_lt_of_le (hw_vlt C) (Nat.pow_le_pow_right (show 0 < 65536 by omega) (show (hw C).length ≤ K by omega))
    have h3 : A + C < 65536 ^ (K + 1) := by
      rw [Nat.pow_succ]
      generalize 65536 ^ K = P at *
      omega
    have := hw_len_le h3
    omega
  clear hp hq hsa hsb hL
  obtain ⟨HPOST, hpost⟩ : ∃ R, R = HRet w (A + C) := ⟨_, rfl⟩
  rw [← hpost]
  have HP := Lib.hid hpost
  clear hpost
  go_enter Try.func84, Try.ntmps84
  go_wp2_with fail
  go_loopw [5, 6, 7] (fun sv cv iv wr => ∃ (i : Nat) (xa : Option Addr) (xc : Nat), i ≤ L ∧ iv = .int .i64 (i : Int) ∧ sv = .slice xa i xc ∧ cv = .int .u32 (carry 65536 A C i : Int) ∧ Hid (wr.owns w.heap.size 23 1 (.slice xa i xc) i (((List.range i).map (dig 65536 (A + C))).map u32V)) ∧ Hid (Below w.heap.size w wr)) (fun _ _ iv _ => L - (intOf iv).toNat)
  case atStart => exact ⟨0, none, 0, Nat.zero_le _, rfl, rfl, by rw [carry_zero]; rfl, owns_nil _ _ _, Below.refl _ w⟩
  case round =>
    obtain ⟨i, xa, xc, hi, rfl, rfl, rfl, hO, hB⟩ := hrel
    have hz := hB.out.size
    have hmo := HMO.out i
    have HST := Lib.hid (add_step (B := 65536) (by omega) A C i)
    have hd1 := hw_dig A i
    have hd2 := hw_dig C i
    have hd3 := hw_dig (A + C) i
    have hc1 := carry_le (B := 65536) (by omega) A C i
    have hc2 := carry_le (B := 65536) (by omega) A C (i + 1)
    obtain ⟨x, ex⟩ : ∃ x, x = dig 65536 A i := ⟨_, rfl⟩
    obtain ⟨y, ey⟩ : ∃ x, x = dig 65536 C i := ⟨_, rfl⟩
    obtain ⟨z, ez⟩ : ∃ x, x = dig 65536 (A + C) i := ⟨_, rfl⟩
    obtain ⟨c, ec⟩ : ∃ x, x = carry 65536 A C i := ⟨_, rfl⟩
    obtain ⟨d, ed⟩ : ∃ x, x = carry 65536 A C (i + 1) := ⟨_, rfl⟩
    rw [← ex, ← ey, ← ez, ← ec, ← ed] at HST
    rw [← ex] at hd1
    rw [← ey] at hd2
    rw [← ez] at hd3
    rw [← ec] at hc1 hmo ⊢
    rw [← ed] at hc2
    have EX := Lib.hid ex
    have EY := Lib.hid ey
    have EZ := Lib.hid ez
    have ED := Lib.hid ed
    clear ex ey ez ec ed
    by_cases hlt : i < L
    · have hor := hmo.1 hlt
      clear hmo
      by_cases hip : i < p
      · obtain ⟨b, off, rfl, hbl, hx0⟩ := HA.out i hip
        have hx : wr.cell? ⟨b, off + i, none⟩ = some (.int .u32 (x : Int)) := (hB.out.cell (p := ⟨b, off + i, none⟩) hbl).trans (by rw [hx0, EX.out])
        have hip' : (i : Int) < (p : Int) := by omega
        clear hx0 hor
        by_cases hiq : i < q
        · obtain ⟨b2, off2, rfl, hbl2, hy0⟩ := HC.out i hiq
          have hy : wr.cell? ⟨b2, off2 + i, none⟩ = some (.int .u32 (y : Int)) := (hB.out.cell (p := ⟨b2, off2 + i, none⟩) hbl2).trans (by rw [hy0, EY.out])
          have hiq' : (i : Int) < (q : Int) := by omega
          have t1 : ((c : Int) + (x : Int) + (y : Int)) % 65536 = (z : Int) := by have := HST.out; omega
          have t2 : ((c : Int) + (x : Int) + (y : Int)) / 65536 = (d : Int) := by have := HST.out; omega
          clear hy0
          go_wp2_with (at_builtin; refine app_u32 wr 22 Try.underlying22 rfl (.tmp 44) (.tmp 47) rfl w.heap.size (.slice xa i xc) i _ rfl hO.out (z : Int) wr.heap.size rfl rfl (by omega) hz ?_; intro v5 w5 hown5 hg5 hz5; have HO5 := Lib.hid hown5; obtain ⟨g5, q5, rfl⟩ := hown5.succ; have HB5 := Lib.hid (hB.out.trans (below_grown hO.out hg5 w.heap.size (Nat.le_refl _) hz)); clear hown5 hg5)
          go_roundw
          case rel =>
            refine ⟨i + 1, _, q5, by omega, by go_num, rfl, (by first | (rw [← ED.out, t2]; done) | rw [← ED.out]), ?_, HB5.out⟩
            show w5.owns _ _ _ _ _ _
            rw [List.range_succ, List.map_append, List.map_append]
            show w5.owns _ _ _ _ _ (_ ++ [u32V (dig 65536 (A + C) i)])
            rw [← EZ.out]
            exact HO5.out
          case measure => simp [intOf]; omega
        · have hiq' : ¬ (i : Int) < (q : Int) := by omega
          have hy0 : y = 0 := by rw [EY.out]; exact HZC.out i (by omega)
          have t1 : ((c : Int) + (x : Int)) % 65536 = (z : Int) := by have := HST.out; omega
          have t2 : ((c : Int) + (x : Int)) / 65536 = (d : Int) := by have := HST.out; omega
          clear hy0
          go_wp2_with (at_builtin; refine app_u32 wr 22 Try.underlying22 rfl (.tmp 44) (.tmp 47) rfl w.heap.size (.slice xa i xc) i _ rfl hO.out (z : Int) wr.heap.size rfl rfl (by omega) hz ?_; intro v5 w5 hown5 hg5 hz5; have HO5 := Lib.hid hown5; obtain ⟨g5, q5, rfl⟩ := hown5.succ; have HB5 := Lib.hid (hB.out.trans (below_grown hO.out hg5 w.heap.size (Nat.le_refl _) hz)); clear hown5 hg5)
          go_roundw
          case rel =>
            refine ⟨i + 1, _, q5, by omega, by go_num, rfl, (by first | (rw [← ED.out, t2]; done) | rw [← ED.out]), ?_, HB5.out⟩
            show w5.owns _ _ _ _ _ _
            rw [List.range_succ, List.map_append, List.map_append]
            show w5.owns _ _ _ _ _ (_ ++ [u32V (dig 65536 (A + C) i)])
            rw [← EZ.out]
            exact HO5.out
          case measure => simp [intOf]; omega
      · have hip' : ¬ (i : Int) < (p : Int) := by omega
        have hx0 : x = 0 := by rw [EX.out]; exact HZA.out i (by omega)
        by_cases hiq : i < q
        · obtain ⟨b2, off2, rfl, hbl2, hy0⟩ := HC.out i hiq
          have hy : wr.cell? ⟨b2, off2 + i, none⟩ = some (.int .u32 (y : Int)) := (hB.out.cell (p := ⟨b2, off2 + i, none⟩) hbl2).trans (by rw [hy0, EY.out])
          have hiq' : (i : Int) < (q : Int) := by omega
          have t1 : ((c : Int) + (y : Int)) % 65536 = (z : Int) := by have := HST.out; omega
          have t2 : ((c : Int) + (y : Int)) / 65536 = (d : Int) := by have := HST.out; omega
          clear hy0 hx0 hor
          go_wp2_with (at_builtin; refine app_u32 wr 22 Try.underlying22 rfl (.tmp 44) (.tmp 47) rfl w.heap.size (.slice xa i xc) i _ rfl hO.out (z : Int) wr.heap.size rfl rfl (by omega) hz ?_; intro v5 w5 hown5 hg5 hz5; have HO5 := Lib.hid hown5; obtain ⟨g5, q5, rfl⟩ := hown5.succ; have HB5 := Lib.hid (hB.out.trans (below_grown hO.out hg5 w.heap.size (Nat.le_refl _) hz)); clear hown5 hg5)
          go_roundw
          case rel =>
            refine ⟨i + 1, _, q5, by omega, by go_num, rfl, (by first | (rw [← ED.out, t2]; done) | rw [← ED.out]), ?_, HB5.out⟩
            show w5.owns _ _ _ _ _ _
            rw [List.range_succ, List.map_append, List.map_append]
            show w5.owns _ _ _ _ _ (_ ++ [u32V (dig 65536 (A + C) i)])
            rw [← EZ.out]
            exact HO5.out
          case measure => simp [intOf]; omega
        · have hiq' : ¬ (i : Int) < (q : Int) := by omega
          have hy0 : y = 0 := by rw [EY.out]; exact HZC.out i (by omega)
          have hc0 : 0 < c := by omega
          have t0 : (0 : Int) < (c : Int) := by omega
          have t1 : (c : Int) % 65536 = (z : Int) := by have := HST.out; omega
          have t2 : (c : Int) / 65536 = (d : Int) := by have := HST.out; omega
          clear hy0 hx0 hor
          go_wp2_with (at_builtin; refine app_u32 wr 22 Try.underlying22 rfl (.tmp 44) (.tmp 47) rfl w.heap.size (.slice xa i xc) i _ rfl hO.out (z : Int) wr.heap.size rfl rfl (by omega) hz ?_; intro v5 w5 hown5 hg5 hz5; have HO5 := Lib.hid hown5; obtain ⟨g5, q5, rfl⟩ := hown5.succ; have HB5 := Lib.hid (hB.out.trans (below_grown hO.out hg5 w.heap.size (Nat.le_refl _) hz)); clear hown5 hg5)
          go_roundw
          case rel =>
            refine ⟨i + 1, _, q5, by omega, by go_num, rfl, (by first | (rw [← ED.out, t2]; done) | rw [← ED.out]), ?_, HB5.out⟩
            show w5.owns _ _ _ _ _ _
            rw [List.range_succ, List.map_append, List.map_append]
            show w5.owns _ _ _ _ _ (_ ++ [u32V (dig 65536 (A + C) i)])
            rw [← EZ.out]
            exact HO5.out
          case measure => simp [intOf]; omega
    · obtain rfl : i = L := by omega
      have hip' : ¬ (i : Int) < (p : Int) := fun h => hlt (hmo.2 (.inl (by omega)))
      have hiq' : ¬ (i : Int) < (q : Int) := fun h => hlt (hmo.2 (.inr (.inl (by omega))))
      have hc0 : c = 0 := by
        rcases Nat.eq_zero_or_pos c with h | h
        · exact h
        · exact absurd (hmo.2 (.inr (.inr h))) hlt
      have t0 : ¬ (0 : Int) < (c : Int) := by omega
      clear hc0 hmo
      go_wp2
      rw [HP.out]
      exact ⟨_, rfl, rawH_num hO.out.reads HL.out, hB.out⟩
set_option maxRecDepth 100000 in
set_option maxHeartbeats 4000000 in
theorem hminus_any (A C : Nat) (hAC : C ≤ A) (va vb : Value) (w : World) (hA : World.numH w va A) (hC : World.numH w vb C) (hla : (hw A).length ≤ 4000) (hlc : (hw C).length ≤ 4000) :
    Calls Try.prog 86 #[va, vb] w (RawRet w (A - C) (hw A).length) := by
  obtain ⟨aa, p, ca, hp, rfl, hca, hma, hsa⟩ := numH_words hA
  obtain ⟨ab, q, cb, hq, rfl, hcb, hmb, hsb⟩ := numH_words hC
  clear hA hC
  rw [← hp] at hla ⊢
  rw [← hq] at hlc
  obtain ⟨D, rfl⟩ : ∃ D, A = C + D := ⟨A - C, by omega⟩
  rw [show C + D - C = D by omega]
  clear hAC
  have HA := Lib.hid hsa
  have HC := Lib.hid hsb
  have HZC : Hid (∀ k, q ≤ k → dig 65536 C k = 0) := fun k hk => hw_high C k (by omega)
  clear hp hq hsa hsb
  obtain ⟨HPOST, hpost⟩ : ∃ R, R = RawRet w D p := ⟨_, rfl⟩
  rw [← hpost]
  have HP := Lib.hid hpost
  clear hpost
  go_enter Try.func86, Try.ntmps86
  go_wp2_with fail
  go_loopw [5, 6, 7] (fun sv cv iv wr => ∃ (i : Nat) (xa : Option Addr) (xc : Nat), i ≤ p ∧ iv = .int .i64 (i : Int) ∧ sv = .slice xa i xc ∧ cv = .int .u32 (carry 65536 C D i : Int) ∧ Hid (wr.owns w.heap.size 23 1 (.slice xa i xc) i (((List.range i).map (dig 65536 D)).map u32V)) ∧ Hid (Below w.heap.size w wr)) (fun _ _ iv _ => p - (intOf iv).toNat)
  case atStart => exact ⟨0, none, 0, Nat.zero_le _, rfl, rfl, by rw [carry_zero]; rfl, owns_nil _ _ _, Below.refl _ w⟩
  case round =>
    obtain ⟨i, xa, xc, hi, rfl, rfl, rfl, hO, hB⟩ := hrel
    have hz := hB.out.size
    by_cases hlt : i < p
    · have HST := Lib.hid (add_step (B := 65536) (by omega) C D i)
      have hd1 := hw_dig (C + D) i
      have hd2 := hw_dig C i
      have hd3 := hw_dig D i
      have hc1 := carry_le (B := 65536) (by omega) C D i
      have hc2 := carry_le (B := 65536) (by omega) C D (i + 1)
      obtain ⟨b, off, rfl, hbl, hx0⟩ := HA.out i hlt
      obtain ⟨x, ex⟩ : ∃ x, x = dig 65536 (C + D) i := ⟨_, rfl⟩
      obtain ⟨y, ey⟩ : ∃ x, x = dig 65536 C i := ⟨_, rfl⟩
      obtain ⟨z, ez⟩ : ∃ x, x = dig 65536 D i := ⟨_, rfl⟩
      obtain ⟨c, ec⟩ : ∃ x, x = carry 65536 C D i := ⟨_, rfl⟩
      obtain ⟨d, ed⟩ : ∃ x, x = carry 65536 C D (i + 1) := ⟨_, rfl⟩
      rw [← ex, ← ey, ← ez, ← ec, ← ed] at HST
      rw [← ex] at hd1 hx0
      rw [← ey] at hd2
      rw [← ez] at hd3
      rw [← ec] at hc1 ⊢
      rw [← ed] at hc2
      have EY := Lib.hid ey
      have EZ := Lib.hid ez
      have ED := Lib.hid ed
      have hx : wr.cell? ⟨b, off + i, none⟩ = some (.int .u32 (x : Int)) := (hB.out.cell (p := ⟨b, off + i, none⟩) hbl).trans hx0
      clear ex ey ez ec ed hx0
      by_cases hiq : i < q
      · obtain ⟨b2, off2, rfl, hbl2, hy0⟩ := HC.out i hiq
        have hy : wr.cell? ⟨b2, off2 + i, none⟩ = some (.int .u32 (y : Int)) := (hB.out.cell (p := ⟨b2, off2 + i, none⟩) hbl2).trans (by rw [hy0, EY.out])
        have hiq' : (i : Int) < (q : Int) := by omega
        clear hy0
        rcases (show d = 0 ∨ d = 1 by omega) with rfl | rfl
        · have t1 : decide ((x : Int) < (c : Int) + (y : Int)) = false := decide_eq_false (by have := HST.out; omega)
          have t1' : ¬ (x : Int) < (c : Int) + (y : Int) := by have := HST.out; omega
          have t2 : (x : Int) - ((c : Int) + (y : Int)) = (z : Int) := by have := HST.out; omega
          go_wp2_with (at_builtin; refine app_u32 wr 22 Try.underlying22 rfl (.tmp 36) (.tmp 40) rfl w.heap.size (.slice xa i xc) i _ rfl hO.out (z : Int) wr.heap.size rfl rfl (by omega) hz ?_; intro v5 w5 hown5 hg5 hz5; have HO5 := Lib.hid hown5; obtain ⟨g5, q5, rfl⟩ := hown5.succ; have HB5 := Lib.hid (hB.out.trans (below_grown hO.out hg5 w.heap.size (Nat.le_refl _) hz)); clear hown5 hg5)
          go_roundw
          case rel =>
            refine ⟨i + 1, _, q5, by omega, by go_num, rfl, (by rw [← ED.out]; rfl), ?_, HB5.out⟩
            show w5.owns _ _ _ _ _ _
            rw [List.range_succ, List.map_append, List.map_append]
            show w5.owns _ _ _ _ _ (_ ++ [u32V (dig 65536 D i)])
            rw [← EZ.out]
            exact HO5.out
          case measure => simp [intOf]; omega
        · have t1 : decide ((x : Int) < (c : Int) + (y : Int)) = true := decide_eq_true (by have := HST.out; omega)
          have t1' : (x : Int) < (c : Int) + (y : Int) := by have := HST.out; omega
          have t2 : (x : Int) + 65536 - ((c : Int) + (y : Int)) = (z : Int) := by have := HST.out; omega
          go_wp2_with (at_builtin; refine app_u32 wr 22 Try.underlying22 rfl (.tmp 36) (.tmp 40) rfl w.heap.size (.slice xa i xc) i _ rfl hO.out (z : Int) wr.heap.size rfl rfl (by omega) hz ?_; intro v5 w5 hown5 hg5 hz5; have HO5 := Lib.hid hown5; obtain ⟨g5, q5, rfl⟩ := hown5.succ; have HB5 := Lib.hid (hB.out.trans (below_grown hO.out hg5 w.heap.size (Nat.le_refl _) hz)); clear hown5 hg5)
          go_roundw
          case rel =>
            refine ⟨i + 1, _, q5, by omega, by go_num, rfl, (by rw [← ED.out]; rfl), ?_, HB5.out⟩
            show w5.owns _ _ _ _ _ _
            rw [List.range_succ, List.map_append, List.map_append]
            show w5.owns _ _ _ _ _ (_ ++ [u32V (dig 65536 D i)])
            rw [← EZ.out]
            exact HO5.out
          case measure => simp [intOf]; omega
      · have hiq' : ¬ (i : Int) < (q : Int) := by omega
        have hy0 : y = 0 := by rw [EY.out]; exact HZC.out i (by omega)
        subst hy0
        rcases (show d = 0 ∨ d = 1 by omega) with rfl | rfl
        · have t1 : decide ((x : Int) < (c : Int)) = false := decide_eq_false (by have := HST.out; omega)
          have t1' : ¬ (x : Int) < (c : Int) := by have := HST.out; omega
          have t2 : (x : Int) - ((c : Int)) = (z : Int) := by have := HST.out; omega
          go_wp2_with (at_builtin; refine app_u32 wr 22 Try.underlying22 rfl (.tmp 36) (.tmp 40) rfl w.heap.size (.slice xa i xc) i _ rfl hO.out (z : Int) wr.heap.size rfl rfl (by omega) hz ?_; intro v5 w5 hown5 hg5 hz5; have HO5 := Lib.hid hown5; obtain ⟨g5, q5, rfl⟩ := hown5.succ; have HB5 := Lib.hid (hB.out.trans (below_grown hO.out hg5 w.heap.size (Nat.le_refl _) hz)); clear hown5 hg5)
          go_roundw
          case rel =>
            refine ⟨i + 1, _, q5, by omega, by go_num, rfl, (by rw [← ED.out]; rfl), ?_, HB5.out⟩
            show w5.owns _ _ _ _ _ _
            rw [List.range_succ, List.map_append, List.map_append]
            show w5.owns _ _ _ _ _ (_ ++ [u32V (dig 65536 D i)])
            rw [← EZ.out]
            exact HO5.out
          case measure => simp [intOf]; omega
        · have t1 : decide ((x : Int) < (c : Int)) = true := decide_eq_true (by have := HST.out; omega)
          have t1' : (x : Int) < (c : Int) := by have := HST.out; omega
          have t2 : (x : Int) + 65536 - ((c : Int)) = (z : Int) := by have := HST.out; omega
          go_wp2_with (at_builtin; refine app_u32 wr 22 Try.underlying22 rfl (.tmp 36) (.tmp 40) rfl w.heap.size (.slice xa i xc) i _ rfl hO.out (z : Int) wr.heap.size rfl rfl (by omega) hz ?_; intro v5 w5 hown5 hg5 hz5; have HO5 := Lib.hid hown5; obtain ⟨g5, q5, rfl⟩ := hown5.succ; have HB5 := Lib.hid (hB.out.trans (below_grown hO.out hg5 w.heap.size (Nat.le_refl _) hz)); clear hown5 hg5)
          go_roundw
          case rel =>
            refine ⟨i + 1, _, q5, by omega, by go_num, rfl, (by rw [← ED.out]; rfl), ?_, HB5.out⟩
            show w5.owns _ _ _ _ _ _
            rw [List.range_succ, List.map_append, List.map_append]
            show w5.owns _ _ _ _ _ (_ ++ [u32V (dig 65536 D i)])
            rw [← EZ.out]
            exact HO5.out
          case measure => simp [intOf]; omega
    · obtain rfl : i = p := by omega
      go_wp2
      rw [HP.out]
      exact ⟨_, rfl, hO.out.reads, hB.out⟩
end Go.Proofs.Ytnjblppapmflhaa

/- The reference's numbers with signs: without zeros at the end. -/
namespace Go.Proofs.Ytnjblppapmflhaa
set_option linter.all false
open Go.RowKit Go.Shelf Go.WideNum
/-- A number with its sign is returned. -/
def SRet (w : World) (s : Bool) (n : Nat) (e : Ending) (w' : World) : Prop := ∃ v, e = .returned (.agg #[.bool s, v]) ∧ World.numH w' v n ∧ Below w.heap.size w w'
/-- The same, the words being new. -/
def SRetO (w : World) (s : Bool) (n : Nat) (e : Ending) (w' : World) : Prop := ∃ v, e = .returned (.agg #[.bool s, v]) ∧ w'.owns w.heap.size 23 1 v (hw n).length ((hw n).map u32V) ∧ Below w.heap.size w w'
theorem SRetO.ret {w w' : World} {s : Bool} {n : Nat} {e : Ending} (h : SRetO w s n e w') : SRet w s n e w' := by
  obtain ⟨v, h1, h2, h3⟩ := h
  exact ⟨v, h1, h2.reads, h3⟩
theorem num_cells {W : World} {g : Nat} {s : Bool} {v : Value} {T : TypeId} (h : W.heap[g]? = some (.cells #[.bool s, v] T)) :
    W.cell? ⟨g, 0, none⟩ = some (.bool s) ∧ W.cell? ⟨g, 1, none⟩ = some v ∧ W.frozen? ⟨g, 0, none⟩ = false ∧ W.frozen? ⟨g, 1, none⟩ = false := by
  refine ⟨by rw [cell_of_row W g 0 _ T (0, 0) h]; rfl, by rw [cell_of_row W g 1 _ T (0, 0) h]; rfl, by simp [World.frozen?, h], by simp [World.frozen?, h]⟩
theorem num_set {W : World} {g : Nat} {u0 u1 : Value} {T : TypeId} (h : W.heap[g]? = some (.cells #[u0, u1] T)) (x y : Value) :
    ((W.setCell ⟨g, 0, none⟩ x).setCell ⟨g, 1, none⟩ y).heap[g]? = some (.cells #[x, y] T) := by
  simp [World.setCell, Array.getElem?_modify, h]
/-- No cell of these is a number. -/
def noInt (cs : Array Value) : Prop := ∀ u ∈ cs, ∀ z, u ≠ .int .u32 z
theorem reads_other {W W' : World} {B p : Nat} {v : Value} {l : List Nat} {cs : Array Value} {T : TypeId} (h : W.reads B v (l.map u32V)) (hp : W.heap[p]? = some (.cells cs T)) (hcs : noInt cs) (hW : ∀ b, b ≠ p → W'.heap[b]? = W.heap[b]?) : W'.reads B v (l.map u32V) := by
  obtain ⟨a, cap, hv, hn, hz, hmx, hc⟩ := h
  refine ⟨a, cap, hv, hn, hz, hmx, fun j u hj => ?_⟩
  obtain ⟨b, off, ha, hB, hcell⟩ := hc j u hj
  refine ⟨b, off, ha, hB, ?_⟩
  have hne : b ≠ p := by
    rintro rfl
    rw [cell_of_row W _ _ _ _ (0, 0) hp] at hcell
    obtain ⟨z, _, rfl⟩ := List.mem_map.1 (List.mem_of_getElem? hj)
    exact hcs _ (Array.mem_of_getElem? hcell) _ rfl
  exact (World.cell?_of_block (a := ⟨b, off + j, none⟩) (hW b hne)).trans hcell
theorem noInt_num (s : Bool) (a : Option Addr) (n c : Nat) : noInt #[.bool s, .slice a n c] := by
  intro u hu z e
  subst e
  simp at hu
theorem two_other {W : World} {p : Nat} (x y : Value) : ∀ b, b ≠ p → ((W.setCell ⟨p, 0, none⟩ x).setCell ⟨p, 1, none⟩ y).heap[b]? = W.heap[b]? := by
  intro b h
  simp [World.setCell, Array.getElem?_modify, h, h.symm, Ne.symm h]
theorem numH_set {W : World} {p n : Nat} {v : Value} {s : Bool} {a : Option Addr} {k c : Nat} {T : TypeId} (h : World.numH W v n) (hp : W.heap[p]? = some (.cells #[.bool s, .slice a k c] T)) (x y : Value) :
    World.numH ((W.setCell ⟨p, 0, none⟩ x).setCell ⟨p, 1, none⟩ y) v n := by
  have h1 := reads_other h hp (noInt_num s a k c) (two_other x y)
  have e : ((W.setCell ⟨p, 0, none⟩ x).setCell ⟨p, 1, none⟩ y).heap.size = W.heap.size := by simp
  show World.reads _ _ _ _
  rw [e]; exact h1
theorem rawH_words {w : World} {v : Value} {n L : Nat} (h : World.rawH w v n L) : ∃ (a : Option Addr) (c : Nat), v = .slice a L c ∧ L ≤ c ∧ c ≤ maxLen ∧
    ∀ k, k < L → ∃ b off, a = some ⟨b, off, none⟩ ∧ b < w.heap.size ∧ w.cell? ⟨b, off + k, none⟩ = some (.int .u32 (dig 65536 n k : Int)) := by
  have h : w.reads _ _ _ := h
  obtain ⟨a, c, rfl, hc, hm, hs⟩ := reads_u32 h
  simp only [List.length_map, List.length_range] at hc ⊢
  exact ⟨a, c, rfl, hc, hm, fun k hk => hs k _ (by simp [hk])⟩
theorem hw_top {n k : Nat} (h : (hw n).length = k + 1) : dig 65536 n k ≠ 0 := by
  have h1 := words_trimmed (B := 65536) (by omega) n n (Nat.le_refl _)
  have h2 : (hw n).getLast? = some (dig 65536 n k) := by
    rw [List.getLast?_eq_getElem?, h, Nat.add_sub_cancel]
    exact hw_get n k (by omega)
  exact h1 _ h2
theorem rawH_take {w : World} {a : Option Addr} {n L c M : Nat} (h : World.rawH w (.slice a L c) n L) (hM : M = (hw n).length) (hML : M ≤ L) : World.numH w (.slice a M c) n := by
  subst hM
  obtain ⟨a', c', e, hn, hc, hm, hs⟩ := h
  injection e with e1 _ e3
  subst e1 e3
  simp only [List.length_map, List.length_range] at hc
  refine ⟨a, c, by simp, hn, by simp; omega, hm, fun j u hj => ?_⟩
  rw [List.getElem?_map] at hj
  rcases Nat.lt_or_ge j (hw n).length with h1 | h1
  · rw [hw_get n j h1] at hj
    refine hs j u ?_
    rw [List.getElem?_map, List.getElem?_map, List.getElem?_range (by omega)]
    exact hj
  · rw [List.getElem?_eq_none h1] at hj; cases hj
set_option maxRecDepth 100000 in
set_option maxHeartbeats 8000000 in
theorem htrim_own (s : Bool) (n L : Nat) (hn : n < 65536 ^ L) (hL : L ≤ 10000) (v : Value) (w : World) (hv : World.rawH w v n L) :
    Calls Try.prog 83 #[.agg #[.bool s, v]] w (SRetO w (s && decide (n ≠ 0)) n) := by
  obtain ⟨i0, hi0, hiz, hiz1, hizb⟩ := info_parts infoU32
  have HV : Hid (World.rawH w v n L) := hv
  obtain ⟨a, c, rfl, hc, hm, hs⟩ := rawH_words hv
  clear hv
  have hM := hw_len_le hn
  have hZ : decide (n ≠ 0) = decide (0 < (hw n).length) := by
    have := words_len0 (B := 65536) (by omega) n
    unfold hw
    congr 1
    apply propext
    omega
  rw [hZ]
  obtain ⟨M, eM⟩ : ∃ M, M = (hw n).length := ⟨_, rfl⟩
  rw [← eM] at hM ⊢
  have HE := Lib.hid eM
  have HS := Lib.hid hs
  obtain ⟨S, hS⟩ : ∃ S, S = (s && decide (0 < M)) := ⟨_, rfl⟩
  rw [← hS]
  have HSS := Lib.hid hS
  have hc' : (L : Int) ≤ (c : Int) := by omega
  have HMX := Lib.hid hm
  clear hS hs hZ eM hn hc hm
  obtain ⟨HPOST, hpost⟩ : ∃ R, R = SRetO w S n := ⟨_, rfl⟩
  rw [← hpost]
  have HP := Lib.hid hpost
  clear hpost
  obtain ⟨W0, hW0⟩ : ∃ W0, W0 = (w.alloc (.cells #[.bool s, .slice a L c] 86)).alloc (.cells #[.bool false, .slice none 0 0] 86) := ⟨_, rfl⟩
  have g0 : W0.heap[w.heap.size]? = some (.cells #[.bool s, .slice a L c] 86) := by rw [hW0, Below.heap_alloc _ _ _ (by simp)]; exact heap_alloc_new w _
  have g1 : W0.heap[w.heap.size + 1]? = some (.cells #[.bool false, .slice none 0 0] 86) := by rw [hW0]; exact alloc_last _ _ (by simp)
  have hb0 : Below w.heap.size w W0 := by rw [hW0]; exact (((Below.refl _ w).alloc (Nat.le_refl _) _).alloc (by simp) _)
  have hz0 : W0.heap.size = w.heap.size + 1 + 1 := by rw [hW0]; simp
  have HB0 := Lib.hid hb0
  have HG1 := Lib.hid g1
  obtain ⟨c00, c01, f00, f01⟩ := num_cells g0
  have HZ0 := Lib.hid hz0
  have HW0 := Lib.hid hW0
  clear hb0 g0 g1 hz0 hW0
  go_enter Try.func83, Try.ntmps83
  go_upto_region 1 with (fail)
  rw [← HW0.out]
  go_wp2_with fail
  go_loop [3] (fun kv => ∃ k : Nat, M ≤ k ∧ k ≤ L ∧ kv = .int .i64 (k : Int)) (fun kv => (intOf kv).toNat)
  case atStart => exact ⟨L, hM, Nat.le_refl _, rfl⟩
  case round =>
    obtain ⟨k, hk1, hk2, rfl⟩ := hrel
    by_cases hlt : M < k
    · obtain ⟨j, rfl⟩ : ∃ j, k = j + 1 := ⟨k - 1, by omega⟩
      have hz : dig 65536 n j = 0 := hw_high n j (by rw [← HE.out]; omega)
      obtain ⟨b, off, rfl, hbl, hx0⟩ := HS.out j (by omega)
      rw [hz] at hx0
      have hx : W0.cell? ⟨b, off + j, none⟩ = some (.int .u32 0) := (HB0.out.cell (p := ⟨b, off + j, none⟩) hbl).trans hx0
      clear hx0 hz
      go_wp2_with fail
      go_round
      case rel => exact ⟨j, by omega, by omega, by go_num⟩
      case measure => simp [intOf]
    · obtain rfl : k = M := by omega
      have hpost2 : Hid (∀ (v' : Value) (w5 : World), w5.owns w.heap.size 23 1 v' (0 + ((hw n).map u32V).length) ([] ++ (hw n).map u32V) → World.numH w5 v' n) := fun v' w5 h => by
        have := h.reads
        rwa [List.nil_append] at this
      have hread : Hid (∀ W : World, Below w.heap.size w W → World.numH W (.slice a k c) n) := fun W hb => numH_below (rawH_take HV.out HE.out hk2) hb
      have hstop : k = 0 ∨ ∃ (j x b off : Nat), k = j + 1 ∧ x ≠ 0 ∧ a = some ⟨b, off, none⟩ ∧ W0.cell? ⟨b, off + j, none⟩ = some (.int .u32 (x : Int)) := by
        rcases Nat.eq_zero_or_pos k with h0 | h0
        · exact .inl h0
        · obtain ⟨j, rfl⟩ : ∃ j, k = j + 1 := ⟨k - 1, by omega⟩
          obtain ⟨b, off, e1, hbl, hx0⟩ := HS.out j (by omega)
          exact .inr ⟨j, _, b, off, rfl, hw_top HE.out.symm, e1, (HB0.out.cell (p := ⟨b, off + j, none⟩) hbl).trans hx0⟩
      have hz2 := HZ0.out
      have hk0 : (0 : Int) ≤ (k : Int) := by omega
      have hkc : (k : Int) ≤ (c : Int) := by omega
      have hwz : w.heap.size < W0.heap.size := by omega
      have HO : Hid ((W0.alloc (.cells #[] 23)).drew.owns W0.heap.size 23 1 (.slice (some ⟨W0.heap.size, 0, none⟩) 0 0) 0 []) := ⟨rfl, .inr ⟨W0.heap.size, 0, #[], (0, 0), rfl, Nat.le_refl _, heap_alloc_new W0 _, okFz_zero _, Nat.le_refl _, Nat.zero_le _, rfl, rfl⟩⟩
      have HBD : Hid (Below W0.heap.size W0 (W0.alloc (.cells #[] 23)).drew) := ((Below.refl W0.heap.size W0).alloc (Nat.le_refl _) _).drew
      have HBA : Hid (Below w.heap.size w (W0.alloc (.cells #[] 23)).drew) := (HB0.out.alloc (by omega) _).drew
      have HBS : Hid (W0.heap.size ≤ (W0.alloc (.cells #[] 23)).drew.heap.size) := HBD.out.size
      have HK0 := Lib.hid (HBD.out.cell (p := ⟨w.heap.size, 0, none⟩) hwz)
      have HK1 := Lib.hid (HBD.out.cell (p := ⟨w.heap.size, 1, none⟩) hwz)
      have HL1 : Hid (0 + ((hw n).map u32V).length ≤ maxLen) := by show _ ≤ _; rw [List.length_map, ← HE.out]; unfold maxLen; omega
      have HL2 : Hid ((0 + ((hw n).map u32V).length) * 4 ≤ 140737488355328) := by show _ ≤ _; rw [List.length_map, ← HE.out]; omega
      have HR := hread
      have HF : Hid (∀ (v' : Value) (w6 : World), w6.owns W0.heap.size 23 1 v' (0 + ((hw n).map u32V).length) ([] ++ (hw n).map u32V) → World.grownBy (W0.alloc (.cells #[] 23)).drew w6 (Value.slice (some ⟨W0.heap.size, 0, none⟩) 0 0).ownBlock →
          ∃ a6 n6 c6, v' = .slice a6 n6 c6 ∧ Below w.heap.size w w6 ∧ w6.owns W0.heap.size 23 1 v' (hw n).length ((hw n).map u32V) ∧ w6.cell? ⟨w.heap.size, 0, none⟩ = W0.cell? ⟨w.heap.size, 0, none⟩ ∧ w6.cell? ⟨w.heap.size, 1, none⟩ = W0.cell? ⟨w.heap.size, 1, none⟩ ∧ w6.heap[w.heap.size + 1]? = some (.cells #[.bool false, .slice none 0 0] 86)) := by
        intro v' w6 ho hg
        have hb := HBD.out.trans (below_grown HO.out hg W0.heap.size (Nat.le_refl _) HBS.out)
        have hr : w6.owns W0.heap.size 23 1 v' (hw n).length ((hw n).map u32V) := by
          rw [List.nil_append, List.length_map, Nat.zero_add] at ho
          exact ho
        obtain ⟨a6, c6, e6⟩ := reads_len hr.reads
        exact ⟨a6, _, c6, e6, HB0.out.trans (hb.mono (by omega)), hr, hb.cell (p := ⟨w.heap.size, 0, none⟩) hwz, hb.cell (p := ⟨w.heap.size, 1, none⟩) hwz, (hb.block _ (by omega)).trans HG1.out⟩
      have HZ1 : Hid (w.heap.size + 1 < W0.heap.size) := by show _ < _; omega
      have HZ2 : Hid (w.heap.size ≤ W0.heap.size) := by show _ ≤ _; omega
      clear hread hz2 hwz
      rcases hstop with h0 | ⟨j, x, b, off, hj, hx, rfl, hcell⟩
      · subst h0
        have hSt : Hid (S = false) := by show _ = _; rw [HSS.out]; simp
        have t0 : ¬ (0 : Int) < ((0 : Nat) : Int) := by omega
        clear hk1
        go_wp2_with fail
        cases s with
        | true =>
          refine wp_region_line (fun w' => w'.cell? ⟨w.heap.size, 0, none⟩ = some (.bool true) ∧ w'.cell? ⟨w.heap.size, 1, none⟩ = some (.slice a L c)) 13 (by kernel_rfl) ⟨c00, c01⟩ (fun hHeld => ?_)
          refine wpAnyT_take 0 (v := ?_) (by kernel_rfl) rfl (by kernel_rfl) (by decide) rfl (by kernel_rfl) (by kernel_rfl) (fun _ _ _ h => h) (Or.inl ⟨by rfl, ?_⟩) (by assumption) ?_
          rotate_left
          · (intro wq hSq; (try dsimp only at hSq); go_simp; try with_reducible rfl)
          try simp only [Act.put, List.setIfInBounds_toArray, List.set_cons_zero, List.set_cons_succ]
          refine wpAnyT_take 1 (v := ?_) (by kernel_rfl) rfl (by kernel_rfl) (by decide) rfl (by kernel_rfl) (by kernel_rfl) (fun _ _ _ h => h) (Or.inl ⟨by rfl, ?_⟩) (by assumption) ?_
          rotate_left
          · (intro wq hSq; (try dsimp only at hSq); go_simp; try with_reducible rfl)
          try simp only [Act.put, List.setIfInBounds_toArray, List.set_cons_zero, List.set_cons_succ]
          refine wpAnyT_take 2 (v := ?_) (by kernel_rfl) rfl (by kernel_rfl) (by decide) rfl (by kernel_rfl) (by kernel_rfl) (fun _ _ _ h => h) (Or.inl ⟨by rfl, ?_⟩) (by assumption) ?_
          rotate_left
          · (intro wq hSq; (try dsimp only at hSq); go_simp; try with_reducible rfl)
          try simp only [Act.put, List.setIfInBounds_toArray, List.set_cons_zero, List.set_cons_succ]
          refine wpAnyT_take 3 (v := ?_) (by kernel_rfl) rfl (by kernel_rfl) (by decide) rfl (by kernel_rfl) (by kernel_rfl) (fun _ _ _ h => h) (Or.inl ⟨by rfl, ?_⟩) (by assumption) ?_
          rotate_left
          · (intro wq hSq; (try dsimp only at hSq); go_simp; try with_reducible rfl)
          try simp only [Act.put, List.setIfInBounds_toArray, List.set_cons_zero, List.set_cons_succ]
          refine wpAnyT_take 4 (v := ?_) (by kernel_rfl) rfl (by kernel_rfl) (by decide) rfl (by kernel_rfl) (by kernel_rfl) (fun _ _ _ h => h) (Or.inl ⟨by rfl, ?_⟩) (by assumption) ?_
          rotate_left
          · (intro wq hSq; (try dsimp only at hSq); go_simp; try with_reducible rfl)
          try simp only [Act.put, List.setIfInBounds_toArray, List.set_cons_zero, List.set_cons_succ]
          refine wpAnyT_take 5 (v := ?_) (by kernel_rfl) rfl (by kernel_rfl) (by decide) rfl (by kernel_rfl) (by kernel_rfl) (fun _ _ _ h => h) (Or.inl ⟨by rfl, ?_⟩) (by assumption) ?_
          rotate_left
          · (intro wq hSq; (try dsimp only at hSq); go_simp; try with_reducible rfl)
          try simp only [Act.put, List.setIfInBounds_toArray, List.set_cons_zero, List.set_cons_succ]
          refine wpAnyT_take 7 (v := ?_) (by kernel_rfl) rfl (by kernel_rfl) (by decide) rfl (by kernel_rfl) (by kernel_rfl) (fun _ _ _ h => h) (Or.inl ⟨by rfl, ?_⟩) (by assumption) ?_
          rotate_left
          · (intro wq hSq; (try dsimp only at hSq); go_simp; try with_reducible rfl)
          try simp only [Act.put, List.setIfInBounds_toArray, List.set_cons_zero, List.set_cons_succ]
          refine wpAnyT_take 8 (v := ?_) (by kernel_rfl) rfl (by kernel_rfl) (by decide) rfl (by kernel_rfl) (by kernel_rfl) (fun _ _ _ h => h) (Or.inl ⟨by rfl, ?_⟩) (by assumption) ?_
          rotate_left
          · (intro wq hSq; (try dsimp only at hSq); go_simp; try with_reducible rfl)
          try simp only [Act.put, List.setIfInBounds_toArray, List.set_cons_zero, List.set_cons_succ]
          refine wpAnyT_take 9 (v := ?_) (by kernel_rfl) rfl (by kernel_rfl) (by decide) rfl (by kernel_rfl) (by kernel_rfl) (fun _ _ _ h => h) (Or.inl ⟨by rfl, ?_⟩) (by assumption) ?_
          rotate_left
          · (intro wq hSq; (try dsimp only at hSq); go_simp; try with_reducible rfl)
          try simp only [Act.put, List.setIfInBounds_toArray, List.set_cons_zero, List.set_cons_succ]
          refine wpAnyT_take 10 (v := ?_) (by kernel_rfl) rfl (by kernel_rfl) (by decide) rfl (by kernel_rfl) (by kernel_rfl) (fun _ _ _ h => h) (Or.inl ⟨by rfl, ?_⟩) (by assumption) ?_
          rotate_left
          · (intro wq hSq; (try dsimp only at hSq); go_simp; try with_reducible rfl)
          try simp only [Act.put, List.setIfInBounds_toArray, List.set_cons_zero, List.set_cons_succ]
          refine wpAnyT_step 6 (by kernel_rfl) rfl (fun K hK => ?_)
          go_simp
          refine hK.out _ _ ⟨HK0.out.trans c00, HK1.out.trans c01⟩ (fun hHeld2 => ?_)
          clear hK K hHeld
          try simp only [Act.put, List.setIfInBounds_toArray, List.set_cons_zero, List.set_cons_succ]
          refine wpAnyT_step 11 (by kernel_rfl) rfl (fun K hK => ?_)
          refine step_append_reads (by rfl) (.tmp 26) (.tmp 30) 22 (by rfl) W0.heap.size 23 i0 (.int .u32 0) 4 Try.underlying22 hi0 hiz hiz1 hizb rfl (.slice (some ⟨W0.heap.size, 0, none⟩) 0 0) 0 [] (by rfl) HO.out _ (.slice a 0 c) ((hw n).map u32V) (by rfl) (HR.out _ HBA.out) (one_u32 _) HL1.out HL2.out HBS.out ?_
          intro v6 w6 hown6 hg6
          obtain ⟨a6, n6, c6, rfl, hb6, hn6, hk0, hk1, hg16⟩ := HF.out v6 w6 hown6 hg6
          clear hown6 hg6
          refine hK.out _ _ ⟨hk0.trans c00, hk1.trans c01⟩ (fun hHeld3 => ?_)
          have HB6 := Lib.hid hb6
          have HN6 := Lib.hid hn6
          have HG6 := Lib.hid hg16
          clear hb6 hn6 hg16 hk0 hk1
          clear hK K hHeld2
          try simp only [Act.put, List.setIfInBounds_toArray, List.set_cons_zero, List.set_cons_succ]
          refine wpAnyT_take 12 (v := ?_) (by kernel_rfl) rfl (by kernel_rfl) (by decide) rfl (by kernel_rfl) (by kernel_rfl) (fun _ _ _ h => h) (Or.inl ⟨by rfl, ?_⟩) (by assumption) ?_
          rotate_left
          · (intro wq hSq; (try dsimp only at hSq); go_simp; try with_reducible rfl)
          try simp only [Act.put, List.setIfInBounds_toArray, List.set_cons_zero, List.set_cons_succ]
          refine wpAnyT_last (by kernel_rfl) (by kernel_rfl) rfl (fun K hK => ?_)
          obtain ⟨d0, d1, fz0, fz1⟩ := num_cells HG6.out
          go_simp
          refine hK.out _ _ ?_
          clear hK K hHeld3 d0 d1 fz0 fz1
          have m2 := num_set HG6.out (.bool false) (.slice a6 n6 c6)
          have hb9 : Below w.heap.size w ((w6.setCell ⟨w.heap.size + 1, 0, none⟩ (.bool false)).setCell ⟨w.heap.size + 1, 1, none⟩ (.slice a6 n6 c6)) := (HB6.out.setCell (by simp) _).setCell (by simp) _
          have hn9 : World.owns ((w6.setCell ⟨w.heap.size + 1, 0, none⟩ (.bool false)).setCell ⟨w.heap.size + 1, 1, none⟩ (.slice a6 n6 c6)) w.heap.size 23 1 (.slice a6 n6 c6) (hw n).length ((hw n).map u32V) := ((World.owns.setCell HN6.out HZ1.out _).setCell HZ1.out _).mono HZ2.out
          obtain ⟨d20, d21, -, -⟩ := num_cells m2
          clear m2
          generalize (w6.setCell ⟨w.heap.size + 1, 0, none⟩ (.bool false)).setCell ⟨w.heap.size + 1, 1, none⟩ (.slice a6 n6 c6) = W9 at d20 d21 hb9 hn9 ⊢
          have HB9 := Lib.hid hb9
          have HN9 := Lib.hid hn9
          clear hb9 hn9
          go_wp2
          rw [HP.out]
          exact bodyPost_ret (v := .agg #[.bool false, .slice a6 n6 c6]) (by simp [results, Try.results83, go_sem, d20, d21]) rfl ⟨.slice a6 n6 c6, by rw [hSt.out], HN9.out, HB9.out⟩
        | false =>
          refine wp_region_line (fun w' => w'.cell? ⟨w.heap.size, 0, none⟩ = some (.bool false) ∧ w'.cell? ⟨w.heap.size, 1, none⟩ = some (.slice a L c)) 13 (by kernel_rfl) ⟨c00, c01⟩ (fun hHeld => ?_)
          refine wpAnyT_take 0 (v := ?_) (by kernel_rfl) rfl (by kernel_rfl) (by decide) rfl (by kernel_rfl) (by kernel_rfl) (fun _ _ _ h => h) (Or.inl ⟨by rfl, ?_⟩) (by assumption) ?_
          rotate_left
          · (intro wq hSq; (try dsimp only at hSq); go_simp; try with_reducible rfl)
          try simp only [Act.put, List.setIfInBounds_toArray, List.set_cons_zero, List.set_cons_succ]
          refine wpAnyT_take 1 (v := ?_) (by kernel_rfl) rfl (by kernel_rfl) (by decide) rfl (by kernel_rfl) (by kernel_rfl) (fun _ _ _ h => h) (Or.inl ⟨by rfl, ?_⟩) (by assumption) ?_
          rotate_left
          · (intro wq hSq; (try dsimp only at hSq); go_simp; try with_reducible rfl)
          try simp only [Act.put, List.setIfInBounds_toArray, List.set_cons_zero, List.set_cons_succ]
          refine wpAnyT_take 2 (v := ?_) (by kernel_rfl) rfl (by kernel_rfl) (by decide) rfl (by kernel_rfl) (by kernel_rfl) (fun _ _ _ h => h) (Or.inl ⟨by rfl, ?_⟩) (by assumption) ?_
          rotate_left
          · (intro wq hSq; (try dsimp only at hSq); go_simp; try with_reducible rfl)
          try simp only [Act.put, List.setIfInBounds_toArray, List.set_cons_zero, List.set_cons_succ]
          refine wpAnyT_take 3 (v := undef) (by kernel_rfl) rfl (by kernel_rfl) (by decide) rfl (by kernel_rfl) (by kernel_rfl) (fun _ _ _ h => h) (Or.inr ⟨by rfl, rfl⟩) (by assumption) ?_
          try simp only [Act.put, List.setIfInBounds_toArray, List.set_cons_zero, List.set_cons_succ]
          refine wpAnyT_take 4 (v := undef) (by kernel_rfl) rfl (by kernel_rfl) (by decide) rfl (by kernel_rfl) (by kernel_rfl) (fun _ _ _ h => h) (Or.inr ⟨by rfl, rfl⟩) (by assumption) ?_
          try simp only [Act.put, List.setIfInBounds_toArray, List.set_cons_zero, List.set_cons_succ]
          refine wpAnyT_take 5 (v := ?_) (by kernel_rfl) rfl (by kernel_rfl) (by decide) rfl (by kernel_rfl) (by kernel_rfl) (fun _ _ _ h => h) (Or.inl ⟨by rfl, ?_⟩) (by assumption) ?_
          rotate_left
          · (intro wq hSq; (try dsimp only at hSq); go_simp; try with_reducible rfl)
          try simp only [Act.put, List.setIfInBounds_toArray, List.set_cons_zero, List.set_cons_succ]
          refine wpAnyT_take 7 (v := ?_) (by kernel_rfl) rfl (by kernel_rfl) (by decide) rfl (by kernel_rfl) (by kernel_rfl) (fun _ _ _ h => h) (Or.inl ⟨by rfl, ?_⟩) (by assumption) ?_
          rotate_left
          · (intro wq hSq; (try dsimp only at hSq); go_simp; try with_reducible rfl)
          try simp only [Act.put, List.setIfInBounds_toArray, List.set_cons_zero, List.set_cons_succ]
          refine wpAnyT_take 8 (v := ?_) (by kernel_rfl) rfl (by kernel_rfl) (by decide) rfl (by kernel_rfl) (by kernel_rfl) (fun _ _ _ h => h) (Or.inl ⟨by rfl, ?_⟩) (by assumption) ?_
          rotate_left
          · (intro wq hSq; (try dsimp only at hSq); go_simp; try with_reducible rfl)
          try simp only [Act.put, List.setIfInBounds_toArray, List.set_cons_zero, List.set_cons_succ]
          refine wpAnyT_take 9 (v := ?_) (by kernel_rfl) rfl (by kernel_rfl) (by decide) rfl (by kernel_rfl) (by kernel_rfl) (fun _ _ _ h => h) (Or.inl ⟨by rfl, ?_⟩) (by assumption) ?_
          rotate_left
          · (intro wq hSq; (try dsimp only at hSq); go_simp; try with_reducible rfl)
          try simp only [Act.put, List.setIfInBounds_toArray, List.set_cons_zero, List.set_cons_succ]
          refine wpAnyT_take 10 (v := ?_) (by kernel_rfl) rfl (by kernel_rfl) (by decide) rfl (by kernel_rfl) (by kernel_rfl) (fun _ _ _ h => h) (Or.inl ⟨by rfl, ?_⟩) (by assumption) ?_
          rotate_left
          · (intro wq hSq; (try dsimp only at hSq); go_simp; try with_reducible rfl)
          try simp only [Act.put, List.setIfInBounds_toArray, List.set_cons_zero, List.set_cons_succ]
          refine wpAnyT_step 6 (by kernel_rfl) rfl (fun K hK => ?_)
          go_simp
          refine hK.out _ _ ⟨HK0.out.trans c00, HK1.out.trans c01⟩ (fun hHeld2 => ?_)
          clear hK K hHeld
          try simp only [Act.put, List.setIfInBounds_toArray, List.set_cons_zero, List.set_cons_succ]
          refine wpAnyT_step 11 (by kernel_rfl) rfl (fun K hK => ?_)
          refine step_append_reads (by rfl) (.tmp 26) (.tmp 30) 22 (by rfl) W0.heap.size 23 i0 (.int .u32 0) 4 Try.underlying22 hi0 hiz hiz1 hizb rfl (.slice (some ⟨W0.heap.size, 0, none⟩) 0 0) 0 [] (by rfl) HO.out _ (.slice a 0 c) ((hw n).map u32V) (by rfl) (HR.out _ HBA.out) (one_u32 _) HL1.out HL2.out HBS.out ?_
          intro v6 w6 hown6 hg6
          obtain ⟨a6, n6, c6, rfl, hb6, hn6, hk0, hk1, hg16⟩ := HF.out v6 w6 hown6 hg6
          clear hown6 hg6
          refine hK.out _ _ ⟨hk0.trans c00, hk1.trans c01⟩ (fun hHeld3 => ?_)
          have HB6 := Lib.hid hb6
          have HN6 := Lib.hid hn6
          have HG6 := Lib.hid hg16
          clear hb6 hn6 hg16 hk0 hk1
          clear hK K hHeld2
          try simp only [Act.put, List.setIfInBounds_toArray, List.set_cons_zero, List.set_cons_succ]
          refine wpAnyT_take 12 (v := ?_) (by kernel_rfl) rfl (by kernel_rfl) (by decide) rfl (by kernel_rfl) (by kernel_rfl) (fun _ _ _ h => h) (Or.inl ⟨by rfl, ?_⟩) (by assumption) ?_
          rotate_left
          · (intro wq hSq; (try dsimp only at hSq); go_simp; try with_reducible rfl)
          try simp only [Act.put, List.setIfInBounds_toArray, List.set_cons_zero, List.set_cons_succ]
          refine wpAnyT_last (by kernel_rfl) (by kernel_rfl) rfl (fun K hK => ?_)
          obtain ⟨d0, d1, fz0, fz1⟩ := num_cells HG6.out
          go_simp
          refine hK.out _ _ ?_
          clear hK K hHeld3 d0 d1 fz0 fz1
          have m2 := num_set HG6.out (.bool false) (.slice a6 n6 c6)
          have hb9 : Below w.heap.size w ((w6.setCell ⟨w.heap.size + 1, 0, none⟩ (.bool false)).setCell ⟨w.heap.size + 1, 1, none⟩ (.slice a6 n6 c6)) := (HB6.out.setCell (by simp) _).setCell (by simp) _
          have hn9 : World.owns ((w6.setCell ⟨w.heap.size + 1, 0, none⟩ (.bool false)).setCell ⟨w.heap.size + 1, 1, none⟩ (.slice a6 n6 c6)) w.heap.size 23 1 (.slice a6 n6 c6) (hw n).length ((hw n).map u32V) := ((World.owns.setCell HN6.out HZ1.out _).setCell HZ1.out _).mono HZ2.out
          obtain ⟨d20, d21, -, -⟩ := num_cells m2
          clear m2
          generalize (w6.setCell ⟨w.heap.size + 1, 0, none⟩ (.bool false)).setCell ⟨w.heap.size + 1, 1, none⟩ (.slice a6 n6 c6) = W9 at d20 d21 hb9 hn9 ⊢
          have HB9 := Lib.hid hb9
          have HN9 := Lib.hid hn9
          clear hb9 hn9
          go_wp2
          rw [HP.out]
          exact bodyPost_ret (v := .agg #[.bool false, .slice a6 n6 c6]) (by simp [results, Try.results83, go_sem, d20, d21]) rfl ⟨.slice a6 n6 c6, by rw [hSt.out], HN9.out, HB9.out⟩
      · have t0 : (0 : Int) < (k : Int) := by omega
        have t1 : ((x : Int) == 0) = false := by rw [beq_eq_false_iff_ne]; omega
        have hj2 : (k : Int) - 1 = (j : Int) := by omega
        have hjL : j < L := by omega
        have hSt : Hid (S = s) := by show _ = _; rw [HSS.out, decide_eq_true (by omega), Bool.and_true]
        clear hx hj hk1
        go_wp2_with fail
        cases s with
        | true =>
          refine wp_region_line (fun w' => w'.cell? ⟨w.heap.size, 0, none⟩ = some (.bool true) ∧ w'.cell? ⟨w.heap.size, 1, none⟩ = some (.slice (some ⟨b, off, none⟩) L c)) 13 (by kernel_rfl) ⟨c00, c01⟩ (fun hHeld => ?_)
          refine wpAnyT_take 0 (v := ?_) (by kernel_rfl) rfl (by kernel_rfl) (by decide) rfl (by kernel_rfl) (by kernel_rfl) (fun _ _ _ h => h) (Or.inl ⟨by rfl, ?_⟩) (by assumption) ?_
          rotate_left
          · (intro wq hSq; (try dsimp only at hSq); go_simp; try with_reducible rfl)
          try simp only [Act.put, List.setIfInBounds_toArray, List.set_cons_zero, List.set_cons_succ]
          refine wpAnyT_take 1 (v := ?_) (by kernel_rfl) rfl (by kernel_rfl) (by decide) rfl (by kernel_rfl) (by kernel_rfl) (fun _ _ _ h => h) (Or.inl ⟨by rfl, ?_⟩) (by assumption) ?_
          rotate_left
          · (intro wq hSq; (try dsimp only at hSq); go_simp; try with_reducible rfl)
          try simp only [Act.put, List.setIfInBounds_toArray, List.set_cons_zero, List.set_cons_succ]
          refine wpAnyT_take 2 (v := ?_) (by kernel_rfl) rfl (by kernel_rfl) (by decide) rfl (by kernel_rfl) (by kernel_rfl) (fun _ _ _ h => h) (Or.inl ⟨by rfl, ?_⟩) (by assumption) ?_
          rotate_left
          · (intro wq hSq; (try dsimp only at hSq); go_simp; try with_reducible rfl)
          try simp only [Act.put, List.setIfInBounds_toArray, List.set_cons_zero, List.set_cons_succ]
          refine wpAnyT_take 3 (v := ?_) (by kernel_rfl) rfl (by kernel_rfl) (by decide) rfl (by kernel_rfl) (by kernel_rfl) (fun _ _ _ h => h) (Or.inl ⟨by rfl, ?_⟩) (by assumption) ?_
          rotate_left
          · (intro wq hSq; (try dsimp only at hSq); go_simp; try with_reducible rfl)
          try simp only [Act.put, List.setIfInBounds_toArray, List.set_cons_zero, List.set_cons_succ]
          refine wpAnyT_take 4 (v := ?_) (by kernel_rfl) rfl (by kernel_rfl) (by decide) rfl (by kernel_rfl) (by kernel_rfl) (fun _ _ _ h => h) (Or.inl ⟨by rfl, ?_⟩) (by assumption) ?_
          rotate_left
          · (intro wq hSq; (try dsimp only at hSq); go_simp; try with_reducible rfl)
          try simp only [Act.put, List.setIfInBounds_toArray, List.set_cons_zero, List.set_cons_succ]
          refine wpAnyT_take 5 (v := ?_) (by kernel_rfl) rfl (by kernel_rfl) (by decide) rfl (by kernel_rfl) (by kernel_rfl) (fun _ _ _ h => h) (Or.inl ⟨by rfl, ?_⟩) (by assumption) ?_
          rotate_left
          · (intro wq hSq; (try dsimp only at hSq); go_simp; try with_reducible rfl)
          try simp only [Act.put, List.setIfInBounds_toArray, List.set_cons_zero, List.set_cons_succ]
          refine wpAnyT_take 7 (v := ?_) (by kernel_rfl) rfl (by kernel_rfl) (by decide) rfl (by kernel_rfl) (by kernel_rfl) (fun _ _ _ h => h) (Or.inl ⟨by rfl, ?_⟩) (by assumption) ?_
          rotate_left
          · (intro wq hSq; (try dsimp only at hSq); go_simp; try with_reducible rfl)
          try simp only [Act.put, List.setIfInBounds_toArray, List.set_cons_zero, List.set_cons_succ]
          refine wpAnyT_take 8 (v := ?_) (by kernel_rfl) rfl (by kernel_rfl) (by decide) rfl (by kernel_rfl) (by kernel_rfl) (fun _ _ _ h => h) (Or.inl ⟨by rfl, ?_⟩) (by assumption) ?_
          rotate_left
          · (intro wq hSq; (try dsimp only at hSq); go_simp; try with_reducible rfl)
          try simp only [Act.put, List.setIfInBounds_toArray, List.set_cons_zero, List.set_cons_succ]
          refine wpAnyT_take 9 (v := ?_) (by kernel_rfl) rfl (by kernel_rfl) (by decide) rfl (by kernel_rfl) (by kernel_rfl) (fun _ _ _ h => h) (Or.inl ⟨by rfl, ?_⟩) (by assumption) ?_
          rotate_left
          · (intro wq hSq; (try dsimp only at hSq); go_simp; try with_reducible rfl)
          try simp only [Act.put, List.setIfInBounds_toArray, List.set_cons_zero, List.set_cons_succ]
          refine wpAnyT_take 10 (v := ?_) (by kernel_rfl) rfl (by kernel_rfl) (by decide) rfl (by kernel_rfl) (by kernel_rfl) (fun _ _ _ h => h) (Or.inl ⟨by rfl, ?_⟩) (by assumption) ?_
          rotate_left
          · (intro wq hSq; (try dsimp only at hSq); go_simp; try with_reducible rfl)
          try simp only [Act.put, List.setIfInBounds_toArray, List.set_cons_zero, List.set_cons_succ]
          refine wpAnyT_step 6 (by kernel_rfl) rfl (fun K hK => ?_)
          go_simp
          refine hK.out _ _ ⟨HK0.out.trans c00, HK1.out.trans c01⟩ (fun hHeld2 => ?_)
          clear hK K hHeld
          try simp only [Act.put, List.setIfInBounds_toArray, List.set_cons_zero, List.set_cons_succ]
          refine wpAnyT_step 11 (by kernel_rfl) rfl (fun K hK => ?_)
          refine step_append_reads (by rfl) (.tmp 26) (.tmp 30) 22 (by rfl) W0.heap.size 23 i0 (.int .u32 0) 4 Try.underlying22 hi0 hiz hiz1 hizb rfl (.slice (some ⟨W0.heap.size, 0, none⟩) 0 0) 0 [] (by rfl) HO.out _ (.slice (some ⟨b, off, none⟩) k c) ((hw n).map u32V) (by rfl) (HR.out _ HBA.out) (one_u32 _) HL1.out HL2.out HBS.out ?_
          intro v6 w6 hown6 hg6
          obtain ⟨a6, n6, c6, rfl, hb6, hn6, hk0, hk1, hg16⟩ := HF.out v6 w6 hown6 hg6
          clear hown6 hg6
          refine hK.out _ _ ⟨hk0.trans c00, hk1.trans c01⟩ (fun hHeld3 => ?_)
          have HB6 := Lib.hid hb6
          have HN6 := Lib.hid hn6
          have HG6 := Lib.hid hg16
          clear hb6 hn6 hg16 hk0 hk1
          clear hK K hHeld2
          try simp only [Act.put, List.setIfInBounds_toArray, List.set_cons_zero, List.set_cons_succ]
          refine wpAnyT_take 12 (v := ?_) (by kernel_rfl) rfl (by kernel_rfl) (by decide) rfl (by kernel_rfl) (by kernel_rfl) (fun _ _ _ h => h) (Or.inl ⟨by rfl, ?_⟩) (by assumption) ?_
          rotate_left
          · (intro wq hSq; (try dsimp only at hSq); go_simp; try with_reducible rfl)
          try simp only [Act.put, List.setIfInBounds_toArray, List.set_cons_zero, List.set_cons_succ]
          refine wpAnyT_last (by kernel_rfl) (by kernel_rfl) rfl (fun K hK => ?_)
          obtain ⟨d0, d1, fz0, fz1⟩ := num_cells HG6.out
          go_simp
          refine hK.out _ _ ?_
          clear hK K hHeld3 d0 d1 fz0 fz1
          have m2 := num_set HG6.out (.bool true) (.slice a6 n6 c6)
          have hb9 : Below w.heap.size w ((w6.setCell ⟨w.heap.size + 1, 0, none⟩ (.bool true)).setCell ⟨w.heap.size + 1, 1, none⟩ (.slice a6 n6 c6)) := (HB6.out.setCell (by simp) _).setCell (by simp) _
          have hn9 : World.owns ((w6.setCell ⟨w.heap.size + 1, 0, none⟩ (.bool true)).setCell ⟨w.heap.size + 1, 1, none⟩ (.slice a6 n6 c6)) w.heap.size 23 1 (.slice a6 n6 c6) (hw n).length ((hw n).map u32V) := ((World.owns.setCell HN6.out HZ1.out _).setCell HZ1.out _).mono HZ2.out
          obtain ⟨d20, d21, -, -⟩ := num_cells m2
          clear m2
          generalize (w6.setCell ⟨w.heap.size + 1, 0, none⟩ (.bool true)).setCell ⟨w.heap.size + 1, 1, none⟩ (.slice a6 n6 c6) = W9 at d20 d21 hb9 hn9 ⊢
          have HB9 := Lib.hid hb9
          have HN9 := Lib.hid hn9
          clear hb9 hn9
          go_wp2
          rw [HP.out]
          exact bodyPost_ret (v := .agg #[.bool true, .slice a6 n6 c6]) (by simp [results, Try.results83, go_sem, d20, d21]) rfl ⟨.slice a6 n6 c6, by rw [hSt.out], HN9.out, HB9.out⟩
        | false =>
          refine wp_region_line (fun w' => w'.cell? ⟨w.heap.size, 0, none⟩ = some (.bool false) ∧ w'.cell? ⟨w.heap.size, 1, none⟩ = some (.slice (some ⟨b, off, none⟩) L c)) 13 (by kernel_rfl) ⟨c00, c01⟩ (fun hHeld => ?_)
          refine wpAnyT_take 0 (v := ?_) (by kernel_rfl) rfl (by kernel_rfl) (by decide) rfl (by kernel_rfl) (by kernel_rfl) (fun _ _ _ h => h) (Or.inl ⟨by rfl, ?_⟩) (by assumption) ?_
          rotate_left
          · (intro wq hSq; (try dsimp only at hSq); go_simp; try with_reducible rfl)
          try simp only [Act.put, List.setIfInBounds_toArray, List.set_cons_zero, List.set_cons_succ]
          refine wpAnyT_take 1 (v := ?_) (by kernel_rfl) rfl (by kernel_rfl) (by decide) rfl (by kernel_rfl) (by kernel_rfl) (fun _ _ _ h => h) (Or.inl ⟨by rfl, ?_⟩) (by assumption) ?_
          rotate_left
          · (intro wq hSq; (try dsimp only at hSq); go_simp; try with_reducible rfl)
          try simp only [Act.put, List.setIfInBounds_toArray, List.set_cons_zero, List.set_cons_succ]
          refine wpAnyT_take 2 (v := ?_) (by kernel_rfl) rfl (by kernel_rfl) (by decide) rfl (by kernel_rfl) (by kernel_rfl) (fun _ _ _ h => h) (Or.inl ⟨by rfl, ?_⟩) (by assumption) ?_
          rotate_left
          · (intro wq hSq; (try dsimp only at hSq); go_simp; try with_reducible rfl)
          try simp only [Act.put, List.setIfInBounds_toArray, List.set_cons_zero, List.set_cons_succ]
          refine wpAnyT_take 3 (v := undef) (by kernel_rfl) rfl (by kernel_rfl) (by decide) rfl (by kernel_rfl) (by kernel_rfl) (fun _ _ _ h => h) (Or.inr ⟨by rfl, rfl⟩) (by assumption) ?_
          try simp only [Act.put, List.setIfInBounds_toArray, List.set_cons_zero, List.set_cons_succ]
          refine wpAnyT_take 4 (v := undef) (by kernel_rfl) rfl (by kernel_rfl) (by decide) rfl (by kernel_rfl) (by kernel_rfl) (fun _ _ _ h => h) (Or.inr ⟨by rfl, rfl⟩) (by assumption) ?_
          try simp only [Act.put, List.setIfInBounds_toArray, List.set_cons_zero, List.set_cons_succ]
          refine wpAnyT_take 5 (v := ?_) (by kernel_rfl) rfl (by kernel_rfl) (by decide) rfl (by kernel_rfl) (by kernel_rfl) (fun _ _ _ h => h) (Or.inl ⟨by rfl, ?_⟩) (by assumption) ?_
          rotate_left
          · (intro wq hSq; (try dsimp only at hSq); go_simp; try with_reducible rfl)
          try simp only [Act.put, List.setIfInBounds_toArray, List.set_cons_zero, List.set_cons_succ]
          refine wpAnyT_take 7 (v := ?_) (by kernel_rfl) rfl (by kernel_rfl) (by decide) rfl (by kernel_rfl) (by kernel_rfl) (fun _ _ _ h => h) (Or.inl ⟨by rfl, ?_⟩) (by assumption) ?_
          rotate_left
          · (intro wq hSq; (try dsimp only at hSq); go_simp; try with_reducible rfl)
          try simp only [Act.put, List.setIfInBounds_toArray, List.set_cons_zero, List.set_cons_succ]
          refine wpAnyT_take 8 (v := ?_) (by kernel_rfl) rfl (by kernel_rfl) (by decide) rfl (by kernel_rfl) (by kernel_rfl) (fun _ _ _ h => h) (Or.inl ⟨by rfl, ?_⟩) (by assumption) ?_
          rotate_left
          · (intro wq hSq; (try dsimp only at hSq); go_simp; try with_reducible rfl)
          try simp only [Act.put, List.setIfInBounds_toArray, List.set_cons_zero, List.set_cons_succ]
          refine wpAnyT_take 9 (v := ?_) (by kernel_rfl) rfl (by kernel_rfl) (by decide) rfl (by kernel_rfl) (by kernel_rfl) (fun _ _ _ h => h) (Or.inl ⟨by rfl, ?_⟩) (by assumption) ?_
          rotate_left
          · (intro wq hSq; (try dsimp only at hSq); go_simp; try with_reducible rfl)
          try simp only [Act.put, List.setIfInBounds_toArray, List.set_cons_zero, List.set_cons_succ]
          refine wpAnyT_take 10 (v := ?_) (by kernel_rfl) rfl (by kernel_rfl) (by decide) rfl (by kernel_rfl) (by kernel_rfl) (fun _ _ _ h => h) (Or.inl ⟨by rfl, ?_⟩) (by assumption) ?_
          rotate_left
          · (intro wq hSq; (try dsimp only at hSq); go_simp; try with_reducible rfl)
          try simp only [Act.put, List.setIfInBounds_toArray, List.set_cons_zero, List.set_cons_succ]
          refine wpAnyT_step 6 (by kernel_rfl) rfl (fun K hK => ?_)
          go_simp
          refine hK.out _ _ ⟨HK0.out.trans c00, HK1.out.trans c01⟩ (fun hHeld2 => ?_)
          clear hK K hHeld
          try simp only [Act.put, List.setIfInBounds_toArray, List.set_cons_zero, List.set_cons_succ]
          refine wpAnyT_step 11 (by kernel_rfl) rfl (fun K hK => ?_)
          refine step_append_reads (by rfl) (.tmp 26) (.tmp 30) 22 (by rfl) W0.heap.size 23 i0 (.int .u32 0) 4 Try.underlying22 hi0 hiz hiz1 hizb rfl (.slice (some ⟨W0.heap.size, 0, none⟩) 0 0) 0 [] (by rfl) HO.out _ (.slice (some ⟨b, off, none⟩) k c) ((hw n).map u32V) (by rfl) (HR.out _ HBA.out) (one_u32 _) HL1.out HL2.out HBS.out ?_
          intro v6 w6 hown6 hg6
          obtain ⟨a6, n6, c6, rfl, hb6, hn6, hk0, hk1, hg16⟩ := HF.out v6 w6 hown6 hg6
          clear hown6 hg6
          refine hK.out _ _ ⟨hk0.trans c00, hk1.trans c01⟩ (fun hHeld3 => ?_)
          have HB6 := Lib.hid hb6
          have HN6 := Lib.hid hn6
          have HG6 := Lib.hid hg16
          clear hb6 hn6 hg16 hk0 hk1
          clear hK K hHeld2
          try simp only [Act.put, List.setIfInBounds_toArray, List.set_cons_zero, List.set_cons_succ]
          refine wpAnyT_take 12 (v := ?_) (by kernel_rfl) rfl (by kernel_rfl) (by decide) rfl (by kernel_rfl) (by kernel_rfl) (fun _ _ _ h => h) (Or.inl ⟨by rfl, ?_⟩) (by assumption) ?_
          rotate_left
          · (intro wq hSq; (try dsimp only at hSq); go_simp; try with_reducible rfl)
          try simp only [Act.put, List.setIfInBounds_toArray, List.set_cons_zero, List.set_cons_succ]
          refine wpAnyT_last (by kernel_rfl) (by kernel_rfl) rfl (fun K hK => ?_)
          obtain ⟨d0, d1, fz0, fz1⟩ := num_cells HG6.out
          go_simp
          refine hK.out _ _ ?_
          clear hK K hHeld3 d0 d1 fz0 fz1
          have m2 := num_set HG6.out (.bool false) (.slice a6 n6 c6)
          have hb9 : Below w.heap.size w ((w6.setCell ⟨w.heap.size + 1, 0, none⟩ (.bool false)).setCell ⟨w.heap.size + 1, 1, none⟩ (.slice a6 n6 c6)) := (HB6.out.setCell (by simp) _).setCell (by simp) _
          have hn9 : World.owns ((w6.setCell ⟨w.heap.size + 1, 0, none⟩ (.bool false)).setCell ⟨w.heap.size + 1, 1, none⟩ (.slice a6 n6 c6)) w.heap.size 23 1 (.slice a6 n6 c6) (hw n).length ((hw n).map u32V) := ((World.owns.setCell HN6.out HZ1.out _).setCell HZ1.out _).mono HZ2.out
          obtain ⟨d20, d21, -, -⟩ := num_cells m2
          clear m2
          generalize (w6.setCell ⟨w.heap.size + 1, 0, none⟩ (.bool false)).setCell ⟨w.heap.size + 1, 1, none⟩ (.slice a6 n6 c6) = W9 at d20 d21 hb9 hn9 ⊢
          have HB9 := Lib.hid hb9
          have HN9 := Lib.hid hn9
          clear hb9 hn9
          go_wp2
          rw [HP.out]
          exact bodyPost_ret (v := .agg #[.bool false, .slice a6 n6 c6]) (by simp [results, Try.results83, go_sem, d20, d21]) rfl ⟨.slice a6 n6 c6, by rw [hSt.out], HN9.out, HB9.out⟩
theorem htrim_any (s : Bool) (n L : Nat) (hn : n < 65536 ^ L) (hL : L ≤ 10000) (v : Value) (w : World) (hv : World.rawH w v n L) :
    Calls Try.prog 83 #[.agg #[.bool s, v]] w (SRet w (s && decide (n ≠ 0)) n) := (htrim_own s n L hn hL v w hv).mono fun _ _ h => h.ret
end Go.Proofs.Ytnjblppapmflhaa

/- The reference's numbers with signs: a small integer; the negative; the integer of a form. -/
namespace Go.Proofs.Ytnjblppapmflhaa
set_option linter.all false
open Go.RowKit Go.Shelf Go.WideNum
theorem SRet.bel {w w' : World} {s : Bool} {n : Nat} {e : Ending} (h : SRet w s n e w') : Below w.heap.size w w' := h.choose_spec.2.2
theorem two_raw (n : Nat) (hn : n < 4294967296) (W : World) : World.rawH (W.alloc (.cells #[.int .u32 ((n % 65536 : Nat) : Int), .int .u32 ((n / 65536 : Nat) : Int)] 23)) (.slice (some ⟨W.heap.size, 0, none⟩) 2 2) n 2 := by
  have e : ((List.range 2).map (dig 65536 n)).map u32V = [.int .u32 ((n % 65536 : Nat) : Int), .int .u32 ((n / 65536 : Nat) : Int)] := by
    have h1 : n / 65536 % 65536 = n / 65536 := by omega
    simp [List.range_succ, dig, u32V, h1]
  have h := reads_alloc_new W [.int .u32 ((n % 65536 : Nat) : Int), .int .u32 ((n / 65536 : Nat) : Int)] 23 2 (by simp) (by unfold maxLen; omega)
  show World.reads _ _ _ _
  rw [e]
  simpa using h
set_option maxRecDepth 100000 in
set_option maxHeartbeats 8000000 in
theorem word_any (n : Nat) (hn : n < 4294967296) (w : World) : Calls Try.prog 64 #[.int .u32 (n : Int)] w (SRet w false n) := by
  obtain ⟨x, hx⟩ : ∃ x, x = n % 65536 := ⟨_, rfl⟩
  obtain ⟨y, hy⟩ : ∃ x, x = n / 65536 := ⟨_, rfl⟩
  have hraw := two_raw n hn (w.alloc (.cells #[.bool false, .slice none 0 0] 86))
  rw [← hx, ← hy, show (w.alloc (.cells #[.bool false, .slice none 0 0] 86)).heap.size = w.heap.size + 1 by simp] at hraw
  have hb1 : Below w.heap.size w ((w.alloc (.cells #[.bool false, .slice none 0 0] 86)).alloc (.cells #[.int .u32 (x : Int), .int .u32 (y : Int)] 23)) := (((Below.refl _ w).alloc (Nat.le_refl _) _).alloc (by simp) _)
  have hg1 : ((w.alloc (.cells #[.bool false, .slice none 0 0] 86)).alloc (.cells #[.int .u32 (x : Int), .int .u32 (y : Int)] 23)).heap[w.heap.size]? = some (.cells #[.bool false, .slice none 0 0] 86) := by rw [Below.heap_alloc _ _ _ (by simp)]; exact heap_alloc_new w _
  have HR := Lib.hid hraw
  have HB1 := Lib.hid hb1
  have HG1 := Lib.hid hg1
  have t1 : (n : Int) % 65536 = (x : Int) := by omega
  have t2 : (n : Int) / 65536 = (y : Int) := by omega
  obtain ⟨HPOST, hpost⟩ : ∃ R, R = SRet w false n := ⟨_, rfl⟩
  rw [← hpost]
  have HP := Lib.hid hpost
  have hn2 : (n : Int) < 4294967296 := by omega
  have HN : Hid (n < 65536 ^ 2) := by show n < 65536 ^ 2; omega
  clear hpost hx hy hraw hb1 hg1 hn
  go_enter Try.func64, Try.ntmps64
  go_wp2_with fail
  (with_reducible refine (htrim_any false n 2 HN.out (by omega) _ _ HR.out).mono ?_)
  rintro e w5 ⟨v5, rfl, hn5, hb5⟩
  obtain ⟨a5, c5, rfl⟩ := reads_len hn5
  obtain ⟨L5, hL5⟩ : ∃ L, L = ((hw n).map u32V).length := ⟨_, rfl⟩
  rw [← hL5] at hn5 ⊢
  clear hL5
  have hg5 := (hb5.block w.heap.size (by simp; omega)).trans HG1.out
  have HB5 := Lib.hid (HB1.out.trans (hb5.mono HB1.out.size))
  have HN5 := Lib.hid hn5
  have HG5 := Lib.hid hg5
  obtain ⟨d0, d1, fz0, fz1⟩ := num_cells hg5
  have hlt5 := lt_of_heap hg5
  clear hn5 hb5 hg5 t1 t2
  go_wp2
  have m2 := num_set HG5.out (.bool false) (.slice a5 L5 c5)
  have hb9 : Below w.heap.size w ((w5.setCell ⟨w.heap.size, 0, none⟩ (.bool false)).setCell ⟨w.heap.size, 1, none⟩ (.slice a5 L5 c5)) := (HB5.out.setCell (by simp) _).setCell (by simp) _
  have hn9 := numH_set HN5.out HG5.out (.bool false) (.slice a5 L5 c5)
  obtain ⟨d20, d21, -, -⟩ := num_cells m2
  clear m2
  generalize (w5.setCell ⟨w.heap.size, 0, none⟩ (.bool false)).setCell ⟨w.heap.size, 1, none⟩ (.slice a5 L5 c5) = W9 at d20 d21 hb9 hn9 ⊢
  rw [HP.out]
  exact bodyPost_ret (v := .agg #[.bool false, .slice a5 L5 c5]) (by simp [results, Try.results64, go_sem, d20, d21]) rfl ⟨.slice a5 L5 c5, rfl, hn9, hb9⟩
set_option maxRecDepth 100000 in
set_option maxHeartbeats 8000000 in
theorem negative_any (s : Bool) (n L : Nat) (hn : n < 65536 ^ L) (hL : L ≤ 10000) (v : Value) (w : World) (hv : World.rawH w v n L) : Calls Try.prog 61 #[.agg #[.bool s, v]] w (SRet w (!s && decide (n ≠ 0)) n) := by
  obtain ⟨a, c, hva, -, -, -⟩ := rawH_words hv
  subst hva
  have HV : Hid (World.rawH w (.slice a L c) n L) := hv
  clear hv
  obtain ⟨W0, hW0⟩ : ∃ W0, W0 = (w.alloc (.cells #[.bool s, .slice a L c] 86)).alloc (.cells #[.bool false, .slice none 0 0] 86) := ⟨_, rfl⟩
  have g0 : W0.heap[w.heap.size]? = some (.cells #[.bool s, .slice a L c] 86) := by rw [hW0, Below.heap_alloc _ _ _ (by simp)]; exact heap_alloc_new w _
  have g1 : W0.heap[w.heap.size + 1]? = some (.cells #[.bool false, .slice none 0 0] 86) := by rw [hW0]; exact alloc_last _ _ (by simp)
  have hb0 : Below w.heap.size w W0 := by rw [hW0]; exact (((Below.refl _ w).alloc (Nat.le_refl _) _).alloc (by simp) _)
  have HB0 := Lib.hid hb0
  have HG1 := Lib.hid g1
  obtain ⟨c00, c01, f00, f01⟩ := num_cells g0
  have HW0 := Lib.hid hW0
  have HN := Lib.hid hn
  have HL := Lib.hid hL
  obtain ⟨S, hS⟩ : ∃ S, S = (!s && decide (n ≠ 0)) := ⟨_, rfl⟩
  rw [← hS]
  have htr := fun W => fun h => htrim_any (!s) n L hn hL (.slice a L c) W h
  rw [← hS] at htr
  have HTR := Lib.hid htr
  obtain ⟨HPOST, hpost⟩ : ∃ R, R = SRet w S n := ⟨_, rfl⟩
  rw [← hpost]
  have HP := Lib.hid hpost
  clear hb0 g0 g1 hW0 hn hL hS htr hpost
  go_enter Try.func61, Try.ntmps61
  go_upto_region 1 with (fail)
  rw [← HW0.out]
  go_wp2_with fail
  (with_reducible refine (HTR.out _ (rawH_below HV.out HB0.out)).mono ?_)
  rintro e w5 ⟨v5, rfl, hn5, hb5⟩
  obtain ⟨a5, c5, rfl⟩ := reads_len hn5
  obtain ⟨L5, hL5⟩ : ∃ L, L = ((hw n).map u32V).length := ⟨_, rfl⟩
  rw [← hL5] at hn5 ⊢
  clear hL5
  have hg5 := (hb5.block (w.heap.size + 1) (lt_of_heap HG1.out)).trans HG1.out
  have HB5 := Lib.hid (HB0.out.trans (hb5.mono HB0.out.size))
  have HN5 := Lib.hid hn5
  have HG5 := Lib.hid hg5
  obtain ⟨d0, d1, fz0, fz1⟩ := num_cells hg5
  clear hn5 hb5 hg5
  go_wp2
  have m2 := num_set HG5.out (.bool S) (.slice a5 L5 c5)
  have hb9 : Below w.heap.size w ((w5.setCell ⟨w.heap.size + 1, 0, none⟩ (.bool S)).setCell ⟨w.heap.size + 1, 1, none⟩ (.slice a5 L5 c5)) := (HB5.out.setCell (by simp) _).setCell (by simp) _
  have hn9 := numH_set HN5.out HG5.out (.bool S) (.slice a5 L5 c5)
  obtain ⟨d20, d21, -, -⟩ := num_cells m2
  clear m2
  generalize (w5.setCell ⟨w.heap.size + 1, 0, none⟩ (.bool S)).setCell ⟨w.heap.size + 1, 1, none⟩ (.slice a5 L5 c5) = W9 at d20 d21 hb9 hn9 ⊢
  rw [HP.out]
  exact bodyPost_ret (v := .agg #[.bool S, .slice a5 L5 c5]) (by simp [results, Try.results61, go_sem, d20, d21]) rfl ⟨.slice a5 L5 c5, rfl, hn9, hb9⟩
end Go.Proofs.Ytnjblppapmflhaa

/- The reference's numbers with signs: the integer of a form. -/
namespace Go.Proofs.Ytnjblppapmflhaa
set_option linter.all false
open Go.RowKit Go.Shelf Go.WideNum
theorem num_set1 {W : World} {g : Nat} {u0 u1 : Value} {T : TypeId} (h : W.heap[g]? = some (.cells #[u0, u1] T)) (y : Value) :
    (W.setCell ⟨g, 1, none⟩ y).heap[g]? = some (.cells #[u0, y] T) := by
  simp [World.setCell, Array.getElem?_modify, h]
theorem cell_other {W : World} {g b o : Nat} (hb : b ≠ g) (y : Value) : (W.setCell ⟨g, o, none⟩ y).heap[b]? = W.heap[b]? := by
  simp [World.setCell, Array.getElem?_modify, Ne.symm hb]
theorem pow2 (q : Nat) : 65536 ^ q = 256 ^ (2 * q) := by rw [show (65536 : Nat) = 256 ^ 2 by rfl, ← Nat.pow_mul]
theorem hw_halves (n : Nat) : (hw n).length = ((words 256 n).length + 1) / 2 := by
  obtain ⟨N, hN⟩ : ∃ N, N = (words 256 n).length := ⟨_, rfl⟩
  rw [← hN]
  have h1 : n < 256 ^ N := by rw [hN]; exact words_vlt (by omega) n
  have h2 : (hw n).length ≤ (N + 1) / 2 := hw_len_le (by rw [pow2]; exact Nat.lt_of_lt_of_le h1 (Nat.pow_le_pow_right (by omega) (by omega)))
  rcases Nat.eq_zero_or_pos N with h0 | h0
  · omega
  · have h3 : 256 ^ (N - 1) ≤ n := by
      rcases Nat.lt_or_ge n (256 ^ (N - 1)) with h | h
      · have := words_length (B := 256) (by omega) n (N - 1) h
        omega
      · exact h
    have h4 : (N - 1) / 2 < (hw n).length := words_lenlt (B := 65536) (by omega) n _ (by rw [pow2]; exact Nat.le_trans (Nat.pow_le_pow_right (by omega) (by omega)) h3)
    omega
theorem dig_halves (n k : Nat) : dig 65536 n k = dig 256 n (2 * k) + 256 * dig 256 n (2 * k + 1) := by
  unfold dig
  rw [pow2, Nat.pow_succ, ← Nat.div_div_eq_div_mul]
  generalize n / 256 ^ (2 * k) = m
  omega
set_option maxRecDepth 100000 in
set_option maxHeartbeats 8000000 in
theorem in_any (neg : Bool) (s : ByteArray) (hv : validB neg s = true) (w : World) : Calls Try.prog 57 #[.agg #[.bool neg, .string s]] w (SRet w neg (numB s)) := by
  obtain ⟨-, hmag, -, hs⟩ := valid_spec neg s hv
  obtain ⟨n, hn⟩ : ∃ n, n = numB s := ⟨_, rfl⟩
  rw [← hn] at hmag ⊢
  have hlen : (words 256 n).length = s.size := by
    rw [← magL_length, ← hmag]; rfl
  have HBY : Hid (∀ i (h : i < s.size), (s[i].toNat) = dig 256 n (s.size - 1 - i)) := fun i h => by rw [hn]; exact byte_dig s.data.toList i h
  obtain ⟨N, hN⟩ : ∃ N, N = s.size := ⟨_, rfl⟩
  have hM := hw_halves n
  rw [hlen, ← hN] at hM
  have HNL : Hid (n < 256 ^ N) := by show _ < _; rw [hN, ← hlen]; exact words_vlt (by omega) n
  have HN := Lib.hid hN
  have HM := Lib.hid hM
  have hs2 : N ≤ 256 := by omega
  have hNI : (s.size : Int) = (N : Int) := by rw [hN]
  clear hv hmag hn hlen hN hM hs
  obtain ⟨HPOST, hpost⟩ : ∃ R, R = SRet w neg n := ⟨_, rfl⟩
  rw [← hpost]
  have HP := Lib.hid hpost
  clear hpost
  go_enter Try.func57, Try.ntmps57
  go_wp2_with fail
  go_loopw [4] (fun iv wr => ∃ (k : Nat) (xa : Option Addr) (xc : Nat), 2 * k ≤ N + 1 ∧ iv = .int .i64 ((N : Int) - 1 - 2 * (k : Int)) ∧ Hid (wr.heap[w.heap.size]? = some (.cells #[.bool neg, .string s] 38)) ∧ Hid (wr.heap[w.heap.size + 1]? = some (.cells #[.bool false, .slice none 0 0] 86)) ∧ Hid (wr.heap[w.heap.size + 1 + 1]? = some (.cells #[.bool neg, .slice xa k xc] 86)) ∧ Hid (wr.owns (w.heap.size + 1 + 1 + 1) 23 1 (.slice xa k xc) k (((List.range k).map (dig 65536 n)).map u32V)) ∧ Hid (Below w.heap.size w wr) ∧ w.heap.size + 1 + 1 + 1 ≤ wr.heap.size) (fun iv _ => (intOf iv + 2).toNat)
  case atStart =>
    refine ⟨0, none, 0, by omega, by simp, ?_, ?_, ?_, owns_nil _ _ _, ?_, by simp⟩
    · show _ = _; rw [Below.heap_alloc _ _ _ (by simp; omega), Below.heap_alloc _ _ _ (by simp)]; exact heap_alloc_new w _
    · show _ = _; rw [Below.heap_alloc _ _ _ (by simp)]; exact alloc_last _ _ (by simp)
    · show _ = _; exact alloc_last _ _ (by simp)
    · show Below _ _ _
      exact ((((Below.refl _ w).alloc (Nat.le_refl _) _).alloc (by simp) _).alloc (by simp; omega) _)
  case round =>
    obtain ⟨k, xa, xc, hk, rfl, hG0, hG1, hG2, hO, hB, hz⟩ := hrel
    obtain ⟨c00, c01, f00⟩ := num_cells hG0.out
    obtain ⟨c20, c21, f20, f21⟩ := num_cells hG2.out
    by_cases hlt : 2 * k < N
    · obtain ⟨j, hj⟩ : ∃ j, j + 2 * k + 1 = N := ⟨N - 1 - 2 * k, by omega⟩
      rw [show (N : Int) - 1 - 2 * (k : Int) = (j : Int) by omega]
      have hNs := HN.out
      have hj1 : j < s.size := by omega
      have hj2 : (j : Int) < (s.size : Int) := by omega
      have hj0 : (0 : Int) ≤ (j : Int) := by omega
      have hbx := HBY.out j hj1
      rw [show s.size - 1 - j = 2 * k by omega] at hbx
      obtain ⟨x, ex⟩ : ∃ x, x = (s[j]'hj1).toNat := ⟨_, rfl⟩
      have hxx : ((s[j]'hj1).toNat : Int) = (x : Int) := by rw [ex]
      have hx256 : x < 256 := by rw [ex]; exact (s[j]'hj1).toNat_lt
      rw [← ex] at hbx
      have hz0 := dig_halves n k
      rw [← hbx] at hz0
      obtain ⟨z, ez⟩ : ∃ x, x = dig 65536 n k := ⟨_, rfl⟩
      rw [← ez] at hz0
      have EZ := Lib.hid ez
      clear ex ez hbx hNs
      by_cases hp : 0 < j
      · obtain ⟨m, rfl⟩ : ∃ m, j = m + 1 := ⟨j - 1, by omega⟩
        have hm1 : m < s.size := by omega
        have hby := HBY.out m hm1
        have hNs := HN.out
        rw [show s.size - 1 - m = 2 * k + 1 by omega] at hby
        obtain ⟨y, ey⟩ : ∃ x, x = (s[m]'hm1).toNat := ⟨_, rfl⟩
        have hyy : ((s[m]'hm1).toNat : Int) = (y : Int) := by rw [ey]
        have hy256 : y < 256 := by rw [ey]; exact (s[m]'hm1).toNat_lt
        rw [← ey] at hby
        rw [← hby] at hz0
        have hm0 : (0 : Int) ≤ (m : Int) := by omega
        have hm2 : (m : Int) < (s.size : Int) := by omega
        have hm3 : ((m + 1 : Nat) : Int) - 1 = (m : Int) := by omega
        have hp2 : (0 : Int) < ((m + 1 : Nat) : Int) := by omega
        have t1 : (x : Int) + 256 * (y : Int) = (z : Int) := by omega
        have HJ := Lib.hid hj
        clear ey hby hNs hz0
        go_wp2_with (at_builtin; refine app_u32 wr 22 Try.underlying22 rfl (.tmp 34) (.tmp 36) rfl (w.heap.size + 1 + 1 + 1) (.slice xa k xc) k _ rfl hO.out (z : Int) wr.heap.size rfl rfl (by omega) hz ?_; intro v5 w5 hown5 hg5 hz5; have HO5 := Lib.hid hown5; obtain ⟨g5, q5, rfl⟩ := hown5.succ; have hb5 := below_grown hO.out hg5 (w.heap.size + 1 + 1 + 1) (Nat.le_refl _) hz; have HB5 := Lib.hid hb5; have K0 := Lib.hid ((hb5.block _ (by omega)).trans hG0.out); have K1 := Lib.hid ((hb5.block _ (by omega)).trans hG1.out); have hk2 := (hb5.block _ (by omega)).trans hG2.out; have K2 := Lib.hid hk2; obtain ⟨e20, e21, i20, i21⟩ := num_cells hk2; clear hown5 hg5 hb5 hk2)
        go_roundw
        case rel =>
          refine ⟨k + 1, some ⟨g5, 0, none⟩, q5, by omega, by first | (congr 1; omega) | go_num, ?_, ?_, ?_, ?_, ?_, ?_⟩
          · show _ = _; rw [cell_other (by omega)]; exact K0.out
          · show _ = _; rw [cell_other (by omega)]; exact K1.out
          · show _ = _; exact num_set1 K2.out _
          · show World.owns _ _ _ _ _ _ _
            refine World.owns.setCell ?_ (by simp) _
            rw [List.range_succ, List.map_append, List.map_append]
            show w5.owns _ _ _ _ _ (_ ++ [u32V (dig 65536 n k)])
            rw [← EZ.out]
            exact HO5.out
          · show Below _ _ _
            exact (hB.out.trans (HB5.out.mono (by omega))).setCell (by simp; omega) _
          · simp; omega
        case measure => first | (simp [intOf]; done) | (simp [intOf]; omega)
      · obtain rfl : j = 0 := by omega
        have hd : dig 256 n (2 * k + 1) = 0 := dig_high (by omega) n _ (by rw [show 2 * k + 1 = N by omega]; exact HNL.out)
        rw [hd] at hz0
        obtain rfl : x = z := by omega
        clear hd hz0 hp
        go_wp2_with (at_builtin; refine app_u32 wr 22 Try.underlying22 rfl (.tmp 34) (.tmp 36) rfl (w.heap.size + 1 + 1 + 1) (.slice xa k xc) k _ rfl hO.out (x : Int) wr.heap.size rfl rfl (by omega) hz ?_; intro v5 w5 hown5 hg5 hz5; have HO5 := Lib.hid hown5; obtain ⟨g5, q5, rfl⟩ := hown5.succ; have hb5 := below_grown hO.out hg5 (w.heap.size + 1 + 1 + 1) (Nat.le_refl _) hz; have HB5 := Lib.hid hb5; have K0 := Lib.hid ((hb5.block _ (by omega)).trans hG0.out); have K1 := Lib.hid ((hb5.block _ (by omega)).trans hG1.out); have hk2 := (hb5.block _ (by omega)).trans hG2.out; have K2 := Lib.hid hk2; obtain ⟨e20, e21, i20, i21⟩ := num_cells hk2; clear hown5 hg5 hb5 hk2)
        go_roundw
        case rel =>
          refine ⟨k + 1, some ⟨g5, 0, none⟩, q5, by omega, by first | (congr 1; omega) | go_num, ?_, ?_, ?_, ?_, ?_, ?_⟩
          · show _ = _; rw [cell_other (by omega)]; exact K0.out
          · show _ = _; rw [cell_other (by omega)]; exact K1.out
          · show _ = _; exact num_set1 K2.out _
          · show World.owns _ _ _ _ _ _ _
            refine World.owns.setCell ?_ (by simp) _
            rw [List.range_succ, List.map_append, List.map_append]
            show w5.owns _ _ _ _ _ (_ ++ [u32V (dig 65536 n k)])
            rw [← EZ.out]
            exact HO5.out
          · show Below _ _ _
            exact (hB.out.trans (HB5.out.mono (by omega))).setCell (by simp; omega) _
          · simp; omega
        case measure => first | (simp [intOf]; done) | (simp [intOf]; omega)
    · have h0 : ¬ (0 : Int) ≤ (N : Int) - 1 - 2 * (k : Int) := by omega
      obtain rfl : k = (hw n).length := by have := HM.out; omega
      obtain ⟨d10, d11, f10, f11⟩ := num_cells hG1.out
      have hN : World.numH wr (.slice xa (hw n).length xc) n := rawH_num hO.out.reads rfl
      obtain ⟨k, hk'⟩ : ∃ k, k = (hw n).length := ⟨_, rfl⟩
      rw [← hk'] at hO hG2 hN h0 c21 hk hlt ⊢
      have HN2 := Lib.hid hN
      clear hN hk'
      go_wp2
      have m2 := num_set hG1.out (.bool neg) (.slice xa k xc)
      have hb9 : Below w.heap.size w ((wr.setCell ⟨w.heap.size + 1, 0, none⟩ (.bool neg)).setCell ⟨w.heap.size + 1, 1, none⟩ (.slice xa k xc)) := (hB.out.setCell (by simp) _).setCell (by simp) _
      have hn9 := numH_set HN2.out hG1.out (.bool neg) (.slice xa k xc)
      obtain ⟨d20, d21, -, -⟩ := num_cells m2
      clear m2 d10 d11 f10 f11
      generalize (wr.setCell ⟨w.heap.size + 1, 0, none⟩ (.bool neg)).setCell ⟨w.heap.size + 1, 1, none⟩ (.slice xa k xc) = W9 at d20 d21 hb9 hn9 ⊢
      rw [HP.out]
      exact bodyPost_ret (v := .agg #[.bool neg, .slice xa k xc]) (by simp [results, Try.results57, go_sem, d20, d21]) rfl ⟨.slice xa k xc, rfl, hn9, hb9⟩
end Go.Proofs.Ytnjblppapmflhaa
