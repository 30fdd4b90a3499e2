/- Walks: a disk: a new one. -/
import Derived.Test.YtjfmcobikadjhaaDB3
import Derived.Lib.BufferWrite
namespace Go.Proofs.Ytjfmcobikadjhaa
set_option linter.all false
open Go.RowKit Go.Shelf
theorem New_no (n : Int) (hn : n < 64 ∨ 262144 < n) (w : World) : Calls Try.prog 9 #[.int .i64 n] w fun e w' => e = .returned (.tuple #[.pointer none, .int .i64 2]) ∧ w = w' := by
  rcases hn with h | h
  · go_enter Try.func9, Try.ntmps9
    go_wp2
    go_ret2
    exact ⟨rfl, rfl⟩
  · have h2 : ¬ n < 64 := by omega
    go_enter Try.func9, Try.ntmps9
    go_wp2
    go_ret2
    exact ⟨rfl, rfl⟩
def zrow8 (n : Nat) : Array Value := ((List.replicate n (0 : UInt8)).map byteV).toArray
theorem infoByte : (Try.prog.info? 5).map (fun i => (i.zero, i.size, i.bytes)) = some (some (.int .u8 0), 1, 1) := by kernel_rfl
theorem make_u8 (l n : Nat) (hl : l ≤ n) (hn : n ≤ 1000000) (W : World) : (Instr.makeSlice 49 (.int .i64 (l : Int)) (.int .i64 (n : Int))).run Try.prog W = .ok (.slice (some ⟨W.heap.size, 0, none⟩) l n) (W.alloc (.cells (zrow8 n) 5)) := by
  obtain ⟨i0, hi, hz, h1, h2⟩ := info_parts infoByte
  have := run_make (P := Try.prog) W 49 5 i0 (.int .u8 0) Try.underlying49 hi hz .i64 .i64 (l : Int) (n : Int) (by omega) (by omega) (by rw [h2]; omega) (by omega)
  simp only [Int.toNat_natCast, h1] at this
  rw [this]
  have hz : madeCells (Value.int IntKind.u8 0).cells (n * 1) = zrow8 n := by
    unfold madeCells zrow8
    apply Array.ext
    · simp
    · intro i h1 h2
      have : (Value.int IntKind.u8 0).cells = #[.int .u8 0] := rfl
      simp [this, Nat.mod_one, byteV]
  rw [hz]
/-- 'copy(dst, s)' from a string, into a half. -/
theorem step_copy_half {ops : Array Oper} {o : Oper} {a : Act} {w : World} {K : Act → World → Prop} {Q : Exit → Act → World → Prop} {E : Prop}
    (hg : o.guard = none) (d x : Operand) (sT : TypeId) (hop : o.op = Op.call { callee := Callee.builtin Builtin.copy, args := #[d, x], argTypes := #[49, sT] })
    (b n : Nat) (h s : List UInt8) (hd : a.eval d = .slice (some ⟨b, 0, none⟩) n n) (hx : a.eval x = .string (bytesOf s)) (hh : w.heap[b]? = some (.cells (h.map byteV).toArray 5)) (hn : h.length = n) (hle : s.length ≤ n)
    (hK : ∀ w', w'.heap[b]? = some (.cells ((s ++ h.drop s.length).map byteV).toArray 5) → Kp (fun k => k = b) w w' → K (a.put o.dst (goInt s.length)) w') :
    if Region.wanted o (yielded ops a.tmps) = true then Oper.wp Try.prog o a w K Q else E := by
  have hw : Region.wanted o (yielded ops a.tmps) = true := by simp [Region.wanted, hg]
  rw [if_pos hw]
  obtain ⟨i0, hi, hz, h1, h2⟩ := info_parts infoByte
  have hsz : (bytesOf s).size = s.length := rfl
  have hrun := Lib.run_copy_row_string (P := Try.prog) w 49 sT o.type 5 b 0 n n (bytesOf s) (h.map byteV).toArray 5 Try.underlying49 (by rw [hi]; simp [h1]) hh (by rw [hsz]; exact hle) (by rw [hsz]; simp; omega)
  unfold Oper.wp
  simp [execOp, hop, resolve, invoke, builtin, hd, hx, hrun, Result.andThen]
  rw [hsz]
  have hbc : Lib.byteCells s = s.map byteV := rfl
  refine hK _ ?_ ⟨rfl, rfl, rfl, by simp [World.setRow], fun k _ hk => ?_⟩
  · rw [setRow_heap w b _ _ _ _ hh]
    simp [bytesOf, Lib.byteCells, byteV, List.map_append, List.map_drop]
  · exact setRow_other w b k _ (fun e => hk e)
def newHead : List UInt8 := 1 :: (eightL 1 ++ shortL (eightL 1))
theorem newHead_length : newHead.length = 17 := by unfold newHead; rw [List.length_cons, List.length_append, eightL_length, shortL_length]
def newDk (n : Nat) : Dk := ⟨n, newHead ++ List.replicate (n - 17) 0, List.replicate n 0, -1, false⟩
set_option maxRecDepth 100000 in
set_option maxHeartbeats 4000000 in
theorem New_any (n : Nat) (h64 : 64 ≤ n) (hmx : n ≤ 262144) (w : World) : Calls Try.prog 9 #[.int .i64 (n : Int)] w fun e w' =>
    (∃ p b0 b1, e = .returned (.tuple #[.pointer (some ⟨p, 0, none⟩), .int .i64 0]) ∧ DiskAt w' p b0 b1 (newDk n) ∧ w.heap.size ≤ p ∧ w.heap.size ≤ b0 ∧ w.heap.size ≤ b1) ∧ Below w.heap.size w w' := by
  have hmk : ∀ W : World, (Instr.makeSlice 49 (.int .i64 (n : Int)) (.int .i64 (n : Int))).run Try.prog W = .ok (.slice (some ⟨W.heap.size, 0, none⟩) n n) (W.alloc (.cells (zrow8 n) 5)) := fun W => make_u8 n n (Nat.le_refl _) (by omega) W
  go_enter Try.func9, Try.ntmps9
  go_upto_region 3 with (fail)
  go_region
  · obtain ⟨W2, hW2e⟩ : ∃ W2, W2 = (((w.alloc (.cells (zrow8 n) 5)).alloc (.cells (zrow8 n) 5)).alloc (.cells #[.slice (some ⟨w.heap.size, 0, none⟩) n n, .slice (some ⟨w.heap.size + 1, 0, none⟩) n n, .int .i64 (-1), .bool false] 52)).drew := ⟨_, rfl⟩
    have hB2 : Below w.heap.size w W2 := by rw [hW2e]; exact ((((Below.refl _ w).alloc (Nat.le_refl _) _).alloc (by simp) _).alloc (by simp; omega) _).drew
    have g2 : W2.heap[w.heap.size + 2]? = some (.cells #[.slice (some ⟨w.heap.size, 0, none⟩) n n, .slice (some ⟨w.heap.size + 1, 0, none⟩) n n, .int .i64 (-1), .bool false] 52) := by
      rw [hW2e]; exact alloc_last _ _ (by simp)
    have ga : W2.heap[w.heap.size]? = some (.cells (zrow8 n) 5) := by
      rw [hW2e]; show (((w.alloc _).alloc _).alloc _).heap[_]? = _
      rw [Below.heap_alloc _ _ _ (by simp; omega), Below.heap_alloc _ _ _ (by simp)]; exact alloc_last _ _ rfl
    have gb : W2.heap[w.heap.size + 1]? = some (.cells (zrow8 n) 5) := by
      rw [hW2e]; show (((w.alloc _).alloc _).alloc _).heap[_]? = _
      rw [Below.heap_alloc _ _ _ (by simp)]; exact alloc_last _ _ (by simp)
    rw [← hW2e]
    clear hW2e
    obtain ⟨p, hp⟩ : ∃ p, p = w.heap.size + 2 := ⟨_, rfl⟩
    obtain ⟨b0, hb0⟩ : ∃ p, p = w.heap.size := ⟨_, rfl⟩
    obtain ⟨b1, hb1⟩ : ∃ p, p = w.heap.size + 1 := ⟨_, rfl⟩
    try rw [show w.heap.size + 1 + 1 = p by omega]
    rw [← hp] at g2
    rw [← hb1, ← hb0] at g2
    rw [← hb0] at ga
    rw [← hb1] at gb
    have hl2 : p < W2.heap.size := lt_of_heap g2
    have hd0 : b0 < W2.heap.size := by omega
    have hd1 : b1 < W2.heap.size := by omega
    have k0 := (four_cells g2).1
    have HP := Lib.hid hp
    have HB0 := Lib.hid hb0
    have HB1 := Lib.hid hb1
    clear hp hb0 hb1
    go_wp2_with fail
    refine wp_region_heldL (fun w' => w'.cell? ⟨p, 0, none⟩ = some (.slice (some ⟨b0, 0, none⟩) n n)) (by kernel_rfl) k0 (fun hS => ?_)
    refine wpAnyH_takeL 0 (v := ?_) (by kernel_rfl) rfl (by kernel_rfl) (by kernel_rfl) (fun _ _ _ h => h) (Or.inl ⟨by rfl, ?_⟩) (by assumption) ?_
    rotate_left
    · (intro wq hSq; (try dsimp only at hSq); go_simp; try with_reducible rfl)
    try simp only [Act.put, List.setIfInBounds_toArray, List.set_cons_zero, List.set_cons_succ]
    refine wpAnyH_takeL 1 (v := ?_) (by kernel_rfl) rfl (by kernel_rfl) (by kernel_rfl) (fun _ _ _ h => h) (Or.inl ⟨by rfl, ?_⟩) (by assumption) ?_
    rotate_left
    · (intro wq hSq; (try dsimp only at hSq); go_simp; try with_reducible rfl)
    try simp only [Act.put, List.setIfInBounds_toArray, List.set_cons_zero, List.set_cons_succ]
    refine wpAnyH_takeL 2 (v := ?_) (by kernel_rfl) rfl (by kernel_rfl) (by kernel_rfl) (fun _ _ _ h => h) (Or.inl ⟨by rfl, ?_⟩) (by assumption) ?_
    rotate_left
    · (intro wq hSq; (try dsimp only at hSq); go_simp; try with_reducible rfl)
    try simp only [Act.put, List.setIfInBounds_toArray, List.set_cons_zero, List.set_cons_succ]
    refine wpAnyH_takeL 3 (v := ?_) (by kernel_rfl) rfl (by kernel_rfl) (by kernel_rfl) (fun _ _ _ h => h) (Or.inl ⟨by rfl, ?_⟩) (by assumption) ?_
    rotate_left
    · (intro wq hSq; (try dsimp only at hSq); go_simp; try with_reducible rfl)
    try simp only [Act.put, List.setIfInBounds_toArray, List.set_cons_zero, List.set_cons_succ]
    refine wpAnyH_takeL 4 (v := ?_) (by kernel_rfl) rfl (by kernel_rfl) (by kernel_rfl) (fun _ _ _ h => h) (Or.inl ⟨by rfl, ?_⟩) (by assumption) ?_
    rotate_left
    · (intro wq hSq; (try dsimp only at hSq); go_simp; try with_reducible rfl)
    try simp only [Act.put, List.setIfInBounds_toArray, List.set_cons_zero, List.set_cons_succ]
    refine wpAnyH_stepL 5 (by kernel_rfl) rfl (fun K hK => ?_)
    go_simp
    go_at_call 24
    refine (eightN_any 1 (by omega) _).mono ?_
    rintro e w3 ⟨rfl, hb3d⟩
    have hb3 : Below W2.heap.size W2 w3 := ((Below.refl _ W2).drew).trans hb3d
    refine hK.out _ _ ((hb3.cell (p := ⟨p, 0, none⟩) hl2).trans k0) (fun hS3 => ?_)
    clear hK K hS
    try simp only [Act.put, List.setIfInBounds_toArray, List.set_cons_zero, List.set_cons_succ]
    have a3 := bytesOf_append
    have x1 : (bytesOf (1 :: eightL 1)).size = 9 := by show (1 :: eightL 1).length = 9; rw [List.length_cons, eightL_length]
    have x0 : (⟨#[1]⟩ : ByteArray) ++ bytesOf (eightL 1) = bytesOf (1 :: eightL 1) := bytesOf_append [1] _
    have x2 : (⟨#[1]⟩ : ByteArray).size = 1 := rfl
    have x3 : (bytesOf (eightL 1)).size = 8 := eight_size 1
    refine wpAnyH_takeL 6 (v := ?_) (by kernel_rfl) rfl (by kernel_rfl) (by kernel_rfl) (fun _ _ _ h => h) (Or.inl ⟨by rfl, ?_⟩) (by assumption) ?_
    rotate_left
    · (intro wq hSq; (try dsimp only at hSq); go_simp; try with_reducible rfl)
    try simp only [Act.put, List.setIfInBounds_toArray, List.set_cons_zero, List.set_cons_succ]
    refine wpAnyH_stepL 7 (by kernel_rfl) rfl (fun K hK => ?_)
    go_simp
    go_at_call 24
    refine (eightN_any 1 (by omega) _).mono ?_
    rintro e w4 ⟨rfl, hb4d⟩
    have hb4 : Below W2.heap.size W2 w4 := hb3.trans (hb4d.mono hb3.size)
    refine hK.out _ _ ((hb4.cell (p := ⟨p, 0, none⟩) hl2).trans k0) (fun hS4 => ?_)
    clear hK K hS3
    try simp only [Act.put, List.setIfInBounds_toArray, List.set_cons_zero, List.set_cons_succ]
    refine wpAnyH_stepL 8 (by kernel_rfl) rfl (fun K hK => ?_)
    go_simp
    go_at_call 25
    refine (shortN_any (eightL 1) (by rw [eightL_length]; omega) _).mono ?_
    rintro e w5 ⟨rfl, hb5d⟩
    have hb5 : Below W2.heap.size W2 w5 := hb4.trans (hb5d.mono hb4.size)
    refine hK.out _ _ ((hb5.cell (p := ⟨p, 0, none⟩) hl2).trans k0) (fun hS5 => ?_)
    clear hK K hS4
    try simp only [Act.put, List.setIfInBounds_toArray, List.set_cons_zero, List.set_cons_succ]
    have x4 : (bytesOf (shortL (eightL 1))).size = 8 := shortL_length _
    refine wpAnyH_takeL 9 (v := ?_) (by kernel_rfl) rfl (by kernel_rfl) (by kernel_rfl) (fun _ _ _ h => h) (Or.inl ⟨by rfl, ?_⟩) (by assumption) ?_
    rotate_left
    · (intro wq hSq; (try dsimp only at hSq); go_simp; try with_reducible rfl)
    try simp only [Act.put, List.setIfInBounds_toArray, List.set_cons_zero, List.set_cons_succ]
    refine wpAnyH_stepL 10 (by kernel_rfl) rfl (fun K hK => ?_)
    refine step_copy_half rfl (.tmp 22) (.tmp 27) 9 rfl b0 n (List.replicate n 0) newHead rfl rfl ((hb5.block _ hd0).trans ga) (by simp) (by rw [newHead_length]; omega) ?_
    intro w6 hg6 hk6
    have hn02 : ¬ p = b0 := by have := HP.out; have := HB0.out; omega
    have hn12 : ¬ b1 = b0 := by have := HB1.out; have := HB0.out; omega
    have hn13 : ¬ b1 = p := by have := HP.out; have := HB1.out; omega
    have q2 : w6.heap[p]? = some (.cells #[.slice (some ⟨b0, 0, none⟩) n n, .slice (some ⟨b1, 0, none⟩) n n, .int .i64 (-1), .bool false] 52) := (hk6.block _ (Nat.lt_of_lt_of_le hl2 hb5.size) hn02).trans ((hb5.block _ hl2).trans g2)
    have q1 : w6.heap[b1]? = some (.cells (zrow8 n) 5) := (hk6.block _ (Nat.lt_of_lt_of_le hd1 hb5.size) hn12).trans ((hb5.block _ hd1).trans gb)
    have hB6 : Below w.heap.size w w6 := (hB2.trans (hb5.mono hB2.size)).trans (hk6.below (by have := hB2.size; have := hb5.size; omega) (fun k e => by have := HB0.out; subst e; omega))
    refine hK.out _ _ (four_cells q2).1 (fun hS6 => ?_)
    clear hK K hS5
    try simp only [Act.put, List.setIfInBounds_toArray, List.set_cons_zero, List.set_cons_succ]
    refine wpAnyH_end (by kernel_rfl) ?_
    have HB6 := Lib.hid hB6
    clear k0 ga gb g2 hB2 hb3d hb4d hb5d hb3 hb4 hb5 hk6 hB6
    go_wp2
    go_ret2
    refine ⟨⟨p, b0, b1, rfl, ⟨q2, ⟨5, ?_⟩, ⟨5, q1⟩, Ne.symm hn12, Ne.symm hn02, hn13⟩, by have := HP.out; omega, by have := HB0.out; omega, by have := HB1.out; omega⟩, HB6.out⟩
    rw [hg6, newHead_length, List.drop_replicate]
    rfl
  · obtain ⟨W2, hW2e⟩ : ∃ W2, W2 = (((w.alloc (.cells (zrow8 n) 5)).alloc (.cells (zrow8 n) 5)).alloc (.cells #[.slice (some ⟨w.heap.size + 1, 0, none⟩) n n, .slice (some ⟨w.heap.size, 0, none⟩) n n, .int .i64 (-1), .bool false] 52)).drew := ⟨_, rfl⟩
    have hB2 : Below w.heap.size w W2 := by rw [hW2e]; exact ((((Below.refl _ w).alloc (Nat.le_refl _) _).alloc (by simp) _).alloc (by simp; omega) _).drew
    have g2 : W2.heap[w.heap.size + 2]? = some (.cells #[.slice (some ⟨w.heap.size + 1, 0, none⟩) n n, .slice (some ⟨w.heap.size, 0, none⟩) n n, .int .i64 (-1), .bool false] 52) := by
      rw [hW2e]; exact alloc_last _ _ (by simp)
    have ga : W2.heap[w.heap.size]? = some (.cells (zrow8 n) 5) := by
      rw [hW2e]; show (((w.alloc _).alloc _).alloc _).heap[_]? = _
      rw [Below.heap_alloc _ _ _ (by simp; omega), Below.heap_alloc _ _ _ (by simp)]; exact alloc_last _ _ rfl
    have gb : W2.heap[w.heap.size + 1]? = some (.cells (zrow8 n) 5) := by
      rw [hW2e]; show (((w.alloc _).alloc _).alloc _).heap[_]? = _
      rw [Below.heap_alloc _ _ _ (by simp)]; exact alloc_last _ _ (by simp)
    rw [← hW2e]
    clear hW2e
    obtain ⟨p, hp⟩ : ∃ p, p = w.heap.size + 2 := ⟨_, rfl⟩
    obtain ⟨b0, hb0⟩ : ∃ p, p = w.heap.size + 1 := ⟨_, rfl⟩
    obtain ⟨b1, hb1⟩ : ∃ p, p = w.heap.size := ⟨_, rfl⟩
    try rw [show w.heap.size + 1 + 1 = p by omega]
    rw [← hp] at g2
    rw [← hb0, ← hb1] at g2
    rw [← hb1] at ga
    rw [← hb0] at gb
    have hl2 : p < W2.heap.size := lt_of_heap g2
    have hd0 : b0 < W2.heap.size := by omega
    have hd1 : b1 < W2.heap.size := by omega
    have k0 := (four_cells g2).1
    have HP := Lib.hid hp
    have HB0 := Lib.hid hb0
    have HB1 := Lib.hid hb1
    clear hp hb0 hb1
    go_wp2_with fail
    refine wp_region_heldL (fun w' => w'.cell? ⟨p, 0, none⟩ = some (.slice (some ⟨b0, 0, none⟩) n n)) (by kernel_rfl) k0 (fun hS => ?_)
    refine wpAnyH_takeL 0 (v := ?_) (by kernel_rfl) rfl (by kernel_rfl) (by kernel_rfl) (fun _ _ _ h => h) (Or.inl ⟨by rfl, ?_⟩) (by assumption) ?_
    rotate_left
    · (intro wq hSq; (try dsimp only at hSq); go_simp; try with_reducible rfl)
    try simp only [Act.put, List.setIfInBounds_toArray, List.set_cons_zero, List.set_cons_succ]
    refine wpAnyH_takeL 1 (v := ?_) (by kernel_rfl) rfl (by kernel_rfl) (by kernel_rfl) (fun _ _ _ h => h) (Or.inl ⟨by rfl, ?_⟩) (by assumption) ?_
    rotate_left
    · (intro wq hSq; (try dsimp only at hSq); go_simp; try with_reducible rfl)
    try simp only [Act.put, List.setIfInBounds_toArray, List.set_cons_zero, List.set_cons_succ]
    refine wpAnyH_takeL 2 (v := ?_) (by kernel_rfl) rfl (by kernel_rfl) (by kernel_rfl) (fun _ _ _ h => h) (Or.inl ⟨by rfl, ?_⟩) (by assumption) ?_
    rotate_left
    · (intro wq hSq; (try dsimp only at hSq); go_simp; try with_reducible rfl)
    try simp only [Act.put, List.setIfInBounds_toArray, List.set_cons_zero, List.set_cons_succ]
    refine wpAnyH_takeL 3 (v := ?_) (by kernel_rfl) rfl (by kernel_rfl) (by kernel_rfl) (fun _ _ _ h => h) (Or.inl ⟨by rfl, ?_⟩) (by assumption) ?_
    rotate_left
    · (intro wq hSq; (try dsimp only at hSq); go_simp; try with_reducible rfl)
    try simp only [Act.put, List.setIfInBounds_toArray, List.set_cons_zero, List.set_cons_succ]
    refine wpAnyH_takeL 4 (v := ?_) (by kernel_rfl) rfl (by kernel_rfl) (by kernel_rfl) (fun _ _ _ h => h) (Or.inl ⟨by rfl, ?_⟩) (by assumption) ?_
    rotate_left
    · (intro wq hSq; (try dsimp only at hSq); go_simp; try with_reducible rfl)
    try simp only [Act.put, List.setIfInBounds_toArray, List.set_cons_zero, List.set_cons_succ]
    refine wpAnyH_stepL 5 (by kernel_rfl) rfl (fun K hK => ?_)
    go_simp
    go_at_call 24
    refine (eightN_any 1 (by omega) _).mono ?_
    rintro e w3 ⟨rfl, hb3d⟩
    have hb3 : Below W2.heap.size W2 w3 := ((Below.refl _ W2).drew).trans hb3d
    refine hK.out _ _ ((hb3.cell (p := ⟨p, 0, none⟩) hl2).trans k0) (fun hS3 => ?_)
    clear hK K hS
    try simp only [Act.put, List.setIfInBounds_toArray, List.set_cons_zero, List.set_cons_succ]
    have a3 := bytesOf_append
    have x1 : (bytesOf (1 :: eightL 1)).size = 9 := by show (1 :: eightL 1).length = 9; rw [List.length_cons, eightL_length]
    have x0 : (⟨#[1]⟩ : ByteArray) ++ bytesOf (eightL 1) = bytesOf (1 :: eightL 1) := bytesOf_append [1] _
    have x2 : (⟨#[1]⟩ : ByteArray).size = 1 := rfl
    have x3 : (bytesOf (eightL 1)).size = 8 := eight_size 1
    refine wpAnyH_takeL 6 (v := ?_) (by kernel_rfl) rfl (by kernel_rfl) (by kernel_rfl) (fun _ _ _ h => h) (Or.inl ⟨by rfl, ?_⟩) (by assumption) ?_
    rotate_left
    · (intro wq hSq; (try dsimp only at hSq); go_simp; try with_reducible rfl)
    try simp only [Act.put, List.setIfInBounds_toArray, List.set_cons_zero, List.set_cons_succ]
    refine wpAnyH_stepL 7 (by kernel_rfl) rfl (fun K hK => ?_)
    go_simp
    go_at_call 24
    refine (eightN_any 1 (by omega) _).mono ?_
    rintro e w4 ⟨rfl, hb4d⟩
    have hb4 : Below W2.heap.size W2 w4 := hb3.trans (hb4d.mono hb3.size)
    refine hK.out _ _ ((hb4.cell (p := ⟨p, 0, none⟩) hl2).trans k0) (fun hS4 => ?_)
    clear hK K hS3
    try simp only [Act.put, List.setIfInBounds_toArray, List.set_cons_zero, List.set_cons_succ]
    refine wpAnyH_stepL 8 (by kernel_rfl) rfl (fun K hK => ?_)
    go_simp
    go_at_call 25
    refine (shortN_any (eightL 1) (by rw [eightL_length]; omega) _).mono ?_
    rintro e w5 ⟨rfl, hb5d⟩
    have hb5 : Below W2.heap.size W2 w5 := hb4.trans (hb5d.mono hb4.size)
    refine hK.out _ _ ((hb5.cell (p := ⟨p, 0, none⟩) hl2).trans k0) (fun hS5 => ?_)
    clear hK K hS4
    try simp only [Act.put, List.setIfInBounds_toArray, List.set_cons_zero, List.set_cons_succ]
    have x4 : (bytesOf (shortL (eightL 1))).size = 8 := shortL_length _
    refine wpAnyH_takeL 9 (v := ?_) (by kernel_rfl) rfl (by kernel_rfl) (by kernel_rfl) (fun _ _ _ h => h) (Or.inl ⟨by rfl, ?_⟩) (by assumption) ?_
    rotate_left
    · (intro wq hSq; (try dsimp only at hSq); go_simp; try with_reducible rfl)
    try simp only [Act.put, List.setIfInBounds_toArray, List.set_cons_zero, List.set_cons_succ]
    refine wpAnyH_stepL 10 (by kernel_rfl) rfl (fun K hK => ?_)
    refine step_copy_half rfl (.tmp 22) (.tmp 27) 9 rfl b0 n (List.replicate n 0) newHead rfl rfl ((hb5.block _ hd0).trans gb) (by simp) (by rw [newHead_length]; omega) ?_
    intro w6 hg6 hk6
    have hn02 : ¬ p = b0 := by have := HP.out; have := HB0.out; omega
    have hn12 : ¬ b1 = b0 := by have := HB1.out; have := HB0.out; omega
    have hn13 : ¬ b1 = p := by have := HP.out; have := HB1.out; omega
    have q2 : w6.heap[p]? = some (.cells #[.slice (some ⟨b0, 0, none⟩) n n, .slice (some ⟨b1, 0, none⟩) n n, .int .i64 (-1), .bool false] 52) := (hk6.block _ (Nat.lt_of_lt_of_le hl2 hb5.size) hn02).trans ((hb5.block _ hl2).trans g2)
    have q1 : w6.heap[b1]? = some (.cells (zrow8 n) 5) := (hk6.block _ (Nat.lt_of_lt_of_le hd1 hb5.size) hn12).trans ((hb5.block _ hd1).trans ga)
    have hB6 : Below w.heap.size w w6 := (hB2.trans (hb5.mono hB2.size)).trans (hk6.below (by have := hB2.size; have := hb5.size; omega) (fun k e => by have := HB0.out; subst e; omega))
    refine hK.out _ _ (four_cells q2).1 (fun hS6 => ?_)
    clear hK K hS5
    try simp only [Act.put, List.setIfInBounds_toArray, List.set_cons_zero, List.set_cons_succ]
    refine wpAnyH_end (by kernel_rfl) ?_
    have HB6 := Lib.hid hB6
    clear k0 ga gb g2 hB2 hb3d hb4d hb5d hb3 hb4 hb5 hk6 hB6
    go_wp2
    go_ret2
    refine ⟨⟨p, b0, b1, rfl, ⟨q2, ⟨5, ?_⟩, ⟨5, q1⟩, Ne.symm hn12, Ne.symm hn02, hn13⟩, by have := HP.out; omega, by have := HB0.out; omega, by have := HB1.out; omega⟩, HB6.out⟩
    rw [hg6, newHead_length, List.drop_replicate]
    rfl
end Go.Proofs.Ytjfmcobikadjhaa
