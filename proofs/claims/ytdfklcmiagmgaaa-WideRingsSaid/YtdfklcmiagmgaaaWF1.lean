/- Walks: rows of words that are laid one by one; numbers in memory. -/
import Derived.Test.YtdfklcmiagmgaaaWN1
namespace Go.Proofs.Ytdfklcmiagmgaaa
set_option linter.all false
open Go.RowKit Go.Shelf Go.WideNum
/-- The words of the program's numbers, and of the reference's. -/
def wd (n : Nat) : List Nat := words 4294967296 n
def hw (n : Nat) : List Nat := words 65536 n
def zrow (n : Nat) : Array Value := (List.replicate n (Value.int .u32 0)).toArray
theorem infoU32 : (Try.prog.info? 47).map (fun i => (i.zero, i.size, i.bytes)) = some (some (.int .u32 0), 1, 4) := by kernel_rfl
theorem infoByte : (Try.prog.info? 5).map (fun i => (i.zero, i.size, i.bytes)) = some (some (.int .u8 0), 1, 1) := by kernel_rfl
theorem made_zrow (n : Nat) : madeCells (Value.int IntKind.u32 0).cells (n * 1) = zrow n := by
  unfold madeCells zrow
  apply Array.ext
  · simp
  · intro i h1 h2
    have : (Value.int IntKind.u32 0).cells = #[.int .u32 0] := rfl
    simp [this, Nat.mod_one]
theorem make_nat (n : Nat) (hn : n ≤ 100000) (W : World) : (Instr.makeSlice 58 (.int .i64 (n : Int)) (.int .i64 (n : Int))).run Try.prog W = .ok (.slice (some ⟨W.heap.size, 0, none⟩) n n) (W.alloc (.cells (zrow n) 47)) := by
  obtain ⟨i0, hi, hz, h1, h2⟩ := info_parts infoU32
  have := run_make (P := Try.prog) W 58 47 i0 (.int .u32 0) Try.underlying58 hi hz .i64 .i64 (n : Int) (n : Int) (by omega) (by omega) (by rw [h2]; omega) (by omega)
  simp only [Int.toNat_natCast, h1] at this
  rw [this, made_zrow]
theorem make_u32 (n : Nat) (hn : n ≤ 100000) (W : World) : (Instr.makeSlice 57 (.int .i64 (n : Int)) (.int .i64 (n : Int))).run Try.prog W = .ok (.slice (some ⟨W.heap.size, 0, none⟩) n n) (W.alloc (.cells (zrow n) 47)) := by
  obtain ⟨i0, hi, hz, h1, h2⟩ := info_parts infoU32
  have := run_make (P := Try.prog) W 57 47 i0 (.int .u32 0) Try.underlying57 hi hz .i64 .i64 (n : Int) (n : Int) (by omega) (by omega) (by rw [h2]; omega) (by omega)
  simp only [Int.toNat_natCast, h1] at this
  rw [this, made_zrow]
/-- A row of which the first k are laid. -/
def fillTo (f : Nat → Nat) (n k : Nat) : Array Value := ((List.range n).map fun j => Value.int .u32 ((if j < k then f j else 0 : Nat) : Int)).toArray
theorem fillTo_zero (f : Nat → Nat) (n : Nat) : fillTo f n 0 = zrow n := by
  unfold fillTo zrow
  congr 1
  apply List.ext_getElem
  · simp
  · intro i h1 h2; simp
theorem fillTo_succ (f : Nat → Nat) (n k : Nat) : (fillTo f n k).setIfInBounds k (.int .u32 (f k : Int)) = fillTo f n (k + 1) := by
  unfold fillTo
  apply Array.ext
  · simp
  · intro i h1 h2
    simp only [List.setIfInBounds_toArray, List.getElem_toArray, List.getElem_set, List.getElem_map, List.getElem_range]
    by_cases h : k = i
    · subst h; simp
    · simp only [h, if_false]
      by_cases hik : i < k
      · rw [if_pos hik, if_pos (by omega)]
      · rw [if_neg hik, if_neg (by omega)]
theorem fillTo_all (f : Nat → Nat) (n : Nat) : fillTo f n n = (((List.range n).map f).map u32V).toArray := by
  unfold fillTo u32V
  rw [List.map_map]
  congr 1
  apply List.map_congr_left
  intro j hj
  show Value.int .u32 ((if j < n then f j else 0 : Nat) : Int) = _
  rw [if_pos (by simpa using hj)]
  rfl
theorem fillTo_size (f : Nat → Nat) (n k : Nat) : (fillTo f n k).size = n := by simp [fillTo]
theorem fill_cell {W : World} {g n k : Nat} {f : Nat → Nat} {T : TypeId} (h : W.heap[g]? = some (.cells (fillTo f n k) T)) (hk : k < n) : ∃ u, W.cell? ⟨g, k, none⟩ = some (.int .u32 u) ∧ W.frozen? ⟨g, k, none⟩ = false := by
  refine ⟨0, ?_, by simp [World.frozen?, h]⟩
  simp only [World.cell?, h]
  unfold fillTo
  simp [hk]
theorem fill_set {W : World} {g n k : Nat} {f : Nat → Nat} {T : TypeId} (h : W.heap[g]? = some (.cells (fillTo f n k) T)) : (W.setCell ⟨g, k, none⟩ (.int .u32 (f k : Int))).heap[g]? = some (.cells (fillTo f n (k + 1)) T) := by
  rw [← fillTo_succ]; simp [World.setCell, Array.getElem?_modify, h]
theorem trimL_take (l : List Nat) : l.take (trimL l).length = trimL l := by
  unfold trimL
  have h : (l.reverse.dropWhile fun x => decide (x = 0)) <:+ l.reverse := List.dropWhile_suffix _
  have h2 : (l.reverse.dropWhile fun x => decide (x = 0)).reverse <+: l := by
    have := List.reverse_prefix.2 h
    rwa [List.reverse_reverse] at this
  exact (List.prefix_iff_eq_take.1 h2).symm
theorem trimL_len (l : List Nat) : (trimL l).length ≤ l.length := by
  rw [← trimL_take l, List.length_take]; omega
/-- The row of words without the zeros at its end. -/
theorem owns_trim {W : World} {g base : Nat} {T : TypeId} {l : List Nat} (h : W.heap[g]? = some (.cells (l.map u32V).toArray T)) (hb : base ≤ g) (hm : l.length ≤ 100000) :
    W.owns base T 1 (.slice (some ⟨g, 0, none⟩) (trimL l).length l.length) (trimL l).length ((trimL l).map u32V) := by
  refine ⟨by simp, .inr ⟨g, l.length, _, (0, 0), rfl, hb, h, okFz_zero _, trimL_len l, by unfold maxLen; omega, by simp, ?_⟩⟩
  rw [Nat.mul_one]
  show (l.map u32V).take _ = _
  rw [← List.map_take, trimL_take]
/-- The words that norm asks for. -/
theorem trim_cells {W : World} {g : Nat} {T : TypeId} {l : List Nat} (h : W.heap[g]? = some (.cells (l.map u32V).toArray T)) :
    ∀ (j : Nat) (x : Nat), l[j]? = some x → ∃ b off, some (⟨g, 0, none⟩ : Addr) = some ⟨b, off, none⟩ ∧ W.cell? ⟨b, off + j, none⟩ = some (.int .u32 (x : Int)) := by
  intro j x hj
  refine ⟨g, 0, rfl, ?_⟩
  rw [Nat.zero_add, cell_of_row W g j _ T (0, 0) h]
  simp [hj, u32V]
/-- A number of the program's that was made since w. -/
def NumRet (w : World) (n : Nat) (e : Ending) (w' : World) : Prop := ∃ v, e = .returned v ∧ w'.owns w.heap.size 47 1 v (wd n).length ((wd n).map u32V) ∧ Below w.heap.size w w'
theorem range_wd (n m : Nat) (h : n < 4294967296 ^ m) : trimL ((List.range m).map (dig 4294967296 n)) = wd n := trim_range (by omega) n m h
theorem wd_vlt (n : Nat) : n < 4294967296 ^ (wd n).length := words_vlt (by omega) n
theorem hw_vlt (n : Nat) : n < 65536 ^ (hw n).length := words_vlt (by omega) n
theorem wd_get (n i : Nat) (h : i < (wd n).length) : (wd n)[i]? = some (dig 4294967296 n i) := words_getE (by omega) n i h
theorem hw_get (n i : Nat) (h : i < (hw n).length) : (hw n)[i]? = some (dig 65536 n i) := words_getE (by omega) n i h
theorem wd_dig (n i : Nat) : dig 4294967296 n i < 4294967296 := dig_lt (by omega) n i
theorem hw_dig (n i : Nat) : dig 65536 n i < 65536 := dig_lt (by omega) n i
theorem wd_high (n i : Nat) (h : (wd n).length ≤ i) : dig 4294967296 n i = 0 :=
  dig_high (by omega) n i (Nat.lt_of_lt_of_le (wd_vlt n) (Nat.pow_le_pow_right (by omega) h))
theorem hw_high (n i : Nat) (h : (hw n).length ≤ i) : dig 65536 n i = 0 :=
  dig_high (by omega) n i (Nat.lt_of_lt_of_le (hw_vlt n) (Nat.pow_le_pow_right (by omega) h))
/-- What norm leaves of a row that holds the digits of a number. -/
theorem num_ret {w W : World} {g m n R : Nat} (hR : Hid (R = (trimL ((List.range m).map (dig 4294967296 n))).length)) (hg : W.heap[g]? = some (.cells (fillTo (dig 4294967296 n) m m) 47)) (hb : Below w.heap.size w W) (hwg : w.heap.size ≤ g) (hm : m ≤ 100000) (hn : n < 4294967296 ^ m) :
    NumRet w n (.returned (.slice (some ⟨g, 0, none⟩) R m)) W := by
  rw [hR.out]
  clear hR
  rw [fillTo_all] at hg
  have h := owns_trim (base := w.heap.size) hg hwg (by simpa using hm)
  rw [range_wd n m hn] at h ⊢
  simp only [List.length_map, List.length_range] at h
  exact ⟨_, rfl, h, hb⟩
/-- norm of a row that is laid. -/
theorem norm_row (f : Nat → Nat) (m g R : Nat) (hR : Hid (R = (trimL ((List.range m).map f)).length)) (W : World) (T : TypeId) (hg : W.heap[g]? = some (.cells (fillTo f m m) T)) (hm : m ≤ 100000) :
    Calls Try.prog 52 #[.slice (some ⟨g, 0, none⟩) m m] W fun e w' => e = .returned (.slice (some ⟨g, 0, none⟩) R m) ∧ W = w' := by
  rw [hR.out]
  clear hR
  rw [fillTo_all] at hg
  have h := norm_any ((List.range m).map f) (some ⟨g, 0, none⟩) m (by simpa using hm) (by simp) W (trim_cells hg)
  simpa only [List.length_map, List.length_range] using h
end Go.Proofs.Ytdfklcmiagmgaaa
