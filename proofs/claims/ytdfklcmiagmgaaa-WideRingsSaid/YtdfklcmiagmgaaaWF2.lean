/- Walks: rows of words by position. -/
import Derived.Test.YtdfklcmiagmgaaaWF1
namespace Go.Proofs.Ytdfklcmiagmgaaa
set_option linter.all false
open Go.RowKit Go.Shelf Go.WideNum
def rowF (f : Nat → Nat) (n : Nat) : Array Value := (((List.range n).map f).map u32V).toArray
theorem rowF_zero (n : Nat) : rowF (fun _ => 0) n = zrow n := by
  unfold rowF zrow
  congr 1
  apply List.ext_getElem
  · simp
  · intro i h1 h2; simp [u32V]
theorem rowF_congr {f f' : Nat → Nat} {n : Nat} (h : ∀ j, j < n → f j = f' j) : rowF f n = rowF f' n := by
  unfold rowF
  congr 2
  exact List.map_congr_left (fun j hj => h j (by simpa using hj))
theorem rowF_cell {W : World} {g n : Nat} {f : Nat → Nat} {T : TypeId} (h : W.heap[g]? = some (.cells (rowF f n) T)) (k : Nat) (hk : k < n) : W.cell? ⟨g, k, none⟩ = some (.int .u32 (f k : Int)) ∧ W.frozen? ⟨g, k, none⟩ = false := by
  refine ⟨?_, by simp [World.frozen?, h]⟩
  rw [cell_of_row W g k _ T (0, 0) h]
  simp [rowF, hk, u32V]
theorem rowF_set {W : World} {g n k : Nat} {f f' : Nat → Nat} {T : TypeId} (h : W.heap[g]? = some (.cells (rowF f n) T)) (hf : ∀ j, j < n → j ≠ k → f j = f' j) :
    (W.setCell ⟨g, k, none⟩ (.int .u32 (f' k : Int))).heap[g]? = some (.cells (rowF f' n) T) := by
  have e : (rowF f n).setIfInBounds k (.int .u32 (f' k : Int)) = rowF f' n := by
    unfold rowF
    apply Array.ext
    · simp
    · intro i h1 h2
      simp only [List.setIfInBounds_toArray, List.getElem_toArray, List.getElem_set, List.getElem_map, List.getElem_range]
      by_cases h : k = i
      · subst h; simp [u32V]
      · simp only [h, if_false]
        rw [hf i (by simpa using h2) (by omega)]
  rw [← e]; simp [World.setCell, Array.getElem?_modify, h]
/-- norm of a row that is laid. -/
theorem norm_rowF (f : Nat → Nat) (m g R : Nat) (hR : Hid (R = (trimL ((List.range m).map f)).length)) (W : World) (T : TypeId) (hg : W.heap[g]? = some (.cells (rowF f m) T)) (hm : m ≤ 100000) :
    Calls Try.prog 52 #[.slice (some ⟨g, 0, none⟩) m m] W fun e w' => e = .returned (.slice (some ⟨g, 0, none⟩) R m) ∧ W = w' := by
  rw [hR.out]
  clear hR
  have h := norm_any ((List.range m).map f) (some ⟨g, 0, none⟩) m (by simpa using hm) (by simp) W (trim_cells hg)
  simpa only [List.length_map, List.length_range] using h
theorem num_retF {w W : World} {g m n R : Nat} (hR : Hid (R = (trimL ((List.range m).map (dig 4294967296 n))).length)) (hg : W.heap[g]? = some (.cells (rowF (dig 4294967296 n) m) 47)) (hb : Below w.heap.size w W) (hwg : w.heap.size ≤ g) (hm : m ≤ 100000) (hn : n < 4294967296 ^ m) :
    NumRet w n (.returned (.slice (some ⟨g, 0, none⟩) R m)) W := by
  rw [rowF, ← fillTo_all] at hg
  exact num_ret hR hg hb hwg hm hn
/-- The laws of bits that the walks ask for. -/
theorem or_lo (k : IntKind) (hk : k = .u64 ∨ k = .u32) (s a b : Nat) (hb : b < 2 ^ s) (h : a * 2 ^ s + b < 2 ^ (if k = .u64 then 64 else 32)) : bits .or k (((a * 2 ^ s : Nat)) : Int) (b : Int) = ((a * 2 ^ s + b : Nat) : Int) := by
  have e : (a * 2 ^ s) ||| b = a * 2 ^ s + b := by
    rw [← Nat.shiftLeft_eq, Nat.shiftLeft_add_eq_or_of_lt hb]
  rcases hk with rfl | rfl
  · simp only [if_true] at h
    show IntKind.u64.wrap ((BitVec.ofInt 64 _ ||| BitVec.ofInt 64 _).toNat : Int) = _
    rw [BitVec.ofInt_natCast, BitVec.ofInt_natCast, BitVec.toNat_or, BitVec.toNat_ofNat, BitVec.toNat_ofNat, Nat.mod_eq_of_lt (by omega), Nat.mod_eq_of_lt (by omega), e, IntKind.wrap_u64]
    omega
  · simp only [reduceCtorEq, if_false] at h
    show IntKind.u32.wrap ((BitVec.ofInt 32 _ ||| BitVec.ofInt 32 _).toNat : Int) = _
    rw [BitVec.ofInt_natCast, BitVec.ofInt_natCast, BitVec.toNat_or, BitVec.toNat_ofNat, BitVec.toNat_ofNat, Nat.mod_eq_of_lt (by omega), Nat.mod_eq_of_lt (by omega), e, IntKind.wrap_u32]
    omega
end Go.Proofs.Ytdfklcmiagmgaaa
