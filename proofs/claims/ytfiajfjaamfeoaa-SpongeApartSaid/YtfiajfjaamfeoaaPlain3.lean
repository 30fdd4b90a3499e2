/- Plain facts: the padded string as a list of bytes. -/
import Derived.Test.YtfiajfjaamfeoaaPlain2
import Derived.Lib.AppendStr
namespace Go
/-- The string, the byte 80, and j bytes 0. -/
def padL (s : ByteArray) (j : Nat) : List UInt8 := s.data.toList ++ [128] ++ List.replicate j 0
theorem padL_length (s : ByteArray) (j : Nat) : (padL s j).length = s.size + 1 + j := by
  simp [padL]; omega
theorem padL_succ (s : ByteArray) (j : Nat) : padL s (j + 1) = padL s j ++ [0] := by
  simp [padL, List.replicate_succ', List.append_assoc]
theorem padL_byte (s : ByteArray) (j k : Nat) (h : k < s.size + 1 + j) : ∃ b, (padL s j)[k]? = some b ∧ bw b = padByte s k := by
  unfold padL padByte
  by_cases h1 : k < s.size
  · refine ⟨s[k], ?_, by rw [dif_pos h1]⟩
    rw [List.append_assoc, List.getElem?_append_left (by simpa using h1)]
    have : k < s.data.toList.length := by simpa using h1
    rw [List.getElem?_eq_getElem this]; rfl
  · rw [dif_neg h1]
    have hl : s.data.toList.length = s.size := by simp
    by_cases h2 : k = s.size
    · subst h2
      refine ⟨128, ?_, by rw [if_pos rfl]; rfl⟩
      rw [List.append_assoc, List.getElem?_append_right (by omega)]
      simp [hl]
    · refine ⟨0, ?_, by rw [if_neg h2]; rfl⟩
      rw [List.append_assoc, List.getElem?_append_right (by omega), hl, List.getElem?_append_right (by simp; omega)]
      simp only [List.length_singleton]
      rw [List.getElem?_replicate, if_pos (by omega)]
theorem absorb_snoc' (x : St) (l : List (BitVec 64)) (w : BitVec 64) : St.absorb x (l ++ [w]) = St.perm 12 { St.absorb x l with a := wxor (St.absorb x l).a w } := by
  induction l generalizing x with
  | nil => rfl
  | cons v l ih => exact ih _
def uptoW (s : ByteArray) (k : Nat) : List (BitVec 64) := (List.range k).map (word s)
theorem uptoW_succ (s : ByteArray) (k : Nat) : uptoW s (k + 1) = uptoW s k ++ [word s k] := by simp [uptoW, List.range_succ]
theorem uptoW_words (s : ByteArray) : uptoW s (s.size / 8 + 1) = words s := rfl
theorem padL_zero (s : ByteArray) : Lib.strCells s ++ [Value.int .u8 128] = (padL s 0).map byteV := by
  simp [padL, Lib.strCells, byteV]
end Go
