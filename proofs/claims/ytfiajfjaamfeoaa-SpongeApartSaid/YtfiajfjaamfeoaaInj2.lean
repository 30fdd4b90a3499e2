/- What is the beginning of what. -/
import Derived.Test.YtfiajfjaamfeoaaInj
import Derived.Test.YtfiajfjaamfeoaaPlain4
namespace Go
theorem squeeze_prefix (x : St) (m : Nat) : ∀ d, (St.squeeze x (m + d)).take (8 * m) = St.squeeze x m
  | 0 => List.take_of_length_le (by rw [squeeze_length]; omega)
  | d + 1 => by
    rw [← Nat.add_assoc, St.squeeze, List.take_append_of_le_length (by rw [squeeze_length]; omega)]
    exact squeeze_prefix x m d
theorem runB_list (s : ByteArray) (kd n : Nat) : (runB s kd n).data.toList = (St.squeeze (St.start s kd) ((n + 7) / 8)).take n := by
  simp [runB, bytesOf]
theorem runB_prefix (s : ByteArray) (kd n m : Nat) (h : m ≤ n) : (runB s kd n).data.toList.take m = (runB s kd m).data.toList := by
  rw [runB_list, runB_list, List.take_take, Nat.min_eq_left h]
  obtain ⟨d, hd⟩ : ∃ d, (n + 7) / 8 = (m + 7) / 8 + d := ⟨(n + 7) / 8 - (m + 7) / 8, by omega⟩
  rw [hd]
  have := squeeze_prefix (St.start s kd) ((m + 7) / 8) d
  rw [← this, List.take_take, Nat.min_eq_left (by omega)]
theorem runB_extract (s : ByteArray) (kd n m : Nat) (h : m ≤ n) : (runB s kd n).extract 0 m = runB s kd m := by
  apply ByteArray.ext
  apply Array.ext'
  rw [ByteArray.data_extract]
  have := runB_prefix s kd n m h
  simp only [Array.toList_extract] at this ⊢
  exact this
/-- Whether two states are equal, word by word, as numbers. -/
def stEq (x y : St) : Bool := wv x.a == wv y.a && wv x.b == wv y.b && wv x.c == wv y.c && wv x.d == wv y.d && wv x.e == wv y.e
theorem stEq_iff (x y : St) : stEq x y = true ↔ x = y := by
  simp only [stEq, Bool.and_eq_true, beq_iff_eq]
  constructor
  · rintro ⟨⟨⟨⟨h1, h2⟩, h3⟩, h4⟩, h5⟩
    exact St.ext' (wv_inj h1) (wv_inj h2) (wv_inj h3) (wv_inj h4) (wv_inj h5)
  · rintro rfl; simp
theorem stEq_perm (k : Nat) (x y : St) : stEq (St.perm k x) (St.perm k y) = stEq x y := by
  rw [Bool.eq_iff_iff, stEq_iff, stEq_iff]
  exact ⟨perm_inj k, fun h => by rw [h]⟩
end Go
