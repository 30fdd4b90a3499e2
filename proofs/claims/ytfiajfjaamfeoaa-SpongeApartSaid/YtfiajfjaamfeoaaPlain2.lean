/- Plain facts on bytes and slices. -/
import Derived.Test.YtfiajfjaamfeoaaPlain
import Derived.Maps.AppendAt
import Derived.RangeFuncBox
namespace Go
open RowKit
theorem ownsRow_cap {w : World} {base e : Nat} {g len cap n : Nat} {xs : List Value} (h : w.ownsRow base e 1 (.slice (some ⟨g, 0, none⟩) len cap) n xs) : len = n ∧ n ≤ cap ∧ base ≤ g ∧ cap ≤ maxLen := by
  rcases h.2 with ⟨h0, _⟩ | ⟨g', cap', cur, hv, hb, _, hle, hm, _⟩
  · cases h0
  · cases hv; exact ⟨rfl, hle, hb, hm⟩
/-- An owned row of bytes, cut at its head and made a string. -/
theorem run_row_string {P : Program} {w : World} {base g len cap n m : Nat} {l : List UInt8} (src dst e : TypeId) (hs : P.underlying src = some (.slice e)) (he : P.underlying e = some (.int .u8)) (hd : P.underlying dst = some .string)
    (h : w.ownsRow base e 1 (.slice (some ⟨g, 0, none⟩) len cap) n (l.map byteV)) (hm : m ≤ l.length) (c : Nat) :
    (convert src dst (.slice (some ⟨g, 0, none⟩) m c)).run P w = .ok (.string (bytesOf (l.take m))) w := by
  have hc := h.cells rfl
  have := run_convert_bytes_back (P := P) w src dst e ⟨g, 0, none⟩ c (l.take m) hs he hd (fun j hj => by
    have hj' : j < l.length := by simp at hj; omega
    refine hc j _ ?_
    simp [hj'])
  rw [List.length_take, Nat.min_eq_left hm] at this
  exact this
theorem ownsRow_of_below {w w' : World} {base e size n : Nat} {v : Value} {xs : List Value} (h : w.ownsRow base e size v n xs) (hb : Below w.heap.size w w') : w'.ownsRow base e size v n xs := by
  refine ⟨h.1, ?_⟩
  rcases h.2 with h2 | ⟨g, cap, cur, hv, hg, hh, r⟩
  · exact Or.inl h2
  · refine Or.inr ⟨g, cap, cur, hv, hg, ?_, r⟩
    rw [hb.block g (by rcases Nat.lt_or_ge g w.heap.size with h' | h'
                       · exact h'
                       · rw [Array.getElem?_eq_none h'] at hh; cases hh)]
    exact hh
theorem wbyte_num' (x : BitVec 64) (k m : Nat) (hm : m = 56 - 8 * k) : wv (wshr x m) % 256 = ((wbyte x k).toNat : Int) := by
  rw [← wbyte_num x k m hm, IntKind.wrap_u8]
end Go
