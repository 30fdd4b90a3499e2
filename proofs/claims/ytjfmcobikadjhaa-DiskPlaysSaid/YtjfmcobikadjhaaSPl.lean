/- The sponge, as a plain function. -/
import Derived.WalkKit
import Derived.Maps.AppendAt
import Derived.RangeFuncBox
import Derived.Lib.AppendStr
import Derived.Test.YtjfmcobikadjhaaBase
/- Words of 64 bits as BitVec: what the operations of the model do on them. -/
namespace Go
/-- A word's number. -/
def wv (x : BitVec 64) : Int := (x.toNat : Int)

/-- The operations on words, under names that no simplifier looks into. -/
def wxor (x y : BitVec 64) : BitVec 64 := x ^^^ y
def wand (x y : BitVec 64) : BitVec 64 := x &&& y
def wor (x y : BitVec 64) : BitVec 64 := x ||| y
def wnot (x : BitVec 64) : BitVec 64 := ~~~x
def wshl (x : BitVec 64) (n : Nat) : BitVec 64 := x <<< n
def wshr (x : BitVec 64) (n : Nat) : BitVec 64 := x >>> n
def wof (n : Int) : BitVec 64 := BitVec.ofInt 64 n
theorem u64_wrap_of_lt (n : Nat) : IntKind.u64.wrap (n : Int) = ((n % 2 ^ 64 : Nat) : Int) := by
  rw [IntKind.wrap_u64]; omega
theorem u64_wrap_wv (x : BitVec 64) : IntKind.u64.wrap (wv x) = wv x := by
  unfold wv; rw [u64_wrap_of_lt, Nat.mod_eq_of_lt x.isLt]
theorem ofInt_wv (x : BitVec 64) : BitVec.ofInt 64 (wv x) = x := by
  unfold wv; rw [BitVec.ofInt_natCast, BitVec.ofNat_toNat, BitVec.setWidth_eq]
theorem wv_lit (n : Int) (h : 0 ≤ n ∧ n < 18446744073709551616) : n = wv (wof n) := by
  unfold wv wof
  obtain ⟨m, rfl⟩ := Int.eq_ofNat_of_zero_le h.1
  rw [BitVec.ofInt_natCast, BitVec.toNat_ofNat, Nat.mod_eq_of_lt (by omega)]
theorem wv_range (x : BitVec 64) : 0 ≤ wv x ∧ wv x < 18446744073709551616 := by
  have := x.isLt; unfold wv; omega
theorem wv_inj {x y : BitVec 64} (h : wv x = wv y) : x = y := by
  unfold wv at h; exact BitVec.eq_of_toNat_eq (by omega)
theorem wv_beq (x y : BitVec 64) : (wv x == wv y) = (x == y) := by
  rw [Bool.eq_iff_iff, beq_iff_eq, beq_iff_eq]; exact ⟨wv_inj, fun h => by rw [h]⟩

section
variable (x y : BitVec 64)
theorem wor_comm : wor x y = wor y x := BitVec.or_comm x y
theorem xor_wv : bits .xor .u64 (wv x) (wv y) = wv (wxor x y) := by
  show IntKind.u64.wrap ((BitVec.ofInt 64 (wv x) ^^^ BitVec.ofInt 64 (wv y)).toNat : Int) = _
  rw [ofInt_wv, ofInt_wv]; exact u64_wrap_wv _
theorem and_wv : bits .and .u64 (wv x) (wv y) = wv (wand x y) := by
  show IntKind.u64.wrap ((BitVec.ofInt 64 (wv x) &&& BitVec.ofInt 64 (wv y)).toNat : Int) = _
  rw [ofInt_wv, ofInt_wv]; exact u64_wrap_wv _
theorem or_wv : bits .or .u64 (wv x) (wv y) = wv (wor x y) := by
  show IntKind.u64.wrap ((BitVec.ofInt 64 (wv x) ||| BitVec.ofInt 64 (wv y)).toNat : Int) = _
  rw [ofInt_wv, ofInt_wv]; exact u64_wrap_wv _
theorem not_wv : bits .xor .u64 IntKind.u64.max (wv x) = wv (wnot x) := by
  show IntKind.u64.wrap ((BitVec.ofInt 64 IntKind.u64.max ^^^ BitVec.ofInt 64 (wv x)).toNat : Int) = _
  have : BitVec.ofInt 64 IntKind.u64.max = BitVec.allOnes 64 := by decide
  rw [ofInt_wv, this, BitVec.allOnes_xor]; exact u64_wrap_wv _
end
end Go
namespace Go
/-- The bits of a word, moved to the right by k, and round. -/
def rotr (x : BitVec 64) (k : Nat) : BitVec 64 := wor (wshr x k) (wshl x (64 - k))
theorem shl_nf (x : BitVec 64) (n : Nat) : IntKind.u64.wrap (wv x * 2 ^ n) = wv (wshl x n) := by
  unfold wv wshl
  rw [BitVec.toNat_shiftLeft, Nat.shiftLeft_eq, ← u64_wrap_of_lt]
  congr 1
theorem shr_nf (x : BitVec 64) (n : Nat) : wv x / 2 ^ n = wv (wshr x n) := by
  unfold wv wshr
  rw [BitVec.toNat_ushiftRight, Nat.shiftRight_eq_div_pow]
  simp
theorem and63 (a : Int) (h : 0 < a ∧ a < 64) : bits .and .u64 (IntKind.u64.wrap (-a)) 63 = 64 - a := by
  have H : ∀ n : Fin 64, 0 < n.val → bits .and .u64 (IntKind.u64.wrap (-(n.val : Int))) 63 = 64 - (n.val : Int) := by decide +kernel
  obtain ⟨m, rfl⟩ := Int.eq_ofNat_of_zero_le (Int.le_of_lt h.1)
  exact H ⟨m, by omega⟩ (by simp; omega)
end Go

/- The permutation and the sponge, in plain Lean. -/
namespace Go
/-- Five words. -/
structure St where
  a : BitVec 64
  b : BitVec 64
  c : BitVec 64
  d : BitVec 64
  e : BitVec 64
/-- Five words as a value. -/
abbrev St.val (s : St) : Value := .agg #[.int .u64 (wv s.a), .int .u64 (wv s.b), .int .u64 (wv s.c), .int .u64 (wv s.d), .int .u64 (wv s.e)]
/-- The cells of five words. -/
abbrev St.cells (s : St) : Array Value := #[.int .u64 (wv s.a), .int .u64 (wv s.b), .int .u64 (wv s.c), .int .u64 (wv s.d), .int .u64 (wv s.e)]
def turn (x : BitVec 64) (a b : Nat) : BitVec 64 := wxor (wxor x (rotr x a)) (rotr x b)
/-- The second and third step. -/
def St.mix (x : St) (c : BitVec 64) : St :=
  let y : St := ⟨wxor x.a x.e, x.b, wxor (wxor x.c c) x.b, x.d, wxor x.e x.d⟩
  ⟨wxor y.a (wand (wnot y.b) y.c), wxor y.b (wand (wnot y.c) y.d), wxor y.c (wand (wnot y.d) y.e), wxor y.d (wand (wnot y.e) y.a), wxor y.e (wand (wnot y.a) y.b)⟩
/-- The fourth step. -/
def St.sub (y : St) : St := ⟨wxor y.a y.e, wxor y.b y.a, wnot y.c, wxor y.d y.c, y.e⟩
def St.lin (y : St) : St := ⟨turn y.a 19 28, turn y.b 61 39, turn y.c 1 6, turn y.d 10 17, turn y.e 7 41⟩
def St.round (x : St) (c : BitVec 64) : St := ((x.mix c).sub).lin
/-- The constant of round i. -/
def rc (i : Nat) : BitVec 64 := wof ((240 - 15 * i : Nat) : Int)
/-- The last k of the twelve rounds. -/
def St.perm : Nat → St → St
  | 0, x => x
  | k + 1, x => St.perm k (x.round (rc (11 - k)))
/-- A block of five words. -/
theorem five_cells {w : World} {b : Nat} {v0 v1 v2 v3 v4 : Value} {t : TypeId} (h : w.heap[b]? = some (.cells #[v0, v1, v2, v3, v4] t)) :
    w.cell? ⟨b, 0, none⟩ = some v0 ∧ w.cell? ⟨b, 1, none⟩ = some v1 ∧ w.cell? ⟨b, 2, none⟩ = some v2 ∧ w.cell? ⟨b, 3, none⟩ = some v3 ∧ w.cell? ⟨b, 4, none⟩ = some v4 ∧
    w.frozen? ⟨b, 0, none⟩ = false ∧ w.frozen? ⟨b, 1, none⟩ = false ∧ w.frozen? ⟨b, 2, none⟩ = false ∧ w.frozen? ⟨b, 3, none⟩ = false ∧ w.frozen? ⟨b, 4, none⟩ = false ∧ b < w.heap.size := by
  have hb : b < w.heap.size := by
    rcases Nat.lt_or_ge b w.heap.size with h' | h'
    · exact h'
    · rw [Array.getElem?_eq_none h'] at h; cases h
  exact ⟨by simp [World.cell?, h], by simp [World.cell?, h], by simp [World.cell?, h], by simp [World.cell?, h], by simp [World.cell?, h],
    by simp [World.frozen?, h], by simp [World.frozen?, h], by simp [World.frozen?, h], by simp [World.frozen?, h], by simp [World.frozen?, h], hb⟩
theorem set_five {w : World} {b : Nat} {v0 v1 v2 v3 v4 u0 u1 u2 u3 u4 : Value} {t : TypeId} (h : w.heap[b]? = some (.cells #[v0, v1, v2, v3, v4] t)) :
    (((((w.setCell ⟨b, 0, none⟩ u0).setCell ⟨b, 1, none⟩ u1).setCell ⟨b, 2, none⟩ u2).setCell ⟨b, 3, none⟩ u3).setCell ⟨b, 4, none⟩ u4).heap[b]? = some (.cells #[u0, u1, u2, u3, u4] t) := by
  simp [World.setCell, Array.getElem?_modify, h]
/-! ### The words of a string -/
/-- A byte as a word. -/
def bw (b : UInt8) : BitVec 64 := wof (b.toNat : Int)
/-- The byte of a padded string at an index. -/
def padByte (s : ByteArray) (j : Nat) : BitVec 64 := if h : j < s.size then bw s[j] else if j = s.size then wof 128 else wof 0
/-- The first k bytes of the word at an index. -/
def wordTo (s : ByteArray) (at_ : Nat) : Nat → BitVec 64
  | 0 => wof 0
  | k + 1 => wor (wshl (wordTo s at_ k) 8) (padByte s (at_ + k))
def word (s : ByteArray) (i : Nat) : BitVec 64 := wordTo s (8 * i) 8
def words (s : ByteArray) : List (BitVec 64) := (List.range (s.size / 8 + 1)).map (word s)
/-- A string's words are taken in. -/
def St.absorb (x : St) : List (BitVec 64) → St
  | [] => x
  | w :: ws => St.absorb (St.perm 12 { x with a := wxor x.a w }) ws
theorem wor_zero (x : BitVec 64) : wor x (wof 0) = x := by
  unfold wor wof; simp
theorem shl_8 (x : BitVec 64) : IntKind.u64.wrap (wv x * 256) = wv (wshl x 8) := by
  have := shl_nf x 8
  simpa using this
theorem or_byte (x : BitVec 64) (b : UInt8) : bits .or .u64 (wv x) ((b.toNat : Nat) : Int) = wv (wor x (bw b)) := by
  have h := wv_lit (b.toNat : Int) (by have := b.toNat_lt; omega)
  rw [h, or_wv]; rfl
theorem or_128 (x : BitVec 64) : bits .or .u64 (wv x) 128 = wv (wor x (wof 128)) := by
  rw [wv_lit 128 (by omega), or_wv]; rfl
theorem or_byte_wrap (x : BitVec 64) (b : UInt8) : bits .or .u64 (wv x) (IntKind.u64.wrap ((b.toNat : Nat) : Int)) = wv (wor x (bw b)) := by
  rw [IntWalk.u64_in _ (by have := b.toNat_lt; omega), or_byte]
theorem wordTo_in (s : ByteArray) (a m : Nat) (h : a + m < s.size) : wordTo s a (m + 1) = wor (wshl (wordTo s a m) 8) (bw s[a + m]) := by
  rw [wordTo, padByte, dif_pos h]
theorem wordTo_at (s : ByteArray) (a m : Nat) (h : a + m = s.size) : wordTo s a (m + 1) = wor (wshl (wordTo s a m) 8) (wof 128) := by
  rw [wordTo, padByte, dif_neg (by omega), if_pos h]
theorem wordTo_past (s : ByteArray) (a m : Nat) (h : s.size < a + m) : wordTo s a (m + 1) = wshl (wordTo s a m) 8 := by
  rw [wordTo, padByte, dif_neg (by omega), if_neg (by omega), wor_zero]
/-- The first word, by kind. -/
def letters : Int := 8026104356937031936
def St.init (kd : Nat) : St := St.perm 12 ⟨wof (letters + kd), wof 0, wof 0, wof 0, wof 0⟩
def St.start (s : ByteArray) (kd : Nat) : St := St.absorb (St.init kd) (words s)
/-- The eight bytes of a word, the highest first. -/
def wbyte (x : BitVec 64) (k : Nat) : UInt8 := UInt8.ofNat (x.toNat / 2 ^ (56 - 8 * k))
def wbytes (x : BitVec 64) (m : Nat) : List UInt8 := (List.range m).map (wbyte x)
/-- The state behind m permutations. -/
def St.iter (x : St) : Nat → St
  | 0 => x
  | m + 1 => St.perm 12 (St.iter x m)
/-- The first m words of the result. -/
def St.squeeze (x : St) : Nat → List UInt8
  | 0 => []
  | m + 1 => St.squeeze x m ++ wbytes (St.iter x m).a 8
def bytesOf (l : List UInt8) : ByteArray := ⟨l.toArray⟩
/-- The first n bytes of the result of the sponge. -/
def runB (s : ByteArray) (kd n : Nat) : ByteArray := bytesOf ((St.squeeze (St.start s kd) ((n + 7) / 8)).take n)
theorem wbyte_num (x : BitVec 64) (k : Nat) (m : Nat) (hm : m = 56 - 8 * k) : IntKind.u8.wrap (wv (wshr x m)) = ((wbyte x k).toNat : Int) := by
  subst hm
  unfold wbyte wshr wv
  rw [IntKind.wrap_u8, UInt8.toNat_ofNat']
  rw [BitVec.toNat_ushiftRight, Nat.shiftRight_eq_div_pow]
  omega
theorem wbytes_succ (x : BitVec 64) (k : Nat) : wbytes x (k + 1) = wbytes x k ++ [wbyte x k] := by simp [wbytes, List.range_succ]
theorem wbytes_length (x : BitVec 64) (k : Nat) : (wbytes x k).length = k := by simp [wbytes]
theorem squeeze_length (x : St) (m : Nat) : (St.squeeze x m).length = 8 * m := by
  induction m with
  | zero => rfl
  | succ m ih => simp [St.squeeze, ih, wbytes_length]; omega
/-- A byte as a value. -/
abbrev byteV (b : UInt8) : Value := .int .u8 (b.toNat : Int)
/-- A slice's length. -/
def lenOf : Value → Nat | .slice _ l _ => l | _ => 0
end Go

/- Plain facts on bytes and slices. -/
namespace Go
open RowKit
theorem ownsRow_cap {w : World} {base e : Nat} {g len cap n : Nat} {xs : List Value} (h : w.ownsRow base e 1 (.slice (some ⟨g, 0, none⟩) len cap) n xs) : len = n ∧ n ≤ cap ∧ base ≤ g ∧ cap ≤ maxLen := by
  rcases h.2 with ⟨h0, _⟩ | ⟨g', cap', cur, hv, hb, _, hle, hm, _⟩
  · cases h0
  · cases hv; exact ⟨rfl, hle, hb, hm⟩
/-- An owned row of bytes, cut at its head and made a string. -/
theorem run_row_string {P : Program} {w : World} {base g len cap n m : Nat} {l : List UInt8} (src dst e : TypeId) (hs : P.underlying src = some (.slice e)) (he : P.underlying e = some (.int .u8)) (hd : P.underlying dst = some .string)
    (h : w.ownsRow base e 1 (.slice (some ⟨g, 0, none⟩) len cap) n (l.map byteV)) (hm : m ≤ l.length) (c : Nat) :
    (convert src dst (.slice (some ⟨g, 0, none⟩) m c)).run P w = .ok (.string (bytesOf (l.take m))) w := by
  have hc := h.cells rfl
  have := run_convert_bytes_back (P := P) w src dst e ⟨g, 0, none⟩ c (l.take m) hs he hd (fun j hj => by
    have hj' : j < l.length := by simp at hj; omega
    refine hc j _ ?_
    simp [hj'])
  rw [List.length_take, Nat.min_eq_left hm] at this
  exact this
theorem ownsRow_of_below {w w' : World} {base e size n : Nat} {v : Value} {xs : List Value} (h : w.ownsRow base e size v n xs) (hb : Below w.heap.size w w') : w'.ownsRow base e size v n xs := by
  refine ⟨h.1, ?_⟩
  rcases h.2 with h2 | ⟨g, cap, cur, hv, hg, hh, r⟩
  · exact Or.inl h2
  · refine Or.inr ⟨g, cap, cur, hv, hg, ?_, r⟩
    rw [hb.block g (by rcases Nat.lt_or_ge g w.heap.size with h' | h'
                       · exact h'
                       · rw [Array.getElem?_eq_none h'] at hh; cases hh)]
    exact hh
theorem wbyte_num' (x : BitVec 64) (k m : Nat) (hm : m = 56 - 8 * k) : wv (wshr x m) % 256 = ((wbyte x k).toNat : Int) := by
  rw [← wbyte_num x k m hm, IntKind.wrap_u8]
end Go

/- Plain facts: the padded string as a list of bytes. -/
namespace Go
/-- The string, the byte 80, and j bytes 0. -/
def padL (s : ByteArray) (j : Nat) : List UInt8 := s.data.toList ++ [128] ++ List.replicate j 0
theorem padL_length (s : ByteArray) (j : Nat) : (padL s j).length = s.size + 1 + j := by
  simp [padL]; omega
theorem padL_succ (s : ByteArray) (j : Nat) : padL s (j + 1) = padL s j ++ [0] := by
  simp [padL, List.replicate_succ', List.append_assoc]
theorem padL_byte (s : ByteArray) (j k : Nat) (h : k < s.size + 1 + j) : ∃ b, (padL s j)[k]? = some b ∧ bw b = padByte s k := by
  unfold padL padByte
  by_cases h1 : k < s.size
  · refine ⟨s[k], ?_, by rw [dif_pos h1]⟩
    rw [List.append_assoc, List.getElem?_append_left (by simpa using h1)]
    have : k < s.data.toList.length := by simpa using h1
    rw [List.getElem?_eq_getElem this]; rfl
  · rw [dif_neg h1]
    have hl : s.data.toList.length = s.size := by simp
    by_cases h2 : k = s.size
    · subst h2
      refine ⟨128, ?_, by rw [if_pos rfl]; rfl⟩
      rw [List.append_assoc, List.getElem?_append_right (by omega)]
      simp [hl]
    · refine ⟨0, ?_, by rw [if_neg h2]; rfl⟩
      rw [List.append_assoc, List.getElem?_append_right (by omega), hl, List.getElem?_append_right (by simp; omega)]
      simp only [List.length_singleton]
      rw [List.getElem?_replicate, if_pos (by omega)]
theorem absorb_snoc' (x : St) (l : List (BitVec 64)) (w : BitVec 64) : St.absorb x (l ++ [w]) = St.perm 12 { St.absorb x l with a := wxor (St.absorb x l).a w } := by
  induction l generalizing x with
  | nil => rfl
  | cons v l ih => exact ih _
def uptoW (s : ByteArray) (k : Nat) : List (BitVec 64) := (List.range k).map (word s)
theorem uptoW_succ (s : ByteArray) (k : Nat) : uptoW s (k + 1) = uptoW s k ++ [word s k] := by simp [uptoW, List.range_succ]
theorem uptoW_words (s : ByteArray) : uptoW s (s.size / 8 + 1) = words s := rfl
theorem padL_zero (s : ByteArray) : Lib.strCells s ++ [Value.int .u8 128] = (padL s 0).map byteV := by
  simp [padL, Lib.strCells, byteV]
end Go

/- Plain facts: lists of strings. -/
namespace Go
/-- Whether strings have more than so many bytes altogether, each counted with one byte more. -/
def longB : List ByteArray → Int → Bool
  | [], _ => false
  | x :: r, m => if m ≤ (x.size : Int) then true else longB r (m - x.size - 1)
theorem longB_cons (x : ByteArray) (r : List ByteArray) (m : Int) : longB (x :: r) m = if m ≤ (x.size : Int) then true else longB r (m - x.size - 1) := rfl
theorem longB_drop (l : List ByteArray) (k : Nat) (x : ByteArray) (hx : l[k]? = some x) (m : Int) :
    longB (l.drop k) m = if m ≤ (x.size : Int) then true else longB (l.drop (k + 1)) (m - x.size - 1) := by
  have hk : k < l.length := (List.getElem?_eq_some_iff.1 hx).1
  have he : l[k] = x := (List.getElem?_eq_some_iff.1 hx).2
  rw [List.drop_eq_getElem_cons hk, he]; rfl
theorem str_beq (x y : ByteArray) (h : x = y) : (x.toList == y.toList) = true := by rw [h]; exact beq_self_eq_true _
theorem toList_inj {x y : ByteArray} (h : x.toList = y.toList) : x = y := by
  rw [ByteArray.toList_eq, ByteArray.toList_eq] at h
  exact ByteArray.ext (Array.ext' h)
theorem str_bne (x y : ByteArray) (h : x ≠ y) : (x.toList == y.toList) = false := by
  rw [beq_eq_false_iff_ne]; exact fun e => h (toList_inj e)
theorem take_snoc' {α : Type} (l : List α) (k : Nat) (x : α) (h : l[k]? = some x) : l.take (k + 1) = l.take k ++ [x] := by
  rw [List.take_add_one, h]; rfl
/-- A number in four bytes. -/
def fourL (n : Nat) : List UInt8 := [UInt8.ofNat (n / 16777216), UInt8.ofNat (n / 65536), UInt8.ofNat (n / 256), UInt8.ofNat n]
theorem byteV_of (n : Nat) : byteV (UInt8.ofNat n) = .int .u8 ((n : Int) % 256) := by
  unfold byteV; rw [UInt8.toNat_ofNat']; rfl
theorem fourL_val (n : Nat) : (fourL n).map byteV = [.int .u8 ((n : Int) / 16777216 % 256), .int .u8 ((n : Int) / 65536 % 256), .int .u8 ((n : Int) / 256 % 256), .int .u8 ((n : Int) % 256)] := by
  simp only [fourL, List.map_cons, List.map_nil, byteV_of]; rfl
/-- The bytes of a list of strings. -/
def listL (d : UInt8) (l : List ByteArray) : List UInt8 := [d] ++ fourL l.length ++ (l.map fun s => fourL s.size ++ s.data.toList).flatten
def listTo (d : UInt8) (n : Nat) (l : List ByteArray) : List UInt8 := [d] ++ fourL n ++ (l.map fun s => fourL s.size ++ s.data.toList).flatten
theorem listTo_snoc (d : UInt8) (n : Nat) (l : List ByteArray) (s : ByteArray) : listTo d n (l ++ [s]) = listTo d n l ++ fourL s.size ++ s.data.toList := by
  simp [listTo, List.append_assoc]
theorem strCells_byteV (s : ByteArray) : Lib.strCells s = s.data.toList.map byteV := rfl
theorem fourL_val' (n : Nat) (hn : n ≤ 1000000000) : (fourL n).map byteV = [.int .u8 ((n : Int) / 16777216), .int .u8 ((n : Int) / 65536 % 256), .int .u8 ((n : Int) / 256 % 256), .int .u8 ((n : Int) % 256)] := by
  rw [fourL_val, show (n : Int) / 16777216 % 256 = (n : Int) / 16777216 by omega]
/-- How many bytes and strings a list has. -/
def bulkL : List ByteArray → Nat
  | [] => 0
  | x :: r => x.size + 1 + bulkL r
theorem longB_bulk (l : List ByteArray) (m : Nat) (h : longB l m = false) : bulkL l ≤ m := by
  induction l generalizing m with
  | nil => exact Nat.zero_le _
  | cons x r ih =>
    rw [longB_cons] at h
    by_cases hx : (m : Int) ≤ (x.size : Int)
    · rw [if_pos hx] at h; cases h
    · rw [if_neg hx, show (m : Int) - x.size - 1 = ((m - x.size - 1 : Nat) : Int) by omega] at h
      have := ih _ h
      unfold bulkL; omega
theorem bulk_append (l r : List ByteArray) : bulkL (l ++ r) = bulkL l + bulkL r := by
  induction l with
  | nil => simp [bulkL]
  | cons x l ih => simp only [List.cons_append, bulkL, ih]; omega
theorem bulk_take (l : List ByteArray) (k : Nat) : bulkL (l.take k) ≤ bulkL l := by
  have := bulk_append (l.take k) (l.drop k)
  rw [List.take_append_drop] at this; omega
theorem bulk_len (l : List ByteArray) : l.length ≤ bulkL l := by
  induction l with
  | nil => simp
  | cons x l ih => simp only [List.length_cons, bulkL]; omega
theorem bulk_get (l : List ByteArray) (k : Nat) (x : ByteArray) (h : l[k]? = some x) : x.size ≤ bulkL l := by
  have h1 := bulk_take l (k + 1)
  rw [take_snoc' l k x h, bulk_append] at h1
  simp only [bulkL] at h1; omega
theorem listTo_length (d : UInt8) (n : Nat) (l : List ByteArray) : (listTo d n l).length ≤ 5 + 4 * bulkL l := by
  induction l with
  | nil => simp [listTo, fourL, bulkL]
  | cons x l ih =>
    simp only [listTo, List.map_cons, List.flatten_cons, List.length_append, fourL, List.length_cons, List.length_nil, bulkL, Array.length_toList] at *
    have : x.data.size = x.size := rfl
    omega
theorem fourL_length (n : Nat) : (fourL n).length = 4 := rfl
end Go
