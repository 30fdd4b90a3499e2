/- The permutation and the sponge, in plain Lean. -/
import Derived.Test.YtfiajfjaamfeoaaWords
namespace Go
/-- Five words. -/
structure St where
  a : BitVec 64
  b : BitVec 64
  c : BitVec 64
  d : BitVec 64
  e : BitVec 64
/-- Five words as a value. -/
abbrev St.val (s : St) : Value := .agg #[.int .u64 (wv s.a), .int .u64 (wv s.b), .int .u64 (wv s.c), .int .u64 (wv s.d), .int .u64 (wv s.e)]
/-- The cells of five words. -/
abbrev St.cells (s : St) : Array Value := #[.int .u64 (wv s.a), .int .u64 (wv s.b), .int .u64 (wv s.c), .int .u64 (wv s.d), .int .u64 (wv s.e)]
def turn (x : BitVec 64) (a b : Nat) : BitVec 64 := wxor (wxor x (rotr x a)) (rotr x b)
/-- The second and third step. -/
def St.mix (x : St) (c : BitVec 64) : St :=
  let y : St := ⟨wxor x.a x.e, x.b, wxor (wxor x.c c) x.b, x.d, wxor x.e x.d⟩
  ⟨wxor y.a (wand (wnot y.b) y.c), wxor y.b (wand (wnot y.c) y.d), wxor y.c (wand (wnot y.d) y.e), wxor y.d (wand (wnot y.e) y.a), wxor y.e (wand (wnot y.a) y.b)⟩
/-- The fourth step. -/
def St.sub (y : St) : St := ⟨wxor y.a y.e, wxor y.b y.a, wnot y.c, wxor y.d y.c, y.e⟩
def St.lin (y : St) : St := ⟨turn y.a 19 28, turn y.b 61 39, turn y.c 1 6, turn y.d 10 17, turn y.e 7 41⟩
def St.round (x : St) (c : BitVec 64) : St := ((x.mix c).sub).lin
/-- The constant of round i. -/
def rc (i : Nat) : BitVec 64 := wof ((240 - 15 * i : Nat) : Int)
/-- The last k of the twelve rounds. -/
def St.perm : Nat → St → St
  | 0, x => x
  | k + 1, x => St.perm k (x.round (rc (11 - k)))
/-- A block of five words. -/
theorem five_cells {w : World} {b : Nat} {v0 v1 v2 v3 v4 : Value} {t : TypeId} (h : w.heap[b]? = some (.cells #[v0, v1, v2, v3, v4] t)) :
    w.cell? ⟨b, 0, none⟩ = some v0 ∧ w.cell? ⟨b, 1, none⟩ = some v1 ∧ w.cell? ⟨b, 2, none⟩ = some v2 ∧ w.cell? ⟨b, 3, none⟩ = some v3 ∧ w.cell? ⟨b, 4, none⟩ = some v4 ∧
    w.frozen? ⟨b, 0, none⟩ = false ∧ w.frozen? ⟨b, 1, none⟩ = false ∧ w.frozen? ⟨b, 2, none⟩ = false ∧ w.frozen? ⟨b, 3, none⟩ = false ∧ w.frozen? ⟨b, 4, none⟩ = false ∧ b < w.heap.size := by
  have hb : b < w.heap.size := by
    rcases Nat.lt_or_ge b w.heap.size with h' | h'
    · exact h'
    · rw [Array.getElem?_eq_none h'] at h; cases h
  exact ⟨by simp [World.cell?, h], by simp [World.cell?, h], by simp [World.cell?, h], by simp [World.cell?, h], by simp [World.cell?, h],
    by simp [World.frozen?, h], by simp [World.frozen?, h], by simp [World.frozen?, h], by simp [World.frozen?, h], by simp [World.frozen?, h], hb⟩
theorem set_five {w : World} {b : Nat} {v0 v1 v2 v3 v4 u0 u1 u2 u3 u4 : Value} {t : TypeId} (h : w.heap[b]? = some (.cells #[v0, v1, v2, v3, v4] t)) :
    (((((w.setCell ⟨b, 0, none⟩ u0).setCell ⟨b, 1, none⟩ u1).setCell ⟨b, 2, none⟩ u2).setCell ⟨b, 3, none⟩ u3).setCell ⟨b, 4, none⟩ u4).heap[b]? = some (.cells #[u0, u1, u2, u3, u4] t) := by
  simp [World.setCell, Array.getElem?_modify, h]
/-! ### The words of a string -/
/-- A byte as a word. -/
def bw (b : UInt8) : BitVec 64 := wof (b.toNat : Int)
/-- The byte of a padded string at an index. -/
def padByte (s : ByteArray) (j : Nat) : BitVec 64 := if h : j < s.size then bw s[j] else if j = s.size then wof 128 else wof 0
/-- The first k bytes of the word at an index. -/
def wordTo (s : ByteArray) (at_ : Nat) : Nat → BitVec 64
  | 0 => wof 0
  | k + 1 => wor (wshl (wordTo s at_ k) 8) (padByte s (at_ + k))
def word (s : ByteArray) (i : Nat) : BitVec 64 := wordTo s (8 * i) 8
def words (s : ByteArray) : List (BitVec 64) := (List.range (s.size / 8 + 1)).map (word s)
/-- A string's words are taken in. -/
def St.absorb (x : St) : List (BitVec 64) → St
  | [] => x
  | w :: ws => St.absorb (St.perm 12 { x with a := wxor x.a w }) ws
theorem wor_zero (x : BitVec 64) : wor x (wof 0) = x := by
  unfold wor wof; simp
theorem shl_8 (x : BitVec 64) : IntKind.u64.wrap (wv x * 256) = wv (wshl x 8) := by
  have := shl_nf x 8
  simpa using this
theorem or_byte (x : BitVec 64) (b : UInt8) : bits .or .u64 (wv x) ((b.toNat : Nat) : Int) = wv (wor x (bw b)) := by
  have h := wv_lit (b.toNat : Int) (by have := b.toNat_lt; omega)
  rw [h, or_wv]; rfl
theorem or_128 (x : BitVec 64) : bits .or .u64 (wv x) 128 = wv (wor x (wof 128)) := by
  rw [wv_lit 128 (by omega), or_wv]; rfl
theorem or_byte_wrap (x : BitVec 64) (b : UInt8) : bits .or .u64 (wv x) (IntKind.u64.wrap ((b.toNat : Nat) : Int)) = wv (wor x (bw b)) := by
  rw [IntWalk.u64_in _ (by have := b.toNat_lt; omega), or_byte]
theorem wordTo_in (s : ByteArray) (a m : Nat) (h : a + m < s.size) : wordTo s a (m + 1) = wor (wshl (wordTo s a m) 8) (bw s[a + m]) := by
  rw [wordTo, padByte, dif_pos h]
theorem wordTo_at (s : ByteArray) (a m : Nat) (h : a + m = s.size) : wordTo s a (m + 1) = wor (wshl (wordTo s a m) 8) (wof 128) := by
  rw [wordTo, padByte, dif_neg (by omega), if_pos h]
theorem wordTo_past (s : ByteArray) (a m : Nat) (h : s.size < a + m) : wordTo s a (m + 1) = wshl (wordTo s a m) 8 := by
  rw [wordTo, padByte, dif_neg (by omega), if_neg (by omega), wor_zero]
/-- The first word, by kind. -/
def letters : Int := 8026104356937031936
def St.init (kd : Nat) : St := St.perm 12 ⟨wof (letters + kd), wof 0, wof 0, wof 0, wof 0⟩
def St.start (s : ByteArray) (kd : Nat) : St := St.absorb (St.init kd) (words s)
/-- The eight bytes of a word, the highest first. -/
def wbyte (x : BitVec 64) (k : Nat) : UInt8 := UInt8.ofNat (x.toNat / 2 ^ (56 - 8 * k))
def wbytes (x : BitVec 64) (m : Nat) : List UInt8 := (List.range m).map (wbyte x)
/-- The state behind m permutations. -/
def St.iter (x : St) : Nat → St
  | 0 => x
  | m + 1 => St.perm 12 (St.iter x m)
/-- The first m words of the result. -/
def St.squeeze (x : St) : Nat → List UInt8
  | 0 => []
  | m + 1 => St.squeeze x m ++ wbytes (St.iter x m).a 8
def bytesOf (l : List UInt8) : ByteArray := ⟨l.toArray⟩
/-- The first n bytes of the result of the sponge. -/
def runB (s : ByteArray) (kd n : Nat) : ByteArray := bytesOf ((St.squeeze (St.start s kd) ((n + 7) / 8)).take n)
theorem wbyte_num (x : BitVec 64) (k : Nat) (m : Nat) (hm : m = 56 - 8 * k) : IntKind.u8.wrap (wv (wshr x m)) = ((wbyte x k).toNat : Int) := by
  subst hm
  unfold wbyte wshr wv
  rw [IntKind.wrap_u8, UInt8.toNat_ofNat']
  rw [BitVec.toNat_ushiftRight, Nat.shiftRight_eq_div_pow]
  omega
theorem wbytes_succ (x : BitVec 64) (k : Nat) : wbytes x (k + 1) = wbytes x k ++ [wbyte x k] := by simp [wbytes, List.range_succ]
theorem wbytes_length (x : BitVec 64) (k : Nat) : (wbytes x k).length = k := by simp [wbytes]
theorem squeeze_length (x : St) (m : Nat) : (St.squeeze x m).length = 8 * m := by
  induction m with
  | zero => rfl
  | succ m ih => simp [St.squeeze, ih, wbytes_length]; omega
/-- A byte as a value. -/
abbrev byteV (b : UInt8) : Value := .int .u8 (b.toNat : Int)
/-- A slice's length. -/
def lenOf : Value → Nat | .slice _ l _ => l | _ => 0
end Go
