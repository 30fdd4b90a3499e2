/- Plain facts: lists of strings. -/
import Derived.Test.YtfiajfjaamfeoaaPlain3
namespace Go
/-- Whether strings have more than so many bytes altogether, each counted with one byte more. -/
def longB : List ByteArray → Int → Bool
  | [], _ => false
  | x :: r, m => if m ≤ (x.size : Int) then true else longB r (m - x.size - 1)
theorem longB_cons (x : ByteArray) (r : List ByteArray) (m : Int) : longB (x :: r) m = if m ≤ (x.size : Int) then true else longB r (m - x.size - 1) := rfl
theorem longB_drop (l : List ByteArray) (k : Nat) (x : ByteArray) (hx : l[k]? = some x) (m : Int) :
    longB (l.drop k) m = if m ≤ (x.size : Int) then true else longB (l.drop (k + 1)) (m - x.size - 1) := by
  have hk : k < l.length := (List.getElem?_eq_some_iff.1 hx).1
  have he : l[k] = x := (List.getElem?_eq_some_iff.1 hx).2
  rw [List.drop_eq_getElem_cons hk, he]; rfl
theorem str_beq (x y : ByteArray) (h : x = y) : (x.toList == y.toList) = true := by rw [h]; exact beq_self_eq_true _
theorem toList_inj {x y : ByteArray} (h : x.toList = y.toList) : x = y := by
  rw [ByteArray.toList_eq, ByteArray.toList_eq] at h
  exact ByteArray.ext (Array.ext' h)
theorem str_bne (x y : ByteArray) (h : x ≠ y) : (x.toList == y.toList) = false := by
  rw [beq_eq_false_iff_ne]; exact fun e => h (toList_inj e)
theorem take_snoc' {α : Type} (l : List α) (k : Nat) (x : α) (h : l[k]? = some x) : l.take (k + 1) = l.take k ++ [x] := by
  rw [List.take_add_one, h]; rfl
/-- A number in four bytes. -/
def fourL (n : Nat) : List UInt8 := [UInt8.ofNat (n / 16777216), UInt8.ofNat (n / 65536), UInt8.ofNat (n / 256), UInt8.ofNat n]
theorem byteV_of (n : Nat) : byteV (UInt8.ofNat n) = .int .u8 ((n : Int) % 256) := by
  unfold byteV; rw [UInt8.toNat_ofNat']; rfl
theorem fourL_val (n : Nat) : (fourL n).map byteV = [.int .u8 ((n : Int) / 16777216 % 256), .int .u8 ((n : Int) / 65536 % 256), .int .u8 ((n : Int) / 256 % 256), .int .u8 ((n : Int) % 256)] := by
  simp only [fourL, List.map_cons, List.map_nil, byteV_of]; rfl
/-- The bytes of a list of strings. -/
def listL (d : UInt8) (l : List ByteArray) : List UInt8 := [d] ++ fourL l.length ++ (l.map fun s => fourL s.size ++ s.data.toList).flatten
def listTo (d : UInt8) (n : Nat) (l : List ByteArray) : List UInt8 := [d] ++ fourL n ++ (l.map fun s => fourL s.size ++ s.data.toList).flatten
theorem listTo_snoc (d : UInt8) (n : Nat) (l : List ByteArray) (s : ByteArray) : listTo d n (l ++ [s]) = listTo d n l ++ fourL s.size ++ s.data.toList := by
  simp [listTo, List.append_assoc]
theorem strCells_byteV (s : ByteArray) : Lib.strCells s = s.data.toList.map byteV := rfl
theorem fourL_val' (n : Nat) (hn : n ≤ 1000000000) : (fourL n).map byteV = [.int .u8 ((n : Int) / 16777216), .int .u8 ((n : Int) / 65536 % 256), .int .u8 ((n : Int) / 256 % 256), .int .u8 ((n : Int) % 256)] := by
  rw [fourL_val, show (n : Int) / 16777216 % 256 = (n : Int) / 16777216 by omega]
/-- How many bytes and strings a list has. -/
def bulkL : List ByteArray → Nat
  | [] => 0
  | x :: r => x.size + 1 + bulkL r
theorem longB_bulk (l : List ByteArray) (m : Nat) (h : longB l m = false) : bulkL l ≤ m := by
  induction l generalizing m with
  | nil => exact Nat.zero_le _
  | cons x r ih =>
    rw [longB_cons] at h
    by_cases hx : (m : Int) ≤ (x.size : Int)
    · rw [if_pos hx] at h; cases h
    · rw [if_neg hx, show (m : Int) - x.size - 1 = ((m - x.size - 1 : Nat) : Int) by omega] at h
      have := ih _ h
      unfold bulkL; omega
theorem bulk_append (l r : List ByteArray) : bulkL (l ++ r) = bulkL l + bulkL r := by
  induction l with
  | nil => simp [bulkL]
  | cons x l ih => simp only [List.cons_append, bulkL, ih]; omega
theorem bulk_take (l : List ByteArray) (k : Nat) : bulkL (l.take k) ≤ bulkL l := by
  have := bulk_append (l.take k) (l.drop k)
  rw [List.take_append_drop] at this; omega
theorem bulk_len (l : List ByteArray) : l.length ≤ bulkL l := by
  induction l with
  | nil => simp
  | cons x l ih => simp only [List.length_cons, bulkL]; omega
theorem bulk_get (l : List ByteArray) (k : Nat) (x : ByteArray) (h : l[k]? = some x) : x.size ≤ bulkL l := by
  have h1 := bulk_take l (k + 1)
  rw [take_snoc' l k x h, bulk_append] at h1
  simp only [bulkL] at h1; omega
theorem listTo_length (d : UInt8) (n : Nat) (l : List ByteArray) : (listTo d n l).length ≤ 5 + 4 * bulkL l := by
  induction l with
  | nil => simp [listTo, fourL, bulkL]
  | cons x l ih =>
    simp only [listTo, List.map_cons, List.flatten_cons, List.length_append, fourL, List.length_cons, List.length_nil, bulkL, Array.length_toList] at *
    have : x.data.size = x.size := rfl
    omega
theorem fourL_length (n : Nat) : (fourL n).length = 4 := rfl
end Go
