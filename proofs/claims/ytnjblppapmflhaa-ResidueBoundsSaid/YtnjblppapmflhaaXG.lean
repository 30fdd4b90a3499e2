/- Wide integers: helpers and walks, in one text (XG1 XG2 XG3). -/
import Derived.Test.YtnjblppapmflhaaXRb
import Derived.Test.YtnjblppapmflhaaWQ3
/- The reference: an absolute value divided by a number below 2^16. -/
namespace Go.Proofs.Ytnjblppapmflhaa
set_option linter.all false
open Go.RowKit Go.Shelf Go.WideNum
def ShortRetH (w : World) (A n : Nat) (e : Ending) (w' : World) : Prop := ∃ v, e = .returned (.tuple #[v, .int .u32 ((A % n : Nat) : Int)]) ∧ World.rawH w' v (A / n) (hw A).length ∧ Below w.heap.size w w'
theorem rowF_raw {w W : World} {g n p : Nat} {T : TypeId} (hg : W.heap[g]? = some (.cells (rowF (dig 65536 n) p) T)) (hp : p ≤ 100000) : World.rawH W (.slice (some ⟨g, 0, none⟩) p p) n p := by
  have := reads_block (B := W.heap.size) (l := ((List.range p).map (dig 65536 n)).map u32V) hg (lt_of_heap hg) p (by simp) (by unfold maxLen; omega)
  rw [List.length_map, List.length_map, List.length_range] at this
  exact this
set_option maxRecDepth 100000 in
set_option maxHeartbeats 4000000 in
theorem hshort_any (A n : Nat) (hn0 : 0 < n) (hn : n < 65536) (va : Value) (w : World) (hA : World.numH w va A) (hla : (hw A).length ≤ 4000) :
    Calls Try.prog 101 #[va, .int .u32 (n : Int)] w (ShortRetH w A n) := by
  obtain ⟨aa, p, ca, hp, rfl, hca, hma, hsa⟩ := numH_words hA
  clear hA
  have hva := hw_vlt A
  rw [← hp] at hla hva
  have HA := Lib.hid hsa
  have HVA := Lib.hid hva
  obtain ⟨HPOST, hpost⟩ : ∃ R, R = ShortRetH w A n := ⟨_, rfl⟩
  rw [← hpost]
  have HP := Lib.hid hpost
  have HPL := Lib.hid hp
  clear hp hsa hva hpost
  have hmk : ∀ W : World, (Instr.makeSlice 22 (.int .i64 (p : Int)) (.int .i64 (p : Int))).run Try.prog W = .ok (.slice (some ⟨W.heap.size, 0, none⟩) p p) (W.alloc (.cells (zrow p) 23)) := fun W => make_u32 p (by omega) W
  have hpI : (p : Int) ≤ 4000 := by omega
  go_enter Try.func101, Try.ntmps101
  go_wp2_with fail
  go_loopw [7, 8] (fun c iv wr => ∃ k : Nat, k ≤ p ∧ iv = .int .i64 ((k : Int) - 1) ∧ c = .int .u32 ((A / 65536 ^ k % n : Nat) : Int) ∧ wr.heap[w.heap.size]? = some (.cells (rowF (fun j => if k ≤ j then dig 65536 (A / n) j else 0) p) 23) ∧ Below w.heap.size w wr) (fun _ iv _ => (intOf iv + 1).toNat)
  case atStart => exact ⟨p, Nat.le_refl _, rfl, by rw [Nat.div_eq_of_lt HVA.out, Nat.zero_mod]; rfl, by rw [rowF_congr (f' := fun _ => 0) (fun j hj => if_neg (by omega)), rowF_zero]; exact heap_alloc_new w _, (Below.refl _ w).alloc (Nat.le_refl _) _⟩
  case round =>
    obtain ⟨k, hk, rfl, rfl, hgk, hb⟩ := hrel
    cases k with
    | zero =>
      rw [rowF_congr (f' := dig 65536 (A / n)) (fun j hj => if_pos (Nat.zero_le j))] at hgk
      rw [Nat.pow_zero, Nat.div_one]
      have HGK := Lib.hid hgk
      obtain ⟨r, er⟩ : ∃ r, r = A % n := ⟨_, rfl⟩
      rw [← er]
      have ER := Lib.hid er
      clear hgk er
      have h0 : ¬ (0 : Int) ≤ ((0 : Nat) : Int) - 1 := by omega
      go_wp2
      rw [HP.out, ER.out]
      exact ⟨_, rfl, by rw [← HPL.out]; exact rowF_raw (w := w) HGK.out (by omega), hb⟩
    | succ j =>
      rw [show ((j + 1 : Nat) : Int) - 1 = (j : Int) by omega]
      obtain ⟨b, off, rfl, hbl, hx0⟩ := HA.out j (by omega)
      have hx : wr.cell? ⟨b, off + j, none⟩ = some (.int .u32 (dig 65536 A j : Int)) := (hb.cell (p := ⟨b, off + j, none⟩) hbl).trans hx0
      obtain ⟨hcu, hfu⟩ := rowF_cell hgk j (by omega)
      have HST := Lib.hid (short_step (B := 65536) (by omega) hn0 A j)
      have hd1 := hw_dig A j
      have hr := Nat.mod_lt (A / 65536 ^ (j + 1)) hn0
      obtain ⟨x, ex⟩ : ∃ x, x = dig 65536 A j := ⟨_, rfl⟩
      obtain ⟨r, er⟩ : ∃ x, x = A / 65536 ^ (j + 1) % n := ⟨_, rfl⟩
      rw [← ex, ← er] at HST
      rw [← ex] at hx hd1
      rw [← er] at hr ⊢
      obtain ⟨y, ey⟩ : ∃ y, y = r * 65536 + x := ⟨_, rfl⟩
      have HQ : Hid (y / n = dig 65536 (A / n) j) := by show _ = _; rw [ey]; exact HST.out.1
      have HR2 : Hid (y % n = A / 65536 ^ j % n) := by show _ = _; rw [ey]; exact HST.out.2
      have hq2 : y / n < 65536 := by rw [HQ.out]; exact hw_dig _ _
      have hy : y < 4294967296 := by rw [ey]; omega
      have u1 : IntKind.u32.wrap ((r : Int) * 65536) = ((r * 65536 : Nat) : Int) := by rw [IntKind.wrap_u32]; omega
      have u1' : IntKind.u32.wrap ((r : Int) * 2 ^ 16) = ((r * 65536 : Nat) : Int) := by rw [IntKind.wrap_u32]; omega
      have u2 : ((r * 65536 : Nat) : Int) + (x : Int) = (y : Int) := by omega
      have u3 : (r : Int) * 65536 + (x : Int) = (y : Int) := by omega
      have HGK := Lib.hid hgk
      have hne : ((n : Int) == 0) = false := by rw [beq_eq_false_iff_ne]; omega
      obtain ⟨z, ez⟩ : ∃ z, z = y / n := ⟨_, rfl⟩
      obtain ⟨m, em⟩ : ∃ m, m = y % n := ⟨_, rfl⟩
      rw [← ez] at HQ hq2
      rw [← em] at HR2
      have t1 : IntKind.u32.wrap ((y : Int) / (n : Int)) = (z : Int) := by
        rw [← Int.natCast_ediv, ← ez, IntKind.wrap_u32]
        omega
      have t1' : (y : Int) / (n : Int) = (z : Int) := by rw [← Int.natCast_ediv, ← ez]
      have t3 : (z : Int) % 4294967296 = (z : Int) := by omega
      have t2 : (y : Int) % (n : Int) = (m : Int) := by rw [em, Int.natCast_emod]
      clear ex er ey hx0 hgk ez em hq2
      go_wp2_with fail
      go_roundw
      case rel => exact ⟨j, by omega, rfl, by first | (rw [t2, HR2.out]; done) | rw [HR2.out], by
        rw [show z = (fun i => if j ≤ i then dig 65536 (A / n) i else 0) j by rw [HQ.out]; exact (if_pos (Nat.le_refl j)).symm]
        refine rowF_set (f' := fun i => if j ≤ i then dig 65536 (A / n) i else 0) HGK.out (fun i _ hi => ?_)
        show (if j + 1 ≤ i then _ else _) = (if j ≤ i then _ else _)
        by_cases h : j ≤ i
        · rw [if_pos h, if_pos (by omega)]
        · rw [if_neg h, if_neg (by omega)], hb.setCell (by simp) _⟩
      case measure => simp [intOf]
end Go.Proofs.Ytnjblppapmflhaa

/- The reference: the decimal text of a form. -/
namespace Go.Proofs.Ytnjblppapmflhaa
set_option linter.all false
open Go.RowKit Go.Shelf Go.WideNum
/-- The lowest k digits as a text. -/
def decS (n k : Nat) : ByteArray := ⟨((decDig n k).reverse.map UInt8.ofNat).toArray⟩
theorem decS_zero (n : Nat) : decS n 0 = ⟨#[]⟩ := rfl
theorem decS_size (n k : Nat) : (decS n k).size = k := by
  show (List.toArray _).size = k
  simp [decDig]
theorem decS_succ (n k : Nat) : (⟨#[UInt8.ofNat (48 + dig 10 n k)]⟩ : ByteArray) ++ decS n k = decS n (k + 1) := by
  apply ByteArray.ext
  unfold decS
  rw [decDig_succ, List.reverse_append, List.map_append]
  simp [ByteArray.data_append]
theorem textB_dec (neg : Bool) (n : Nat) (hn : n ≠ 0) : textB neg n = (if neg then (⟨#[45]⟩ : ByteArray) else ⟨#[]⟩) ++ decS n (words 10 n).length := by
  unfold textB textL textN decS
  rw [if_neg hn]
  apply ByteArray.ext
  cases neg
  · simp [ByteArray.data_append]
  · simp [ByteArray.data_append]
/-- The length of a text in a slot. -/
def lenS : Value → Nat
  | .string s => s.size
  | _ => 0
theorem one_string (d : Nat) (hd : d < 256) (W : World) : (convert 110 9 (.slice (some ⟨W.heap.size, 0, none⟩) 1 1)).run Try.prog (W.alloc (.cells #[.int .u8 (d : Int)] 5)) = .ok (.string ⟨#[UInt8.ofNat d]⟩) (W.alloc (.cells #[.int .u8 (d : Int)] 5)) := by
  have ho : (W.alloc (.cells #[.int .u8 (d : Int)] 5)).owns 0 5 1 (.slice (some ⟨W.heap.size, 0, none⟩) 1 1) 1 ([d].map u8V) :=
    ⟨by simp, .inr ⟨W.heap.size, 1, _, (0, 0), rfl, Nat.zero_le _, heap_alloc_new W _, okFz_zero _, Nat.le_refl _, by unfold maxLen; omega, rfl, by simp [u8V]⟩⟩
  have := own_string ho (by simp; exact hd) 9 (by kernel_rfl)
  simpa using this
theorem field1 (s : Bool) (a : Option Addr) (n c : Nat) (W : World) : (Instr.field 86 (.agg #[.bool s, .slice a n c]) 1).run Try.prog W = .ok (.slice a n c) W := by kernel_rfl
theorem str_facts0 (s : ByteArray) (h0 : s.size ≠ 0) : ¬ s = (⟨#[]⟩ : ByteArray) ∧ s.toList.isEmpty = false := str_facts s h0
theorem str_nil (s : ByteArray) : (⟨#[]⟩ : ByteArray) ++ s = s := by
  apply ByteArray.ext
  simp [ByteArray.data_append]
theorem hw_pos {n : Nat} : 0 < (hw n).length ↔ n ≠ 0 := by
  have := words_len0 (B := 65536) (by omega) n
  unfold hw
  omega
theorem div_ten (n k : Nat) : n / 10 ^ k / 10 = n / 10 ^ (k + 1) := by rw [Nat.pow_succ, Nat.div_div_eq_div_mul]
end Go.Proofs.Ytnjblppapmflhaa

/- The reference: the integer of a text. -/
namespace Go.Proofs.Ytnjblppapmflhaa
set_option linter.all false
open Go.RowKit Go.Shelf Go.WideNum
theorem dec_lenH (l : List UInt8) (h : ∀ c ∈ l, isDig c = true) (hl : l.length ≤ 617) : (hw (decV l)).length ≤ 130 := by
  refine hw_len_le ?_
  exact Nat.lt_trans (Nat.lt_of_lt_of_le (decV_lt l h) (Nat.pow_le_pow_right (by omega) hl)) (by decide +kernel)
theorem num_set0 {W : World} {g : Nat} {u0 u1 : Value} {T : TypeId} (h : W.heap[g]? = some (.cells #[u0, u1] T)) (x : Value) :
    (W.setCell ⟨g, 0, none⟩ x).heap[g]? = some (.cells #[x, u1] T) := by
  simp [World.setCell, Array.getElem?_modify, h]
theorem numH_set0 {W : World} {p n : Nat} {v : Value} {s : Bool} {a : Option Addr} {k c : Nat} {T : TypeId} (h : World.numH W v n) (hp : W.heap[p]? = some (.cells #[.bool s, .slice a k c] T)) (x : Value) :
    World.numH (W.setCell ⟨p, 0, none⟩ x) v n := by
  have h1 := reads_other h hp (noInt_num s a k c) (fun b hb => cell_other (o := 0) hb x)
  have e : (W.setCell ⟨p, 0, none⟩ x).heap.size = W.heap.size := by simp
  show World.reads _ _ _ _
  rw [e]; exact h1
end Go.Proofs.Ytnjblppapmflhaa
