/- Walks: a disk: numbers and their eight bytes. -/
import Derived.Test.YtjfmcobikadjhaaSWe
namespace Go.Proofs.Ytjfmcobikadjhaa
set_option linter.all false
open Go.RowKit Go.Shelf
attribute [local go_sem] xor_wv and_wv or_wv not_wv shl_nf shr_nf shl_8 or_byte or_128
/-- The number of some bytes. -/
def numL (l : List UInt8) : Nat := l.foldl (fun n c => n * 256 + c.toNat) 0
theorem numL_snoc (l : List UInt8) (c : UInt8) : numL (l ++ [c]) = numL l * 256 + c.toNat := by unfold numL; rw [List.foldl_append]; rfl
theorem numF_lt (l : List UInt8) : ∀ n : Nat, l.foldl (fun n c => n * 256 + c.toNat) n < (n + 1) * 256 ^ l.length := by
  induction l with
  | nil => intro n; simp
  | cons c l ih =>
    intro n
    rw [List.foldl_cons, List.length_cons]
    have h1 := ih (n * 256 + c.toNat)
    have hc := c.toNat_lt
    have h2 : (n * 256 + c.toNat + 1) * 256 ^ l.length ≤ ((n + 1) * 256) * 256 ^ l.length := Nat.mul_le_mul_right _ (by omega)
    rw [Nat.pow_succ, Nat.mul_comm (256 ^ l.length), ← Nat.mul_assoc]
    omega
theorem numL_lt (l : List UInt8) : numL l < 256 ^ l.length := by
  have := numF_lt l 0
  simpa [numL] using this
/-- A half's bytes lie in a block. -/
def HalfAt (w : World) (b : Nat) (h : List UInt8) : Prop := ∃ t, w.heap[b]? = some (.cells (h.map byteV).toArray t)
theorem HalfAt.cell {w : World} {b : Nat} {h : List UInt8} (hh : HalfAt w b h) (k : Nat) (x : UInt8) (hx : h[k]? = some x) : w.cell? ⟨b, k, none⟩ = some (byteV x) := by
  obtain ⟨t, ht⟩ := hh
  simp [World.cell?, ht, hx]
theorem HalfAt.below {w w' : World} {b B : Nat} {h : List UInt8} (hh : HalfAt w b h) (hb : Below B w w') (hB : b < B) : HalfAt w' b h := by
  obtain ⟨t, ht⟩ := hh
  exact ⟨t, (hb.block _ hB).trans ht⟩
theorem HalfAt.lt {w : World} {b : Nat} {h : List UInt8} (hh : HalfAt w b h) : b < w.heap.size := by
  obtain ⟨t, ht⟩ := hh
  exact lt_of_heap ht
theorem addr_add (b o j : Nat) : (⟨b, o, none⟩ : Addr).add j = ⟨b, o + j, none⟩ := by
  unfold Addr.add
  split
  · subst_vars; rfl
  · rfl
theorem HalfAt.text {w : World} {b : Nat} {h : List UInt8} (hh : HalfAt w b h) (o n : Nat) (hn : o + n ≤ h.length) (c : Nat) :
    (convert 49 9 (.slice (some ⟨b, o, none⟩) n c)).run Try.prog w = .ok (.string (bytesOf ((h.drop o).take n))) w := by
  have hl : ((h.drop o).take n).length = n := by rw [List.length_take, List.length_drop]; omega
  have := run_convert_bytes_back (P := Try.prog) w 49 9 5 ⟨b, o, none⟩ c ((h.drop o).take n) Try.underlying49 Try.underlying5 Try.underlying9 (fun j hj => by
    rw [hl] at hj
    rw [addr_add]
    exact hh.cell (o + j) (((h.drop o).take n)[j]) (by rw [List.getElem?_eq_getElem (by omega)]; simp))
  rw [hl] at this
  exact this
theorem mod64 (n : Nat) (h : n < 18446744073709551616) : n % 2 ^ 64 = n := Nat.mod_eq_of_lt (by omega)
theorem or_add (n : Nat) (c : UInt8) (h : n * 256 + c.toNat < 18446744073709551616) : bits .or .u64 ((n : Int) * 256) ((c.toNat : Nat) : Int) = ((n * 256 + c.toNat : Nat) : Int) := by
  have hc := c.toNat_lt
  obtain ⟨m, hm⟩ : ∃ m, m = n * 256 := ⟨_, rfl⟩
  obtain ⟨k, hk⟩ : ∃ k, k = c.toNat := ⟨_, rfl⟩
  have e1 : ((n : Int) * 256) = (m : Int) := by omega
  have e2 : m ||| k = m + k := by
    have := Nat.two_pow_add_eq_or_of_lt (i := 8) (b := k) (by omega) n
    rw [hm, Nat.mul_comm n 256]; exact this.symm
  rw [e1, ← hk, ← hm]
  rw [← hk, ← hm] at h
  show IntKind.u64.wrap ((BitVec.ofInt 64 (m : Int) ||| BitVec.ofInt 64 (k : Int)).toNat : Int) = _
  rw [BitVec.ofInt_natCast, BitVec.ofInt_natCast, BitVec.toNat_or, BitVec.toNat_ofNat, BitVec.toNat_ofNat, mod64 m (by omega), mod64 k (by omega), e2, u64_wrap_of_lt, mod64 _ h]
set_option maxRecDepth 100000 in
set_option maxHeartbeats 4000000 in
theorem number_any (b o c : Nat) (h l : List UInt8) (w : World) (hh : HalfAt w b h) (hl : l = (h.drop o).take l.length) (h8 : l.length ≤ 8) :
    Calls Try.prog 47 #[.slice (some ⟨b, o, none⟩) l.length c] w fun e w' => e = .returned (.int .u64 (numL l : Int)) ∧ w = w' := by
  have HL : Hid (∀ (k : Nat) (x : UInt8), l[k]? = some x → w.cell? ⟨b, o + k, none⟩ = some (.int .u8 (x.toNat : Int))) := by
    intro k x hk
    refine hh.cell _ _ ?_
    rw [hl, List.getElem?_take] at hk
    split at hk
    · rw [List.getElem?_drop] at hk; exact hk
    · cases hk
  obtain ⟨m, hm⟩ : ∃ m, m = l.length := ⟨_, rfl⟩
  rw [← hm] at h8 ⊢
  have HM := Lib.hid hm
  clear hh hl hm
  go_enter Try.func47, Try.ntmps47
  go_wp2
  go_loop [3, 8] (fun v i => ∃ k : Nat, k ≤ m ∧ i = .int .i64 (k : Int) ∧ v = .int .u64 (numL (l.take k) : Int)) (fun _ i => m - (intOf i).toNat)
  case atStart => exact ⟨0, Nat.zero_le _, rfl, rfl⟩
  case round =>
    obtain ⟨k, hk, rfl, rfl⟩ := hrel
    by_cases hlt : k < m
    · obtain ⟨x, hx⟩ : ∃ x, l[k]? = some x := ⟨l[k]'(by rw [← HM.out]; exact hlt), List.getElem?_eq_getElem _⟩
      have hc := HL.out k x hx
      have HX : Hid (l.take (k + 1) = l.take k ++ [x]) := by show _ = _; rw [List.take_add_one, hx]; rfl
      have hb1 : numL (l.take k) < 256 ^ 7 := by
        have h1 := numL_lt (l.take k)
        have h2 : (256 : Nat) ^ (l.take k).length ≤ 256 ^ 7 := Nat.pow_le_pow_right (by decide) (by rw [List.length_take, ← HM.out]; omega)
        omega
      obtain ⟨N, hN⟩ : ∃ N, N = numL (l.take k) := ⟨_, rfl⟩
      rw [← hN] at hb1 ⊢
      have HN := Lib.hid hN
      have hxt := x.toNat_lt
      have h256 : (256 : Nat) ^ 7 = 72057594037927936 := by decide
      rw [h256] at hb1
      have hor := or_add N x (by omega)
      have hw1 : IntKind.u64.wrap ((N : Int) * 256) = (N : Int) * 256 := IntWalk.u64_in _ ⟨by omega, by omega⟩
      have hw2 : ((N : Int) * 256) % 18446744073709551616 = (N : Int) * 256 := by omega
      clear hx hN h256
      go_wp2
      go_round
      case rel => exact ⟨k + 1, by omega, by go_num, by rw [HX.out, numL_snoc, ← HN.out]; congr 1⟩
      case measure => simp [intOf]; omega
    · obtain rfl : k = m := by omega
      have HT : Hid (l.take k = l) := by show _ = _; rw [HM.out, List.take_length]
      rw [HT.out]
      go_wp2
      go_ret
      exact ⟨rfl, rfl⟩
def eightTo (x : BitVec 64) (k : Nat) : List UInt8 := wbytes x k ++ List.replicate (8 - k) 0
theorem eightTo_length (x : BitVec 64) (k : Nat) (hk : k ≤ 8) : (eightTo x k).length = 8 := by unfold eightTo; rw [List.length_append, wbytes_length, List.length_replicate]; omega
theorem eightTo_succ (x : BitVec 64) (k : Nat) (hk : k < 8) : (eightTo x k).set k (wbyte x k) = eightTo x (k + 1) := by
  unfold eightTo
  rw [List.set_append, if_neg (by rw [wbytes_length]; omega), wbytes_length, Nat.sub_self, wbytes_succ]
  obtain ⟨m, hm⟩ : ∃ m, 8 - k = m + 1 := ⟨7 - k, by omega⟩
  rw [hm, List.replicate_succ, List.set_cons_zero, show 8 - (k + 1) = m by omega]
  simp
theorem eightTo_all (x : BitVec 64) : eightTo x 8 = wbytes x 8 := by unfold eightTo; simp
theorem eightTo_zero (x : BitVec 64) : ((eightTo x 0).map byteV).toArray = #[.int .u8 0, .int .u8 0, .int .u8 0, .int .u8 0, .int .u8 0, .int .u8 0, .int .u8 0, .int .u8 0] := by
  unfold eightTo wbytes; rfl
theorem half_set {w : World} {b : Nat} {h : List UInt8} {t : TypeId} (hh : w.heap[b]? = some (.cells (h.map byteV).toArray t)) (k : Nat) (x : UInt8) : (w.setCell ⟨b, k, none⟩ (byteV x)).heap[b]? = some (.cells ((h.set k x).map byteV).toArray t) := by
  simp [World.setCell, Array.getElem?_modify, hh, List.map_set]
theorem half_cells {w : World} {b : Nat} {h : List UInt8} {t : TypeId} (hh : w.heap[b]? = some (.cells (h.map byteV).toArray t)) (k : Nat) (hk : k < h.length) : w.cell? ⟨b, k, none⟩ = some (byteV h[k]) ∧ w.frozen? ⟨b, k, none⟩ = false := by
  refine ⟨HalfAt.cell ⟨t, hh⟩ k _ (List.getElem?_eq_getElem hk), by simp [World.frozen?, hh]⟩
set_option maxRecDepth 100000 in
set_option maxHeartbeats 4000000 in
theorem eight_any (x : BitVec 64) (w : World) : Calls Try.prog 24 #[.int .u64 (wv x)] w fun e w' => e = .returned (.string (bytesOf (wbytes x 8))) ∧ Below w.heap.size w w' := by
  go_enter Try.func24, Try.ntmps24
  go_upto_region 2 with (fail)
  rw [← eightTo_zero x]
  obtain ⟨W1, hW1⟩ : ∃ W, W = w.alloc (.cells ((eightTo x 0).map byteV).toArray 71) := ⟨_, rfl⟩
  have g1 : W1.heap[w.heap.size]? = some (.cells ((eightTo x 0).map byteV).toArray 71) := by rw [hW1]; exact alloc_last _ _ rfl
  have hB1 : Below w.heap.size w W1 := by rw [hW1]; exact (Below.refl _ w).alloc (Nat.le_refl _) _
  rw [← hW1]
  clear hW1
  go_wp2_with fail
  go_loopw [5] (fun ii wr => ∃ k : Nat, k ≤ 8 ∧ ii = .int .i64 (k : Int) ∧ Hid (wr.heap[w.heap.size]? = some (.cells ((eightTo x k).map byteV).toArray 71)) ∧ Below w.heap.size w wr) (fun ii _ => 8 - (intOf ii).toNat)
  case atStart => exact ⟨0, by omega, rfl, g1, hB1⟩
  case round =>
    obtain ⟨k, hk, rfl, hg, hBr⟩ := hrel
    by_cases hlt : k < 8
    · obtain ⟨s, hs⟩ : ∃ s : Nat, s = 56 - 8 * k := ⟨_, rfl⟩
      have hsi : 56 - 8 * (k : Int) = (s : Int) := by omega
      obtain ⟨c1, f1⟩ := half_cells hg.out k (by rw [eightTo_length _ _ (by omega)]; exact hlt)
      have HSET := Lib.hid (eightTo_succ x k hlt)
      have HB := Lib.hid (wbyte_num' x k s hs)
      clear hs
      go_wp2
      go_roundw
      case rel =>
        have h := half_set hg.out k (wbyte x k)
        rw [HSET.out] at h
        refine ⟨k + 1, by omega, by go_num, ?_, hBr.setCell (by simp) _⟩
        rw [HB.out]
        exact h
      case measure => simp [intOf]; omega
    · obtain rfl : k = 8 := by omega
      have hcv := HalfAt.text ⟨_, hg.out⟩ 0 8 (by rw [eightTo_length _ _ (by omega)]; omega) 8
      rw [eightTo_all, List.drop_zero, List.take_of_length_le (by rw [wbytes_length]; omega)] at hcv
      go_wp2
      go_ret
      exact ⟨rfl, hBr⟩
end Go.Proofs.Ytjfmcobikadjhaa
