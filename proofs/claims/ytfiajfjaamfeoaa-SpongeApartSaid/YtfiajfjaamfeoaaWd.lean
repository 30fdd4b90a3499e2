/- Walks: the iterator over a string's words. -/
import Derived.Test.YtfiajfjaamfeoaaPlain
import Derived.Test.YtfiajfjaamfeoaaProg
import Derived.Test.YtfiajfjaamfeoaaReg
import Derived.RangeFuncNested
import Derived.RangeFuncBound
import Derived.RangeFuncCalls
import Derived.RangeFuncLeaves
import Derived.Shelf.Abstract
import Derived.Shelf.RegionOpen
import Derived.OwnWalkIn
import Derived.TacticsInMore
import Derived.LoopNIn
import Derived.LoopIn
namespace Go.Proofs.Ytfiajfjaamfeoaa
open Go.RowKit Go.Shelf
attribute [local go_sem] xor_wv and_wv or_wv not_wv shl_nf shr_nf shl_8 or_byte or_128
attribute [local go_sem] Oper.semAt_some
def upto {α : Type} (f : Nat → α) (k : Nat) : List α := (List.range k).map f
theorem upto_succ {α : Type} (f : Nat → α) (k : Nat) : upto f (k + 1) = upto f k ++ [f k] := by simp [upto, List.range_succ]
theorem upto_length {α : Type} (f : Nat → α) (k : Nat) : (upto f k).length = k := by simp [upto]
/-- A block is kept. -/
def KeepB (b : Nat) (W W' : World) : Prop := W'.heap[b]? = W.heap[b]?
set_option maxRecDepth 100000 in
set_option maxHeartbeats 2000000 in
theorem blocks1_in (F : Fence) (n : Nat) (h33 : F.fn 33) (hro : F.round = none) (hn : 1 ≤ n) (l Bs : Nat) (s : ByteArray) (hs : s.size ≤ 140737488351232) (J Jx : List (BitVec 64) → World → Prop)
    (hY : ∀ pre x W, J pre W → pre.length < s.size / 8 + 1 → YieldAt F (n - 1) Try.prog l #[.int .u64 (wv x)] W fun e W' =>
      (e = .returned (.bool true) ∧ J (pre ++ [x]) W' ∧ KeepB Bs W W') ∨ (e = .returned (.bool false) ∧ Jx (pre ++ [x]) W'))
    (W : World) (hBs : W.cell? ⟨Bs, 0, none⟩ = some (.string s)) (h0 : J [] W) :
    CallsIn F n Try.prog 33 #[.func (.yield l) #[] #[], .pointer (some ⟨Bs, 0, none⟩)] W fun e W' => (∃ v, e = .returned v) ∧
      ((∃ ys, ys = words s ∧ J ys W') ∨ (∃ pre, (∃ k, k ≤ s.size / 8 + 1 ∧ pre = upto (word s) k) ∧ Jx pre W')) := by
  refine callsIn_of_wp Try.func33 rfl h33 ?_ hro
  simp only [Try.ntmps33, List.size_toArray, List.length_cons, List.length_nil, Nat.reduceAdd, Nat.reduceSub, Array.replicate_succ, Array.replicate_zero, List.push_toArray, List.append_toArray, List.nil_append, List.cons_append]
  gi_wp2
  gi_loopw [3] (fun i wr => ∃ k : Nat, k ≤ s.size / 8 + 1 ∧ i = .int .i64 (8 * (k : Int)) ∧ J (upto (word s) k) wr ∧ KeepB Bs W wr)
    (fun i _ => s.size + 9 - (intOf i).toNat)
  case atStart => exact ⟨0, Nat.zero_le _, rfl, h0, rfl⟩
  case round =>
    obtain ⟨k, hk, rfl, hJs, hnx⟩ := hrel
    have hc : wr.cell? ⟨Bs, 0, none⟩ = some (.string s) := (World.cell?_of_block (w := W) (a := ⟨Bs, 0, none⟩) hnx).trans hBs
    by_cases hlt : k < s.size / 8 + 1
    · have h8 : 8 * k ≤ s.size := by omega
      have hd : decide (8 * (k : Int) ≤ (s.size : Int)) = true := by simp; omega
      gi_wp2
      gi_loopw [4, 12] (fun v i wx => wx = wr ∧ ∃ m : Nat, m ≤ 8 ∧ i = .int .i64 (m : Int) ∧ v = .int .u64 (wv (wordTo s (8 * k) m))) (fun _ i _ => 8 - (intOf i).toNat)
      case atStart => exact ⟨rfl, 0, Nat.zero_le _, rfl, rfl⟩
      case round =>
        obtain ⟨rfl, m, hm, rfl, rfl⟩ := hrel
        by_cases hm8 : m < 8
        · rcases Nat.lt_trichotomy (8 * k + m) s.size with hj | hj | hj
          · gi_wp2
            go_roundw
            case rel =>
              refine ⟨trivial, m + 1, by omega, by go_num, ?_⟩
              rw [or_byte_wrap, wordTo_in s _ m hj]
            case measure => simp [intOf]; omega
          · gi_wp2
            go_roundw
            case rel =>
              refine ⟨trivial, m + 1, by omega, by go_num, ?_⟩
              rw [wordTo_at s _ m hj]
            case measure => simp [intOf]; omega
          · gi_wp2
            go_roundw
            case rel =>
              refine ⟨trivial, m + 1, by omega, by go_num, ?_⟩
              rw [wordTo_past s _ m hj]
            case measure => simp [intOf]; omega
        · obtain rfl : m = 8 := by omega
          obtain ⟨fn, tmps, assign, body, hy, hR⟩ := hY _ (word s k) wr hJs (by rw [upto_length]; exact hlt)
          have hy' : (Instr.yield l #[.int .u64 (wv (wordTo s (8 * k) 8))]).run Try.prog wr = .ok (.round l fn tmps assign body) wr := hy
          clear hy
          gi_wp2
          refine hR.mono ?_
          rintro e W3 (⟨rfl, hJ3, hk3⟩ | ⟨rfl, hJx3⟩)
          · gi_wp2
            go_roundw
            case rel => exact ⟨k + 1, by omega, by go_num, by rw [upto_succ]; exact hJ3, hk3.trans hnx⟩
            case measure => simp [intOf]; omega
          · gi_wp2
            refine bodyPost_ret (results_none rfl _ _ _) rfl ?_
            exact ⟨⟨_, rfl⟩, .inr ⟨_, ⟨k + 1, by omega, (upto_succ _ _).symm⟩, hJx3⟩⟩
    · obtain rfl : k = s.size / 8 + 1 := by omega
      have h8 : s.size < 8 * (s.size / 8 + 1) := by omega
      gi_wp2
      go_end0
      exact ⟨⟨_, rfl⟩, .inl ⟨_, rfl, hJs⟩⟩
theorem upto_take {α : Type} (f : Nat → α) (N : Nat) {k : Nat} (hk : k ≤ N) : upto f k <+: upto f N := by
  refine ⟨(List.range' k (N - k)).map f, ?_⟩
  unfold upto
  rw [← List.map_append]
  congr 1
  have := List.range'_append (s := 0) (m := k) (n := N - k) (step := 1)
  simp only [Nat.zero_add, Nat.one_mul] at this
  rw [List.range_eq_range', List.range_eq_range', this]
  congr 1; omega
set_option maxHeartbeats 1000000 in
theorem blocks_in (F : Fence) (n : Nat) (h29 : F.fn 29) (hro : F.round = none) (s : ByteArray) (w : World) :
    CallsIn F n Try.prog 29 #[.string s] w fun e w' => e = .returned (.func (.func 33) #[] #[.pointer (some ⟨w.heap.size, 0, none⟩)]) ∧ w' = w.alloc (.cells #[.string s] 9) := by
  refine callsIn_of_wp Try.func29 rfl h29 ?_ hro
  simp only [Try.ntmps29, List.size_toArray, List.length_cons, List.length_nil, Nat.reduceAdd, Nat.reduceSub, Array.replicate_succ, Array.replicate_zero, List.push_toArray, List.append_toArray, List.nil_append, List.cons_append]
  gi_wp2
  go_ret
  exact ⟨rfl, rfl⟩
theorem blocks_stops (F : Fence) (n : Nat) (h33 : F.fn 33) (hro : F.round = none) (hn : 1 ≤ n) (Bs : Nat) (s : ByteArray) (hs : s.size ≤ 140737488351232) (w : World) (hBs : Bs < w.heap.size)
    (hc : w.cell? ⟨Bs, 0, none⟩ = some (.string s)) :
    SeqStopsK F n Try.prog 33 #[.pointer (some ⟨Bs, 0, none⟩)] (fun x : BitVec 64 => #[Value.int .u64 (wv x)]) (KeepB Bs) (fun ys => ys = words s) (fun pre => pre <+: words s) (s.size / 8 + 1) w := fun l J Jx W hW _ _ hY h0 => by
  have hc' := (hW.cell (p := ⟨Bs, 0, none⟩) hBs).trans hc
  refine (blocks1_in F n h33 hro hn l Bs s hs J Jx hY W hc' h0).mono ?_
  rintro e W' ⟨he, ⟨ys, rfl, hj⟩ | ⟨pre, ⟨k, hk, rfl⟩, hj⟩⟩
  · exact ⟨he, .inl ⟨_, rfl, hj⟩⟩
  · exact ⟨he, .inr ⟨_, upto_take (word s) _ hk, hj⟩⟩
theorem keepB_t {b : Nat} {A B C : World} (h : KeepB b A B) (k : KeepB b B C) : KeepB b A C := Eq.trans k h
theorem keepB_b {b : Nat} {w : World} (hb : b < w.heap.size) (W : World) (l : Nat) (o o' : Obj) (hl : w.heap.size ≤ l) (h : W.heap[l]? = some o) (_ : o.isCells = false) (_ : o.isWalk = false) : KeepB b W (W.putObj l o') :=
  (grownBy_putObj' W l o').block b (by have := lt_of_heap h; omega) (fun e => by cases e; omega)
end Go.Proofs.Ytfiajfjaamfeoaa
