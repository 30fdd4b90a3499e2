/- Walks: the program's sponge. -/
import Derived.RangeFuncNested
import Derived.RangeFuncBound
import Derived.RangeFuncCalls
import Derived.RangeFuncLeaves
import Derived.Shelf.Abstract
import Derived.Shelf.RegionOpen
import Derived.OwnWalkIn
import Derived.TacticsInMore
import Derived.LoopNIn
import Derived.LoopIn
import Derived.Test.YtjfmcobikadjhaaSWa
/- Walks: the iterator over a string's words. -/
namespace Go.Proofs.Ytjfmcobikadjhaa
open Go.RowKit Go.Shelf
attribute [local go_sem] xor_wv and_wv or_wv not_wv shl_nf shr_nf shl_8 or_byte or_128
attribute [local go_sem] Oper.semAt_some
def upto {α : Type} (f : Nat → α) (k : Nat) : List α := (List.range k).map f
theorem upto_succ {α : Type} (f : Nat → α) (k : Nat) : upto f (k + 1) = upto f k ++ [f k] := by simp [upto, List.range_succ]
theorem upto_length {α : Type} (f : Nat → α) (k : Nat) : (upto f k).length = k := by simp [upto]
/-- A block is kept. -/
def KeepB (b : Nat) (W W' : World) : Prop := W'.heap[b]? = W.heap[b]?
set_option maxRecDepth 100000 in
set_option maxHeartbeats 2000000 in
theorem blocks1_in (F : Fence) (n : Nat) (h33 : F.fn 60) (hro : F.round = none) (hn : 1 ≤ n) (l Bs : Nat) (s : ByteArray) (hs : s.size ≤ 140737488351232) (J Jx : List (BitVec 64) → World → Prop)
    (hY : ∀ pre x W, J pre W → pre.length < s.size / 8 + 1 → YieldAt F (n - 1) Try.prog l #[.int .u64 (wv x)] W fun e W' =>
      (e = .returned (.bool true) ∧ J (pre ++ [x]) W' ∧ KeepB Bs W W') ∨ (e = .returned (.bool false) ∧ Jx (pre ++ [x]) W'))
    (W : World) (hBs : W.cell? ⟨Bs, 0, none⟩ = some (.string s)) (h0 : J [] W) :
    CallsIn F n Try.prog 60 #[.func (.yield l) #[] #[], .pointer (some ⟨Bs, 0, none⟩)] W fun e W' => (∃ v, e = .returned v) ∧
      ((∃ ys, ys = words s ∧ J ys W') ∨ (∃ pre, (∃ k, k ≤ s.size / 8 + 1 ∧ pre = upto (word s) k) ∧ Jx pre W')) := by
  refine callsIn_of_wp Try.func60 rfl h33 ?_ hro
  simp only [Try.ntmps60, List.size_toArray, List.length_cons, List.length_nil, Nat.reduceAdd, Nat.reduceSub, Array.replicate_succ, Array.replicate_zero, List.push_toArray, List.append_toArray, List.nil_append, List.cons_append]
  gi_wp2
  gi_loopw [3] (fun i wr => ∃ k : Nat, k ≤ s.size / 8 + 1 ∧ i = .int .i64 (8 * (k : Int)) ∧ J (upto (word s) k) wr ∧ KeepB Bs W wr)
    (fun i _ => s.size + 9 - (intOf i).toNat)
  case atStart => exact ⟨0, Nat.zero_le _, rfl, h0, rfl⟩
  case round =>
    obtain ⟨k, hk, rfl, hJs, hnx⟩ := hrel
    have hc : wr.cell? ⟨Bs, 0, none⟩ = some (.string s) := (World.cell?_of_block (w := W) (a := ⟨Bs, 0, none⟩) hnx).trans hBs
    by_cases hlt : k < s.size / 8 + 1
    · have h8 : 8 * k ≤ s.size := by omega
      have hd : decide (8 * (k : Int) ≤ (s.size : Int)) = true := by simp; omega
      gi_wp2
      gi_loopw [4, 12] (fun v i wx => wx = wr ∧ ∃ m : Nat, m ≤ 8 ∧ i = .int .i64 (m : Int) ∧ v = .int .u64 (wv (wordTo s (8 * k) m))) (fun _ i _ => 8 - (intOf i).toNat)
      case atStart => exact ⟨rfl, 0, Nat.zero_le _, rfl, rfl⟩
      case round =>
        obtain ⟨rfl, m, hm, rfl, rfl⟩ := hrel
        by_cases hm8 : m < 8
        · rcases Nat.lt_trichotomy (8 * k + m) s.size with hj | hj | hj
          · gi_wp2
            go_roundw
            case rel =>
              refine ⟨trivial, m + 1, by omega, by go_num, ?_⟩
              rw [or_byte_wrap, wordTo_in s _ m hj]
            case measure => simp [intOf]; omega
          · gi_wp2
            go_roundw
            case rel =>
              refine ⟨trivial, m + 1, by omega, by go_num, ?_⟩
              rw [wordTo_at s _ m hj]
            case measure => simp [intOf]; omega
          · gi_wp2
            go_roundw
            case rel =>
              refine ⟨trivial, m + 1, by omega, by go_num, ?_⟩
              rw [wordTo_past s _ m hj]
            case measure => simp [intOf]; omega
        · obtain rfl : m = 8 := by omega
          obtain ⟨fn, tmps, assign, body, hy, hR⟩ := hY _ (word s k) wr hJs (by rw [upto_length]; exact hlt)
          have hy' : (Instr.yield l #[.int .u64 (wv (wordTo s (8 * k) 8))]).run Try.prog wr = .ok (.round l fn tmps assign body) wr := hy
          clear hy
          gi_wp2
          refine hR.mono ?_
          rintro e W3 (⟨rfl, hJ3, hk3⟩ | ⟨rfl, hJx3⟩)
          · gi_wp2
            go_roundw
            case rel => exact ⟨k + 1, by omega, by go_num, by rw [upto_succ]; exact hJ3, hk3.trans hnx⟩
            case measure => simp [intOf]; omega
          · gi_wp2
            refine bodyPost_ret (results_none rfl _ _ _) rfl ?_
            exact ⟨⟨_, rfl⟩, .inr ⟨_, ⟨k + 1, by omega, (upto_succ _ _).symm⟩, hJx3⟩⟩
    · obtain rfl : k = s.size / 8 + 1 := by omega
      have h8 : s.size < 8 * (s.size / 8 + 1) := by omega
      gi_wp2
      go_end0
      exact ⟨⟨_, rfl⟩, .inl ⟨_, rfl, hJs⟩⟩
theorem upto_take {α : Type} (f : Nat → α) (N : Nat) {k : Nat} (hk : k ≤ N) : upto f k <+: upto f N := by
  refine ⟨(List.range' k (N - k)).map f, ?_⟩
  unfold upto
  rw [← List.map_append]
  congr 1
  have := List.range'_append (s := 0) (m := k) (n := N - k) (step := 1)
  simp only [Nat.zero_add, Nat.one_mul] at this
  rw [List.range_eq_range', List.range_eq_range', this]
  congr 1; omega
set_option maxHeartbeats 1000000 in
theorem blocks_in (F : Fence) (n : Nat) (h29 : F.fn 55) (hro : F.round = none) (s : ByteArray) (w : World) :
    CallsIn F n Try.prog 55 #[.string s] w fun e w' => e = .returned (.func (.func 60) #[] #[.pointer (some ⟨w.heap.size, 0, none⟩)]) ∧ w' = w.alloc (.cells #[.string s] 9) := by
  refine callsIn_of_wp Try.func55 rfl h29 ?_ hro
  simp only [Try.ntmps55, List.size_toArray, List.length_cons, List.length_nil, Nat.reduceAdd, Nat.reduceSub, Array.replicate_succ, Array.replicate_zero, List.push_toArray, List.append_toArray, List.nil_append, List.cons_append]
  gi_wp2
  go_ret
  exact ⟨rfl, rfl⟩
theorem blocks_stops (F : Fence) (n : Nat) (h33 : F.fn 60) (hro : F.round = none) (hn : 1 ≤ n) (Bs : Nat) (s : ByteArray) (hs : s.size ≤ 140737488351232) (w : World) (hBs : Bs < w.heap.size)
    (hc : w.cell? ⟨Bs, 0, none⟩ = some (.string s)) :
    SeqStopsK F n Try.prog 60 #[.pointer (some ⟨Bs, 0, none⟩)] (fun x : BitVec 64 => #[Value.int .u64 (wv x)]) (KeepB Bs) (fun ys => ys = words s) (fun pre => pre <+: words s) (s.size / 8 + 1) w := fun l J Jx W hW _ _ hY h0 => by
  have hc' := (hW.cell (p := ⟨Bs, 0, none⟩) hBs).trans hc
  refine (blocks1_in F n h33 hro hn l Bs s hs J Jx hY W hc' h0).mono ?_
  rintro e W' ⟨he, ⟨ys, rfl, hj⟩ | ⟨pre, ⟨k, hk, rfl⟩, hj⟩⟩
  · exact ⟨he, .inl ⟨_, rfl, hj⟩⟩
  · exact ⟨he, .inr ⟨_, upto_take (word s) _ hk, hj⟩⟩
theorem keepB_t {b : Nat} {A B C : World} (h : KeepB b A B) (k : KeepB b B C) : KeepB b A C := Eq.trans k h
theorem keepB_b {b : Nat} {w : World} (hb : b < w.heap.size) (W : World) (l : Nat) (o o' : Obj) (hl : w.heap.size ≤ l) (h : W.heap[l]? = some o) (_ : o.isCells = false) (_ : o.isWalk = false) : KeepB b W (W.putObj l o') :=
  (grownBy_putObj' W l o').block b (by have := lt_of_heap h; omega) (fun e => by cases e; omega)
end Go.Proofs.Ytjfmcobikadjhaa

/- Walks: the program's sponge. -/
namespace Go.Proofs.Ytjfmcobikadjhaa
open Go.RowKit Go.Shelf
attribute [local go_sem] xor_wv and_wv or_wv not_wv shl_nf shr_nf shl_8 or_byte or_128
attribute [local go_sem] Oper.semAt_some
theorem init_word (kd : Nat) (hk : kd ≤ 1) : IntKind.u64.wrap (8026104356937031936 + (kd : Int)) = wv (wof (letters + kd)) := by
  have : kd = 0 ∨ kd = 1 := by omega
  rcases this with rfl | rfl <;> decide +kernel
theorem permute_12 (s : St) (w : World) :
    Calls Try.prog 54 #[s.val, .int .i64 12] w fun e w' => e = .returned (St.perm 12 s).val ∧ Below w.heap.size w w' := permute_any s 12 (by omega) w
theorem permute_init (x : BitVec 64) (w : World) :
    Calls Try.prog 54 #[.agg #[.int .u64 (wv x), .int .u64 0, .int .u64 0, .int .u64 0, .int .u64 0], .int .i64 12] w fun e w' => e = .returned (St.perm 12 ⟨x, wof 0, wof 0, wof 0, wof 0⟩).val ∧ Below w.heap.size w w' :=
  permute_12 ⟨x, wof 0, wof 0, wof 0, wof 0⟩ w
theorem absorb_snoc (x : St) (l : List (BitVec 64)) (w : BitVec 64) : St.absorb x (l ++ [w]) = St.perm 12 { St.absorb x l with a := wxor (St.absorb x l).a w } := by
  induction l generalizing x with
  | nil => rfl
  | cons v l ih => exact ih _
theorem wide_all (i : Nat) : Fence.wide.fn i := trivial
theorem Try.info5 : (Try.prog.info? 5).map (fun i => (i.zero, i.size, i.bytes)) = some (some (.int .u8 0), 1, 1) := by kernel_rfl
set_option maxRecDepth 100000 in
set_option maxHeartbeats 2000000 in
theorem run_any (s : ByteArray) (hs : s.size ≤ 140737488351232) (kd n : Nat) (hk : kd ≤ 1) (hn : n ≤ 1048576) (w : World) :
    Calls Try.prog 43 #[.string s, .int .u64 (kd : Int), .int .i64 (n : Int)] w fun e w' => e = .returned (.string (runB s kd n)) ∧ Below w.heap.size w w' := by
  refine (callsIn_wide (n := 5)).1 ?_
  have hi := init_word kd hk
  refine callsIn_of_wp_marks Try.func43 rfl trivial ?_ rfl
  simp only [Try.ntmps43, List.size_toArray, List.length_cons, List.length_nil, Nat.reduceAdd, Nat.reduceSub, Array.replicate_succ, Array.replicate_zero, List.push_toArray, List.append_toArray, List.nil_append, List.cons_append]
  gi_wp2_with fail
  refine ⟨trivial, (callsIn_wide.2 (permute_init _ _)).mono ?_⟩
  rintro e w1 ⟨rfl, hb1⟩
  clear hi
  have hS : ∃ S : St, S = St.perm 12 ⟨wof (letters + kd), wof 0, wof 0, wof 0, wof 0⟩ := ⟨_, rfl⟩
  obtain ⟨S, hS⟩ := hS
  rw [← hS]
  have HS := Lib.hid hS
  clear hS
  gi_wp2_with fail
  refine ⟨trivial, (blocks_in Fence.wide _ trivial rfl s _).mono ?_⟩
  rintro e w2 ⟨rfl, rfl⟩
  have h1s := hb1.size
  have hW2 : Below w.heap.size w ((w1.alloc (.cells S.cells 82)).alloc (.cells #[.string s] 9)) := (hb1.alloc h1s _).alloc (by simp; omega) _
  have hcB : ((w1.alloc (.cells S.cells 82)).alloc (.cells #[.string s] 9)).heap[w1.heap.size]? = some (.cells S.cells 82) := by
    rw [Below.heap_alloc _ _ _ (by simp)]; exact alloc_last _ _ rfl
  have hcs : ((w1.alloc (.cells S.cells 82)).alloc (.cells #[.string s] 9)).cell? ⟨w1.heap.size + 1, 0, none⟩ = some (.string s) := by
    simp
  gi_wp2_with fail
  obtain ⟨W2, hW2e⟩ : ∃ W2, (w1.alloc (.cells S.cells 82)).alloc (.cells #[.string s] 9) = W2 := ⟨_, rfl⟩
  have hz2 : W2.heap.size = w1.heap.size + 1 + 1 := by rw [← hW2e]; simp
  rw [hW2e] at hW2 hcB hcs
  change Code.wpIn _ _ _ _ _ _ ((w1.alloc (.cells S.cells 82)).alloc (.cells #[.string s] 9))
  rw [hW2e]
  have HZ := Lib.hid hz2
  clear hz2 hW2e
  refine wpIn_rangeFunc_ownF rfl (by omega) (gf := 60) (lb := #[.pointer (some ⟨w1.heap.size + 1, 0, none⟩)]) rfl trivial (enters_of Try.func60 (by kernel_rfl) rfl)
    (blocks_stops Fence.wide _ trivial rfl (by omega) (w1.heap.size + 1) s hs W2 (by rw [HZ.out]; omega) hcs) keepB_t (keepB_b (by rw [HZ.out]; omega)) (Below.refl _ _) (fun _ => rfl)
    (fun pre W => W.heap[w1.heap.size]? = some (.cells (St.absorb S pre).cells 82) ∧ Below w.heap.size w W ∧ w1.heap.size + 1 < W.heap.size)
    (fun _ _ _ => False)
    (fun q A A' row hs hg hr => ⟨(grownBy_keeps_cells hg (fun r e => (hr r e).2) hs.1 rfl).trans hs.1, (ownFrom_below (β := List (BitVec 64)) (Nat.le_refl _) hW2.size) q A A' row hs.2.1 hg hr, Nat.lt_of_lt_of_le hs.2.2 hg.size⟩)
    (fun _ _ _ _ _ hs _ _ => hs)
    ⟨hcB, hW2, by rw [HZ.out]; omega⟩
    (fun x => { tmps := #[Value.string s, Value.int IntKind.u64 ↑kd, Value.int IntKind.i64 ↑n, undef, undef, undef, Value.string { data := #[] }, Value.pointer (some { block := w1.heap.size, off := 0 }), Value.int IntKind.u64 (wv x), undef, undef, Value.int IntKind.u64 ↑kd, Value.int IntKind.u64 (wv (wof (letters + ↑kd))), Value.agg #[Value.int IntKind.u64 (wv (wof (letters + ↑kd))), Value.int IntKind.u64 0, Value.int IntKind.u64 0, Value.int IntKind.u64 0, Value.int IntKind.u64 0], S.val, Value.string s, Value.func (Fn.func 60) #[] #[Value.pointer (some { block := w1.heap.size + 1, off := 0 })], Value.int IntKind.u64 (wv x), undef, undef, undef, undef, undef, undef, undef, undef, undef, undef, undef, undef, undef, undef, undef, undef, undef, undef, undef, undef, undef, undef, undef, undef, undef, undef, undef, undef, undef, undef, undef, undef], defers := [] }) ?assign ?body ?done ?stop
  case assign =>
    intro l x W K hK
    gi_wp2
    exact hK
  case body =>
    rintro l pre x W ⟨h0, hB, hz5⟩ _
    obtain ⟨y, hy⟩ : ∃ y, y = St.absorb S pre := ⟨_, rfl⟩
    rw [← hy] at h0
    have Hy := Lib.hid hy
    clear hy
    obtain ⟨c0, c1, c2, c3, c4, f0, f1, f2, f3, f4, z0⟩ := five_cells h0
    gi_wp2_with fail
    refine ⟨trivial, CallsIn.inRound l ((callsIn_wide.2 (permute_12 { y with a := wxor y.a x } _)).mono ?_)⟩
    rintro e w3 ⟨rfl, hb3⟩
    obtain ⟨hc, hf⟩ := bcell hb3
    have hk3 : KeepsOthers W w3 := (KeepsOthers.setCell _ _ _).trans ⟨hb3.size, fun k o hk _ => by rw [hb3.block k (lt_of_heap hk)]; exact hk⟩
    have hB3 : Below w.heap.size w w3 := (hB.setCell (p := ⟨w1.heap.size, 0, none⟩) h1s _).trans (hb3.mono (by simp; omega))
    have hq3 : w3.heap[w1.heap.size]? = some (.cells #[.int .u64 (wv (wxor y.a x)), .int .u64 (wv y.b), .int .u64 (wv y.c), .int .u64 (wv y.d), .int .u64 (wv y.e)] 82) := by
      rw [hb3.block _ (by simpa using z0)]; simp [World.setCell, Array.getElem?_modify, h0]
    have hq4 : w3.heap[w1.heap.size + 1]? = W.heap[w1.heap.size + 1]? := by
      rw [hb3.block _ (by simpa using hz5)]; exact Below.heap_setCell _ _ _ _ (by simp)
    gi_wp2
    refine ⟨?_, ?_, ?_, ?_, ?_⟩
    · refine hk3.trans ?_
      repeat (with_reducible first | exact KeepsOthers.refl _ | exact KeepsOthers.setCell _ _ _ | refine KeepsOthers.trans ?_ (KeepsOthers.setCell _ _ _))
    · show _ = _
      iterate 5 rw [Below.heap_setCell _ _ _ _ (by simp)]
      exact hq4
    · rw [absorb_snoc, ← Hy.out]; exact set_five hq3
    · repeat (with_reducible first | apply below_drewN | apply Below.drew | refine Below.setCell ?_ (by first | (simp; done) | (simp; omega)) _ | refine Below.alloc ?_ (by first | (simp; done) | (simp; omega)) _ | assumption | exact Below.refl _ _)
    · have := hb3.size; simp at this ⊢; omega
  case done =>
    rintro D ys W hD rfl ⟨h0, hB, hz5⟩ hK
    obtain ⟨S0, hS0⟩ : ∃ S0, S0 = St.absorb S (words s) := ⟨_, rfl⟩
    rw [← hS0] at h0
    have HS0 := Lib.hid hS0
    clear hS0
    obtain ⟨i0, hi0, hz0, hz1, hz2⟩ := info_parts Try.info5
    have hWs := lt_of_heap h0
    have hWD := lt_of_heap hK
    have hDB : w1.heap.size < D := by have := HZ.out; omega
    gi_wp2_with (refine wpListIn_make_own _ rfl _ _ 49 rfl W.heap.size 5 i0 (.int .u8 0) 1 Try.underlying49 hi0 hz0 hz1 .i64 .i64 ((n : Int) + 8) (n + 8) rfl rfl (by simp) (by rw [hz2]; omega) (by unfold maxLen; omega) (Nat.le_refl _) ?_; intro wm hown hgm)
    have hBm : Below w.heap.size w wm := hB.grown hgm hB.size (fun k e => by cases e)
    have h0m : wm.heap[w1.heap.size]? = some (.cells S0.cells 82) := (hgm.block _ hWs (by simp)).trans h0
    have hKm : wm.heap[D]? = some (.deferred (some [])) := (hgm.block _ hWD (by simp)).trans hK
    have hsm := hgm.size
    gi_loopw [9] (fun v9 wx => ∃ j g cap : Nat, 8 * j < n + 8 ∧ 0 < cap ∧ v9 = .slice (some ⟨g, 0, none⟩) (8 * j) cap ∧ wx.ownsRow W.heap.size 5 1 v9 (8 * j) ((St.squeeze S0 j).map byteV) ∧
      wx.heap[w1.heap.size]? = some (.cells (St.iter S0 j).cells 82) ∧ wx.heap[D]? = some (.deferred (some [])) ∧ Below w.heap.size w wx ∧ W.heap.size ≤ wx.heap.size) (fun v9 _ => n + 8 - lenOf v9)
    case atStart => exact ⟨0, _, _, by omega, by omega, rfl, hown, h0m, hKm, hBm, hsm⟩
    case round =>
      obtain ⟨j, g, cap, hj, hcp, rfl, how, h0w, hKw, hBw, hsw⟩ := hrel
      obtain ⟨y, hy⟩ : ∃ y, y = St.iter S0 j := ⟨_, rfl⟩
      rw [← hy] at h0w
      have Hy := Lib.hid hy
      clear hy
      obtain ⟨_, hjc, hbg, hcm⟩ := ownsRow_cap how
      by_cases hlt : 8 * j < n
      · have hdl : decide ((8 * (j : Int)) < (n : Int)) = true := by simp; omega
        gi_wp2
        obtain ⟨wo, rfl⟩ : ∃ wo : World, wo = wr := ⟨_, rfl⟩
        gi_loopw [9, 10] (fun v9 v10 wx => ∃ i g cap : Nat, i ≤ 8 ∧ 0 < cap ∧ v10 = .int .i64 (56 - 8 * (i : Int)) ∧ v9 = .slice (some ⟨g, 0, none⟩) (8 * j + i) cap ∧ wx.ownsRow W.heap.size 5 1 v9 (8 * j + i) ((St.squeeze S0 j ++ wbytes y.a i).map byteV) ∧
          wx.heap[w1.heap.size]? = some (.cells y.cells 82) ∧ wx.heap[D]? = some (.deferred (some [])) ∧ Below w.heap.size w wx ∧ W.heap.size ≤ wx.heap.size) (fun _ v10 _ => (intOf v10 + 64).toNat)
        case atStart => exact ⟨0, g, cap, by omega, hcp, rfl, rfl, by simpa [wbytes] using how, h0w, hKw, hBw, hsw⟩
        case round =>
          obtain ⟨i, g, cap, hi, hcp, rfl, rfl, how, h0w, hKw, hBw, hsw⟩ := hrel
          obtain ⟨c0, c1, c2, c3, c4, f0, f1, f2, f3, f4, z0⟩ := five_cells h0w
          by_cases hi8 : i < 8
          · gi_wp2_with (gi_at_builtin; refine wpListIn_append_own _ rfl (.tmp 36) (.tmp 42) 49 rfl W.heap.size 5 i0 (.int .u8 0) 1 1 Try.underlying49 hi0 hz0 hz1 hz2 rfl (by decide) _ (8 * j + i) _ rfl (how.alloc _) ⟨wr.heap.size, 0, none⟩ 1 1 _ rfl rfl (cell_one_new _ _ _) (by simp [Value.oneCell']) (by unfold maxLen; omega) (by omega) (by simp; omega) ?_; intro v' w4 hown' hgrow _)
            obtain ⟨g', cap', rfl⟩ := ownsRow_succ hown'
            have hgr : (wr.alloc (.cells #[.int .u8 (wv (wshr y.a (56 - 8 * i)) % 256)] 5)).grownBy w4 (some g) := hgrow
            obtain ⟨_, _, hbg2, _⟩ := ownsRow_cap how
            refine ⟨⟨i + 1, g', cap', by omega, ?_, by go_num, rfl, ?_, ?_, ?_, ?_, ?_⟩, by simp [intOf]; omega⟩
            · obtain ⟨_, h, _, _⟩ := ownsRow_cap hown'; omega
            · rw [wbytes_succ, ← List.append_assoc, List.map_append]
              rw [wbyte_num' _ _ _ rfl] at hown'
              exact hown'
            · rw [hgr.block _ (by simp; omega) (by simp; omega), Below.heap_alloc _ _ _ z0]; exact h0w
            · rw [hgr.block _ (by simp; have := lt_of_heap hKw; omega) (by simp; omega), Below.heap_alloc _ _ _ (lt_of_heap hKw)]; exact hKw
            · exact (hBw.alloc hBw.size _).grown hgr (by have := hBw.size; simp; omega) (fun k e => by cases e; have := hB.size; omega)
            · have := hgr.size; simp at this; omega
          · obtain rfl : i = 8 := by omega
            gi_wp2_with fail
            refine ⟨trivial, (callsIn_wide.2 (permute_12 y _)).mono ?_⟩
            rintro e w5 ⟨rfl, hb5⟩
            obtain ⟨hc, hf⟩ := bcell hb5
            gi_wp2
            go_roundw
            case rel =>
              refine ⟨j + 1, g, cap, by omega, hcp, by go_num, ?_, ?_, ?_, ?_, ?_⟩
              · have h5 := ownsRow_of_below how hb5
                iterate 5 refine ownsRow_setCell_below ?_ (by simpa using hWs) _
                rw [St.squeeze, ← Hy.out]; exact h5
              · rw [St.iter, ← Hy.out]; exact set_five (by rw [hb5.block _ z0]; exact h0w)
              · iterate 5 rw [Below.heap_setCell _ _ _ _ (by simp; omega)]
                rw [hb5.block _ (lt_of_heap hKw)]; exact hKw
              · have hB5 := hBw.trans (hb5.mono hBw.size)
                repeat (with_reducible first | apply below_drewN | apply Below.drew | refine Below.setCell ?_ (by first | (simp; done) | (simp; omega)) _ | refine Below.alloc ?_ (by first | (simp; done) | (simp; omega)) _ | assumption | exact Below.refl _ _)
              · have := hb5.size; simp; omega
            case measure => simp [lenOf]; omega
      · have hle : n ≤ 8 * j := by omega
        have hnc : n ≤ cap := by omega
        have hdl : decide ((8 * (j : Int)) < (n : Int)) = false := by simp; omega
        have hcv := run_row_string (P := Try.prog) (w := wr) (m := n) 49 9 5 Try.underlying49 Try.underlying5 Try.underlying9 how (by rw [squeeze_length]; exact hle) cap
        gi_wp2
        refine ⟨by simp, .inl ⟨_, _, rfl, run_takeDeferred hKw, ?_⟩⟩
        refine ⟨_, results_tmp rfl _ _ _, ?_, hBw.trans (belowK_b (w := w) (Nat.le_refl _) wr D _ _ ?_ hKw rfl rfl)⟩
        · have hj' : (n + 7) / 8 = j := by omega
          show Ending.returned (.string (bytesOf ((St.squeeze S0 j).take n))) = _
          rw [runB, hj', HS0.out, HS.out]; rfl
        · have := hW2.size; omega
  case stop =>
    rintro D c pre W _ _ h _
    exact h.elim
end Go.Proofs.Ytjfmcobikadjhaa

/- Walks: the small callers, and the kit's functions. -/
namespace Go.Proofs.Ytjfmcobikadjhaa
open Go.RowKit
theorem Short_any (s : ByteArray) (hs : s.size ≤ 140737488351232) (w : World) :
    Calls Try.prog 25 #[.string s] w fun e w' => e = .returned (.string (runB s 0 8)) ∧ Below w.heap.size w w' := by
  go_enter Try.func25, Try.ntmps25
  go_wp2_with fail
  refine (run_any s hs 0 8 (by omega) (by omega) _).mono ?_
  rintro e w' ⟨rfl, hb⟩
  go_wp2
  go_ret
  exact ⟨rfl, hb⟩
end Go.Proofs.Ytjfmcobikadjhaa
