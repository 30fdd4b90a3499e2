/- Walks: the round and the permutation. -/
import Derived.Deep.QuietTactic
import Derived.BigQuiet
import Derived.Lib.Hide
import Derived.StillTailTactics
import Derived.WalkSmall
import Derived.Deep.DeepCutAuto
import Derived.Test.YtjfmcobikadjhaaProg
import Derived.Test.YtjfmcobikadjhaaSPl
/- Walks of the small functions. -/
namespace Go.Proofs.Ytjfmcobikadjhaa
open Go.RowKit
attribute [local go_sem] xor_wv and_wv or_wv not_wv shl_nf shr_nf
set_option maxHeartbeats 400000 in
theorem rotl_any (x : BitVec 64) (a : Int) (ha : 0 < a ∧ a < 64) (w : World) :
    Calls Try.prog 63 #[.int .u64 (wv x), .int .i64 (-a)] w fun e w' => e = .returned (.int .u64 (wv (rotr x a.toNat))) ∧ w = w' := by
  have h1 := and63 a ha
  go_enter Try.func63, Try.ntmps63
  go_wp2
  go_ret
  refine ⟨?_, rfl⟩
  show Ending.returned (.int .u64 (wv (wor _ _))) = _
  rw [rotr, wor_comm]
  have e : (64 - (64 - a)).toNat = a.toNat := by omega
  have e' : (64 - a).toNat = 64 - a.toNat := by omega
  rw [e', e]
theorem rotl_k (x : BitVec 64) (k a : Int) (hk : k = -a) (ha : 0 < a ∧ a < 64) (w : World) :
    Calls Try.prog 63 #[.int .u64 (wv x), .int .i64 k] w fun e w' => e = .returned (.int .u64 (wv (rotr x a.toNat))) ∧ w = w' := by
  subst hk; exact rotl_any x a ha w
theorem rot_any (x : BitVec 64) (a : Int) (ha : 0 < a ∧ a < 64) (w : World) :
    Calls Try.prog 64 #[.int .u64 (wv x), .int .i64 a] w fun e w' => e = .returned (.int .u64 (wv (rotr x a.toNat))) ∧ ∃ n, w' = w.drewN n := by
  have h4 : IntKind.i64.wrap (64 - a) = 64 - a := IntWalk.i64_in _ (by omega)
  go_enter Try.func64, Try.ntmps64
  go_wp2
  go_quiet (fail)
  go_wp2
  go_ret
  refine ⟨?_, _, rfl⟩
  show Ending.returned (.int .u64 (wv (wor _ _))) = _
  rw [rotr]
  have e' : (64 - a).toNat = 64 - a.toNat := by omega
  rw [e']
theorem turn_any (x : BitVec 64) (a b : Int) (ha : 0 < a ∧ a < 64) (hb : 0 < b ∧ b < 64) (w : World) :
    Calls Try.prog 62 #[.int .u64 (wv x), .int .i64 a, .int .i64 b] w fun e w' => e = .returned (.int .u64 (wv (turn x a.toNat b.toNat))) ∧ w = w' := by
  go_enter Try.func62, Try.ntmps62
  go_wp2_with (go_at_call 63; refine (rotl_any _ _ (by assumption) _).mono ?_; rintro e w' ⟨rfl, rfl⟩)
  go_ret
  exact ⟨rfl, rfl⟩

set_option maxHeartbeats 1000000 in
theorem round_any (s : St) (c : BitVec 64) (w : World) :
    Calls Try.prog 59 #[s.val, .int .u64 (wv c)] w fun e w' => e = .returned (s.round c).val ∧ Below w.heap.size w w' := by
  obtain ⟨x0, x1, x2, x3, x4⟩ := s
  go_enter Try.func59, Try.ntmps59
  go_wp2
  refine wp_region_quiet_tail_lit 21 (by kernel_rfl) (by kernel_rfl) ?_
  simp only [List.take_succ_cons, List.take_zero, List.drop_succ_cons, List.drop_zero]
  repeat (go_big_quiet_step ((go_at_call 62; exact Calls.quiet_of_same ((turn_any _ _ _ (by omega) (by omega) _).mono (by rintro _ _ ⟨rfl, rfl⟩; exact ⟨rfl, rfl⟩)))))
  refine wpQuiet_nil ?_
  rintro _ ⟨nq, rfl⟩
  go_wp2
  refine bodyPost_ret (v := (St.round ⟨x0, x1, x2, x3, x4⟩ c).val) ?_ rfl ⟨rfl, ?_⟩
  · simp [results, Try.results59, go_sem]
    simp only [St.round, St.mix, St.sub, St.lin, and_self]
  · repeat (with_reducible first | apply below_drewN | apply Below.drew | refine Below.setCell ?_ (by simp) _ | refine Below.alloc ?_ (by first | (simp; done) | (simp; omega)) _ | exact Below.refl _ _)
end Go.Proofs.Ytjfmcobikadjhaa

/- Walks: the reference's round. -/
namespace Go.Proofs.Ytjfmcobikadjhaa
open Go.RowKit
attribute [local go_sem] xor_wv and_wv or_wv not_wv shl_nf shr_nf
set_option maxRecDepth 100000 in


set_option maxHeartbeats 2000000 in
theorem refround_any (s : St) (c : BitVec 64) (w : World) :
    Calls Try.prog 61 #[s.val, .int .u64 (wv c)] w fun e w' => e = .returned (s.round c).val ∧ Below w.heap.size w w' := by
  obtain ⟨x0, x1, x2, x3, x4⟩ := s
  go_enter Try.func61, Try.ntmps61
  go_wp2
  refine wp_loop_rounds 6 ?_
  iterate 5
    rw [rounds_succ]
    go_wp2
    with_reducible first | refine wp_region_quiet_tail_at 18 (by kernel_rfl) (by kernel_rfl) ?_ | refine wp_region_quiet_tail_lit 18 (by kernel_rfl) (by kernel_rfl) ?_
    simp only [List.take_succ_cons, List.take_zero, List.drop_succ_cons, List.drop_zero]
    repeat (go_big_quiet_step (fail))
    refine wpQuiet_nil ?_
    rintro _ ⟨nq, rfl⟩
    go_wp2
  rw [rounds_succ]
  go_wp2
  refine wp_loop_rounds 6 ?_
  iterate 5
    rw [rounds_succ]
    go_wp2
    with_reducible first | refine wp_region_quiet_tail_at 23 (by kernel_rfl) (by kernel_rfl) ?_ | refine wp_region_quiet_tail_lit 23 (by kernel_rfl) (by kernel_rfl) ?_
    simp only [List.take_succ_cons, List.take_zero, List.drop_succ_cons, List.drop_zero]
    repeat (go_big_quiet_step ((go_at_call 64; exact Calls.quiet_of (rot_any _ _ (by omega) _))))
    refine wpQuiet_nil ?_
    rintro _ ⟨nq, rfl⟩
    go_wp2
  rw [rounds_succ]
  go_wp2

  refine bodyPost_ret (v := (St.round ⟨x0, x1, x2, x3, x4⟩ c).val) ?_ rfl ⟨rfl, ?_⟩
  · simp [results, Try.results61, go_sem]
    simp only [St.round, St.mix, St.sub, St.lin, turn, and_self]
  · repeat (with_reducible first | apply below_drewN | apply Below.drew | refine Below.setCell ?_ (by simp) _ | refine Below.alloc ?_ (by first | (simp; done) | (simp; omega)) _ | exact Below.refl _ _)
end Go.Proofs.Ytjfmcobikadjhaa

/- Walks: the permutation, the program's and the reference's. -/
namespace Go.Proofs.Ytjfmcobikadjhaa
open Go.RowKit
attribute [local go_sem] xor_wv and_wv or_wv not_wv shl_nf shr_nf
theorem rc_prog (k : Nat) (hk : k ≤ 11) : bits .or .u64 ((15 - (12 - ((k : Int) + 1))) * 16) (12 - ((k : Int) + 1)) = wv (rc (11 - k)) := by
  have H : ∀ n : Fin 12, bits .or .u64 ((15 - (12 - ((n.val : Int) + 1))) * 16) (12 - ((n.val : Int) + 1)) = wv (rc (11 - n.val)) := by decide +kernel
  exact H ⟨k, by omega⟩
set_option maxHeartbeats 1000000 in
theorem permute_any (s : St) (n : Nat) (hn : n ≤ 12) (w : World) :
    Calls Try.prog 54 #[s.val, .int .i64 (n : Int)] w fun e w' => e = .returned (St.perm n s).val ∧ Below w.heap.size w w' := by
  go_enter Try.func54, Try.ntmps54
  go_wp2
  go_loopw [5] (fun v5 wr => ∃ (k : Nat) (y : St), k ≤ 12 ∧ v5 = .int .i64 ((12 : Int) - k) ∧ St.perm k y = St.perm n s ∧
    wr.heap[w.heap.size]? = some (.cells y.cells 82) ∧ wr.heap[w.heap.size + 1]? = some (.cells #[.int .u64 0, .int .u64 0, .int .u64 0, .int .u64 0, .int .u64 0] 82) ∧ Below w.heap.size w wr) (fun v5 _ => (12 - intOf v5).toNat)
  case atStart =>
    refine ⟨n, s, hn, rfl, rfl, ?_, ?_, ?_⟩
    · rw [Below.heap_alloc _ _ _ (by simp)]; exact heap_alloc_new _ _
    · exact alloc_last _ _ (by simp)
    · repeat (with_reducible first | refine Below.alloc ?_ (by first | (simp; done) | (simp; omega)) _ | exact Below.refl _ _)
  case round =>
    obtain ⟨k, y, hk, rfl, hp, h0, h1, hb⟩ := hrel
    have Hp := Lib.hid hp
    clear hp
    obtain ⟨c0, c1, c2, c3, c4, f0, f1, f2, f3, f4, z0⟩ := five_cells h0
    obtain ⟨d0, d1, d2, d3, d4, e0, e1, e2, e3, e4, z1⟩ := five_cells h1
    rcases k with _ | k
    · go_wp2
      refine bodyPost_ret (v := y.val) ?_ rfl ⟨?_, ?_⟩
      · simp [results, Try.results54, go_sem, d0, d1, d2, d3, d4]
      · have := Hp.out
        rw [← this]; rfl
      · repeat (with_reducible first | apply below_drewN | apply Below.drew | refine Below.setCell ?_ (by first | (simp; done) | (simp; omega)) _ | refine Below.alloc ?_ (by first | (simp; done) | (simp; omega)) _ | exact hb | exact Below.refl _ _)
    · have hrc := rc_prog k (by omega)
      go_wp2_with fail
      refine (round_any y (rc (11 - k)) _).mono ?_
      rintro e w1 ⟨rfl, hb1⟩
      clear hrc
      obtain ⟨hc, hf⟩ := bcell hb1
      go_wp2
      go_roundw
      case rel =>
        refine ⟨k, y.round (rc (11 - k)), by omega, by go_num, Hp.out, ?_, ?_, ?_⟩
        · exact set_five (by rw [hb1.block _ z0]; exact h0)
        · iterate 5 rw [Below.heap_setCell _ _ _ _ (by simp)]
          rw [hb1.block _ z1]; exact h1
        · have hb2 := hb.trans (hb1.mono (by omega))
          repeat (with_reducible first | apply below_drewN | apply Below.drew | refine Below.setCell ?_ (by first | (simp; done) | (simp; omega)) _ | refine Below.alloc ?_ (by first | (simp; done) | (simp; omega)) _ | exact hb2 | exact Below.refl _ _)
      case measure => simp [intOf]; omega
theorem rc_ref (k : Nat) (hk : k ≤ 11) : (240 : Int) - 15 * (12 - ((k : Int) + 1)) = wv (rc (11 - k)) := by
  have H : ∀ n : Fin 12, (240 : Int) - 15 * (12 - ((n.val : Int) + 1)) = wv (rc (11 - n.val)) := by decide +kernel
  exact H ⟨k, by omega⟩
set_option maxHeartbeats 1000000 in
theorem permuted_any (s : St) (n : Nat) (hn : n ≤ 12) (w : World) :
    Calls Try.prog 56 #[s.val, .int .i64 (n : Int)] w fun e w' => e = .returned (St.perm n s).val ∧ Below w.heap.size w w' := by
  go_enter Try.func56, Try.ntmps56
  go_wp2
  go_loopw [5] (fun v5 wr => ∃ (k : Nat) (y : St), k ≤ 12 ∧ v5 = .int .i64 ((12 : Int) - k) ∧ St.perm k y = St.perm n s ∧
    wr.heap[w.heap.size]? = some (.cells y.cells 81) ∧ wr.heap[w.heap.size + 1]? = some (.cells #[.int .u64 0, .int .u64 0, .int .u64 0, .int .u64 0, .int .u64 0] 81) ∧ Below w.heap.size w wr) (fun v5 _ => (12 - intOf v5).toNat)
  case atStart =>
    refine ⟨n, s, hn, rfl, rfl, ?_, ?_, ?_⟩
    · rw [Below.heap_alloc _ _ _ (by simp)]; exact heap_alloc_new _ _
    · exact alloc_last _ _ (by simp)
    · repeat (with_reducible first | refine Below.alloc ?_ (by first | (simp; done) | (simp; omega)) _ | exact Below.refl _ _)
  case round =>
    obtain ⟨k, y, hk, rfl, hp, h0, h1, hb⟩ := hrel
    have Hp := Lib.hid hp
    clear hp
    obtain ⟨c0, c1, c2, c3, c4, f0, f1, f2, f3, f4, z0⟩ := five_cells h0
    obtain ⟨d0, d1, d2, d3, d4, e0, e1, e2, e3, e4, z1⟩ := five_cells h1
    rcases k with _ | k
    · go_wp2
      refine bodyPost_ret (v := y.val) ?_ rfl ⟨?_, ?_⟩
      · simp [results, Try.results56, go_sem, d0, d1, d2, d3, d4]
      · have := Hp.out
        rw [← this]; rfl
      · repeat (with_reducible first | apply below_drewN | apply Below.drew | refine Below.setCell ?_ (by first | (simp; done) | (simp; omega)) _ | refine Below.alloc ?_ (by first | (simp; done) | (simp; omega)) _ | exact hb | exact Below.refl _ _)
    · have hrc := rc_ref k (by omega)
      go_wp2_with fail
      refine (refround_any y (rc (11 - k)) _).mono ?_
      rintro e w1 ⟨rfl, hb1⟩
      clear hrc
      obtain ⟨hc, hf⟩ := bcell hb1
      go_wp2
      go_roundw
      case rel =>
        refine ⟨k, y.round (rc (11 - k)), by omega, by go_num, Hp.out, ?_, ?_, ?_⟩
        · exact set_five (by rw [hb1.block _ z0]; exact h0)
        · iterate 5 rw [Below.heap_setCell _ _ _ _ (by simp)]
          rw [hb1.block _ z1]; exact h1
        · have hb2 := hb.trans (hb1.mono (by omega))
          repeat (with_reducible first | apply below_drewN | apply Below.drew | refine Below.setCell ?_ (by first | (simp; done) | (simp; omega)) _ | refine Below.alloc ?_ (by first | (simp; done) | (simp; omega)) _ | exact hb2 | exact Below.refl _ _)
      case measure => simp [intOf]; omega



end Go.Proofs.Ytjfmcobikadjhaa
