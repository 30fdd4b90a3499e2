/- Walks: the reference's round. -/
import Derived.Test.YtfiajfjaamfeoaaWa
namespace Go.Proofs.Ytfiajfjaamfeoaa
open Go.RowKit
attribute [local go_sem] xor_wv and_wv or_wv not_wv shl_nf shr_nf
set_option maxRecDepth 100000 in


set_option maxHeartbeats 2000000 in
theorem refround_any (s : St) (c : BitVec 64) (w : World) :
    Calls Try.prog 28 #[s.val, .int .u64 (wv c)] w fun e w' => e = .returned (s.round c).val ∧ Below w.heap.size w w' := by
  obtain ⟨x0, x1, x2, x3, x4⟩ := s
  go_enter Try.func28, Try.ntmps28
  go_wp2
  refine wp_loop_rounds 6 ?_
  iterate 5
    rw [rounds_succ]
    go_wp2
    with_reducible first | refine wp_region_quiet_tail_at 18 (by kernel_rfl) (by kernel_rfl) ?_ | refine wp_region_quiet_tail_lit 18 (by kernel_rfl) (by kernel_rfl) ?_
    simp only [List.take_succ_cons, List.take_zero, List.drop_succ_cons, List.drop_zero]
    repeat (go_big_quiet_step (fail))
    refine wpQuiet_nil ?_
    rintro _ ⟨nq, rfl⟩
    go_wp2
  rw [rounds_succ]
  go_wp2
  refine wp_loop_rounds 6 ?_
  iterate 5
    rw [rounds_succ]
    go_wp2
    with_reducible first | refine wp_region_quiet_tail_at 23 (by kernel_rfl) (by kernel_rfl) ?_ | refine wp_region_quiet_tail_lit 23 (by kernel_rfl) (by kernel_rfl) ?_
    simp only [List.take_succ_cons, List.take_zero, List.drop_succ_cons, List.drop_zero]
    repeat (go_big_quiet_step ((go_at_call 32; exact Calls.quiet_of (rot_any _ _ (by omega) _))))
    refine wpQuiet_nil ?_
    rintro _ ⟨nq, rfl⟩
    go_wp2
  rw [rounds_succ]
  go_wp2

  refine bodyPost_ret (v := (St.round ⟨x0, x1, x2, x3, x4⟩ c).val) ?_ rfl ⟨rfl, ?_⟩
  · simp [results, Try.results28, go_sem]
    simp only [St.round, St.mix, St.sub, St.lin, turn, and_self]
  · repeat (with_reducible first | apply below_drewN | apply Below.drew | refine Below.setCell ?_ (by simp) _ | refine Below.alloc ?_ (by first | (simp; done) | (simp; omega)) _ | exact Below.refl _ _)
end Go.Proofs.Ytfiajfjaamfeoaa
