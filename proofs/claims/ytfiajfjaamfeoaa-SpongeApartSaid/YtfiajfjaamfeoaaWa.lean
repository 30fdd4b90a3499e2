/- Walks of the small functions. -/
import Derived.Test.YtfiajfjaamfeoaaProg
import Derived.Test.YtfiajfjaamfeoaaPlain
import Derived.Deep.QuietTactic
import Derived.BigQuiet
import Derived.Lib.Hide
import Derived.StillTailTactics
import Derived.Test.YtfiajfjaamfeoaaReg
import Derived.WalkSmall
import Derived.Deep.DeepCutAuto
namespace Go.Proofs.Ytfiajfjaamfeoaa
open Go.RowKit
attribute [local go_sem] xor_wv and_wv or_wv not_wv shl_nf shr_nf
set_option maxHeartbeats 400000 in
theorem rotl_any (x : BitVec 64) (a : Int) (ha : 0 < a ∧ a < 64) (w : World) :
    Calls Try.prog 31 #[.int .u64 (wv x), .int .i64 (-a)] w fun e w' => e = .returned (.int .u64 (wv (rotr x a.toNat))) ∧ w = w' := by
  have h1 := and63 a ha
  go_enter Try.func31, Try.ntmps31
  go_wp2
  go_ret
  refine ⟨?_, rfl⟩
  show Ending.returned (.int .u64 (wv (wor _ _))) = _
  rw [rotr, wor_comm]
  have e : (64 - (64 - a)).toNat = a.toNat := by omega
  have e' : (64 - a).toNat = 64 - a.toNat := by omega
  rw [e', e]
theorem rotl_k (x : BitVec 64) (k a : Int) (hk : k = -a) (ha : 0 < a ∧ a < 64) (w : World) :
    Calls Try.prog 31 #[.int .u64 (wv x), .int .i64 k] w fun e w' => e = .returned (.int .u64 (wv (rotr x a.toNat))) ∧ w = w' := by
  subst hk; exact rotl_any x a ha w
theorem rot_any (x : BitVec 64) (a : Int) (ha : 0 < a ∧ a < 64) (w : World) :
    Calls Try.prog 32 #[.int .u64 (wv x), .int .i64 a] w fun e w' => e = .returned (.int .u64 (wv (rotr x a.toNat))) ∧ ∃ n, w' = w.drewN n := by
  have h4 : IntKind.i64.wrap (64 - a) = 64 - a := IntWalk.i64_in _ (by omega)
  go_enter Try.func32, Try.ntmps32
  go_wp2
  go_quiet (fail)
  go_wp2
  go_ret
  refine ⟨?_, _, rfl⟩
  show Ending.returned (.int .u64 (wv (wor _ _))) = _
  rw [rotr]
  have e' : (64 - a).toNat = 64 - a.toNat := by omega
  rw [e']
theorem turn_any (x : BitVec 64) (a b : Int) (ha : 0 < a ∧ a < 64) (hb : 0 < b ∧ b < 64) (w : World) :
    Calls Try.prog 30 #[.int .u64 (wv x), .int .i64 a, .int .i64 b] w fun e w' => e = .returned (.int .u64 (wv (turn x a.toNat b.toNat))) ∧ w = w' := by
  go_enter Try.func30, Try.ntmps30
  go_wp2_with (go_at_call 31; refine (rotl_any _ _ (by assumption) _).mono ?_; rintro e w' ⟨rfl, rfl⟩)
  go_ret
  exact ⟨rfl, rfl⟩

set_option maxHeartbeats 1000000 in
theorem round_any (s : St) (c : BitVec 64) (w : World) :
    Calls Try.prog 27 #[s.val, .int .u64 (wv c)] w fun e w' => e = .returned (s.round c).val ∧ Below w.heap.size w w' := by
  obtain ⟨x0, x1, x2, x3, x4⟩ := s
  go_enter Try.func27, Try.ntmps27
  go_wp2
  refine wp_region_quiet_tail_lit 21 (by kernel_rfl) (by kernel_rfl) ?_
  simp only [List.take_succ_cons, List.take_zero, List.drop_succ_cons, List.drop_zero]
  repeat (go_big_quiet_step ((go_at_call 30; exact Calls.quiet_of_same ((turn_any _ _ _ (by omega) (by omega) _).mono (by rintro _ _ ⟨rfl, rfl⟩; exact ⟨rfl, rfl⟩)))))
  refine wpQuiet_nil ?_
  rintro _ ⟨nq, rfl⟩
  go_wp2
  refine bodyPost_ret (v := (St.round ⟨x0, x1, x2, x3, x4⟩ c).val) ?_ rfl ⟨rfl, ?_⟩
  · simp [results, Try.results27, go_sem]
    simp only [St.round, St.mix, St.sub, St.lin, and_self]
  · repeat (with_reducible first | apply below_drewN | apply Below.drew | refine Below.setCell ?_ (by simp) _ | refine Below.alloc ?_ (by first | (simp; done) | (simp; omega)) _ | exact Below.refl _ _)
end Go.Proofs.Ytfiajfjaamfeoaa
