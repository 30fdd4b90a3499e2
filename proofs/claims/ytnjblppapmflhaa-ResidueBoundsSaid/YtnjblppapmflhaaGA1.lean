/- Walks: residues. -/
import Derived.Test.YtnjblppapmflhaaBase
import Derived.Test.YtnjblppapmflhaaProg
import Derived.Deep.QuietTactic
import Derived.BigQuiet
namespace Go.Proofs.Ytnjblppapmflhaa
open Go.RowKit
def fitsB (n : Nat) (l : List Nat) : Bool := l.all (fun a => decide (a < n)) && decide (2 ≤ n) && decide (n ≤ 2147483647)
def modB (q : Nat) : Bool := decide (3 ≤ q) && decide (q ≤ 2147483647) && decide (q % 2 = 1)
set_option maxHeartbeats 1000000 in
theorem fits_any (n : Nat) (v : Value) (xs : List Nat) (B : Nat) (w : World) (hr : w.reads B v (xs.map u32V)) :
    Calls Try.prog 68 #[.int .u32 (n : Int), v] w fun e w' => e = .returned (.bool (fitsB n xs)) ∧ w = w' := by
  have hl := hr.le_map
  obtain ⟨a, cap, rfl, hcap, hmx, hsh⟩ := reads_u32 hr
  have HS := Lib.hid hsh
  clear hsh hr
  go_enter Try.func68, Try.ntmps68
  go_wp2
  go_loop [9] (fun i => ∃ k : Nat, k ≤ xs.length ∧ i = .int .i64 (k : Int) ∧ Hid ((xs.take k).all (fun a => decide (a < n)) = true)) (fun i => xs.length - (intOf i).toNat)
  case atStart => exact ⟨0, Nat.zero_le _, rfl, by show _ = _; simp⟩
  case round =>
    obtain ⟨k, hk, rfl, hall⟩ := hrel
    by_cases hlt : k < xs.length
    · obtain ⟨x, hx⟩ : ∃ x, xs[k]? = some x := ⟨xs[k], List.getElem?_eq_getElem hlt⟩
      obtain ⟨b, off, rfl, _, hc⟩ := HS.out k x hx
      have HX := Lib.hid hx
      clear hx
      by_cases hxn : x < n
      · go_wp2
        go_round
        case rel => exact ⟨k + 1, by omega, by go_num, by show _ = _; rw [all_take_succ _ _ _ _ HX.out, hall.out]; simp [hxn]⟩
        case measure => simp [intOf]; omega
      · go_wp2
        go_ret
        refine ⟨ret_bool ?_, rfl⟩
        unfold fitsB
        have : xs.all (fun a => decide (a < n)) = false := by
          rw [List.all_eq_false]; exact ⟨x, List.mem_of_getElem? HX.out, by simpa using hxn⟩
        simp [this]
    · obtain rfl : k = xs.length := by omega
      by_cases h2 : 2 ≤ n
      · go_wp2
        go_ret
        refine ⟨ret_bool ?_, rfl⟩
        unfold fitsB
        have := hall.out
        rw [List.take_length] at this
        rw [this, Bool.eq_iff_iff]; simp; omega
      · go_wp2
        go_ret
        refine ⟨ret_bool ?_, rfl⟩
        unfold fitsB
        simp [h2]
end Go.Proofs.Ytnjblppapmflhaa
