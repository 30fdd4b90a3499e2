/-
  No cell of these rows narrows 'for every input' (looked for: loops, veiled, ifaces, maps, wideKeys, modest, calm, conditions, laid).
  DERIVED. THE GIVEN ROWS OF THIS SEAT. 6 by the template 'for every input the law returns true; each argument reads behind the call as it read before'; 0 by the template 'total and deterministic' (their statements: YtpcpgmgpkegjlaaTotals.lean).
  GIVEN WITH THE SEED: the statements are not yours to turn. If you find one false, say at which input.
  Laid BY PROGRAM, IN A SANDBOX (cutbox-rows.mjs): the forced cells as the released guide's own fill.sh prints them over the translation 64c8cde54a3de206… (all of the seat's roots in one cut). By AI agents, Wed Nov 11 2026. No macro, syntax, notation, axiom, sorry.
-/
import Derived.Test.YtpcpgmgpkegjlaaChecked
import GoSem.Claim
import GoSem.ClaimJoined
import GoSem.ClaimMapViews
import Derived.JoinedTies
import Derived.KernelRfl
namespace Go.Proofs.Ytpcpgmgpkegjlaa
/- THE CELL 'sum', in the pinned program and in every row, IS THE sha256 OF THE DUMP (.gsa) THAT YtpcpgmgpkegjlaaProg.lean LOADS. Nothing in Lean hashes anything: it is a label: what it is worth is what the hold of that sum in a sandbox is worth. -/
noncomputable def Try.pinned : Pinned := { name := "ytpcpgmgpkegjlaa", sum := "64c8cde54a3de206cd403457fe83ebc7c6d84b0812dace4595ec4284a6ff6553", checked := Try.checked }
namespace Rows
def none {H : Type} : Left H := { results := [], args := [] }

/-- 'obscuralaw17.GadgetLevels': WHATEVER THE INPUT: true; the input reads as it did. -/
def gadgetLevelsSpec : ChangeSpec := { name := "gadgetLevels", fn := fun _ => fun
  | [d] => { results := [.lit (.bool true)], args := [d] }
  | _ => none }
def gadgetLevelsRow : OpenClaim := { program := "ytpcpgmgpkegjlaa", sum := "64c8cde54a3de206cd403457fe83ebc7c6d84b0812dace4595ec4284a6ff6553", func := "obscura/obscuralaw17.GadgetLevels", spec := "gadgetLevels", unfollowed := true, recurses := true, apart := false }
def GadgetLevelsSaid : Prop := gadgetLevelsRow.holds Try.pinned (OpenSpec.ofChange gadgetLevelsSpec)

/-- ITS FALSE NEIGHBOUR: 'it returns false'. Refute it at one input. -/
def gadgetLevelsWrong : ChangeSpec := { name := "gadgetLevels", fn := fun _ => fun
  | [d] => { results := [.lit (.bool false)], args := [d] }
  | _ => none }
def GadgetLevelsWrongFalsely : Prop := gadgetLevelsRow.holds Try.pinned (OpenSpec.ofChange gadgetLevelsWrong)

/-- 'obscuralaw17.GadgetDigits': WHATEVER THE INPUT: true; the input reads as it did. -/
def gadgetDigitsSpec : ChangeSpec := { name := "gadgetDigits", fn := fun _ => fun
  | [d] => { results := [.lit (.bool true)], args := [d] }
  | _ => none }
def gadgetDigitsRow : OpenClaim := { program := "ytpcpgmgpkegjlaa", sum := "64c8cde54a3de206cd403457fe83ebc7c6d84b0812dace4595ec4284a6ff6553", func := "obscura/obscuralaw17.GadgetDigits", spec := "gadgetDigits", unfollowed := true, recurses := true, apart := false }
def GadgetDigitsSaid : Prop := gadgetDigitsRow.holds Try.pinned (OpenSpec.ofChange gadgetDigitsSpec)

/-- ITS FALSE NEIGHBOUR: 'it returns false'. Refute it at one input. -/
def gadgetDigitsWrong : ChangeSpec := { name := "gadgetDigits", fn := fun _ => fun
  | [d] => { results := [.lit (.bool false)], args := [d] }
  | _ => none }
def GadgetDigitsWrongFalsely : Prop := gadgetDigitsRow.holds Try.pinned (OpenSpec.ofChange gadgetDigitsWrong)

/-- 'obscuralaw17.GadgetBack': WHATEVER THE INPUT: true; the input reads as it did. -/
def gadgetBackSpec : ChangeSpec := { name := "gadgetBack", fn := fun _ => fun
  | [d] => { results := [.lit (.bool true)], args := [d] }
  | _ => none }
def gadgetBackRow : OpenClaim := { program := "ytpcpgmgpkegjlaa", sum := "64c8cde54a3de206cd403457fe83ebc7c6d84b0812dace4595ec4284a6ff6553", func := "obscura/obscuralaw17.GadgetBack", spec := "gadgetBack", unfollowed := true, recurses := true, apart := false }
def GadgetBackSaid : Prop := gadgetBackRow.holds Try.pinned (OpenSpec.ofChange gadgetBackSpec)

/-- ITS FALSE NEIGHBOUR: 'it returns false'. Refute it at one input. -/
def gadgetBackWrong : ChangeSpec := { name := "gadgetBack", fn := fun _ => fun
  | [d] => { results := [.lit (.bool false)], args := [d] }
  | _ => none }
def GadgetBackWrongFalsely : Prop := gadgetBackRow.holds Try.pinned (OpenSpec.ofChange gadgetBackWrong)

/-- 'obscuralaw17.GadgetJoins': WHATEVER THE INPUT: true; the input reads as it did. -/
def gadgetJoinsSpec : ChangeSpec := { name := "gadgetJoins", fn := fun _ => fun
  | [d] => { results := [.lit (.bool true)], args := [d] }
  | _ => none }
def gadgetJoinsRow : OpenClaim := { program := "ytpcpgmgpkegjlaa", sum := "64c8cde54a3de206cd403457fe83ebc7c6d84b0812dace4595ec4284a6ff6553", func := "obscura/obscuralaw17.GadgetJoins", spec := "gadgetJoins", unfollowed := true, recurses := true, apart := false }
def GadgetJoinsSaid : Prop := gadgetJoinsRow.holds Try.pinned (OpenSpec.ofChange gadgetJoinsSpec)

/-- ITS FALSE NEIGHBOUR: 'it returns false'. Refute it at one input. -/
def gadgetJoinsWrong : ChangeSpec := { name := "gadgetJoins", fn := fun _ => fun
  | [d] => { results := [.lit (.bool false)], args := [d] }
  | _ => none }
def GadgetJoinsWrongFalsely : Prop := gadgetJoinsRow.holds Try.pinned (OpenSpec.ofChange gadgetJoinsWrong)

/-- 'obscuralaw17.GadgetTimes': WHATEVER THE INPUT: true; the input reads as it did. -/
def gadgetTimesSpec : ChangeSpec := { name := "gadgetTimes", fn := fun _ => fun
  | [d] => { results := [.lit (.bool true)], args := [d] }
  | _ => none }
def gadgetTimesRow : OpenClaim := { program := "ytpcpgmgpkegjlaa", sum := "64c8cde54a3de206cd403457fe83ebc7c6d84b0812dace4595ec4284a6ff6553", func := "obscura/obscuralaw17.GadgetTimes", spec := "gadgetTimes", unfollowed := true, recurses := true, apart := false }
def GadgetTimesSaid : Prop := gadgetTimesRow.holds Try.pinned (OpenSpec.ofChange gadgetTimesSpec)

/-- ITS FALSE NEIGHBOUR: 'it returns false'. Refute it at one input. -/
def gadgetTimesWrong : ChangeSpec := { name := "gadgetTimes", fn := fun _ => fun
  | [d] => { results := [.lit (.bool false)], args := [d] }
  | _ => none }
def GadgetTimesWrongFalsely : Prop := gadgetTimesRow.holds Try.pinned (OpenSpec.ofChange gadgetTimesWrong)

/-- 'obscuralaw17.GadgetKnown': WHATEVER THE INPUT: true; the input reads as it did. -/
def gadgetKnownSpec : ChangeSpec := { name := "gadgetKnown", fn := fun _ => fun
  | [] => { results := [.lit (.bool true)], args := [] }
  | _ => none }
def gadgetKnownRow : OpenClaim := { program := "ytpcpgmgpkegjlaa", sum := "64c8cde54a3de206cd403457fe83ebc7c6d84b0812dace4595ec4284a6ff6553", func := "obscura/obscuralaw17.GadgetKnown", spec := "gadgetKnown", unfollowed := true, recurses := true, apart := false }
def GadgetKnownSaid : Prop := gadgetKnownRow.holds Try.pinned (OpenSpec.ofChange gadgetKnownSpec)

/-- ITS FALSE NEIGHBOUR: 'it returns false'. Refute it at one input. -/
def gadgetKnownWrong : ChangeSpec := { name := "gadgetKnown", fn := fun _ => fun
  | [] => { results := [.lit (.bool false)], args := [] }
  | _ => none }
def GadgetKnownWrongFalsely : Prop := gadgetKnownRow.holds Try.pinned (OpenSpec.ofChange gadgetKnownWrong)

/- THE SECOND FORM. 'bulk': how many values and letters a reading holds, each counted each time it is reached (what is shared counts as often as it is met; a slice's spare places count too). A statement '..UptoSaid' is the law's where the arguments, and the package variables that the reading takes, are together of bulk at most 1048576: NARROWER than '..Said'. Prove '..Said' where nothing that the law and all that it calls make is longer than what came in: it says more and counts as full. Else prove '..UptoSaid'. A law counts once. -/
mutual
def uptoBulk {H : Type} : DataW H → Nat
  | .lit (.string bytes) => bytes.length + 1
  | .lit _ => 1
  | .nil => 1
  | .ptr d => uptoBulk d + 1
  | .slice elems spare => uptoBulkAll elems + uptoBulkAll spare + 1
  | .agg parts => uptoBulkAll parts + 1
  | .iface _ d => uptoBulk d + 1
  | .map entries => uptoBulkEntries entries + 1
  | .held _ => 1
def uptoBulkAll {H : Type} : List (DataW H) → Nat
  | [] => 0
  | d :: r => uptoBulk d + uptoBulkAll r
def uptoBulkEntries {H : Type} : List (Lit × DataW H) → Nat
  | [] => 0
  | x :: r => uptoBulkEntry x + uptoBulkEntries r
def uptoBulkEntry {H : Type} : Lit × DataW H → Nat
  | (.string bytes, d) => bytes.length + uptoBulk d + 1
  | (_, d) => uptoBulk d + 1
 end
def uptoSmall : (H : Type) → List (DataW H) → Bool := fun _ ds => decide (uptoBulkAll ds ≤ 1048576)
def OpenSpec.upto (s : _root_.Go.ChangeSpec) : _root_.Go.OpenSpec := { _root_.Go.OpenSpec.ofChange s with cond := some uptoSmall }

/-- 'obscuralaw17.GadgetLevels', WHERE WHAT IT READS IS OF BULK AT MOST 1048576: true; the input reads as it did. -/
def gadgetLevelsUptoRow : OpenClaim := { program := "ytpcpgmgpkegjlaa", sum := "64c8cde54a3de206cd403457fe83ebc7c6d84b0812dace4595ec4284a6ff6553", func := "obscura/obscuralaw17.GadgetLevels", spec := "gadgetLevels", unfollowed := true, recurses := true, apart := false, narrowed := true }
def GadgetLevelsUptoSaid : Prop := gadgetLevelsUptoRow.holds Try.pinned (OpenSpec.upto gadgetLevelsSpec)

/-- 'obscuralaw17.GadgetDigits', WHERE WHAT IT READS IS OF BULK AT MOST 1048576: true; the input reads as it did. -/
def gadgetDigitsUptoRow : OpenClaim := { program := "ytpcpgmgpkegjlaa", sum := "64c8cde54a3de206cd403457fe83ebc7c6d84b0812dace4595ec4284a6ff6553", func := "obscura/obscuralaw17.GadgetDigits", spec := "gadgetDigits", unfollowed := true, recurses := true, apart := false, narrowed := true }
def GadgetDigitsUptoSaid : Prop := gadgetDigitsUptoRow.holds Try.pinned (OpenSpec.upto gadgetDigitsSpec)

/-- 'obscuralaw17.GadgetBack', WHERE WHAT IT READS IS OF BULK AT MOST 1048576: true; the input reads as it did. -/
def gadgetBackUptoRow : OpenClaim := { program := "ytpcpgmgpkegjlaa", sum := "64c8cde54a3de206cd403457fe83ebc7c6d84b0812dace4595ec4284a6ff6553", func := "obscura/obscuralaw17.GadgetBack", spec := "gadgetBack", unfollowed := true, recurses := true, apart := false, narrowed := true }
def GadgetBackUptoSaid : Prop := gadgetBackUptoRow.holds Try.pinned (OpenSpec.upto gadgetBackSpec)

/-- 'obscuralaw17.GadgetJoins', WHERE WHAT IT READS IS OF BULK AT MOST 1048576: true; the input reads as it did. -/
def gadgetJoinsUptoRow : OpenClaim := { program := "ytpcpgmgpkegjlaa", sum := "64c8cde54a3de206cd403457fe83ebc7c6d84b0812dace4595ec4284a6ff6553", func := "obscura/obscuralaw17.GadgetJoins", spec := "gadgetJoins", unfollowed := true, recurses := true, apart := false, narrowed := true }
def GadgetJoinsUptoSaid : Prop := gadgetJoinsUptoRow.holds Try.pinned (OpenSpec.upto gadgetJoinsSpec)

/-- 'obscuralaw17.GadgetTimes', WHERE WHAT IT READS IS OF BULK AT MOST 1048576: true; the input reads as it did. -/
def gadgetTimesUptoRow : OpenClaim := { program := "ytpcpgmgpkegjlaa", sum := "64c8cde54a3de206cd403457fe83ebc7c6d84b0812dace4595ec4284a6ff6553", func := "obscura/obscuralaw17.GadgetTimes", spec := "gadgetTimes", unfollowed := true, recurses := true, apart := false, narrowed := true }
def GadgetTimesUptoSaid : Prop := gadgetTimesUptoRow.holds Try.pinned (OpenSpec.upto gadgetTimesSpec)

/-- 'obscuralaw17.GadgetKnown', WHERE WHAT IT READS IS OF BULK AT MOST 1048576: true; the input reads as it did. -/
def gadgetKnownUptoRow : OpenClaim := { program := "ytpcpgmgpkegjlaa", sum := "64c8cde54a3de206cd403457fe83ebc7c6d84b0812dace4595ec4284a6ff6553", func := "obscura/obscuralaw17.GadgetKnown", spec := "gadgetKnown", unfollowed := true, recurses := true, apart := false, narrowed := true }
def GadgetKnownUptoSaid : Prop := gadgetKnownUptoRow.holds Try.pinned (OpenSpec.upto gadgetKnownSpec)

end Rows
end Go.Proofs.Ytpcpgmgpkegjlaa
