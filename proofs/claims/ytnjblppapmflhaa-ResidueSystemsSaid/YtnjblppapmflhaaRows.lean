/-
  No cell of these rows narrows 'for every input' (looked for: loops, veiled, ifaces, maps, wideKeys, modest, calm, conditions, laid).
  DERIVED. THE GIVEN ROWS OF THIS SEAT. 6 by the template 'for every input the law returns true; each argument reads behind the call as it read before'; 0 by the template 'total and deterministic' (their statements: YtnjblppapmflhaaTotals.lean).
  GIVEN WITH THE SEED: the statements are not yours to turn. If you find one false, say at which input.
  Laid BY PROGRAM, IN A SANDBOX (cutbox-rows.mjs): the forced cells as the released guide's own fill.sh prints them over the translation 3817ee1b33e1894f… (all of the seat's roots in one cut). By AI agents, Wed Nov 11 2026. No macro, syntax, notation, axiom, sorry.
-/
import Derived.Test.YtnjblppapmflhaaChecked
import GoSem.Claim
import GoSem.ClaimJoined
import GoSem.ClaimMapViews
import Derived.JoinedTies
import Derived.KernelRfl
namespace Go.Proofs.Ytnjblppapmflhaa
/- THE CELL 'sum', in the pinned program and in every row, IS THE sha256 OF THE DUMP (.gsa) THAT YtnjblppapmflhaaProg.lean LOADS. Nothing in Lean hashes anything: it is a label: what it is worth is what the hold of that sum in a sandbox is worth. -/
noncomputable def Try.pinned : Pinned := { name := "ytnjblppapmflhaa", sum := "3817ee1b33e1894f58bb8ef0bc9d0750b4f4108d07df5acfd7c851bc5818e60b", checked := Try.checked }
namespace Rows
def none {H : Type} : Left H := { results := [], args := [] }

/-- 'obscuralaw04.ResidueDivides': WHATEVER THE INPUT: true; the input reads as it did. -/
def residueDividesSpec : ChangeSpec := { name := "residueDivides", fn := fun _ => fun
  | [d1, d2, d3] => { results := [.lit (.bool true)], args := [d1, d2, d3] }
  | _ => none }
def residueDividesRow : OpenClaim := { program := "ytnjblppapmflhaa", sum := "3817ee1b33e1894f58bb8ef0bc9d0750b4f4108d07df5acfd7c851bc5818e60b", func := "obscura/obscuralaw04.ResidueDivides", spec := "residueDivides", unfollowed := true, recurses := true, apart := false }
def ResidueDividesSaid : Prop := residueDividesRow.holds Try.pinned (OpenSpec.ofChange residueDividesSpec)

/-- ITS FALSE NEIGHBOUR: 'it returns false'. Refute it at one input. -/
def residueDividesWrong : ChangeSpec := { name := "residueDivides", fn := fun _ => fun
  | [d1, d2, d3] => { results := [.lit (.bool false)], args := [d1, d2, d3] }
  | _ => none }
def ResidueDividesWrongFalsely : Prop := residueDividesRow.holds Try.pinned (OpenSpec.ofChange residueDividesWrong)

/-- 'obscuralaw04.ResidueBounds': WHATEVER THE INPUT: true; the input reads as it did. -/
def residueBoundsSpec : ChangeSpec := { name := "residueBounds", fn := fun _ => fun
  | [d1, d2, d3] => { results := [.lit (.bool true)], args := [d1, d2, d3] }
  | _ => none }
def residueBoundsRow : OpenClaim := { program := "ytnjblppapmflhaa", sum := "3817ee1b33e1894f58bb8ef0bc9d0750b4f4108d07df5acfd7c851bc5818e60b", func := "obscura/obscuralaw04.ResidueBounds", spec := "residueBounds", unfollowed := true, recurses := true, apart := false }
def ResidueBoundsSaid : Prop := residueBoundsRow.holds Try.pinned (OpenSpec.ofChange residueBoundsSpec)

/-- ITS FALSE NEIGHBOUR: 'it returns false'. Refute it at one input. -/
def residueBoundsWrong : ChangeSpec := { name := "residueBounds", fn := fun _ => fun
  | [d1, d2, d3] => { results := [.lit (.bool false)], args := [d1, d2, d3] }
  | _ => none }
def ResidueBoundsWrongFalsely : Prop := residueBoundsRow.holds Try.pinned (OpenSpec.ofChange residueBoundsWrong)

/-- 'obscuralaw04.ResidueSplits': WHATEVER THE INPUT: true; the input reads as it did. -/
def residueSplitsSpec : ChangeSpec := { name := "residueSplits", fn := fun _ => fun
  | [d] => { results := [.lit (.bool true)], args := [d] }
  | _ => none }
def residueSplitsRow : OpenClaim := { program := "ytnjblppapmflhaa", sum := "3817ee1b33e1894f58bb8ef0bc9d0750b4f4108d07df5acfd7c851bc5818e60b", func := "obscura/obscuralaw04.ResidueSplits", spec := "residueSplits", unfollowed := true, recurses := true, apart := false }
def ResidueSplitsSaid : Prop := residueSplitsRow.holds Try.pinned (OpenSpec.ofChange residueSplitsSpec)

/-- ITS FALSE NEIGHBOUR: 'it returns false'. Refute it at one input. -/
def residueSplitsWrong : ChangeSpec := { name := "residueSplits", fn := fun _ => fun
  | [d] => { results := [.lit (.bool false)], args := [d] }
  | _ => none }
def ResidueSplitsWrongFalsely : Prop := residueSplitsRow.holds Try.pinned (OpenSpec.ofChange residueSplitsWrong)

/-- 'obscuralaw04.ResidueBack': WHATEVER THE INPUT: true; the input reads as it did. -/
def residueBackSpec : ChangeSpec := { name := "residueBack", fn := fun _ => fun
  | [d1, d2, d3] => { results := [.lit (.bool true)], args := [d1, d2, d3] }
  | _ => none }
def residueBackRow : OpenClaim := { program := "ytnjblppapmflhaa", sum := "3817ee1b33e1894f58bb8ef0bc9d0750b4f4108d07df5acfd7c851bc5818e60b", func := "obscura/obscuralaw04.ResidueBack", spec := "residueBack", unfollowed := true, recurses := true, apart := false }
def ResidueBackSaid : Prop := residueBackRow.holds Try.pinned (OpenSpec.ofChange residueBackSpec)

/-- ITS FALSE NEIGHBOUR: 'it returns false'. Refute it at one input. -/
def residueBackWrong : ChangeSpec := { name := "residueBack", fn := fun _ => fun
  | [d1, d2, d3] => { results := [.lit (.bool false)], args := [d1, d2, d3] }
  | _ => none }
def ResidueBackWrongFalsely : Prop := residueBackRow.holds Try.pinned (OpenSpec.ofChange residueBackWrong)

/-- 'obscuralaw04.ResidueSystems': WHATEVER THE INPUT: true; the input reads as it did. -/
def residueSystemsSpec : ChangeSpec := { name := "residueSystems", fn := fun _ => fun
  | [d] => { results := [.lit (.bool true)], args := [d] }
  | _ => none }
def residueSystemsRow : OpenClaim := { program := "ytnjblppapmflhaa", sum := "3817ee1b33e1894f58bb8ef0bc9d0750b4f4108d07df5acfd7c851bc5818e60b", func := "obscura/obscuralaw04.ResidueSystems", spec := "residueSystems", unfollowed := true, recurses := true, apart := false }
def ResidueSystemsSaid : Prop := residueSystemsRow.holds Try.pinned (OpenSpec.ofChange residueSystemsSpec)

/-- ITS FALSE NEIGHBOUR: 'it returns false'. Refute it at one input. -/
def residueSystemsWrong : ChangeSpec := { name := "residueSystems", fn := fun _ => fun
  | [d] => { results := [.lit (.bool false)], args := [d] }
  | _ => none }
def ResidueSystemsWrongFalsely : Prop := residueSystemsRow.holds Try.pinned (OpenSpec.ofChange residueSystemsWrong)

/-- 'obscuralaw04.ResidueNone': WHATEVER THE INPUT: true; the input reads as it did. -/
def residueNoneSpec : ChangeSpec := { name := "residueNone", fn := fun _ => fun
  | [d1, d2, d3] => { results := [.lit (.bool true)], args := [d1, d2, d3] }
  | _ => none }
def residueNoneRow : OpenClaim := { program := "ytnjblppapmflhaa", sum := "3817ee1b33e1894f58bb8ef0bc9d0750b4f4108d07df5acfd7c851bc5818e60b", func := "obscura/obscuralaw04.ResidueNone", spec := "residueNone", unfollowed := true, recurses := true, apart := false }
def ResidueNoneSaid : Prop := residueNoneRow.holds Try.pinned (OpenSpec.ofChange residueNoneSpec)

/-- ITS FALSE NEIGHBOUR: 'it returns false'. Refute it at one input. -/
def residueNoneWrong : ChangeSpec := { name := "residueNone", fn := fun _ => fun
  | [d1, d2, d3] => { results := [.lit (.bool false)], args := [d1, d2, d3] }
  | _ => none }
def ResidueNoneWrongFalsely : Prop := residueNoneRow.holds Try.pinned (OpenSpec.ofChange residueNoneWrong)

/- THE SECOND FORM. 'bulk': how many values and letters a reading holds, each counted each time it is reached (what is shared counts as often as it is met; a slice's spare places count too). A statement '..UptoSaid' is the law's where the arguments, and the package variables that the reading takes, are together of bulk at most 1048576: NARROWER than '..Said'. Prove '..Said' where nothing that the law and all that it calls make is longer than what came in: it says more and counts as full. Else prove '..UptoSaid'. A law counts once. -/
mutual
def uptoBulk {H : Type} : DataW H → Nat
  | .lit (.string bytes) => bytes.length + 1
  | .lit _ => 1
  | .nil => 1
  | .ptr d => uptoBulk d + 1
  | .slice elems spare => uptoBulkAll elems + uptoBulkAll spare + 1
  | .agg parts => uptoBulkAll parts + 1
  | .iface _ d => uptoBulk d + 1
  | .map entries => uptoBulkEntries entries + 1
  | .held _ => 1
def uptoBulkAll {H : Type} : List (DataW H) → Nat
  | [] => 0
  | d :: r => uptoBulk d + uptoBulkAll r
def uptoBulkEntries {H : Type} : List (Lit × DataW H) → Nat
  | [] => 0
  | x :: r => uptoBulkEntry x + uptoBulkEntries r
def uptoBulkEntry {H : Type} : Lit × DataW H → Nat
  | (.string bytes, d) => bytes.length + uptoBulk d + 1
  | (_, d) => uptoBulk d + 1
 end
def uptoSmall : (H : Type) → List (DataW H) → Bool := fun _ ds => decide (uptoBulkAll ds ≤ 1048576)
def OpenSpec.upto (s : _root_.Go.ChangeSpec) : _root_.Go.OpenSpec := { _root_.Go.OpenSpec.ofChange s with cond := some uptoSmall }

/-- 'obscuralaw04.ResidueDivides', WHERE WHAT IT READS IS OF BULK AT MOST 1048576: true; the input reads as it did. -/
def residueDividesUptoRow : OpenClaim := { program := "ytnjblppapmflhaa", sum := "3817ee1b33e1894f58bb8ef0bc9d0750b4f4108d07df5acfd7c851bc5818e60b", func := "obscura/obscuralaw04.ResidueDivides", spec := "residueDivides", unfollowed := true, recurses := true, apart := false, narrowed := true }
def ResidueDividesUptoSaid : Prop := residueDividesUptoRow.holds Try.pinned (OpenSpec.upto residueDividesSpec)

/-- 'obscuralaw04.ResidueBounds', WHERE WHAT IT READS IS OF BULK AT MOST 1048576: true; the input reads as it did. -/
def residueBoundsUptoRow : OpenClaim := { program := "ytnjblppapmflhaa", sum := "3817ee1b33e1894f58bb8ef0bc9d0750b4f4108d07df5acfd7c851bc5818e60b", func := "obscura/obscuralaw04.ResidueBounds", spec := "residueBounds", unfollowed := true, recurses := true, apart := false, narrowed := true }
def ResidueBoundsUptoSaid : Prop := residueBoundsUptoRow.holds Try.pinned (OpenSpec.upto residueBoundsSpec)

/-- 'obscuralaw04.ResidueSplits', WHERE WHAT IT READS IS OF BULK AT MOST 1048576: true; the input reads as it did. -/
def residueSplitsUptoRow : OpenClaim := { program := "ytnjblppapmflhaa", sum := "3817ee1b33e1894f58bb8ef0bc9d0750b4f4108d07df5acfd7c851bc5818e60b", func := "obscura/obscuralaw04.ResidueSplits", spec := "residueSplits", unfollowed := true, recurses := true, apart := false, narrowed := true }
def ResidueSplitsUptoSaid : Prop := residueSplitsUptoRow.holds Try.pinned (OpenSpec.upto residueSplitsSpec)

/-- 'obscuralaw04.ResidueBack', WHERE WHAT IT READS IS OF BULK AT MOST 1048576: true; the input reads as it did. -/
def residueBackUptoRow : OpenClaim := { program := "ytnjblppapmflhaa", sum := "3817ee1b33e1894f58bb8ef0bc9d0750b4f4108d07df5acfd7c851bc5818e60b", func := "obscura/obscuralaw04.ResidueBack", spec := "residueBack", unfollowed := true, recurses := true, apart := false, narrowed := true }
def ResidueBackUptoSaid : Prop := residueBackUptoRow.holds Try.pinned (OpenSpec.upto residueBackSpec)

/-- 'obscuralaw04.ResidueSystems', WHERE WHAT IT READS IS OF BULK AT MOST 1048576: true; the input reads as it did. -/
def residueSystemsUptoRow : OpenClaim := { program := "ytnjblppapmflhaa", sum := "3817ee1b33e1894f58bb8ef0bc9d0750b4f4108d07df5acfd7c851bc5818e60b", func := "obscura/obscuralaw04.ResidueSystems", spec := "residueSystems", unfollowed := true, recurses := true, apart := false, narrowed := true }
def ResidueSystemsUptoSaid : Prop := residueSystemsUptoRow.holds Try.pinned (OpenSpec.upto residueSystemsSpec)

/-- 'obscuralaw04.ResidueNone', WHERE WHAT IT READS IS OF BULK AT MOST 1048576: true; the input reads as it did. -/
def residueNoneUptoRow : OpenClaim := { program := "ytnjblppapmflhaa", sum := "3817ee1b33e1894f58bb8ef0bc9d0750b4f4108d07df5acfd7c851bc5818e60b", func := "obscura/obscuralaw04.ResidueNone", spec := "residueNone", unfollowed := true, recurses := true, apart := false, narrowed := true }
def ResidueNoneUptoSaid : Prop := residueNoneUptoRow.holds Try.pinned (OpenSpec.upto residueNoneSpec)

end Rows
end Go.Proofs.Ytnjblppapmflhaa
