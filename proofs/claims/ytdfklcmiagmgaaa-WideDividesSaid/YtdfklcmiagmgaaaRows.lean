/-
  No cell of these rows narrows 'for every input' (looked for: loops, veiled, ifaces, maps, wideKeys, modest, calm, conditions, laid).
  DERIVED. THE GIVEN ROWS OF THIS SEAT. 7 by the template 'for every input the law returns true; each argument reads behind the call as it read before'; 0 by the template 'total and deterministic' (their statements: YtdfklcmiagmgaaaTotals.lean).
  GIVEN WITH THE SEED: the statements are not yours to turn. If you find one false, say at which input.
  Laid BY PROGRAM, IN A SANDBOX (cutbox-rows.mjs): the forced cells as the released guide's own fill.sh prints them over the translation a536750cb4f1b100… (all of the seat's roots in one cut). By AI agents, Wed Nov 11 2026. No macro, syntax, notation, axiom, sorry.
-/
import Derived.Test.YtdfklcmiagmgaaaChecked
import GoSem.Claim
import GoSem.ClaimJoined
import GoSem.ClaimMapViews
import Derived.JoinedTies
import Derived.KernelRfl
namespace Go.Proofs.Ytdfklcmiagmgaaa
/- THE CELL 'sum', in the pinned program and in every row, IS THE sha256 OF THE DUMP (.gsa) THAT YtdfklcmiagmgaaaProg.lean LOADS. Nothing in Lean hashes anything: it is a label: what it is worth is what the hold of that sum in a sandbox is worth. -/
noncomputable def Try.pinned : Pinned := { name := "ytdfklcmiagmgaaa", sum := "a536750cb4f1b10045fe451b7832ac5932135d2e77bfc921c7a1f5dc7ec4e1f2", checked := Try.checked }
namespace Rows
def none {H : Type} : Left H := { results := [], args := [] }

/-- 'obscuralaw02.WideTexts': WHATEVER THE INPUT: true; the input reads as it did. -/
def wideTextsSpec : ChangeSpec := { name := "wideTexts", fn := fun _ => fun
  | [d1, d2] => { results := [.lit (.bool true)], args := [d1, d2] }
  | _ => none }
def wideTextsRow : OpenClaim := { program := "ytdfklcmiagmgaaa", sum := "a536750cb4f1b10045fe451b7832ac5932135d2e77bfc921c7a1f5dc7ec4e1f2", func := "obscura/obscuralaw02.WideTexts", spec := "wideTexts", apart := false }
def WideTextsSaid : Prop := wideTextsRow.holds Try.pinned (OpenSpec.ofChange wideTextsSpec)

/-- ITS FALSE NEIGHBOUR: 'it returns false'. Refute it at one input. -/
def wideTextsWrong : ChangeSpec := { name := "wideTexts", fn := fun _ => fun
  | [d1, d2] => { results := [.lit (.bool false)], args := [d1, d2] }
  | _ => none }
def WideTextsWrongFalsely : Prop := wideTextsRow.holds Try.pinned (OpenSpec.ofChange wideTextsWrong)

/-- 'obscuralaw02.WideBack': WHATEVER THE INPUT: true; the input reads as it did. -/
def wideBackSpec : ChangeSpec := { name := "wideBack", fn := fun _ => fun
  | [d1, d2, d3] => { results := [.lit (.bool true)], args := [d1, d2, d3] }
  | _ => none }
def wideBackRow : OpenClaim := { program := "ytdfklcmiagmgaaa", sum := "a536750cb4f1b10045fe451b7832ac5932135d2e77bfc921c7a1f5dc7ec4e1f2", func := "obscura/obscuralaw02.WideBack", spec := "wideBack", unfollowed := true, recurses := true, apart := false }
def WideBackSaid : Prop := wideBackRow.holds Try.pinned (OpenSpec.ofChange wideBackSpec)

/-- ITS FALSE NEIGHBOUR: 'it returns false'. Refute it at one input. -/
def wideBackWrong : ChangeSpec := { name := "wideBack", fn := fun _ => fun
  | [d1, d2, d3] => { results := [.lit (.bool false)], args := [d1, d2, d3] }
  | _ => none }
def WideBackWrongFalsely : Prop := wideBackRow.holds Try.pinned (OpenSpec.ofChange wideBackWrong)

/-- 'obscuralaw02.WideForms': WHATEVER THE INPUT: true; the input reads as it did. -/
def wideFormsSpec : ChangeSpec := { name := "wideForms", fn := fun _ => fun
  | [d1, d2] => { results := [.lit (.bool true)], args := [d1, d2] }
  | _ => none }
def wideFormsRow : OpenClaim := { program := "ytdfklcmiagmgaaa", sum := "a536750cb4f1b10045fe451b7832ac5932135d2e77bfc921c7a1f5dc7ec4e1f2", func := "obscura/obscuralaw02.WideForms", spec := "wideForms", apart := false }
def WideFormsSaid : Prop := wideFormsRow.holds Try.pinned (OpenSpec.ofChange wideFormsSpec)

/-- ITS FALSE NEIGHBOUR: 'it returns false'. Refute it at one input. -/
def wideFormsWrong : ChangeSpec := { name := "wideForms", fn := fun _ => fun
  | [d1, d2] => { results := [.lit (.bool false)], args := [d1, d2] }
  | _ => none }
def WideFormsWrongFalsely : Prop := wideFormsRow.holds Try.pinned (OpenSpec.ofChange wideFormsWrong)

/-- 'obscuralaw02.WideSums': WHATEVER THE INPUT: true; the input reads as it did. -/
def wideSumsSpec : ChangeSpec := { name := "wideSums", fn := fun _ => fun
  | [d1, d2] => { results := [.lit (.bool true)], args := [d1, d2] }
  | _ => none }
def wideSumsRow : OpenClaim := { program := "ytdfklcmiagmgaaa", sum := "a536750cb4f1b10045fe451b7832ac5932135d2e77bfc921c7a1f5dc7ec4e1f2", func := "obscura/obscuralaw02.WideSums", spec := "wideSums", apart := false }
def WideSumsSaid : Prop := wideSumsRow.holds Try.pinned (OpenSpec.ofChange wideSumsSpec)

/-- ITS FALSE NEIGHBOUR: 'it returns false'. Refute it at one input. -/
def wideSumsWrong : ChangeSpec := { name := "wideSums", fn := fun _ => fun
  | [d1, d2] => { results := [.lit (.bool false)], args := [d1, d2] }
  | _ => none }
def WideSumsWrongFalsely : Prop := wideSumsRow.holds Try.pinned (OpenSpec.ofChange wideSumsWrong)

/-- 'obscuralaw02.WideRings': WHATEVER THE INPUT: true; the input reads as it did. -/
def wideRingsSpec : ChangeSpec := { name := "wideRings", fn := fun _ => fun
  | [d1, d2, d3] => { results := [.lit (.bool true)], args := [d1, d2, d3] }
  | _ => none }
def wideRingsRow : OpenClaim := { program := "ytdfklcmiagmgaaa", sum := "a536750cb4f1b10045fe451b7832ac5932135d2e77bfc921c7a1f5dc7ec4e1f2", func := "obscura/obscuralaw02.WideRings", spec := "wideRings", apart := false }
def WideRingsSaid : Prop := wideRingsRow.holds Try.pinned (OpenSpec.ofChange wideRingsSpec)

/-- ITS FALSE NEIGHBOUR: 'it returns false'. Refute it at one input. -/
def wideRingsWrong : ChangeSpec := { name := "wideRings", fn := fun _ => fun
  | [d1, d2, d3] => { results := [.lit (.bool false)], args := [d1, d2, d3] }
  | _ => none }
def WideRingsWrongFalsely : Prop := wideRingsRow.holds Try.pinned (OpenSpec.ofChange wideRingsWrong)

/-- 'obscuralaw02.WideDivides': WHATEVER THE INPUT: true; the input reads as it did. -/
def wideDividesSpec : ChangeSpec := { name := "wideDivides", fn := fun _ => fun
  | [d1, d2, d3] => { results := [.lit (.bool true)], args := [d1, d2, d3] }
  | _ => none }
def wideDividesRow : OpenClaim := { program := "ytdfklcmiagmgaaa", sum := "a536750cb4f1b10045fe451b7832ac5932135d2e77bfc921c7a1f5dc7ec4e1f2", func := "obscura/obscuralaw02.WideDivides", spec := "wideDivides", apart := false }
def WideDividesSaid : Prop := wideDividesRow.holds Try.pinned (OpenSpec.ofChange wideDividesSpec)

/-- ITS FALSE NEIGHBOUR: 'it returns false'. Refute it at one input. -/
def wideDividesWrong : ChangeSpec := { name := "wideDivides", fn := fun _ => fun
  | [d1, d2, d3] => { results := [.lit (.bool false)], args := [d1, d2, d3] }
  | _ => none }
def WideDividesWrongFalsely : Prop := wideDividesRow.holds Try.pinned (OpenSpec.ofChange wideDividesWrong)

/-- 'obscuralaw02.WideCompares': WHATEVER THE INPUT: true; the input reads as it did. -/
def wideComparesSpec : ChangeSpec := { name := "wideCompares", fn := fun _ => fun
  | [d1, d2] => { results := [.lit (.bool true)], args := [d1, d2] }
  | _ => none }
def wideComparesRow : OpenClaim := { program := "ytdfklcmiagmgaaa", sum := "a536750cb4f1b10045fe451b7832ac5932135d2e77bfc921c7a1f5dc7ec4e1f2", func := "obscura/obscuralaw02.WideCompares", spec := "wideCompares", unfollowed := true, recurses := true, apart := false }
def WideComparesSaid : Prop := wideComparesRow.holds Try.pinned (OpenSpec.ofChange wideComparesSpec)

/-- ITS FALSE NEIGHBOUR: 'it returns false'. Refute it at one input. -/
def wideComparesWrong : ChangeSpec := { name := "wideCompares", fn := fun _ => fun
  | [d1, d2] => { results := [.lit (.bool false)], args := [d1, d2] }
  | _ => none }
def WideComparesWrongFalsely : Prop := wideComparesRow.holds Try.pinned (OpenSpec.ofChange wideComparesWrong)

/- THE SECOND FORM. 'bulk': how many values and letters a reading holds, each counted each time it is reached (what is shared counts as often as it is met; a slice's spare places count too). A statement '..UptoSaid' is the law's where the arguments, and the package variables that the reading takes, are together of bulk at most 1048576: NARROWER than '..Said'. Prove '..Said' where nothing that the law and all that it calls make is longer than what came in: it says more and counts as full. Else prove '..UptoSaid'. A law counts once. -/
mutual
def uptoBulk {H : Type} : DataW H → Nat
  | .lit (.string bytes) => bytes.length + 1
  | .lit _ => 1
  | .nil => 1
  | .ptr d => uptoBulk d + 1
  | .slice elems spare => uptoBulkAll elems + uptoBulkAll spare + 1
  | .agg parts => uptoBulkAll parts + 1
  | .iface _ d => uptoBulk d + 1
  | .map entries => uptoBulkEntries entries + 1
  | .held _ => 1
def uptoBulkAll {H : Type} : List (DataW H) → Nat
  | [] => 0
  | d :: r => uptoBulk d + uptoBulkAll r
def uptoBulkEntries {H : Type} : List (Lit × DataW H) → Nat
  | [] => 0
  | x :: r => uptoBulkEntry x + uptoBulkEntries r
def uptoBulkEntry {H : Type} : Lit × DataW H → Nat
  | (.string bytes, d) => bytes.length + uptoBulk d + 1
  | (_, d) => uptoBulk d + 1
 end
def uptoSmall : (H : Type) → List (DataW H) → Bool := fun _ ds => decide (uptoBulkAll ds ≤ 1048576)
def OpenSpec.upto (s : _root_.Go.ChangeSpec) : _root_.Go.OpenSpec := { _root_.Go.OpenSpec.ofChange s with cond := some uptoSmall }

/-- 'obscuralaw02.WideTexts', WHERE WHAT IT READS IS OF BULK AT MOST 1048576: true; the input reads as it did. -/
def wideTextsUptoRow : OpenClaim := { program := "ytdfklcmiagmgaaa", sum := "a536750cb4f1b10045fe451b7832ac5932135d2e77bfc921c7a1f5dc7ec4e1f2", func := "obscura/obscuralaw02.WideTexts", spec := "wideTexts", apart := false, narrowed := true }
def WideTextsUptoSaid : Prop := wideTextsUptoRow.holds Try.pinned (OpenSpec.upto wideTextsSpec)

/-- 'obscuralaw02.WideBack', WHERE WHAT IT READS IS OF BULK AT MOST 1048576: true; the input reads as it did. -/
def wideBackUptoRow : OpenClaim := { program := "ytdfklcmiagmgaaa", sum := "a536750cb4f1b10045fe451b7832ac5932135d2e77bfc921c7a1f5dc7ec4e1f2", func := "obscura/obscuralaw02.WideBack", spec := "wideBack", unfollowed := true, recurses := true, apart := false, narrowed := true }
def WideBackUptoSaid : Prop := wideBackUptoRow.holds Try.pinned (OpenSpec.upto wideBackSpec)

/-- 'obscuralaw02.WideForms', WHERE WHAT IT READS IS OF BULK AT MOST 1048576: true; the input reads as it did. -/
def wideFormsUptoRow : OpenClaim := { program := "ytdfklcmiagmgaaa", sum := "a536750cb4f1b10045fe451b7832ac5932135d2e77bfc921c7a1f5dc7ec4e1f2", func := "obscura/obscuralaw02.WideForms", spec := "wideForms", apart := false, narrowed := true }
def WideFormsUptoSaid : Prop := wideFormsUptoRow.holds Try.pinned (OpenSpec.upto wideFormsSpec)

/-- 'obscuralaw02.WideSums', WHERE WHAT IT READS IS OF BULK AT MOST 1048576: true; the input reads as it did. -/
def wideSumsUptoRow : OpenClaim := { program := "ytdfklcmiagmgaaa", sum := "a536750cb4f1b10045fe451b7832ac5932135d2e77bfc921c7a1f5dc7ec4e1f2", func := "obscura/obscuralaw02.WideSums", spec := "wideSums", apart := false, narrowed := true }
def WideSumsUptoSaid : Prop := wideSumsUptoRow.holds Try.pinned (OpenSpec.upto wideSumsSpec)

/-- 'obscuralaw02.WideRings', WHERE WHAT IT READS IS OF BULK AT MOST 1048576: true; the input reads as it did. -/
def wideRingsUptoRow : OpenClaim := { program := "ytdfklcmiagmgaaa", sum := "a536750cb4f1b10045fe451b7832ac5932135d2e77bfc921c7a1f5dc7ec4e1f2", func := "obscura/obscuralaw02.WideRings", spec := "wideRings", apart := false, narrowed := true }
def WideRingsUptoSaid : Prop := wideRingsUptoRow.holds Try.pinned (OpenSpec.upto wideRingsSpec)

/-- 'obscuralaw02.WideDivides', WHERE WHAT IT READS IS OF BULK AT MOST 1048576: true; the input reads as it did. -/
def wideDividesUptoRow : OpenClaim := { program := "ytdfklcmiagmgaaa", sum := "a536750cb4f1b10045fe451b7832ac5932135d2e77bfc921c7a1f5dc7ec4e1f2", func := "obscura/obscuralaw02.WideDivides", spec := "wideDivides", apart := false, narrowed := true }
def WideDividesUptoSaid : Prop := wideDividesUptoRow.holds Try.pinned (OpenSpec.upto wideDividesSpec)

/-- 'obscuralaw02.WideCompares', WHERE WHAT IT READS IS OF BULK AT MOST 1048576: true; the input reads as it did. -/
def wideComparesUptoRow : OpenClaim := { program := "ytdfklcmiagmgaaa", sum := "a536750cb4f1b10045fe451b7832ac5932135d2e77bfc921c7a1f5dc7ec4e1f2", func := "obscura/obscuralaw02.WideCompares", spec := "wideCompares", unfollowed := true, recurses := true, apart := false, narrowed := true }
def WideComparesUptoSaid : Prop := wideComparesUptoRow.holds Try.pinned (OpenSpec.upto wideComparesSpec)

end Rows
end Go.Proofs.Ytdfklcmiagmgaaa
