/-
  No cell of these rows narrows 'for every input' (looked for: loops, veiled, ifaces, maps, wideKeys, modest, calm, conditions, laid).
  DERIVED. THE GIVEN ROWS OF THIS SEAT. 4 by the template 'for every input the law returns true; each argument reads behind the call as it read before'; 0 by the template 'total and deterministic' (their statements: YtfiajfjaamfeoaaTotals.lean).
  GIVEN WITH THE SEED: the statements are not yours to turn. If you find one false, say at which input.
  Laid BY PROGRAM, IN A SANDBOX (cutbox-rows.mjs): the forced cells as the released guide's own fill.sh prints them over the translation bd6afce3f8fe70f4… (all of the seat's roots in one cut). By AI agents, Wed Nov 11 2026. No macro, syntax, notation, axiom, sorry.
-/
import Derived.Test.YtfiajfjaamfeoaaChecked
import GoSem.Claim
import GoSem.ClaimJoined
import GoSem.ClaimMapViews
import Derived.JoinedTies
import Derived.KernelRfl
namespace Go.Proofs.Ytfiajfjaamfeoaa
/- THE CELL 'sum', in the pinned program and in every row, IS THE sha256 OF THE DUMP (.gsa) THAT YtfiajfjaamfeoaaProg.lean LOADS. Nothing in Lean hashes anything: it is a label: what it is worth is what the hold of that sum in a sandbox is worth. -/
noncomputable def Try.pinned : Pinned := { name := "ytfiajfjaamfeoaa", sum := "bd6afce3f8fe70f4ca0fd7cefe2a61334bc130233c1ebf7038498f74286c0b9a", checked := Try.checked }
namespace Rows
def none {H : Type} : Left H := { results := [], args := [] }

/-- 'obscuralaw11.SpongePermutes': WHATEVER THE INPUT: true; the input reads as it did. -/
def spongePermutesSpec : ChangeSpec := { name := "spongePermutes", fn := fun _ => fun
  | [d1, d2] => { results := [.lit (.bool true)], args := [d1, d2] }
  | _ => none }
def spongePermutesRow : OpenClaim := { program := "ytfiajfjaamfeoaa", sum := "bd6afce3f8fe70f4ca0fd7cefe2a61334bc130233c1ebf7038498f74286c0b9a", func := "obscura/obscuralaw11.SpongePermutes", spec := "spongePermutes", unfollowed := true, recurses := true, apart := false }
def SpongePermutesSaid : Prop := spongePermutesRow.holds Try.pinned (OpenSpec.ofChange spongePermutesSpec)

/-- ITS FALSE NEIGHBOUR: 'it returns false'. Refute it at one input. -/
def spongePermutesWrong : ChangeSpec := { name := "spongePermutes", fn := fun _ => fun
  | [d1, d2] => { results := [.lit (.bool false)], args := [d1, d2] }
  | _ => none }
def SpongePermutesWrongFalsely : Prop := spongePermutesRow.holds Try.pinned (OpenSpec.ofChange spongePermutesWrong)

/-- 'obscuralaw11.SpongeApart': WHATEVER THE INPUT: true; the input reads as it did. -/
def spongeApartSpec : ChangeSpec := { name := "spongeApart", fn := fun _ => fun
  | [d] => { results := [.lit (.bool true)], args := [d] }
  | _ => none }
def spongeApartRow : OpenClaim := { program := "ytfiajfjaamfeoaa", sum := "bd6afce3f8fe70f4ca0fd7cefe2a61334bc130233c1ebf7038498f74286c0b9a", func := "obscura/obscuralaw11.SpongeApart", spec := "spongeApart", unfollowed := true, recurses := true, apart := false }
def SpongeApartSaid : Prop := spongeApartRow.holds Try.pinned (OpenSpec.ofChange spongeApartSpec)

/-- ITS FALSE NEIGHBOUR: 'it returns false'. Refute it at one input. -/
def spongeApartWrong : ChangeSpec := { name := "spongeApart", fn := fun _ => fun
  | [d] => { results := [.lit (.bool false)], args := [d] }
  | _ => none }
def SpongeApartWrongFalsely : Prop := spongeApartRow.holds Try.pinned (OpenSpec.ofChange spongeApartWrong)

/-- 'obscuralaw11.SpongeDigests': WHATEVER THE INPUT: true; the input reads as it did. -/
def spongeDigestsSpec : ChangeSpec := { name := "spongeDigests", fn := fun _ => fun
  | [d1, d2, d3] => { results := [.lit (.bool true)], args := [d1, d2, d3] }
  | _ => none }
def spongeDigestsRow : OpenClaim := { program := "ytfiajfjaamfeoaa", sum := "bd6afce3f8fe70f4ca0fd7cefe2a61334bc130233c1ebf7038498f74286c0b9a", func := "obscura/obscuralaw11.SpongeDigests", spec := "spongeDigests", unfollowed := true, recurses := true, apart := false }
def SpongeDigestsSaid : Prop := spongeDigestsRow.holds Try.pinned (OpenSpec.ofChange spongeDigestsSpec)

/-- ITS FALSE NEIGHBOUR: 'it returns false'. Refute it at one input. -/
def spongeDigestsWrong : ChangeSpec := { name := "spongeDigests", fn := fun _ => fun
  | [d1, d2, d3] => { results := [.lit (.bool false)], args := [d1, d2, d3] }
  | _ => none }
def SpongeDigestsWrongFalsely : Prop := spongeDigestsRow.holds Try.pinned (OpenSpec.ofChange spongeDigestsWrong)

/-- 'obscuralaw11.SpongeLists': WHATEVER THE INPUT: true; the input reads as it did. -/
def spongeListsSpec : ChangeSpec := { name := "spongeLists", fn := fun _ => fun
  | [d1, d2] => { results := [.lit (.bool true)], args := [d1, d2] }
  | _ => none }
def spongeListsRow : OpenClaim := { program := "ytfiajfjaamfeoaa", sum := "bd6afce3f8fe70f4ca0fd7cefe2a61334bc130233c1ebf7038498f74286c0b9a", func := "obscura/obscuralaw11.SpongeLists", spec := "spongeLists", unfollowed := true, recurses := true, apart := false }
def SpongeListsSaid : Prop := spongeListsRow.holds Try.pinned (OpenSpec.ofChange spongeListsSpec)

/-- ITS FALSE NEIGHBOUR: 'it returns false'. Refute it at one input. -/
def spongeListsWrong : ChangeSpec := { name := "spongeLists", fn := fun _ => fun
  | [d1, d2] => { results := [.lit (.bool false)], args := [d1, d2] }
  | _ => none }
def SpongeListsWrongFalsely : Prop := spongeListsRow.holds Try.pinned (OpenSpec.ofChange spongeListsWrong)

/- THE SECOND FORM. 'bulk': how many values and letters a reading holds, each counted each time it is reached (what is shared counts as often as it is met; a slice's spare places count too). A statement '..UptoSaid' is the law's where the arguments, and the package variables that the reading takes, are together of bulk at most 1048576: NARROWER than '..Said'. Prove '..Said' where nothing that the law and all that it calls make is longer than what came in: it says more and counts as full. Else prove '..UptoSaid'. A law counts once. -/
mutual
def uptoBulk {H : Type} : DataW H → Nat
  | .lit (.string bytes) => bytes.length + 1
  | .lit _ => 1
  | .nil => 1
  | .ptr d => uptoBulk d + 1
  | .slice elems spare => uptoBulkAll elems + uptoBulkAll spare + 1
  | .agg parts => uptoBulkAll parts + 1
  | .iface _ d => uptoBulk d + 1
  | .map entries => uptoBulkEntries entries + 1
  | .held _ => 1
def uptoBulkAll {H : Type} : List (DataW H) → Nat
  | [] => 0
  | d :: r => uptoBulk d + uptoBulkAll r
def uptoBulkEntries {H : Type} : List (Lit × DataW H) → Nat
  | [] => 0
  | x :: r => uptoBulkEntry x + uptoBulkEntries r
def uptoBulkEntry {H : Type} : Lit × DataW H → Nat
  | (.string bytes, d) => bytes.length + uptoBulk d + 1
  | (_, d) => uptoBulk d + 1
 end
def uptoSmall : (H : Type) → List (DataW H) → Bool := fun _ ds => decide (uptoBulkAll ds ≤ 1048576)
def OpenSpec.upto (s : _root_.Go.ChangeSpec) : _root_.Go.OpenSpec := { _root_.Go.OpenSpec.ofChange s with cond := some uptoSmall }

/-- 'obscuralaw11.SpongePermutes', WHERE WHAT IT READS IS OF BULK AT MOST 1048576: true; the input reads as it did. -/
def spongePermutesUptoRow : OpenClaim := { program := "ytfiajfjaamfeoaa", sum := "bd6afce3f8fe70f4ca0fd7cefe2a61334bc130233c1ebf7038498f74286c0b9a", func := "obscura/obscuralaw11.SpongePermutes", spec := "spongePermutes", unfollowed := true, recurses := true, apart := false, narrowed := true }
def SpongePermutesUptoSaid : Prop := spongePermutesUptoRow.holds Try.pinned (OpenSpec.upto spongePermutesSpec)

/-- 'obscuralaw11.SpongeApart', WHERE WHAT IT READS IS OF BULK AT MOST 1048576: true; the input reads as it did. -/
def spongeApartUptoRow : OpenClaim := { program := "ytfiajfjaamfeoaa", sum := "bd6afce3f8fe70f4ca0fd7cefe2a61334bc130233c1ebf7038498f74286c0b9a", func := "obscura/obscuralaw11.SpongeApart", spec := "spongeApart", unfollowed := true, recurses := true, apart := false, narrowed := true }
def SpongeApartUptoSaid : Prop := spongeApartUptoRow.holds Try.pinned (OpenSpec.upto spongeApartSpec)

/-- 'obscuralaw11.SpongeDigests', WHERE WHAT IT READS IS OF BULK AT MOST 1048576: true; the input reads as it did. -/
def spongeDigestsUptoRow : OpenClaim := { program := "ytfiajfjaamfeoaa", sum := "bd6afce3f8fe70f4ca0fd7cefe2a61334bc130233c1ebf7038498f74286c0b9a", func := "obscura/obscuralaw11.SpongeDigests", spec := "spongeDigests", unfollowed := true, recurses := true, apart := false, narrowed := true }
def SpongeDigestsUptoSaid : Prop := spongeDigestsUptoRow.holds Try.pinned (OpenSpec.upto spongeDigestsSpec)

/-- 'obscuralaw11.SpongeLists', WHERE WHAT IT READS IS OF BULK AT MOST 1048576: true; the input reads as it did. -/
def spongeListsUptoRow : OpenClaim := { program := "ytfiajfjaamfeoaa", sum := "bd6afce3f8fe70f4ca0fd7cefe2a61334bc130233c1ebf7038498f74286c0b9a", func := "obscura/obscuralaw11.SpongeLists", spec := "spongeLists", unfollowed := true, recurses := true, apart := false, narrowed := true }
def SpongeListsUptoSaid : Prop := spongeListsUptoRow.holds Try.pinned (OpenSpec.upto spongeListsSpec)

end Rows
end Go.Proofs.Ytfiajfjaamfeoaa
