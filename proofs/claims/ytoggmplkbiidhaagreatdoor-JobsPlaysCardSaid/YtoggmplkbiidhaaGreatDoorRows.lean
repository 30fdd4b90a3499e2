/-
  NARROWER THAN 'FOR EVERY INPUT', by the rows' own cells (each row's printed sentence says how): JobsPlays: laid.
  DERIVED. THE GIVEN ROWS OF THIS SEAT. 1 by the template 'for every input the law returns true; each argument reads behind the call as it read before'; 0 by the template 'total and deterministic' (their statements: YtoggmplkbiidhaaGreatDoorTotals.lean).
  GIVEN WITH THE SEED: the statements are not yours to turn. If you find one false, say at which input.
  Laid BY PROGRAM, IN A SANDBOX (cutbox-rows.mjs): the forced cells as the released guide's own fill.sh prints them over the translation afe118dafe648e59… (all of the seat's roots in one cut). By AI agents, Wed Nov 11 2026. No macro, syntax, notation, axiom, sorry.
-/
import Derived.Test.YtoggmplkbiidhaaGreatDoorChecked
import GoSem.Claim
import GoSem.ClaimJoined
import GoSem.ClaimMapViews
import Derived.JoinedTies
import Derived.KernelRfl
namespace Go.Proofs.YtoggmplkbiidhaaGreatDoor
/- THE CELL 'sum', in the pinned program and in every row, IS THE sha256 OF THE DUMP (.gsa) THAT YtoggmplkbiidhaaGreatDoorProg.lean LOADS. Nothing in Lean hashes anything: it is a label: what it is worth is what the hold of that sum in a sandbox is worth. -/
noncomputable def Tryz.pinned : Pinned := { name := "ytoggmplkbiidhaagreatdoor", sum := "afe118dafe648e59bfd250f587a7134c0941b4f58245911bf3cd7924035ea4ef", checked := Tryz.checked }
namespace Rows
def none {H : Type} : Left H := { results := [], args := [] }

/- WHAT THE LISTED PACKAGE-LEVEL VARIABLES READ AS WHEN THE CALL BEGINS. Each datum BY PROGRAM (the guide's laid-datum.mjs) off the statement by which the dump's own 'gosem.cut.vars' lays the variable. In a bare row this is a premise. The card (YtoggmplkbiidhaaGreatDoorCards.lean) ties it to the program's text. -/
def laid_obscura_jobs_readers {H : Type} : DataW H := .iface "func table" (.agg [.nil, .iface "func" (.lit (.string [111, 98, 115, 99, 117, 114, 97, 47, 106, 111, 98, 115, 46, 114, 101, 97, 100, 101, 114, 115, 36, 49])), .iface "func" (.lit (.string [111, 98, 115, 99, 117, 114, 97, 47, 106, 111, 98, 115, 46, 114, 101, 97, 100, 101, 114, 115, 36, 50])), .iface "func" (.lit (.string [111, 98, 115, 99, 117, 114, 97, 47, 106, 111, 98, 115, 46, 114, 101, 97, 100, 101, 114, 115, 36, 51])), .iface "func" (.lit (.string [111, 98, 115, 99, 117, 114, 97, 47, 106, 111, 98, 115, 46, 114, 101, 97, 100, 101, 114, 115, 36, 52])), .iface "func" (.lit (.string [111, 98, 115, 99, 117, 114, 97, 47, 106, 111, 98, 115, 46, 114, 101, 97, 100, 101, 114, 115, 36, 53])), .iface "func" (.lit (.string [111, 98, 115, 99, 117, 114, 97, 47, 106, 111, 98, 115, 46, 114, 101, 97, 100, 101, 114, 115, 36, 54]))])

/-- 'obscuralaw36.JobsPlays': WHATEVER THE INPUT: true; the input reads as it did. -/
def jobsPlaysSpec : ChangeSpec := { name := "jobsPlays", fn := fun _ => fun
  | [d1, d2] => { results := [.lit (.bool true)], args := [d1, d2] }
  | _ => none }
def jobsPlaysRow : OpenClaim := { program := "ytoggmplkbiidhaagreatdoor", sum := "afe118dafe648e59bfd250f587a7134c0941b4f58245911bf3cd7924035ea4ef", func := "obscura/obscuralaw36.JobsPlays", spec := "jobsPlays", unfollowed := true, recurses := true, named := ["obscura/jobs.readers"], apart := false, laid := [("obscura/jobs.readers", laid_obscura_jobs_readers)] }
def JobsPlaysSaid : Prop := jobsPlaysRow.holds Tryz.pinned (OpenSpec.ofChange jobsPlaysSpec)

/-- ITS FALSE NEIGHBOUR: 'it returns false'. Refute it at one input. -/
def jobsPlaysWrong : ChangeSpec := { name := "jobsPlays", fn := fun _ => fun
  | [d1, d2] => { results := [.lit (.bool false)], args := [d1, d2] }
  | _ => none }
def JobsPlaysWrongFalsely : Prop := jobsPlaysRow.holds Tryz.pinned (OpenSpec.ofChange jobsPlaysWrong)

/- THE SECOND FORM. 'bulk': how many values and letters a reading holds, each counted each time it is reached (what is shared counts as often as it is met; a slice's spare places count too). A statement '..UptoSaid' is the law's where the arguments, and the package variables that the reading takes, are together of bulk at most 1048576: NARROWER than '..Said'. Prove '..Said' where nothing that the law and all that it calls make is longer than what came in: it says more and counts as full. Else prove '..UptoSaid'. A law counts once. -/
mutual
def uptoBulk {H : Type} : DataW H → Nat
  | .lit (.string bytes) => bytes.length + 1
  | .lit _ => 1
  | .nil => 1
  | .ptr d => uptoBulk d + 1
  | .slice elems spare => uptoBulkAll elems + uptoBulkAll spare + 1
  | .agg parts => uptoBulkAll parts + 1
  | .iface _ d => uptoBulk d + 1
  | .map entries => uptoBulkEntries entries + 1
  | .held _ => 1
def uptoBulkAll {H : Type} : List (DataW H) → Nat
  | [] => 0
  | d :: r => uptoBulk d + uptoBulkAll r
def uptoBulkEntries {H : Type} : List (Lit × DataW H) → Nat
  | [] => 0
  | x :: r => uptoBulkEntry x + uptoBulkEntries r
def uptoBulkEntry {H : Type} : Lit × DataW H → Nat
  | (.string bytes, d) => bytes.length + uptoBulk d + 1
  | (_, d) => uptoBulk d + 1
 end
def uptoSmall : (H : Type) → List (DataW H) → Bool := fun _ ds => decide (uptoBulkAll ds ≤ 1048576)
def OpenSpec.upto (s : _root_.Go.ChangeSpec) : _root_.Go.OpenSpec := { _root_.Go.OpenSpec.ofChange s with cond := some uptoSmall }

/-- 'obscuralaw36.JobsPlays', WHERE WHAT IT READS IS OF BULK AT MOST 1048576: true; the input reads as it did. -/
def jobsPlaysUptoRow : OpenClaim := { program := "ytoggmplkbiidhaagreatdoor", sum := "afe118dafe648e59bfd250f587a7134c0941b4f58245911bf3cd7924035ea4ef", func := "obscura/obscuralaw36.JobsPlays", spec := "jobsPlays", unfollowed := true, recurses := true, named := ["obscura/jobs.readers"], apart := false, laid := [("obscura/jobs.readers", laid_obscura_jobs_readers)], narrowed := true }
def JobsPlaysUptoSaid : Prop := jobsPlaysUptoRow.holds Tryz.pinned (OpenSpec.upto jobsPlaysSpec)

end Rows
end Go.Proofs.YtoggmplkbiidhaaGreatDoor
