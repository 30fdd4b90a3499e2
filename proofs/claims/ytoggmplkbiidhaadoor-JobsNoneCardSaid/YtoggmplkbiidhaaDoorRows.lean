/-
  NARROWER THAN 'FOR EVERY INPUT', by the rows' own cells (each row's printed sentence says how): JobsOrder: laid · JobsNone: laid · JobsSurvive: laid.
  DERIVED. THE GIVEN ROWS OF THIS SEAT. 3 by the template 'for every input the law returns true; each argument reads behind the call as it read before'; 0 by the template 'total and deterministic' (their statements: YtoggmplkbiidhaaDoorTotals.lean).
  GIVEN WITH THE SEED: the statements are not yours to turn. If you find one false, say at which input.
  Laid BY PROGRAM, IN A SANDBOX (cutbox-rows.mjs): the forced cells as the released guide's own fill.sh prints them over the translation 630a60b5a8655553… (all of the seat's roots in one cut). By AI agents, Wed Nov 11 2026. No macro, syntax, notation, axiom, sorry.
-/
import Derived.Test.YtoggmplkbiidhaaDoorChecked
import GoSem.Claim
import GoSem.ClaimJoined
import GoSem.ClaimMapViews
import Derived.JoinedTies
import Derived.KernelRfl
namespace Go.Proofs.YtoggmplkbiidhaaDoor
/- THE CELL 'sum', in the pinned program and in every row, IS THE sha256 OF THE DUMP (.gsa) THAT YtoggmplkbiidhaaDoorProg.lean LOADS. Nothing in Lean hashes anything: it is a label: what it is worth is what the hold of that sum in a sandbox is worth. -/
noncomputable def Tryd.pinned : Pinned := { name := "ytoggmplkbiidhaadoor", sum := "630a60b5a8655553eafdaf711db3f7dc23e8b178af295cba4f2429aec27241a6", checked := Tryd.checked }
namespace Rows
def none {H : Type} : Left H := { results := [], args := [] }

/- WHAT THE LISTED PACKAGE-LEVEL VARIABLES READ AS WHEN THE CALL BEGINS. Each datum BY PROGRAM (the guide's laid-datum.mjs) off the statement by which the dump's own 'gosem.cut.vars' lays the variable. In a bare row this is a premise. The card (YtoggmplkbiidhaaDoorCards.lean) ties it to the program's text. -/
def laid_obscura_jobs_readers {H : Type} : DataW H := .iface "func table" (.agg [.nil, .iface "func" (.lit (.string [111, 98, 115, 99, 117, 114, 97, 47, 106, 111, 98, 115, 46, 114, 101, 97, 100, 101, 114, 115, 36, 49])), .iface "func" (.lit (.string [111, 98, 115, 99, 117, 114, 97, 47, 106, 111, 98, 115, 46, 114, 101, 97, 100, 101, 114, 115, 36, 50])), .iface "func" (.lit (.string [111, 98, 115, 99, 117, 114, 97, 47, 106, 111, 98, 115, 46, 114, 101, 97, 100, 101, 114, 115, 36, 51])), .iface "func" (.lit (.string [111, 98, 115, 99, 117, 114, 97, 47, 106, 111, 98, 115, 46, 114, 101, 97, 100, 101, 114, 115, 36, 52])), .iface "func" (.lit (.string [111, 98, 115, 99, 117, 114, 97, 47, 106, 111, 98, 115, 46, 114, 101, 97, 100, 101, 114, 115, 36, 53])), .iface "func" (.lit (.string [111, 98, 115, 99, 117, 114, 97, 47, 106, 111, 98, 115, 46, 114, 101, 97, 100, 101, 114, 115, 36, 54]))])

/-- 'obscuralaw36.JobsOrder': WHATEVER THE INPUT: true; the input reads as it did. -/
def jobsOrderSpec : ChangeSpec := { name := "jobsOrder", fn := fun _ => fun
  | [d] => { results := [.lit (.bool true)], args := [d] }
  | _ => none }
def jobsOrderRow : OpenClaim := { program := "ytoggmplkbiidhaadoor", sum := "630a60b5a8655553eafdaf711db3f7dc23e8b178af295cba4f2429aec27241a6", func := "obscura/obscuralaw36.JobsOrder", spec := "jobsOrder", unfollowed := true, recurses := true, named := ["obscura/jobs.readers"], apart := false, laid := [("obscura/jobs.readers", laid_obscura_jobs_readers)] }
def JobsOrderSaid : Prop := jobsOrderRow.holds Tryd.pinned (OpenSpec.ofChange jobsOrderSpec)

/-- ITS FALSE NEIGHBOUR: 'it returns false'. Refute it at one input. -/
def jobsOrderWrong : ChangeSpec := { name := "jobsOrder", fn := fun _ => fun
  | [d] => { results := [.lit (.bool false)], args := [d] }
  | _ => none }
def JobsOrderWrongFalsely : Prop := jobsOrderRow.holds Tryd.pinned (OpenSpec.ofChange jobsOrderWrong)

/-- 'obscuralaw36.JobsNone': WHATEVER THE INPUT: true; the input reads as it did. -/
def jobsNoneSpec : ChangeSpec := { name := "jobsNone", fn := fun _ => fun
  | [d1, d2] => { results := [.lit (.bool true)], args := [d1, d2] }
  | _ => none }
def jobsNoneRow : OpenClaim := { program := "ytoggmplkbiidhaadoor", sum := "630a60b5a8655553eafdaf711db3f7dc23e8b178af295cba4f2429aec27241a6", func := "obscura/obscuralaw36.JobsNone", spec := "jobsNone", unfollowed := true, recurses := true, named := ["obscura/jobs.readers"], apart := false, laid := [("obscura/jobs.readers", laid_obscura_jobs_readers)] }
def JobsNoneSaid : Prop := jobsNoneRow.holds Tryd.pinned (OpenSpec.ofChange jobsNoneSpec)

/-- ITS FALSE NEIGHBOUR: 'it returns false'. Refute it at one input. -/
def jobsNoneWrong : ChangeSpec := { name := "jobsNone", fn := fun _ => fun
  | [d1, d2] => { results := [.lit (.bool false)], args := [d1, d2] }
  | _ => none }
def JobsNoneWrongFalsely : Prop := jobsNoneRow.holds Tryd.pinned (OpenSpec.ofChange jobsNoneWrong)

/-- 'obscuralaw36.JobsSurvive': WHATEVER THE INPUT: true; the input reads as it did. -/
def jobsSurviveSpec : ChangeSpec := { name := "jobsSurvive", fn := fun _ => fun
  | [d1, d2, d3] => { results := [.lit (.bool true)], args := [d1, d2, d3] }
  | _ => none }
def jobsSurviveRow : OpenClaim := { program := "ytoggmplkbiidhaadoor", sum := "630a60b5a8655553eafdaf711db3f7dc23e8b178af295cba4f2429aec27241a6", func := "obscura/obscuralaw36.JobsSurvive", spec := "jobsSurvive", unfollowed := true, recurses := true, named := ["obscura/jobs.readers"], apart := false, laid := [("obscura/jobs.readers", laid_obscura_jobs_readers)] }
def JobsSurviveSaid : Prop := jobsSurviveRow.holds Tryd.pinned (OpenSpec.ofChange jobsSurviveSpec)

/-- ITS FALSE NEIGHBOUR: 'it returns false'. Refute it at one input. -/
def jobsSurviveWrong : ChangeSpec := { name := "jobsSurvive", fn := fun _ => fun
  | [d1, d2, d3] => { results := [.lit (.bool false)], args := [d1, d2, d3] }
  | _ => none }
def JobsSurviveWrongFalsely : Prop := jobsSurviveRow.holds Tryd.pinned (OpenSpec.ofChange jobsSurviveWrong)

/- THE SECOND FORM. 'bulk': how many values and letters a reading holds, each counted each time it is reached (what is shared counts as often as it is met; a slice's spare places count too). A statement '..UptoSaid' is the law's where the arguments, and the package variables that the reading takes, are together of bulk at most 1048576: NARROWER than '..Said'. Prove '..Said' where nothing that the law and all that it calls make is longer than what came in: it says more and counts as full. Else prove '..UptoSaid'. A law counts once. -/
mutual
def uptoBulk {H : Type} : DataW H → Nat
  | .lit (.string bytes) => bytes.length + 1
  | .lit _ => 1
  | .nil => 1
  | .ptr d => uptoBulk d + 1
  | .slice elems spare => uptoBulkAll elems + uptoBulkAll spare + 1
  | .agg parts => uptoBulkAll parts + 1
  | .iface _ d => uptoBulk d + 1
  | .map entries => uptoBulkEntries entries + 1
  | .held _ => 1
def uptoBulkAll {H : Type} : List (DataW H) → Nat
  | [] => 0
  | d :: r => uptoBulk d + uptoBulkAll r
def uptoBulkEntries {H : Type} : List (Lit × DataW H) → Nat
  | [] => 0
  | x :: r => uptoBulkEntry x + uptoBulkEntries r
def uptoBulkEntry {H : Type} : Lit × DataW H → Nat
  | (.string bytes, d) => bytes.length + uptoBulk d + 1
  | (_, d) => uptoBulk d + 1
 end
def uptoSmall : (H : Type) → List (DataW H) → Bool := fun _ ds => decide (uptoBulkAll ds ≤ 1048576)
def OpenSpec.upto (s : _root_.Go.ChangeSpec) : _root_.Go.OpenSpec := { _root_.Go.OpenSpec.ofChange s with cond := some uptoSmall }

/-- 'obscuralaw36.JobsOrder', WHERE WHAT IT READS IS OF BULK AT MOST 1048576: true; the input reads as it did. -/
def jobsOrderUptoRow : OpenClaim := { program := "ytoggmplkbiidhaadoor", sum := "630a60b5a8655553eafdaf711db3f7dc23e8b178af295cba4f2429aec27241a6", func := "obscura/obscuralaw36.JobsOrder", spec := "jobsOrder", unfollowed := true, recurses := true, named := ["obscura/jobs.readers"], apart := false, laid := [("obscura/jobs.readers", laid_obscura_jobs_readers)], narrowed := true }
def JobsOrderUptoSaid : Prop := jobsOrderUptoRow.holds Tryd.pinned (OpenSpec.upto jobsOrderSpec)

/-- 'obscuralaw36.JobsNone', WHERE WHAT IT READS IS OF BULK AT MOST 1048576: true; the input reads as it did. -/
def jobsNoneUptoRow : OpenClaim := { program := "ytoggmplkbiidhaadoor", sum := "630a60b5a8655553eafdaf711db3f7dc23e8b178af295cba4f2429aec27241a6", func := "obscura/obscuralaw36.JobsNone", spec := "jobsNone", unfollowed := true, recurses := true, named := ["obscura/jobs.readers"], apart := false, laid := [("obscura/jobs.readers", laid_obscura_jobs_readers)], narrowed := true }
def JobsNoneUptoSaid : Prop := jobsNoneUptoRow.holds Tryd.pinned (OpenSpec.upto jobsNoneSpec)

/-- 'obscuralaw36.JobsSurvive', WHERE WHAT IT READS IS OF BULK AT MOST 1048576: true; the input reads as it did. -/
def jobsSurviveUptoRow : OpenClaim := { program := "ytoggmplkbiidhaadoor", sum := "630a60b5a8655553eafdaf711db3f7dc23e8b178af295cba4f2429aec27241a6", func := "obscura/obscuralaw36.JobsSurvive", spec := "jobsSurvive", unfollowed := true, recurses := true, named := ["obscura/jobs.readers"], apart := false, laid := [("obscura/jobs.readers", laid_obscura_jobs_readers)], narrowed := true }
def JobsSurviveUptoSaid : Prop := jobsSurviveUptoRow.holds Tryd.pinned (OpenSpec.upto jobsSurviveSpec)

end Rows
end Go.Proofs.YtoggmplkbiidhaaDoor
