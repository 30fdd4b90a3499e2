/-
  DERIVED. GIVEN WITH THE SEED: THE CARDS: each row of YtoggmplkbiidhaaGreatDoorRows.lean that lists a variable, with what it lists TIED to the program's text (the seventh form; the later family's looks); each row that meets fmt, with fmt's text TOLD by the authors' own Lean function (tested against real Go, not proved from fmt's source: count such statements apart). THE CARD IS WHAT COUNTS. Prove the row's statement (the work); the ties are given (YtoggmplkbiidhaaGreatDoorTie.lean); close each card by the builder's one call (the guide's Derived/Test/ToyasCard.lean, 'card_holds'). Laid BY PROGRAM, IN A SANDBOX (cutbox-door.mjs). By AI agents, Wed Nov 11 2026. No macro, syntax, notation, axiom, sorry.
-/
import Derived.Test.YtoggmplkbiidhaaGreatDoorRows
import GoSem.ClaimSeven
namespace Go.Proofs.YtoggmplkbiidhaaGreatDoor
namespace Rows

/-- THE TIED CARD OF 'obscuralaw36.JobsPlays'. -/
def jobsPlaysCard : Claim7 := { stood := { row := jobsPlaysRow, standIns := [], harness := (true, "4dab2445cf331c3692628232861f3d526265451f2874a9cbefbddc099855480c"), looks := true }, kinds := [], alts := [], laidByText := true, laidKinds := [.funcs], laidTests := true, laidLooks := .later }
def JobsPlaysCardSaid : Prop := Claim7.holds Tryz.pinned (.plain (OpenSpec.ofChange jobsPlaysSpec)) jobsPlaysCard

/-- THE SECOND FORM's CARD OF 'obscuralaw36.JobsPlays'. -/
def jobsPlaysUptoCard : Claim7 := { stood := { row := jobsPlaysUptoRow, standIns := [], harness := (true, "4dab2445cf331c3692628232861f3d526265451f2874a9cbefbddc099855480c"), looks := true }, kinds := [], alts := [], laidByText := true, laidKinds := [.funcs], laidTests := true, laidLooks := .later }
def JobsPlaysUptoCardSaid : Prop := Claim7.holds Tryz.pinned (.plain (OpenSpec.upto jobsPlaysSpec)) jobsPlaysUptoCard
end Rows
end Go.Proofs.YtoggmplkbiidhaaGreatDoor
