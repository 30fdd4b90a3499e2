/-
  DERIVED. GIVEN WITH THE SEED: THE CARDS: each row of YtoggmplkbiidhaaDoorRows.lean that lists a variable, with what it lists TIED to the program's text (the seventh form; the later family's looks); each row that meets fmt, with fmt's text TOLD by the authors' own Lean function (tested against real Go, not proved from fmt's source: count such statements apart). THE CARD IS WHAT COUNTS. Prove the row's statement (the work); the ties are given (YtoggmplkbiidhaaDoorTie.lean); close each card by the builder's one call (the guide's Derived/Test/ToyasCard.lean, 'card_holds'). Laid BY PROGRAM, IN A SANDBOX (cutbox-door.mjs). By AI agents, Wed Nov 11 2026. No macro, syntax, notation, axiom, sorry.
-/
import Derived.Test.YtoggmplkbiidhaaDoorRows
import GoSem.ClaimSeven
namespace Go.Proofs.YtoggmplkbiidhaaDoor
namespace Rows

/-- THE TIED CARD OF 'obscuralaw36.JobsOrder'. -/
def jobsOrderCard : Claim7 := { stood := { row := jobsOrderRow, standIns := [], harness := (true, "8f069e7232a80030f5388b5453ce13bae5172d1e23b596a83dc5d5e4b619ebb2"), looks := true }, kinds := [], alts := [], laidByText := true, laidKinds := [.funcs], laidTests := true, laidLooks := .later }
def JobsOrderCardSaid : Prop := Claim7.holds Tryd.pinned (.plain (OpenSpec.ofChange jobsOrderSpec)) jobsOrderCard

/-- THE TIED CARD OF 'obscuralaw36.JobsNone'. -/
def jobsNoneCard : Claim7 := { stood := { row := jobsNoneRow, standIns := [], harness := (true, "8f069e7232a80030f5388b5453ce13bae5172d1e23b596a83dc5d5e4b619ebb2"), looks := true }, kinds := [], alts := [], laidByText := true, laidKinds := [.funcs], laidTests := true, laidLooks := .later }
def JobsNoneCardSaid : Prop := Claim7.holds Tryd.pinned (.plain (OpenSpec.ofChange jobsNoneSpec)) jobsNoneCard

/-- THE TIED CARD OF 'obscuralaw36.JobsSurvive'. -/
def jobsSurviveCard : Claim7 := { stood := { row := jobsSurviveRow, standIns := [], harness := (true, "8f069e7232a80030f5388b5453ce13bae5172d1e23b596a83dc5d5e4b619ebb2"), looks := true }, kinds := [], alts := [], laidByText := true, laidKinds := [.funcs], laidTests := true, laidLooks := .later }
def JobsSurviveCardSaid : Prop := Claim7.holds Tryd.pinned (.plain (OpenSpec.ofChange jobsSurviveSpec)) jobsSurviveCard

/-- THE SECOND FORM's CARD OF 'obscuralaw36.JobsOrder'. -/
def jobsOrderUptoCard : Claim7 := { stood := { row := jobsOrderUptoRow, standIns := [], harness := (true, "8f069e7232a80030f5388b5453ce13bae5172d1e23b596a83dc5d5e4b619ebb2"), looks := true }, kinds := [], alts := [], laidByText := true, laidKinds := [.funcs], laidTests := true, laidLooks := .later }
def JobsOrderUptoCardSaid : Prop := Claim7.holds Tryd.pinned (.plain (OpenSpec.upto jobsOrderSpec)) jobsOrderUptoCard

/-- THE SECOND FORM's CARD OF 'obscuralaw36.JobsNone'. -/
def jobsNoneUptoCard : Claim7 := { stood := { row := jobsNoneUptoRow, standIns := [], harness := (true, "8f069e7232a80030f5388b5453ce13bae5172d1e23b596a83dc5d5e4b619ebb2"), looks := true }, kinds := [], alts := [], laidByText := true, laidKinds := [.funcs], laidTests := true, laidLooks := .later }
def JobsNoneUptoCardSaid : Prop := Claim7.holds Tryd.pinned (.plain (OpenSpec.upto jobsNoneSpec)) jobsNoneUptoCard

/-- THE SECOND FORM's CARD OF 'obscuralaw36.JobsSurvive'. -/
def jobsSurviveUptoCard : Claim7 := { stood := { row := jobsSurviveUptoRow, standIns := [], harness := (true, "8f069e7232a80030f5388b5453ce13bae5172d1e23b596a83dc5d5e4b619ebb2"), looks := true }, kinds := [], alts := [], laidByText := true, laidKinds := [.funcs], laidTests := true, laidLooks := .later }
def JobsSurviveUptoCardSaid : Prop := Claim7.holds Tryd.pinned (.plain (OpenSpec.upto jobsSurviveSpec)) jobsSurviveUptoCard
end Rows
end Go.Proofs.YtoggmplkbiidhaaDoor
