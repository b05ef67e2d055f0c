/-
  DERIVED. GIVEN WITH THE SEED: THE CARDS: each row of YteaiehpgigaoaaaGreatDoorRows.lean that lists a variable, with what it lists TIED to the program's text (the seventh form; the later family's looks); each row that meets fmt, with fmt's text TOLD by the authors' own Lean function (tested against real Go, not proved from fmt's source: count such statements apart). THE CARD IS WHAT COUNTS. Prove the row's statement (the work); the ties are given (YteaiehpgigaoaaaGreatDoorTie.lean); close each card by the builder's one call (the guide's Derived/Test/ToyasCard.lean, 'card_holds'). Laid BY PROGRAM, IN A SANDBOX (cutbox-door.mjs). By AI agents, Wed Nov 11 2026. No macro, syntax, notation, axiom, sorry.
-/
import Derived.Test.YteaiehpgigaoaaaGreatDoorRows
import GoSem.ClaimSeven
namespace Go.Proofs.YteaiehpgigaoaaaGreatDoor
namespace Rows

/-- THE TIED CARD OF 'laws.FnExactDescribeExample'. -/
def fnExactDescribeExampleCard : Claim7 := { stood := { row := fnExactDescribeExampleRow, standIns := [], harness := (true, "bac03d92fe9fba3f17917cc6b103dfc6d4405fbefbec27d33a63a49197e10a6b"), looks := false }, kinds := [], alts := [], laidByText := true, laidKinds := [.data, .data, .data], laidTests := true, laidLooks := .later }
def FnExactDescribeExampleCardSaid : Prop := Claim7.holds Tryz.pinned (.plain (OpenSpec.ofChange fnExactDescribeExampleSpec)) fnExactDescribeExampleCard

/-- THE TIED CARD OF 'laws.FnExamples'. -/
def fnExamplesCard : Claim7 := { stood := { row := fnExamplesRow, standIns := [], harness := (true, "bac03d92fe9fba3f17917cc6b103dfc6d4405fbefbec27d33a63a49197e10a6b"), looks := false }, kinds := [], alts := [], laidByText := true, laidKinds := [.data, .data, .data], laidTests := true, laidLooks := .later }
def FnExamplesCardSaid : Prop := Claim7.holds Tryz.pinned (.plain (OpenSpec.ofChange fnExamplesSpec)) fnExamplesCard

/-- THE SECOND FORM's CARD OF 'laws.FnExactDescribeExample'. -/
def fnExactDescribeExampleUptoCard : Claim7 := { stood := { row := fnExactDescribeExampleUptoRow, standIns := [], harness := (true, "bac03d92fe9fba3f17917cc6b103dfc6d4405fbefbec27d33a63a49197e10a6b"), looks := false }, kinds := [], alts := [], laidByText := true, laidKinds := [.data, .data, .data], laidTests := true, laidLooks := .later }
def FnExactDescribeExampleUptoCardSaid : Prop := Claim7.holds Tryz.pinned (.plain (OpenSpec.upto fnExactDescribeExampleSpec)) fnExactDescribeExampleUptoCard

/-- THE SECOND FORM's CARD OF 'laws.FnExamples'. -/
def fnExamplesUptoCard : Claim7 := { stood := { row := fnExamplesUptoRow, standIns := [], harness := (true, "bac03d92fe9fba3f17917cc6b103dfc6d4405fbefbec27d33a63a49197e10a6b"), looks := false }, kinds := [], alts := [], laidByText := true, laidKinds := [.data, .data, .data], laidTests := true, laidLooks := .later }
def FnExamplesUptoCardSaid : Prop := Claim7.holds Tryz.pinned (.plain (OpenSpec.upto fnExamplesSpec)) fnExamplesUptoCard
end Rows
end Go.Proofs.YteaiehpgigaoaaaGreatDoor
