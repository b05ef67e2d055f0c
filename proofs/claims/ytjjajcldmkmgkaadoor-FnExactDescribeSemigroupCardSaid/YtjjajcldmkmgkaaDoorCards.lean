/-
  DERIVED. GIVEN WITH THE SEED: THE CARDS: each row of YtjjajcldmkmgkaaDoorRows.lean that lists a variable, with what it lists TIED to the program's text (the seventh form; the later family's looks); each row that meets fmt, with fmt's text TOLD by the authors' own Lean function (tested against real Go, not proved from fmt's source: count such statements apart). THE CARD IS WHAT COUNTS. Prove the row's statement (the work); the ties are given (YtjjajcldmkmgkaaDoorTie.lean); close each card by the builder's one call (the guide's Derived/Test/ToyasCard.lean, 'card_holds'). Laid BY PROGRAM, IN A SANDBOX (cutbox-door.mjs). By AI agents, Wed Nov 11 2026. No macro, syntax, notation, axiom, sorry.
-/
import Derived.Test.YtjjajcldmkmgkaaDoorRows
import GoSem.ClaimSeven
namespace Go.Proofs.YtjjajcldmkmgkaaDoor
namespace Rows

/-- THE TIED CARD OF 'laws.FnExactDescribeSemigroup'. -/
def fnExactDescribeSemigroupCard : Claim7 := { stood := { row := fnExactDescribeSemigroupRow, standIns := [], harness := (true, "3c31d7f8e199c33ff05f81ee7485609bbb579b7df11e34bb6475cfc93cffa7d7"), looks := false }, kinds := [], alts := [], laidByText := true, laidKinds := [.data, .data, .data], laidTests := true, laidLooks := .later }
def FnExactDescribeSemigroupCardSaid : Prop := Claim7.holds Tryd.pinned (.plain (OpenSpec.ofChange fnExactDescribeSemigroupSpec)) fnExactDescribeSemigroupCard

/-- THE SECOND FORM's CARD OF 'laws.FnExactDescribeSemigroup'. -/
def fnExactDescribeSemigroupUptoCard : Claim7 := { stood := { row := fnExactDescribeSemigroupUptoRow, standIns := [], harness := (true, "3c31d7f8e199c33ff05f81ee7485609bbb579b7df11e34bb6475cfc93cffa7d7"), looks := false }, kinds := [], alts := [], laidByText := true, laidKinds := [.data, .data, .data], laidTests := true, laidLooks := .later }
def FnExactDescribeSemigroupUptoCardSaid : Prop := Claim7.holds Tryd.pinned (.plain (OpenSpec.upto fnExactDescribeSemigroupSpec)) fnExactDescribeSemigroupUptoCard
end Rows
end Go.Proofs.YtjjajcldmkmgkaaDoor
