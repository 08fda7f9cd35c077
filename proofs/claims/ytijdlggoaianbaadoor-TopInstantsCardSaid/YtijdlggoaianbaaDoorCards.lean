/-
  DERIVED. GIVEN WITH THE SEED: THE CARDS: each row of YtijdlggoaianbaaDoorRows.lean that lists a variable, with what it lists TIED to the program's text (the seventh form; the later family's looks); each row that meets fmt, with fmt's text TOLD by the authors' own Lean function (tested against real Go, not proved from fmt's source: count such statements apart). THE CARD IS WHAT COUNTS. Prove the row's statement (the work); the ties are given (YtijdlggoaianbaaDoorTie.lean); close each card by the builder's one call (the guide's Derived/Test/ToyasCard.lean, 'card_holds'). Laid BY PROGRAM, IN A SANDBOX (cutbox-door.mjs). By AI agents, Wed Nov 11 2026. No macro, syntax, notation, axiom, sorry.
-/
import Derived.Test.YtijdlggoaianbaaDoorRows
import GoSem.ClaimSeven
namespace Go.Proofs.YtijdlggoaianbaaDoor
namespace Rows

/-- THE TIED CARD OF 'lotterytop.TopInstants'. -/
def topInstantsCard : Claim7 := { stood := { row := topInstantsRow, standIns := [], harness := (true, "b2f95cf73959e3e5ca8fbd2d8d23d64e31fe3b6be40f769013008ac0b97f121c"), looks := false }, kinds := [], alts := [], laidByText := true, laidKinds := [.data], laidTests := true, laidLooks := .later }
def TopInstantsCardSaid : Prop := Claim7.holds Tryd.pinned (.plain (OpenSpec.ofChange topInstantsSpec)) topInstantsCard

/-- THE SECOND FORM's CARD OF 'lotterytop.TopInstants'. -/
def topInstantsUptoCard : Claim7 := { stood := { row := topInstantsUptoRow, standIns := [], harness := (true, "b2f95cf73959e3e5ca8fbd2d8d23d64e31fe3b6be40f769013008ac0b97f121c"), looks := false }, kinds := [], alts := [], laidByText := true, laidKinds := [.data], laidTests := true, laidLooks := .later }
def TopInstantsUptoCardSaid : Prop := Claim7.holds Tryd.pinned (.plain (OpenSpec.upto topInstantsSpec)) topInstantsUptoCard
end Rows
end Go.Proofs.YtijdlggoaianbaaDoor
