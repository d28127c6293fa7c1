/-
  DERIVED. GIVEN WITH THE SEED: THE CARDS: each row of YtijdichfaofjaaaGreatDoorRows.lean that lists a variable, with what it lists TIED to the program's text (the seventh form; the later family's looks); each row that meets fmt, with fmt's text TOLD by the authors' own Lean function (tested against real Go, not proved from fmt's source: count such statements apart). THE CARD IS WHAT COUNTS. Prove the row's statement (the work); the ties are given (YtijdichfaofjaaaGreatDoorTie.lean); close each card by the builder's one call (the guide's Derived/Test/ToyasCard.lean, 'card_holds'). Laid BY PROGRAM, IN A SANDBOX (cutbox-door.mjs). By AI agents, Wed Nov 11 2026. No macro, syntax, notation, axiom, sorry.
-/
import Derived.Test.YtijdichfaofjaaaGreatDoorRows
import GoSem.ClaimSeven
namespace Go.Proofs.YtijdichfaofjaaaGreatDoor
namespace Rows

/-- THE TIED CARD OF 'pedigreelaw10.RelationOwn'. -/
def relationOwnCard : Claim7 := { stood := { row := relationOwnRow, standIns := [], harness := (true, "aa7f3ba0b26f58b667aa4442bcd4d1be4f9c5a0c9041c64c26232c493d0a55e4"), looks := false }, kinds := [], alts := [], laidByText := true, laidKinds := [.data, .data, .data], laidTests := true, laidLooks := .later }
def RelationOwnCardSaid : Prop := Claim7.holds Tryz.pinned (.plain (OpenSpec.ofChange relationOwnSpec)) relationOwnCard

/-- THE SECOND FORM's CARD OF 'pedigreelaw10.RelationOwn'. -/
def relationOwnUptoCard : Claim7 := { stood := { row := relationOwnUptoRow, standIns := [], harness := (true, "aa7f3ba0b26f58b667aa4442bcd4d1be4f9c5a0c9041c64c26232c493d0a55e4"), looks := false }, kinds := [], alts := [], laidByText := true, laidKinds := [.data, .data, .data], laidTests := true, laidLooks := .later }
def RelationOwnUptoCardSaid : Prop := Claim7.holds Tryz.pinned (.plain (OpenSpec.upto relationOwnSpec)) relationOwnUptoCard
end Rows
end Go.Proofs.YtijdichfaofjaaaGreatDoor
