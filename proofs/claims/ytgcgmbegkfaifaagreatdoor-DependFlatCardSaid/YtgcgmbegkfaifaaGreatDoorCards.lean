/-
  DERIVED. GIVEN WITH THE SEED: THE CARDS: each row of YtgcgmbegkfaifaaGreatDoorRows.lean that lists a variable, with what it lists TIED to the program's text (the seventh form; the later family's looks); each row that meets fmt, with fmt's text TOLD by the authors' own Lean function (tested against real Go, not proved from fmt's source: count such statements apart). THE CARD IS WHAT COUNTS. Prove the row's statement (the work); the ties are given (YtgcgmbegkfaifaaGreatDoorTie.lean); close each card by the builder's one call (the guide's Derived/Test/ToyasCard.lean, 'card_holds'). Laid BY PROGRAM, IN A SANDBOX (cutbox-door.mjs). By AI agents, Wed Nov 11 2026. No macro, syntax, notation, axiom, sorry.
-/
import Derived.Test.YtgcgmbegkfaifaaGreatDoorRows
import GoSem.ClaimSeven
namespace Go.Proofs.YtgcgmbegkfaifaaGreatDoor
namespace Rows

/-- THE TIED CARD OF 'pedigreelaw09.DependFlat'. -/
def dependFlatCard : Claim7 := { stood := { row := dependFlatRow, standIns := [], harness := (true, "50243b4337eb87104de127910886c8ee55e9d29fbf30741dd98e3bc93aade4f6"), looks := true }, kinds := [], alts := [], laidByText := true, laidKinds := [.data, .data, .data], laidTests := true, laidLooks := .later }
def DependFlatCardSaid : Prop := Claim7.holds Tryz.pinned (.plain (OpenSpec.ofChange dependFlatSpec)) dependFlatCard

/-- THE SECOND FORM's CARD OF 'pedigreelaw09.DependFlat'. -/
def dependFlatUptoCard : Claim7 := { stood := { row := dependFlatUptoRow, standIns := [], harness := (true, "50243b4337eb87104de127910886c8ee55e9d29fbf30741dd98e3bc93aade4f6"), looks := true }, kinds := [], alts := [], laidByText := true, laidKinds := [.data, .data, .data], laidTests := true, laidLooks := .later }
def DependFlatUptoCardSaid : Prop := Claim7.holds Tryz.pinned (.plain (OpenSpec.upto dependFlatSpec)) dependFlatUptoCard
end Rows
end Go.Proofs.YtgcgmbegkfaifaaGreatDoor
