/-
  DERIVED. GIVEN WITH THE SEED: THE CARDS: each row of YtdjffkkbjbiihaaGreatDoorRows.lean that lists a variable, with what it lists TIED to the program's text (the seventh form; the later family's looks); each row that meets fmt, with fmt's text TOLD by the authors' own Lean function (tested against real Go, not proved from fmt's source: count such statements apart). THE CARD IS WHAT COUNTS. Prove the row's statement (the work); the ties are given (YtdjffkkbjbiihaaGreatDoorTie.lean); close each card by the builder's one call (the guide's Derived/Test/ToyasCard.lean, 'card_holds'). Laid BY PROGRAM, IN A SANDBOX (cutbox-door.mjs). By AI agents, Wed Nov 11 2026. No macro, syntax, notation, axiom, sorry.
-/
import Derived.Test.YtdjffkkbjbiihaaGreatDoorRows
import GoSem.ClaimSeven
namespace Go.Proofs.YtdjffkkbjbiihaaGreatDoor
namespace Rows

/-- THE TIED CARD OF 'pedigreelaw09.DependOrder'. -/
def dependOrderCard : Claim7 := { stood := { row := dependOrderRow, standIns := [], harness := (true, "21baf469698f4a6b2110372b36661000a5660426cbf8e1c95dd8e048480b1ad8"), looks := true }, kinds := [], alts := [], laidByText := true, laidKinds := [.data, .data, .data], laidTests := true, laidLooks := .later }
def DependOrderCardSaid : Prop := Claim7.holds Tryz.pinned (.plain (OpenSpec.ofChange dependOrderSpec)) dependOrderCard

/-- THE TIED CARD OF 'pedigreelaw09.DependEdges'. -/
def dependEdgesCard : Claim7 := { stood := { row := dependEdgesRow, standIns := [], harness := (true, "21baf469698f4a6b2110372b36661000a5660426cbf8e1c95dd8e048480b1ad8"), looks := true }, kinds := [], alts := [], laidByText := true, laidKinds := [.data, .data, .data], laidTests := true, laidLooks := .later }
def DependEdgesCardSaid : Prop := Claim7.holds Tryz.pinned (.plain (OpenSpec.ofChange dependEdgesSpec)) dependEdgesCard

/-- THE SECOND FORM's CARD OF 'pedigreelaw09.DependOrder'. -/
def dependOrderUptoCard : Claim7 := { stood := { row := dependOrderUptoRow, standIns := [], harness := (true, "21baf469698f4a6b2110372b36661000a5660426cbf8e1c95dd8e048480b1ad8"), looks := true }, kinds := [], alts := [], laidByText := true, laidKinds := [.data, .data, .data], laidTests := true, laidLooks := .later }
def DependOrderUptoCardSaid : Prop := Claim7.holds Tryz.pinned (.plain (OpenSpec.upto dependOrderSpec)) dependOrderUptoCard

/-- THE SECOND FORM's CARD OF 'pedigreelaw09.DependEdges'. -/
def dependEdgesUptoCard : Claim7 := { stood := { row := dependEdgesUptoRow, standIns := [], harness := (true, "21baf469698f4a6b2110372b36661000a5660426cbf8e1c95dd8e048480b1ad8"), looks := true }, kinds := [], alts := [], laidByText := true, laidKinds := [.data, .data, .data], laidTests := true, laidLooks := .later }
def DependEdgesUptoCardSaid : Prop := Claim7.holds Tryz.pinned (.plain (OpenSpec.upto dependEdgesSpec)) dependEdgesUptoCard
end Rows
end Go.Proofs.YtdjffkkbjbiihaaGreatDoor
