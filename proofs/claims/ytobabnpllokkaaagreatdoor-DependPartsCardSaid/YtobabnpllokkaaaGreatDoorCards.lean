/-
  DERIVED. GIVEN WITH THE SEED: THE CARDS: each row of YtobabnpllokkaaaGreatDoorRows.lean that lists a variable, with what it lists TIED to the program's text (the seventh form; the later family's looks); each row that meets fmt, with fmt's text TOLD by the authors' own Lean function (tested against real Go, not proved from fmt's source: count such statements apart). THE CARD IS WHAT COUNTS. Prove the row's statement (the work); the ties are given (YtobabnpllokkaaaGreatDoorTie.lean); close each card by the builder's one call (the guide's Derived/Test/ToyasCard.lean, 'card_holds'). Laid BY PROGRAM, IN A SANDBOX (cutbox-door.mjs). By AI agents, Wed Nov 11 2026. No macro, syntax, notation, axiom, sorry.
-/
import Derived.Test.YtobabnpllokkaaaGreatDoorRows
import GoSem.ClaimSeven
namespace Go.Proofs.YtobabnpllokkaaaGreatDoor
namespace Rows

/-- THE TIED CARD OF 'pedigreelaw09.DependParts'. -/
def dependPartsCard : Claim7 := { stood := { row := dependPartsRow, standIns := [], harness := (true, "69350d6e5c16b75c91432eaa8814a9a9ec32baed5ead3f11c65c9309f0e1f51b"), looks := true }, kinds := [], alts := [], laidByText := true, laidKinds := [.data, .data, .data], laidTests := true, laidLooks := .later }
def DependPartsCardSaid : Prop := Claim7.holds Tryz.pinned (.plain (OpenSpec.ofChange dependPartsSpec)) dependPartsCard

/-- THE TIED CARD OF 'pedigreelaw09.DependLevels'. -/
def dependLevelsCard : Claim7 := { stood := { row := dependLevelsRow, standIns := [], harness := (true, "69350d6e5c16b75c91432eaa8814a9a9ec32baed5ead3f11c65c9309f0e1f51b"), looks := true }, kinds := [], alts := [], laidByText := true, laidKinds := [.data, .data, .data], laidTests := true, laidLooks := .later }
def DependLevelsCardSaid : Prop := Claim7.holds Tryz.pinned (.plain (OpenSpec.ofChange dependLevelsSpec)) dependLevelsCard

/-- THE TIED CARD OF 'pedigreelaw09.DependReach'. -/
def dependReachCard : Claim7 := { stood := { row := dependReachRow, standIns := [], harness := (true, "69350d6e5c16b75c91432eaa8814a9a9ec32baed5ead3f11c65c9309f0e1f51b"), looks := true }, kinds := [], alts := [], laidByText := true, laidKinds := [.data, .data, .data], laidTests := true, laidLooks := .later }
def DependReachCardSaid : Prop := Claim7.holds Tryz.pinned (.plain (OpenSpec.ofChange dependReachSpec)) dependReachCard

/-- THE SECOND FORM's CARD OF 'pedigreelaw09.DependParts'. -/
def dependPartsUptoCard : Claim7 := { stood := { row := dependPartsUptoRow, standIns := [], harness := (true, "69350d6e5c16b75c91432eaa8814a9a9ec32baed5ead3f11c65c9309f0e1f51b"), looks := true }, kinds := [], alts := [], laidByText := true, laidKinds := [.data, .data, .data], laidTests := true, laidLooks := .later }
def DependPartsUptoCardSaid : Prop := Claim7.holds Tryz.pinned (.plain (OpenSpec.upto dependPartsSpec)) dependPartsUptoCard

/-- THE SECOND FORM's CARD OF 'pedigreelaw09.DependLevels'. -/
def dependLevelsUptoCard : Claim7 := { stood := { row := dependLevelsUptoRow, standIns := [], harness := (true, "69350d6e5c16b75c91432eaa8814a9a9ec32baed5ead3f11c65c9309f0e1f51b"), looks := true }, kinds := [], alts := [], laidByText := true, laidKinds := [.data, .data, .data], laidTests := true, laidLooks := .later }
def DependLevelsUptoCardSaid : Prop := Claim7.holds Tryz.pinned (.plain (OpenSpec.upto dependLevelsSpec)) dependLevelsUptoCard

/-- THE SECOND FORM's CARD OF 'pedigreelaw09.DependReach'. -/
def dependReachUptoCard : Claim7 := { stood := { row := dependReachUptoRow, standIns := [], harness := (true, "69350d6e5c16b75c91432eaa8814a9a9ec32baed5ead3f11c65c9309f0e1f51b"), looks := true }, kinds := [], alts := [], laidByText := true, laidKinds := [.data, .data, .data], laidTests := true, laidLooks := .later }
def DependReachUptoCardSaid : Prop := Claim7.holds Tryz.pinned (.plain (OpenSpec.upto dependReachSpec)) dependReachUptoCard
end Rows
end Go.Proofs.YtobabnpllokkaaaGreatDoor
