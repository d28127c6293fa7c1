/-
  DERIVED. GIVEN WITH THE SEED: THE CARDS: each row of YtkdnplebgmmclaaDoorRows.lean that lists a variable, with what it lists TIED to the program's text (the seventh form; the later family's looks); each row that meets fmt, with fmt's text TOLD by the authors' own Lean function (tested against real Go, not proved from fmt's source: count such statements apart). THE CARD IS WHAT COUNTS. Prove the row's statement (the work); the ties are given (YtkdnplebgmmclaaDoorTie.lean); close each card by the builder's one call (the guide's Derived/Test/ToyasCard.lean, 'card_holds'). Laid BY PROGRAM, IN A SANDBOX (cutbox-door.mjs). By AI agents, Wed Nov 11 2026. No macro, syntax, notation, axiom, sorry.
-/
import Derived.Test.YtkdnplebgmmclaaDoorRows
import GoSem.ClaimSeven
namespace Go.Proofs.YtkdnplebgmmclaaDoor
namespace Rows

/-- THE TIED CARD OF 'pedigreelaw25.EstimateSizes'. -/
def estimateSizesCard : Claim7 := { stood := { row := estimateSizesRow, standIns := [], harness := (true, "471b1112ebe0c54bc69e6c7af7b7efe81140710a0cdada291676e5103a45054b"), looks := false }, kinds := [], alts := [], laidByText := true, laidKinds := [.data, .data, .data], laidTests := true, laidLooks := .later }
def EstimateSizesCardSaid : Prop := Claim7.holds Tryd.pinned (.plain (OpenSpec.ofChange estimateSizesSpec)) estimateSizesCard

/-- THE TIED CARD OF 'pedigreelaw25.EstimateShares'. -/
def estimateSharesCard : Claim7 := { stood := { row := estimateSharesRow, standIns := [], harness := (true, "471b1112ebe0c54bc69e6c7af7b7efe81140710a0cdada291676e5103a45054b"), looks := false }, kinds := [], alts := [], laidByText := true, laidKinds := [.data, .data, .data], laidTests := true, laidLooks := .later }
def EstimateSharesCardSaid : Prop := Claim7.holds Tryd.pinned (.plain (OpenSpec.ofChange estimateSharesSpec)) estimateSharesCard

/-- THE SECOND FORM's CARD OF 'pedigreelaw25.EstimateSizes'. -/
def estimateSizesUptoCard : Claim7 := { stood := { row := estimateSizesUptoRow, standIns := [], harness := (true, "471b1112ebe0c54bc69e6c7af7b7efe81140710a0cdada291676e5103a45054b"), looks := false }, kinds := [], alts := [], laidByText := true, laidKinds := [.data, .data, .data], laidTests := true, laidLooks := .later }
def EstimateSizesUptoCardSaid : Prop := Claim7.holds Tryd.pinned (.plain (OpenSpec.upto estimateSizesSpec)) estimateSizesUptoCard

/-- THE SECOND FORM's CARD OF 'pedigreelaw25.EstimateShares'. -/
def estimateSharesUptoCard : Claim7 := { stood := { row := estimateSharesUptoRow, standIns := [], harness := (true, "471b1112ebe0c54bc69e6c7af7b7efe81140710a0cdada291676e5103a45054b"), looks := false }, kinds := [], alts := [], laidByText := true, laidKinds := [.data, .data, .data], laidTests := true, laidLooks := .later }
def EstimateSharesUptoCardSaid : Prop := Claim7.holds Tryd.pinned (.plain (OpenSpec.upto estimateSharesSpec)) estimateSharesUptoCard
end Rows
end Go.Proofs.YtkdnplebgmmclaaDoor
