/-
  DERIVED. GIVEN WITH THE SEED: THE CARDS: each row of YtlihkmldclocoaaDoorRows.lean that lists a variable, with what it lists TIED to the program's text (the seventh form; the later family's looks); each row that meets fmt, with fmt's text TOLD by the authors' own Lean function (tested against real Go, not proved from fmt's source: count such statements apart). THE CARD IS WHAT COUNTS. Prove the row's statement (the work); the ties are given (YtlihkmldclocoaaDoorTie.lean); close each card by the builder's one call (the guide's Derived/Test/ToyasCard.lean, 'card_holds'). Laid BY PROGRAM, IN A SANDBOX (cutbox-door.mjs). By AI agents, Wed Nov 11 2026. No macro, syntax, notation, axiom, sorry.
-/
import Derived.Test.YtlihkmldclocoaaDoorRows
import GoSem.ClaimSeven
namespace Go.Proofs.YtlihkmldclocoaaDoor
namespace Rows

/-- THE TIED CARD OF 'pedigreelaw01.ValueAriths'. -/
def valueArithsCard : Claim7 := { stood := { row := valueArithsRow, standIns := [], harness := (true, "3fe210e3afef6a7c03e034ee477680b01bf397a6dfd11b24f772b8f257d0d498"), looks := true }, kinds := [], alts := [], laidByText := true, laidKinds := [.data], laidTests := true, laidLooks := .later }
def ValueArithsCardSaid : Prop := Claim7.holds Tryd.pinned (.plain (OpenSpec.ofChange valueArithsSpec)) valueArithsCard

/-- THE TIED CARD OF 'pedigreelaw01.ValueReads'. -/
def valueReadsCard : Claim7 := { stood := { row := valueReadsRow, standIns := [], harness := (true, "3fe210e3afef6a7c03e034ee477680b01bf397a6dfd11b24f772b8f257d0d498"), looks := true }, kinds := [], alts := [], laidByText := true, laidKinds := [.data, .data, .data, .sentinel, .sentinel], laidTests := true, laidLooks := .later }
def ValueReadsCardSaid : Prop := Claim7.holds Tryd.pinned (.plain (OpenSpec.ofChange valueReadsSpec)) valueReadsCard

/-- THE TIED CARD OF 'pedigreelaw01.ValueThere'. -/
def valueThereCard : Claim7 := { stood := { row := valueThereRow, standIns := [], harness := (true, "3fe210e3afef6a7c03e034ee477680b01bf397a6dfd11b24f772b8f257d0d498"), looks := true }, kinds := [], alts := [], laidByText := true, laidKinds := [.data, .data, .data, .sentinel, .sentinel, .data], laidTests := true, laidLooks := .later }
def ValueThereCardSaid : Prop := Claim7.holds Tryd.pinned (.plain (OpenSpec.ofChange valueThereSpec)) valueThereCard

/-- THE TIED CARD OF 'pedigreelaw01.ValueSorts'. -/
def valueSortsCard : Claim7 := { stood := { row := valueSortsRow, standIns := [], harness := (true, "3fe210e3afef6a7c03e034ee477680b01bf397a6dfd11b24f772b8f257d0d498"), looks := true }, kinds := [], alts := [], laidByText := true, laidKinds := [.data, .data, .data], laidTests := true, laidLooks := .later }
def ValueSortsCardSaid : Prop := Claim7.holds Tryd.pinned (.plain (OpenSpec.ofChange valueSortsSpec)) valueSortsCard

/-- THE TIED CARD OF 'pedigreelaw01.ValueSorted'. -/
def valueSortedCard : Claim7 := { stood := { row := valueSortedRow, standIns := [], harness := (true, "3fe210e3afef6a7c03e034ee477680b01bf397a6dfd11b24f772b8f257d0d498"), looks := true }, kinds := [], alts := [], laidByText := true, laidKinds := [.data, .data, .data, .data], laidTests := true, laidLooks := .later }
def ValueSortedCardSaid : Prop := Claim7.holds Tryd.pinned (.plain (OpenSpec.ofChange valueSortedSpec)) valueSortedCard

/-- THE SECOND FORM's CARD OF 'pedigreelaw01.ValueAriths'. -/
def valueArithsUptoCard : Claim7 := { stood := { row := valueArithsUptoRow, standIns := [], harness := (true, "3fe210e3afef6a7c03e034ee477680b01bf397a6dfd11b24f772b8f257d0d498"), looks := true }, kinds := [], alts := [], laidByText := true, laidKinds := [.data], laidTests := true, laidLooks := .later }
def ValueArithsUptoCardSaid : Prop := Claim7.holds Tryd.pinned (.plain (OpenSpec.upto valueArithsSpec)) valueArithsUptoCard

/-- THE SECOND FORM's CARD OF 'pedigreelaw01.ValueReads'. -/
def valueReadsUptoCard : Claim7 := { stood := { row := valueReadsUptoRow, standIns := [], harness := (true, "3fe210e3afef6a7c03e034ee477680b01bf397a6dfd11b24f772b8f257d0d498"), looks := true }, kinds := [], alts := [], laidByText := true, laidKinds := [.data, .data, .data, .sentinel, .sentinel], laidTests := true, laidLooks := .later }
def ValueReadsUptoCardSaid : Prop := Claim7.holds Tryd.pinned (.plain (OpenSpec.upto valueReadsSpec)) valueReadsUptoCard

/-- THE SECOND FORM's CARD OF 'pedigreelaw01.ValueThere'. -/
def valueThereUptoCard : Claim7 := { stood := { row := valueThereUptoRow, standIns := [], harness := (true, "3fe210e3afef6a7c03e034ee477680b01bf397a6dfd11b24f772b8f257d0d498"), looks := true }, kinds := [], alts := [], laidByText := true, laidKinds := [.data, .data, .data, .sentinel, .sentinel, .data], laidTests := true, laidLooks := .later }
def ValueThereUptoCardSaid : Prop := Claim7.holds Tryd.pinned (.plain (OpenSpec.upto valueThereSpec)) valueThereUptoCard

/-- THE SECOND FORM's CARD OF 'pedigreelaw01.ValueSorts'. -/
def valueSortsUptoCard : Claim7 := { stood := { row := valueSortsUptoRow, standIns := [], harness := (true, "3fe210e3afef6a7c03e034ee477680b01bf397a6dfd11b24f772b8f257d0d498"), looks := true }, kinds := [], alts := [], laidByText := true, laidKinds := [.data, .data, .data], laidTests := true, laidLooks := .later }
def ValueSortsUptoCardSaid : Prop := Claim7.holds Tryd.pinned (.plain (OpenSpec.upto valueSortsSpec)) valueSortsUptoCard

/-- THE SECOND FORM's CARD OF 'pedigreelaw01.ValueSorted'. -/
def valueSortedUptoCard : Claim7 := { stood := { row := valueSortedUptoRow, standIns := [], harness := (true, "3fe210e3afef6a7c03e034ee477680b01bf397a6dfd11b24f772b8f257d0d498"), looks := true }, kinds := [], alts := [], laidByText := true, laidKinds := [.data, .data, .data, .data], laidTests := true, laidLooks := .later }
def ValueSortedUptoCardSaid : Prop := Claim7.holds Tryd.pinned (.plain (OpenSpec.upto valueSortedSpec)) valueSortedUptoCard
end Rows
end Go.Proofs.YtlihkmldclocoaaDoor
