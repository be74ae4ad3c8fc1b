/-
  DERIVED. GIVEN WITH THE SEED: THE CARDS: each row of YtgkhpecllhiidaaDoorRows.lean that lists a variable, with what it lists TIED to the program's text (the seventh form; the later family's looks); each row that meets fmt, with fmt's text TOLD by the authors' own Lean function (tested against real Go, not proved from fmt's source: count such statements apart). THE CARD IS WHAT COUNTS. Prove the row's statement (the work); the ties are given (YtgkhpecllhiidaaDoorTie.lean); close each card by the builder's one call (the guide's Derived/Test/ToyasCard.lean, 'card_holds'). Laid BY PROGRAM, IN A SANDBOX (cutbox-door.mjs). By AI agents, Wed Nov 11 2026. No macro, syntax, notation, axiom, sorry.
-/
import Derived.Test.YtgkhpecllhiidaaDoorRows
import GoSem.ClaimSeven
namespace Go.Proofs.YtgkhpecllhiidaaDoor
namespace Rows

/-- THE TIED CARD OF 'lamplighterlaw06.AstNamed'. -/
def astNamedCard : Claim7 := { stood := { row := astNamedRow, standIns := [], harness := (true, "b5aaae6a9b5c4df2b4ae607c2be6f5803dac2914329df8d3512dc7832438f0bc"), looks := false }, kinds := [], alts := [], laidByText := true, laidKinds := [.mapped], laidTests := true, laidLooks := .later }
def AstNamedCardSaid : Prop := Claim7.holds Tryd.pinned (.plain (OpenSpec.ofChange astNamedSpec)) astNamedCard

/-- THE TIED CARD OF 'lamplighterlaw06.AstSizes'. -/
def astSizesCard : Claim7 := { stood := { row := astSizesRow, standIns := [], harness := (true, "b5aaae6a9b5c4df2b4ae607c2be6f5803dac2914329df8d3512dc7832438f0bc"), looks := false }, kinds := [], alts := [], laidByText := true, laidKinds := [.mapped], laidTests := true, laidLooks := .later }
def AstSizesCardSaid : Prop := Claim7.holds Tryd.pinned (.plain (OpenSpec.ofChange astSizesSpec)) astSizesCard

/-- THE TIED CARD OF 'lamplighterlaw05.LexNumbers'. -/
def lexNumbersCard : Claim7 := { stood := { row := lexNumbersRow, standIns := [], harness := (true, "b5aaae6a9b5c4df2b4ae607c2be6f5803dac2914329df8d3512dc7832438f0bc"), looks := false }, kinds := [], alts := [], laidByText := true, laidKinds := [.mapped], laidTests := true, laidLooks := .later }
def LexNumbersCardSaid : Prop := Claim7.holds Tryd.pinned (.plain (OpenSpec.ofChange lexNumbersSpec)) lexNumbersCard

/-- THE TIED CARD OF 'lamplighterlaw05.LexParts'. -/
def lexPartsCard : Claim7 := { stood := { row := lexPartsRow, standIns := [], harness := (true, "b5aaae6a9b5c4df2b4ae607c2be6f5803dac2914329df8d3512dc7832438f0bc"), looks := false }, kinds := [], alts := [], laidByText := true, laidKinds := [.mapped], laidTests := true, laidLooks := .later }
def LexPartsCardSaid : Prop := Claim7.holds Tryd.pinned (.plain (OpenSpec.ofChange lexPartsSpec)) lexPartsCard

/-- THE TIED CARD OF 'lamplighterlaw06.AstSames'. -/
def astSamesCard : Claim7 := { stood := { row := astSamesRow, standIns := [], harness := (true, "b5aaae6a9b5c4df2b4ae607c2be6f5803dac2914329df8d3512dc7832438f0bc"), looks := false }, kinds := [], alts := [], laidByText := true, laidKinds := [.mapped], laidTests := true, laidLooks := .later }
def AstSamesCardSaid : Prop := Claim7.holds Tryd.pinned (.plain (OpenSpec.ofChange astSamesSpec)) astSamesCard

/-- THE TIED CARD OF 'lamplighterlaw06.AstNames'. -/
def astNamesCard : Claim7 := { stood := { row := astNamesRow, standIns := [], harness := (true, "b5aaae6a9b5c4df2b4ae607c2be6f5803dac2914329df8d3512dc7832438f0bc"), looks := false }, kinds := [], alts := [], laidByText := true, laidKinds := [.mapped], laidTests := true, laidLooks := .later }
def AstNamesCardSaid : Prop := Claim7.holds Tryd.pinned (.plain (OpenSpec.ofChange astNamesSpec)) astNamesCard

/-- THE TIED CARD OF 'lamplighterlaw06.AstCalls'. -/
def astCallsCard : Claim7 := { stood := { row := astCallsRow, standIns := [], harness := (true, "b5aaae6a9b5c4df2b4ae607c2be6f5803dac2914329df8d3512dc7832438f0bc"), looks := false }, kinds := [], alts := [], laidByText := true, laidKinds := [.mapped], laidTests := true, laidLooks := .later }
def AstCallsCardSaid : Prop := Claim7.holds Tryd.pinned (.plain (OpenSpec.ofChange astCallsSpec)) astCallsCard

/-- THE TIED CARD OF 'lamplighterlaw06.AstParts'. -/
def astPartsCard : Claim7 := { stood := { row := astPartsRow, standIns := [], harness := (true, "b5aaae6a9b5c4df2b4ae607c2be6f5803dac2914329df8d3512dc7832438f0bc"), looks := false }, kinds := [], alts := [], laidByText := true, laidKinds := [.mapped], laidTests := true, laidLooks := .later }
def AstPartsCardSaid : Prop := Claim7.holds Tryd.pinned (.plain (OpenSpec.ofChange astPartsSpec)) astPartsCard

/-- THE TIED CARD OF 'lamplighterlaw05.LexNames'. -/
def lexNamesCard : Claim7 := { stood := { row := lexNamesRow, standIns := [], harness := (true, "b5aaae6a9b5c4df2b4ae607c2be6f5803dac2914329df8d3512dc7832438f0bc"), looks := false }, kinds := [], alts := [], laidByText := true, laidKinds := [.mapped], laidTests := true, laidLooks := .later }
def LexNamesCardSaid : Prop := Claim7.holds Tryd.pinned (.plain (OpenSpec.ofChange lexNamesSpec)) lexNamesCard

/-- THE TIED CARD OF 'lamplighterlaw05.LexBack'. -/
def lexBackCard : Claim7 := { stood := { row := lexBackRow, standIns := [], harness := (true, "b5aaae6a9b5c4df2b4ae607c2be6f5803dac2914329df8d3512dc7832438f0bc"), looks := false }, kinds := [], alts := [], laidByText := true, laidKinds := [.mapped], laidTests := true, laidLooks := .later }
def LexBackCardSaid : Prop := Claim7.holds Tryd.pinned (.plain (OpenSpec.ofChange lexBackSpec)) lexBackCard

/-- THE TIED CARD OF 'lamplighterlaw05.LexCalls'. -/
def lexCallsCard : Claim7 := { stood := { row := lexCallsRow, standIns := [], harness := (true, "b5aaae6a9b5c4df2b4ae607c2be6f5803dac2914329df8d3512dc7832438f0bc"), looks := false }, kinds := [], alts := [], laidByText := true, laidKinds := [.mapped], laidTests := true, laidLooks := .later }
def LexCallsCardSaid : Prop := Claim7.holds Tryd.pinned (.plain (OpenSpec.ofChange lexCallsSpec)) lexCallsCard

/-- THE SECOND FORM's CARD OF 'lamplighterlaw06.AstNamed'. -/
def astNamedUptoCard : Claim7 := { stood := { row := astNamedUptoRow, standIns := [], harness := (true, "b5aaae6a9b5c4df2b4ae607c2be6f5803dac2914329df8d3512dc7832438f0bc"), looks := false }, kinds := [], alts := [], laidByText := true, laidKinds := [.mapped], laidTests := true, laidLooks := .later }
def AstNamedUptoCardSaid : Prop := Claim7.holds Tryd.pinned (.plain (OpenSpec.upto astNamedSpec)) astNamedUptoCard

/-- THE SECOND FORM's CARD OF 'lamplighterlaw06.AstSizes'. -/
def astSizesUptoCard : Claim7 := { stood := { row := astSizesUptoRow, standIns := [], harness := (true, "b5aaae6a9b5c4df2b4ae607c2be6f5803dac2914329df8d3512dc7832438f0bc"), looks := false }, kinds := [], alts := [], laidByText := true, laidKinds := [.mapped], laidTests := true, laidLooks := .later }
def AstSizesUptoCardSaid : Prop := Claim7.holds Tryd.pinned (.plain (OpenSpec.upto astSizesSpec)) astSizesUptoCard

/-- THE SECOND FORM's CARD OF 'lamplighterlaw05.LexNumbers'. -/
def lexNumbersUptoCard : Claim7 := { stood := { row := lexNumbersUptoRow, standIns := [], harness := (true, "b5aaae6a9b5c4df2b4ae607c2be6f5803dac2914329df8d3512dc7832438f0bc"), looks := false }, kinds := [], alts := [], laidByText := true, laidKinds := [.mapped], laidTests := true, laidLooks := .later }
def LexNumbersUptoCardSaid : Prop := Claim7.holds Tryd.pinned (.plain (OpenSpec.upto lexNumbersSpec)) lexNumbersUptoCard

/-- THE SECOND FORM's CARD OF 'lamplighterlaw05.LexParts'. -/
def lexPartsUptoCard : Claim7 := { stood := { row := lexPartsUptoRow, standIns := [], harness := (true, "b5aaae6a9b5c4df2b4ae607c2be6f5803dac2914329df8d3512dc7832438f0bc"), looks := false }, kinds := [], alts := [], laidByText := true, laidKinds := [.mapped], laidTests := true, laidLooks := .later }
def LexPartsUptoCardSaid : Prop := Claim7.holds Tryd.pinned (.plain (OpenSpec.upto lexPartsSpec)) lexPartsUptoCard

/-- THE SECOND FORM's CARD OF 'lamplighterlaw06.AstSames'. -/
def astSamesUptoCard : Claim7 := { stood := { row := astSamesUptoRow, standIns := [], harness := (true, "b5aaae6a9b5c4df2b4ae607c2be6f5803dac2914329df8d3512dc7832438f0bc"), looks := false }, kinds := [], alts := [], laidByText := true, laidKinds := [.mapped], laidTests := true, laidLooks := .later }
def AstSamesUptoCardSaid : Prop := Claim7.holds Tryd.pinned (.plain (OpenSpec.upto astSamesSpec)) astSamesUptoCard

/-- THE SECOND FORM's CARD OF 'lamplighterlaw06.AstNames'. -/
def astNamesUptoCard : Claim7 := { stood := { row := astNamesUptoRow, standIns := [], harness := (true, "b5aaae6a9b5c4df2b4ae607c2be6f5803dac2914329df8d3512dc7832438f0bc"), looks := false }, kinds := [], alts := [], laidByText := true, laidKinds := [.mapped], laidTests := true, laidLooks := .later }
def AstNamesUptoCardSaid : Prop := Claim7.holds Tryd.pinned (.plain (OpenSpec.upto astNamesSpec)) astNamesUptoCard

/-- THE SECOND FORM's CARD OF 'lamplighterlaw06.AstCalls'. -/
def astCallsUptoCard : Claim7 := { stood := { row := astCallsUptoRow, standIns := [], harness := (true, "b5aaae6a9b5c4df2b4ae607c2be6f5803dac2914329df8d3512dc7832438f0bc"), looks := false }, kinds := [], alts := [], laidByText := true, laidKinds := [.mapped], laidTests := true, laidLooks := .later }
def AstCallsUptoCardSaid : Prop := Claim7.holds Tryd.pinned (.plain (OpenSpec.upto astCallsSpec)) astCallsUptoCard

/-- THE SECOND FORM's CARD OF 'lamplighterlaw06.AstParts'. -/
def astPartsUptoCard : Claim7 := { stood := { row := astPartsUptoRow, standIns := [], harness := (true, "b5aaae6a9b5c4df2b4ae607c2be6f5803dac2914329df8d3512dc7832438f0bc"), looks := false }, kinds := [], alts := [], laidByText := true, laidKinds := [.mapped], laidTests := true, laidLooks := .later }
def AstPartsUptoCardSaid : Prop := Claim7.holds Tryd.pinned (.plain (OpenSpec.upto astPartsSpec)) astPartsUptoCard

/-- THE SECOND FORM's CARD OF 'lamplighterlaw05.LexNames'. -/
def lexNamesUptoCard : Claim7 := { stood := { row := lexNamesUptoRow, standIns := [], harness := (true, "b5aaae6a9b5c4df2b4ae607c2be6f5803dac2914329df8d3512dc7832438f0bc"), looks := false }, kinds := [], alts := [], laidByText := true, laidKinds := [.mapped], laidTests := true, laidLooks := .later }
def LexNamesUptoCardSaid : Prop := Claim7.holds Tryd.pinned (.plain (OpenSpec.upto lexNamesSpec)) lexNamesUptoCard

/-- THE SECOND FORM's CARD OF 'lamplighterlaw05.LexBack'. -/
def lexBackUptoCard : Claim7 := { stood := { row := lexBackUptoRow, standIns := [], harness := (true, "b5aaae6a9b5c4df2b4ae607c2be6f5803dac2914329df8d3512dc7832438f0bc"), looks := false }, kinds := [], alts := [], laidByText := true, laidKinds := [.mapped], laidTests := true, laidLooks := .later }
def LexBackUptoCardSaid : Prop := Claim7.holds Tryd.pinned (.plain (OpenSpec.upto lexBackSpec)) lexBackUptoCard

/-- THE SECOND FORM's CARD OF 'lamplighterlaw05.LexCalls'. -/
def lexCallsUptoCard : Claim7 := { stood := { row := lexCallsUptoRow, standIns := [], harness := (true, "b5aaae6a9b5c4df2b4ae607c2be6f5803dac2914329df8d3512dc7832438f0bc"), looks := false }, kinds := [], alts := [], laidByText := true, laidKinds := [.mapped], laidTests := true, laidLooks := .later }
def LexCallsUptoCardSaid : Prop := Claim7.holds Tryd.pinned (.plain (OpenSpec.upto lexCallsSpec)) lexCallsUptoCard
end Rows
end Go.Proofs.YtgkhpecllhiidaaDoor
