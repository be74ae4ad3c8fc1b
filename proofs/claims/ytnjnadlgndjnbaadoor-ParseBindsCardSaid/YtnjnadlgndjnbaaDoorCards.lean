/-
  DERIVED. GIVEN WITH THE SEED: THE CARDS: each row of YtnjnadlgndjnbaaDoorRows.lean that lists a variable, with what it lists TIED to the program's text (the seventh form; the later family's looks); each row that meets fmt, with fmt's text TOLD by the authors' own Lean function (tested against real Go, not proved from fmt's source: count such statements apart). THE CARD IS WHAT COUNTS. Prove the row's statement (the work); the ties are given (YtnjnadlgndjnbaaDoorTie.lean); close each card by the builder's one call (the guide's Derived/Test/ToyasCard.lean, 'card_holds'). Laid BY PROGRAM, IN A SANDBOX (cutbox-door.mjs). By AI agents, Wed Nov 11 2026. No macro, syntax, notation, axiom, sorry.
-/
import Derived.Test.YtnjnadlgndjnbaaDoorRows
import GoSem.ClaimSeven
namespace Go.Proofs.YtnjnadlgndjnbaaDoor
namespace Rows

/-- THE TIED CARD OF 'lamplighterlaw07.ParseBrackets'. -/
def parseBracketsCard : Claim7 := { stood := { row := parseBracketsRow, standIns := [], harness := (true, "3b4ce3157ffe172c0bfff2d09e026bca0434d1a8d6b0475648336fbe09b17144"), looks := true }, kinds := [], alts := [], laidByText := true, laidKinds := [.mapped, .mapped, .widerDeep, .mapped], laidTests := true, laidLooks := .later }
def ParseBracketsCardSaid : Prop := Claim7.holds Tryd.pinned (.plain (OpenSpec.ofChange parseBracketsSpec)) parseBracketsCard

/-- THE TIED CARD OF 'lamplighterlaw07.ParseBinds'. -/
def parseBindsCard : Claim7 := { stood := { row := parseBindsRow, standIns := [], harness := (true, "3b4ce3157ffe172c0bfff2d09e026bca0434d1a8d6b0475648336fbe09b17144"), looks := true }, kinds := [], alts := [], laidByText := true, laidKinds := [.mapped, .mapped, .widerDeep, .mapped], laidTests := true, laidLooks := .later }
def ParseBindsCardSaid : Prop := Claim7.holds Tryd.pinned (.plain (OpenSpec.ofChange parseBindsSpec)) parseBindsCard

/-- THE TIED CARD OF 'lamplighterlaw07.ParseNames'. -/
def parseNamesCard : Claim7 := { stood := { row := parseNamesRow, standIns := [], harness := (true, "3b4ce3157ffe172c0bfff2d09e026bca0434d1a8d6b0475648336fbe09b17144"), looks := true }, kinds := [], alts := [], laidByText := true, laidKinds := [.mapped, .mapped, .widerDeep, .mapped], laidTests := true, laidLooks := .later }
def ParseNamesCardSaid : Prop := Claim7.holds Tryd.pinned (.plain (OpenSpec.ofChange parseNamesSpec)) parseNamesCard

/-- THE SECOND FORM's CARD OF 'lamplighterlaw07.ParseBrackets'. -/
def parseBracketsUptoCard : Claim7 := { stood := { row := parseBracketsUptoRow, standIns := [], harness := (true, "3b4ce3157ffe172c0bfff2d09e026bca0434d1a8d6b0475648336fbe09b17144"), looks := true }, kinds := [], alts := [], laidByText := true, laidKinds := [.mapped, .mapped, .widerDeep, .mapped], laidTests := true, laidLooks := .later }
def ParseBracketsUptoCardSaid : Prop := Claim7.holds Tryd.pinned (.plain (OpenSpec.upto parseBracketsSpec)) parseBracketsUptoCard

/-- THE SECOND FORM's CARD OF 'lamplighterlaw07.ParseBinds'. -/
def parseBindsUptoCard : Claim7 := { stood := { row := parseBindsUptoRow, standIns := [], harness := (true, "3b4ce3157ffe172c0bfff2d09e026bca0434d1a8d6b0475648336fbe09b17144"), looks := true }, kinds := [], alts := [], laidByText := true, laidKinds := [.mapped, .mapped, .widerDeep, .mapped], laidTests := true, laidLooks := .later }
def ParseBindsUptoCardSaid : Prop := Claim7.holds Tryd.pinned (.plain (OpenSpec.upto parseBindsSpec)) parseBindsUptoCard

/-- THE SECOND FORM's CARD OF 'lamplighterlaw07.ParseNames'. -/
def parseNamesUptoCard : Claim7 := { stood := { row := parseNamesUptoRow, standIns := [], harness := (true, "3b4ce3157ffe172c0bfff2d09e026bca0434d1a8d6b0475648336fbe09b17144"), looks := true }, kinds := [], alts := [], laidByText := true, laidKinds := [.mapped, .mapped, .widerDeep, .mapped], laidTests := true, laidLooks := .later }
def ParseNamesUptoCardSaid : Prop := Claim7.holds Tryd.pinned (.plain (OpenSpec.upto parseNamesSpec)) parseNamesUptoCard
end Rows
end Go.Proofs.YtnjnadlgndjnbaaDoor
