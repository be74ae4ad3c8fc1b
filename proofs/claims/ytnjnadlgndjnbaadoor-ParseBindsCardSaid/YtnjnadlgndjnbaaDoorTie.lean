/-
  DERIVED. GIVEN WITH THE SEED: THE PROGRAM's TIES (one call each: nine closed facts by the kernel) AND EACH ROW's TIE, after the 31st guide's Derived/Test/Toyas{Tie, Card}.lean. No idea stands in it: it is a product of the set-up. Laid BY PROGRAM, IN A SANDBOX (cutbox-door.mjs). By AI agents, Wed Nov 11 2026. No macro, syntax, notation, axiom, sorry.
-/
import Derived.Test.YtnjnadlgndjnbaaDoorRows
import Derived.LaidByTextLater
import Derived.SevenTiedAt
import Derived.LaidSub
import Derived.LaidOnce
namespace Go.Proofs.YtnjnadlgndjnbaaDoor
open Go
set_option maxRecDepth 100000
theorem seatTie1 : Tryd.prog.laidByTextLater [("lamplighter/lex.keys", Rows.laid_lamplighter_lex_keys), ("lamplighter/parse.types", Rows.laid_lamplighter_parse_types), ("lamplighter/parse.levels", Rows.laid_lamplighter_parse_levels), ("lamplighter/parse.signs", Rows.laid_lamplighter_parse_signs)] [.mapped, .mapped, .widerDeep, .mapped] true :=
  Program.laidByTextLater_by_one 263 8 10 (by kernel_rfl) (by kernel_rfl) (by kernel_rfl) (by kernel_rfl) (by kernel_rfl) (by kernel_rfl) (fun _ _ => by kernel_rfl)
theorem noOwnUnsafe : Tryd.pinned.checked.prog.headLifts.contains "ownunsafe" = false := by kernel_rfl
theorem tie : Tryd.prog.laidByTextLater [("lamplighter/lex.keys", Rows.laid_lamplighter_lex_keys), ("lamplighter/parse.types", Rows.laid_lamplighter_parse_types), ("lamplighter/parse.levels", Rows.laid_lamplighter_parse_levels), ("lamplighter/parse.signs", Rows.laid_lamplighter_parse_signs)] [.mapped, .mapped, .widerDeep, .mapped] true :=
  Program.laidByTextLater.sub seatTie1 ["lamplighter/lex.keys", "lamplighter/parse.types", "lamplighter/parse.levels", "lamplighter/parse.signs"] (by kernel_rfl) (by kernel_rfl)
theorem parseBrackets_row_tie : Rows.parseBracketsRow.laidByTextAt .later Tryd.pinned [.mapped, .mapped, .widerDeep, .mapped] true :=
  OpenClaim.laidByTextAt_later rfl rfl tie noOwnUnsafe
theorem parseBinds_row_tie : Rows.parseBindsRow.laidByTextAt .later Tryd.pinned [.mapped, .mapped, .widerDeep, .mapped] true :=
  OpenClaim.laidByTextAt_later rfl rfl tie noOwnUnsafe
theorem parseNames_row_tie : Rows.parseNamesRow.laidByTextAt .later Tryd.pinned [.mapped, .mapped, .widerDeep, .mapped] true :=
  OpenClaim.laidByTextAt_later rfl rfl tie noOwnUnsafe
theorem parseBracketsUpto_row_tie : Rows.parseBracketsUptoRow.laidByTextAt .later Tryd.pinned [.mapped, .mapped, .widerDeep, .mapped] true :=
  OpenClaim.laidByTextAt_later rfl rfl tie noOwnUnsafe
theorem parseBindsUpto_row_tie : Rows.parseBindsUptoRow.laidByTextAt .later Tryd.pinned [.mapped, .mapped, .widerDeep, .mapped] true :=
  OpenClaim.laidByTextAt_later rfl rfl tie noOwnUnsafe
theorem parseNamesUpto_row_tie : Rows.parseNamesUptoRow.laidByTextAt .later Tryd.pinned [.mapped, .mapped, .widerDeep, .mapped] true :=
  OpenClaim.laidByTextAt_later rfl rfl tie noOwnUnsafe
end Go.Proofs.YtnjnadlgndjnbaaDoor
