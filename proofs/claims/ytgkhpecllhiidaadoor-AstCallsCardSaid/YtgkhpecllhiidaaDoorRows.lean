/-
  NARROWER THAN 'FOR EVERY INPUT', by the rows' own cells (each row's printed sentence says how): AstNamed: loops, laid · AstSizes: loops, laid · LexNumbers: laid · LexParts: laid · AstSames: loops, laid · AstNames: laid · AstCalls: loops, laid · AstParts: loops, laid · LexNames: laid · LexBack: laid · LexCalls: laid.
  DERIVED. THE GIVEN ROWS OF THIS SEAT. 11 by the template 'for every input the law returns true; each argument reads behind the call as it read before'; 0 by the template 'total and deterministic' (their statements: YtgkhpecllhiidaaDoorTotals.lean).
  GIVEN WITH THE SEED: the statements are not yours to turn. If you find one false, say at which input.
  Laid BY PROGRAM, IN A SANDBOX (cutbox-rows.mjs): the forced cells as the released guide's own fill.sh prints them over the translation 2547f49cd0f667f1… (all of the seat's roots in one cut). By AI agents, Wed Nov 11 2026. No macro, syntax, notation, axiom, sorry.
-/
import Derived.Test.YtgkhpecllhiidaaDoorChecked
import GoSem.Claim
import GoSem.ClaimJoined
import GoSem.ClaimMapViews
import Derived.JoinedTies
import Derived.KernelRfl
namespace Go.Proofs.YtgkhpecllhiidaaDoor
/- THE CELL 'sum', in the pinned program and in every row, IS THE sha256 OF THE DUMP (.gsa) THAT YtgkhpecllhiidaaDoorProg.lean LOADS. Nothing in Lean hashes anything: it is a label: what it is worth is what the hold of that sum in a sandbox is worth. -/
noncomputable def Tryd.pinned : Pinned := { name := "ytgkhpecllhiidaadoor", sum := "2547f49cd0f667f1ec05223a5b3af5d7939c5049d7978b23319de66f3a39f0c5", checked := Tryd.checked }
namespace Rows
def none {H : Type} : Left H := { results := [], args := [] }

/- WHAT THE LISTED PACKAGE-LEVEL VARIABLES READ AS WHEN THE CALL BEGINS. Each datum BY PROGRAM (the guide's laid-datum.mjs) off the statement by which the dump's own 'gosem.cut.vars' lays the variable. In a bare row this is a premise. The card (YtgkhpecllhiidaaDoorCards.lean) ties it to the program's text. -/
def laid_lamplighter_lex_keys {H : Type} : DataW H := .map [(.string [97, 116, 111, 109, 105, 99], .agg []), (.string [98, 111, 116, 104], .agg []), (.string [100, 105, 115, 97, 98, 108, 101], .agg []), (.string [101, 108, 115, 101], .agg []), (.string [101, 110, 97, 98, 108, 101], .agg []), (.string [102, 117, 110, 99], .agg []), (.string [105, 51, 50], .agg []), (.string [105, 102], .agg []), (.string [108, 101, 118, 101, 108], .agg []), (.string [109, 97, 105, 110], .agg []), (.string [111, 110], .agg []), (.string [112, 111, 114, 116], .agg []), (.string [112, 114, 105, 111], .agg []), (.string [114, 101, 97, 100], .agg []), (.string [114, 101, 116, 117, 114, 110], .agg []), (.string [115, 116, 97, 99, 107], .agg []), (.string [117, 49, 54], .agg []), (.string [117, 51, 50], .agg []), (.string [117, 56], .agg []), (.string [119, 104, 105, 108, 101], .agg []), (.string [119, 114, 105, 116, 101], .agg [])]

/-- 'lamplighterlaw06.AstNamed': WHATEVER THE INPUT: true; the input reads as it did. -/
def astNamedSpec : ChangeSpec := { name := "astNamed", fn := fun _ => fun
  | [d1, d2, d3] => { results := [.lit (.bool true)], args := [d1, d2, d3] }
  | _ => none }
def astNamedRow : OpenClaim := { program := "ytgkhpecllhiidaadoor", sum := "2547f49cd0f667f1ec05223a5b3af5d7939c5049d7978b23319de66f3a39f0c5", func := "lamplighter/lamplighterlaw06.AstNamed", spec := "astNamed", unfollowed := true, recurses := true, named := ["lamplighter/lex.keys"], loops := true, apart := false, laid := [("lamplighter/lex.keys", laid_lamplighter_lex_keys)] }
def AstNamedSaid : Prop := astNamedRow.holds Tryd.pinned (OpenSpec.ofChange astNamedSpec)

/-- ITS FALSE NEIGHBOUR: 'it returns false'. Refute it at one input. -/
def astNamedWrong : ChangeSpec := { name := "astNamed", fn := fun _ => fun
  | [d1, d2, d3] => { results := [.lit (.bool false)], args := [d1, d2, d3] }
  | _ => none }
def AstNamedWrongFalsely : Prop := astNamedRow.holds Tryd.pinned (OpenSpec.ofChange astNamedWrong)

/-- 'lamplighterlaw06.AstSizes': WHATEVER THE INPUT: true; the input reads as it did. -/
def astSizesSpec : ChangeSpec := { name := "astSizes", fn := fun _ => fun
  | [d1, d2, d3] => { results := [.lit (.bool true)], args := [d1, d2, d3] }
  | _ => none }
def astSizesRow : OpenClaim := { program := "ytgkhpecllhiidaadoor", sum := "2547f49cd0f667f1ec05223a5b3af5d7939c5049d7978b23319de66f3a39f0c5", func := "lamplighter/lamplighterlaw06.AstSizes", spec := "astSizes", unfollowed := true, recurses := true, named := ["lamplighter/lex.keys"], loops := true, apart := false, laid := [("lamplighter/lex.keys", laid_lamplighter_lex_keys)] }
def AstSizesSaid : Prop := astSizesRow.holds Tryd.pinned (OpenSpec.ofChange astSizesSpec)

/-- ITS FALSE NEIGHBOUR: 'it returns false'. Refute it at one input. -/
def astSizesWrong : ChangeSpec := { name := "astSizes", fn := fun _ => fun
  | [d1, d2, d3] => { results := [.lit (.bool false)], args := [d1, d2, d3] }
  | _ => none }
def AstSizesWrongFalsely : Prop := astSizesRow.holds Tryd.pinned (OpenSpec.ofChange astSizesWrong)

/-- 'lamplighterlaw05.LexNumbers': WHATEVER THE INPUT: true; the input reads as it did. -/
def lexNumbersSpec : ChangeSpec := { name := "lexNumbers", fn := fun _ => fun
  | [d1, d2] => { results := [.lit (.bool true)], args := [d1, d2] }
  | _ => none }
def lexNumbersRow : OpenClaim := { program := "ytgkhpecllhiidaadoor", sum := "2547f49cd0f667f1ec05223a5b3af5d7939c5049d7978b23319de66f3a39f0c5", func := "lamplighter/lamplighterlaw05.LexNumbers", spec := "lexNumbers", inPlace := ["internal/bytealg.IndexByteString", "internal/bytealg.IndexString"], unfollowed := true, recurses := true, named := ["lamplighter/lex.keys", "internal/bytealg.MaxLen"], apart := false, laid := [("lamplighter/lex.keys", laid_lamplighter_lex_keys)] }
def LexNumbersSaid : Prop := lexNumbersRow.holds Tryd.pinned (OpenSpec.ofChange lexNumbersSpec)

/-- ITS FALSE NEIGHBOUR: 'it returns false'. Refute it at one input. -/
def lexNumbersWrong : ChangeSpec := { name := "lexNumbers", fn := fun _ => fun
  | [d1, d2] => { results := [.lit (.bool false)], args := [d1, d2] }
  | _ => none }
def LexNumbersWrongFalsely : Prop := lexNumbersRow.holds Tryd.pinned (OpenSpec.ofChange lexNumbersWrong)

/-- 'lamplighterlaw05.LexParts': WHATEVER THE INPUT: true; the input reads as it did. -/
def lexPartsSpec : ChangeSpec := { name := "lexParts", fn := fun _ => fun
  | [d1, d2, d3] => { results := [.lit (.bool true)], args := [d1, d2, d3] }
  | _ => none }
def lexPartsRow : OpenClaim := { program := "ytgkhpecllhiidaadoor", sum := "2547f49cd0f667f1ec05223a5b3af5d7939c5049d7978b23319de66f3a39f0c5", func := "lamplighter/lamplighterlaw05.LexParts", spec := "lexParts", inPlace := ["internal/bytealg.IndexByteString", "internal/bytealg.IndexString"], unfollowed := true, recurses := true, named := ["lamplighter/lex.keys", "internal/bytealg.MaxLen"], apart := false, laid := [("lamplighter/lex.keys", laid_lamplighter_lex_keys)] }
def LexPartsSaid : Prop := lexPartsRow.holds Tryd.pinned (OpenSpec.ofChange lexPartsSpec)

/-- ITS FALSE NEIGHBOUR: 'it returns false'. Refute it at one input. -/
def lexPartsWrong : ChangeSpec := { name := "lexParts", fn := fun _ => fun
  | [d1, d2, d3] => { results := [.lit (.bool false)], args := [d1, d2, d3] }
  | _ => none }
def LexPartsWrongFalsely : Prop := lexPartsRow.holds Tryd.pinned (OpenSpec.ofChange lexPartsWrong)

/-- 'lamplighterlaw06.AstSames': WHATEVER THE INPUT: true; the input reads as it did. -/
def astSamesSpec : ChangeSpec := { name := "astSames", fn := fun _ => fun
  | [d1, d2, d3, d4] => { results := [.lit (.bool true)], args := [d1, d2, d3, d4] }
  | _ => none }
def astSamesRow : OpenClaim := { program := "ytgkhpecllhiidaadoor", sum := "2547f49cd0f667f1ec05223a5b3af5d7939c5049d7978b23319de66f3a39f0c5", func := "lamplighter/lamplighterlaw06.AstSames", spec := "astSames", unfollowed := true, recurses := true, named := ["lamplighter/lex.keys"], loops := true, apart := false, laid := [("lamplighter/lex.keys", laid_lamplighter_lex_keys)] }
def AstSamesSaid : Prop := astSamesRow.holds Tryd.pinned (OpenSpec.ofChange astSamesSpec)

/-- ITS FALSE NEIGHBOUR: 'it returns false'. Refute it at one input. -/
def astSamesWrong : ChangeSpec := { name := "astSames", fn := fun _ => fun
  | [d1, d2, d3, d4] => { results := [.lit (.bool false)], args := [d1, d2, d3, d4] }
  | _ => none }
def AstSamesWrongFalsely : Prop := astSamesRow.holds Tryd.pinned (OpenSpec.ofChange astSamesWrong)

/-- 'lamplighterlaw06.AstNames': WHATEVER THE INPUT: true; the input reads as it did. -/
def astNamesSpec : ChangeSpec := { name := "astNames", fn := fun _ => fun
  | [] => { results := [.lit (.bool true)], args := [] }
  | _ => none }
def astNamesRow : OpenClaim := { program := "ytgkhpecllhiidaadoor", sum := "2547f49cd0f667f1ec05223a5b3af5d7939c5049d7978b23319de66f3a39f0c5", func := "lamplighter/lamplighterlaw06.AstNames", spec := "astNames", unfollowed := true, recurses := true, named := ["lamplighter/lex.keys"], apart := false, laid := [("lamplighter/lex.keys", laid_lamplighter_lex_keys)] }
def AstNamesSaid : Prop := astNamesRow.holds Tryd.pinned (OpenSpec.ofChange astNamesSpec)

/-- ITS FALSE NEIGHBOUR: 'it returns false'. Refute it at one input. -/
def astNamesWrong : ChangeSpec := { name := "astNames", fn := fun _ => fun
  | [] => { results := [.lit (.bool false)], args := [] }
  | _ => none }
def AstNamesWrongFalsely : Prop := astNamesRow.holds Tryd.pinned (OpenSpec.ofChange astNamesWrong)

/-- 'lamplighterlaw06.AstCalls': WHATEVER THE INPUT: true; the input reads as it did. -/
def astCallsSpec : ChangeSpec := { name := "astCalls", fn := fun _ => fun
  | [d1, d2, d3, d4, d5, d6, d7] => { results := [.lit (.bool true)], args := [d1, d2, d3, d4, d5, d6, d7] }
  | _ => none }
def astCallsRow : OpenClaim := { program := "ytgkhpecllhiidaadoor", sum := "2547f49cd0f667f1ec05223a5b3af5d7939c5049d7978b23319de66f3a39f0c5", func := "lamplighter/lamplighterlaw06.AstCalls", spec := "astCalls", unfollowed := true, recurses := true, named := ["lamplighter/lex.keys"], loops := true, apart := false, laid := [("lamplighter/lex.keys", laid_lamplighter_lex_keys)] }
def AstCallsSaid : Prop := astCallsRow.holds Tryd.pinned (OpenSpec.ofChange astCallsSpec)

/-- ITS FALSE NEIGHBOUR: 'it returns false'. Refute it at one input. -/
def astCallsWrong : ChangeSpec := { name := "astCalls", fn := fun _ => fun
  | [d1, d2, d3, d4, d5, d6, d7] => { results := [.lit (.bool false)], args := [d1, d2, d3, d4, d5, d6, d7] }
  | _ => none }
def AstCallsWrongFalsely : Prop := astCallsRow.holds Tryd.pinned (OpenSpec.ofChange astCallsWrong)

/-- 'lamplighterlaw06.AstParts': WHATEVER THE INPUT: true; the input reads as it did. -/
def astPartsSpec : ChangeSpec := { name := "astParts", fn := fun _ => fun
  | [d1, d2] => { results := [.lit (.bool true)], args := [d1, d2] }
  | _ => none }
def astPartsRow : OpenClaim := { program := "ytgkhpecllhiidaadoor", sum := "2547f49cd0f667f1ec05223a5b3af5d7939c5049d7978b23319de66f3a39f0c5", func := "lamplighter/lamplighterlaw06.AstParts", spec := "astParts", unfollowed := true, recurses := true, named := ["lamplighter/lex.keys"], loops := true, apart := false, laid := [("lamplighter/lex.keys", laid_lamplighter_lex_keys)] }
def AstPartsSaid : Prop := astPartsRow.holds Tryd.pinned (OpenSpec.ofChange astPartsSpec)

/-- ITS FALSE NEIGHBOUR: 'it returns false'. Refute it at one input. -/
def astPartsWrong : ChangeSpec := { name := "astParts", fn := fun _ => fun
  | [d1, d2] => { results := [.lit (.bool false)], args := [d1, d2] }
  | _ => none }
def AstPartsWrongFalsely : Prop := astPartsRow.holds Tryd.pinned (OpenSpec.ofChange astPartsWrong)

/-- 'lamplighterlaw05.LexNames': WHATEVER THE INPUT: true; the input reads as it did. -/
def lexNamesSpec : ChangeSpec := { name := "lexNames", fn := fun _ => fun
  | [] => { results := [.lit (.bool true)], args := [] }
  | _ => none }
def lexNamesRow : OpenClaim := { program := "ytgkhpecllhiidaadoor", sum := "2547f49cd0f667f1ec05223a5b3af5d7939c5049d7978b23319de66f3a39f0c5", func := "lamplighter/lamplighterlaw05.LexNames", spec := "lexNames", inPlace := ["internal/bytealg.IndexByteString", "internal/bytealg.IndexString", "internal/abi.NoEscape", "internal/bytealg.MakeNoZero"], unfollowed := true, recurses := true, named := ["lamplighter/lex.keys", "internal/bytealg.MaxLen"], apart := false, laid := [("lamplighter/lex.keys", laid_lamplighter_lex_keys)] }
def LexNamesSaid : Prop := lexNamesRow.holds Tryd.pinned (OpenSpec.ofChange lexNamesSpec)

/-- ITS FALSE NEIGHBOUR: 'it returns false'. Refute it at one input. -/
def lexNamesWrong : ChangeSpec := { name := "lexNames", fn := fun _ => fun
  | [] => { results := [.lit (.bool false)], args := [] }
  | _ => none }
def LexNamesWrongFalsely : Prop := lexNamesRow.holds Tryd.pinned (OpenSpec.ofChange lexNamesWrong)

/-- 'lamplighterlaw05.LexBack': WHATEVER THE INPUT: true; the input reads as it did. -/
def lexBackSpec : ChangeSpec := { name := "lexBack", fn := fun _ => fun
  | [d] => { results := [.lit (.bool true)], args := [d] }
  | _ => none }
def lexBackRow : OpenClaim := { program := "ytgkhpecllhiidaadoor", sum := "2547f49cd0f667f1ec05223a5b3af5d7939c5049d7978b23319de66f3a39f0c5", func := "lamplighter/lamplighterlaw05.LexBack", spec := "lexBack", inPlace := ["internal/bytealg.IndexByteString", "internal/bytealg.IndexString", "internal/abi.NoEscape", "internal/bytealg.MakeNoZero"], unfollowed := true, recurses := true, named := ["lamplighter/lex.keys", "internal/bytealg.MaxLen"], apart := false, laid := [("lamplighter/lex.keys", laid_lamplighter_lex_keys)] }
def LexBackSaid : Prop := lexBackRow.holds Tryd.pinned (OpenSpec.ofChange lexBackSpec)

/-- ITS FALSE NEIGHBOUR: 'it returns false'. Refute it at one input. -/
def lexBackWrong : ChangeSpec := { name := "lexBack", fn := fun _ => fun
  | [d] => { results := [.lit (.bool false)], args := [d] }
  | _ => none }
def LexBackWrongFalsely : Prop := lexBackRow.holds Tryd.pinned (OpenSpec.ofChange lexBackWrong)

/-- 'lamplighterlaw05.LexCalls': WHATEVER THE INPUT: true; the input reads as it did. -/
def lexCallsSpec : ChangeSpec := { name := "lexCalls", fn := fun _ => fun
  | [d1, d2, d3] => { results := [.lit (.bool true)], args := [d1, d2, d3] }
  | _ => none }
def lexCallsRow : OpenClaim := { program := "ytgkhpecllhiidaadoor", sum := "2547f49cd0f667f1ec05223a5b3af5d7939c5049d7978b23319de66f3a39f0c5", func := "lamplighter/lamplighterlaw05.LexCalls", spec := "lexCalls", inPlace := ["internal/bytealg.IndexByteString", "internal/bytealg.IndexString", "internal/abi.NoEscape", "internal/bytealg.MakeNoZero"], unfollowed := true, recurses := true, named := ["lamplighter/lex.keys", "internal/bytealg.MaxLen"], apart := false, laid := [("lamplighter/lex.keys", laid_lamplighter_lex_keys)] }
def LexCallsSaid : Prop := lexCallsRow.holds Tryd.pinned (OpenSpec.ofChange lexCallsSpec)

/-- ITS FALSE NEIGHBOUR: 'it returns false'. Refute it at one input. -/
def lexCallsWrong : ChangeSpec := { name := "lexCalls", fn := fun _ => fun
  | [d1, d2, d3] => { results := [.lit (.bool false)], args := [d1, d2, d3] }
  | _ => none }
def LexCallsWrongFalsely : Prop := lexCallsRow.holds Tryd.pinned (OpenSpec.ofChange lexCallsWrong)

/- THE SECOND FORM. 'bulk': how many values and letters a reading holds, each counted each time it is reached (what is shared counts as often as it is met; a slice's spare places count too). A statement '..UptoSaid' is the law's where the arguments, and the package variables that the reading takes, are together of bulk at most 1048576: NARROWER than '..Said'. Prove '..Said' where nothing that the law and all that it calls make is longer than what came in: it says more and counts as full. Else prove '..UptoSaid'. A law counts once. -/
mutual
def uptoBulk {H : Type} : DataW H → Nat
  | .lit (.string bytes) => bytes.length + 1
  | .lit _ => 1
  | .nil => 1
  | .ptr d => uptoBulk d + 1
  | .slice elems spare => uptoBulkAll elems + uptoBulkAll spare + 1
  | .agg parts => uptoBulkAll parts + 1
  | .iface _ d => uptoBulk d + 1
  | .map entries => uptoBulkEntries entries + 1
  | .held _ => 1
def uptoBulkAll {H : Type} : List (DataW H) → Nat
  | [] => 0
  | d :: r => uptoBulk d + uptoBulkAll r
def uptoBulkEntries {H : Type} : List (Lit × DataW H) → Nat
  | [] => 0
  | x :: r => uptoBulkEntry x + uptoBulkEntries r
def uptoBulkEntry {H : Type} : Lit × DataW H → Nat
  | (.string bytes, d) => bytes.length + uptoBulk d + 1
  | (_, d) => uptoBulk d + 1
 end
def uptoSmall : (H : Type) → List (DataW H) → Bool := fun _ ds => decide (uptoBulkAll ds ≤ 1048576)
def OpenSpec.upto (s : _root_.Go.ChangeSpec) : _root_.Go.OpenSpec := { _root_.Go.OpenSpec.ofChange s with cond := some uptoSmall }

/-- 'lamplighterlaw06.AstNamed', WHERE WHAT IT READS IS OF BULK AT MOST 1048576: true; the input reads as it did. -/
def astNamedUptoRow : OpenClaim := { program := "ytgkhpecllhiidaadoor", sum := "2547f49cd0f667f1ec05223a5b3af5d7939c5049d7978b23319de66f3a39f0c5", func := "lamplighter/lamplighterlaw06.AstNamed", spec := "astNamed", unfollowed := true, recurses := true, named := ["lamplighter/lex.keys"], loops := true, apart := false, laid := [("lamplighter/lex.keys", laid_lamplighter_lex_keys)], narrowed := true }
def AstNamedUptoSaid : Prop := astNamedUptoRow.holds Tryd.pinned (OpenSpec.upto astNamedSpec)

/-- 'lamplighterlaw06.AstSizes', WHERE WHAT IT READS IS OF BULK AT MOST 1048576: true; the input reads as it did. -/
def astSizesUptoRow : OpenClaim := { program := "ytgkhpecllhiidaadoor", sum := "2547f49cd0f667f1ec05223a5b3af5d7939c5049d7978b23319de66f3a39f0c5", func := "lamplighter/lamplighterlaw06.AstSizes", spec := "astSizes", unfollowed := true, recurses := true, named := ["lamplighter/lex.keys"], loops := true, apart := false, laid := [("lamplighter/lex.keys", laid_lamplighter_lex_keys)], narrowed := true }
def AstSizesUptoSaid : Prop := astSizesUptoRow.holds Tryd.pinned (OpenSpec.upto astSizesSpec)

/-- 'lamplighterlaw05.LexNumbers', WHERE WHAT IT READS IS OF BULK AT MOST 1048576: true; the input reads as it did. -/
def lexNumbersUptoRow : OpenClaim := { program := "ytgkhpecllhiidaadoor", sum := "2547f49cd0f667f1ec05223a5b3af5d7939c5049d7978b23319de66f3a39f0c5", func := "lamplighter/lamplighterlaw05.LexNumbers", spec := "lexNumbers", inPlace := ["internal/bytealg.IndexByteString", "internal/bytealg.IndexString"], unfollowed := true, recurses := true, named := ["lamplighter/lex.keys", "internal/bytealg.MaxLen"], apart := false, laid := [("lamplighter/lex.keys", laid_lamplighter_lex_keys)], narrowed := true }
def LexNumbersUptoSaid : Prop := lexNumbersUptoRow.holds Tryd.pinned (OpenSpec.upto lexNumbersSpec)

/-- 'lamplighterlaw05.LexParts', WHERE WHAT IT READS IS OF BULK AT MOST 1048576: true; the input reads as it did. -/
def lexPartsUptoRow : OpenClaim := { program := "ytgkhpecllhiidaadoor", sum := "2547f49cd0f667f1ec05223a5b3af5d7939c5049d7978b23319de66f3a39f0c5", func := "lamplighter/lamplighterlaw05.LexParts", spec := "lexParts", inPlace := ["internal/bytealg.IndexByteString", "internal/bytealg.IndexString"], unfollowed := true, recurses := true, named := ["lamplighter/lex.keys", "internal/bytealg.MaxLen"], apart := false, laid := [("lamplighter/lex.keys", laid_lamplighter_lex_keys)], narrowed := true }
def LexPartsUptoSaid : Prop := lexPartsUptoRow.holds Tryd.pinned (OpenSpec.upto lexPartsSpec)

/-- 'lamplighterlaw06.AstSames', WHERE WHAT IT READS IS OF BULK AT MOST 1048576: true; the input reads as it did. -/
def astSamesUptoRow : OpenClaim := { program := "ytgkhpecllhiidaadoor", sum := "2547f49cd0f667f1ec05223a5b3af5d7939c5049d7978b23319de66f3a39f0c5", func := "lamplighter/lamplighterlaw06.AstSames", spec := "astSames", unfollowed := true, recurses := true, named := ["lamplighter/lex.keys"], loops := true, apart := false, laid := [("lamplighter/lex.keys", laid_lamplighter_lex_keys)], narrowed := true }
def AstSamesUptoSaid : Prop := astSamesUptoRow.holds Tryd.pinned (OpenSpec.upto astSamesSpec)

/-- 'lamplighterlaw06.AstNames', WHERE WHAT IT READS IS OF BULK AT MOST 1048576: true; the input reads as it did. -/
def astNamesUptoRow : OpenClaim := { program := "ytgkhpecllhiidaadoor", sum := "2547f49cd0f667f1ec05223a5b3af5d7939c5049d7978b23319de66f3a39f0c5", func := "lamplighter/lamplighterlaw06.AstNames", spec := "astNames", unfollowed := true, recurses := true, named := ["lamplighter/lex.keys"], apart := false, laid := [("lamplighter/lex.keys", laid_lamplighter_lex_keys)], narrowed := true }
def AstNamesUptoSaid : Prop := astNamesUptoRow.holds Tryd.pinned (OpenSpec.upto astNamesSpec)

/-- 'lamplighterlaw06.AstCalls', WHERE WHAT IT READS IS OF BULK AT MOST 1048576: true; the input reads as it did. -/
def astCallsUptoRow : OpenClaim := { program := "ytgkhpecllhiidaadoor", sum := "2547f49cd0f667f1ec05223a5b3af5d7939c5049d7978b23319de66f3a39f0c5", func := "lamplighter/lamplighterlaw06.AstCalls", spec := "astCalls", unfollowed := true, recurses := true, named := ["lamplighter/lex.keys"], loops := true, apart := false, laid := [("lamplighter/lex.keys", laid_lamplighter_lex_keys)], narrowed := true }
def AstCallsUptoSaid : Prop := astCallsUptoRow.holds Tryd.pinned (OpenSpec.upto astCallsSpec)

/-- 'lamplighterlaw06.AstParts', WHERE WHAT IT READS IS OF BULK AT MOST 1048576: true; the input reads as it did. -/
def astPartsUptoRow : OpenClaim := { program := "ytgkhpecllhiidaadoor", sum := "2547f49cd0f667f1ec05223a5b3af5d7939c5049d7978b23319de66f3a39f0c5", func := "lamplighter/lamplighterlaw06.AstParts", spec := "astParts", unfollowed := true, recurses := true, named := ["lamplighter/lex.keys"], loops := true, apart := false, laid := [("lamplighter/lex.keys", laid_lamplighter_lex_keys)], narrowed := true }
def AstPartsUptoSaid : Prop := astPartsUptoRow.holds Tryd.pinned (OpenSpec.upto astPartsSpec)

/-- 'lamplighterlaw05.LexNames', WHERE WHAT IT READS IS OF BULK AT MOST 1048576: true; the input reads as it did. -/
def lexNamesUptoRow : OpenClaim := { program := "ytgkhpecllhiidaadoor", sum := "2547f49cd0f667f1ec05223a5b3af5d7939c5049d7978b23319de66f3a39f0c5", func := "lamplighter/lamplighterlaw05.LexNames", spec := "lexNames", inPlace := ["internal/bytealg.IndexByteString", "internal/bytealg.IndexString", "internal/abi.NoEscape", "internal/bytealg.MakeNoZero"], unfollowed := true, recurses := true, named := ["lamplighter/lex.keys", "internal/bytealg.MaxLen"], apart := false, laid := [("lamplighter/lex.keys", laid_lamplighter_lex_keys)], narrowed := true }
def LexNamesUptoSaid : Prop := lexNamesUptoRow.holds Tryd.pinned (OpenSpec.upto lexNamesSpec)

/-- 'lamplighterlaw05.LexBack', WHERE WHAT IT READS IS OF BULK AT MOST 1048576: true; the input reads as it did. -/
def lexBackUptoRow : OpenClaim := { program := "ytgkhpecllhiidaadoor", sum := "2547f49cd0f667f1ec05223a5b3af5d7939c5049d7978b23319de66f3a39f0c5", func := "lamplighter/lamplighterlaw05.LexBack", spec := "lexBack", inPlace := ["internal/bytealg.IndexByteString", "internal/bytealg.IndexString", "internal/abi.NoEscape", "internal/bytealg.MakeNoZero"], unfollowed := true, recurses := true, named := ["lamplighter/lex.keys", "internal/bytealg.MaxLen"], apart := false, laid := [("lamplighter/lex.keys", laid_lamplighter_lex_keys)], narrowed := true }
def LexBackUptoSaid : Prop := lexBackUptoRow.holds Tryd.pinned (OpenSpec.upto lexBackSpec)

/-- 'lamplighterlaw05.LexCalls', WHERE WHAT IT READS IS OF BULK AT MOST 1048576: true; the input reads as it did. -/
def lexCallsUptoRow : OpenClaim := { program := "ytgkhpecllhiidaadoor", sum := "2547f49cd0f667f1ec05223a5b3af5d7939c5049d7978b23319de66f3a39f0c5", func := "lamplighter/lamplighterlaw05.LexCalls", spec := "lexCalls", inPlace := ["internal/bytealg.IndexByteString", "internal/bytealg.IndexString", "internal/abi.NoEscape", "internal/bytealg.MakeNoZero"], unfollowed := true, recurses := true, named := ["lamplighter/lex.keys", "internal/bytealg.MaxLen"], apart := false, laid := [("lamplighter/lex.keys", laid_lamplighter_lex_keys)], narrowed := true }
def LexCallsUptoSaid : Prop := lexCallsUptoRow.holds Tryd.pinned (OpenSpec.upto lexCallsSpec)

end Rows
end Go.Proofs.YtgkhpecllhiidaaDoor
