/- The plain law of LexCalls. -/
import Derived.Test.YtgkhpecllhiidaaDoorPh
import Derived.Test.YtgkhpecllhiidaaDoorQx5
set_option linter.unusedVariables false
set_option linter.unusedSimpArgs false
namespace Go.Proofs.YtgkhpecllhiidaaDoor.Q
open Go.RowKit Go.Proofs.YtgkhpecllhiidaaDoorW.PrintWords Go.Proofs.YtgkhpecllhiidaaDoorW.PrintLast Go.Proofs.YtgkhpecllhiidaaDoorW.PrintMore
open Lx (lexAll toks)
theorem lexCalls_j (s x : ByteArray) (a : Int) (hs : s.size ≤ 2000) (hx : x.size ≤ 2000) : lamplighterlaw05_LexCalls.j0 20001 s x a false = some true := by
  have hsz := toks_size s (by omega)
  have hL : ((toks (lexAll s)).map s59).length ≤ 1000000 := by rw [List.length_map]; omega
  have hT : ((textsOf ((toks (lexAll s)).map s59)).map (·.size)).sum ≤ 1000000 := by
    have e : (textsOf ((toks (lexAll s)).map s59)).map (·.size) = (toks (lexAll s)).map fun t => t.text.size := by
      unfold textsOf; rw [List.map_map, List.map_map]; rfl
    rw [e]
    have := hsz.2
    unfold textSum at this
    omega
  have hl : ((toks (lexAll s)).map s59).length ≤ 2000 := by rw [List.length_map]; omega
  have e1 : lex_All.f s = some (outOf (lexAll s)) := by unfold lex_All.f; rw [if_pos (by omega)]; rfl
  have e2 := all_eq s (by omega) 20000 (by omega)
  have e3 : lex_Line.f s a = some (Lx.adv s 0 (1, 1) (Lx.clampI s a)) := by unfold lex_Line.f; rw [if_pos (by omega)]
  have e4 := line_eq s a (by omega) 20000 (by omega)
  have e5 : lex_Kind.f x = some (Lx.kindOf x) := by unfold lex_Kind.f; rw [if_pos (by omega)]
  have e6 := kind_eq x (by omega) 20000 (by omega)
  have e7 := refJoin_eq _ hL hT 20000 (by omega)
  have e8 := lexJoin_eq _ hL hT 20000 (by omega)
  have e9 := tokens_same _ hL 20000 (by omega)
  rw [lamplighterlaw05_LexCalls.j0, if_neg (by simp), e1, Option.bind_some, e2, Option.bind_some, e3, Option.bind_some, e4, Option.bind_some]
  simp only [outOf]
  rw [e9, Option.bind_some, if_pos rfl, if_pos (by simp), if_pos trivial, if_pos trivial, e5, Option.bind_some, e6, Option.bind_some, if_pos rfl, e8, Option.bind_some, e7, Option.bind_some]
  simp
theorem lexCalls_pure : lamplighterlaw05_LexCalls.Pure := by
  intro s x a _ _ _
  refine ⟨20001, ?_⟩
  unfold lamplighterlaw05_LexCalls.f
  rw [lives_any 20001 (by omega), Option.bind_some, if_pos rfl]
  by_cases h1 : (s.size : Int) > 2000
  · rw [if_pos h1, lamplighterlaw05_LexCalls.j0, if_pos rfl]
  · rw [if_neg h1]
    by_cases h2 : (x.size : Int) > 2000
    · rw [decide_eq_true h2, lamplighterlaw05_LexCalls.j0, if_pos rfl]
    · rw [decide_eq_false h2]
      exact lexCalls_j s x a (by omega) (by omega)
end Go.Proofs.YtgkhpecllhiidaaDoor.Q
