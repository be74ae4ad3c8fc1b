/- The plain law of LexParts. -/
import Derived.Test.YtgkhpecllhiidaaDoorPq
import Derived.Test.YtgkhpecllhiidaaDoorQxP
set_option linter.unusedVariables false
set_option linter.unusedSimpArgs false
namespace Go.Proofs.YtgkhpecllhiidaaDoor.Q
open Go.RowKit Go.Proofs.YtgkhpecllhiidaaDoorW.PrintWords Go.Proofs.YtgkhpecllhiidaaDoorW.PrintLast Go.Proofs.YtgkhpecllhiidaaDoorW.PrintMore
open Lx (letB digB wcB numAt adv isCom blankB lexFrom lexAll toks Tk LexR)

theorem chain_line {s : ByteArray} {i : Nat} {ts : List Tk} (h : Chain s i ts) : ∀ t ∈ ts, 0 ≤ t.line ∧ t.line ≤ s.size + 1 := by
  induction h with
  | nil => intro t ht; cases ht
  | cons i j n kind num ts hij T hb hc hr ih =>
    intro t ht
    rcases List.mem_cons.1 ht with rfl | ht
    · have := (Lx.adv_in s 0 j (1, 1) (by simp) (by simp)).1
      have hf := T.fit
      have hp := T.pos
      simp only
      omega
    · exact ih t ht
theorem lp_loop (ts us : List Tk) (line : Int) (hl : 0 ≤ line ∧ line ≤ 100000) (hu : ∀ t ∈ us, 0 ≤ t.line ∧ t.line ≤ 100000) (h1 : ts.length ≤ 100000) (h2 : us.length ≤ 100000) : ∀ (n k i : Nat), us.length - i = n → n < k → i ≤ us.length →
    lamplighterlaw05_LexParts.l1 k (ts.map s59) (us.map s59) ((ts ++ us.map (shT (line - 1))).map s59) line (i : Int) = some true := by
  intro n; induction n with
  | zero =>
    intro k i h3 h4 h5
    cases k with
    | zero => omega
    | succ k => rw [lamplighterlaw05_LexParts.l1, if_neg (by rw [List.length_map]; omega)]
  | succ n ih =>
    intro k i h3 h4 h5
    cases k with
    | zero => omega
    | succ k =>
      have hi : i < us.length := by omega
      have hlen : ((ts ++ us.map (shT (line - 1))).map s59).length = ts.length + us.length := by rw [List.length_map, List.length_append, List.length_map]
      have hx : ts.length + i < ((ts ++ us.map (shT (line - 1))).map s59).length := by omega
      have hy : i < (us.map s59).length := by rw [List.length_map]; exact hi
      have hj : wrap64 (((ts.map s59).length : Int) + (i : Int)) = ((ts.length + i : Nat) : Int) := by rw [List.length_map, w64a _ (by omega)]; push_cast; rfl
      have eA : ((ts ++ us.map (shT (line - 1))).map s59)[ts.length + i] = s59 (shT (line - 1) us[i]) := by
        rw [List.getElem_map, List.getElem_append_right (by omega), List.getElem_map]
        congr 3
        omega
      have eU : (us.map s59)[i] = s59 us[i] := by rw [List.getElem_map]
      have hb := hu us[i] (List.getElem_mem hi)
      have hline : (s59 (shT (line - 1) us[i])).f2 = wrap64 (wrap64 ((s59 us[i]).f2 + line) - 1) := by
        show (us[i]).line + (line - 1) = wrap64 (wrap64 ((us[i]).line + line) - 1)
        rw [w64a ((us[i]).line + line) (by omega), w64a _ (by omega)]
        omega
      have e3 : (s59 (shT (line - 1) us[i])).f3 = (s59 us[i]).f3 := rfl
      have e1 : (s59 (shT (line - 1) us[i])).f1.toList = (s59 us[i]).f1.toList := rfl
      have e0 : (s59 (shT (line - 1) us[i])).f0 = (s59 us[i]).f0 := rfl
      have e4 : (s59 (shT (line - 1) us[i])).f4 = (s59 us[i]).f4 := rfl
      rw [lamplighterlaw05_LexParts.l1, if_pos (by rw [List.length_map]; omega), hj, if_pos (by omega), if_pos (by omega), if_pos (by omega), rd_at _ (ts.length + i) hx, rd_at _ i hy, eA, eU, if_pos hline, if_pos e3, if_pos e1, if_pos e0, if_pos e4, w64 i (by omega)]
      exact ih k (i + 1) (by omega) (by omega) (by omega)
/-- What follows the loop over the remark. -/
def lpRest (k : Nat) (x0 x1 x2 : ByteArray) : Option Bool := (lex_All.f x0).bind fun bt139 => ((lex_All.f x1).bind fun bt146 => (if (!(bt139.2.1 == 0) || (!(bt139.2.2.1 == 0) || (!(bt139.2.2.2 == 0)))) = true then (lamplighterlaw05_LexParts.j2 k x0 x1 x2 bt139.1 bt146.1 true) else (lamplighterlaw05_LexParts.j2 k x0 x1 x2 bt139.1 bt146.1 (!(bt146.2.1 == 0) || (!(bt146.2.2.1 == 0) || (!(bt146.2.2.2 == 0)))))))
theorem lp_remark (a b r : ByteArray) (hr : r.size ≤ 100000) : ∀ (n k i : Nat), r.size - i = n → i ≤ r.size → (∀ q, q < i → Lx.bt r q ≠ 10) →
    lamplighterlaw05_LexParts.l0 (k + n + 1) a b r (i : Int) = some true ∨ ((∀ q, q < r.size → Lx.bt r q ≠ 10) ∧ lamplighterlaw05_LexParts.l0 (k + n + 1) a b r (i : Int) = lpRest k a b r) := by
  intro n; induction n with
  | zero =>
    intro k i h1 h2 h3
    obtain rfl : i = r.size := by omega
    refine .inr ⟨h3, ?_⟩
    rw [Nat.add_zero, lamplighterlaw05_LexParts.l0, if_neg (by omega)]
    rfl
  | succ n ih =>
    intro k i h1 h2 h3
    have hi : i < r.size := by omega
    by_cases h10 : Lx.bt r i = 10
    · left
      rw [show k + (n + 1) + 1 = (k + n + 1) + 1 from by omega, lamplighterlaw05_LexParts.l0, if_pos (by omega), if_pos (by omega), bt_nat, if_pos h10]
    · have e : lamplighterlaw05_LexParts.l0 (k + (n + 1) + 1) a b r (i : Int) = lamplighterlaw05_LexParts.l0 (k + n + 1) a b r ((i + 1 : Nat) : Int) := by
        rw [show k + (n + 1) + 1 = (k + n + 1) + 1 from by omega, lamplighterlaw05_LexParts.l0, if_pos (by omega), if_pos (by omega), bt_nat, if_neg h10, w64 i (by omega)]
      rw [e]
      refine ih k (i + 1) (by omega) (by omega) fun q hq => ?_
      rcases (by omega : q < i ∨ q = i) with h | rfl
      · exact h3 q h
      · exact h10
theorem lex_All_f (s : ByteArray) (h : s.size ≤ 65536) : lex_All.f s = some (outOf (lexAll s)) := by unfold lex_All.f; rw [if_pos h]; rfl
theorem fault_nz (p : Int × Int) : (!(((11 : Int)) == 0) || (!((p.1) == 0) || (!((p.2) == 0)))) = true := rfl
theorem lp_small {x : Int} {n : Nat} (h : 0 ≤ x ∧ x ≤ (n : Int) + 1) (hn : n ≤ 2000) : 0 ≤ x ∧ x ≤ 100000 := by omega
theorem lp_rest (a b r : ByteArray) (ha : a.size ≤ 2000) (hb : b.size ≤ 2000) (hrs : r.size ≤ 100) (hr : ∀ q, q < r.size → Lx.bt r q ≠ 10) (k : Nat) (hk : 10000 ≤ k) : lpRest (k + 1 + 1) a b r = some true := by
  unfold lpRest
  rw [lex_All_f a (by omega), lex_All_f b (by omega), Option.bind_some, Option.bind_some]
  rcases lex_chain a (by omega) (a.size + 1) 0 [] (by omega) with ⟨ts, e, hch⟩ | ⟨l', j, e⟩
  · have e : lexAll a = (ts, none) := e
    rw [e, out_end]
    rw [if_neg (by simp)]
    rcases lex_chain b (by omega) (b.size + 1) 0 [] (by omega) with ⟨us, e', hch'⟩ | ⟨l', j, e'⟩
    · have e' : lexAll b = (us, none) := e'
      rw [e', out_end]
      simp only
      have hts : ts.length ≤ a.size := by have := (toks_size a (by omega)).1; rw [e] at this; exact this
      have hus : us.length ≤ b.size := by have := (toks_size b (by omega)).1; rw [e'] at this; exact this
      have hz0 : (a ++ midS).size = a.size + 6 := by rw [ByteArray.size_append]; rfl
      have hz1 : ((a ++ midS) ++ r).size = a.size + 6 + r.size := by rw [ByteArray.size_append, hz0]
      have hz2 : (((a ++ midS) ++ r) ++ nlS).size = a.size + 7 + r.size := headS_size a r
      have hz3 : ((((a ++ midS) ++ r) ++ nlS) ++ b).size = a.size + 7 + r.size + b.size := by rw [ByteArray.size_append, hz2]
      have hP := lex_parts a r b (by omega) (by omega) (by omega) hr ts us e e'
      obtain ⟨line, hline⟩ : ∃ line, Aside0 ((adv (headS a r) 0 (1, 1) (headS a r).size).1 = line) := ⟨_, ⟨rfl⟩⟩
      rw [hline.out] at hP
      have hlb : 0 ≤ line ∧ line ≤ 100000 := by
        have := (Lx.adv_in (headS a r) 0 (headS a r).size (1, 1) (by simp) (by simp)).1
        rw [hline.out, headS_size] at this
        omega
      have hY : lex_All.f ((((a ++ midS) ++ r) ++ nlS) ++ b) = some ((ts ++ us.map (shT (line - 1))).map s59, 0, 0, 0) := by
        rw [lex_All_f _ (by omega)]
        show some (outOf (lexAll (headS a r ++ b))) = _
        rw [hP, out_end]
      have hL : lex_Line.f (((a ++ midS) ++ r) ++ nlS) (((((a ++ midS) ++ r) ++ nlS).size : Nat) : Int) = some (adv (headS a r) 0 (1, 1) (headS a r).size) := by
        unfold lex_Line.f
        rw [if_pos (by omega)]
        have : Lx.clampI (((a ++ midS) ++ r) ++ nlS) (((((a ++ midS) ++ r) ++ nlS).size : Nat) : Int) = (((a ++ midS) ++ r) ++ nlS).size := by unfold Lx.clampI; omega
        rw [this]; rfl
      have hn : wrap64 (((ts.map s59).length : Int) + ((us.map s59).length : Int)) = ((ts.length + us.length : Nat) : Int) := by rw [List.length_map, List.length_map, w64a _ (by omega)]; push_cast; rfl
      have hlen : ((ts ++ us.map (shT (line - 1))).map s59).length = ts.length + us.length := by rw [List.length_map, List.length_append, List.length_map]
      have htake : ((ts ++ us.map (shT (line - 1))).map s59).take (((ts.map s59).length : Int).toNat) = ts.map s59 := by
        rw [Int.toNat_natCast, List.map_append, List.take_left]
      have q1 : ((((ts ++ us.map (shT (line - 1))).map s59).length : Nat) : Int) = ((ts.length + us.length : Nat) : Int) := by rw [hlen]
      have q2 : (0 : Int) ≤ ((ts.map s59).length : Int) := Int.natCast_nonneg _
      have q3 : ((ts.map s59).length : Int) ≤ (((ts ++ us.map (shT (line - 1))).map s59).length : Int) := by rw [hlen, List.length_map]; omega
      have q4 : (ts.map s59).length ≤ 1000000 := by rw [List.length_map]; exact Nat.le_trans hts (Nat.le_trans ha (by decide))
      have q5 : (ts.map s59).length < k + 1 := by rw [List.length_map]; exact Nat.lt_of_le_of_lt (Nat.le_trans hts ha) (Nat.lt_of_lt_of_le (by decide : 2000 < 10000) (Nat.le_trans hk (Nat.le_succ k)))
      have q6 : us.length < k := Nat.lt_of_le_of_lt (Nat.le_trans hus hb) (Nat.lt_of_lt_of_le (by decide : 2000 < 10000) hk)
      have q7 : ts.length ≤ 100000 := Nat.le_trans hts (Nat.le_trans ha (by decide))
      have q8 : us.length ≤ 100000 := Nat.le_trans hus (Nat.le_trans hb (by decide))
      have g1 : a.size + 6 ≤ 9223372036854775807 := by omega
      have g2 : (a ++ (⟨#[10, 32, 9, 47, 47, 32]⟩ : ByteArray)).size + r.size ≤ 9223372036854775807 := by show (a ++ midS).size + r.size ≤ _; omega
      have g3 : ((a ++ (⟨#[10, 32, 9, 47, 47, 32]⟩ : ByteArray)) ++ r).size + 1 ≤ 9223372036854775807 := by show ((a ++ midS) ++ r).size + 1 ≤ _; omega
      have g4 : (((a ++ (⟨#[10, 32, 9, 47, 47, 32]⟩ : ByteArray)) ++ r) ++ (⟨#[10]⟩ : ByteArray)).size + b.size ≤ 9223372036854775807 := by show (((a ++ midS) ++ r) ++ nlS).size + b.size ≤ _; omega
      rw [lamplighterlaw05_LexParts.j2, if_neg (by simp), if_pos g1, if_pos g2, if_pos g3, if_pos g4, hY, Option.bind_some, hL, Option.bind_some, if_neg (by simp)]
      simp only
      rw [hn, if_pos q1, if_pos q2, if_pos q3, htake, tokens_same _ q4 _ q5, Option.bind_some, hline.out]
      rw [lamplighterlaw05_LexParts.j3, if_neg (by simp)]
      exact lp_loop ts us line hlb (fun t ht => lp_small (chain_line hch' t ht) hb) q7 q8 us.length k 0 (Nat.sub_zero _) q6 (Nat.zero_le _)
    · have e' : lexAll b = (l', some (adv b 0 (1, 1) j)) := e'
      rw [e', out_fault]
      rw [lamplighterlaw05_LexParts.j2, if_pos (fault_nz _)]
  · have e : lexAll a = (l', some (adv a 0 (1, 1) j)) := e
    rw [e, out_fault]
    rw [if_pos (fault_nz _), lamplighterlaw05_LexParts.j2, if_pos rfl]
theorem lexParts_pure : lamplighterlaw05_LexParts.Pure := by
  intro a b r _ _ _
  refine ⟨20000 + r.size + 1 + 1, ?_⟩
  unfold lamplighterlaw05_LexParts.f
  rw [lives_any _ (by omega), Option.bind_some, if_pos rfl]
  by_cases h1 : (a.size : Int) > 2000
  · rw [if_pos h1, lamplighterlaw05_LexParts.j0, if_pos rfl]
  · rw [if_neg h1]
    by_cases h2 : (b.size : Int) > 2000
    · rw [if_pos h2, lamplighterlaw05_LexParts.j0, if_pos rfl]
    · rw [if_neg h2, lamplighterlaw05_LexParts.j0]
      by_cases h3 : (r.size : Int) > 100
      · rw [if_pos (by simpa using h3)]
      · rw [if_neg (by simpa using h3)]
        rcases lp_remark a b r (by omega) r.size 20000 0 (by omega) (by omega) (fun q hq => by omega) with h | ⟨hr, h⟩
        · exact h
        · have h : lamplighterlaw05_LexParts.l0 (20000 + r.size + 1) a b r 0 = lpRest 20000 a b r := h
          rw [h]
          exact lp_rest a b r (by omega) (by omega) (by omega) hr 19998 (by omega)
end Go.Proofs.YtgkhpecllhiidaaDoor.Q
