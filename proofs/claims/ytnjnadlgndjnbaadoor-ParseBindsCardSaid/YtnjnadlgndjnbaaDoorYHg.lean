/- The contracts of lex.between and lex.All. -/
import Derived.Test.YtnjnadlgndjnbaaDoorYHf
import Derived.Deep.LoopGhost
import Derived.Lib.IndexLaws
set_option linter.unusedVariables false
set_option linter.unusedSimpArgs false
namespace Go.Proofs.YtnjnadlgndjnbaaDoor.Lx
open Go.RowKit Go.Proofs.YtnjnadlgndjnbaaDoorW.PrintLast
def blankB (c : Int) : Bool := c == 32 || c == 9 || c == 10 || c == 13
def nlC (x : ByteArray) : Int := Lib.indexByte x.data.toList 10
def comLen (s : ByteArray) (i : Nat) : Nat := if nlC (s.extract i s.size) < 0 then s.size - i else (nlC (s.extract i s.size)).toNat
def isCom (s : ByteArray) (i : Nat) : Bool := bt s i == 47 && bt s (i + 1) == 47
def betw (s : ByteArray) : Nat → Nat → Int × Int → Nat × Nat × (Int × Int)
  | 0, i, lc => (0, i, lc)
  | f + 1, i, lc => if i < s.size then
      if blankB (bt s i) then betw s f (i + 1) (adv s i lc 1)
      else if isCom s i then betw s f (i + comLen s i) (adv s i lc (comLen s i))
      else (if letB (bt s i) then 1 else if digB (bt s i) then 2 else 3, i, lc)
    else (0, i, lc)
def stateVal : Nat → Value
  | 0 => .nilFunc
  | 1 => .func (.func 68) #[] #[]
  | 2 => .func (.func 70) #[] #[]
  | _ => .func (.func 71) #[] #[]
theorem index_nl (x : ByteArray) (w : World) : Calls Tryd.prog 66 #[.string x, .int .u8 10] w fun e w' => e = .returned (.int .i64 (nlC x)) ∧ w' = w :=
  Tryd.strings_IndexByte x 10 w
theorem bt_of_get (s : ByteArray) (k : Nat) (b : UInt8) (h : s.data.toList[k]? = some b) : k < s.size ∧ bt s k = b.toNat := by
  have h1 : k < s.data.toList.length := (List.getElem?_eq_some_iff.1 h).1
  refine ⟨by simpa using h1, ?_⟩
  rw [bt_list, List.getD_eq_getElem?_getD, h]
  rfl
theorem nlC_some (s : ByteArray) (i o : Nat) (hi : i ≤ s.size) (h : nlC (s.extract i s.size) = o) : i + o < s.size ∧ bt s (i + o) = 10 := by
  have h1 := (Lib.indexByte_some h).1
  obtain ⟨h2, h3⟩ := bt_of_get _ _ _ h1
  have h4 : (s.extract i s.size).size = s.size - i := by simp
  have h5 := bt_extract s i (s.size - i) o (by omega) (by omega)
  rw [show i + (s.size - i) = s.size from by omega] at h5
  exact ⟨by omega, by rw [← h5, h3]; rfl⟩
theorem nlC_range (s : ByteArray) (i : Nat) (h : i < s.size) (hc : bt s i ≠ 10) : -1 ≤ nlC (s.extract i s.size) ∧ nlC (s.extract i s.size) ≠ 0 ∧ i + nlC (s.extract i s.size) < s.size := by
  have h1 : -1 ≤ nlC (s.extract i s.size) := Lib.indexByte_ge _ _
  rcases Int.lt_or_le (nlC (s.extract i s.size)) 0 with hn | hn
  · exact ⟨h1, by omega, by omega⟩
  · obtain ⟨o, ho⟩ := Int.eq_ofNat_of_zero_le hn
    obtain ⟨h2, h3⟩ := nlC_some s i o (by omega) ho
    refine ⟨h1, fun h0 => hc ?_, by omega⟩
    obtain rfl : o = 0 := by omega
    simpa using h3
theorem comLen_range (s : ByteArray) (i : Nat) (h : i < s.size) (hc : bt s i ≠ 10) : 0 < comLen s i ∧ i + comLen s i ≤ s.size := by
  obtain ⟨h1, h2, h3⟩ := nlC_range s i h hc
  unfold comLen
  split <;> omega
theorem adv_in (s : ByteArray) (i n : Nat) (lc : Int × Int) (h1 : 0 ≤ lc.1 ∧ lc.1 ≤ i + 1) (h2 : 0 ≤ lc.2 ∧ lc.2 ≤ i + 1) :
    (0 ≤ (adv s i lc n).1 ∧ (adv s i lc n).1 ≤ ((i + n : Nat) : Int) + 1) ∧ 0 ≤ (adv s i lc n).2 ∧ (adv s i lc n).2 ≤ ((i + n : Nat) : Int) + 1 := by
  induction n with
  | zero => simp only [adv]; omega
  | succ n ih => simp only [adv]; split <;> (refine ⟨⟨?_, ?_⟩, ?_, ?_⟩ <;> simp <;> omega)
theorem skip_at (B g : Nat) (s : ByteArray) (i : Nat) (n : Int) (line col : Int) (l : List Tk) (bad : Bool) (w : World) (hs : s.size ≤ 140737488351232) (hn : 0 ≤ n) (hin : i + n ≤ s.size)
    (hl0 : 0 ≤ line) (hl1 : line ≤ 140737488351233) (hk0 : 0 ≤ col) (hk1 : col ≤ 140737488351233) (h : LexAt B w g s i line col l bad) :
    Calls Tryd.prog 54 #[.pointer (some ⟨g, 0, none⟩), .int .i64 n] w fun e w' => e = .returned (.tuple #[]) ∧ LexAt B w' g s ((i : Int) + n) (adv s i (line, col) n.toNat).1 (adv s i (line, col) n.toNat).2 l bad ∧ Below B w w' := by
  obtain ⟨hB, v, hS, ho, hne⟩ := h
  refine (skip_int g s i n line col v bad w hs (by omega) hn hin hl0 hl1 hk0 hk1 hS).mono ?_
  rintro e w' ⟨rfl, hS', hG⟩
  exact ⟨rfl, ⟨hB, v, hS', ho.kept hG (.inr hne), hne⟩, below_of_grown hG (Nat.le_trans hB (Nat.le_of_lt hS.lt)) hB⟩
theorem blank_cases (c : Int) (h : blankB c = true) : (c == 32) = true ∨ ((c == 32) = false ∧ (c == 9) = true) ∨ ((c == 32) = false ∧ (c == 9) = false ∧ (c == 10) = true) ∨ ((c == 32) = false ∧ (c == 9) = false ∧ (c == 10) = false ∧ (c == 13) = true) := by
  unfold blankB at h
  cases h1 : c == 32 <;> cases h2 : c == 9 <;> cases h3 : c == 10 <;> cases h4 : c == 13 <;> simp_all
theorem blank_no (c : Int) (h : blankB c = false) : (c == 32) = false ∧ (c == 9) = false ∧ (c == 10) = false ∧ (c == 13) = false := by
  unfold blankB at h
  cases h1 : c == 32 <;> cases h2 : c == 9 <;> cases h3 : c == 10 <;> cases h4 : c == 13 <;> simp_all
theorem com_yes {s : ByteArray} {i : Nat} (h : isCom s i = true) : (bt s i == 47) = true ∧ (bt s (i + 1) == 47) = true := by simpa [isCom] using h
theorem com_no {s : ByteArray} {i : Nat} (h : isCom s i = false) : (bt s i == 47) = false ∨ ((bt s i == 47) = true ∧ (bt s (i + 1) == 47) = false) := by
  unfold isCom at h
  cases h1 : bt s i == 47 <;> simp_all
theorem quiet2 {P : Program} {f : FuncId} {args : Array Value} {w : World} {a n : Nat} {v : Value} (h : Calls P f args (w.drewN (a + n)) fun e w' => e = .returned v ∧ w' = w.drewN (a + n)) :
    Calls P f args (w.drewN (a + n)) fun e w'' => e = .returned v ∧ ∃ m, w'' = w.drewN (a + m) := h.mono fun _ _ ⟨he, hm⟩ => ⟨he, n, hm⟩
structure BetwPost (B g : Nat) (s : ByteArray) (r : Nat × Nat × (Int × Int)) (l : List Tk) (bad : Bool) (w : World) (e : Ending) (w' : World) : Prop where
  he : e = .returned (stateVal r.1)
  hA : LexAt B w' g s r.2.1 r.2.2.1 r.2.2.2 l bad
  hb : Below B w w'
set_option maxRecDepth 100000 in
set_option maxHeartbeats 3000000 in
theorem between_any (B g : Nat) (s : ByteArray) (i0 f0 : Nat) (lc0 : Int × Int) (l : List Tk) (bad : Bool) (w : World) (hs : s.size ≤ 140737488351232) (hi0 : i0 ≤ s.size) (hf0 : s.size - i0 < f0)
    (hl0 : 0 ≤ lc0.1 ∧ lc0.1 ≤ i0 + 1) (hk0 : 0 ≤ lc0.2 ∧ lc0.2 ≤ i0 + 1) (hA0 : LexAt B w g s i0 lc0.1 lc0.2 l bad) :
    Calls Tryd.prog 53 #[.pointer (some ⟨g, 0, none⟩)] w (BetwPost B g s (betw s f0 i0 lc0) l bad w) := by
  have HA0 := Hd.mk hA0
  have hBg := hA0.hB
  clear hA0
  go_enter Tryd.func53, Tryd.ntmps53
  go_wp2
  go_loopg [] f0 (fun f wr => ∃ (i : Nat) (lc : Int × Int), i ≤ s.size ∧ s.size - i < f ∧ f ≤ f0 ∧ Hd (0 ≤ lc.1 ∧ lc.1 ≤ i + 1) ∧ Hd (0 ≤ lc.2 ∧ lc.2 ≤ i + 1) ∧ Hd (LexAt B wr g s i lc.1 lc.2 l bad) ∧ Hd (Below B w wr) ∧ Hd (betw s f i lc = betw s f0 i0 lc0))
  case atStart => exact ⟨i0, lc0, hi0, hf0, Nat.le_refl _, ⟨hl0⟩, ⟨hk0⟩, HA0, ⟨Below.refl _ _⟩, ⟨rfl⟩⟩
  case round =>
    clear HA0 hl0 hk0 hi0 hf0
    obtain ⟨i, ⟨line, col⟩, hi, hf, hff, hlb, hcb, HA, HB, HR⟩ := hrel
    cases gk with
    | zero => exact absurd hf (by omega)
    | succ f =>
      have hl := hlb.out
      have hk := hcb.out
      simp only at hl hk
      obtain ⟨_, v, hS, hown, hne⟩ := HA.out
      have HS := Hd.mk hS
      clear hS hown
      have hc0 := HS.out.c0
      have hc1 := HS.out.c1
      by_cases hlt : i < s.size
      · have hlt' : (i : Int) < (s.size : Int) := by omega
        have ha1 := Hd.mk (adv_in s i 1 (line, col) hl hk)
        have ha2 := Hd.mk (adv_in s i (comLen s i) (line, col) hl hk)
        cases hbl : blankB (bt s i) with
        | true =>
          have HR' : Hd (betw s f (i + 1) (adv s i (line, col) 1) = betw s f0 i0 lc0) := ⟨by rw [← HR.out]; simp [betw, hlt, hbl]⟩
          have hcs := blank_cases _ hbl
          clear hbl HR
          rcases hcs with c1 | ⟨c1, c2⟩ | ⟨c1, c2, c3⟩ | ⟨c1, c2, c3, c4⟩
          all_goals
            go_wp2
            go_quiet (fail)
            go_wp2_with (first | (go_at_call 65; (refine (now_int g s i _ line col v bad _ hs (by omega) (by omega) (by omega) (by omega) (by exact HS.out)).mono ?_); rintro e w' ⟨rfl, m1, rfl⟩) | (go_at_call 54; (refine (skip_at B g s i _ line col l bad _ hs (by omega) (by omega) (by omega) (by omega) (by omega) (by omega) (HA.out.of_grown (below_drewN _ _))).mono ?_); rintro e w3 ⟨rfl, hA3, hB3⟩))
            go_roundg f
            case measure => omega
            case rel => exact ⟨i + 1, _, by omega, by omega, by omega, ⟨ha1.out.1⟩, ⟨ha1.out.2⟩, ⟨hA3⟩, ⟨(HB.out.trans (below_drewN' _ _ _)).trans hB3⟩, HR'⟩
        | false =>
          obtain ⟨c1, c2, c3, c4⟩ := blank_no _ hbl
          have hn10 : bt s i ≠ 10 := by simpa using c3
          cases hcm : isCom s i with
          | true =>
            have HR' : Hd (betw s f (i + comLen s i) (adv s i (line, col) (comLen s i)) = betw s f0 i0 lc0) := ⟨by rw [← HR.out]; simp [betw, hlt, hbl, hcm]⟩
            obtain ⟨d1, d2⟩ := com_yes hcm
            obtain ⟨hr1, hr2⟩ := comLen_range s i hlt hn10
            obtain ⟨hq1, hq2, hq3⟩ := nlC_range s i hlt hn10
            have hcl : (comLen s i : Int) = if nlC (s.extract i s.size) < 0 then (s.size : Int) - i else nlC (s.extract i s.size) := by
              unfold comLen; split <;> omega
            have HCL := Hd.mk hcl
            clear hbl HR hcm hn10 hcl
            by_cases hnl : nlC (s.extract i s.size) < 0
            · have hn : (s.size : Int) - i = (comLen s i : Int) := by rw [HCL.out, if_pos hnl]
              have Hn := Hd.mk hn
              clear hn
              go_wp2
              go_quiet (fail)
              go_wp2_with (go_at_call 65; (refine (now_int g s i _ line col v bad _ hs (by omega) (by omega) (by omega) (by omega) (by exact HS.out)).mono ?_); rintro e w' ⟨rfl, m1, rfl⟩)
              go_quiet ((go_at_call 66; exact quiet2 (index_nl _ _)))
              go_wp2
              go_quiet (fail)
              go_wp2_with (go_at_call 54; (refine (skip_at B g s i _ line col l bad _ hs (by omega) (by omega) (by omega) (by omega) (by omega) (by omega) (HA.out.of_grown (below_drewN _ _))).mono ?_); rintro e w3 ⟨rfl, hA3, hB3⟩)
              rw [Hn.out] at hA3
              go_roundg f
              case measure => omega
              case rel => exact ⟨i + comLen s i, _, by omega, by omega, by omega, ⟨ha2.out.1⟩, ⟨ha2.out.2⟩, ⟨hA3⟩, ⟨(HB.out.trans (below_drewN' _ _ _)).trans hB3⟩, HR'⟩
            · have hn : nlC (s.extract i s.size) = (comLen s i : Int) := by rw [HCL.out, if_neg hnl]
              have Hn := Hd.mk hn
              clear hn
              go_wp2
              go_quiet (fail)
              go_wp2_with (go_at_call 65; (refine (now_int g s i _ line col v bad _ hs (by omega) (by omega) (by omega) (by omega) (by exact HS.out)).mono ?_); rintro e w' ⟨rfl, m1, rfl⟩)
              go_quiet ((go_at_call 66; exact quiet2 (index_nl _ _)))
              go_wp2_with (go_at_call 54; (refine (skip_at B g s i _ line col l bad _ hs (by omega) (by omega) (by omega) (by omega) (by omega) (by omega) (HA.out.of_grown (below_drewN _ _))).mono ?_); rintro e w3 ⟨rfl, hA3, hB3⟩)
              rw [Hn.out] at hA3
              go_roundg f
              case measure => omega
              case rel => exact ⟨i + comLen s i, _, by omega, by omega, by omega, ⟨ha2.out.1⟩, ⟨ha2.out.2⟩, ⟨hA3⟩, ⟨(HB.out.trans (below_drewN' _ _ _)).trans hB3⟩, HR'⟩
          | false =>
            have hcs := com_no hcm
            have HR' : Hd (betw s f0 i0 lc0 = (if letB (bt s i) then 1 else if digB (bt s i) then 2 else 3, i, (line, col))) := ⟨by rw [← HR.out]; simp [betw, hlt, hbl, hcm]⟩
            clear hbl HR hcm hn10
            cases e1 : letB (bt s i) <;> cases e2 : digB (bt s i) <;> rcases hcs with d1 | ⟨d1, d2⟩
            all_goals
              go_wp2
              go_quiet (fail)
              go_wp2_with (first | (go_at_call 65; (refine (now_int g s i _ line col v bad _ hs (by omega) (by omega) (by omega) (by omega) (by exact HS.out)).mono ?_); rintro e w' ⟨rfl, m1, rfl⟩) | (go_at_call 67; refine (letter_any _ _).mono ?_; rintro e w' ⟨rfl, rfl⟩) | (go_at_call 69; refine (digit_any _ _).mono ?_; rintro e w' ⟨rfl, rfl⟩))
              go_ret
              exact ⟨by rw [HR'.out]; simp [e1, e2, stateVal], by rw [HR'.out]; exact HA.out.of_grown (below_drewN _ _), HB.out.trans (below_drewN' _ _ _)⟩
      · have hge : ¬ ((i : Int) < (s.size : Int)) := by omega
        have hR : betw s f0 i0 lc0 = (0, i, (line, col)) := by rw [← HR.out]; simp [betw, hlt]
        have HR2 := Hd.mk hR
        clear hR hl hk
        go_wp2
        go_quiet (fail)
        go_wp2
        go_ret
        exact ⟨by rw [HR2.out]; rfl, by rw [HR2.out]; exact HA.out.of_grown (below_drewN _ _), HB.out.trans (below_drewN' _ _ _)⟩
end Go.Proofs.YtnjnadlgndjnbaaDoor.Lx
