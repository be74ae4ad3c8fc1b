/- The contract of lex.All. -/
import Derived.Test.YtnjnadlgndjnbaaDoorYHg
import Derived.Test.YtnjnadlgndjnbaaDoorYW
set_option linter.unusedVariables false
set_option linter.unusedSimpArgs false
namespace Go.Proofs.YtnjnadlgndjnbaaDoor.Lx
open Go.RowKit Go.Proofs.YtnjnadlgndjnbaaDoorW.PrintLast Go.Proofs.YtnjnadlgndjnbaaDoorW.PrintWords
abbrev LexR := List Tk × Option (Int × Int)
def lexStep (s : ByteArray) (k : Nat → Int × Int → List Tk → LexR) (r : Nat × Nat × (Int × Int)) (l : List Tk) : LexR :=
  if r.1 = 0 then (l, none)
  else if r.1 = 1 then k (r.2.1 + wordLen s r.2.1) (adv s r.2.1 r.2.2 (wordLen s r.2.1)) (l ++ [⟨kindOf (s.extract r.2.1 (r.2.1 + wordLen s r.2.1)), s.extract r.2.1 (r.2.1 + wordLen s r.2.1), r.2.2.1, r.2.2.2, 0⟩])
  else if r.1 = 2 then
    match numAt s r.2.1 with
    | none => (l, some r.2.2)
    | some nv => k (r.2.1 + nv.1) (adv s r.2.1 r.2.2 nv.1) (l ++ [⟨3, s.extract r.2.1 (r.2.1 + nv.1), r.2.2.1, r.2.2.2, nv.2⟩])
  else if signLen s r.2.1 = 0 then (l, some r.2.2)
  else k (r.2.1 + signLen s r.2.1) (adv s r.2.1 r.2.2 (signLen s r.2.1)) (l ++ [⟨4, s.extract r.2.1 (r.2.1 + signLen s r.2.1), r.2.2.1, r.2.2.2, 0⟩])
def lexFrom (s : ByteArray) : Nat → Nat → Int × Int → List Tk → LexR
  | 0, _, _, l => (l, none)
  | f + 1, i, lc, l => lexStep s (lexFrom s f) (betw s (s.size + 1) i lc) l
structure BetwOk (s : ByteArray) (i : Nat) (r : Nat × Nat × (Int × Int)) : Prop where
  h1 : i ≤ r.2.1
  h2 : r.2.1 ≤ s.size
  h3 : r.1 ≤ 3
  hl : 0 ≤ r.2.2.1 ∧ r.2.2.1 ≤ r.2.1 + 1
  hk : 0 ≤ r.2.2.2 ∧ r.2.2.2 ≤ r.2.1 + 1
  hlt : r.1 ≠ 0 → r.2.1 < s.size
  hw : r.1 = 1 → letB (bt s r.2.1) = true
  hn : r.1 = 2 → digB (bt s r.2.1) = true
theorem betw_ok (s : ByteArray) : ∀ (f i : Nat) (lc : Int × Int), s.size - i < f → i ≤ s.size → (0 ≤ lc.1 ∧ lc.1 ≤ i + 1) → (0 ≤ lc.2 ∧ lc.2 ≤ i + 1) → BetwOk s i (betw s f i lc) := by
  intro f; induction f with
  | zero => intro i lc h; omega
  | succ f ih =>
    intro i lc hf hi hl hk
    unfold betw
    by_cases hlt : i < s.size
    · rw [if_pos hlt]
      cases hb : blankB (bt s i) with
      | true =>
        have ha := adv_in s i 1 lc hl hk
        have := ih (i + 1) (adv s i lc 1) (by omega) (by omega) ha.1 ha.2
        simp only [if_true]
        exact ⟨by have := this.h1; omega, this.h2, this.h3, this.hl, this.hk, this.hlt, this.hw, this.hn⟩
      | false =>
        simp only [Bool.false_eq_true, if_false]
        cases hc : isCom s i with
        | true =>
          have hn10 : bt s i ≠ 10 := by simpa using (blank_no _ hb).2.2.1
          obtain ⟨hc1, hc2⟩ := comLen_range s i hlt hn10
          have ha := adv_in s i (comLen s i) lc hl hk
          have := ih (i + comLen s i) (adv s i lc (comLen s i)) (by omega) (by omega) ha.1 ha.2
          simp only [if_true]
          exact ⟨by have := this.h1; omega, this.h2, this.h3, this.hl, this.hk, this.hlt, this.hw, this.hn⟩
        | false =>
          simp only [Bool.false_eq_true, if_false]
          refine ⟨Nat.le_refl _, hi, ?_, hl, hk, fun _ => hlt, fun h => ?_, fun h => ?_⟩
          · simp only; split <;> (try split) <;> omega
          · simp only at h ⊢; split at h <;> (try split at h) <;> simp_all
          · simp only at h ⊢; split at h <;> (try split at h) <;> simp_all
    · rw [if_neg hlt]
      exact ⟨Nat.le_refl _, hi, by simp, hl, hk, fun h => absurd rfl h, fun h => by simp at h, fun h => by simp at h⟩
theorem wordLen_pos (s : ByteArray) (i : Nat) : 0 < wordLen s i := by unfold wordLen; omega
theorem nscan_le (s : ByteArray) (b : Int) : ∀ (f j : Nat) (d v : Int), 0 ≤ d → j ≤ (nscan s b f j d v).1 ∧ ((nscan s b f j d v).2.1 = d ∨ j < (nscan s b f j d v).1) := by
  intro f; induction f with
  | zero => intro j d v h; simp [nscan]
  | succ f ih =>
    intro j d v h
    unfold nscan
    split
    · obtain ⟨h1, h2⟩ := ih (j + 1) (d + 1) (min (v * b + hexV (bt s j)) 4294967296) (by omega)
      exact ⟨by omega, .inr (by omega)⟩
    · simp
theorem numAt_pos {s : ByteArray} {i : Nat} {nv : Nat × Int} (h : numAt s i = some nv) : 0 < nv.1 := by
  unfold numAt at h
  split at h
  · cases h
  · rename_i hs
    cases h
    simp only
    unfold numScan at hs ⊢
    split at hs <;> split
    · rename_i h1 h2
      have := (nscan_le s 16 (s.size + 3) (i + 2) 0 0 (by omega)).1
      omega
    · simp_all
    · simp_all
    · rcases (nscan_le s 10 (s.size + 3) i 0 0 (by omega)).2 with h3 | h3
      · exact absurd (by simp [numStop, h3]) hs
      · omega
def FaultVal (r : LexR) : Value := match r.2 with
  | none => .agg #[.int .i64 0, .int .i64 0, .int .i64 0]
  | some lc => .agg #[.int .i64 11, .int .i64 lc.1, .int .i64 lc.2]
def toks (r : LexR) : List Tk := match r.2 with
  | none => r.1
  | some _ => []
def lexAll (s : ByteArray) : LexR := lexFrom s (s.size + 1) 0 (1, 1) []
theorem ne_func (f : Nat) (w : World) : (binOp .neq 115 (.func (.func f) #[] #[]) .nilFunc).run Tryd.prog w = .ok (.bool true) w := by kernel_rfl
theorem ne_nilFunc (w : World) : (binOp .neq 115 .nilFunc .nilFunc).run Tryd.prog w = .ok (.bool false) w := by kernel_rfl
inductive At (s : ByteArray) (R : LexR) (i : Nat) (lc : Int × Int) (l : List Tk) (bad : Bool) : Nat → Value → Prop where
  | betw (f : Nat) (h : lexFrom s f i lc l = R) (hf : s.size - i < f) (hb : bad = false) : At s R i lc l bad (2 * f - 1) (.func (.func 53) #[] #[])
  | word (f : Nat) (h : lexStep s (lexFrom s f) (1, i, lc) l = R) (hf : s.size - i ≤ f) (hi : i < s.size) (hw : letB (bt s i) = true) (hb : bad = false) : At s R i lc l bad (2 * f) (.func (.func 68) #[] #[])
  | number (f : Nat) (h : lexStep s (lexFrom s f) (2, i, lc) l = R) (hf : s.size - i ≤ f) (hi : i < s.size) (hb : bad = false) : At s R i lc l bad (2 * f) (.func (.func 70) #[] #[])
  | sign (f : Nat) (h : lexStep s (lexFrom s f) (3, i, lc) l = R) (hf : s.size - i ≤ f) (hi : i < s.size) (hb : bad = false) : At s R i lc l bad (2 * f) (.func (.func 71) #[] #[])
  | over (k : Nat) (h : R = if bad then (l, some lc) else (l, none)) : At s R i lc l bad k .nilFunc
theorem own_fault {wr W : World} {n m : Nat} {e : TypeId} {sz : Nat} {v : Value} {xs : List Value} (h : wr.ownsRow (n + 1) e sz v m xs) (hg : wr.grownBy W (some n)) : W.ownsRow n e sz v m xs := by
  have h2 := h.kept hg (.inr (fun hk => by have := own_base h n hk; omega))
  obtain ⟨h3, h4⟩ := h2
  refine ⟨h3, ?_⟩
  rcases h4 with h5 | ⟨g, cap, cur, h6, h7, h8⟩
  · exact .inl h5
  · exact .inr ⟨g, cap, cur, h6, by omega, h8⟩
theorem cells3 {w : World} {b : Nat} {x y z : Value} {t : TypeId} (h : w.heap[b]? = some (.cells #[x, y, z] t (0, 0))) : w.cell? ⟨b, 0, none⟩ = some x ∧ w.cell? ⟨b, 1, none⟩ = some y ∧ w.cell? ⟨b, 2, none⟩ = some z ∧ w.frozen? ⟨b, 0, none⟩ = false ∧ w.frozen? ⟨b, 1, none⟩ = false ∧ w.frozen? ⟨b, 2, none⟩ = false := by
  simp [World.cell?, World.frozen?, h]
theorem at_betw {s : ByteArray} {R : LexR} {i f : Nat} {lc : Int × Int} {l : List Tk} (h : lexFrom s (f + 1) i lc l = R) (hok : BetwOk s i (betw s (s.size + 1) i lc)) (hf : s.size - i < f + 1) :
    At s R (betw s (s.size + 1) i lc).2.1 (betw s (s.size + 1) i lc).2.2 l false (2 * f) (stateVal (betw s (s.size + 1) i lc).1) := by
  unfold lexFrom at h
  generalize betw s (s.size + 1) i lc = r at *
  obtain ⟨t, j, lc'⟩ := r
  have h1 := hok.h1
  have h3 := hok.h3
  have hlt := hok.hlt
  have hw := hok.hw
  simp only at h1 h3 hlt hw ⊢
  rcases (by omega : t = 0 ∨ t = 1 ∨ t = 2 ∨ t = 3) with rfl | rfl | rfl | rfl
  · exact .over _ (by simpa [lexStep] using h.symm)
  · exact .word f h (by omega) (hlt (by omega)) (hw rfl) rfl
  · exact .number f h (by omega) (hlt (by omega)) rfl
  · exact .sign f h (by omega) (hlt (by omega)) rfl
theorem below_first {w W : World} {o : Obj} (h : Below (w.heap.size + 1) (w.alloc o) W) : Below w.heap.size w W := ((Below.refl _ w).alloc (Nat.le_refl _) o).trans (h.mono (by omega))
set_option maxRecDepth 100000 in
set_option maxHeartbeats 3000000 in
theorem all_any (s : ByteArray) (w : World) (hs : s.size ≤ 65536) (hK : Keys w) :
    Calls Tryd.prog 35 #[.string s] w fun e w' => ∃ v, e = .returned (.tuple #[v, FaultVal (lexAll s)]) ∧ w'.ownsRow w.heap.size 99 5 v (toks (lexAll s)).length (tksCells (toks (lexAll s))) ∧ Below w.heap.size w w' := by
  have HK := Hd.mk hK
  clear hK
  have hs' : s.size ≤ 140737488351232 := by omega
  have hs1 : ¬ ((65536 : Int) < (s.size : Int)) := by omega
  go_enter Tryd.func35, Tryd.ntmps35
  go_wp2
  go_loopg [5] (2 * (s.size + 1) - 1) (fun k fv wr => ∃ (i : Nat) (lc : Int × Int) (l : List Tk) (bad : Bool), i ≤ s.size ∧ l.length ≤ i ∧ Hd (0 ≤ lc.1 ∧ lc.1 ≤ i + 1) ∧ Hd (0 ≤ lc.2 ∧ lc.2 ≤ i + 1) ∧ Hd (LexAt (w.heap.size + 1) wr (w.heap.size + 1) s i lc.1 lc.2 l bad) ∧ Hd (Below (w.heap.size + 1) (w.alloc (.cells #[.int .i64 0, .int .i64 0, .int .i64 0] 29)) wr) ∧ Hd (At s (lexAll s) i lc l bad k fv))
  case atStart =>
    refine ⟨0, (1, 1), [], false, by omega, by simp, ⟨by simp⟩, ⟨by simp⟩, ⟨⟨Nat.le_refl _, .slice none 0 0, ?_, World.ownsRow_nil _ _ _ _, by simp [Value.ownBlock]⟩⟩, ⟨(Below.refl _ _).alloc (by simp) _⟩, ⟨.betw (s.size + 1) rfl (by omega) rfl⟩⟩
    have := lexNew (w.alloc (.cells #[.int .i64 0, .int .i64 0, .int .i64 0] 29)) s
    simpa using this
  case round =>
    obtain ⟨i, ⟨line, col⟩, l, bad, hi, hln, hlb, hcb, HA, HB, HAt⟩ := hrel
    have hl := hlb.out
    have hk := hcb.out
    simp only at hl hk
    have hat := HAt.out
    clear HAt
    cases hat with
    | betw f h hf hb =>
      subst hb
      obtain ⟨f, rfl⟩ : ∃ f', f = f' + 1 := ⟨f - 1, by omega⟩
      have hq := ne_func 53
      have Hh := Hd.mk h
      clear h
      go_wp2_with (go_at_call 53; (refine (between_any _ _ s i (s.size + 1) (line, col) l false _ hs' hi (by omega) hl hk HA.out).mono ?_); rintro e w3 ⟨rfl, hA3, hB3⟩)
      have hok := betw_ok s (s.size + 1) i (line, col) (by omega) hi hl hk
      have hat := at_betw Hh.out hok (by omega)
      have h1 := hok.h1
      have h2 := hok.h2
      go_roundg (2 * f)
      case measure => omega
      case rel => exact ⟨_, _, l, false, hok.h2, by omega, ⟨hok.hl⟩, ⟨hok.hk⟩, ⟨hA3⟩, ⟨HB.out.trans hB3⟩, ⟨hat⟩⟩
    | word f h hf hi' hw hb =>
      subst hb
      have hq := ne_func 68
      have Hh := Hd.mk h
      clear h
      have hwc : wcB (bt s i) = true := by simp [wcB, hw]
      have hwp := wordLen_pos s i
      clear hw
      go_wp2_with (go_at_call 68; (refine (word_any _ _ s i line col l false _ hs' hwc (by omega) (HK.out.below (below_first HB.out)) (by omega) (by omega) (by omega) (by omega) (by omega) HA.out).mono ?_); rintro e w3 ⟨rfl, hle, hA3, hB3⟩)
      have ha := adv_in s i (wordLen s i) (line, col) hl hk
      go_roundg (2 * f - 1)
      case measure => omega
      case rel => exact ⟨i + wordLen s i, _, _, false, hle, by simp; omega, ⟨ha.1⟩, ⟨ha.2⟩, ⟨hA3⟩, ⟨HB.out.trans hB3⟩, ⟨.betw f (by have := Hh.out; simpa [lexStep] using this) (by omega) rfl⟩⟩
    | number f h hf hi' hb =>
      subst hb
      have hq := ne_func 70
      have Hh := Hd.mk h
      clear h
      cases hnv : numAt s i with
      | none =>
        go_wp2_with (go_at_call 70; (refine (number_any _ _ s i line col l false _ hs' hi' (by omega) (by omega) (by omega) (by omega) (by omega) HA.out).mono ?_); rintro e w3 ⟨hB3, hm⟩; rw [hnv] at hm; obtain ⟨rfl, hA3⟩ := hm)
        go_roundg (2 * f - 1)
        case measure => omega
        case rel => exact ⟨i, (line, col), l, true, hi, hln, hlb, hcb, ⟨hA3⟩, ⟨HB.out.trans hB3⟩, ⟨.over _ (by have := Hh.out; simp [lexStep, hnv] at this; simp [this])⟩⟩
      | some nv =>
        obtain ⟨n, nv⟩ := nv
        have hnp := numAt_pos hnv
        simp only at hnp
        go_wp2_with (go_at_call 70; (refine (number_any _ _ s i line col l false _ hs' hi' (by omega) (by omega) (by omega) (by omega) (by omega) HA.out).mono ?_); rintro e w3 ⟨hB3, hm⟩; rw [hnv] at hm; obtain ⟨rfl, hle, hA3⟩ := hm)
        have ha := adv_in s i n (line, col) hl hk
        go_roundg (2 * f - 1)
        case measure => omega
        case rel => exact ⟨i + n, _, _, false, hle, by simp; omega, ⟨ha.1⟩, ⟨ha.2⟩, ⟨hA3⟩, ⟨HB.out.trans hB3⟩, ⟨.betw f (by have := Hh.out; simpa [lexStep, hnv] using this) (by omega) rfl⟩⟩
    | sign f h hf hi' hb =>
      subst hb
      have hq := ne_func 71
      have Hh := Hd.mk h
      clear h
      by_cases hsl : signLen s i = 0
      · go_wp2_with (go_at_call 71; (refine (sign_any _ _ s i line col l false _ hs' hi' (by omega) (HK.out.below (below_first HB.out)) (by omega) (by omega) (by omega) (by omega) HA.out).mono ?_); rintro e w3 ⟨hB3, hm⟩; rw [if_pos hsl] at hm; obtain ⟨rfl, hA3⟩ := hm)
        go_roundg (2 * f - 1)
        case measure => omega
        case rel => exact ⟨i, (line, col), l, true, hi, hln, hlb, hcb, ⟨hA3⟩, ⟨HB.out.trans hB3⟩, ⟨.over _ (by have := Hh.out; simp [lexStep, hsl] at this; simp [this])⟩⟩
      · go_wp2_with (go_at_call 71; (refine (sign_any _ _ s i line col l false _ hs' hi' (by omega) (HK.out.below (below_first HB.out)) (by omega) (by omega) (by omega) (by omega) HA.out).mono ?_); rintro e w3 ⟨hB3, hm⟩; rw [if_neg hsl] at hm; obtain ⟨rfl, hle, hA3⟩ := hm)
        have ha := adv_in s i (signLen s i) (line, col) hl hk
        go_roundg (2 * f - 1)
        case measure => omega
        case rel => exact ⟨i + signLen s i, _, _, false, hle, by simp; omega, ⟨ha.1⟩, ⟨ha.2⟩, ⟨hA3⟩, ⟨HB.out.trans hB3⟩, ⟨.betw f (by have := Hh.out; simpa [lexStep, hsl] using this) (by omega) rfl⟩⟩
    | over k h =>
      have hq := ne_nilFunc
      obtain ⟨hBg, v, hS, hown, hne⟩ := HA.out
      have hc5 := hS.c5
      have hc4 := hS.c4
      have hc3 := hS.c3
      have hc2 := hS.c2
      have HS := Hd.mk hS
      have HO := Hd.mk hown
      have HR := Hd.mk h
      clear hS hown h
      have hblk : wr.heap[w.heap.size]? = some (.cells #[.int .i64 0, .int .i64 0, .int .i64 0] 29 (0, 0)) := (HB.out.block _ (by omega)).trans (heap_new w _)
      obtain ⟨hF0, hF1, hF2, hG0, hG1, hG2⟩ := cells3 hblk
      have HBK := Hd.mk hblk
      clear hblk
      cases bad with
      | true =>
        have hR : lexAll s = (l, some (line, col)) := by simpa using HR.out
        go_wp2
        go_region
        go_wp2
        refine bodyPost_ret (results_tc rfl _ _ w.heap.size 29 #[.int .i64 11, .int .i64 line, .int .i64 col] (0, 0) _ rfl (by (with_reducible repeat (first | refine blk_drewN ?_ _ | refine blk_drew ?_)); refine blk_put (cs := #[.int .i64 11, .int .i64 line, .int .i64 0]) ?_ 2 _ rfl; refine blk_put (cs := #[.int .i64 11, .int .i64 0, .int .i64 0]) ?_ 1 _ rfl; refine blk_put (cs := #[.int .i64 0, .int .i64 0, .int .i64 0]) ?_ 0 _ rfl; (with_reducible repeat (first | refine blk_drewN ?_ _ | refine blk_drew ?_)); exact HBK.out) Tryd.underlying29 rfl (by kernel_rfl)) rfl ?_
        exact ⟨.slice none 0 0, by first | rfl | (rw [hR]; rfl), by first | exact World.ownsRow_nil _ _ _ _ | (rw [hR]; exact World.ownsRow_nil _ _ _ _), (below_first HB.out).grown (by repeat (first | exact World.grownBy.refl _ _ | apply grown_set | apply grown_drewN | apply grown_drew)) (by have := HB.out.size; simp at this; omega) (fun k hk => by simp at hk; omega)⟩
      | false =>
        have hR : lexAll s = (l, none) := by simpa using HR.out
        go_wp2
        refine bodyPost_ret (results_tc rfl _ _ w.heap.size 29 #[.int .i64 0, .int .i64 0, .int .i64 0] (0, 0) _ rfl (by (with_reducible repeat (first | refine blk_drewN ?_ _ | refine blk_drew ?_)); refine blk_put (cs := #[.int .i64 0, .int .i64 0, .int .i64 0]) ?_ 2 _ rfl; refine blk_put (cs := #[.int .i64 0, .int .i64 0, .int .i64 0]) ?_ 1 _ rfl; refine blk_put (cs := #[.int .i64 0, .int .i64 0, .int .i64 0]) ?_ 0 _ rfl; (with_reducible repeat (first | refine blk_drewN ?_ _ | refine blk_drew ?_)); exact HBK.out) Tryd.underlying29 rfl (by kernel_rfl)) rfl ?_
        exact ⟨v, by first | rfl | (rw [hR]; rfl), (by (try rw [hR]); exact own_fault HO.out (by repeat (first | exact World.grownBy.refl _ _ | apply grown_set | apply grown_drewN | apply grown_drew))), (below_first HB.out).grown (by repeat (first | exact World.grownBy.refl _ _ | apply grown_set | apply grown_drewN | apply grown_drew)) (by have := HB.out.size; simp at this; omega) (fun k hk => by simp at hk; omega)⟩
end Go.Proofs.YtnjnadlgndjnbaaDoor.Lx
