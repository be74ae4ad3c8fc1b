/- The functions of package lex that are proved by hand, in the shape in which the printed texts call them. -/
import Derived.Test.YtgkhpecllhiidaaDoorHh
import Derived.Test.YtgkhpecllhiidaaDoorQx0
import Derived.Test.YtgkhpecllhiidaaDoorShelf
import Derived.Shelf.Strings.OnBuilder
set_option linter.unusedVariables false
set_option linter.unusedSimpArgs false
namespace Go.Proofs.YtgkhpecllhiidaaDoor.Q
open Go.RowKit Go.Proofs.YtgkhpecllhiidaaDoorW.PrintWords Go.Proofs.YtgkhpecllhiidaaDoorW.PrintLast Go.Proofs.YtgkhpecllhiidaaDoorW.PrintMore

abbrev Keys := Lx.Keys
theorem Keys.below {w w' : World} (h : Keys w) (hb : Below w.heap.size w w') : Keys w' := Lx.Keys.below h hb

def s59 (t : Lx.Tk) : S59 := ⟨t.kind, t.text, t.line, t.col, t.num⟩
theorem cells_take (t : Lx.Tk) (l : List Lx.Tk) : Lx.tksCells (t :: l) = Lx.tkCells t ++ Lx.tksCells l := rfl
theorem cells_len (l : List Lx.Tk) : (Lx.tksCells l).length = l.length * 5 := by
  induction l with
  | nil => rfl
  | cons t l ih => rw [cells_take, List.length_append, ih, List.length_cons, Nat.succ_mul, Nat.add_comm]; rfl
theorem cells_at (l : List Lx.Tk) : ∀ (j : Nat) (t : Lx.Tk), l[j]? = some t → ((Lx.tksCells l).drop (j * 5)).take 5 = Lx.tkCells t := by
  induction l with
  | nil => intro j t h; simp at h
  | cons x l ih =>
    intro j t h
    rw [cells_take]
    cases j with
    | zero =>
      have h' : x = t := by simpa using h
      subst h'
      rw [Nat.zero_mul, List.drop_zero]
      exact List.take_left (l₁ := Lx.tkCells x) (l₂ := Lx.tksCells l)
    | succ j =>
      rw [Nat.succ_mul, Nat.add_comm, ← List.drop_drop]
      have : (Lx.tkCells x ++ Lx.tksCells l).drop 5 = Lx.tksCells l := List.drop_left (l₁ := Lx.tkCells x) (l₂ := Lx.tksCells l)
      rw [this]
      exact ih j t (by simpa using h)
theorem tk_M (w : World) (base : Nat) (ok : Nat → Prop) (t : Lx.Tk) : k59.M w base ok (s59 t) (Lx.tkCells t) :=
  ⟨_, _, rfl, rfl, ⟨_, _, rfl, rfl, ⟨_, _, rfl, rfl, ⟨_, _, rfl, rfl, rfl⟩⟩⟩⟩
theorem row_R {w : World} {base : Nat} {v : Value} {l : List Lx.Tk} (h : w.ownsRow base 59 5 v l.length (Lx.tksCells l)) : Kd.R k59 59 w base (fun _ => True) v (l.map s59) := by
  refine ⟨fun _ _ => trivial, Lx.tksCells l, ?_, ?_, ?_⟩
  · rw [List.length_map]; exact h
  · rw [List.length_map]; exact cells_len l
  · intro j p hp
    rw [List.getElem?_map] at hp
    cases ht : l[j]? with
    | none => rw [ht] at hp; cases hp
    | some t =>
      rw [ht] at hp
      have hp : s59 t = p := by simpa using hp
      subst hp
      have hc : ((Lx.tksCells l).drop (j * k59.sz)).take k59.sz = Lx.tkCells t := cells_at l j t ht
      rw [hc]
      exact tk_M w base _ t

def faultOf (r : Lx.LexR) : Int × Int × Int := match r.2 with
  | none => (0, 0, 0)
  | some p => (11, p.1, p.2)
def lex_All.f (s : ByteArray) : Option (List S59 × Int × Int × Int) :=
  if s.size ≤ 65536 then some ((Lx.toks (Lx.lexAll s)).map s59, faultOf (Lx.lexAll s)) else none
theorem lex_All.calls (a0 : ByteArray) (r1 : List S59) (r2 r3 r4 : Int) (w : World) (hG : Keys w) (h : lex_All.f a0 = some (r1, r2, r3, r4)) :
    Calls Tryd.prog 29 #[.string a0] w fun e w' => ∃ v0_, e = .returned (.tuple #[v0_, .agg #[.int .i64 r2, .int .i64 r3, .int .i64 r4]]) ∧ Kd.R k59 59 w' w.heap.size (fun _ => True) v0_ r1 ∧ Below w.heap.size w w' := by
  unfold lex_All.f at h
  split at h
  case isFalse => cases h
  case isTrue hs =>
    have h := Option.some.inj h
    refine (Lx.all_any a0 w hs hG).mono ?_
    rintro e w' ⟨v, rfl, ho, hb⟩
    have h1 : (Lx.toks (Lx.lexAll a0)).map s59 = r1 := congrArg Prod.fst h
    have h2 : faultOf (Lx.lexAll a0) = (r2, r3, r4) := congrArg Prod.snd h
    refine ⟨v, ?_, ?_, hb⟩
    · unfold faultOf at h2
      unfold Lx.FaultVal
      split at h2 <;> rename_i hq <;> rw [hq] <;> injection h2 with e1 e2 <;> injection e2 with e2 e3 <;> subst e1 e2 e3 <;> rfl
    · rw [← h1]; exact row_R ho

def lex_Kind.f (s : ByteArray) : Option Int := if s.size ≤ 140737488351232 then some (Lx.kindOf s) else none
theorem lex_Kind.calls (a0 : ByteArray) (r : Int) (w : World) (hG : Keys w) (h : lex_Kind.f a0 = some r) :
    Calls Tryd.prog 52 #[.string a0] w fun e w' => e = .returned (.int .i64 r) ∧ Below w.heap.size w w' := by
  unfold lex_Kind.f at h
  split at h
  case isFalse => cases h
  case isTrue hs =>
    have h := Option.some.inj h
    subst h
    exact Lx.kind_any a0 w hs hG

def lex_Line.f (s : ByteArray) (a : Int) : Option (Int × Int) := if s.size ≤ 140737488351232 then some (Lx.adv s 0 (1, 1) (Lx.clampI s a)) else none
theorem lex_Line.calls (a0 : ByteArray) (a1 : Int) (r1 r2 : Int) (w : World) (h : lex_Line.f a0 a1 = some (r1, r2)) :
    Calls Tryd.prog 30 #[.string a0, .int .i64 a1] w fun e w' => e = .returned (.tuple #[.int .i64 r1, .int .i64 r2]) ∧ Below w.heap.size w w' := by
  unfold lex_Line.f at h
  split at h
  case isFalse => cases h
  case isTrue hs =>
    have h := Option.some.inj h
    refine (Lx.line_any a0 a1 w hs).mono ?_
    rintro e w' ⟨rfl, hb⟩
    rw [h]
    exact ⟨rfl, hb⟩

def joinB (xs : List ByteArray) (sep : ByteArray) : ByteArray := ⟨(Lib.join (xs.map (·.data.toList)) sep.data.toList).toArray⟩
def strings_Join.f (xs : List ByteArray) (sep : ByteArray) : Option ByteArray :=
  if xs.length ≤ 140737488355328 then if (joinB xs sep).size ≤ 140737488355328 then some (joinB xs sep) else none else none
theorem strings_Join.calls (A0 : Option Addr) (c0 : Nat) (l0 : List ByteArray) (a1 : ByteArray) (r : ByteArray) (w : World) (hr0 : Kd.C Kd.string w A0 l0.length l0) (hc0 : l0.length ≤ c0) (h : strings_Join.f l0 a1 = some r) :
    Calls Tryd.prog 96 #[.slice A0 l0.length c0, .string a1] w fun e w' => e = .returned (.string r) ∧ Below w.heap.size w w' := by
  unfold strings_Join.f at h
  split at h
  case isFalse => cases h
  case isTrue hn =>
    split at h
    case isFalse => cases h
    case isTrue hl =>
      have h := Option.some.inj h
      subst h
      cases l0 with
      | nil =>
        refine (Tryd.strings_Join_none A0 c0 a1 w).mono ?_
        rintro e w' ⟨rfl, rfl⟩
        exact ⟨rfl, Below.refl _ _⟩
      | cons x xs =>
        obtain ⟨hlen, hmax, hcell⟩ := hr0
        obtain ⟨ad, hA, hc⟩ := hcell (by simp)
        obtain ⟨c, hcl, hK, hat⟩ := hc 0 x rfl
        have hK : c = [Value.string x] := hK
        have h0 := hat 0 (.string x) (by rw [hK]; rfl)
        subst hA
        obtain ⟨bk, o, g⟩ := ad
        cases g with
        | some _ =>
          exfalso
          revert h0
          unfold World.cell?
          split
          · simp [Addr.add]
          · intro h; cases h
        | none =>
        refine (Tryd.strings_Join bk o c0 (x :: xs) a1 w ?_ ?_ hn hc0 ?_).mono ?_
        · intro j y hy
          obtain ⟨c', _, hK', hat'⟩ := hc j y hy
          have hK' : c' = [Value.string y] := hK'
          have := hat' 0 (.string y) (by rw [hK']; rfl)
          have he : j * Kd.string.sz + 0 = j := by show j * 1 + 0 = j; omega
          rw [he] at this
          rcases Nat.eq_zero_or_pos j with h0' | h0'
          · subst h0'; simpa [Addr.add] using this
          · simpa [Addr.add, Nat.ne_of_gt h0'] using this
        · exact World.block_lt_of_cell? w _ h0
        · have : (joinB (x :: xs) a1).size = (Lib.join ((x :: xs).map (·.data.toList)) a1.data.toList).length := by simp [joinB, ByteArray.size]
          rw [← this]; exact hl
        · rintro e w' ⟨rfl, hb⟩
          exact ⟨rfl, hb⟩
end Go.Proofs.YtgkhpecllhiidaaDoor.Q
