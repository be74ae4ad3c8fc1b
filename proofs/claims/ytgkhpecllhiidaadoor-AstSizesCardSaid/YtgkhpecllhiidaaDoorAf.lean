/- Package ast: small functions: Width, operator, name, same; word.Name. -/
import Derived.Test.YtgkhpecllhiidaaDoorAe
set_option linter.unusedVariables false
set_option linter.unusedSimpArgs false
namespace Go.Proofs.YtgkhpecllhiidaaDoor.A
open Go.RowKit Go.Shelf Go.Proofs.YtgkhpecllhiidaaDoor.As Go.Proofs.YtgkhpecllhiidaaDoorW.PrintWords Go.Proofs.YtgkhpecllhiidaaDoorW.PrintLast Go.Proofs.YtgkhpecllhiidaaDoorW.PrintMore

abbrev Keys := Lx.Keys
theorem Keys.below {w w' : World} (h : Keys w) (hb : Below w.heap.size w w') : Keys w' := Lx.Keys.below h hb
def widthI (ty : Int) : Int := if ty = 1 then 8 else if ty = 2 then 16 else if ty = 3 then 32 else if ty = 4 then 32 else 0
theorem width_any (ty : Int) (w : World) : Calls Tryd.prog 38 #[.int .i64 ty] w fun e w' => e = .returned (.int .i64 (widthI ty)) ∧ w' = w := by
  by_cases h1 : ty = 1
  · subst h1; go_enter Tryd.func38, Tryd.ntmps38; go_wp2; go_ret; exact ⟨rfl, rfl⟩
  by_cases h2 : ty = 2
  · subst h2; go_enter Tryd.func38, Tryd.ntmps38; go_wp2; go_ret; exact ⟨rfl, rfl⟩
  by_cases h3 : ty = 3
  · subst h3; go_enter Tryd.func38, Tryd.ntmps38; go_wp2; go_ret; exact ⟨rfl, rfl⟩
  by_cases h4 : ty = 4
  · subst h4; go_enter Tryd.func38, Tryd.ntmps38; go_wp2; go_ret; exact ⟨rfl, rfl⟩
  have e1 : (ty == 1) = false := by simpa using h1
  have e2 : (ty == 2) = false := by simpa using h2
  have e3 : (ty == 3) = false := by simpa using h3
  have e4 : (ty == 4) = false := by simpa using h4
  have he : widthI ty = 0 := by unfold widthI; rw [if_neg h1, if_neg h2, if_neg h3, if_neg h4]
  rw [he]
  clear he h1 h2 h3 h4
  go_enter Tryd.func38, Tryd.ntmps38
  go_wp2
  go_ret
  exact ⟨rfl, rfl⟩
def wordName (op : Int) : ByteArray := if op = 1 then ⟨#[110, 101, 103]⟩ else if op = 2 then ⟨#[110, 111, 116]⟩ else if op = 3 then ⟨#[122, 101, 114, 111]⟩ else ⟨#[]⟩
theorem wordName_any (op : Int) (w : World) : Calls Tryd.prog 139 #[.int .i64 op] w fun e w' => e = .returned (.string (wordName op)) ∧ w' = w := by
  by_cases h1 : op = 1
  · subst h1; go_enter Tryd.func139, Tryd.ntmps139; go_wp2; go_ret; exact ⟨rfl, rfl⟩
  by_cases h2 : op = 2
  · subst h2; go_enter Tryd.func139, Tryd.ntmps139; go_wp2; go_ret; exact ⟨rfl, rfl⟩
  by_cases h3 : op = 3
  · subst h3; go_enter Tryd.func139, Tryd.ntmps139; go_wp2; go_ret; exact ⟨rfl, rfl⟩
  have e1 : (op == 1) = false := by simpa using h1
  have e2 : (op == 2) = false := by simpa using h2
  have e3 : (op == 3) = false := by simpa using h3
  have he : wordName op = ⟨#[]⟩ := by unfold wordName; rw [if_neg h1, if_neg h2, if_neg h3]
  rw [he]
  clear he h1 h2 h3
  go_enter Tryd.func139, Tryd.ntmps139
  go_wp2
  go_ret
  exact ⟨rfl, rfl⟩
def opL : List Int := [20, 21, 1, 2, 3, 4, 5, 8, 9, 10, 11, 12, 14, 15, 16, 17]
def opB (op : Int) : Bool := opL.contains op
theorem operator_any (op : Int) (w : World) : Calls Tryd.prog 140 #[.int .i64 op] w fun e w' => e = .returned (.bool (opB op)) ∧ w' = w := by
  by_cases hm : op ∈ opL
  · have he : opB op = true := by simpa [opB] using hm
    rw [he]
    clear he
    simp only [opL, List.mem_cons, List.not_mem_nil, or_false] at hm
    rcases hm with rfl | rfl | rfl | rfl | rfl | rfl | rfl | rfl | rfl | rfl | rfl | rfl | rfl | rfl | rfl | rfl <;> (go_enter Tryd.func140, Tryd.ntmps140; go_wp2; go_ret; exact ⟨rfl, rfl⟩)
  · have he : opB op = false := by simpa [opB] using hm
    rw [he]
    clear he
    simp only [opL, List.mem_cons, List.not_mem_nil, or_false, not_or] at hm
    obtain ⟨a1, a2, a3, a4, a5, a6, a7, a8, a9, b1, b2, b3, b4, b5, b6, b7⟩ := hm
    have c1 : (op == 20) = false := by simpa using a1
    have c2 : (op == 21) = false := by simpa using a2
    have c3 : (op == 1) = false := by simpa using a3
    have c4 : (op == 2) = false := by simpa using a4
    have c5 : (op == 3) = false := by simpa using a5
    have c6 : (op == 4) = false := by simpa using a6
    have c7 : (op == 5) = false := by simpa using a7
    have c8 : (op == 8) = false := by simpa using a8
    have c9 : (op == 9) = false := by simpa using a9
    have d1 : (op == 10) = false := by simpa using b1
    have d2 : (op == 11) = false := by simpa using b2
    have d3 : (op == 12) = false := by simpa using b3
    have d4 : (op == 14) = false := by simpa using b4
    have d5 : (op == 15) = false := by simpa using b5
    have d6 : (op == 16) = false := by simpa using b6
    have d7 : (op == 17) = false := by simpa using b7
    clear a1 a2 a3 a4 a5 a6 a7 a8 a9 b1 b2 b3 b4 b5 b6 b7
    go_enter Tryd.func140, Tryd.ntmps140
    go_wp2
    go_ret
    exact ⟨rfl, rfl⟩
def nameB (s : ByteArray) : Bool := Lx.kindOf s == 1
theorem name_any (s : ByteArray) (w : World) (hs : s.size ≤ 140737488351232) (hG : Keys w) : Calls Tryd.prog 77 #[.string s] w fun e w' => e = .returned (.bool (nameB s)) ∧ Below w.heap.size w w' := by
  go_enter Tryd.func77, Tryd.ntmps77
  go_wp2_with (go_at_call 52; refine (Lx.kind_any s _ hs hG).mono ?_; rintro e w1 ⟨rfl, hb⟩; have HB := Lx.Hd.mk hb; clear hb)
  go_ret
  exact ⟨rfl, HB.out⟩
def sameB (a b : SE) : Bool := a.f0 == b.f0 && (a.f1 == b.f1 && (a.f2 == b.f2 && (a.f3 == b.f3 && a.f4.toList == b.f4.toList)))
theorem same_vals (a0 a1 a2 a3 b0 b1 b2 b3 : Int) (a4 b4 : ByteArray) (A B : Option Addr) (n m c d : Nat) (w : World) :
    Calls Tryd.prog 80 #[.agg #[.int .i64 a0, .int .i64 a1, .int .i64 a2, .int .u32 a3, .string a4, .slice A n c], .agg #[.int .i64 b0, .int .i64 b1, .int .i64 b2, .int .u32 b3, .string b4, .slice B m d]] w fun e w' => e = .returned (.bool (a0 == b0 && (a1 == b1 && (a2 == b2 && (a3 == b3 && a4.toList == b4.toList))))) ∧ Below w.heap.size w w' := by
  have H0 := (Below.refl w.heap.size w)
  cases h0 : (a0 == b0)
  · go_enter Tryd.func80, Tryd.ntmps80
    go_wp2
    go_ret
    exact ⟨rfl, ((Below.refl _ w).alloc (Nat.le_refl _) _).alloc (by simp) _⟩
  cases h1 : (a1 == b1)
  · go_enter Tryd.func80, Tryd.ntmps80
    go_wp2
    go_ret
    exact ⟨rfl, ((Below.refl _ w).alloc (Nat.le_refl _) _).alloc (by simp) _⟩
  cases h2 : (a2 == b2)
  · go_enter Tryd.func80, Tryd.ntmps80
    go_wp2
    go_ret
    exact ⟨rfl, ((Below.refl _ w).alloc (Nat.le_refl _) _).alloc (by simp) _⟩
  cases h3 : (a3 == b3)
  · go_enter Tryd.func80, Tryd.ntmps80
    go_wp2
    go_ret
    exact ⟨rfl, ((Below.refl _ w).alloc (Nat.le_refl _) _).alloc (by simp) _⟩
  cases h4 : (a4.toList == b4.toList)
  all_goals
    go_enter Tryd.func80, Tryd.ntmps80
    go_wp2
    go_ret
    exact ⟨rfl, ((Below.refl _ w).alloc (Nat.le_refl _) _).alloc (by simp) _⟩
theorem same_any (a b : SE) (A B : Option Addr) (n m c d : Nat) (w : World) :
    Calls Tryd.prog 80 #[.agg #[.int .i64 a.f0, .int .i64 a.f1, .int .i64 a.f2, .int .u32 a.f3, .string a.f4, .slice A n c], .agg #[.int .i64 b.f0, .int .i64 b.f1, .int .i64 b.f2, .int .u32 b.f3, .string b.f4, .slice B m d]] w fun e w' => e = .returned (.bool (sameB a b)) ∧ Below w.heap.size w w' :=
  same_vals a.f0 a.f1 a.f2 a.f3 b.f0 b.f1 b.f2 b.f3 a.f4 b.f4 A B n m c d w
end Go.Proofs.YtgkhpecllhiidaaDoor.A
