/- Package ast: expr at every kind. -/
import Derived.Test.YtnjnadlgndjnbaaDoorYAg2
import Derived.Test.YtnjnadlgndjnbaaDoorYAg5
import Derived.Test.YtnjnadlgndjnbaaDoorYAm
set_option linter.unusedVariables false
set_option linter.unusedSimpArgs false
namespace Go.Proofs.YtnjnadlgndjnbaaDoor.A
open Go.RowKit Go.Shelf Go.Proofs.YtnjnadlgndjnbaaDoor.As Go.Proofs.YtnjnadlgndjnbaaDoorW.PrintWords Go.Proofs.YtnjnadlgndjnbaaDoorW.PrintLast Go.Proofs.YtnjnadlgndjnbaaDoorW.PrintMore
set_option maxRecDepth 100000 in
theorem expr_0 (a : Addr) (f0 f1 f2 f3 : Int) (f4 : ByteArray) (A : Option Addr) (n c : Nat) (w : World) (hE : EC w a f0 f1 f2 f3 f4 A n c)
    (h1 : (f0 == 1) = false) (h2 : (f0 == 2) = false) (h3 : (f0 == 3) = false) (h4 : (f0 == 4) = false) (h5 : (f0 == 5) = false) (h6 : (f0 == 6) = false) (h7 : (f0 == 7) = false) :
    Calls Tryd.prog 73 #[.pointer (some a)] w fun e w' => e = .returned (.bool false) ∧ Below w.heap.size w w' := by
  obtain ⟨c0, c1, c2, c3, c4, c5⟩ := id hE
  go_enter Tryd.func73, Tryd.ntmps73
  go_upto_region 3 with (fail)
  refine name_world fun W1 hW1 => ?_
  have hB1 : Below w.heap.size w W1 := by rw [hW1]; exact (Below.refl _ w).alloc (Nat.le_refl _) _
  clear hW1 c0 c1 c2 c3 c4 c5
  obtain ⟨c0, c1, c2, c3, c4, c5⟩ := hE.below hB1
  have HB1 := Lx.Hd.mk hB1
  clear hB1 hE
  go_wp2
  go_ret
  exact ⟨rfl, HB1.out⟩
def exprB (e : SE) : Bool :=
  if e.f0 = 1 then ((e.f5.length : Int) == 0 && sameB e ⟨1, 0, 0, e.f3, ⟨#[]⟩, []⟩)
  else if e.f0 = 2 then ((e.f5.length : Int) == 0 && (nameB e.f4 && sameB e ⟨2, 0, 0, 0, e.f4, []⟩))
  else if e.f0 = 3 then ((e.f5.length : Int) == 1 && (nameB e.f4 && sameB e ⟨3, 0, 0, 0, e.f4, []⟩))
  else if e.f0 = 4 then (decide ((e.f5.length : Int) ≤ 8) && (nameB e.f4 && sameB e ⟨4, 0, 0, 0, e.f4, []⟩))
  else if e.f0 = 5 then ((e.f5.length : Int) == 1 && ((wordName e.f1).toList != [] && sameB e ⟨5, e.f1, 0, 0, ⟨#[]⟩, []⟩))
  else if e.f0 = 6 then ((e.f5.length : Int) == 2 && (opB e.f1 && sameB e ⟨6, e.f1, 0, 0, ⟨#[]⟩, []⟩))
  else if e.f0 = 7 then ((e.f5.length : Int) == 1 && (decide (0 < widthI e.f2) && sameB e ⟨7, 0, e.f2, 0, ⟨#[]⟩, []⟩))
  else false
theorem EC_of {w : World} {a : Addr} {e : SE} (hp : PtAt kE w a e) : ∃ A c, EC w a e.f0 e.f1 e.f2 e.f3 e.f4 A e.f5.length c ∧ e.f5.length ≤ 9223372036854775807 := by
  obtain ⟨cs, hK, hc⟩ := hp
  obtain ⟨A, c, rfl, hl, hC⟩ := k26_open hK
  have hlen := hC.2.1
  refine ⟨A, c, ⟨?_, ?_, ?_, ?_, ?_, ?_⟩, hlen⟩
  · exact hc 0 _ rfl
  · have := hc 1 _ rfl; rwa [add_ne a 1 (by decide)] at this
  · have := hc 2 _ rfl; rwa [add_ne a 2 (by decide)] at this
  · have := hc 3 _ rfl; rwa [add_ne a 3 (by decide)] at this
  · have := hc 4 _ rfl; rwa [add_ne a 4 (by decide)] at this
  · have := hc 5 _ rfl; rwa [add_ne a 5 (by decide)] at this
theorem expr_any (a : Addr) (e : SE) (w : World) (hG : Keys w) (hs : e.f4.size ≤ 140737488351232) (hp : PtAt kE w a e) :
    Calls Tryd.prog 73 #[.pointer (some a)] w fun r w' => r = .returned (.bool (exprB e)) ∧ Below w.heap.size w w' := by
  obtain ⟨A, c, hE, hn⟩ := EC_of hp
  obtain ⟨f0, f1, f2, f3, f4, l⟩ := e
  simp only at hE hn hs
  unfold exprB
  simp only
  by_cases h1 : f0 = 1
  · subst h1; rw [if_pos rfl]; exact expr_1 a f1 f2 f3 f4 A l.length c w hn hs hG hE _ _ rfl ⟨rfl⟩
  rw [if_neg h1]
  by_cases h2 : f0 = 2
  · subst h2; rw [if_pos rfl]; exact expr_2 a f1 f2 f3 f4 A l.length c w hn hs hG hE _ _ _ rfl ⟨rfl⟩ rfl
  rw [if_neg h2]
  by_cases h3 : f0 = 3
  · subst h3; rw [if_pos rfl]; exact expr_3 a f1 f2 f3 f4 A l.length c w hn hs hG hE _ _ _ rfl ⟨rfl⟩ rfl
  rw [if_neg h3]
  by_cases h4 : f0 = 4
  · subst h4; rw [if_pos rfl]; exact expr_4 a f1 f2 f3 f4 A l.length c w hn hs hG hE _ _ _ rfl ⟨rfl⟩ rfl
  rw [if_neg h4]
  by_cases h5 : f0 = 5
  · subst h5; rw [if_pos rfl]; exact expr_5 a f1 f2 f3 f4 A l.length c w hn hs hG hE _ _ _ rfl ⟨rfl⟩ rfl
  rw [if_neg h5]
  by_cases h6 : f0 = 6
  · subst h6; rw [if_pos rfl]; exact expr_6 a f1 f2 f3 f4 A l.length c w hn hs hG hE _ _ _ rfl ⟨rfl⟩ rfl
  rw [if_neg h6]
  by_cases h7 : f0 = 7
  · subst h7; rw [if_pos rfl]; exact expr_7 a f1 f2 f3 f4 A l.length c w hn hs hG hE _ _ _ rfl ⟨rfl⟩ rfl
  rw [if_neg h7]
  exact expr_0 a f0 f1 f2 f3 f4 A l.length c w hE (by simpa using h1) (by simpa using h2) (by simpa using h3) (by simpa using h4) (by simpa using h5) (by simpa using h6) (by simpa using h7)
end Go.Proofs.YtnjnadlgndjnbaaDoor.A
namespace Go.Proofs.YtnjnadlgndjnbaaDoor.A
open Go.RowKit Go.Shelf Go.Proofs.YtnjnadlgndjnbaaDoor.As Go.Proofs.YtnjnadlgndjnbaaDoorW.PrintWords Go.Proofs.YtnjnadlgndjnbaaDoorW.PrintLast Go.Proofs.YtnjnadlgndjnbaaDoorW.PrintMore
def c_let (s : SS) : Bool := (s.f3 == 0) && (((s.f5.length : Int) == 0) && (((s.f6.length : Int) == 0) && (((s.f7.length : Int) == 1) && (((s.f8.length : Int) == 0) && (((s.f9.length : Int) == 0))))))
def c_set (s : SS) : Bool := (s.f2 == 0) && ((s.f3 == 0) && (((s.f5.length : Int) == 0) && (((s.f7.length : Int) == 1) && (((s.f8.length : Int) == 0) && (((s.f9.length : Int) == 0))))))
def c_one (s : SS) : Bool := (s.f2 == 0) && ((s.f3 == 0) && ((s.f4.toList == []) && (((s.f5.length : Int) == 0) && (((s.f6.length : Int) == 0) && (((s.f7.length : Int) == 1) && (((s.f8.length : Int) == 0) && (((s.f9.length : Int) == 0))))))))
def c_iff (s : SS) : Bool := (s.f2 == 0) && ((s.f3 == 0) && ((s.f4.toList == []) && (((s.f5.length : Int) == 0) && (((s.f6.length : Int) == 0) && (((s.f7.length : Int) == 1))))))
def c_whl (s : SS) : Bool := (s.f2 == 0) && ((s.f3 == 0) && ((s.f4.toList == []) && (((s.f5.length : Int) == 0) && (((s.f6.length : Int) == 0) && (((s.f7.length : Int) == 1) && (((s.f9.length : Int) == 0)))))))
def c_num (s : SS) : Bool := (s.f2 == 0) && ((s.f4.toList == []) && (((s.f5.length : Int) == 0) && (((s.f6.length : Int) == 0) && (!((s.f7.length : Int) == 1) && (((s.f7.length : Int) == 0) && (((s.f8.length : Int) == 0) && (((s.f9.length : Int) == 0))))))))
def c_atm (s : SS) : Bool := (s.f2 == 0) && ((s.f3 == 0) && ((s.f4.toList == []) && (((s.f6.length : Int) == 0) && (!((s.f7.length : Int) == 1) && (((s.f7.length : Int) == 0) && (((s.f9.length : Int) == 0)))))))
def firstKind (s : SS) : Int := (s.f7.getD 0 z26).f0
def stmtB (s : SS) : Bool :=
  if s.f1 < 0 then false
  else if s.f0 = 1 then (c_let s && (nameB s.f4 && decide (0 < widthI s.f2)))
  else if s.f0 = 2 then (c_set s && (nameB s.f4 && decide ((s.f6.length : Int) ≤ 1)))
  else if s.f0 = 3 then (c_one s && firstKind s == 4)
  else if s.f0 = 4 then c_iff s
  else if s.f0 = 5 then c_whl s
  else if s.f0 = 6 then c_one s
  else if s.f0 = 7 then (c_num s && (decide (0 ≤ s.f3) && decide (s.f3 ≤ 31)))
  else if s.f0 = 8 then (c_num s && (decide (0 ≤ s.f3) && decide (s.f3 ≤ 31)))
  else if s.f0 = 9 then (c_num s && (decide (0 ≤ s.f3) && decide (s.f3 ≤ 15)))
  else if s.f0 = 10 then (c_atm s && (decide (1 ≤ (s.f5.length : Int)) && s.f5.all nameB))
  else false
theorem c_one_len {s : SS} (h : c_one s = true) : s.f7.length = 1 := by
  unfold c_one at h
  simp only [Bool.and_eq_true, beq_iff_eq] at h
  have := h.2.2.2.2.2.1
  omega
theorem SC_of {w : World} {a : Addr} {s : SS} (hp : PtAt kS w a s) : ∃ A5 A6 A7 A8 A9 c5 c6 c7 c8 c9, SC w a s.f0 s.f1 s.f2 s.f3 s.f4 A5 A6 A7 A8 A9 s.f5.length s.f6.length s.f7.length s.f8.length s.f9.length c5 c6 c7 c8 c9 ∧ Kd.string.C w A5 s.f5.length s.f5 ∧ kE.C w A7 s.f7.length s.f7 := by
  obtain ⟨cs, hK, hc⟩ := hp
  obtain ⟨A5, c5, A6, c6, A7, c7, A8, c8, A9, c9, rfl, l5, C5, l6, C6, l7, C7, l8, C8, l9, C9⟩ := k57_open hK
  refine ⟨A5, A6, A7, A8, A9, c5, c6, c7, c8, c9, ⟨?_, ?_, ?_, ?_, ?_, ?_, ?_, ?_, ?_, ?_⟩, C5, C7⟩
  · exact hc 0 _ rfl
  · have := hc 1 _ rfl; rwa [add_ne a 1 (by decide)] at this
  · have := hc 2 _ rfl; rwa [add_ne a 2 (by decide)] at this
  · have := hc 3 _ rfl; rwa [add_ne a 3 (by decide)] at this
  · have := hc 4 _ rfl; rwa [add_ne a 4 (by decide)] at this
  · have := hc 5 _ rfl; rwa [add_ne a 5 (by decide)] at this
  · have := hc 6 _ rfl; rwa [add_ne a 6 (by decide)] at this
  · have := hc 7 _ rfl; rwa [add_ne a 7 (by decide)] at this
  · have := hc 8 _ rfl; rwa [add_ne a 8 (by decide)] at this
  · have := hc 9 _ rfl; rwa [add_ne a 9 (by decide)] at this
theorem stmt_any (a : Addr) (s : SS) (w : World) (hG : Keys w) (hs : s.f4.size ≤ 140737488351232) (hz5 : ∀ x ∈ s.f5, x.size ≤ 140737488351232) (hp : PtAt kS w a s) :
    Calls Tryd.prog 74 #[.pointer (some a)] w fun r w' => r = .returned (.bool (stmtB s)) ∧ Below w.heap.size w w' := by
  obtain ⟨A5, A6, A7, A8, A9, c5, c6, c7, c8, c9, hS, C5, C7⟩ := SC_of hp
  have hfirst : s.f7.length = 1 → ∃ ad, A7 = some ad ∧ w.cell? ad = some (.int .i64 (firstKind s)) := by
    intro h1
    obtain ⟨ad, rfl, _⟩ := C7.2.2 (by omega)
    have hpt := PtAt.of_C C7 0 (by omega)
    obtain ⟨A, c, hE, _⟩ := EC_of hpt
    refine ⟨ad, rfl, ?_⟩
    have e0 := hE.c0
    have : ad.add (0 * kE.sz) = ad := by rw [Nat.zero_mul]; rfl
    rw [this] at e0
    have hf : firstKind s = (s.f7[0]'(by omega)).f0 := by unfold firstKind; rw [List.getD_eq_getElem?_getD, List.getElem?_eq_getElem (by omega)]; rfl
    rw [hf]; exact e0
  unfold stmtB
  by_cases hl : s.f1 < 0
  · rw [if_pos hl]; exact stmt_neg a s.f0 s.f1 s.f2 s.f3 s.f4 A5 A6 A7 A8 A9 _ _ _ _ _ c5 c6 c7 c8 c9 w hs hG hS (eq_true hl)
  rw [if_neg hl]
  have hl' := eq_false hl
  obtain ⟨f0, f1, f2, f3, f4, l5, l6, l7, l8, l9⟩ := s
  simp only at *
  by_cases h1 : f0 = 1
  · subst h1; rw [if_pos rfl]; exact stmt_1 a f1 f2 f3 f4 A5 A6 A7 A8 A9 _ _ _ _ _ c5 c6 c7 c8 c9 w hl' hs hG hS _ _ _ (fun V h1 h2 => has_let a _ _ f1 f2 f3 f4 A5 A6 A7 A8 A9 _ _ _ _ _ c5 c6 c7 c8 c9 V h1 h2) rfl rfl
  rw [if_neg h1]
  by_cases h2 : f0 = 2
  · subst h2; rw [if_pos rfl]; exact stmt_2 a f1 f2 f3 f4 A5 A6 A7 A8 A9 _ _ _ _ _ c5 c6 c7 c8 c9 w hl' hs hG hS _ _ _ (fun V h1 h2 => has_set a _ _ f1 f2 f3 f4 A5 A6 A7 A8 A9 _ _ _ _ _ c5 c6 c7 c8 c9 V h1 h2) rfl rfl
  rw [if_neg h2]
  by_cases h3 : f0 = 3
  · subst h3; rw [if_pos rfl]
    cases hb : c_one ⟨3, f1, f2, f3, f4, l5, l6, l7, l8, l9⟩ with
    | true =>
      obtain ⟨ad, rfl, hg⟩ := hfirst (c_one_len hb)
      exact stmt_3 a f1 f2 f3 f4 A5 A6 (some ad) A8 A9 _ _ _ _ _ c5 c6 c7 c8 c9 w hl' hs hG hS true _ (fun V h1 h2 => (has_one a _ _ f1 f2 f3 f4 A5 A6 (some ad) A8 A9 _ _ _ _ _ c5 c6 c7 c8 c9 V h1 h2).mono fun e w' h => ⟨h.1.trans (congrArg (fun b => Ending.returned (.bool b)) hb), h.2⟩) ad _ (fun _ => ⟨c_one_len hb, rfl, hg⟩) rfl
    | false =>
      exact stmt_3 a f1 f2 f3 f4 A5 A6 A7 A8 A9 _ _ _ _ _ c5 c6 c7 c8 c9 w hl' hs hG hS false _ (fun V h1 h2 => (has_one a _ _ f1 f2 f3 f4 A5 A6 A7 A8 A9 _ _ _ _ _ c5 c6 c7 c8 c9 V h1 h2).mono fun e w' h => ⟨h.1.trans (congrArg (fun b => Ending.returned (.bool b)) hb), h.2⟩) ⟨0, 0, none⟩ _ (fun h => by cases h) rfl
  rw [if_neg h3]
  by_cases h4 : f0 = 4
  · subst h4; rw [if_pos rfl]; exact stmt_4 a f1 f2 f3 f4 A5 A6 A7 A8 A9 _ _ _ _ _ c5 c6 c7 c8 c9 w hl' hs hG hS _ (fun V h1 h2 => has_iff a _ _ f1 f2 f3 f4 A5 A6 A7 A8 A9 _ _ _ _ _ c5 c6 c7 c8 c9 V h1 h2)
  rw [if_neg h4]
  by_cases h5 : f0 = 5
  · subst h5; rw [if_pos rfl]; exact stmt_5 a f1 f2 f3 f4 A5 A6 A7 A8 A9 _ _ _ _ _ c5 c6 c7 c8 c9 w hl' hs hG hS _ (fun V h1 h2 => has_whl a _ _ f1 f2 f3 f4 A5 A6 A7 A8 A9 _ _ _ _ _ c5 c6 c7 c8 c9 V h1 h2)
  rw [if_neg h5]
  by_cases h6 : f0 = 6
  · subst h6; rw [if_pos rfl]; exact stmt_6 a f1 f2 f3 f4 A5 A6 A7 A8 A9 _ _ _ _ _ c5 c6 c7 c8 c9 w hl' hs hG hS _ (fun V h1 h2 => has_one a _ _ f1 f2 f3 f4 A5 A6 A7 A8 A9 _ _ _ _ _ c5 c6 c7 c8 c9 V h1 h2)
  rw [if_neg h6]
  by_cases h7 : f0 = 7
  · subst h7; rw [if_pos rfl]; exact stmt_7 a f1 f2 f3 f4 A5 A6 A7 A8 A9 _ _ _ _ _ c5 c6 c7 c8 c9 w hl' hs hG hS _ _ _ (fun V h1 h2 => has_num a _ _ f1 f2 f3 f4 A5 A6 A7 A8 A9 _ _ _ _ _ c5 c6 c7 c8 c9 V h1 h2) rfl rfl
  rw [if_neg h7]
  by_cases h8 : f0 = 8
  · subst h8; rw [if_pos rfl]; exact stmt_8 a f1 f2 f3 f4 A5 A6 A7 A8 A9 _ _ _ _ _ c5 c6 c7 c8 c9 w hl' hs hG hS _ _ _ (fun V h1 h2 => has_num a _ _ f1 f2 f3 f4 A5 A6 A7 A8 A9 _ _ _ _ _ c5 c6 c7 c8 c9 V h1 h2) rfl rfl
  rw [if_neg h8]
  by_cases h9 : f0 = 9
  · subst h9; rw [if_pos rfl]; exact stmt_9 a f1 f2 f3 f4 A5 A6 A7 A8 A9 _ _ _ _ _ c5 c6 c7 c8 c9 w hl' hs hG hS _ _ _ (fun V h1 h2 => has_num a _ _ f1 f2 f3 f4 A5 A6 A7 A8 A9 _ _ _ _ _ c5 c6 c7 c8 c9 V h1 h2) rfl rfl
  rw [if_neg h9]
  by_cases h10 : f0 = 10
  · subst h10; rw [if_pos rfl]; exact stmt_10 a f1 f2 f3 f4 A5 A6 A7 A8 A9 _ _ _ _ c5 c6 c7 c8 c9 w l5 C5 hz5 hl' hs hG hS _ _ _ (fun V h1 h2 => has_atm a _ _ f1 f2 f3 f4 A5 A6 A7 A8 A9 _ _ _ _ _ c5 c6 c7 c8 c9 V h1 h2) rfl rfl
  rw [if_neg h10]
  exact stmt_0 a f0 f1 f2 f3 f4 A5 A6 A7 A8 A9 _ _ _ _ _ c5 c6 c7 c8 c9 w hs hG hS hl' (by simpa using h1) (by simpa using h2) (by simpa using h3) (by simpa using h4) (by simpa using h5) (by simpa using h6) (by simpa using h7) (by simpa using h8) (by simpa using h9) (by simpa using h10)
end Go.Proofs.YtnjnadlgndjnbaaDoor.A
