/- Package ast: expr at every kind. -/
import Derived.Test.YtgkhpecllhiidaaDoorAg2
import Derived.Test.YtgkhpecllhiidaaDoorAg3
import Derived.Test.YtgkhpecllhiidaaDoorAg4
import Derived.Test.YtgkhpecllhiidaaDoorAg5
import Derived.Test.YtgkhpecllhiidaaDoorAg6
import Derived.Test.YtgkhpecllhiidaaDoorAg7
set_option linter.unusedVariables false
set_option linter.unusedSimpArgs false
namespace Go.Proofs.YtgkhpecllhiidaaDoor.A
open Go.RowKit Go.Shelf Go.Proofs.YtgkhpecllhiidaaDoor.As Go.Proofs.YtgkhpecllhiidaaDoorW.PrintWords Go.Proofs.YtgkhpecllhiidaaDoorW.PrintLast Go.Proofs.YtgkhpecllhiidaaDoorW.PrintMore

set_option maxRecDepth 100000 in
theorem expr_0 (a : Addr) (f0 f1 f2 f3 : Int) (f4 : ByteArray) (A : Option Addr) (n c : Nat) (w : World) (hE : EC w a f0 f1 f2 f3 f4 A n c)
    (h1 : (f0 == 1) = false) (h2 : (f0 == 2) = false) (h3 : (f0 == 3) = false) (h4 : (f0 == 4) = false) (h5 : (f0 == 5) = false) (h6 : (f0 == 6) = false) (h7 : (f0 == 7) = false) :
    Calls Tryd.prog 123 #[.pointer (some a)] w fun e w' => e = .returned (.bool false) ∧ Below w.heap.size w w' := by
  obtain ⟨c0, c1, c2, c3, c4, c5⟩ := id hE
  go_enter Tryd.func123, Tryd.ntmps123
  go_upto_region 3 with (fail)
  refine name_world fun W1 hW1 => ?_
  have hB1 : Below w.heap.size w W1 := by rw [hW1]; exact (Below.refl _ w).alloc (Nat.le_refl _) _
  clear hW1 c0 c1 c2 c3 c4 c5
  obtain ⟨c0, c1, c2, c3, c4, c5⟩ := hE.below hB1
  have HB1 := Lx.Hd.mk hB1
  clear hB1 hE
  go_wp2
  go_ret
  exact ⟨rfl, HB1.out⟩
def exprB (e : SE) : Bool :=
  if e.f0 = 1 then ((e.f5.length : Int) == 0 && sameB e ⟨1, 0, 0, e.f3, ⟨#[]⟩, []⟩)
  else if e.f0 = 2 then ((e.f5.length : Int) == 0 && (nameB e.f4 && sameB e ⟨2, 0, 0, 0, e.f4, []⟩))
  else if e.f0 = 3 then ((e.f5.length : Int) == 1 && (nameB e.f4 && sameB e ⟨3, 0, 0, 0, e.f4, []⟩))
  else if e.f0 = 4 then (decide ((e.f5.length : Int) ≤ 8) && (nameB e.f4 && sameB e ⟨4, 0, 0, 0, e.f4, []⟩))
  else if e.f0 = 5 then ((e.f5.length : Int) == 1 && ((wordName e.f1).toList != [] && sameB e ⟨5, e.f1, 0, 0, ⟨#[]⟩, []⟩))
  else if e.f0 = 6 then ((e.f5.length : Int) == 2 && (opB e.f1 && sameB e ⟨6, e.f1, 0, 0, ⟨#[]⟩, []⟩))
  else if e.f0 = 7 then ((e.f5.length : Int) == 1 && (decide (0 < widthI e.f2) && sameB e ⟨7, 0, e.f2, 0, ⟨#[]⟩, []⟩))
  else false
theorem EC_of {w : World} {a : Addr} {e : SE} (hp : PtAt kE w a e) : ∃ A c, EC w a e.f0 e.f1 e.f2 e.f3 e.f4 A e.f5.length c ∧ e.f5.length ≤ 9223372036854775807 := by
  obtain ⟨cs, hK, hc⟩ := hp
  obtain ⟨A, c, rfl, hl, hC⟩ := k25_open hK
  have hlen := hC.2.1
  refine ⟨A, c, ⟨?_, ?_, ?_, ?_, ?_, ?_⟩, hlen⟩
  · exact hc 0 _ rfl
  · have := hc 1 _ rfl; rwa [add_ne a 1 (by decide)] at this
  · have := hc 2 _ rfl; rwa [add_ne a 2 (by decide)] at this
  · have := hc 3 _ rfl; rwa [add_ne a 3 (by decide)] at this
  · have := hc 4 _ rfl; rwa [add_ne a 4 (by decide)] at this
  · have := hc 5 _ rfl; rwa [add_ne a 5 (by decide)] at this
theorem expr_any (a : Addr) (e : SE) (w : World) (hG : Keys w) (hs : e.f4.size ≤ 140737488351232) (hp : PtAt kE w a e) :
    Calls Tryd.prog 123 #[.pointer (some a)] w fun r w' => r = .returned (.bool (exprB e)) ∧ Below w.heap.size w w' := by
  obtain ⟨A, c, hE, hn⟩ := EC_of hp
  obtain ⟨f0, f1, f2, f3, f4, l⟩ := e
  simp only at hE hn hs
  unfold exprB
  simp only
  by_cases h1 : f0 = 1
  · subst h1; rw [if_pos rfl]; exact expr_1 a f1 f2 f3 f4 A l.length c w hn hs hG hE _ _ rfl ⟨rfl⟩
  rw [if_neg h1]
  by_cases h2 : f0 = 2
  · subst h2; rw [if_pos rfl]; exact expr_2 a f1 f2 f3 f4 A l.length c w hn hs hG hE _ _ _ rfl ⟨rfl⟩ rfl
  rw [if_neg h2]
  by_cases h3 : f0 = 3
  · subst h3; rw [if_pos rfl]; exact expr_3 a f1 f2 f3 f4 A l.length c w hn hs hG hE _ _ _ rfl ⟨rfl⟩ rfl
  rw [if_neg h3]
  by_cases h4 : f0 = 4
  · subst h4; rw [if_pos rfl]; exact expr_4 a f1 f2 f3 f4 A l.length c w hn hs hG hE _ _ _ rfl ⟨rfl⟩ rfl
  rw [if_neg h4]
  by_cases h5 : f0 = 5
  · subst h5; rw [if_pos rfl]; exact expr_5 a f1 f2 f3 f4 A l.length c w hn hs hG hE _ _ _ rfl ⟨rfl⟩ rfl
  rw [if_neg h5]
  by_cases h6 : f0 = 6
  · subst h6; rw [if_pos rfl]; exact expr_6 a f1 f2 f3 f4 A l.length c w hn hs hG hE _ _ _ rfl ⟨rfl⟩ rfl
  rw [if_neg h6]
  by_cases h7 : f0 = 7
  · subst h7; rw [if_pos rfl]; exact expr_7 a f1 f2 f3 f4 A l.length c w hn hs hG hE _ _ _ rfl ⟨rfl⟩ rfl
  rw [if_neg h7]
  exact expr_0 a f0 f1 f2 f3 f4 A l.length c w hE (by simpa using h1) (by simpa using h2) (by simpa using h3) (by simpa using h4) (by simpa using h5) (by simpa using h6) (by simpa using h7)
end Go.Proofs.YtgkhpecllhiidaaDoor.A
