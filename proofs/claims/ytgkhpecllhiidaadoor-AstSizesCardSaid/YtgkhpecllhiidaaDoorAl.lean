/- Package ast: the names of a StAtomic (slices.ContainsFunc over not name). -/
import Derived.Test.YtgkhpecllhiidaaDoorAf
set_option linter.unusedVariables false
set_option linter.unusedSimpArgs false
namespace Go.Proofs.YtgkhpecllhiidaaDoor.A
open Go.RowKit Go.Shelf Go.Proofs.YtgkhpecllhiidaaDoor.As Go.Proofs.YtgkhpecllhiidaaDoorW.PrintWords Go.Proofs.YtgkhpecllhiidaaDoorW.PrintLast Go.Proofs.YtgkhpecllhiidaaDoorW.PrintMore

theorem notname_any (s : ByteArray) (w : World) (hs : s.size ≤ 140737488351232) (hG : Keys w) : Calls Tryd.prog 143 #[.string s] w fun e w' => e = .returned (.bool (!nameB s)) ∧ Below w.heap.size w w' := by
  go_enter Tryd.func143, Tryd.ntmps143
  go_wp2_with (go_at_call 77; refine (name_any s _ hs hG).mono ?_; rintro e w1 ⟨rfl, hb⟩; have HB := Lx.Hd.mk hb; clear hb)
  go_ret
  exact ⟨rfl, HB.out⟩
def badAt (l : List ByteArray) : Nat → Bool
  | 0 => false
  | i + 1 => badAt l i || !nameB (l.getD i ByteArray.empty)
/-- How far the names are good. -/
def Seen (l : List ByteArray) (i : Nat) : Prop := ∀ j, j < i → ∀ x, l[j]? = some x → nameB x = true
def IdxPost (l : List ByteArray) (B : Nat) (w : World) (e : Ending) (w' : World) : Prop := ∃ r : Int, e = .returned (.int .i64 r) ∧ Below B w w' ∧ ((r = -1 ∧ l.all nameB = true) ∨ (0 ≤ r ∧ l.all nameB = false))
set_option maxRecDepth 100000 in
theorem index_names (A : Option Addr) (c : Nat) (l : List ByteArray) (w : World) (hC : Kd.string.C w A l.length l) (hs : ∀ x ∈ l, x.size ≤ 140737488351232) (hG : Keys w) :
    Calls Tryd.prog 148 #[.slice A l.length c, .func (.func 143) #[] #[]] w (IdxPost l w.heap.size w) := by
  have hlen := hC.2.1
  go_enter Tryd.func148, Tryd.ntmps148
  go_wp2
  go_loopw [8] (fun t8 wr => ∃ i : Nat, i ≤ l.length ∧ t8 = .int .i64 i ∧ Seen l i ∧ Below w.heap.size w wr) (fun t8 _ => l.length - (intOf t8).toNat)
  case atStart => exact ⟨0, Nat.zero_le _, rfl, fun j h => absurd h (Nat.not_lt_zero j), Below.refl _ _⟩
  case round =>
    obtain ⟨i, hi, rfl, hSn, hB⟩ := hrel
    by_cases hlt : i < l.length
    · obtain ⟨ad, cs, hA, hc0, hK, hcell⟩ := Kd.C_get hC ByteArray.empty (i : Int) (by omega) (by omega)
      subst hA
      rw [Int.toNat_natCast] at hK hcell
      have hx : l.getD i ByteArray.empty = l[i] := by rw [List.getD_eq_getElem?_getD, List.getElem?_eq_getElem hlt]; rfl
      rw [hx] at hK
      obtain rfl : cs = [.string l[i]] := hK
      have c0 : wr.cell? (ad.add i) = some (.string l[i]) := pw_cell_below hB (by have := hcell 0 _ rfl; rwa [show i * Kd.string.sz + 0 = i from by show i * 1 + 0 = i; omega] at this)
      have HB := Lx.Hd.mk hB
      have HS := Lx.Hd.mk hSn
      clear hB hSn hcell hx
      have HN := Lx.Hd.mk (notname_any l[i] wr (hs _ (List.getElem_mem hlt)) (Keys.below hG HB.out))
      cases hn : nameB l[i]
      all_goals
        go_wp2_with (go_at_call 143; refine HN.out.mono ?_; rw [hn]; rintro e w1 ⟨rfl, hb⟩; have HB1 := Lx.Hd.mk hb; clear hb)
      · go_ret
        refine ⟨(i : Int), rfl, HB.out.trans (HB1.out.mono HB.out.size), .inr ⟨Int.natCast_nonneg i, ?_⟩⟩
        rw [List.all_eq_false]
        exact ⟨l[i], List.getElem_mem hlt, by rw [hn]; simp⟩
      · refine ⟨⟨i + 1, by omega, by go_num, ?_, HB.out.trans (HB1.out.mono HB.out.size)⟩, by simp [intOf]; omega⟩
        intro j hj x hx
        rcases (by omega : j < i ∨ j = i) with h | rfl
        · exact HS.out j h x hx
        · rw [List.getElem?_eq_getElem hlt] at hx
          obtain rfl := Option.some.inj hx
          exact hn
    · have HB := Lx.Hd.mk hB
      have HS := Lx.Hd.mk hSn
      clear hB hSn
      go_wp2
      go_ret
      obtain rfl : i = l.length := by omega
      refine ⟨-1, rfl, HB.out, .inl ⟨rfl, ?_⟩⟩
      rw [List.all_eq_true]
      intro x hx
      obtain ⟨j, hj, rfl⟩ := List.getElem_of_mem hx
      exact HS.out j hj _ (List.getElem?_eq_getElem hj)
theorem contains_bad (A : Option Addr) (c : Nat) (l : List ByteArray) (w : World) (hC : Kd.string.C w A l.length l) (hs : ∀ x ∈ l, x.size ≤ 140737488351232) (hG : Keys w) :
    Calls Tryd.prog 142 #[.slice A l.length c, .func (.func 143) #[] #[]] w fun e w' => e = .returned (.bool (!l.all nameB)) ∧ Below w.heap.size w w' := by
  have HI := Lx.Hd.mk (index_names A c l w hC hs hG)
  go_enter Tryd.func142, Tryd.ntmps142
  go_wp2_with (go_at_call 148; refine HI.out.mono ?_; rintro e w1 ⟨r, rfl, hb, hr⟩; have HB := Lx.Hd.mk hb; have HR := Lx.Hd.mk hr; clear hb hr)
  all_goals
    go_ret
    refine ⟨?_, HB.out⟩
    rcases HR.out with ⟨h1, h2⟩ | ⟨h1, h2⟩
    · rw [h2]; subst h1; rfl
    · rw [h2]; simp [h1]
end Go.Proofs.YtgkhpecllhiidaaDoor.A
