/- Package ast: check. -/
import Derived.Test.YtgkhpecllhiidaaDoorAn
import Derived.Test.YtgkhpecllhiidaaDoorAi
set_option linter.unusedVariables false
set_option linter.unusedSimpArgs false
namespace Go.Proofs.YtgkhpecllhiidaaDoor.A
open Go.RowKit Go.Shelf Go.Proofs.YtgkhpecllhiidaaDoor.As Go.Proofs.YtgkhpecllhiidaaDoorW.PrintWords Go.Proofs.YtgkhpecllhiidaaDoorW.PrintLast Go.Proofs.YtgkhpecllhiidaaDoorW.PrintMore

def szN : Nd → Prop
  | .ex e => e.f4.size ≤ 140737488351232
  | .st s => s.f4.size ≤ 140737488351232 ∧ ∀ x ∈ s.f5, x.size ≤ 140737488351232
theorem owns : Owns exprB stmtB szN := ⟨fun a e w hG hs hp => expr_any a e w hG hs hp, fun a s w hG hs hp => stmt_any a s w hG hs.1 hs.2 hp⟩
abbrev rightN (x : Nd) : Bool := x.right exprB stmtB
theorem size_any (x : Nd) (v : Value) (w : World) (h : x.size < 4611686018427387904) (hN : NdAt w v x) : Calls Tryd.prog 63 #[v] w fun e w' => e = .returned (.int .i64 x.size) ∧ Below w.heap.size w w' := size_in x.deep x v w (Nat.le_refl _) h hN
theorem deep_any (x : Nd) (v : Value) (w : World) (h : x.deep < 4611686018427387904) (hN : NdAt w v x) : Calls Tryd.prog 62 #[v] w fun e w' => e = .returned (.int .i64 x.deep) ∧ Below w.heap.size w w' := deep_in x.deep x v w (Nat.le_refl _) h hN
theorem right_any (x : Nd) (v : Value) (w : World) (hG : Keys w) (hP : AllN szN x) (hN : NdAt w v x) : Calls Tryd.prog 102 #[v] w fun e w' => e = .returned (.bool (rightN x)) ∧ Below w.heap.size w w' := right_in exprB stmtB szN owns x.deep x v w (Nat.le_refl _) hG hP hN
/-- A row of nodes. -/
def NdsAt (w : World) (A : Option Addr) (l : List Nd) : Prop := l.length ≤ 9223372036854775807 ∧ ∀ (i : Nat) (h : i < l.length), ∃ (ad : Addr) (p q : Option Addr), A = some ad ∧ w.cell? (ad.add (i * 2)) = some (.pointer p) ∧ w.cell? ⟨(ad.add (i * 2)).block, (ad.add (i * 2)).off + 1, none⟩ = some (.pointer q) ∧ NdAt w (.agg #[.pointer p, .pointer q]) l[i]
/-- What the first loop finds: too many, or too deep. -/
def tooLong : Nat → List Nd → Bool
  | _, [] => false
  | c, x :: l => decide (4000 < c + x.size) || decide (60 < x.deep) || tooLong (c + x.size) l
def checkN (l : List Nd) : Int := if tooLong 0 l then 3 else if l.all rightN then 0 else 2
def Long (l : List Nd) (i : Nat) : Prop := tooLong 0 l = tooLong (sizes (l.take i)) (l.drop i)
theorem long_step {l : List Nd} {i : Nat} (h : Long l i) (hi : i < l.length) : tooLong 0 l = (decide (4000 < sizes (l.take i) + (l[i]).size) || decide (60 < (l[i]).deep) || tooLong (sizes (l.take (i + 1))) (l.drop (i + 1))) := by
  rw [h, List.drop_eq_getElem_cons hi, tooLong]
  have : sizes (l.take (i + 1)) = sizes (l.take i) + (l[i]).size := by rw [List.take_succ_eq_append_getElem hi, sizes_append]; rfl
  rw [this]
theorem sizes_take (l : List Nd) (i : Nat) : sizes (l.take i) ≤ sizes l := by
  have := sizes_append (l.take i) (l.drop i)
  rw [List.take_append_drop] at this
  omega
theorem sizes_succ {l : List Nd} {i : Nat} (hi : i < l.length) : sizes (l.take (i + 1)) = sizes (l.take i) + (l[i]).size := by rw [List.take_succ_eq_append_getElem hi, sizes_append]; rfl
set_option maxRecDepth 100000 in
set_option maxHeartbeats 4000000 in
theorem check_any (A : Option Addr) (c : Nat) (l : List Nd) (w : World) (hG : Keys w) (hA : NdsAt w A l) (hs : sizes l < 4611686018427387904) (hd : ∀ x ∈ l, x.deep < 4611686018427387904) (hP : ∀ x ∈ l, AllN szN x) :
    Calls Tryd.prog 59 #[.slice A l.length c] w fun e w' => e = .returned (.int .i64 (checkN l)) ∧ Below w.heap.size w w' := by
  have hlen := hA.1
  go_enter Tryd.func59, Tryd.ntmps59
  go_wp2
  go_loopw [3, 10] (fun t3 t10 wr => ∃ i : Nat, i ≤ l.length ∧ t10 = .int .i64 i ∧ t3 = .int .i64 (sizes (l.take i)) ∧ Long l i ∧ Below w.heap.size w wr) (fun _ t10 _ => l.length - (intOf t10).toNat)
  case atStart => exact ⟨0, Nat.zero_le _, rfl, rfl, rfl, Below.refl _ _⟩
  case round =>
    obtain ⟨i, hi, rfl, rfl, hL, hB⟩ := hrel
    by_cases hlt : i < l.length
    · obtain ⟨ad, p, q, rfl, hp, hq, hN⟩ := hA.2 i hlt
      have h1 := long_step hL hlt
      have hsx : (l[i]).size < 4611686018427387904 := by have := sizes_succ hlt; have := sizes_take l (i + 1); omega
      have hdx := hd _ (List.getElem_mem hlt)
      have hle := sizes_succ hlt
      have hle2 := sizes_take l (i + 1)
      have p1 := pw_cell_below hB hp
      have q1 := pw_cell_below hB hq
      have HN := Lx.Hd.mk (hN.below hB)
      have HB := Lx.Hd.mk hB
      have HL1 := Lx.Hd.mk h1
      have HLe := Lx.Hd.mk hle
      clear hN hB hL h1 hp hq hle
      have hb1 : sizes (l.take i) + (l[i]).size < 4611686018427387904 := by have := HLe.out; omega
      go_upto_region 5 with (fail)
      refine name_world fun W1 hW1 => ?_
      have hn2 := cells_new2 wr (.pointer p) (.pointer q) 85
      rw [← hW1] at hn2
      have HW1 : Lx.Hd (Below wr.heap.size wr W1) := Lx.Hd.mk (by rw [hW1]; exact (Below.refl _ wr).alloc (Nat.le_refl _) _)
      have HB1 : Lx.Hd (Below w.heap.size w W1) := Lx.Hd.mk (HB.out.trans (HW1.out.mono HB.out.size))
      have hN1 := HN.out.below HW1.out
      have hs1 : wr.heap.size < W1.heap.size := by rw [hW1]; simp
      have hn1 := hn2.1
      have hn2 := hn2.2
      clear hW1
      go_upto_region 6 with (go_at_call 63; refine (size_any _ _ _ hsx hN1).mono ?_; rintro e W2 ⟨rfl, hb2⟩; have m1 := pw_cell_below hb2 hn1; have m2 := pw_cell_below hb2 hn2; have HB2 : Lx.Hd (Below w.heap.size w W2) := Lx.Hd.mk (HB1.out.trans (hb2.mono HB1.out.size)); have hN2 := Lx.Hd.mk (hN1.below hb2); clear hb2)
      clear hN1 hn1 hn2
      have HC : Lx.Hd ((sizes (l.take i) : Int) + ((l[i]).size : Int) = ((sizes (l.take (i + 1)) : Nat) : Int)) := Lx.Hd.mk (by have := HLe.out; omega)
      by_cases h4 : 4000 < sizes (l.take i) + (l[i]).size
      · have T : checkN l = 3 := by
          have := HL1.out
          rw [decide_eq_true h4, Bool.true_or, Bool.true_or] at this
          unfold checkN; rw [this, if_pos rfl]
        have h4' : decide ((sizes (l.take i) : Int) + ((l[i]).size : Int) > 4000) = true := decide_eq_true (by omega)
        go_wp2
        go_ret
        exact ⟨by rw [T]; rfl, HB2.out⟩
      · have h4' : decide ((sizes (l.take i) : Int) + ((l[i]).size : Int) > 4000) = false := decide_eq_false (by omega)
        by_cases h6 : 60 < (l[i]).deep
        · have T : checkN l = 3 := by
            have := HL1.out
            rw [decide_eq_true h6, Bool.or_true, Bool.true_or] at this
            unfold checkN; rw [this, if_pos rfl]
          have h6' : decide (((l[i]).deep : Int) > 60) = true := decide_eq_true (by omega)
          go_upto_region 7 with (go_at_call 62; refine (deep_any _ _ _ hdx hN2.out).mono ?_; rintro e W3 ⟨rfl, hb3⟩; have HB3 : Lx.Hd (Below w.heap.size w W3) := Lx.Hd.mk (HB2.out.trans (hb3.mono HB2.out.size)); clear hb3)
          go_wp2
          go_ret
          exact ⟨by rw [T]; rfl, HB3.out⟩
        · have h6' : decide (((l[i]).deep : Int) > 60) = false := decide_eq_false (by omega)
          have hL2 : Long l (i + 1) := by
            have := HL1.out
            rw [decide_eq_false h4, decide_eq_false h6, Bool.false_or, Bool.false_or] at this
            exact this
          go_wp2_with (go_at_call 62; refine (deep_any _ _ _ hdx hN2.out).mono ?_; rintro e W3 ⟨rfl, hb3⟩; have HB3 : Lx.Hd (Below w.heap.size w W3) := Lx.Hd.mk (HB2.out.trans (hb3.mono HB2.out.size)); clear hb3)
          exact ⟨⟨i + 1, hlt, by congr 1, by rw [HC.out], hL2, HB3.out⟩, by show l.length - ((i : Int) + 1).toNat < l.length - (i : Int).toNat; omega⟩
    · have hT : tooLong 0 l = false := by
        have hil : i = l.length := by omega
        unfold Long at hL
        rw [hL, hil, List.drop_length]; rfl
      clear hL
      have HB0 := Lx.Hd.mk hB
      clear hB
      go_wp2
      go_loopw [28] (fun t28 ws => ∃ j : Nat, j ≤ l.length ∧ t28 = .int .i64 j ∧ (l.take j).all rightN = true ∧ Below w.heap.size w ws) (fun t28 _ => l.length - (intOf t28).toNat)
      case atStart => exact ⟨0, Nat.zero_le _, rfl, rfl, HB0.out⟩
      case round =>
        clear HB0
        obtain ⟨j, hj, rfl, hall, hB⟩ := hrel
        by_cases hlj : j < l.length
        · obtain ⟨ad, p, q, rfl, hp, hq, hN⟩ := hA.2 j hlj
          have hPj := hP _ (List.getElem_mem hlj)
          have p1 := pw_cell_below hB hp
          have q1 := pw_cell_below hB hq
          have HN := Lx.Hd.mk (hN.below hB)
          have HB := Lx.Hd.mk hB
          have HA := Lx.Hd.mk hall
          clear hN hB hp hq hall
          go_upto_region 12 with (fail)
          refine name_world fun W1 hW1 => ?_
          have hn2 := cells_new2 wr (.pointer p) (.pointer q) 85
          rw [← hW1] at hn2
          have HW1 : Lx.Hd (Below wr.heap.size wr W1) := Lx.Hd.mk (by rw [hW1]; exact (Below.refl _ wr).alloc (Nat.le_refl _) _)
          have HB1 : Lx.Hd (Below w.heap.size w W1) := Lx.Hd.mk (HB.out.trans (HW1.out.mono HB.out.size))
          have HR := Lx.Hd.mk (right_any _ _ _ (Keys.below hG HB1.out) hPj (HN.out.below HW1.out))
          have hn1 := hn2.1
          have hn2 := hn2.2
          clear hW1
          cases hr : rightN l[j]
          all_goals
            go_wp2_with (go_at_call 102; refine HR.out.mono ?_; rw [hr]; rintro e W2 ⟨rfl, hb2⟩; have HB2 : Lx.Hd (Below w.heap.size w W2) := Lx.Hd.mk (HB1.out.trans (hb2.mono HB1.out.size)); clear hb2)
          · go_ret
            have T : checkN l = 2 := by
              have hf : l.all rightN = false := by rw [List.all_eq_false]; exact ⟨l[j], List.getElem_mem hlj, by rw [hr]; simp⟩
              unfold checkN; rw [hT, hf]; rfl
            exact ⟨by rw [T]; rfl, HB2.out⟩
          · refine ⟨⟨j + 1, hlj, by go_num, ?_, HB2.out⟩, by simp [intOf]; omega⟩
            rw [List.take_succ_eq_append_getElem hlj, List.all_append, HA.out, Bool.true_and, List.all_cons, hr]; rfl
        · have HB := Lx.Hd.mk hB
          clear hB
          go_wp2
          go_ret
          have T : checkN l = 0 := by
            have hf : l.all rightN = true := by rw [← List.take_length (l := l), ← (show j = l.length by omega)]; exact hall
            unfold checkN; rw [hT, hf]; rfl
          exact ⟨by rw [T]; rfl, HB.out⟩
end Go.Proofs.YtgkhpecllhiidaaDoor.A
