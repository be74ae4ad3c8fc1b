/- Package ast: check. -/
import Derived.Test.YtgkhpecllhiidaaDoorZAn
import Derived.Test.YtgkhpecllhiidaaDoorZAk
import Derived.ChangeArms
import Derived.SizedLaws
import Derived.Deep.Slices
set_option linter.unusedVariables false
set_option linter.unusedSimpArgs false
namespace Go.Proofs.YtgkhpecllhiidaaDoor.A
open Go.RowKit Go.Shelf Go.Proofs.YtgkhpecllhiidaaDoor.As Go.Proofs.YtgkhpecllhiidaaDoorW.PrintWords Go.Proofs.YtgkhpecllhiidaaDoorW.PrintLast Go.Proofs.YtgkhpecllhiidaaDoorW.PrintMore
def szN : Nd → Prop
  | .ex e => e.f4.size ≤ 140737488351232
  | .st s => s.f4.size ≤ 140737488351232 ∧ ∀ x ∈ s.f5, x.size ≤ 140737488351232
theorem owns : Owns exprB stmtB szN := ⟨fun a e w hG hs hp => expr_any a e w hG hs hp, fun a s w hG hs hp => stmt_any a s w hG hs.1 hs.2 hp⟩
abbrev rightN (x : Nd) : Bool := x.right exprB stmtB
theorem size_any (x : Nd) (v : Value) (w : World) (h : x.size < 4611686018427387904) (hN : NdAt w v x) : Calls Tryd.prog 63 #[v] w fun e w' => e = .returned (.int .i64 x.size) ∧ Below w.heap.size w w' := size_in x.deep x v w (Nat.le_refl _) h hN
theorem deep_any (x : Nd) (v : Value) (w : World) (h : x.deep < 4611686018427387904) (hN : NdAt w v x) : Calls Tryd.prog 62 #[v] w fun e w' => e = .returned (.int .i64 x.deep) ∧ Below w.heap.size w w' := deep_in x.deep x v w (Nat.le_refl _) h hN
theorem right_any (x : Nd) (v : Value) (w : World) (hG : Keys w) (hP : AllN szN x) (hN : NdAt w v x) : Calls Tryd.prog 102 #[v] w fun e w' => e = .returned (.bool (rightN x)) ∧ Below w.heap.size w w' := right_in exprB stmtB szN owns x.deep x v w (Nat.le_refl _) hG hP hN
def NdsAt (w : World) (A : Option Addr) (l : List Nd) : Prop := l.length ≤ 9223372036854775807 ∧ ∀ (i : Nat) (h : i < l.length), ∃ (ad : Addr) (p q : Option Addr), A = some ad ∧ w.cell? (ad.add (i * 2)) = some (.pointer p) ∧ w.cell? ⟨(ad.add (i * 2)).block, (ad.add (i * 2)).off + 1, none⟩ = some (.pointer q) ∧ NdAt w (.agg #[.pointer p, .pointer q]) l[i]
def tooLong : Nat → List Nd → Bool
  | _, [] => false
  | c, x :: l => decide (4000 < c + x.size) || decide (60 < x.deep) || tooLong (c + x.size) l
def checkN (l : List Nd) : Int := if tooLong 0 l then 3 else if l.all rightN then 0 else 2
def Long (l : List Nd) (i : Nat) : Prop := tooLong 0 l = tooLong (sizes (l.take i)) (l.drop i)
theorem long_step {l : List Nd} {i : Nat} (h : Long l i) (hi : i < l.length) : tooLong 0 l = (decide (4000 < sizes (l.take i) + (l[i]).size) || decide (60 < (l[i]).deep) || tooLong (sizes (l.take (i + 1))) (l.drop (i + 1))) := by
  rw [h, List.drop_eq_getElem_cons hi, tooLong]
  have : sizes (l.take (i + 1)) = sizes (l.take i) + (l[i]).size := by rw [List.take_succ_eq_append_getElem hi, sizes_append]; rfl
  rw [this]
theorem sizes_take (l : List Nd) (i : Nat) : sizes (l.take i) ≤ sizes l := by
  have := sizes_append (l.take i) (l.drop i)
  rw [List.take_append_drop] at this
  omega
theorem sizes_succ {l : List Nd} {i : Nat} (hi : i < l.length) : sizes (l.take (i + 1)) = sizes (l.take i) + (l[i]).size := by rw [List.take_succ_eq_append_getElem hi, sizes_append]; rfl
set_option maxRecDepth 100000 in
set_option maxHeartbeats 4000000 in
theorem check_any (A : Option Addr) (c : Nat) (l : List Nd) (w : World) (hG : Keys w) (hA : NdsAt w A l) (hs : sizes l < 4611686018427387904) (hd : ∀ x ∈ l, x.deep < 4611686018427387904) (hP : ∀ x ∈ l, AllN szN x) :
    Calls Tryd.prog 59 #[.slice A l.length c] w fun e w' => e = .returned (.int .i64 (checkN l)) ∧ Below w.heap.size w w' := by
  have hlen := hA.1
  go_enter Tryd.func59, Tryd.ntmps59
  go_wp2
  go_loopw [3, 10] (fun t3 t10 wr => ∃ i : Nat, i ≤ l.length ∧ t10 = .int .i64 i ∧ t3 = .int .i64 (sizes (l.take i)) ∧ Long l i ∧ Below w.heap.size w wr) (fun _ t10 _ => l.length - (intOf t10).toNat)
  case atStart => exact ⟨0, Nat.zero_le _, rfl, rfl, rfl, Below.refl _ _⟩
  case round =>
    obtain ⟨i, hi, rfl, rfl, hL, hB⟩ := hrel
    by_cases hlt : i < l.length
    · obtain ⟨ad, p, q, rfl, hp, hq, hN⟩ := hA.2 i hlt
      have h1 := long_step hL hlt
      have hsx : (l[i]).size < 4611686018427387904 := by have := sizes_succ hlt; have := sizes_take l (i + 1); omega
      have hdx := hd _ (List.getElem_mem hlt)
      have hle := sizes_succ hlt
      have hle2 := sizes_take l (i + 1)
      have p1 := pw_cell_below hB hp
      have q1 := pw_cell_below hB hq
      have HN := Lx.Hd.mk (hN.below hB)
      have HB := Lx.Hd.mk hB
      have HL1 := Lx.Hd.mk h1
      have HLe := Lx.Hd.mk hle
      clear hN hB hL h1 hp hq hle
      have hb1 : sizes (l.take i) + (l[i]).size < 4611686018427387904 := by have := HLe.out; omega
      go_upto_region 5 with (fail)
      refine name_world fun W1 hW1 => ?_
      have hn2 := cells_new2 wr (.pointer p) (.pointer q) 85
      rw [← hW1] at hn2
      have HW1 : Lx.Hd (Below wr.heap.size wr W1) := Lx.Hd.mk (by rw [hW1]; exact (Below.refl _ wr).alloc (Nat.le_refl _) _)
      have HB1 : Lx.Hd (Below w.heap.size w W1) := Lx.Hd.mk (HB.out.trans (HW1.out.mono HB.out.size))
      have hN1 := HN.out.below HW1.out
      have hs1 : wr.heap.size < W1.heap.size := by rw [hW1]; simp
      have hn1 := hn2.1
      have hn2 := hn2.2
      clear hW1
      go_upto_region 6 with (go_at_call 63; refine (size_any _ _ _ hsx hN1).mono ?_; rintro e W2 ⟨rfl, hb2⟩; have m1 := pw_cell_below hb2 hn1; have m2 := pw_cell_below hb2 hn2; have HB2 : Lx.Hd (Below w.heap.size w W2) := Lx.Hd.mk (HB1.out.trans (hb2.mono HB1.out.size)); have hN2 := Lx.Hd.mk (hN1.below hb2); clear hb2)
      clear hN1 hn1 hn2
      have HC : Lx.Hd ((sizes (l.take i) : Int) + ((l[i]).size : Int) = ((sizes (l.take (i + 1)) : Nat) : Int)) := Lx.Hd.mk (by have := HLe.out; omega)
      by_cases h4 : 4000 < sizes (l.take i) + (l[i]).size
      · have T : checkN l = 3 := by
          have := HL1.out
          rw [decide_eq_true h4, Bool.true_or, Bool.true_or] at this
          unfold checkN; rw [this, if_pos rfl]
        have h4' : decide ((sizes (l.take i) : Int) + ((l[i]).size : Int) > 4000) = true := decide_eq_true (by omega)
        go_wp2
        go_ret
        exact ⟨by rw [T]; rfl, HB2.out⟩
      · have h4' : decide ((sizes (l.take i) : Int) + ((l[i]).size : Int) > 4000) = false := decide_eq_false (by omega)
        by_cases h6 : 60 < (l[i]).deep
        · have T : checkN l = 3 := by
            have := HL1.out
            rw [decide_eq_true h6, Bool.or_true, Bool.true_or] at this
            unfold checkN; rw [this, if_pos rfl]
          have h6' : decide (((l[i]).deep : Int) > 60) = true := decide_eq_true (by omega)
          go_upto_region 7 with (go_at_call 62; refine (deep_any _ _ _ hdx hN2.out).mono ?_; rintro e W3 ⟨rfl, hb3⟩; have HB3 : Lx.Hd (Below w.heap.size w W3) := Lx.Hd.mk (HB2.out.trans (hb3.mono HB2.out.size)); clear hb3)
          go_wp2
          go_ret
          exact ⟨by rw [T]; rfl, HB3.out⟩
        · have h6' : decide (((l[i]).deep : Int) > 60) = false := decide_eq_false (by omega)
          have hL2 : Long l (i + 1) := by
            have := HL1.out
            rw [decide_eq_false h4, decide_eq_false h6, Bool.false_or, Bool.false_or] at this
            exact this
          go_wp2_with (go_at_call 62; refine (deep_any _ _ _ hdx hN2.out).mono ?_; rintro e W3 ⟨rfl, hb3⟩; have HB3 : Lx.Hd (Below w.heap.size w W3) := Lx.Hd.mk (HB2.out.trans (hb3.mono HB2.out.size)); clear hb3)
          exact ⟨⟨i + 1, hlt, by congr 1, by rw [HC.out], hL2, HB3.out⟩, by show l.length - ((i : Int) + 1).toNat < l.length - (i : Int).toNat; omega⟩
    · have hT : tooLong 0 l = false := by
        have hil : i = l.length := by omega
        unfold Long at hL
        rw [hL, hil, List.drop_length]; rfl
      clear hL
      have HB0 := Lx.Hd.mk hB
      clear hB
      go_wp2
      go_loopw [28] (fun t28 ws => ∃ j : Nat, j ≤ l.length ∧ t28 = .int .i64 j ∧ (l.take j).all rightN = true ∧ Below w.heap.size w ws) (fun t28 _ => l.length - (intOf t28).toNat)
      case atStart => exact ⟨0, Nat.zero_le _, rfl, rfl, HB0.out⟩
      case round =>
        clear HB0
        obtain ⟨j, hj, rfl, hall, hB⟩ := hrel
        by_cases hlj : j < l.length
        · obtain ⟨ad, p, q, rfl, hp, hq, hN⟩ := hA.2 j hlj
          have hPj := hP _ (List.getElem_mem hlj)
          have p1 := pw_cell_below hB hp
          have q1 := pw_cell_below hB hq
          have HN := Lx.Hd.mk (hN.below hB)
          have HB := Lx.Hd.mk hB
          have HA := Lx.Hd.mk hall
          clear hN hB hp hq hall
          go_upto_region 12 with (fail)
          refine name_world fun W1 hW1 => ?_
          have hn2 := cells_new2 wr (.pointer p) (.pointer q) 85
          rw [← hW1] at hn2
          have HW1 : Lx.Hd (Below wr.heap.size wr W1) := Lx.Hd.mk (by rw [hW1]; exact (Below.refl _ wr).alloc (Nat.le_refl _) _)
          have HB1 : Lx.Hd (Below w.heap.size w W1) := Lx.Hd.mk (HB.out.trans (HW1.out.mono HB.out.size))
          have HR := Lx.Hd.mk (right_any _ _ _ (Keys.below hG HB1.out) hPj (HN.out.below HW1.out))
          have hn1 := hn2.1
          have hn2 := hn2.2
          clear hW1
          cases hr : rightN l[j]
          all_goals
            go_wp2_with (go_at_call 102; refine HR.out.mono ?_; rw [hr]; rintro e W2 ⟨rfl, hb2⟩; have HB2 : Lx.Hd (Below w.heap.size w W2) := Lx.Hd.mk (HB1.out.trans (hb2.mono HB1.out.size)); clear hb2)
          · go_ret
            have T : checkN l = 2 := by
              have hf : l.all rightN = false := by rw [List.all_eq_false]; exact ⟨l[j], List.getElem_mem hlj, by rw [hr]; simp⟩
              unfold checkN; rw [hT, hf]; rfl
            exact ⟨by rw [T]; rfl, HB2.out⟩
          · refine ⟨⟨j + 1, hlj, by go_num, ?_, HB2.out⟩, by simp [intOf]; omega⟩
            rw [List.take_succ_eq_append_getElem hlj, List.all_append, HA.out, Bool.true_and, List.all_cons, hr]; rfl
        · have HB := Lx.Hd.mk hB
          clear hB
          go_wp2
          go_ret
          have T : checkN l = 0 := by
            have hf : l.all rightN = true := by rw [← List.take_length (l := l), ← (show j = l.length by omega)]; exact hall
            unfold checkN; rw [hT, hf]; rfl
          exact ⟨by rw [T]; rfl, HB.out⟩
end Go.Proofs.YtgkhpecllhiidaaDoor.A
namespace Go.Proofs.YtgkhpecllhiidaaDoor.A
open Go.RowKit Go.Shelf Go.Proofs.YtgkhpecllhiidaaDoor.As Go.Proofs.YtgkhpecllhiidaaDoorW.PrintWords Go.Proofs.YtgkhpecllhiidaaDoorW.PrintLast Go.Proofs.YtgkhpecllhiidaaDoorW.PrintMore
theorem check_one (x : Nd) (w W1 : World) (hB : Below w.heap.size w W1) (hG : Keys w) (p q : Option Addr) (hN : NdAt W1 (.agg #[.pointer p, .pointer q]) x) (hs : x.size < 4611686018427387904) (hd : x.deep < 4611686018427387904) (hP : AllN szN x) :
    Calls Tryd.prog 59 #[.slice (some ⟨W1.heap.size, 0, none⟩) 1 1] (W1.alloc (.cells #[.pointer p, .pointer q] 85)) fun r w' => r = .returned (.int .i64 (checkN [x])) ∧ Below w.heap.size w w' := by
  have hb1 : Below W1.heap.size W1 (W1.alloc (.cells #[.pointer p, .pointer q] 85)) := (Below.refl _ W1).alloc (Nat.le_refl _) _
  have hb2 := hB.trans (hb1.mono hB.size)
  have hn2 := cells_new2 W1 (.pointer p) (.pointer q) 85
  refine (check_any (some ⟨W1.heap.size, 0, none⟩) 1 [x] _ (Keys.below hG hb2) ⟨by simp, ?_⟩ ?_ ?_ ?_).mono ?_
  · intro i hi
    have h0 : i = 0 := by simp at hi; exact hi
    subst h0
    refine ⟨_, p, q, rfl, ?_, ?_, hN.below hb1⟩
    · rw [add_plain]; exact hn2.1
    · rw [add_plain]; exact hn2.2
  · show sizes [x] < _
    have : sizes [x] = x.size := by unfold sizes; simp
    omega
  · intro y hy; obtain rfl := List.mem_singleton.1 hy; exact hd
  · intro y hy; obtain rfl := List.mem_singleton.1 hy; exact hP
  · rintro r w' ⟨rfl, hb⟩
    exact ⟨rfl, hb2.trans (hb.mono hb2.size)⟩
set_option maxRecDepth 100000 in
set_option maxHeartbeats 4000000 in
theorem checkExpr_any (e : SE) (A : Option Addr) (c : Nat) (w : World) (hG : Keys w) (hC : kE.C w A e.f5.length e.f5) (hl : e.f5.length ≤ c) (hs : (Nd.ex e).size < 4611686018427387904) (hd : (Nd.ex e).deep < 4611686018427387904) (hP : AllN szN (.ex e)) :
    Calls Tryd.prog 16 #[.agg #[.int .i64 e.f0, .int .i64 e.f1, .int .i64 e.f2, .int .u32 e.f3, .string e.f4, .slice A e.f5.length c]] w fun r w' => r = .returned (.int .i64 (checkN [.ex e])) ∧ Below w.heap.size w w' := by
  have HG := Lx.Hd.mk hG
  have HC := Lx.Hd.mk hC
  clear hG hC
  go_enter Tryd.func16, Tryd.ntmps16
  go_upto_region 1 with (fail)
  refine name_world fun W1 hW1 => ?_
  have hh : W1.heap[w.heap.size]? = some (.cells #[.int .i64 e.f0, .int .i64 e.f1, .int .i64 e.f2, .int .u32 e.f3, .string e.f4, .slice A e.f5.length c] 25 (0, 0)) := by rw [hW1]; exact World.alloc_heap_new w _
  have hz : W1.heap.size = w.heap.size + 1 := by rw [hW1]; simp
  have HB1 : Lx.Hd (Below w.heap.size w W1) := Lx.Hd.mk (by rw [hW1]; exact (Below.refl _ w).alloc (Nat.le_refl _) _)
  clear hW1
  have hp : PtAt kE W1 ⟨w.heap.size, 0, none⟩ e := by
    refine ⟨_, k25_mk W1 e hl (Kd.C_below HC.out HB1.out), ?_⟩
    intro j u hj
    have hj5 : j < 6 := by have := (List.getElem?_eq_some_iff.1 hj).1; simpa using this
    rw [add_plain]
    have : j = 0 ∨ j = 1 ∨ j = 2 ∨ j = 3 ∨ j = 4 ∨ j = 5 := by omega
    rcases this with rfl | rfl | rfl | rfl | rfl | rfl <;> (obtain rfl := Option.some.inj hj; unfold World.cell?; rw [hh]; rfl)
  have HP := Lx.Hd.mk hp
  clear hp hh
  have H := Lx.Hd.mk (check_one (.ex e) w W1 HB1.out HG.out _ _ ⟨_, rfl, HP.out⟩ hs hd hP)
  rw [hz] at H
  go_wp2_with (go_at_call 59; refine H.out.mono ?_; rintro r W2 ⟨rfl, hb⟩; have HB2 := Lx.Hd.mk hb; clear hb)
  go_ret
  exact ⟨rfl, HB2.out⟩
set_option maxRecDepth 100000 in
set_option maxHeartbeats 4000000 in
theorem checkStmt_any (s : SS) (A5 A6 A7 A8 A9 : Option Addr) (c5 c6 c7 c8 c9 : Nat) (w : World) (hG : Keys w) (h5 : Kd.string.C w A5 s.f5.length s.f5) (h6 : kE.C w A6 s.f6.length s.f6) (h7 : kE.C w A7 s.f7.length s.f7) (h8 : kS.C w A8 s.f8.length s.f8) (h9 : kS.C w A9 s.f9.length s.f9)
    (l5 : s.f5.length ≤ c5) (l6 : s.f6.length ≤ c6) (l7 : s.f7.length ≤ c7) (l8 : s.f8.length ≤ c8) (l9 : s.f9.length ≤ c9) (hs : (Nd.st s).size < 4611686018427387904) (hd : (Nd.st s).deep < 4611686018427387904) (hP : AllN szN (.st s)) :
    Calls Tryd.prog 22 #[.agg #[.int .i64 s.f0, .int .i64 s.f1, .int .i64 s.f2, .int .i64 s.f3, .string s.f4, .slice A5 s.f5.length c5, .slice A6 s.f6.length c6, .slice A7 s.f7.length c7, .slice A8 s.f8.length c8, .slice A9 s.f9.length c9]] w fun r w' => r = .returned (.int .i64 (checkN [.st s])) ∧ Below w.heap.size w w' := by
  have HG := Lx.Hd.mk hG
  have HC := Lx.Hd.mk (And.intro h5 (And.intro h6 (And.intro h7 (And.intro h8 h9))))
  clear hG h5 h6 h7 h8 h9
  go_enter Tryd.func22, Tryd.ntmps22
  go_upto_region 1 with (fail)
  refine name_world fun W1 hW1 => ?_
  have hh : W1.heap[w.heap.size]? = some (.cells #[.int .i64 s.f0, .int .i64 s.f1, .int .i64 s.f2, .int .i64 s.f3, .string s.f4, .slice A5 s.f5.length c5, .slice A6 s.f6.length c6, .slice A7 s.f7.length c7, .slice A8 s.f8.length c8, .slice A9 s.f9.length c9] 38 (0, 0)) := by rw [hW1]; exact World.alloc_heap_new w _
  have hz : W1.heap.size = w.heap.size + 1 := by rw [hW1]; simp
  have HB1 : Lx.Hd (Below w.heap.size w W1) := Lx.Hd.mk (by rw [hW1]; exact (Below.refl _ w).alloc (Nat.le_refl _) _)
  clear hW1
  have hp : PtAt kS W1 ⟨w.heap.size, 0, none⟩ s := by
    obtain ⟨h5, h6, h7, h8, h9⟩ := HC.out
    refine ⟨_, k38_mk W1 s l5 (Kd.C_below h5 HB1.out) l6 (Kd.C_below h6 HB1.out) l7 (Kd.C_below h7 HB1.out) l8 (Kd.C_below h8 HB1.out) l9 (Kd.C_below h9 HB1.out), ?_⟩
    intro j u hj
    have hj5 : j < 10 := by have := (List.getElem?_eq_some_iff.1 hj).1; simpa using this
    rw [add_plain]
    have : j = 0 ∨ j = 1 ∨ j = 2 ∨ j = 3 ∨ j = 4 ∨ j = 5 ∨ j = 6 ∨ j = 7 ∨ j = 8 ∨ j = 9 := by omega
    rcases this with rfl | rfl | rfl | rfl | rfl | rfl | rfl | rfl | rfl | rfl <;> (obtain rfl := Option.some.inj hj; unfold World.cell?; rw [hh]; rfl)
  have HP := Lx.Hd.mk hp
  clear hp hh
  have H := Lx.Hd.mk (check_one (.st s) w W1 HB1.out HG.out _ _ ⟨_, rfl, HP.out⟩ hs hd hP)
  rw [hz] at H
  go_wp2_with (go_at_call 59; refine H.out.mono ?_; rintro r W2 ⟨rfl, hb⟩; have HB2 := Lx.Hd.mk hb; clear hb)
  go_ret
  exact ⟨rfl, HB2.out⟩
end Go.Proofs.YtgkhpecllhiidaaDoor.A
namespace Go.Proofs.YtgkhpecllhiidaaDoor.A
open Go.RowKit Go.Shelf Go.Proofs.YtgkhpecllhiidaaDoor.As Go.Proofs.YtgkhpecllhiidaaDoorW.PrintWords Go.Proofs.YtgkhpecllhiidaaDoorW.PrintLast Go.Proofs.YtgkhpecllhiidaaDoorW.PrintMore
set_option maxRecDepth 100000 in
set_option maxHeartbeats 4000000 in
theorem all_1 (p : Option Addr) (B base n : Nat) (v : Value) (xs : List Value) (w W : World) (hx : Boxed W B 87 v) (hB : B < base) (HO : W.ownsRow base 85 2 v n xs) (hb : base ≤ W.heap.size) (hn : (n + 1) * 16 ≤ 140737488355328) (hw : Below w.heap.size w W) (hwB : w.heap.size ≤ B) :
    Calls Tryd.prog 104 #[.pointer p, .pointer (some ⟨B, 0, none⟩)] W fun e W' => e = .returned (.bool true) ∧ Below w.heap.size w W' ∧ base ≤ W'.heap.size ∧ ∃ v', Boxed W' B 87 v' ∧ W'.ownsRow base 85 2 v' (n + 1) (xs ++ [.pointer none, .pointer p]) := by
  have HOO := Lx.Hd.mk HO
  have HW := Lx.Hd.mk hw
  clear HO hw
  have HI : Lx.Hd ((Tryd.prog.info? 85).map (fun i => (i.zero, i.size, i.bytes)) = some (some (.agg #[.pointer none, .pointer none]), 2, 16)) := Lx.Hd.mk (by kernel_rfl)
  have HW0 : Lx.Hd (Below base W W) := Lx.Hd.mk (Below.refl _ _)
  have HX : Lx.Hd (∀ w1, W.grownBy w1 v.ownBlock → Boxed w1 B 87 v) := Lx.Hd.mk (fun w1 hg => hx.kept hg (hx.not_row (by decide) HOO.out))
  have hc := hx.cell
  clear hx
  go_enter Tryd.func104, Tryd.ntmps104
  go_upto_region 1 with (fail)
  go_wp2_with ((with_reducible refine gate_builtin (b := .append) (xs := #[.tmp 4, .tmp 7]) rfl ?_); at_builtin; refine print_append_cells (w0 := W) (W := W) base rfl (.tmp 4) (.tmp 7) 87 85 (.agg #[.pointer none, .pointer none]) 2 16 rfl Tryd.underlying87 HI.out rfl (by decide) (by decide) v n xs [.pointer none, .pointer p] rfl rfl rfl ?a1 HOO.out ?a2 hb hn ?_; (case a1 => intro u hu; simp at hu; rcases hu with rfl | rfl <;> rfl); (case a2 => exact HW0.out); rintro v1 w1 ho hb1 hg hat; have B1 := HX.out w1 hg; have c1 := B1.cell; have f1 := B1.frozen; have BX := Lx.Hd.mk B1; clear B1; obtain ⟨A', c', rfl⟩ := own_slice ho; have HO1 := Lx.Hd.mk ho; have HB1 := Lx.Hd.mk hb1; clear ho hb1 hg hat)
  go_ret
  refine ⟨rfl, (HW.out.trans (HB1.out.mono (by omega))).setCell hwB _, by have := HB1.out.size; simp; omega, _, BX.out.set _, own_setCell HO1.out (fun h => absurd (own_base HO1.out B h.symm) (by omega)) _⟩
theorem each_all (A : Option Addr) (len cap B : Nat) (J : Nat → World → Prop) (hA : 0 < len → ∃ ad, A = some ad) (hlen : len ≤ 9223372036854775807)
    (hf : ∀ (i : Nat) (ad : Addr) (W : World), i < len → A = some ad → J i W → Calls Tryd.prog 104 #[.pointer (some (ad.add (i * 10))), .pointer (some ⟨B, 0, none⟩)] W (fun e W' => e = .returned (.bool true) ∧ J (i + 1) W'))
    (W : World) (h0 : J 0 W) :
    Calls Tryd.prog 103 #[.slice A len cap, .func (.func 104) #[] #[.pointer (some ⟨B, 0, none⟩)]] W (fun e W' => e = .returned (.bool true) ∧ J len W') := by
  go_enter Tryd.func103, Tryd.ntmps103
  go_wp2
  go_loopw [8] (fun t8 wr => ∃ i : Nat, i ≤ len ∧ t8 = .int .i64 i ∧ J i wr) (fun t8 _ => len - (intOf t8).toNat)
  case atStart => exact ⟨0, Nat.zero_le _, rfl, h0⟩
  case round =>
    obtain ⟨i, hi, rfl, hJ⟩ := hrel
    by_cases hlt : i < len
    · obtain ⟨ad, rfl⟩ := hA (by omega)
      have hc := hf i ad wr hlt rfl hJ
      go_wp2_with (go_at_call 104; refine hc.mono ?_; rintro e W1 ⟨rfl, hr⟩)
      exact ⟨⟨i + 1, by omega, by go_num, hr⟩, by simp [intOf]; omega⟩
    · go_wp2
      go_ret
      obtain rfl : i = len := by omega
      exact ⟨rfl, hJ⟩
def stCells (l : List Addr) : List Value := l.flatMap fun a => [.pointer none, .pointer (some a)]
theorem stCells_snoc (l : List Addr) (a : Addr) : stCells (l ++ [a]) = stCells l ++ [.pointer none, .pointer (some a)] := by unfold stCells; rw [List.flatMap_append]; simp
def RowAt (w : World) (B base : Nat) (l : List Addr) (W : World) : Prop := Below w.heap.size w W ∧ base ≤ W.heap.size ∧ ∃ v, Boxed W B 87 v ∧ W.ownsRow base 85 2 v l.length (stCells l)
def places (ad : Addr) (n : Nat) : List Addr := (List.range n).map fun i => ad.add (i * 10)
theorem places_succ (ad : Addr) (n : Nat) : places ad (n + 1) = places ad n ++ [ad.add (n * 10)] := by unfold places; rw [List.range_succ, List.map_append]; rfl
def placesOf (A : Option Addr) (n : Nat) : List Addr := match A with | none => [] | some ad => places ad n
theorem all_row (A : Option Addr) (len cap B base : Nat) (l : List Addr) (w W : World) (hA : 0 < len → ∃ ad, A = some ad) (hB : B < base) (hwB : w.heap.size ≤ B) (hn : (l.length + len) * 16 ≤ 140737488355328) (h : RowAt w B base l W) :
    Calls Tryd.prog 103 #[.slice A len cap, .func (.func 104) #[] #[.pointer (some ⟨B, 0, none⟩)]] W (fun e W' => e = .returned (.bool true) ∧ RowAt w B base (l ++ placesOf A len) W') := by
  cases A with
  | none =>
    have h0 : len = 0 := by
      rcases Nat.eq_zero_or_pos len with h | h
      · exact h
      · obtain ⟨_, h⟩ := hA h; cases h
    subst h0
    refine (each_all none 0 cap B (fun _ W' => RowAt w B base l W') hA (by omega) (fun i ad W' hi => absurd hi (Nat.not_lt_zero i)) W h).mono ?_
    rintro e W' ⟨rfl, h⟩
    exact ⟨rfl, by rw [show placesOf none 0 = [] from rfl, List.append_nil]; exact h⟩
  | some ad =>
    refine each_all (some ad) len cap B (fun i W' => RowAt w B base (l ++ places ad i) W') hA (by omega) ?_ W (by rw [show places ad 0 = [] from rfl, List.append_nil]; exact h)
    intro i ad' W' hi he ⟨h1, h2, v, h3, h4⟩
    obtain rfl := Option.some.inj he
    have hlen : (l ++ places ad i).length = l.length + i := by unfold places; simp
    refine (all_1 (some (ad.add (i * 10))) B base _ v _ w W' h3 hB h4 h2 (by rw [hlen]; omega) h1 hwB).mono ?_
    rintro e W2 ⟨rfl, k1, k2, v', k3, k4⟩
    refine ⟨rfl, k1, k2, v', k3, ?_⟩
    rw [places_succ, ← List.append_assoc, stCells_snoc, List.length_append]
    exact k4
end Go.Proofs.YtgkhpecllhiidaaDoor.A
namespace Go.Proofs.YtgkhpecllhiidaaDoor.A
open Go.RowKit Go.Shelf Go.Proofs.YtgkhpecllhiidaaDoor.As Go.Proofs.YtgkhpecllhiidaaDoorW.PrintWords Go.Proofs.YtgkhpecllhiidaaDoorW.PrintLast Go.Proofs.YtgkhpecllhiidaaDoorW.PrintMore
abbrev SD := S49
abbrev kD := k49
def bodies (l : List SD) : List SS := l.flatMap (·.f5)
def AtAll (w : World) (ls : List Addr) (ss : List SS) : Prop := ls.length = ss.length ∧ ∀ (i : Nat) (h : i < ls.length) (h' : i < ss.length), PtAt kS w ls[i] ss[i]
theorem AtAll.append {w : World} {ls ms : List Addr} {ss ts : List SS} (h : AtAll w ls ss) (k : AtAll w ms ts) : AtAll w (ls ++ ms) (ss ++ ts) := by
  refine ⟨by rw [List.length_append, List.length_append, h.1, k.1], fun i hi hi' => ?_⟩
  by_cases hlt : i < ls.length
  · rw [List.getElem_append_left hlt, List.getElem_append_left (by rw [← h.1]; exact hlt)]
    exact h.2 i hlt _
  · have he := h.1
    have h1 : i - ls.length < ms.length := by rw [List.length_append] at hi; omega
    rw [List.getElem_append_right (by omega), List.getElem_append_right (by omega)]
    have := k.2 (i - ls.length) h1 (by rw [← k.1]; exact h1)
    simp only [he] at this ⊢
    exact this
theorem AtAll.places {w : World} {A : Option Addr} {l : List SS} (h : kS.C w A l.length l) : AtAll w (placesOf A l.length) l := by
  cases A with
  | none =>
    have : l = [] := by
      cases l with
      | nil => rfl
      | cons x l => obtain ⟨ad, c, e, _⟩ := Kd.C_get h x 0 (by omega) (by simp); cases e
    subst this
    exact ⟨rfl, fun i hi => absurd hi (Nat.not_lt_zero i)⟩
  | some ad =>
    refine ⟨by show (Go.Proofs.YtgkhpecllhiidaaDoor.A.places ad l.length).length = _; unfold Go.Proofs.YtgkhpecllhiidaaDoor.A.places; simp, fun i hi hi' => ?_⟩
    have e : (placesOf (some ad) l.length)[i] = ad.add (i * kS.sz) := by simp only [placesOf, Go.Proofs.YtgkhpecllhiidaaDoor.A.places, List.getElem_map, List.getElem_range]; rfl
    rw [e]
    exact PtAt.of_C h i hi'
theorem AtAll.below {w W : World} {ls : List Addr} {ss : List SS} (h : AtAll w ls ss) (hb : Below w.heap.size w W) : AtAll W ls ss := ⟨h.1, fun i hi hi' => (h.2 i hi hi').below hb⟩
theorem bodies_succ {l : List SD} {i : Nat} (hi : i < l.length) : bodies (l.take (i + 1)) = bodies (l.take i) ++ (l[i]).f5 := by
  unfold bodies; rw [List.take_succ_eq_append_getElem hi, List.flatMap_append]; simp
theorem bodies_take (l : List SD) (i : Nat) : (bodies (l.take i)).length ≤ (bodies l).length := by
  have h : bodies l = bodies (l.take i) ++ bodies (l.drop i) := by unfold bodies; rw [← List.flatMap_append, List.take_append_drop]
  rw [h, List.length_append]; omega
theorem stCells_get : ∀ (ls : List Addr) (i : Nat) (h : i < ls.length), (stCells ls)[i * 2]? = some (.pointer none) ∧ (stCells ls)[i * 2 + 1]? = some (.pointer (some ls[i]))
  | a :: ls, 0, _ => ⟨rfl, rfl⟩
  | a :: ls, i + 1, h => by
    have e : stCells (a :: ls) = .pointer none :: .pointer (some a) :: stCells ls := rfl
    have := stCells_get ls i (by simp at h; omega)
    rw [e, show (i + 1) * 2 = i * 2 + 1 + 1 by omega]
    exact this
theorem row_nds {W : World} {base : Nat} {A : Option Addr} {c : Nat} {ls : List Addr} {ss : List SS} (h : W.ownsRow base 85 2 (.slice A ls.length c) ls.length (stCells ls)) (hA : AtAll W ls ss) (hn : ls.length ≤ 9223372036854775807) : NdsAt W A (ss.map .st) := by
  refine ⟨by rw [List.length_map, ← hA.1]; exact hn, fun i hi => ?_⟩
  have hi' : i < ss.length := by simpa using hi
  have hil : i < ls.length := by rw [hA.1]; exact hi'
  obtain ⟨e1, e2⟩ := stCells_get ls i hil
  rcases h.2 with ⟨_, h0⟩ | ⟨g, cap, cur, hv, hb, hg, h1, h2, h3, h4⟩
  · omega
  · injection hv with ha _ _
    subst ha
    rw [← h4] at e1 e2
    have k1 : cur[i * 2]? = some (.pointer none) := by rw [List.getElem?_take_of_lt (by omega)] at e1; simpa using e1
    have k2 : cur[i * 2 + 1]? = some (.pointer (some ls[i])) := by rw [List.getElem?_take_of_lt (by omega)] at e2; simpa using e2
    refine ⟨_, none, some ls[i], rfl, ?_, ?_, ?_⟩
    · rw [add_plain]; unfold World.cell?; rw [hg]; exact k1
    · rw [add_plain]; unfold World.cell?; rw [hg]; exact k2
    · rw [List.getElem_map]; exact ⟨_, rfl, hA.2 i hil hi'⟩
theorem results_slice {fn : Func} {p : Tmp} (h : fn.results = #[.cell p 87]) (tmps : Array Value) (w : World) (g : Nat) (v : Value) (hp : tmps.getD p undef = .pointer (some ⟨g, 0, none⟩)) (hc : w.cell? ⟨g, 0, none⟩ = some v) : (results fn tmps).run Tryd.prog w = .ok v w := by
  have hp' : tmps[p]?.getD undef = .pointer (some ⟨g, 0, none⟩) := by simpa using hp
  have hu := Tryd.underlying87
  simp [results, h, hp', asAddr, go_sem, hc, hu]
set_option maxRecDepth 100000 in
set_option maxHeartbeats 4000000 in
theorem all_any (f0 : Int) (v1 v2 : Value) (h1 : v1.oneCell' = true) (h2 : v2.oneCell' = true) (A : Option Addr) (c : Nat) (l : List SD) (w : World) (hC : kD.C w A l.length l) (hl : l.length ≤ 9223372036854775807) (hn : (bodies l).length * 16 ≤ 140737488355328) :
    Calls Tryd.prog 61 #[.agg #[.int .i64 f0, v1, v2, .slice A l.length c]] w fun r w' => ∃ A' c', r = .returned (.slice A' (bodies l).length c') ∧ Below w.heap.size w w' ∧ NdsAt w' A' ((bodies l).map .st) := by
  have HC := Lx.Hd.mk hC
  clear hC
  go_enter Tryd.func61, Tryd.ntmps61
  go_upto_region 1 with (fail)
  refine name_world fun W1 hW1 => ?_
  generalize hW0 : w.alloc (.cells #[.int .i64 f0, v1, v2, .slice A l.length c] 46) = W0 at hW1
  have hz0 : W0.heap.size = w.heap.size + 1 := by rw [← hW0]; simp
  have HB0 : Lx.Hd (Below w.heap.size w W0) := Lx.Hd.mk (by rw [← hW0]; exact (Below.refl _ w).alloc (Nat.le_refl _) _)
  have hbk : W0.heap[w.heap.size]? = some (.cells #[.int .i64 f0, v1, v2, .slice A l.length c] 46 (0, 0)) := by rw [← hW0]; exact World.alloc_heap_new w _
  have c3 : W0.cell? ⟨w.heap.size, 3, none⟩ = some (.slice A l.length c) := by unfold World.cell?; rw [hbk]; rfl
  have hR : RowAt W0 (w.heap.size + 1) (w.heap.size + 2) [] W1 := by
    rw [← hz0, hW1]
    refine ⟨(Below.refl _ W0).alloc (Nat.le_refl _) _, by simp; omega, _, Boxed.new W0 _ _, own_nil _ _ _ _⟩
  have c31 := pw_cell_below hR.1 c3
  have HR := Lx.Hd.mk hR
  clear hW0 hW1 hbk hR
  go_wp2
  go_loopw [7] (fun t7 wr => ∃ (i : Nat) (ls : List Addr), i ≤ l.length ∧ t7 = .int .i64 i ∧ RowAt W0 (w.heap.size + 1) (w.heap.size + 2) ls wr ∧ AtAll w ls (bodies (l.take i))) (fun t7 _ => l.length - (intOf t7).toNat)
  case atStart => exact ⟨0, [], Nat.zero_le _, rfl, HR.out, rfl, fun i hi => absurd hi (Nat.not_lt_zero i)⟩
  case round =>
    clear c31 HR
    obtain ⟨i, ls, hi, rfl, hR, hA⟩ := hrel
    by_cases hlt : i < l.length
    · obtain ⟨ad, A2, c2, A5, c5, rfl, _, _, _, _, _, q5, _, _, _, l5, g5⟩ := at_T49 HC.out i (by omega) (by omega)
      have hx : rd_T49 l i = l[i] := by unfold rd_T49; rw [Int.toNat_natCast, List.getD_eq_getElem?_getD, List.getElem?_eq_getElem hlt]; rfl
      rw [Int.toNat_natCast] at q5
      rw [hx] at q5 l5 g5
      have HBw : Lx.Hd (Below w.heap.size w wr) := Lx.Hd.mk (HB0.out.trans (hR.1.mono (by omega)))
      have c3r := pw_cell_below hR.1 c3
      have q5r := pw_cell_below HBw.out q5
      have hb := bodies_succ hlt
      have hle := bodies_take l (i + 1)
      have hlen : ls.length = (bodies (l.take i)).length := hA.1
      have hnn : (ls.length + (l[i]).f5.length) * 16 ≤ 140737488355328 := by rw [hb, List.length_append] at hle; omega
      have hA5 : 0 < (l[i]).f5.length → ∃ ad, A5 = some ad := by
        intro h0
        obtain ⟨ad', _, e, _⟩ := Kd.C_get g5 (l[i]).f5[0] 0 (by omega) (by omega)
        exact ⟨ad', e⟩
      have HA : Lx.Hd (AtAll w (ls ++ placesOf A5 (l[i]).f5.length) (bodies (l.take (i + 1)))) := Lx.Hd.mk (by rw [hb]; exact hA.append (AtAll.places g5))
      have HCall := Lx.Hd.mk (all_row A5 (l[i]).f5.length c5 (w.heap.size + 1) (w.heap.size + 2) ls W0 wr hA5 (by omega) (by omega) hnn hR)
      clear hb hle hlen hnn hA hR q5 g5 hx hA5
      go_wp2_with (go_at_call 103; refine HCall.out.mono ?_; rintro e W2 ⟨rfl, hr⟩; have HR2 := Lx.Hd.mk hr; clear hr)
      exact ⟨⟨i + 1, _, hlt, by go_num, HR2.out, HA.out⟩, by simp [intOf]; omega⟩
    · have hil : i = l.length := by omega
      rw [hil, List.take_length] at hA
      obtain ⟨v, hx, ho⟩ := hR.2.2
      have HBw : Lx.Hd (Below w.heap.size w wr) := Lx.Hd.mk (HB0.out.trans (hR.1.mono (by omega)))
      have HB' := Lx.Hd.mk hR.1
      obtain ⟨A', c', rfl⟩ := own_slice ho
      have x1 := hx.cell
      have x2 := hx.frozen
      have HX := Lx.Hd.mk hx
      have HO := Lx.Hd.mk ho
      have HA := Lx.Hd.mk hA
      clear hA hR hx ho
      go_wp2
      have hlen : ls.length = (bodies l).length := HA.out.1
      refine bodyPost_ret (results_slice rfl _ _ (w.heap.size + 1) (.slice A' ls.length c') rfl (HX.out.set _).cell) rfl ⟨A', c', by rw [hlen], HBw.out.setCell (by show _ ≤ w.heap.size + 1; omega) _, ?_⟩
      have HBs := HBw.out.setCell (p := ⟨w.heap.size + 1, 0, none⟩) (by show _ ≤ w.heap.size + 1; omega) (.slice A' ls.length c')
      exact row_nds (own_setCell HO.out (fun h => absurd (own_base HO.out (w.heap.size + 1) h.symm) (by omega)) _) (HA.out.below HBs) (by omega)
end Go.Proofs.YtgkhpecllhiidaaDoor.A
namespace Go.Proofs.YtgkhpecllhiidaaDoor.A
open Go.RowKit Go.Shelf Go.Proofs.YtgkhpecllhiidaaDoor.As Go.Proofs.YtgkhpecllhiidaaDoorW.PrintWords Go.Proofs.YtgkhpecllhiidaaDoorW.PrintLast Go.Proofs.YtgkhpecllhiidaaDoorW.PrintMore
abbrev nodes (l : List SD) : List Nd := (bodies l).map .st
set_option maxRecDepth 100000 in
set_option maxHeartbeats 4000000 in
theorem size_prog (f0 : Int) (v1 v2 : Value) (h1 : v1.oneCell' = true) (h2 : v2.oneCell' = true) (A : Option Addr) (c : Nat) (ds : List SD) (w : World) (hC : kD.C w A ds.length ds) (hl : ds.length ≤ 9223372036854775807) (hn : (bodies ds).length * 16 ≤ 140737488355328) (hs : sizes (nodes ds) < 4611686018427387904) :
    Calls Tryd.prog 27 #[.agg #[.int .i64 f0, v1, v2, .slice A ds.length c]] w fun r w' => r = .returned (.int .i64 (sizes (nodes ds))) ∧ Below w.heap.size w w' := by
  have HC := Lx.Hd.mk hC
  clear hC
  go_enter Tryd.func27, Tryd.ntmps27
  go_upto_region 1 with (fail)
  refine name_world fun W1 hW1 => ?_
  have HB1 : Lx.Hd (Below w.heap.size w W1) := Lx.Hd.mk (by rw [hW1]; exact (Below.refl _ w).alloc (Nat.le_refl _) _)
  have hbk : W1.heap[w.heap.size]? = some (.cells #[.int .i64 f0, v1, v2, .slice A ds.length c] 46 (0, 0)) := by rw [hW1]; exact World.alloc_heap_new w _
  have d0 : W1.cell? ⟨w.heap.size, 0, none⟩ = some (.int .i64 f0) := by unfold World.cell?; rw [hbk]; rfl
  have d1 : W1.cell? ⟨w.heap.size, 1, none⟩ = some v1 := by unfold World.cell?; rw [hbk]; rfl
  have d2 : W1.cell? ⟨w.heap.size, 2, none⟩ = some v2 := by unfold World.cell?; rw [hbk]; rfl
  have d3 : W1.cell? ⟨w.heap.size, 3, none⟩ = some (.slice A ds.length c) := by unfold World.cell?; rw [hbk]; rfl
  have HAll := Lx.Hd.mk (all_any f0 v1 v2 h1 h2 A c ds W1 (Kd.C_below HC.out HB1.out) hl hn)
  clear hW1 hbk
  have hln : (nodes ds).length = (bodies ds).length := List.length_map _
  generalize hnd : nodes ds = l at hs hln ⊢
  have HAll2 : Lx.Hd (Calls Tryd.prog 61 #[.agg #[.int .i64 f0, v1, v2, .slice A ds.length c]] W1 fun r w' => ∃ A' c', r = .returned (.slice A' l.length c') ∧ Below W1.heap.size W1 w' ∧ NdsAt w' A' l) := Lx.Hd.mk (by rw [hln, ← hnd]; exact HAll.out)
  have HND := Lx.Hd.mk hnd
  clear HAll hln hnd
  go_wp2_with (go_at_call 61; refine HAll2.out.mono ?_; rintro r W2 ⟨A', c', rfl, hb, hN⟩; have hlen := hN.1; have HN := Lx.Hd.mk hN; have HB2 : Lx.Hd (Below w.heap.size w W2) := Lx.Hd.mk (HB1.out.trans (hb.mono HB1.out.size)); clear hb hN)
  go_loopw [3, 9] (fun t3 t9 wr => ∃ i : Nat, i ≤ l.length ∧ t9 = .int .i64 i ∧ t3 = .int .i64 (sizes (l.take i)) ∧ Below w.heap.size w wr ∧ Below W2.heap.size W2 wr) (fun _ t9 _ => l.length - (intOf t9).toNat)
  case atStart => exact ⟨0, Nat.zero_le _, rfl, rfl, HB2.out, Below.refl _ _⟩
  case round =>
    obtain ⟨i, hi, rfl, rfl, hB, hC⟩ := hrel
    by_cases hlt : i < l.length
    · obtain ⟨ad, p, q, rfl, hp, hq, hN⟩ := HN.out.2 i hlt
      have hle := sizes_succ hlt
      have hle2 := sizes_take l (i + 1)
      have hsx : (l[i]).size < 4611686018427387904 := by omega
      have p1 := pw_cell_below hC hp
      have q1 := pw_cell_below hC hq
      have HN' := Lx.Hd.mk (hN.below hC)
      have HB := Lx.Hd.mk hB
      have HC' := Lx.Hd.mk hC
      have hb1 : sizes (l.take i) + (l[i]).size < 4611686018427387904 := by omega
      have HLe := Lx.Hd.mk hle
      clear hN hB hC hp hq hle hle2
      go_upto_region 5 with (fail)
      refine name_world fun W3 hW3 => ?_
      have hn2 := cells_new2 wr (.pointer p) (.pointer q) 85
      rw [← hW3] at hn2
      have HW3 : Lx.Hd (Below wr.heap.size wr W3) := Lx.Hd.mk (by rw [hW3]; exact (Below.refl _ wr).alloc (Nat.le_refl _) _)
      have HB3 : Lx.Hd (Below w.heap.size w W3) := Lx.Hd.mk (HB.out.trans (HW3.out.mono HB.out.size))
      have HC3 : Lx.Hd (Below W2.heap.size W2 W3) := Lx.Hd.mk (HC'.out.trans (HW3.out.mono HC'.out.size))
      have HS := Lx.Hd.mk (size_any _ _ W3 hsx (HN'.out.below HW3.out))
      have hn1 := hn2.1
      have hn2 := hn2.2
      clear hW3
      go_wp2_with (go_at_call 63; refine HS.out.mono ?_; rintro e W4 ⟨rfl, hb2⟩; have HB4 : Lx.Hd (Below w.heap.size w W4) := Lx.Hd.mk (HB3.out.trans (hb2.mono HB3.out.size)); have HC4 : Lx.Hd (Below W2.heap.size W2 W4) := Lx.Hd.mk (HC3.out.trans (hb2.mono HC3.out.size)); clear hb2)
      exact ⟨⟨i + 1, hlt, by go_num, by rw [HLe.out]; go_num, HB4.out, HC4.out⟩, by simp [intOf]; omega⟩
    · have HB := Lx.Hd.mk hB
      clear hB hC
      have hil : i = l.length := by omega
      go_wp2
      go_ret
      exact ⟨by rw [HND.out, hil, List.take_length]; rfl, HB.out⟩
end Go.Proofs.YtgkhpecllhiidaaDoor.A
namespace Go.Proofs.YtgkhpecllhiidaaDoor.A
open Go.RowKit Go.Shelf Go.Proofs.YtgkhpecllhiidaaDoor.As Go.Proofs.YtgkhpecllhiidaaDoorW.PrintWords Go.Proofs.YtgkhpecllhiidaaDoorW.PrintLast Go.Proofs.YtgkhpecllhiidaaDoorW.PrintMore
theorem deeps_succ {l : List Nd} {i : Nat} (hi : i < l.length) : deeps (l.take (i + 1)) = max (deeps (l.take i)) (l[i]).deep := by
  rw [List.take_succ_eq_append_getElem hi, deeps_append, deeps_cons]; unfold deeps; simp
theorem deeps_take (l : List Nd) (i : Nat) : deeps (l.take i) ≤ deeps l := by
  have := deeps_append (l.take i) (l.drop i)
  rw [List.take_append_drop] at this
  omega
set_option maxRecDepth 100000 in
set_option maxHeartbeats 4000000 in
theorem deep_prog (f0 : Int) (v1 v2 : Value) (h1 : v1.oneCell' = true) (h2 : v2.oneCell' = true) (A : Option Addr) (c : Nat) (ds : List SD) (w : World) (hC : kD.C w A ds.length ds) (hl : ds.length ≤ 9223372036854775807) (hn : (bodies ds).length * 16 ≤ 140737488355328) (hs : deeps (nodes ds) < 4611686018427387904) :
    Calls Tryd.prog 26 #[.agg #[.int .i64 f0, v1, v2, .slice A ds.length c]] w fun r w' => r = .returned (.int .i64 (deeps (nodes ds))) ∧ Below w.heap.size w w' := by
  have HC := Lx.Hd.mk hC
  clear hC
  go_enter Tryd.func26, Tryd.ntmps26
  go_upto_region 1 with (fail)
  refine name_world fun W1 hW1 => ?_
  have HB1 : Lx.Hd (Below w.heap.size w W1) := Lx.Hd.mk (by rw [hW1]; exact (Below.refl _ w).alloc (Nat.le_refl _) _)
  have hbk : W1.heap[w.heap.size]? = some (.cells #[.int .i64 f0, v1, v2, .slice A ds.length c] 46 (0, 0)) := by rw [hW1]; exact World.alloc_heap_new w _
  have d0 : W1.cell? ⟨w.heap.size, 0, none⟩ = some (.int .i64 f0) := by unfold World.cell?; rw [hbk]; rfl
  have d1 : W1.cell? ⟨w.heap.size, 1, none⟩ = some v1 := by unfold World.cell?; rw [hbk]; rfl
  have d2 : W1.cell? ⟨w.heap.size, 2, none⟩ = some v2 := by unfold World.cell?; rw [hbk]; rfl
  have d3 : W1.cell? ⟨w.heap.size, 3, none⟩ = some (.slice A ds.length c) := by unfold World.cell?; rw [hbk]; rfl
  have HAll := Lx.Hd.mk (all_any f0 v1 v2 h1 h2 A c ds W1 (Kd.C_below HC.out HB1.out) hl hn)
  clear hW1 hbk
  have hln : (nodes ds).length = (bodies ds).length := List.length_map _
  generalize hnd : nodes ds = l at hs hln ⊢
  have HAll2 : Lx.Hd (Calls Tryd.prog 61 #[.agg #[.int .i64 f0, v1, v2, .slice A ds.length c]] W1 fun r w' => ∃ A' c', r = .returned (.slice A' l.length c') ∧ Below W1.heap.size W1 w' ∧ NdsAt w' A' l) := Lx.Hd.mk (by rw [hln, ← hnd]; exact HAll.out)
  have HND := Lx.Hd.mk hnd
  clear HAll hln hnd
  go_wp2_with (go_at_call 61; refine HAll2.out.mono ?_; rintro r W2 ⟨A', c', rfl, hb, hN⟩; have hlen := hN.1; have HN := Lx.Hd.mk hN; have HB2 : Lx.Hd (Below w.heap.size w W2) := Lx.Hd.mk (HB1.out.trans (hb.mono HB1.out.size)); clear hb hN)
  go_loopw [3, 9] (fun t3 t9 wr => ∃ i : Nat, i ≤ l.length ∧ t9 = .int .i64 i ∧ t3 = .int .i64 (deeps (l.take i)) ∧ Below w.heap.size w wr ∧ Below W2.heap.size W2 wr) (fun _ t9 _ => l.length - (intOf t9).toNat)
  case atStart => exact ⟨0, Nat.zero_le _, rfl, rfl, HB2.out, Below.refl _ _⟩
  case round =>
    obtain ⟨i, hi, rfl, rfl, hB, hC⟩ := hrel
    by_cases hlt : i < l.length
    · obtain ⟨ad, p, q, rfl, hp, hq, hN⟩ := HN.out.2 i hlt
      have hle := deeps_succ hlt
      have hle2 := deeps_take l (i + 1)
      have hsx : (l[i]).deep < 4611686018427387904 := by omega
      have p1 := pw_cell_below hC hp
      have q1 := pw_cell_below hC hq
      have HN' := Lx.Hd.mk (hN.below hC)
      have HB := Lx.Hd.mk hB
      have HC' := Lx.Hd.mk hC
      have HLe := Lx.Hd.mk hle
      clear hN hB hC hp hq hle hle2
      go_upto_region 5 with (fail)
      refine name_world fun W3 hW3 => ?_
      have hn2 := cells_new2 wr (.pointer p) (.pointer q) 85
      rw [← hW3] at hn2
      have HW3 : Lx.Hd (Below wr.heap.size wr W3) := Lx.Hd.mk (by rw [hW3]; exact (Below.refl _ wr).alloc (Nat.le_refl _) _)
      have HB3 : Lx.Hd (Below w.heap.size w W3) := Lx.Hd.mk (HB.out.trans (HW3.out.mono HB.out.size))
      have HC3 : Lx.Hd (Below W2.heap.size W2 W3) := Lx.Hd.mk (HC'.out.trans (HW3.out.mono HC'.out.size))
      have HS := Lx.Hd.mk (deep_any _ _ W3 hsx (HN'.out.below HW3.out))
      have hn1 := hn2.1
      have hn2 := hn2.2
      clear hW3
      go_wp2_with (go_at_call 62; refine HS.out.mono ?_; rintro e W4 ⟨rfl, hb2⟩; have HB4 : Lx.Hd (Below w.heap.size w W4) := Lx.Hd.mk (HB3.out.trans (hb2.mono HB3.out.size)); have HC4 : Lx.Hd (Below W2.heap.size W2 W4) := Lx.Hd.mk (HC3.out.trans (hb2.mono HC3.out.size)); clear hb2)
      exact ⟨⟨i + 1, hlt, by go_num, by rw [HLe.out]; go_num, HB4.out, HC4.out⟩, by simp [intOf]; omega⟩
    · have HB := Lx.Hd.mk hB
      clear hB hC
      have hil : i = l.length := by omega
      go_wp2
      go_ret
      exact ⟨by rw [HND.out, hil, List.take_length]; rfl, HB.out⟩
end Go.Proofs.YtgkhpecllhiidaaDoor.A
namespace Go.Proofs.YtgkhpecllhiidaaDoor.A
open Go.RowKit Go.Shelf Go.Proofs.YtgkhpecllhiidaaDoor.As Go.Proofs.YtgkhpecllhiidaaDoorW.PrintWords Go.Proofs.YtgkhpecllhiidaaDoorW.PrintLast Go.Proofs.YtgkhpecllhiidaaDoorW.PrintMore
mutual
def okE : SE → Bool
  | ⟨_, _, _, _, s, l⟩ => decide (s.size ≤ 140737488351232) && okEs l
def okEs : List SE → Bool
  | [] => true
  | e :: l => okE e && okEs l
end
mutual
def okS : SS → Bool
  | ⟨_, _, _, _, s, n, i, x, t, e⟩ => decide (s.size ≤ 140737488351232) && n.all (fun y => decide (y.size ≤ 140737488351232)) && (okEs i && okEs x) && (okSs t && okSs e)
def okSs : List SS → Bool
  | [] => true
  | e :: l => okS e && okSs l
end
def okN : Nd → Bool
  | .ex e => okE e
  | .st s => okS s
mutual
theorem ok_allE : ∀ e : SE, okE e = true → AllN szN (.ex e)
  | ⟨a, b, c, d, s, l⟩, h => by
    rw [okE, Bool.and_eq_true] at h
    exact .mk _ (show s.size ≤ 140737488351232 from of_decide_eq_true h.1) (fun y hy => by obtain ⟨z, hz, rfl⟩ := List.mem_map.1 hy; exact ok_allEs l h.2 z hz)
theorem ok_allEs : ∀ l : List SE, okEs l = true → ∀ z ∈ l, AllN szN (.ex z)
  | [], _, z, hz => by cases hz
  | e :: l, h, z, hz => by
    rw [okEs, Bool.and_eq_true] at h
    rcases List.mem_cons.1 hz with hz | hz
    · rw [hz]; exact ok_allE e h.1
    · exact ok_allEs l h.2 z hz
end
mutual
theorem ok_allS : ∀ e : SS, okS e = true → AllN szN (.st e)
  | ⟨a, b, c, d, s, n, i, x, t, e⟩, h => by
    rw [okS, Bool.and_eq_true, Bool.and_eq_true, Bool.and_eq_true, Bool.and_eq_true, Bool.and_eq_true] at h
    obtain ⟨⟨⟨h1, h2⟩, h3, h4⟩, h5, h6⟩ := h
    refine .mk _ ⟨of_decide_eq_true h1, fun y hy => of_decide_eq_true (List.all_eq_true.1 h2 y hy)⟩ (fun y hy => ?_)
    unfold Nd.kids at hy
    simp only [List.mem_append, List.mem_map] at hy
    rcases hy with ((⟨z, hz, rfl⟩ | ⟨z, hz, rfl⟩) | ⟨z, hz, rfl⟩) | ⟨z, hz, rfl⟩
    · exact ok_allEs i h3 z hz
    · exact ok_allEs x h4 z hz
    · exact ok_allSs t h5 z hz
    · exact ok_allSs e h6 z hz
theorem ok_allSs : ∀ l : List SS, okSs l = true → ∀ z ∈ l, AllN szN (.st z)
  | [], _, z, hz => by cases hz
  | e :: l, h, z, hz => by
    rw [okSs, Bool.and_eq_true] at h
    rcases List.mem_cons.1 hz with hz | hz
    · rw [hz]; exact ok_allS e h.1
    · exact ok_allSs l h.2 z hz
end
theorem ok_all : ∀ x : Nd, okN x = true → AllN szN x
  | .ex e, h => ok_allE e h
  | .st s, h => ok_allS s h
mutual
theorem all_okE : ∀ e : SE, AllN szN (.ex e) → okE e = true
  | ⟨a, b, c, d, s, l⟩, h => by
    rw [okE, Bool.and_eq_true]
    exact ⟨decide_eq_true h.own, all_okEs l (fun z hz => h.kid (y := .ex z) (List.mem_map.2 ⟨z, hz, rfl⟩))⟩
theorem all_okEs : ∀ l : List SE, (∀ z ∈ l, AllN szN (.ex z)) → okEs l = true
  | [], _ => rfl
  | e :: l, h => by
    rw [okEs, Bool.and_eq_true]
    exact ⟨all_okE e (h e (List.mem_cons_self ..)), all_okEs l (fun z hz => h z (List.mem_cons_of_mem _ hz))⟩
end
mutual
theorem all_okS : ∀ e : SS, AllN szN (.st e) → okS e = true
  | ⟨a, b, c, d, s, n, i, x, t, e⟩, h => by
    rw [okS, Bool.and_eq_true, Bool.and_eq_true, Bool.and_eq_true, Bool.and_eq_true, Bool.and_eq_true]
    have k : ∀ y, y ∈ (Nd.st ⟨a, b, c, d, s, n, i, x, t, e⟩).kids → AllN szN y := fun y hy => h.kid hy
    unfold Nd.kids at k
    simp only [List.mem_append, List.mem_map] at k
    refine ⟨⟨⟨decide_eq_true h.own.1, List.all_eq_true.2 fun y hy => decide_eq_true (h.own.2 y hy)⟩, all_okEs i (fun z hz => ?_), all_okEs x (fun z hz => ?_)⟩, all_okSs t (fun z hz => ?_), all_okSs e (fun z hz => ?_)⟩
    · exact k _ (.inl (.inl (.inl ⟨z, hz, rfl⟩)))
    · exact k _ (.inl (.inl (.inr ⟨z, hz, rfl⟩)))
    · exact k _ (.inl (.inr ⟨z, hz, rfl⟩))
    · exact k _ (.inr ⟨z, hz, rfl⟩)
theorem all_okSs : ∀ l : List SS, (∀ z ∈ l, AllN szN (.st z)) → okSs l = true
  | [], _ => rfl
  | e :: l, h => by
    rw [okSs, Bool.and_eq_true]
    exact ⟨all_okS e (h e (List.mem_cons_self ..)), all_okSs l (fun z hz => h z (List.mem_cons_of_mem _ hz))⟩
end
theorem all_ok : ∀ x : Nd, AllN szN x → okN x = true
  | .ex e, h => all_okE e h
  | .st s, h => all_okS s h
def fitB (x : Nd) : Bool := decide (x.size < 4611686018427387904) && decide (x.deep < 4611686018427387904) && okN x
theorem fit_parts {x : Nd} (h : fitB x = true) : x.size < 4611686018427387904 ∧ x.deep < 4611686018427387904 ∧ AllN szN x := by
  unfold fitB at h
  rw [Bool.and_eq_true, Bool.and_eq_true] at h
  exact ⟨of_decide_eq_true h.1.1, of_decide_eq_true h.1.2, ok_all x h.2⟩
theorem fit_of {x : Nd} (h1 : x.size < 4611686018427387904) (h2 : x.deep < 4611686018427387904) (h3 : AllN szN x) : fitB x = true := by
  unfold fitB
  rw [decide_eq_true h1, decide_eq_true h2, all_ok x h3]; rfl
def ast_CheckExpr.f (a0 a1 a2 a3 : Int) (a4 : ByteArray) (l : List SE) : Option Int := if fitB (.ex ⟨a0, a1, a2, a3, a4, l⟩) = true then some (checkN [.ex ⟨a0, a1, a2, a3, a4, l⟩]) else none
theorem ast_CheckExpr.calls (a0 a1 a2 a3 : Int) (a4 : ByteArray) (A : Option Addr) (c : Nat) (l : List SE) (r : Int) (w : World) (hG : Keys w) (hC : Kd.C k25 w A l.length l) (hl : l.length ≤ c) (h : ast_CheckExpr.f a0 a1 a2 a3 a4 l = some r) :
    Calls Tryd.prog 16 #[.agg #[.int .i64 a0, .int .i64 a1, .int .i64 a2, .int .u32 a3, .string a4, .slice A l.length c]] w fun e w' => e = .returned (.int .i64 r) ∧ Below w.heap.size w w' := by
  unfold ast_CheckExpr.f at h
  by_cases hf : fitB (.ex ⟨a0, a1, a2, a3, a4, l⟩) = true
  · rw [if_pos hf] at h
    obtain rfl := Option.some.inj h
    exact checkExpr_any ⟨a0, a1, a2, a3, a4, l⟩ A c w hG hC hl (fit_parts hf).1 (fit_parts hf).2.1 (fit_parts hf).2.2
  · rw [if_neg hf] at h; cases h
def ast_CheckStmt.f (a0 a1 a2 a3 : Int) (a4 : ByteArray) (l5 : List ByteArray) (l6 l7 : List SE) (l8 l9 : List SS) : Option Int := if fitB (.st ⟨a0, a1, a2, a3, a4, l5, l6, l7, l8, l9⟩) = true then some (checkN [.st ⟨a0, a1, a2, a3, a4, l5, l6, l7, l8, l9⟩]) else none
theorem ast_CheckStmt.calls (a0 a1 a2 a3 : Int) (a4 : ByteArray) (A5 : Option Addr) (c5 : Nat) (l5 : List ByteArray) (A6 : Option Addr) (c6 : Nat) (l6 : List SE) (A7 : Option Addr) (c7 : Nat) (l7 : List SE) (A8 : Option Addr) (c8 : Nat) (l8 : List SS) (A9 : Option Addr) (c9 : Nat) (l9 : List SS) (r : Int) (w : World) (hG : Keys w)
    (hC5 : Kd.C Kd.string w A5 l5.length l5) (hl5 : l5.length ≤ c5) (hC6 : Kd.C k25 w A6 l6.length l6) (hl6 : l6.length ≤ c6) (hC7 : Kd.C k25 w A7 l7.length l7) (hl7 : l7.length ≤ c7) (hC8 : Kd.C k38 w A8 l8.length l8) (hl8 : l8.length ≤ c8) (hC9 : Kd.C k38 w A9 l9.length l9) (hl9 : l9.length ≤ c9)
    (h : ast_CheckStmt.f a0 a1 a2 a3 a4 l5 l6 l7 l8 l9 = some r) :
    Calls Tryd.prog 22 #[.agg #[.int .i64 a0, .int .i64 a1, .int .i64 a2, .int .i64 a3, .string a4, .slice A5 l5.length c5, .slice A6 l6.length c6, .slice A7 l7.length c7, .slice A8 l8.length c8, .slice A9 l9.length c9]] w fun e w' => e = .returned (.int .i64 r) ∧ Below w.heap.size w w' := by
  unfold ast_CheckStmt.f at h
  by_cases hf : fitB (.st ⟨a0, a1, a2, a3, a4, l5, l6, l7, l8, l9⟩) = true
  · rw [if_pos hf] at h
    obtain rfl := Option.some.inj h
    exact checkStmt_any ⟨a0, a1, a2, a3, a4, l5, l6, l7, l8, l9⟩ A5 A6 A7 A8 A9 c5 c6 c7 c8 c9 w hG hC5 hC6 hC7 hC8 hC9 hl5 hl6 hl7 hl8 hl9 (fit_parts hf).1 (fit_parts hf).2.1 (fit_parts hf).2.2
  · rw [if_neg hf] at h; cases h
end Go.Proofs.YtgkhpecllhiidaaDoor.A
namespace Go.Proofs.YtgkhpecllhiidaaDoor.A
open Go.RowKit Go.Shelf Go.Proofs.YtgkhpecllhiidaaDoor.As Go.Proofs.YtgkhpecllhiidaaDoorW.PrintWords Go.Proofs.YtgkhpecllhiidaaDoorW.PrintLast Go.Proofs.YtgkhpecllhiidaaDoorW.PrintMore
section
variable {H : Type} {enc : TypeId × Value → H} {P : Program} {W : World} {sp : Nat → Bool} {held : Bool}
theorem weights_field {t : TypeId} {fs : Array Field} (ht : P.underlying t = some (.struct fs)) {parts : List (DataW H)} (h : ∀ n ∈ (DataW.agg parts).weights P t, n ≤ reachBytes) {i : Nat} {f : Field} {d : DataW H} (hf : fs[i]? = some f) (hd : parts[i]? = some d) : ∀ n ∈ d.weights P f.type, n ≤ reachBytes := by
  intro n hn
  refine h n ?_
  simp only [DataW.weights, ht]
  exact DataW.weights_mem_each (j := i) (by rw [List.getElem?_map, Array.getElem?_toList, hf]; rfl) hd n hn
theorem weights_mem_all {e : TypeId} {d : DataW H} : ∀ {ds : List (DataW H)}, d ∈ ds → ∀ n ∈ d.weights P e, n ∈ DataW.weightsAll P e ds
  | [], h, _, _ => by cases h
  | d0 :: ds, h, n, hn => by
    simp only [DataW.weightsAll, List.mem_append]
    rcases List.mem_cons.1 h with rfl | h
    · exact .inl hn
    · exact .inr (weights_mem_all h n hn)
theorem weights_elem {t e : TypeId} (ht : P.underlying t = some (.slice e)) {elems rest : List (DataW H)} (h : ∀ n ∈ (DataW.slice elems rest).weights P t, n ≤ reachBytes) {d : DataW H} (hd : d ∈ elems) : ∀ n ∈ d.weights P e, n ≤ reachBytes := by
  intro n hn
  refine h n ?_
  simp only [DataW.weights, ht, List.mem_cons, List.mem_append]
  exact .inr (.inl (weights_mem_all hd n hn))
theorem row_open {α : Type} [Inhabited α] (k : Kd α) {t e : TypeId} (ht : P.underlying t = some (.slice e)) (hsz : P.cellsOf e = k.sz) (Q : α → Prop) {fuel : Nat} {cs : List Value} {x : DataW H × List MemPlace} (h : DataW.trod enc P W 0 sp held fuel t cs = some x)
    (hw : ∀ n ∈ x.1.weights P t, n ≤ reachBytes)
    (hH : ∀ n cs' y, n < fuel → DataW.trod enc P W 0 sp held n e cs' = some y → (∀ m ∈ y.1.weights P e, m ≤ reachBytes) → ∃ a, k.K W a cs' ∧ Q a) :
    ∃ (A : Option Addr) (c : Nat) (l : List α), cs = [.slice A l.length c] ∧ l.length ≤ c ∧ k.C W A l.length l ∧ (∀ a ∈ l, Q a) ∧ l.length * P.bytesOf e ≤ reachBytes := by
  rcases DataW.trod_slice ht h with ⟨rfl, rfl⟩ | ⟨a, len, cap, elems, rest, n, rfl, rfl, rfl, hb, hl, hm, hlen, hel, _, _⟩
  · exact ⟨none, 0, [], rfl, Nat.le_refl _, Kd.C_nil k W, (fun _ h => by cases h), by simp⟩
  · have key : ∀ i, i < len → ∃ z : α × List Value, W.cells? 0 (a.add (i * k.sz)) k.sz = some z.2 ∧ k.K W z.1 z.2 ∧ Q z.1 := by
      intro i hi
      have h0 := hel i hi
      rw [List.getElem?_eq_getElem (by omega)] at h0
      obtain ⟨cs', h1, h2⟩ := Option.bind_eq_some_iff.1 h0
      obtain ⟨z, hk, hq⟩ := hH n cs' _ (Nat.lt_succ_self _) h2 (weights_elem ht hw (List.mem_map.2 ⟨_, List.getElem_mem _, rfl⟩))
      rw [hsz] at h1
      exact ⟨(z, cs'), h1, hk, hq⟩
    obtain ⟨f, hf⟩ := Go.Deep.choose_lt key
    refine ⟨some a, cap, (List.range len).map fun i => (f i).1, by simp, by simpa using hl, ⟨rfl, ?_, fun _ => ⟨a, rfl, fun j p hj => ?_⟩⟩, ?_, ?_⟩
    · have : maxLen ≤ 9223372036854775807 := by decide
      rw [List.length_map, List.length_range]; omega
    · have hjl : j < len := by
        have := (List.getElem?_eq_some_iff.1 hj).1
        simpa using this
      rw [List.getElem?_map, List.getElem?_range hjl] at hj
      obtain rfl := Option.some.inj hj
      obtain ⟨h1, h2, _⟩ := hf j hjl
      obtain ⟨_, hl2, hc⟩ := World.cells?_some h1
      refine ⟨(f j).2, hl2, h2, fun i u hi => ?_⟩
      have hi' : i < k.sz := by have := (List.getElem?_eq_some_iff.1 hi).1; omega
      have := hc i hi'
      rw [hi, Go.Deep.add_add] at this
      exact this
    · intro z hz
      obtain ⟨i, hi, rfl⟩ := List.mem_map.1 hz
      exact (hf i (List.mem_range.1 hi)).2.2
    · have := hw (((elems.map (·.1)).length + (rest.map (·.1)).length) * P.bytesOf e) (by simp only [DataW.weights, ht]; exact List.mem_cons_self ..)
      rw [List.length_map, List.length_map, hlen] at this
      rw [List.length_map, List.length_range]
      exact Nat.le_trans (Nat.mul_le_mul_right _ (Nat.le_add_right _ _)) this
theorem int_open {t : TypeId} {k : IntKind} (ht : P.underlying t = some (.int k)) {fuel : Nat} {cs : List Value} {x : DataW H × List MemPlace} (h : DataW.trod enc P W 0 sp held fuel t cs = some x) : ∃ n, cs = [.int k n] := by
  obtain ⟨n, h1, _, _⟩ := DataW.trod_int ht h
  exact ⟨n, h1⟩
theorem text_open {t : TypeId} (ht : P.underlying t = some .string) {fuel : Nat} {cs : List Value} {x : DataW H × List MemPlace} (h : DataW.trod enc P W 0 sp held fuel t cs = some x) (hw : ∀ n ∈ x.1.weights P t, n ≤ reachBytes) : ∃ s : ByteArray, cs = [.string s] ∧ s.size ≤ 140737488351232 := by
  obtain ⟨s, h1, rfl, _⟩ := DataW.trod_string ht h
  refine ⟨s, h1, ?_⟩
  have := hw s.data.toList.length (by simp [DataW.weights])
  rw [Array.length_toList] at this
  exact this
theorem text_K {W : World} (s : ByteArray) : Kd.string.K W s [.string s] := by first | rfl | exact ⟨rfl⟩ | (show _ = _; rfl)
end
section
variable {H : Type} {enc : TypeId × Value → H} {W : World} {sp : Nat → Bool} {held : Bool}
def lenN : Nd → Prop
  | .ex _ => True
  | .st s => s.f5.length ≤ 140737488351232
mutual
theorem lenN_E : ∀ e : SE, AllN lenN (.ex e)
  | ⟨a, b, c, d, s, l⟩ => .mk _ trivial (fun y hy => by obtain ⟨z, hz, rfl⟩ := List.mem_map.1 hy; exact lenN_Es l z hz)
theorem lenN_Es : ∀ l : List SE, ∀ z ∈ l, AllN lenN (.ex z)
  | [], z, hz => by cases hz
  | e :: l, z, hz => by
    rcases List.mem_cons.1 hz with hz | hz
    · rw [hz]; exact lenN_E e
    · exact lenN_Es l z hz
end
theorem cB : Tryd.prog.bytesOf 9 = 16 := by kernel_rfl
theorem cE : Tryd.prog.cellsOf 25 = 6 := by kernel_rfl
theorem cS : Tryd.prog.cellsOf 38 = 10 := by kernel_rfl
theorem cI : Tryd.prog.cellsOf 3 = 1 := by kernel_rfl
theorem cT : Tryd.prog.cellsOf 9 = 1 := by kernel_rfl
theorem cU : Tryd.prog.cellsOf 22 = 1 := by kernel_rfl
theorem cLE : Tryd.prog.cellsOf 23 = 1 := by kernel_rfl
theorem cLS : Tryd.prog.cellsOf 36 = 1 := by kernel_rfl
theorem cLT : Tryd.prog.cellsOf 30 = 1 := by kernel_rfl
instance : Inhabited SE := ⟨⟨0, 0, 0, 0, ByteArray.empty, []⟩⟩
instance : Inhabited SS := ⟨⟨0, 0, 0, 0, ByteArray.empty, [], [], [], [], []⟩⟩
set_option maxRecDepth 100000 in
theorem ex_open : ∀ (fuel : Nat) (cs : List Value) (x : DataW H × List MemPlace), DataW.trod enc Tryd.prog W 0 sp held fuel 25 cs = some x → (∀ n ∈ x.1.weights Tryd.prog 25, n ≤ reachBytes) →
    ∃ (e : SE) (A : Option Addr) (c : Nat), cs = [.int .i64 e.f0, .int .i64 e.f1, .int .i64 e.f2, .int .u32 e.f3, .string e.f4, .slice A e.f5.length c] ∧ e.f5.length ≤ c ∧ kE.C W A e.f5.length e.f5 ∧ AllN szN (.ex e) := by
  intro fuel
  induction fuel using Nat.strongRecOn with
  | ind fuel ih =>
    intro cs x h hw
    obtain ⟨xs, m, rfl, rfl, hlen, hxl, hf⟩ := DataW.trod_struct Tryd.underlying25 h
    rw [cE] at hlen
    match cs, hlen with
    | [c0, c1, c2, c3, c4, c5], _ =>
      match xs, hxl with
      | [x0, x1, x2, x3, x4, x5], _ =>
        have f0 : DataW.trod enc Tryd.prog W 0 sp held m 3 (List.take (Tryd.prog.cellsOf 3) (List.drop 0 [c0, c1, c2, c3, c4, c5])) = some x0 := hf 0 _ rfl
        rw [cI] at f0
        have f1 : DataW.trod enc Tryd.prog W 0 sp held m 3 (List.take (Tryd.prog.cellsOf 3) (List.drop 1 [c0, c1, c2, c3, c4, c5])) = some x1 := hf 1 _ rfl
        rw [cI] at f1
        have f2 : DataW.trod enc Tryd.prog W 0 sp held m 3 (List.take (Tryd.prog.cellsOf 3) (List.drop 2 [c0, c1, c2, c3, c4, c5])) = some x2 := hf 2 _ rfl
        rw [cI] at f2
        have f3 : DataW.trod enc Tryd.prog W 0 sp held m 22 (List.take (Tryd.prog.cellsOf 22) (List.drop 3 [c0, c1, c2, c3, c4, c5])) = some x3 := hf 3 _ rfl
        rw [cU] at f3
        have f4 : DataW.trod enc Tryd.prog W 0 sp held m 9 (List.take (Tryd.prog.cellsOf 9) (List.drop 4 [c0, c1, c2, c3, c4, c5])) = some x4 := hf 4 _ rfl
        rw [cT] at f4
        have f5 : DataW.trod enc Tryd.prog W 0 sp held m 23 (List.take (Tryd.prog.cellsOf 23) (List.drop 5 [c0, c1, c2, c3, c4, c5])) = some x5 := hf 5 _ rfl
        rw [cLE] at f5
        have w4 := weights_field Tryd.underlying25 hw (i := 4) (d := x4.1) rfl rfl
        have w5 := weights_field Tryd.underlying25 hw (i := 5) (d := x5.1) rfl rfl
        obtain ⟨a0, e0⟩ := int_open Tryd.underlying3 f0
        obtain ⟨a1, e1⟩ := int_open Tryd.underlying3 f1
        obtain ⟨a2, e2⟩ := int_open Tryd.underlying3 f2
        obtain ⟨a3, e3⟩ := int_open Tryd.underlying22 f3
        obtain ⟨a4, e4, s4⟩ := text_open Tryd.underlying9 f4 w4
        obtain ⟨A, c, l, e5, hl, hC, hQ, _⟩ := row_open kE Tryd.underlying23 cE (fun e => AllN szN (.ex e)) f5 w5 (fun n cs' y hn hy hv => by
          obtain ⟨e, A, c, rfl, hl, hC, hQ⟩ := ih n (by omega) cs' y hy hv
          exact ⟨e, k25_mk W e hl hC, hQ⟩)
        obtain rfl := (List.cons.inj e0).1
        obtain rfl := (List.cons.inj e1).1
        obtain rfl := (List.cons.inj e2).1
        obtain rfl := (List.cons.inj e3).1
        obtain rfl := (List.cons.inj e4).1
        obtain rfl := (List.cons.inj e5).1
        exact ⟨⟨a0, a1, a2, a3, a4, l⟩, A, c, rfl, hl, hC, .mk _ s4 (fun y hy => by
          obtain ⟨z, hz, rfl⟩ := List.mem_map.1 hy
          exact hQ z hz)⟩
set_option maxRecDepth 100000 in
theorem st_open : ∀ (fuel : Nat) (cs : List Value) (x : DataW H × List MemPlace), DataW.trod enc Tryd.prog W 0 sp held fuel 38 cs = some x → (∀ n ∈ x.1.weights Tryd.prog 38, n ≤ reachBytes) →
    ∃ (s : SS) (A5 A6 A7 A8 A9 : Option Addr) (c5 c6 c7 c8 c9 : Nat), cs = [.int .i64 s.f0, .int .i64 s.f1, .int .i64 s.f2, .int .i64 s.f3, .string s.f4, .slice A5 s.f5.length c5, .slice A6 s.f6.length c6, .slice A7 s.f7.length c7, .slice A8 s.f8.length c8, .slice A9 s.f9.length c9] ∧
      (Kd.string.C W A5 s.f5.length s.f5 ∧ kE.C W A6 s.f6.length s.f6 ∧ kE.C W A7 s.f7.length s.f7 ∧ kS.C W A8 s.f8.length s.f8 ∧ kS.C W A9 s.f9.length s.f9) ∧
      (s.f5.length ≤ c5 ∧ s.f6.length ≤ c6 ∧ s.f7.length ≤ c7 ∧ s.f8.length ≤ c8 ∧ s.f9.length ≤ c9) ∧ AllN szN (.st s) ∧ AllN lenN (.st s) := by
  intro fuel
  induction fuel using Nat.strongRecOn with
  | ind fuel ih =>
    intro cs x h hw
    obtain ⟨xs, m, rfl, rfl, hlen, hxl, hf⟩ := DataW.trod_struct Tryd.underlying38 h
    rw [cS] at hlen
    match cs, hlen with
    | [c0, c1, c2, c3, c4, c5, c6, c7, c8, c9], _ =>
      match xs, hxl with
      | [x0, x1, x2, x3, x4, x5, x6, x7, x8, x9], _ =>
        have f0 : DataW.trod enc Tryd.prog W 0 sp held m 3 (List.take (Tryd.prog.cellsOf 3) (List.drop 0 [c0, c1, c2, c3, c4, c5, c6, c7, c8, c9])) = some x0 := hf 0 _ rfl
        rw [cI] at f0
        have f1 : DataW.trod enc Tryd.prog W 0 sp held m 3 (List.take (Tryd.prog.cellsOf 3) (List.drop 1 [c0, c1, c2, c3, c4, c5, c6, c7, c8, c9])) = some x1 := hf 1 _ rfl
        rw [cI] at f1
        have f2 : DataW.trod enc Tryd.prog W 0 sp held m 3 (List.take (Tryd.prog.cellsOf 3) (List.drop 2 [c0, c1, c2, c3, c4, c5, c6, c7, c8, c9])) = some x2 := hf 2 _ rfl
        rw [cI] at f2
        have f3 : DataW.trod enc Tryd.prog W 0 sp held m 3 (List.take (Tryd.prog.cellsOf 3) (List.drop 3 [c0, c1, c2, c3, c4, c5, c6, c7, c8, c9])) = some x3 := hf 3 _ rfl
        rw [cI] at f3
        have f4 : DataW.trod enc Tryd.prog W 0 sp held m 9 (List.take (Tryd.prog.cellsOf 9) (List.drop 4 [c0, c1, c2, c3, c4, c5, c6, c7, c8, c9])) = some x4 := hf 4 _ rfl
        rw [cT] at f4
        have f5 : DataW.trod enc Tryd.prog W 0 sp held m 30 (List.take (Tryd.prog.cellsOf 30) (List.drop 5 [c0, c1, c2, c3, c4, c5, c6, c7, c8, c9])) = some x5 := hf 5 _ rfl
        rw [cLT] at f5
        have f6 : DataW.trod enc Tryd.prog W 0 sp held m 23 (List.take (Tryd.prog.cellsOf 23) (List.drop 6 [c0, c1, c2, c3, c4, c5, c6, c7, c8, c9])) = some x6 := hf 6 _ rfl
        rw [cLE] at f6
        have f7 : DataW.trod enc Tryd.prog W 0 sp held m 23 (List.take (Tryd.prog.cellsOf 23) (List.drop 7 [c0, c1, c2, c3, c4, c5, c6, c7, c8, c9])) = some x7 := hf 7 _ rfl
        rw [cLE] at f7
        have f8 : DataW.trod enc Tryd.prog W 0 sp held m 36 (List.take (Tryd.prog.cellsOf 36) (List.drop 8 [c0, c1, c2, c3, c4, c5, c6, c7, c8, c9])) = some x8 := hf 8 _ rfl
        rw [cLS] at f8
        have f9 : DataW.trod enc Tryd.prog W 0 sp held m 36 (List.take (Tryd.prog.cellsOf 36) (List.drop 9 [c0, c1, c2, c3, c4, c5, c6, c7, c8, c9])) = some x9 := hf 9 _ rfl
        rw [cLS] at f9
        have w4 := weights_field Tryd.underlying38 hw (i := 4) (d := x4.1) rfl rfl
        have w5 := weights_field Tryd.underlying38 hw (i := 5) (d := x5.1) rfl rfl
        have w6 := weights_field Tryd.underlying38 hw (i := 6) (d := x6.1) rfl rfl
        have w7 := weights_field Tryd.underlying38 hw (i := 7) (d := x7.1) rfl rfl
        have w8 := weights_field Tryd.underlying38 hw (i := 8) (d := x8.1) rfl rfl
        have w9 := weights_field Tryd.underlying38 hw (i := 9) (d := x9.1) rfl rfl
        obtain ⟨a0, e0⟩ := int_open Tryd.underlying3 f0
        obtain ⟨a1, e1⟩ := int_open Tryd.underlying3 f1
        obtain ⟨a2, e2⟩ := int_open Tryd.underlying3 f2
        obtain ⟨a3, e3⟩ := int_open Tryd.underlying3 f3
        obtain ⟨a4, e4, s4⟩ := text_open Tryd.underlying9 f4 w4
        have hE : ∀ n cs' y, n < m → DataW.trod enc Tryd.prog W 0 sp held n 25 cs' = some y → (∀ q ∈ y.1.weights Tryd.prog 25, q ≤ reachBytes) → ∃ a, kE.K W a cs' ∧ AllN szN (.ex a) := fun n cs' y hn hy hv => by
          obtain ⟨e, A, c, rfl, hl, hC, hQ⟩ := ex_open n cs' y hy hv
          exact ⟨e, k25_mk W e hl hC, hQ⟩
        have hS : ∀ n cs' y, n < m → DataW.trod enc Tryd.prog W 0 sp held n 38 cs' = some y → (∀ q ∈ y.1.weights Tryd.prog 38, q ≤ reachBytes) → ∃ a, kS.K W a cs' ∧ (AllN szN (.st a) ∧ AllN lenN (.st a)) := fun n cs' y hn hy hv => by
          obtain ⟨s, A5, A6, A7, A8, A9, c5, c6, c7, c8, c9, rfl, ⟨h5, h6, h7, h8, h9⟩, ⟨l5, l6, l7, l8, l9⟩, hQ, hM⟩ := ih n (by omega) cs' y hy hv
          exact ⟨s, k38_mk W s l5 h5 l6 h6 l7 h7 l8 h8 l9 h9, hQ, hM⟩
        obtain ⟨A5, d5, l5, e5, hl5, hC5, hQ5, hw5⟩ := row_open Kd.string Tryd.underlying30 cT (fun s => s.size ≤ 140737488351232) f5 w5 (fun n cs' y hn hy hv => by
          obtain ⟨s, rfl, hs⟩ := text_open Tryd.underlying9 hy hv
          exact ⟨s, text_K s, hs⟩)
        obtain ⟨A6, d6, l6, e6, hl6, hC6, hQ6, hw6⟩ := row_open kE Tryd.underlying23 cE (fun e => AllN szN (.ex e)) f6 w6 hE
        obtain ⟨A7, d7, l7, e7, hl7, hC7, hQ7, hw7⟩ := row_open kE Tryd.underlying23 cE (fun e => AllN szN (.ex e)) f7 w7 hE
        obtain ⟨A8, d8, l8, e8, hl8, hC8, hQ8, hw8⟩ := row_open kS Tryd.underlying36 cS (fun e => AllN szN (.st e) ∧ AllN lenN (.st e)) f8 w8 hS
        obtain ⟨A9, d9, l9, e9, hl9, hC9, hQ9, hw9⟩ := row_open kS Tryd.underlying36 cS (fun e => AllN szN (.st e) ∧ AllN lenN (.st e)) f9 w9 hS
        obtain rfl := (List.cons.inj e0).1
        obtain rfl := (List.cons.inj e1).1
        obtain rfl := (List.cons.inj e2).1
        obtain rfl := (List.cons.inj e3).1
        obtain rfl := (List.cons.inj e4).1
        obtain rfl := (List.cons.inj e5).1
        obtain rfl := (List.cons.inj e6).1
        obtain rfl := (List.cons.inj e7).1
        obtain rfl := (List.cons.inj e8).1
        obtain rfl := (List.cons.inj e9).1
        exact ⟨⟨a0, a1, a2, a3, a4, l5, l6, l7, l8, l9⟩, A5, A6, A7, A8, A9, d5, d6, d7, d8, d9, rfl, ⟨hC5, hC6, hC7, hC8, hC9⟩, ⟨hl5, hl6, hl7, hl8, hl9⟩, .mk _ ⟨s4, hQ5⟩ (fun y hy => by
          unfold Nd.kids at hy
          simp only [List.mem_append, List.mem_map] at hy
          rcases hy with ((⟨z, hz, rfl⟩ | ⟨z, hz, rfl⟩) | ⟨z, hz, rfl⟩) | ⟨z, hz, rfl⟩
          · exact hQ6 z hz
          · exact hQ7 z hz
          · exact (hQ8 z hz).1
          · exact (hQ9 z hz).1), .mk _ (show l5.length ≤ 140737488351232 by rw [cB] at hw5; have : reachBytes = 140737488351232 := rfl; omega) (fun y hy => by
          unfold Nd.kids at hy
          simp only [List.mem_append, List.mem_map] at hy
          rcases hy with ((⟨z, hz, rfl⟩ | ⟨z, hz, rfl⟩) | ⟨z, hz, rfl⟩) | ⟨z, hz, rfl⟩
          · exact lenN_E z
          · exact lenN_E z
          · exact (hQ8 z hz).2
          · exact (hQ9 z hz).2)⟩
end
end Go.Proofs.YtgkhpecllhiidaaDoor.A
