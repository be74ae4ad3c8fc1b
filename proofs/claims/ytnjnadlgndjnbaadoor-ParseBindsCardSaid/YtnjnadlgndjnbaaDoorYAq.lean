/- Ast: what check answers (out of the text Ao, without Size and Deep). -/
import Derived.Test.YtnjnadlgndjnbaaDoorYAn
import Derived.Test.YtnjnadlgndjnbaaDoorYAk
import Derived.ChangeArms
import Derived.SizedLaws
import Derived.Deep.Slices
set_option linter.unusedVariables false
set_option linter.unusedSimpArgs false
section
namespace Go.Proofs.YtnjnadlgndjnbaaDoor.A
open Go.RowKit Go.Shelf Go.Proofs.YtnjnadlgndjnbaaDoor.As Go.Proofs.YtnjnadlgndjnbaaDoorW.PrintWords Go.Proofs.YtnjnadlgndjnbaaDoorW.PrintLast Go.Proofs.YtnjnadlgndjnbaaDoorW.PrintMore
def szN : Nd → Prop
  | .ex e => e.f4.size ≤ 140737488351232
  | .st s => s.f4.size ≤ 140737488351232 ∧ ∀ x ∈ s.f5, x.size ≤ 140737488351232
theorem owns : Owns exprB stmtB szN := ⟨fun a e w hG hs hp => expr_any a e w hG hs hp, fun a s w hG hs hp => stmt_any a s w hG hs.1 hs.2 hp⟩
abbrev rightN (x : Nd) : Bool := x.right exprB stmtB
theorem size_any (x : Nd) (v : Value) (w : World) (h : x.size < 4611686018427387904) (hN : NdAt w v x) : Calls Tryd.prog 56 #[v] w fun e w' => e = .returned (.int .i64 x.size) ∧ Below w.heap.size w w' := size_in x.deep x v w (Nat.le_refl _) h hN
theorem deep_any (x : Nd) (v : Value) (w : World) (h : x.deep < 4611686018427387904) (hN : NdAt w v x) : Calls Tryd.prog 57 #[v] w fun e w' => e = .returned (.int .i64 x.deep) ∧ Below w.heap.size w w' := deep_in x.deep x v w (Nat.le_refl _) h hN
theorem right_any (x : Nd) (v : Value) (w : World) (hG : Keys w) (hP : AllN szN x) (hN : NdAt w v x) : Calls Tryd.prog 58 #[v] w fun e w' => e = .returned (.bool (rightN x)) ∧ Below w.heap.size w w' := right_in exprB stmtB szN owns x.deep x v w (Nat.le_refl _) hG hP hN
def NdsAt (w : World) (A : Option Addr) (l : List Nd) : Prop := l.length ≤ 9223372036854775807 ∧ ∀ (i : Nat) (h : i < l.length), ∃ (ad : Addr) (p q : Option Addr), A = some ad ∧ w.cell? (ad.add (i * 2)) = some (.pointer p) ∧ w.cell? ⟨(ad.add (i * 2)).block, (ad.add (i * 2)).off + 1, none⟩ = some (.pointer q) ∧ NdAt w (.agg #[.pointer p, .pointer q]) l[i]
def tooLong : Nat → List Nd → Bool
  | _, [] => false
  | c, x :: l => decide (4000 < c + x.size) || decide (60 < x.deep) || tooLong (c + x.size) l
def checkN (l : List Nd) : Int := if tooLong 0 l then 3 else if l.all rightN then 0 else 2
def Long (l : List Nd) (i : Nat) : Prop := tooLong 0 l = tooLong (sizes (l.take i)) (l.drop i)
theorem long_step {l : List Nd} {i : Nat} (h : Long l i) (hi : i < l.length) : tooLong 0 l = (decide (4000 < sizes (l.take i) + (l[i]).size) || decide (60 < (l[i]).deep) || tooLong (sizes (l.take (i + 1))) (l.drop (i + 1))) := by
  rw [h, List.drop_eq_getElem_cons hi, tooLong]
  have : sizes (l.take (i + 1)) = sizes (l.take i) + (l[i]).size := by rw [List.take_succ_eq_append_getElem hi, sizes_append]; rfl
  rw [this]
theorem sizes_take (l : List Nd) (i : Nat) : sizes (l.take i) ≤ sizes l := by
  have := sizes_append (l.take i) (l.drop i)
  rw [List.take_append_drop] at this
  omega
theorem sizes_succ {l : List Nd} {i : Nat} (hi : i < l.length) : sizes (l.take (i + 1)) = sizes (l.take i) + (l[i]).size := by rw [List.take_succ_eq_append_getElem hi, sizes_append]; rfl
set_option maxRecDepth 100000 in
set_option maxHeartbeats 4000000 in
theorem check_any (A : Option Addr) (c : Nat) (l : List Nd) (w : World) (hG : Keys w) (hA : NdsAt w A l) (hs : sizes l < 4611686018427387904) (hd : ∀ x ∈ l, x.deep < 4611686018427387904) (hP : ∀ x ∈ l, AllN szN x) :
    Calls Tryd.prog 41 #[.slice A l.length c] w fun e w' => e = .returned (.int .i64 (checkN l)) ∧ Below w.heap.size w w' := by
  have hlen := hA.1
  go_enter Tryd.func41, Tryd.ntmps41
  go_wp2
  go_loopw [3, 10] (fun t3 t10 wr => ∃ i : Nat, i ≤ l.length ∧ t10 = .int .i64 i ∧ t3 = .int .i64 (sizes (l.take i)) ∧ Long l i ∧ Below w.heap.size w wr) (fun _ t10 _ => l.length - (intOf t10).toNat)
  case atStart => exact ⟨0, Nat.zero_le _, rfl, rfl, rfl, Below.refl _ _⟩
  case round =>
    obtain ⟨i, hi, rfl, rfl, hL, hB⟩ := hrel
    by_cases hlt : i < l.length
    · obtain ⟨ad, p, q, rfl, hp, hq, hN⟩ := hA.2 i hlt
      have h1 := long_step hL hlt
      have hsx : (l[i]).size < 4611686018427387904 := by have := sizes_succ hlt; have := sizes_take l (i + 1); omega
      have hdx := hd _ (List.getElem_mem hlt)
      have hle := sizes_succ hlt
      have hle2 := sizes_take l (i + 1)
      have p1 := pw_cell_below hB hp
      have q1 := pw_cell_below hB hq
      have HN := Lx.Hd.mk (hN.below hB)
      have HB := Lx.Hd.mk hB
      have HL1 := Lx.Hd.mk h1
      have HLe := Lx.Hd.mk hle
      clear hN hB hL h1 hp hq hle
      have hb1 : sizes (l.take i) + (l[i]).size < 4611686018427387904 := by have := HLe.out; omega
      go_upto_region 5 with (fail)
      refine name_world fun W1 hW1 => ?_
      have hn2 := cells_new2 wr (.pointer p) (.pointer q) 97
      rw [← hW1] at hn2
      have HW1 : Lx.Hd (Below wr.heap.size wr W1) := Lx.Hd.mk (by rw [hW1]; exact (Below.refl _ wr).alloc (Nat.le_refl _) _)
      have HB1 : Lx.Hd (Below w.heap.size w W1) := Lx.Hd.mk (HB.out.trans (HW1.out.mono HB.out.size))
      have hN1 := HN.out.below HW1.out
      have hs1 : wr.heap.size < W1.heap.size := by rw [hW1]; simp
      have hn1 := hn2.1
      have hn2 := hn2.2
      clear hW1
      go_upto_region 6 with (go_at_call 56; refine (size_any _ _ _ hsx hN1).mono ?_; rintro e W2 ⟨rfl, hb2⟩; have m1 := pw_cell_below hb2 hn1; have m2 := pw_cell_below hb2 hn2; have HB2 : Lx.Hd (Below w.heap.size w W2) := Lx.Hd.mk (HB1.out.trans (hb2.mono HB1.out.size)); have hN2 := Lx.Hd.mk (hN1.below hb2); clear hb2)
      clear hN1 hn1 hn2
      have HC : Lx.Hd ((sizes (l.take i) : Int) + ((l[i]).size : Int) = ((sizes (l.take (i + 1)) : Nat) : Int)) := Lx.Hd.mk (by have := HLe.out; omega)
      by_cases h4 : 4000 < sizes (l.take i) + (l[i]).size
      · have T : checkN l = 3 := by
          have := HL1.out
          rw [decide_eq_true h4, Bool.true_or, Bool.true_or] at this
          unfold checkN; rw [this, if_pos rfl]
        have h4' : decide ((sizes (l.take i) : Int) + ((l[i]).size : Int) > 4000) = true := decide_eq_true (by omega)
        go_wp2
        go_ret
        exact ⟨by rw [T]; rfl, HB2.out⟩
      · have h4' : decide ((sizes (l.take i) : Int) + ((l[i]).size : Int) > 4000) = false := decide_eq_false (by omega)
        by_cases h6 : 60 < (l[i]).deep
        · have T : checkN l = 3 := by
            have := HL1.out
            rw [decide_eq_true h6, Bool.or_true, Bool.true_or] at this
            unfold checkN; rw [this, if_pos rfl]
          have h6' : decide (((l[i]).deep : Int) > 60) = true := decide_eq_true (by omega)
          go_upto_region 7 with (go_at_call 57; refine (deep_any _ _ _ hdx hN2.out).mono ?_; rintro e W3 ⟨rfl, hb3⟩; have HB3 : Lx.Hd (Below w.heap.size w W3) := Lx.Hd.mk (HB2.out.trans (hb3.mono HB2.out.size)); clear hb3)
          go_wp2
          go_ret
          exact ⟨by rw [T]; rfl, HB3.out⟩
        · have h6' : decide (((l[i]).deep : Int) > 60) = false := decide_eq_false (by omega)
          have hL2 : Long l (i + 1) := by
            have := HL1.out
            rw [decide_eq_false h4, decide_eq_false h6, Bool.false_or, Bool.false_or] at this
            exact this
          go_wp2_with (go_at_call 57; refine (deep_any _ _ _ hdx hN2.out).mono ?_; rintro e W3 ⟨rfl, hb3⟩; have HB3 : Lx.Hd (Below w.heap.size w W3) := Lx.Hd.mk (HB2.out.trans (hb3.mono HB2.out.size)); clear hb3)
          exact ⟨⟨i + 1, hlt, by congr 1, by rw [HC.out], hL2, HB3.out⟩, by show l.length - ((i : Int) + 1).toNat < l.length - (i : Int).toNat; omega⟩
    · have hT : tooLong 0 l = false := by
        have hil : i = l.length := by omega
        unfold Long at hL
        rw [hL, hil, List.drop_length]; rfl
      clear hL
      have HB0 := Lx.Hd.mk hB
      clear hB
      go_wp2
      go_loopw [28] (fun t28 ws => ∃ j : Nat, j ≤ l.length ∧ t28 = .int .i64 j ∧ (l.take j).all rightN = true ∧ Below w.heap.size w ws) (fun t28 _ => l.length - (intOf t28).toNat)
      case atStart => exact ⟨0, Nat.zero_le _, rfl, rfl, HB0.out⟩
      case round =>
        clear HB0
        obtain ⟨j, hj, rfl, hall, hB⟩ := hrel
        by_cases hlj : j < l.length
        · obtain ⟨ad, p, q, rfl, hp, hq, hN⟩ := hA.2 j hlj
          have hPj := hP _ (List.getElem_mem hlj)
          have p1 := pw_cell_below hB hp
          have q1 := pw_cell_below hB hq
          have HN := Lx.Hd.mk (hN.below hB)
          have HB := Lx.Hd.mk hB
          have HA := Lx.Hd.mk hall
          clear hN hB hp hq hall
          go_upto_region 12 with (fail)
          refine name_world fun W1 hW1 => ?_
          have hn2 := cells_new2 wr (.pointer p) (.pointer q) 97
          rw [← hW1] at hn2
          have HW1 : Lx.Hd (Below wr.heap.size wr W1) := Lx.Hd.mk (by rw [hW1]; exact (Below.refl _ wr).alloc (Nat.le_refl _) _)
          have HB1 : Lx.Hd (Below w.heap.size w W1) := Lx.Hd.mk (HB.out.trans (HW1.out.mono HB.out.size))
          have HR := Lx.Hd.mk (right_any _ _ _ (Keys.below hG HB1.out) hPj (HN.out.below HW1.out))
          have hn1 := hn2.1
          have hn2 := hn2.2
          clear hW1
          cases hr : rightN l[j]
          all_goals
            go_wp2_with (go_at_call 58; refine HR.out.mono ?_; rw [hr]; rintro e W2 ⟨rfl, hb2⟩; have HB2 : Lx.Hd (Below w.heap.size w W2) := Lx.Hd.mk (HB1.out.trans (hb2.mono HB1.out.size)); clear hb2)
          · go_ret
            have T : checkN l = 2 := by
              have hf : l.all rightN = false := by rw [List.all_eq_false]; exact ⟨l[j], List.getElem_mem hlj, by rw [hr]; simp⟩
              unfold checkN; rw [hT, hf]; rfl
            exact ⟨by rw [T]; rfl, HB2.out⟩
          · refine ⟨⟨j + 1, hlj, by go_num, ?_, HB2.out⟩, by simp [intOf]; omega⟩
            rw [List.take_succ_eq_append_getElem hlj, List.all_append, HA.out, Bool.true_and, List.all_cons, hr]; rfl
        · have HB := Lx.Hd.mk hB
          clear hB
          go_wp2
          go_ret
          have T : checkN l = 0 := by
            have hf : l.all rightN = true := by rw [← List.take_length (l := l), ← (show j = l.length by omega)]; exact hall
            unfold checkN; rw [hT, hf]; rfl
          exact ⟨by rw [T]; rfl, HB.out⟩
end Go.Proofs.YtnjnadlgndjnbaaDoor.A
namespace Go.Proofs.YtnjnadlgndjnbaaDoor.A
open Go.RowKit Go.Shelf Go.Proofs.YtnjnadlgndjnbaaDoor.As Go.Proofs.YtnjnadlgndjnbaaDoorW.PrintWords Go.Proofs.YtnjnadlgndjnbaaDoorW.PrintLast Go.Proofs.YtnjnadlgndjnbaaDoorW.PrintMore
theorem check_one (x : Nd) (w W1 : World) (hB : Below w.heap.size w W1) (hG : Keys w) (p q : Option Addr) (hN : NdAt W1 (.agg #[.pointer p, .pointer q]) x) (hs : x.size < 4611686018427387904) (hd : x.deep < 4611686018427387904) (hP : AllN szN x) :
    Calls Tryd.prog 41 #[.slice (some ⟨W1.heap.size, 0, none⟩) 1 1] (W1.alloc (.cells #[.pointer p, .pointer q] 97)) fun r w' => r = .returned (.int .i64 (checkN [x])) ∧ Below w.heap.size w w' := by
  have hb1 : Below W1.heap.size W1 (W1.alloc (.cells #[.pointer p, .pointer q] 97)) := (Below.refl _ W1).alloc (Nat.le_refl _) _
  have hb2 := hB.trans (hb1.mono hB.size)
  have hn2 := cells_new2 W1 (.pointer p) (.pointer q) 97
  refine (check_any (some ⟨W1.heap.size, 0, none⟩) 1 [x] _ (Keys.below hG hb2) ⟨by simp, ?_⟩ ?_ ?_ ?_).mono ?_
  · intro i hi
    have h0 : i = 0 := by simp at hi; exact hi
    subst h0
    refine ⟨_, p, q, rfl, ?_, ?_, hN.below hb1⟩
    · rw [add_plain]; exact hn2.1
    · rw [add_plain]; exact hn2.2
  · show sizes [x] < _
    have : sizes [x] = x.size := by unfold sizes; simp
    omega
  · intro y hy; obtain rfl := List.mem_singleton.1 hy; exact hd
  · intro y hy; obtain rfl := List.mem_singleton.1 hy; exact hP
  · rintro r w' ⟨rfl, hb⟩
    exact ⟨rfl, hb2.trans (hb.mono hb2.size)⟩
set_option maxRecDepth 100000 in
set_option maxHeartbeats 4000000 in
theorem checkExpr_any (e : SE) (A : Option Addr) (c : Nat) (w : World) (hG : Keys w) (hC : kE.C w A e.f5.length e.f5) (hl : e.f5.length ≤ c) (hs : (Nd.ex e).size < 4611686018427387904) (hd : (Nd.ex e).deep < 4611686018427387904) (hP : AllN szN (.ex e)) :
    Calls Tryd.prog 21 #[.agg #[.int .i64 e.f0, .int .i64 e.f1, .int .i64 e.f2, .int .u32 e.f3, .string e.f4, .slice A e.f5.length c]] w fun r w' => r = .returned (.int .i64 (checkN [.ex e])) ∧ Below w.heap.size w w' := by
  have HG := Lx.Hd.mk hG
  have HC := Lx.Hd.mk hC
  clear hG hC
  go_enter Tryd.func21, Tryd.ntmps21
  go_upto_region 1 with (fail)
  refine name_world fun W1 hW1 => ?_
  have hh : W1.heap[w.heap.size]? = some (.cells #[.int .i64 e.f0, .int .i64 e.f1, .int .i64 e.f2, .int .u32 e.f3, .string e.f4, .slice A e.f5.length c] 26 (0, 0)) := by rw [hW1]; exact World.alloc_heap_new w _
  have hz : W1.heap.size = w.heap.size + 1 := by rw [hW1]; simp
  have HB1 : Lx.Hd (Below w.heap.size w W1) := Lx.Hd.mk (by rw [hW1]; exact (Below.refl _ w).alloc (Nat.le_refl _) _)
  clear hW1
  have hp : PtAt kE W1 ⟨w.heap.size, 0, none⟩ e := by
    refine ⟨_, k26_mk W1 e hl (Kd.C_below HC.out HB1.out), ?_⟩
    intro j u hj
    have hj5 : j < 6 := by have := (List.getElem?_eq_some_iff.1 hj).1; simpa using this
    rw [add_plain]
    have : j = 0 ∨ j = 1 ∨ j = 2 ∨ j = 3 ∨ j = 4 ∨ j = 5 := by omega
    rcases this with rfl | rfl | rfl | rfl | rfl | rfl <;> (obtain rfl := Option.some.inj hj; unfold World.cell?; rw [hh]; rfl)
  have HP := Lx.Hd.mk hp
  clear hp hh
  have H := Lx.Hd.mk (check_one (.ex e) w W1 HB1.out HG.out _ _ ⟨_, rfl, HP.out⟩ hs hd hP)
  rw [hz] at H
  go_wp2_with (go_at_call 41; refine H.out.mono ?_; rintro r W2 ⟨rfl, hb⟩; have HB2 := Lx.Hd.mk hb; clear hb)
  go_ret
  exact ⟨rfl, HB2.out⟩
end Go.Proofs.YtnjnadlgndjnbaaDoor.A
namespace Go.Proofs.YtnjnadlgndjnbaaDoor.A
open Go.RowKit Go.Shelf Go.Proofs.YtnjnadlgndjnbaaDoor.As Go.Proofs.YtnjnadlgndjnbaaDoorW.PrintWords Go.Proofs.YtnjnadlgndjnbaaDoorW.PrintLast Go.Proofs.YtnjnadlgndjnbaaDoorW.PrintMore
set_option maxRecDepth 100000 in
set_option maxHeartbeats 4000000 in
theorem all_1 (p : Option Addr) (B base n : Nat) (v : Value) (xs : List Value) (w W : World) (hx : Boxed W B 106 v) (hB : B < base) (HO : W.ownsRow base 97 2 v n xs) (hb : base ≤ W.heap.size) (hn : (n + 1) * 16 ≤ 140737488355328) (hw : Below w.heap.size w W) (hwB : w.heap.size ≤ B) :
    Calls Tryd.prog 60 #[.pointer p, .pointer (some ⟨B, 0, none⟩)] W fun e W' => e = .returned (.bool true) ∧ Below w.heap.size w W' ∧ base ≤ W'.heap.size ∧ ∃ v', Boxed W' B 106 v' ∧ W'.ownsRow base 97 2 v' (n + 1) (xs ++ [.pointer none, .pointer p]) := by
  have HOO := Lx.Hd.mk HO
  have HW := Lx.Hd.mk hw
  clear HO hw
  have HI : Lx.Hd ((Tryd.prog.info? 97).map (fun i => (i.zero, i.size, i.bytes)) = some (some (.agg #[.pointer none, .pointer none]), 2, 16)) := Lx.Hd.mk (by kernel_rfl)
  have HW0 : Lx.Hd (Below base W W) := Lx.Hd.mk (Below.refl _ _)
  have HX : Lx.Hd (∀ w1, W.grownBy w1 v.ownBlock → Boxed w1 B 106 v) := Lx.Hd.mk (fun w1 hg => hx.kept hg (hx.not_row (by decide) HOO.out))
  have hc := hx.cell
  clear hx
  go_enter Tryd.func60, Tryd.ntmps60
  go_upto_region 1 with (fail)
  go_wp2_with ((with_reducible refine gate_builtin (b := .append) (xs := #[.tmp 4, .tmp 7]) rfl ?_); at_builtin; refine print_append_cells (w0 := W) (W := W) base rfl (.tmp 4) (.tmp 7) 106 97 (.agg #[.pointer none, .pointer none]) 2 16 rfl Tryd.underlying106 HI.out rfl (by decide) (by decide) v n xs [.pointer none, .pointer p] rfl rfl rfl ?a1 HOO.out ?a2 hb hn ?_; (case a1 => intro u hu; simp at hu; rcases hu with rfl | rfl <;> rfl); (case a2 => exact HW0.out); rintro v1 w1 ho hb1 hg hat; have B1 := HX.out w1 hg; have c1 := B1.cell; have f1 := B1.frozen; have BX := Lx.Hd.mk B1; clear B1; obtain ⟨A', c', rfl⟩ := own_slice ho; have HO1 := Lx.Hd.mk ho; have HB1 := Lx.Hd.mk hb1; clear ho hb1 hg hat)
  go_ret
  refine ⟨rfl, (HW.out.trans (HB1.out.mono (by omega))).setCell hwB _, by have := HB1.out.size; simp; omega, _, BX.out.set _, own_setCell HO1.out (fun h => absurd (own_base HO1.out B h.symm) (by omega)) _⟩
theorem each_all (A : Option Addr) (len cap B : Nat) (J : Nat → World → Prop) (hA : 0 < len → ∃ ad, A = some ad) (hlen : len ≤ 9223372036854775807)
    (hf : ∀ (i : Nat) (ad : Addr) (W : World), i < len → A = some ad → J i W → Calls Tryd.prog 60 #[.pointer (some (ad.add (i * 10))), .pointer (some ⟨B, 0, none⟩)] W (fun e W' => e = .returned (.bool true) ∧ J (i + 1) W'))
    (W : World) (h0 : J 0 W) :
    Calls Tryd.prog 59 #[.slice A len cap, .func (.func 60) #[] #[.pointer (some ⟨B, 0, none⟩)]] W (fun e W' => e = .returned (.bool true) ∧ J len W') := by
  go_enter Tryd.func59, Tryd.ntmps59
  go_wp2
  go_loopw [8] (fun t8 wr => ∃ i : Nat, i ≤ len ∧ t8 = .int .i64 i ∧ J i wr) (fun t8 _ => len - (intOf t8).toNat)
  case atStart => exact ⟨0, Nat.zero_le _, rfl, h0⟩
  case round =>
    obtain ⟨i, hi, rfl, hJ⟩ := hrel
    by_cases hlt : i < len
    · obtain ⟨ad, rfl⟩ := hA (by omega)
      have hc := hf i ad wr hlt rfl hJ
      go_wp2_with (go_at_call 60; refine hc.mono ?_; rintro e W1 ⟨rfl, hr⟩)
      exact ⟨⟨i + 1, by omega, by go_num, hr⟩, by simp [intOf]; omega⟩
    · go_wp2
      go_ret
      obtain rfl : i = len := by omega
      exact ⟨rfl, hJ⟩
def stCells (l : List Addr) : List Value := l.flatMap fun a => [.pointer none, .pointer (some a)]
theorem stCells_snoc (l : List Addr) (a : Addr) : stCells (l ++ [a]) = stCells l ++ [.pointer none, .pointer (some a)] := by unfold stCells; rw [List.flatMap_append]; simp
def RowAt (w : World) (B base : Nat) (l : List Addr) (W : World) : Prop := Below w.heap.size w W ∧ base ≤ W.heap.size ∧ ∃ v, Boxed W B 106 v ∧ W.ownsRow base 97 2 v l.length (stCells l)
def places (ad : Addr) (n : Nat) : List Addr := (List.range n).map fun i => ad.add (i * 10)
theorem places_succ (ad : Addr) (n : Nat) : places ad (n + 1) = places ad n ++ [ad.add (n * 10)] := by unfold places; rw [List.range_succ, List.map_append]; rfl
def placesOf (A : Option Addr) (n : Nat) : List Addr := match A with | none => [] | some ad => places ad n
theorem all_row (A : Option Addr) (len cap B base : Nat) (l : List Addr) (w W : World) (hA : 0 < len → ∃ ad, A = some ad) (hB : B < base) (hwB : w.heap.size ≤ B) (hn : (l.length + len) * 16 ≤ 140737488355328) (h : RowAt w B base l W) :
    Calls Tryd.prog 59 #[.slice A len cap, .func (.func 60) #[] #[.pointer (some ⟨B, 0, none⟩)]] W (fun e W' => e = .returned (.bool true) ∧ RowAt w B base (l ++ placesOf A len) W') := by
  cases A with
  | none =>
    have h0 : len = 0 := by
      rcases Nat.eq_zero_or_pos len with h | h
      · exact h
      · obtain ⟨_, h⟩ := hA h; cases h
    subst h0
    refine (each_all none 0 cap B (fun _ W' => RowAt w B base l W') hA (by omega) (fun i ad W' hi => absurd hi (Nat.not_lt_zero i)) W h).mono ?_
    rintro e W' ⟨rfl, h⟩
    exact ⟨rfl, by rw [show placesOf none 0 = [] from rfl, List.append_nil]; exact h⟩
  | some ad =>
    refine each_all (some ad) len cap B (fun i W' => RowAt w B base (l ++ places ad i) W') hA (by omega) ?_ W (by rw [show places ad 0 = [] from rfl, List.append_nil]; exact h)
    intro i ad' W' hi he ⟨h1, h2, v, h3, h4⟩
    obtain rfl := Option.some.inj he
    have hlen : (l ++ places ad i).length = l.length + i := by unfold places; simp
    refine (all_1 (some (ad.add (i * 10))) B base _ v _ w W' h3 hB h4 h2 (by rw [hlen]; omega) h1 hwB).mono ?_
    rintro e W2 ⟨rfl, k1, k2, v', k3, k4⟩
    refine ⟨rfl, k1, k2, v', k3, ?_⟩
    rw [places_succ, ← List.append_assoc, stCells_snoc, List.length_append]
    exact k4
end Go.Proofs.YtnjnadlgndjnbaaDoor.A
namespace Go.Proofs.YtnjnadlgndjnbaaDoor.A
open Go.RowKit Go.Shelf Go.Proofs.YtnjnadlgndjnbaaDoor.As Go.Proofs.YtnjnadlgndjnbaaDoorW.PrintWords Go.Proofs.YtnjnadlgndjnbaaDoorW.PrintLast Go.Proofs.YtnjnadlgndjnbaaDoorW.PrintMore
abbrev SD := S55
abbrev kD := k55
def bodies (l : List SD) : List SS := l.flatMap (·.f5)
def AtAll (w : World) (ls : List Addr) (ss : List SS) : Prop := ls.length = ss.length ∧ ∀ (i : Nat) (h : i < ls.length) (h' : i < ss.length), PtAt kS w ls[i] ss[i]
theorem AtAll.append {w : World} {ls ms : List Addr} {ss ts : List SS} (h : AtAll w ls ss) (k : AtAll w ms ts) : AtAll w (ls ++ ms) (ss ++ ts) := by
  refine ⟨by rw [List.length_append, List.length_append, h.1, k.1], fun i hi hi' => ?_⟩
  by_cases hlt : i < ls.length
  · rw [List.getElem_append_left hlt, List.getElem_append_left (by rw [← h.1]; exact hlt)]
    exact h.2 i hlt _
  · have he := h.1
    have h1 : i - ls.length < ms.length := by rw [List.length_append] at hi; omega
    rw [List.getElem_append_right (by omega), List.getElem_append_right (by omega)]
    have := k.2 (i - ls.length) h1 (by rw [← k.1]; exact h1)
    simp only [he] at this ⊢
    exact this
theorem AtAll.places {w : World} {A : Option Addr} {l : List SS} (h : kS.C w A l.length l) : AtAll w (placesOf A l.length) l := by
  cases A with
  | none =>
    have : l = [] := by
      cases l with
      | nil => rfl
      | cons x l => obtain ⟨ad, c, e, _⟩ := Kd.C_get h x 0 (by omega) (by simp); cases e
    subst this
    exact ⟨rfl, fun i hi => absurd hi (Nat.not_lt_zero i)⟩
  | some ad =>
    refine ⟨by show (Go.Proofs.YtnjnadlgndjnbaaDoor.A.places ad l.length).length = _; unfold Go.Proofs.YtnjnadlgndjnbaaDoor.A.places; simp, fun i hi hi' => ?_⟩
    have e : (placesOf (some ad) l.length)[i] = ad.add (i * kS.sz) := by simp only [placesOf, Go.Proofs.YtnjnadlgndjnbaaDoor.A.places, List.getElem_map, List.getElem_range]; rfl
    rw [e]
    exact PtAt.of_C h i hi'
theorem AtAll.below {w W : World} {ls : List Addr} {ss : List SS} (h : AtAll w ls ss) (hb : Below w.heap.size w W) : AtAll W ls ss := ⟨h.1, fun i hi hi' => (h.2 i hi hi').below hb⟩
theorem bodies_succ {l : List SD} {i : Nat} (hi : i < l.length) : bodies (l.take (i + 1)) = bodies (l.take i) ++ (l[i]).f5 := by
  unfold bodies; rw [List.take_succ_eq_append_getElem hi, List.flatMap_append]; simp
theorem bodies_take (l : List SD) (i : Nat) : (bodies (l.take i)).length ≤ (bodies l).length := by
  have h : bodies l = bodies (l.take i) ++ bodies (l.drop i) := by unfold bodies; rw [← List.flatMap_append, List.take_append_drop]
  rw [h, List.length_append]; omega
theorem stCells_get : ∀ (ls : List Addr) (i : Nat) (h : i < ls.length), (stCells ls)[i * 2]? = some (.pointer none) ∧ (stCells ls)[i * 2 + 1]? = some (.pointer (some ls[i]))
  | a :: ls, 0, _ => ⟨rfl, rfl⟩
  | a :: ls, i + 1, h => by
    have e : stCells (a :: ls) = .pointer none :: .pointer (some a) :: stCells ls := rfl
    have := stCells_get ls i (by simp at h; omega)
    rw [e, show (i + 1) * 2 = i * 2 + 1 + 1 by omega]
    exact this
theorem row_nds {W : World} {base : Nat} {A : Option Addr} {c : Nat} {ls : List Addr} {ss : List SS} (h : W.ownsRow base 97 2 (.slice A ls.length c) ls.length (stCells ls)) (hA : AtAll W ls ss) (hn : ls.length ≤ 9223372036854775807) : NdsAt W A (ss.map .st) := by
  refine ⟨by rw [List.length_map, ← hA.1]; exact hn, fun i hi => ?_⟩
  have hi' : i < ss.length := by simpa using hi
  have hil : i < ls.length := by rw [hA.1]; exact hi'
  obtain ⟨e1, e2⟩ := stCells_get ls i hil
  rcases h.2 with ⟨_, h0⟩ | ⟨g, cap, cur, hv, hb, hg, h1, h2, h3, h4⟩
  · omega
  · injection hv with ha _ _
    subst ha
    rw [← h4] at e1 e2
    have k1 : cur[i * 2]? = some (.pointer none) := by rw [List.getElem?_take_of_lt (by omega)] at e1; simpa using e1
    have k2 : cur[i * 2 + 1]? = some (.pointer (some ls[i])) := by rw [List.getElem?_take_of_lt (by omega)] at e2; simpa using e2
    refine ⟨_, none, some ls[i], rfl, ?_, ?_, ?_⟩
    · rw [add_plain]; unfold World.cell?; rw [hg]; exact k1
    · rw [add_plain]; unfold World.cell?; rw [hg]; exact k2
    · rw [List.getElem_map]; exact ⟨_, rfl, hA.2 i hil hi'⟩
theorem results_slice {fn : Func} {p : Tmp} (h : fn.results = #[.cell p 106]) (tmps : Array Value) (w : World) (g : Nat) (v : Value) (hp : tmps.getD p undef = .pointer (some ⟨g, 0, none⟩)) (hc : w.cell? ⟨g, 0, none⟩ = some v) : (results fn tmps).run Tryd.prog w = .ok v w := by
  have hp' : tmps[p]?.getD undef = .pointer (some ⟨g, 0, none⟩) := by simpa using hp
  have hu := Tryd.underlying106
  simp [results, h, hp', asAddr, go_sem, hc, hu]
set_option maxRecDepth 100000 in
set_option maxHeartbeats 4000000 in
theorem all_any (f0 : Int) (v1 v2 : Value) (h1 : v1.oneCell' = true) (h2 : v2.oneCell' = true) (A : Option Addr) (c : Nat) (l : List SD) (w : World) (hC : kD.C w A l.length l) (hl : l.length ≤ 9223372036854775807) (hn : (bodies l).length * 16 ≤ 140737488355328) :
    Calls Tryd.prog 46 #[.agg #[.int .i64 f0, v1, v2, .slice A l.length c]] w fun r w' => ∃ A' c', r = .returned (.slice A' (bodies l).length c') ∧ Below w.heap.size w w' ∧ NdsAt w' A' ((bodies l).map .st) := by
  have HC := Lx.Hd.mk hC
  clear hC
  go_enter Tryd.func46, Tryd.ntmps46
  go_upto_region 1 with (fail)
  refine name_world fun W1 hW1 => ?_
  generalize hW0 : w.alloc (.cells #[.int .i64 f0, v1, v2, .slice A l.length c] 44) = W0 at hW1
  have hz0 : W0.heap.size = w.heap.size + 1 := by rw [← hW0]; simp
  have HB0 : Lx.Hd (Below w.heap.size w W0) := Lx.Hd.mk (by rw [← hW0]; exact (Below.refl _ w).alloc (Nat.le_refl _) _)
  have hbk : W0.heap[w.heap.size]? = some (.cells #[.int .i64 f0, v1, v2, .slice A l.length c] 44 (0, 0)) := by rw [← hW0]; exact World.alloc_heap_new w _
  have c3 : W0.cell? ⟨w.heap.size, 3, none⟩ = some (.slice A l.length c) := by unfold World.cell?; rw [hbk]; rfl
  have hR : RowAt W0 (w.heap.size + 1) (w.heap.size + 2) [] W1 := by
    rw [← hz0, hW1]
    refine ⟨(Below.refl _ W0).alloc (Nat.le_refl _) _, by simp; omega, _, Boxed.new W0 _ _, own_nil _ _ _ _⟩
  have c31 := pw_cell_below hR.1 c3
  have HR := Lx.Hd.mk hR
  clear hW0 hW1 hbk hR
  go_wp2
  go_loopw [7] (fun t7 wr => ∃ (i : Nat) (ls : List Addr), i ≤ l.length ∧ t7 = .int .i64 i ∧ RowAt W0 (w.heap.size + 1) (w.heap.size + 2) ls wr ∧ AtAll w ls (bodies (l.take i))) (fun t7 _ => l.length - (intOf t7).toNat)
  case atStart => exact ⟨0, [], Nat.zero_le _, rfl, HR.out, rfl, fun i hi => absurd hi (Nat.not_lt_zero i)⟩
  case round =>
    clear c31 HR
    obtain ⟨i, ls, hi, rfl, hR, hA⟩ := hrel
    by_cases hlt : i < l.length
    · obtain ⟨ad, A2, c2, A5, c5, rfl, _, _, _, _, _, q5, _, _, _, l5, g5⟩ := at_T55 HC.out i (by omega) (by omega)
      have hx : rd_T55 l i = l[i] := by unfold rd_T55; rw [Int.toNat_natCast, List.getD_eq_getElem?_getD, List.getElem?_eq_getElem hlt]; rfl
      rw [Int.toNat_natCast] at q5
      rw [hx] at q5 l5 g5
      have HBw : Lx.Hd (Below w.heap.size w wr) := Lx.Hd.mk (HB0.out.trans (hR.1.mono (by omega)))
      have c3r := pw_cell_below hR.1 c3
      have q5r := pw_cell_below HBw.out q5
      have hb := bodies_succ hlt
      have hle := bodies_take l (i + 1)
      have hlen : ls.length = (bodies (l.take i)).length := hA.1
      have hnn : (ls.length + (l[i]).f5.length) * 16 ≤ 140737488355328 := by rw [hb, List.length_append] at hle; omega
      have hA5 : 0 < (l[i]).f5.length → ∃ ad, A5 = some ad := by
        intro h0
        obtain ⟨ad', _, e, _⟩ := Kd.C_get g5 (l[i]).f5[0] 0 (by omega) (by omega)
        exact ⟨ad', e⟩
      have HA : Lx.Hd (AtAll w (ls ++ placesOf A5 (l[i]).f5.length) (bodies (l.take (i + 1)))) := Lx.Hd.mk (by rw [hb]; exact hA.append (AtAll.places g5))
      have HCall := Lx.Hd.mk (all_row A5 (l[i]).f5.length c5 (w.heap.size + 1) (w.heap.size + 2) ls W0 wr hA5 (by omega) (by omega) hnn hR)
      clear hb hle hlen hnn hA hR q5 g5 hx hA5
      go_wp2_with (go_at_call 59; refine HCall.out.mono ?_; rintro e W2 ⟨rfl, hr⟩; have HR2 := Lx.Hd.mk hr; clear hr)
      exact ⟨⟨i + 1, _, hlt, by go_num, HR2.out, HA.out⟩, by simp [intOf]; omega⟩
    · have hil : i = l.length := by omega
      rw [hil, List.take_length] at hA
      obtain ⟨v, hx, ho⟩ := hR.2.2
      have HBw : Lx.Hd (Below w.heap.size w wr) := Lx.Hd.mk (HB0.out.trans (hR.1.mono (by omega)))
      have HB' := Lx.Hd.mk hR.1
      obtain ⟨A', c', rfl⟩ := own_slice ho
      have x1 := hx.cell
      have x2 := hx.frozen
      have HX := Lx.Hd.mk hx
      have HO := Lx.Hd.mk ho
      have HA := Lx.Hd.mk hA
      clear hA hR hx ho
      go_wp2
      have hlen : ls.length = (bodies l).length := HA.out.1
      refine bodyPost_ret (results_slice rfl _ _ (w.heap.size + 1) (.slice A' ls.length c') rfl (HX.out.set _).cell) rfl ⟨A', c', by rw [hlen], HBw.out.setCell (by show _ ≤ w.heap.size + 1; omega) _, ?_⟩
      have HBs := HBw.out.setCell (p := ⟨w.heap.size + 1, 0, none⟩) (by show _ ≤ w.heap.size + 1; omega) (.slice A' ls.length c')
      exact row_nds (own_setCell HO.out (fun h => absurd (own_base HO.out (w.heap.size + 1) h.symm) (by omega)) _) (HA.out.below HBs) (by omega)
end Go.Proofs.YtnjnadlgndjnbaaDoor.A
namespace Go.Proofs.YtnjnadlgndjnbaaDoor.A
open Go.RowKit Go.Shelf Go.Proofs.YtnjnadlgndjnbaaDoor.As Go.Proofs.YtnjnadlgndjnbaaDoorW.PrintWords Go.Proofs.YtnjnadlgndjnbaaDoorW.PrintLast Go.Proofs.YtnjnadlgndjnbaaDoorW.PrintMore
abbrev nodes (l : List SD) : List Nd := (bodies l).map .st
end Go.Proofs.YtnjnadlgndjnbaaDoor.A
namespace Go.Proofs.YtnjnadlgndjnbaaDoor.A
open Go.RowKit Go.Shelf Go.Proofs.YtnjnadlgndjnbaaDoor.As Go.Proofs.YtnjnadlgndjnbaaDoorW.PrintWords Go.Proofs.YtnjnadlgndjnbaaDoorW.PrintLast Go.Proofs.YtnjnadlgndjnbaaDoorW.PrintMore
end Go.Proofs.YtnjnadlgndjnbaaDoor.A
namespace Go.Proofs.YtnjnadlgndjnbaaDoor.A
open Go.RowKit Go.Shelf Go.Proofs.YtnjnadlgndjnbaaDoor.As Go.Proofs.YtnjnadlgndjnbaaDoorW.PrintWords Go.Proofs.YtnjnadlgndjnbaaDoorW.PrintLast Go.Proofs.YtnjnadlgndjnbaaDoorW.PrintMore
mutual
def okE : SE → Bool
  | ⟨_, _, _, _, s, l⟩ => decide (s.size ≤ 140737488351232) && okEs l
def okEs : List SE → Bool
  | [] => true
  | e :: l => okE e && okEs l
end
mutual
def okS : SS → Bool
  | ⟨_, _, _, _, s, n, i, x, t, e⟩ => decide (s.size ≤ 140737488351232) && n.all (fun y => decide (y.size ≤ 140737488351232)) && (okEs i && okEs x) && (okSs t && okSs e)
def okSs : List SS → Bool
  | [] => true
  | e :: l => okS e && okSs l
end
def okN : Nd → Bool
  | .ex e => okE e
  | .st s => okS s
mutual
theorem ok_allE : ∀ e : SE, okE e = true → AllN szN (.ex e)
  | ⟨a, b, c, d, s, l⟩, h => by
    rw [okE, Bool.and_eq_true] at h
    exact .mk _ (show s.size ≤ 140737488351232 from of_decide_eq_true h.1) (fun y hy => by obtain ⟨z, hz, rfl⟩ := List.mem_map.1 hy; exact ok_allEs l h.2 z hz)
theorem ok_allEs : ∀ l : List SE, okEs l = true → ∀ z ∈ l, AllN szN (.ex z)
  | [], _, z, hz => by cases hz
  | e :: l, h, z, hz => by
    rw [okEs, Bool.and_eq_true] at h
    rcases List.mem_cons.1 hz with hz | hz
    · rw [hz]; exact ok_allE e h.1
    · exact ok_allEs l h.2 z hz
end
def fitB (x : Nd) : Bool := decide (x.size < 4611686018427387904) && decide (x.deep < 4611686018427387904) && okN x
def ast_CheckExpr.f (a0 a1 a2 a3 : Int) (a4 : ByteArray) (l : List SE) : Option Int := if fitB (.ex ⟨a0, a1, a2, a3, a4, l⟩) = true then some (checkN [.ex ⟨a0, a1, a2, a3, a4, l⟩]) else none
def ast_CheckStmt.f (a0 a1 a2 a3 : Int) (a4 : ByteArray) (l5 : List ByteArray) (l6 l7 : List SE) (l8 l9 : List SS) : Option Int := if fitB (.st ⟨a0, a1, a2, a3, a4, l5, l6, l7, l8, l9⟩) = true then some (checkN [.st ⟨a0, a1, a2, a3, a4, l5, l6, l7, l8, l9⟩]) else none
end Go.Proofs.YtnjnadlgndjnbaaDoor.A
namespace Go.Proofs.YtnjnadlgndjnbaaDoor.A
open Go.RowKit Go.Shelf Go.Proofs.YtnjnadlgndjnbaaDoor.As Go.Proofs.YtnjnadlgndjnbaaDoorW.PrintWords Go.Proofs.YtnjnadlgndjnbaaDoorW.PrintLast Go.Proofs.YtnjnadlgndjnbaaDoorW.PrintMore
section
variable {H : Type} {enc : TypeId × Value → H} {P : Program} {W : World} {sp : Nat → Bool} {held : Bool}
theorem text_K {W : World} (s : ByteArray) : Kd.string.K W s [.string s] := by first | rfl | exact ⟨rfl⟩ | (show _ = _; rfl)
end
section
variable {H : Type} {enc : TypeId × Value → H} {W : World} {sp : Nat → Bool} {held : Bool}
instance : Inhabited SE := ⟨⟨0, 0, 0, 0, ByteArray.empty, []⟩⟩
instance : Inhabited SS := ⟨⟨0, 0, 0, 0, ByteArray.empty, [], [], [], [], []⟩⟩
end
end Go.Proofs.YtnjnadlgndjnbaaDoor.A
end
