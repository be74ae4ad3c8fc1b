/- Parse: outcomes over the tokens that are left; must, name, number, typ, one, test, args in either case. -/
import Derived.Test.YtnjnadlgndjnbaaDoorYKl
import Derived.Test.YtnjnadlgndjnbaaDoorYKm
import Derived.Test.YtnjnadlgndjnbaaDoorYFh
set_option linter.unusedVariables false
set_option linter.unusedSimpArgs false
namespace Go.Proofs.YtnjnadlgndjnbaaDoor.Pk
open Go.RowKit Go.Proofs.YtnjnadlgndjnbaaDoorW.PrintWords Go.Proofs.YtnjnadlgndjnbaaDoorW.PrintLast Go.Proofs.YtnjnadlgndjnbaaDoorW.PrintMore Go.Proofs.YtnjnadlgndjnbaaDoor.Lx
theorem keys_drop (l : List Tk) (i : Nat) : Fp.keys (l.drop i) = ks l i := rfl
theorem isK_D (s : ByteArray) (l : List Tk) (i : Nat) (ln cl : Int) : Fp.isK s.data.toList (l.drop i) = isK s (nowT l i ln cl) := isT_K s
theorem tail_D (l : List Tk) (i : Nat) : (l.drop i).tail = l.drop (i + 1) := by rw [List.tail_drop]
theorem back_D (l : List Tk) (i j : Nat) (h : j ≤ l.length) (hi : i ≤ l.length) : Fp.backT (l.drop i) (ks l j) = l.drop (max i j) := by
  unfold Fp.backT
  rw [ks_len, List.length_drop, List.drop_drop]
  congr 1; omega
def OutT {α : Type} (RV : World → World → α → Value → Prop) (w : World) (g : Nat) (A : Option Addr) (c : Nat) (l : List Tk) (ln cl : Int) (r : Fp.ResT α) (e : Ending) (w' : World) : Prop :=
  w.grownBy w' (some g) ∧ match r with
  | .ok a rest => ∃ i v, rest = l.drop i ∧ Pa w' g A c l i ln cl ∧ e = .returned v ∧ RV w w' a v
  | .bad rest => ∃ i, rest = l.drop i ∧ i ≤ l.length ∧ e = .panicked [{ v := thrown (nowT l i ln cl), recovered := false }]
section
variable {w : World} {B g : Nat} {A : Option Addr} {c : Nat} {l : List Tk} {i : Nat} {ln cl : Int}
theorem must_D (s : ByteArray) : Fp.mustT s.data.toList (l.drop i) = if isK s (nowT l i ln cl) = true then some (.ok () (l.drop (i + 1))) else some (.bad (l.drop i)) := by
  unfold Fp.mustT; rw [isK_D s l i ln cl, tail_D]
theorem name_any (hp : Pa w g A c l i ln cl) :
    Calls Tryd.prog 44 #[.pointer (some ⟨g, 0, none⟩)] w fun e w' => ((nowT l i ln cl).kind = 1 ∧ i < l.length ∧ e = .returned (.string (nowT l i ln cl).text) ∧ Pa w' g A c l (i + 1) ln cl ∧ w.grownBy w' (some g)) ∨ (¬ (nowT l i ln cl).kind = 1 ∧ e = .panicked [{ v := thrown (nowT l i ln cl), recovered := false }] ∧ w.grownBy w' (some g)) := by
  by_cases hK : (nowT l i ln cl).kind = 1
  · have hi : i < l.length := kind_lt (ln := ln) (cl := cl) (by omega)
    exact (name_ok hp hK hi).mono fun e w' h => .inl ⟨hK, hi, h⟩
  · exact (name_bad hp hK).mono fun e w' h => .inr ⟨hK, h⟩
theorem number_any (hp : Pa w g A c l i ln cl) :
    Calls Tryd.prog 25 #[.pointer (some ⟨g, 0, none⟩)] w fun e w' => ((nowT l i ln cl).kind = 3 ∧ i < l.length ∧ e = .returned (.int .u32 (nowT l i ln cl).num) ∧ Pa w' g A c l (i + 1) ln cl ∧ w.grownBy w' (some g)) ∨ (¬ (nowT l i ln cl).kind = 3 ∧ e = .panicked [{ v := thrown (nowT l i ln cl), recovered := false }] ∧ w.grownBy w' (some g)) := by
  by_cases hK : (nowT l i ln cl).kind = 3
  · have hi : i < l.length := kind_lt (ln := ln) (cl := cl) (by omega)
    exact (number_ok hp hK hi).mono fun e w' h => .inl ⟨hK, hi, h⟩
  · exact (number_bad hp hK).mono fun e w' h => .inr ⟨hK, h⟩
theorem name_D : Fp.nameT (l.drop i) = if (nowT l i ln cl).kind = 1 then some (.ok (nowT l i ln cl).text (l.drop (i + 1))) else some (.bad (l.drop i)) := by
  cases h : l[i]? with
  | none =>
    rw [List.drop_eq_nil_of_le (List.getElem?_eq_none_iff.1 h)]
    unfold nowT; rw [h]; rfl
  | some t =>
    obtain ⟨h1, rfl⟩ := List.getElem?_eq_some_iff.1 h
    rw [List.drop_eq_getElem_cons h1]
    unfold nowT; rw [h]; rfl
theorem line_D : Fp.lineT ln (l.drop i) = (nowT l i ln cl).line := by
  cases h : l[i]? with
  | none =>
    rw [List.drop_eq_nil_of_le (List.getElem?_eq_none_iff.1 h)]
    unfold nowT; rw [h]; rfl
  | some t =>
    obtain ⟨h1, rfl⟩ := List.getElem?_eq_some_iff.1 h
    rw [List.drop_eq_getElem_cons h1]
    unfold nowT; rw [h]; rfl
theorem type_D : Fp.typeT (l.drop i) = if (nowT l i ln cl).kind == 2 then typN (nowT l i ln cl).text else 0 := type_K
theorem expr_T (hB : B ≤ g) (hp : Pa w g A c l i ln cl) (hv : Pv B w) :
    ∃ r, Fp.exprT (l.drop i) = some r ∧ Calls Tryd.prog 18 #[.pointer (some ⟨g, 0, none⟩), .int .i64 1] w (OutT (ExR g) w g A c l ln cl r) := by
  have hi := hp.pos
  unfold Fp.exprT
  rw [keys_drop]
  cases hq : Fp.parseK (ks l i) with
  | none => exact absurd hq (Fp.parseK_some _)
  | some r =>
    have hc := (spec_all (A := A) (c := c) (l := l) (ln := ln) (cl := cl) hB _).expr1 w i r hp hv hq
    cases r with
    | bad rest =>
      refine ⟨_, rfl, hc.mono ?_⟩
      rintro e w' ⟨hg, j, rfl, hj, rfl⟩
      have hle := ((Fp.bads (Fp.fuelOf (ks l i))).1 _ _ _ hq)
      rw [ks_len, ks_len] at hle
      have hm : max i j = j := by omega
      exact ⟨hg, j, by rw [back_D l i j hj hi, hm], hj, rfl⟩
    | ok x rest =>
      refine ⟨_, rfl, hc.mono ?_⟩
      rintro e w' ⟨hg, j, v, rfl, hpj, rfl, hx⟩
      have hle := (Fp.lens _).1 _ _ _ _ hq
      rw [ks_len, ks_len] at hle
      have hj := hpj.pos
      have hm : max i j = j := by omega
      exact ⟨hg, j, v, by rw [back_D l i j hj hi, hm], hpj, rfl, hx⟩
def mapT {α β : Type} (f : α → β) : Fp.ResT α → Fp.ResT β
  | .ok a rest => .ok (f a) rest
  | .bad rest => .bad rest
theorem expr_T' (hB : B ≤ g) (hp : Pa w g A c l i ln cl) (hv : Pv B w) (r : Fp.ResT SE) (h : Fp.exprT (l.drop i) = some r) :
    Calls Tryd.prog 18 #[.pointer (some ⟨g, 0, none⟩), .int .i64 1] w (OutT (ExR g) w g A c l ln cl r) := by
  obtain ⟨r', h', hc⟩ := expr_T (l := l) (i := i) (ln := ln) (cl := cl) hB hp hv
  rw [h] at h'
  obtain rfl := Option.some.inj h'
  exact hc
theorem ex_row {w1 : World} {x : SE} {A5 : Option Addr} {c5 Bq b0 : Nat} (hR : Kd.R kE 26 w1 Bq (fun k => k ≠ g) (.slice A5 x.f5.length c5) x.f5) (hle : b0 ≤ Bq) (hB : b0 ≤ w1.heap.size) (hg : g < w1.heap.size) :
    Kd.R kE 26 (w1.alloc (.cells #[.int .i64 x.f0, .int .i64 x.f1, .int .i64 x.f2, .int .u32 x.f3, .string x.f4, .slice A5 x.f5.length c5] 26)) b0 (fun k => k ≠ g) (.slice (some ⟨w1.heap.size, 0, none⟩) 1 1) [x] := by
  have hM := Go.Proofs.YtnjnadlgndjnbaaDoor.A.k26_mkM w1 b0 (fun k => k ≠ g) x (Kd.R_lower hR hle)
  exact R_row1 (e := 26) hM (by omega) hB
theorem one_T (hB : B ≤ g) (hp : Pa w g A c l i ln cl) (hv : Pv B w) (r : Fp.ResT SE) (h : Fp.exprT (l.drop i) = some r) :
    Calls Tryd.prog 50 #[.pointer (some ⟨g, 0, none⟩)] w (OutT (ArR g) w g A c l ln cl (mapT (fun x => [x]) r)) := by
  have hE := expr_T' hB hp hv r h
  cases r with
  | bad rest =>
    go_enter Tryd.func50, Tryd.ntmps50
    go_wp2_with (first | (go_at_call 18; (with_reducible refine hE.mono ?_); rintro e w1 ⟨hg1, j, rfl, hj, rfl⟩) | fail)
    exact ⟨rfl, hg1, j, rfl, hj, rfl⟩
  | ok x rest =>
    go_enter Tryd.func50, Tryd.ntmps50
    go_wp2_with (first | (go_at_call 18; (with_reducible refine hE.mono ?_); rintro e w1 ⟨hg1, j, v, rfl, hp1, rfl, A5, c5, rfl, hR⟩) | fail)
    go_ret
    have hba := below_alloc (Below.refl w1.heap.size w1) (.cells #[.int .i64 x.f0, .int .i64 x.f1, .int .i64 x.f2, .int .u32 x.f3, .string x.f4, .slice A5 x.f5.length c5] 26)
    exact ⟨grown_below hg1 hba, j, _, rfl, hp1.below hba, rfl, _, 1, rfl, ex_row hR (Nat.le_refl _) hg1.size hp1.lt⟩
def Two {α : Type} (RV : World → World → α → Value → Prop) (w : World) (g : Nat) (A : Option Addr) (c : Nat) (l : List Tk) (ln cl : Int) (sp : Option (Fp.ResT α)) (e : Ending) (w' : World) : Prop :=
  w.grownBy w' (some g) ∧ ((∃ a j v, sp = some (.ok a (l.drop j)) ∧ Pa w' g A c l j ln cl ∧ e = .returned v ∧ RV w w' a v) ∨
    (∃ j, sp = some (.bad (l.drop j)) ∧ j ≤ l.length ∧ e = .panicked [{ v := thrown (nowT l j ln cl), recovered := false }]))
def UnitV (_ _ : World) (_ : Unit) (v : Value) : Prop := v = .tuple #[]
theorem bind_okE {α β : Type} {x : Option (Fp.ResT α)} {a : α} {m : List Tk} {f : α → List Tk → Option (Fp.ResT β)} (h : x = some (.ok a m)) : Fp.ResT.bind x f = f a m := by rw [h]; rfl
theorem bind_badE {α β : Type} {x : Option (Fp.ResT α)} {m : List Tk} {f : α → List Tk → Option (Fp.ResT β)} (h : x = some (.bad m)) : Fp.ResT.bind x f = some (.bad m) := by rw [h]; rfl
theorem must_S (s : ByteArray) (hp : Pa w g A c l i ln cl) : Calls Tryd.prog 24 #[.pointer (some ⟨g, 0, none⟩), .string s] w (Two UnitV w g A c l ln cl (Fp.mustT s.data.toList (l.drop i))) := by
  rw [must_D s (ln := ln) (cl := cl)]
  cases hK : isK s (nowT l i ln cl) with
  | true => exact (must_ok s hp hK (isK_lt hK)).mono fun e w' h => ⟨h.2.2, .inl ⟨(), i + 1, _, rfl, h.2.1, h.1, rfl⟩⟩
  | false => exact (must_bad s hp hK).mono fun e w' h => ⟨h.2, .inr ⟨i, rfl, hp.pos, h.1⟩⟩
theorem may_F (s : ByteArray) (hp : Pa w g A c l i ln cl) (hK : isK s (nowT l i ln cl) = false) :
    Calls Tryd.prog 38 #[.pointer (some ⟨g, 0, none⟩), .string s] w fun e w' => e = .returned (.bool false) ∧ Pa w' g A c l i ln cl ∧ w.grownBy w' (some g) := by
  have hm := may_any s hp (fun h => absurd (hK.symm.trans h) (by decide))
  rw [hK] at hm
  exact hm
theorem may_T (s : ByteArray) (hp : Pa w g A c l i ln cl) (hK : isK s (nowT l i ln cl) = true) :
    Calls Tryd.prog 38 #[.pointer (some ⟨g, 0, none⟩), .string s] w fun e w' => e = .returned (.bool true) ∧ Pa w' g A c l (i + 1) ln cl ∧ w.grownBy w' (some g) := by
  have hm := may_any s hp isK_lt
  rw [hK] at hm
  exact hm
theorem may_S (s : ByteArray) (hp : Pa w g A c l i ln cl) :
    Calls Tryd.prog 38 #[.pointer (some ⟨g, 0, none⟩), .string s] w fun e w' => w.grownBy w' (some g) ∧ ((Fp.isK s.data.toList (l.drop i) = true ∧ e = .returned (.bool true) ∧ Pa w' g A c l (i + 1) ln cl) ∨ (Fp.isK s.data.toList (l.drop i) = false ∧ e = .returned (.bool false) ∧ Pa w' g A c l i ln cl)) := by
  rw [isK_D s l i ln cl]
  cases hK : isK s (nowT l i ln cl) with
  | true => exact (may_T s hp hK).mono fun e w' h => ⟨h.2.2, .inl ⟨rfl, h.1, h.2.1⟩⟩
  | false => exact (may_F s hp hK).mono fun e w' h => ⟨h.2.2, .inr ⟨rfl, h.1, h.2.1⟩⟩
def OneR (g : Nat) (w w' : World) (x : SE) (v : Value) : Prop := ArR g w w' [x] v
theorem one_S (hB : B ≤ g) (hp : Pa w g A c l i ln cl) (hv : Pv B w) : Calls Tryd.prog 50 #[.pointer (some ⟨g, 0, none⟩)] w (Two (OneR g) w g A c l ln cl (Fp.exprT (l.drop i))) := by
  obtain ⟨r, h, _⟩ := expr_T (l := l) (i := i) (ln := ln) (cl := cl) hB hp hv
  refine (one_T hB hp hv r h).mono fun e w' ho => ⟨ho.1, ?_⟩
  cases r with
  | ok a rest =>
    obtain ⟨_, j, v, rfl, hp, he, hR⟩ := ho
    exact .inl ⟨a, j, v, h, hp, he, hR⟩
  | bad rest =>
    obtain ⟨_, j, rfl, hj, he⟩ := ho
    exact .inr ⟨j, h, hj, he⟩
end
end Go.Proofs.YtnjnadlgndjnbaaDoor.Pk
