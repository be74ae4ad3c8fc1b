/- AstParts: the walks of exprs and parts where all is valid: they answer true. -/
import Derived.Test.YtgkhpecllhiidaaDoorEa
import Derived.Test.YtgkhpecllhiidaaDoorPw
set_option linter.unusedVariables false
set_option linter.unusedSimpArgs false
namespace Go.Proofs.YtgkhpecllhiidaaDoor.A
open Go.RowKit Go.Shelf Go.Proofs.YtgkhpecllhiidaaDoor.As Go.Proofs.YtgkhpecllhiidaaDoorW.PrintWords Go.Proofs.YtgkhpecllhiidaaDoorW.PrintLast Go.Proofs.YtgkhpecllhiidaaDoorW.PrintMore
def ElE (W : World) (ad : Addr) (i : Nat) (z : SE) (E5 : Option Addr) (x5 : Nat) : Prop := W.cell? (ad.add (i * 6)) = some (.int .i64 z.f0) ∧ W.cell? ⟨(ad.add (i * 6)).block, (ad.add (i * 6)).off + 1, none⟩ = some (.int .i64 z.f1) ∧ W.cell? ⟨(ad.add (i * 6)).block, (ad.add (i * 6)).off + 2, none⟩ = some (.int .i64 z.f2) ∧ W.cell? ⟨(ad.add (i * 6)).block, (ad.add (i * 6)).off + 3, none⟩ = some (.int .u32 z.f3) ∧ W.cell? ⟨(ad.add (i * 6)).block, (ad.add (i * 6)).off + 4, none⟩ = some (.string z.f4) ∧ W.cell? ⟨(ad.add (i * 6)).block, (ad.add (i * 6)).off + 5, none⟩ = some (.slice E5 z.f5.length x5)
def ElS (W : World) (ad : Addr) (i : Nat) (z : SS) (E5 E6 E7 E8 E9 : Option Addr) (x5 x6 x7 x8 x9 : Nat) : Prop := W.cell? (ad.add (i * 10)) = some (.int .i64 z.f0) ∧ W.cell? ⟨(ad.add (i * 10)).block, (ad.add (i * 10)).off + 1, none⟩ = some (.int .i64 z.f1) ∧ W.cell? ⟨(ad.add (i * 10)).block, (ad.add (i * 10)).off + 2, none⟩ = some (.int .i64 z.f2) ∧ W.cell? ⟨(ad.add (i * 10)).block, (ad.add (i * 10)).off + 3, none⟩ = some (.int .i64 z.f3) ∧ W.cell? ⟨(ad.add (i * 10)).block, (ad.add (i * 10)).off + 4, none⟩ = some (.string z.f4) ∧ W.cell? ⟨(ad.add (i * 10)).block, (ad.add (i * 10)).off + 5, none⟩ = some (.slice E5 z.f5.length x5) ∧ W.cell? ⟨(ad.add (i * 10)).block, (ad.add (i * 10)).off + 6, none⟩ = some (.slice E6 z.f6.length x6) ∧ W.cell? ⟨(ad.add (i * 10)).block, (ad.add (i * 10)).off + 7, none⟩ = some (.slice E7 z.f7.length x7) ∧ W.cell? ⟨(ad.add (i * 10)).block, (ad.add (i * 10)).off + 8, none⟩ = some (.slice E8 z.f8.length x8) ∧ W.cell? ⟨(ad.add (i * 10)).block, (ad.add (i * 10)).off + 9, none⟩ = some (.slice E9 z.f9.length x9)
set_option maxRecDepth 100000 in
set_option maxHeartbeats 8000000 in
theorem exprs_step (D : Nat) (ih : ∀ l : List SE, deepEs l ≤ D → GoodE l → ∀ (A : Option Addr) (c : Nat) (w : World), Keys w → kE.C w A l.length l → l.length ≤ c → Calls Tryd.prog 93 #[.slice A l.length c] w fun e w' => e = .returned (.bool true) ∧ Below w.heap.size w w')
    (l : List SE) (hD : deepEs l ≤ D + 1) (hgood : GoodE l) (A : Option Addr) (c : Nat) (w : World) (hK : Keys w) (hC : kE.C w A l.length l) : Calls Tryd.prog 93 #[.slice A l.length c] w fun e w' => e = .returned (.bool true) ∧ Below w.heap.size w w' := by
  have hln : l.length ≤ 9223372036854775807 := hC.2.1
  have H1 := Lx.Hd.mk hC
  have IH := Lx.Hd.mk ih
  have HK := Lx.Hd.mk hK
  have HGD := Lx.Hd.mk hgood
  clear hC ih hK hgood
  go_enter Tryd.func93, Tryd.ntmps93
  go_wp2
  go_loopw [3] (fun t3 wr => ∃ i : Nat, i ≤ l.length ∧ t3 = .int .i64 i ∧ Below w.heap.size w wr) (fun t3 _ => l.length - (intOf t3).toNat)
  case atStart => exact ⟨0, Nat.zero_le _, rfl, Below.refl _ _⟩
  case round =>
    obtain ⟨i, hi, rfl, hB⟩ := hrel
    by_cases hlt : i < l.length
    rotate_left
    · have HB := Lx.Hd.mk hB
      clear hB
      go_wp2
      go_ret
      exact ⟨rfl, HB.out⟩
    obtain ⟨ad, E5, x5, rfl, e0, e1, e2, e3, e4, e5, k5, g5⟩ := at_T25 H1.out i (by omega) (by omega)
    have ex : rd_T25 l i = l[i] := by unfold rd_T25; rw [Int.toNat_natCast, List.getD_eq_getElem?_getD, List.getElem?_eq_getElem hlt]; rfl
    have hmem := List.getElem_mem hlt
    rw [ex] at e0 e1 e2 e3 e4 e5 k5 g5
    rw [Int.toNat_natCast] at e0 e1 e2 e3 e4 e5
    have hgd := goodE_elem HGD.out hmem
    have hd := deep_mem_E hmem
    clear ex hmem
    generalize l[i] = z at *
    obtain ⟨hch, hft⟩ := goodE_check hgd
    obtain ⟨hkid, hdk⟩ := goodE_kids hgd
    have K1 : Lx.Hd (∀ W, Below w.heap.size w W → Calls Tryd.prog 16 #[.agg #[.int .i64 z.f0, .int .i64 z.f1, .int .i64 z.f2, .int .u32 z.f3, .string z.f4, .slice E5 z.f5.length x5]] W fun r W' => r = .returned (.int .i64 0) ∧ Below W.heap.size W W') := Lx.Hd.mk fun W hb => by have q := check_calls z hft E5 x5 W (Keys.below HK.out hb) k5 (Kd.C_below g5 hb); rw [hch] at q; exact q
    have K2 : Lx.Hd (∀ W, Below w.heap.size w W → Calls Tryd.prog 36 #[.agg #[.int .i64 z.f0, .int .i64 z.f1, .int .i64 z.f2, .int .u32 z.f3, .string z.f4, .slice E5 z.f5.length x5], .agg #[.int .i64 z.f0, .int .i64 z.f1, .int .i64 z.f2, .int .u32 z.f3, .string z.f4, .slice E5 z.f5.length x5]] W fun r W' => r = .returned (.bool true) ∧ Below W.heap.size W W') := Lx.Hd.mk fun W hb => by have q := sameAt_any (deepE z) z (Nat.le_refl _) z E5 x5 E5 x5 W ⟨Kd.C_below g5 hb, k5⟩ ⟨Kd.C_below g5 hb, k5⟩; rw [sameE_rfl] at q; exact q
    have K3 : Lx.Hd (∀ W, Below w.heap.size w W → Calls Tryd.prog 93 #[.slice E5 z.f5.length x5] W fun r W' => r = .returned (.bool true) ∧ Below W.heap.size W W') := Lx.Hd.mk fun W hb => IH.out z.f5 (by omega) hkid E5 x5 W (Keys.below HK.out hb) (Kd.C_below g5 hb) k5
    have HF : Lx.Hd (∀ W, Below w.heap.size w W → ElE W ad i z E5 x5) := Lx.Hd.mk fun W hb => ⟨pw_cell_below hb e0, pw_cell_below hb e1, pw_cell_below hb e2, pw_cell_below hb e3, pw_cell_below hb e4, pw_cell_below hb e5⟩
    have HB := Lx.Hd.mk hB
    have i1 : decide ((i : Int) < (l.length : Int)) = true := decide_eq_true (by omega)
    have i2 : decide (i < l.length) = true := decide_eq_true hlt
    clear hB hgd hd hch hft hkid hdk e0 e1 e2 e3 e4 e5 k5 g5
    have hu25 := Tryd.underlying25
    go_upto_region 4 with (fail)
    have HBd := Lx.Hd.mk (below_drew HB.out)
    refine start_ (n := 27) (S := fun w' => ElE w' ad i z E5 x5) (ds := []) (fl 27 0) (by kernel_rfl) rfl rfl (HF.out _ HBd.out) (fun hHeld => ?_)
    clear HB
    have HB := HBd
    clear HBd
    refine pu 0 (some 10) (fl 27 1) ?_
    refine pu 1 (some 11) (fl 27 3) ?_
    refine pu 2 (some 12) (fl 27 7) ?_
    refine tk 3 (some 13) (fl 27 15) hHeld (hr := by rintro w' ⟨s0, s1, s2, s3, s4, s5⟩; go_simp; with_reducible rfl) (h := ?_)
    refine ca 4 14 (fl 27 31) Tryd.func16 (K1.out _ HB.out) HB HF.out ?_; clear HB hHeld; intro W3 HB hHeld
    refine pu 5 (some 15) (fl 27 63) ?_
    refine pu 6 (some 16) (fl 27 127) ?_
    refine pu 7 (some 17) (fl 27 255) ?_
    refine pu 8 (some 18) (fl 27 511) ?_
    refine pu 9 (some 19) (fl 27 1023) ?_
    refine pu 11 (some 21) (fl 27 3071) ?_
    refine pu 12 (some 22) (fl 27 7167) ?_
    refine pu 13 (some 23) (fl 27 15359) ?_
    refine tk 10 (some 20) (fl 27 16383) hHeld (hr := by rintro w' ⟨s0, s1, s2, s3, s4, s5⟩; go_simp; with_reducible rfl) (h := ?_)
    refine tk 14 (some 24) (fl 27 32767) hHeld (hr := by rintro w' ⟨s0, s1, s2, s3, s4, s5⟩; go_simp; with_reducible rfl) (h := ?_)
    refine ca 15 25 (fl 27 65535) Tryd.func36 (K2.out _ HB.out) HB HF.out ?_; clear HB hHeld; intro W3 HB hHeld
    refine pu 16 (some 26) (fl 27 131071) ?_
    refine pu 17 (some 27) (fl 27 262143) ?_
    refine pu 18 (some 28) (fl 27 524287) ?_
    refine pu 19 (some 29) (fl 27 1048575) ?_
    refine pu 20 (some 30) (fl 27 2097151) ?_
    refine pu 21 (some 31) (fl 27 4194303) ?_
    refine pu 22 (some 32) (fl 27 8388607) ?_
    refine tk 23 (some 33) (fl 27 16777215) hHeld (hr := by rintro w' ⟨s0, s1, s2, s3, s4, s5⟩; go_simp; with_reducible rfl) (h := ?_)
    refine ca 24 34 (fl 27 33554431) Tryd.func93 (K3.out _ HB.out) HB HF.out ?_; clear HB hHeld; intro W3 HB hHeld
    refine pu 25 (some 35) (fl 27 67108863) ?_
    refine pu 26 (some 36) (fl 27 134217727) ?_
    refine done_ (by kernel_rfl) ?_
    go_wp2
    exact ⟨⟨i + 1, hlt, by go_num, HB.out⟩, by simp [intOf]; omega⟩
theorem exprs_any : ∀ (D : Nat) (l : List SE), deepEs l ≤ D → GoodE l → ∀ (A : Option Addr) (c : Nat) (w : World), Keys w → kE.C w A l.length l → l.length ≤ c → Calls Tryd.prog 93 #[.slice A l.length c] w fun e w' => e = .returned (.bool true) ∧ Below w.heap.size w w'
  | 0, l, hD, hg, A, c, w, hK, hC, hc => by
    cases l with
    | nil => 
      go_enter Tryd.func93, Tryd.ntmps93
      go_wp2
      go_loopw [3] (fun t3 wr => t3 = .int .i64 0 ∧ Below w.heap.size w wr) (fun t3 _ => 0)
      case atStart => exact ⟨rfl, Below.refl _ _⟩
      case round =>
        obtain ⟨rfl, hB⟩ := hrel
        have HB := Lx.Hd.mk hB
        clear hB
        go_wp2
        go_ret
        exact ⟨rfl, HB.out⟩
    | cons e l => rw [deepEs] at hD; obtain ⟨_, _, _, _, _, q⟩ := e; rw [deepE] at hD; omega
  | D + 1, l, hD, hg, A, c, w, hK, hC, hc => exprs_step D (exprs_any D) l hD hg A c w hK hC
theorem checkS_any (s : SS) (hf : fitB (.st s) = true) (A5 A6 A7 A8 A9 : Option Addr) (c5 c6 c7 c8 c9 : Nat) (W : World) (hG : Keys W) (hR : RowsS W s A5 A6 A7 A8 A9 c5 c6 c7 c8 c9) :
    Calls Tryd.prog 22 #[.agg #[.int .i64 s.f0, .int .i64 s.f1, .int .i64 s.f2, .int .i64 s.f3, .string s.f4, .slice A5 s.f5.length c5, .slice A6 s.f6.length c6, .slice A7 s.f7.length c7, .slice A8 s.f8.length c8, .slice A9 s.f9.length c9]] W fun r W' => r = .returned (.int .i64 (checkN [.st s])) ∧ Below W.heap.size W W' := by
  obtain ⟨a0, a1, a2, a3, a4, l5, l6, l7, l8, l9⟩ := s
  exact ast_CheckStmt.calls a0 a1 a2 a3 a4 A5 c5 l5 A6 c6 l6 A7 c7 l7 A8 c8 l8 A9 c9 l9 _ W hG hR.1 hR.2.2.2.2.2.1 hR.2.1 hR.2.2.2.2.2.2.1 hR.2.2.1 hR.2.2.2.2.2.2.2.1 hR.2.2.2.1 hR.2.2.2.2.2.2.2.2.1 hR.2.2.2.2.1 hR.2.2.2.2.2.2.2.2.2 (by unfold ast_CheckStmt.f; rw [if_pos hf])
def PartsAt (l : List SS) : Prop := ∀ (A : Option Addr) (c : Nat) (w : World), Keys w → kS.C w A l.length l → l.length ≤ c → Calls Tryd.prog 50 #[.slice A l.length c] w fun e w' => e = .returned (.bool true) ∧ Below w.heap.size w w'
set_option maxRecDepth 100000 in
set_option maxHeartbeats 8000000 in
theorem parts_step (D : Nat) (ih : ∀ l : List SS, deepSs l ≤ D → GoodS l → PartsAt l) (l : List SS) (hD : deepSs l ≤ D + 1) (hgood : GoodS l) : PartsAt l := by
  intro A c w hK hC hlc
  have hln : l.length ≤ 9223372036854775807 := hC.2.1
  have H1 := Lx.Hd.mk hC
  have IH := Lx.Hd.mk ih
  have HK := Lx.Hd.mk hK
  have HGD := Lx.Hd.mk hgood
  clear hC ih hK hgood
  go_enter Tryd.func50, Tryd.ntmps50
  go_wp2
  go_loopw [3] (fun t3 wr => ∃ i : Nat, i ≤ l.length ∧ t3 = .int .i64 i ∧ Below w.heap.size w wr) (fun t3 _ => l.length - (intOf t3).toNat)
  case atStart => exact ⟨0, Nat.zero_le _, rfl, Below.refl _ _⟩
  case round =>
    obtain ⟨i, hi, rfl, hB⟩ := hrel
    by_cases hlt : i < l.length
    rotate_left
    · have HB := Lx.Hd.mk hB
      clear hB
      go_wp2
      go_ret
      exact ⟨rfl, HB.out⟩
    obtain ⟨ad, E5, x5, E6, x6, E7, x7, E8, x8, E9, x9, rfl, e0, e1, e2, e3, e4, e5, e6, e7, e8, e9, k5, g5, k6, g6, k7, g7, k8, g8, k9, g9⟩ := at_T38 H1.out i (by omega) (by omega)
    have ex : rd_T38 l i = l[i] := by unfold rd_T38; rw [Int.toNat_natCast, List.getD_eq_getElem?_getD, List.getElem?_eq_getElem hlt]; rfl
    have hmem := List.getElem_mem hlt
    rw [ex] at e0 e1 e2 e3 e4 e5 e6 e7 e8 e9 k5 g5 k6 g6 k7 g7 k8 g8 k9 g9
    rw [Int.toNat_natCast] at e0 e1 e2 e3 e4 e5 e6 e7 e8 e9
    have gd := goodS_elem HGD.out hmem
    have hd := deep_mem_S hmem
    clear ex hmem
    generalize l[i] = z at *
    obtain ⟨hch, hft⟩ := goodS_check gd
    obtain ⟨g_6, g_7, g_8, g_9⟩ := goodS_kids gd
    have kd := deepS_kids z
    have K1 : Lx.Hd (∀ W, Below w.heap.size w W → Calls Tryd.prog 22 #[.agg #[.int .i64 z.f0, .int .i64 z.f1, .int .i64 z.f2, .int .i64 z.f3, .string z.f4, .slice E5 z.f5.length x5, .slice E6 z.f6.length x6, .slice E7 z.f7.length x7, .slice E8 z.f8.length x8, .slice E9 z.f9.length x9]] W fun r W' => r = .returned (.int .i64 0) ∧ Below W.heap.size W W') := Lx.Hd.mk fun W hb => by have q := checkS_any z hft E5 E6 E7 E8 E9 x5 x6 x7 x8 x9 W (Keys.below HK.out hb) ⟨Kd.C_below g5 hb, Kd.C_below g6 hb, Kd.C_below g7 hb, Kd.C_below g8 hb, Kd.C_below g9 hb, k5, k6, k7, k8, k9⟩; rw [hch] at q; exact q
    have K2 : Lx.Hd (∀ W, Below w.heap.size w W → Calls Tryd.prog 46 #[.agg #[.int .i64 z.f0, .int .i64 z.f1, .int .i64 z.f2, .int .i64 z.f3, .string z.f4, .slice E5 z.f5.length x5, .slice E6 z.f6.length x6, .slice E7 z.f7.length x7, .slice E8 z.f8.length x8, .slice E9 z.f9.length x9], .agg #[.int .i64 z.f0, .int .i64 z.f1, .int .i64 z.f2, .int .i64 z.f3, .string z.f4, .slice E5 z.f5.length x5, .slice E6 z.f6.length x6, .slice E7 z.f7.length x7, .slice E8 z.f8.length x8, .slice E9 z.f9.length x9]] W fun r W' => r = .returned (.bool true) ∧ Below W.heap.size W W') := Lx.Hd.mk fun W hb => by have q := sameAtS_any (deepS z) z (Nat.le_refl _) z E5 E6 E7 E8 E9 x5 x6 x7 x8 x9 E5 E6 E7 E8 E9 x5 x6 x7 x8 x9 W ⟨Kd.C_below g5 hb, Kd.C_below g6 hb, Kd.C_below g7 hb, Kd.C_below g8 hb, Kd.C_below g9 hb, k5, k6, k7, k8, k9⟩ ⟨Kd.C_below g5 hb, Kd.C_below g6 hb, Kd.C_below g7 hb, Kd.C_below g8 hb, Kd.C_below g9 hb, k5, k6, k7, k8, k9⟩; rw [sameS_refl] at q; exact q
    have K8 : Lx.Hd (∀ W, Below w.heap.size w W → Calls Tryd.prog 50 #[.slice E8 z.f8.length x8] W fun r W' => r = .returned (.bool true) ∧ Below W.heap.size W W') := Lx.Hd.mk fun W hb => IH.out z.f8 (by omega) g_8 E8 x8 W (Keys.below HK.out hb) (Kd.C_below g8 hb) k8
    have K9 : Lx.Hd (∀ W, Below w.heap.size w W → Calls Tryd.prog 50 #[.slice E9 z.f9.length x9] W fun r W' => r = .returned (.bool true) ∧ Below W.heap.size W W') := Lx.Hd.mk fun W hb => IH.out z.f9 (by omega) g_9 E9 x9 W (Keys.below HK.out hb) (Kd.C_below g9 hb) k9
    have K6 : Lx.Hd (∀ W, Below w.heap.size w W → Calls Tryd.prog 93 #[.slice E6 z.f6.length x6] W fun r W' => r = .returned (.bool true) ∧ Below W.heap.size W W') := Lx.Hd.mk fun W hb => exprs_any _ z.f6 (Nat.le_refl _) g_6 E6 x6 W (Keys.below HK.out hb) (Kd.C_below g6 hb) k6
    have K7 : Lx.Hd (∀ W, Below w.heap.size w W → Calls Tryd.prog 93 #[.slice E7 z.f7.length x7] W fun r W' => r = .returned (.bool true) ∧ Below W.heap.size W W') := Lx.Hd.mk fun W hb => exprs_any _ z.f7 (Nat.le_refl _) g_7 E7 x7 W (Keys.below HK.out hb) (Kd.C_below g7 hb) k7
    have i1 : decide ((i : Int) < (l.length : Int)) = true := decide_eq_true (by omega)
    have i2 : decide (i < l.length) = true := decide_eq_true hlt
    have a0 := pw_cell_below hB e0
    have a1 := pw_cell_below hB e1
    have a2 := pw_cell_below hB e2
    have a3 := pw_cell_below hB e3
    have a4 := pw_cell_below hB e4
    have a5 := pw_cell_below hB e5
    have a6 := pw_cell_below hB e6
    have a7 := pw_cell_below hB e7
    have a8 := pw_cell_below hB e8
    have a9 := pw_cell_below hB e9
    have HB := Lx.Hd.mk hB
    clear hB gd hd hch hft g_6 g_7 g_8 g_9 kd e0 e1 e2 e3 e4 e5 e6 e7 e8 e9 k5 g5 k6 g6 k7 g7 k8 g8 k9 g9
    have hu38 := Tryd.underlying38
    go_upto_region 5 with (fail)
    refine name_world fun W4 hW4 => ?_
    have HB4 : Lx.Hd (Below w.heap.size w W4) := Lx.Hd.mk (by rw [hW4]; exact below_alloc HB.out _)
    have hb4 : W4.heap[wr.heap.size]? = some (.cells #[.int .i64 z.f0, .int .i64 z.f1, .int .i64 z.f2, .int .i64 z.f3, .string z.f4, .slice E5 z.f5.length x5, .slice E6 z.f6.length x6, .slice E7 z.f7.length x7, .slice E8 z.f8.length x8, .slice E9 z.f9.length x9] 38 (0, 0)) := by rw [hW4]; exact World.alloc_heap_new wr _
    have BC := Lx.Hd.mk (bkS_of hb4)
    have HC : Lx.Hd (Below W4.heap.size W4 W4) := Lx.Hd.mk (Below.refl _ _)
    clear hW4 hb4 HB a0 a1 a2 a3 a4 a5 a6 a7 a8 a9
    have HB := HB4
    clear HB4
    generalize wr.heap.size = bs at BC ⊢
    obtain ⟨q0, q1, q2, q3, q4, q5, q6, q7, q8, q9⟩ := BC.out _ HC.out
    go_wp2_with (first | (go_at_call 22; (with_reducible refine (K1.out _ HB.out).mono ?_); rintro r W5 ⟨rfl, hb⟩; have hn_ := Lx.Hd.mk (below_step HB.out hb); have hm_ := Lx.Hd.mk (below_step HC.out hb); clear hb HB HC; have HB := hn_; have HC := hm_; clear hn_ hm_; clear q0 q1 q2 q3 q4 q5 q6 q7 q8 q9; obtain ⟨q0, q1, q2, q3, q4, q5, q6, q7, q8, q9⟩ := BC.out _ HC.out) | (go_at_call 46; (with_reducible refine (K2.out _ HB.out).mono ?_); rintro r W5 ⟨rfl, hb⟩; have hn_ := Lx.Hd.mk (below_step HB.out hb); have hm_ := Lx.Hd.mk (below_step HC.out hb); clear hb HB HC; have HB := hn_; have HC := hm_; clear hn_ hm_; clear q0 q1 q2 q3 q4 q5 q6 q7 q8 q9; obtain ⟨q0, q1, q2, q3, q4, q5, q6, q7, q8, q9⟩ := BC.out _ HC.out) | (go_at_call 50; (with_reducible refine (K8.out _ HB.out).mono ?_); rintro r W5 ⟨rfl, hb⟩; have hn_ := Lx.Hd.mk (below_step HB.out hb); have hm_ := Lx.Hd.mk (below_step HC.out hb); clear hb HB HC; have HB := hn_; have HC := hm_; clear hn_ hm_; clear q0 q1 q2 q3 q4 q5 q6 q7 q8 q9; obtain ⟨q0, q1, q2, q3, q4, q5, q6, q7, q8, q9⟩ := BC.out _ HC.out) | (go_at_call 50; (with_reducible refine (K9.out _ HB.out).mono ?_); rintro r W5 ⟨rfl, hb⟩; have hn_ := Lx.Hd.mk (below_step HB.out hb); have hm_ := Lx.Hd.mk (below_step HC.out hb); clear hb HB HC; have HB := hn_; have HC := hm_; clear hn_ hm_; clear q0 q1 q2 q3 q4 q5 q6 q7 q8 q9; obtain ⟨q0, q1, q2, q3, q4, q5, q6, q7, q8, q9⟩ := BC.out _ HC.out) | (go_at_call 93; (with_reducible refine (K6.out _ HB.out).mono ?_); rintro r W5 ⟨rfl, hb⟩; have hn_ := Lx.Hd.mk (below_step HB.out hb); have hm_ := Lx.Hd.mk (below_step HC.out hb); clear hb HB HC; have HB := hn_; have HC := hm_; clear hn_ hm_; clear q0 q1 q2 q3 q4 q5 q6 q7 q8 q9; obtain ⟨q0, q1, q2, q3, q4, q5, q6, q7, q8, q9⟩ := BC.out _ HC.out) | (go_at_call 93; (with_reducible refine (K7.out _ HB.out).mono ?_); rintro r W5 ⟨rfl, hb⟩; have hn_ := Lx.Hd.mk (below_step HB.out hb); have hm_ := Lx.Hd.mk (below_step HC.out hb); clear hb HB HC; have HB := hn_; have HC := hm_; clear hn_ hm_; clear q0 q1 q2 q3 q4 q5 q6 q7 q8 q9; obtain ⟨q0, q1, q2, q3, q4, q5, q6, q7, q8, q9⟩ := BC.out _ HC.out) | fail)
    exact ⟨⟨i + 1, hlt, by go_num, HB.out⟩, by simp [intOf]; omega⟩
theorem parts_any : ∀ (D : Nat) (l : List SS), deepSs l ≤ D → GoodS l → PartsAt l
  | 0, l, hD, hg => by
    cases l with
    | nil =>
      intro A c w hK hC hc
      go_enter Tryd.func50, Tryd.ntmps50
      go_wp2
      go_loopw [3] (fun t3 wr => t3 = .int .i64 0 ∧ Below w.heap.size w wr) (fun t3 _ => 0)
      case atStart => exact ⟨rfl, Below.refl _ _⟩
      case round =>
        obtain ⟨rfl, hB⟩ := hrel
        have HB := Lx.Hd.mk hB
        clear hB
        go_wp2
        go_ret
        exact ⟨rfl, HB.out⟩
    | cons e l => rw [deepSs] at hD; obtain ⟨_, _, _, _, _, _, _, _, _, _⟩ := e; rw [deepS] at hD; omega
  | D + 1, l, hD, hg => parts_step D (parts_any D) l hD hg
end Go.Proofs.YtgkhpecllhiidaaDoor.A
