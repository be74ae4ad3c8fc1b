/- Parse: the level of an operator (parse.Level); kit.Pick at sixteen. -/
import Derived.Test.YtnjnadlgndjnbaaDoorYKv
set_option linter.unusedVariables false
set_option linter.unusedSimpArgs false
namespace Go.Proofs.YtnjnadlgndjnbaaDoor.Pk
open Go.RowKit Go.Proofs.YtnjnadlgndjnbaaDoorW.PrintWords Go.Proofs.YtnjnadlgndjnbaaDoorW.PrintLast Go.Proofs.YtnjnadlgndjnbaaDoorW.PrintMore Go.Proofs.YtnjnadlgndjnbaaDoor.Lx
def hasOp (op : Int) (n : Nat) : Bool := (Fp.levelOps n).any fun o => o.2 == op
def lvI (op : Int) : Int := ((List.range 9).find? fun n => hasOp op n).getD 0
theorem lev_found {op : Int} {m : Nat} (hm : m < 9) (h : hasOp op m = true) (hno : ∀ q, q < m → hasOp op q = false) : lvI op = m := by
  unfold lvI
  rw [List.find?_range_eq_some.2 ⟨h, List.mem_range.2 hm, fun j hj => by rw [hno j hj]; rfl⟩]
  rfl
theorem lev_none {op : Int} (hno : ∀ q, q < 9 → hasOp op q = false) : lvI op = 0 := by
  unfold lvI
  rw [List.find?_eq_none.2 (fun q hq => by rw [hno q (List.mem_range.1 hq)]; decide)]
  rfl
theorem lev_len9 : ∀ n : Nat, n ≤ 8 → (levT n).length ≤ 4 := by
  intro n hn
  rcases (by omega : n = 0 ∨ n = 1 ∨ n = 2 ∨ n = 3 ∨ n = 4 ∨ n = 5 ∨ n = 6 ∨ n = 7 ∨ n = 8) with rfl | rfl | rfl | rfl | rfl | rfl | rfl | rfl | rfl <;> decide
set_option maxRecDepth 100000 in
theorem pick_any (n : Int) (w : World) : Calls Tryd.prog 9 #[.int .i64 n, .int .i64 16] w fun e w' => w' = w ∧ e = .returned (.int .i64 ((if n.tmod 16 < 0 then (n.tmod 16 + 16).toNat else (n.tmod 16).toNat : Nat) : Int)) := by
  have h1 : -16 < n.tmod 16 := Int.lt_tmod_of_pos n (by decide)
  have h2 : n.tmod 16 < 16 := Int.tmod_lt_of_pos n (by decide)
  have e2 : wrap64 (n.tmod 16 + 16) = n.tmod 16 + 16 := by
    have := IntWalk.i64_in (n.tmod 16 + 16) (by omega)
    simpa only [i64_w] using this
  go_enter Tryd.func9, Tryd.ntmps9
  go_wp2
  · go_ret
    exact ⟨rfl, by rw [show max (n.tmod 16 + 16) 0 = n.tmod 16 + 16 from by omega]; rfl⟩
  · go_ret
    exact ⟨rfl, by rw [show max (n.tmod 16) 0 = n.tmod 16 from by omega]; rfl⟩
theorem pick_at (n : Int) : ∃ a : Nat, a < 16 ∧ ∀ w : World, Calls Tryd.prog 9 #[.int .i64 n, .int .i64 16] w fun e w' => w' = w ∧ e = .returned (.int .i64 a) :=
  ⟨if n.tmod 16 < 0 then (n.tmod 16 + 16).toNat else (n.tmod 16).toNat, by have h1 : -16 < n.tmod 16 := Int.lt_tmod_of_pos n (by decide); have h2 : n.tmod 16 < 16 := Int.tmod_lt_of_pos n (by decide); split <;> omega, fun w => pick_any n w⟩
set_option maxRecDepth 100000 in
set_option maxHeartbeats 2000000 in
theorem level_any (op : Int) (w : World) (hP : PW w) : Calls Tryd.prog 10 #[.int .i64 op] w fun e w' => e = .returned (.int .i64 (lvI op)) ∧ w' = w := by
  obtain ⟨hgl, hL⟩ := hP.levels
  obtain ⟨bm, hb1, hb2, hb3, hb4⟩ := hP.signs
  obtain ⟨A0, c0, k0, m0, C0⟩ := hL 0 (by decide)
  obtain ⟨A1, c1, k1, m1, C1⟩ := hL 1 (by decide)
  obtain ⟨A2, c2, k2, m2, C2⟩ := hL 2 (by decide)
  obtain ⟨A3, c3, k3, m3, C3⟩ := hL 3 (by decide)
  obtain ⟨A4, c4, k4, m4, C4⟩ := hL 4 (by decide)
  obtain ⟨A5, c5, k5, m5, C5⟩ := hL 5 (by decide)
  obtain ⟨A6, c6, k6, m6, C6⟩ := hL 6 (by decide)
  obtain ⟨A7, c7, k7, m7, C7⟩ := hL 7 (by decide)
  obtain ⟨A8, c8, k8, m8, C8⟩ := hL 8 (by decide)
  have hix : ∀ m : Nat, m ≤ 8 → ∃ A c, (levT m).length ≤ c ∧ Kd.C Kd.string w A (levT m).length (levT m) ∧ ∀ W : World, (Instr.index 70 (.agg #[.slice A0 (levT 0).length c0, .slice A1 (levT 1).length c1, .slice A2 (levT 2).length c2, .slice A3 (levT 3).length c3, .slice A4 (levT 4).length c4, .slice A5 (levT 5).length c5, .slice A6 (levT 6).length c6, .slice A7 (levT 7).length c7, .slice A8 (levT 8).length c8]) (.int .i64 m)).run Tryd.prog W = .ok (.slice A (levT m).length c) W := by
    intro m hm
    rcases (by omega : m = 0 ∨ m = 1 ∨ m = 2 ∨ m = 3 ∨ m = 4 ∨ m = 5 ∨ m = 6 ∨ m = 7 ∨ m = 8) with rfl | rfl | rfl | rfl | rfl | rfl | rfl | rfl | rfl
    · exact ⟨A0, c0, m0, C0, fun W => by kernel_rfl⟩
    · exact ⟨A1, c1, m1, C1, fun W => by kernel_rfl⟩
    · exact ⟨A2, c2, m2, C2, fun W => by kernel_rfl⟩
    · exact ⟨A3, c3, m3, C3, fun W => by kernel_rfl⟩
    · exact ⟨A4, c4, m4, C4, fun W => by kernel_rfl⟩
    · exact ⟨A5, c5, m5, C5, fun W => by kernel_rfl⟩
    · exact ⟨A6, c6, m6, C6, fun W => by kernel_rfl⟩
    · exact ⟨A7, c7, m7, C7, fun W => by kernel_rfl⟩
    · exact ⟨A8, c8, m8, C8, fun W => by kernel_rfl⟩
  clear m0 m1 m2 m3 m4 m5 m6 m7 m8 C0 C1 C2 C3 C4 C5 C6 C7 C8 hL
  go_enter Tryd.func10, Tryd.ntmps10
  go_wp2
  have HL := Hd.mk hix
  have HB := Hd.mk hb4
  clear hix hb4 k0 k1 k2 k3 k4 k5 k6 k7 k8
  generalize (#[.slice A0 (levT 0).length c0, .slice A1 (levT 1).length c1, .slice A2 (levT 2).length c2, .slice A3 (levT 3).length c3, .slice A4 (levT 4).length c4, .slice A5 (levT 5).length c5, .slice A6 (levT 6).length c6, .slice A7 (levT 7).length c7, .slice A8 (levT 8).length c8] : Array Value) = T at HL ⊢
  go_loopw [8] (fun t wr => ∃ m : Nat, m ≤ 9 ∧ t = .int .i64 m ∧ wr = w ∧ Hd (∀ q, q < m → hasOp op q = false)) (fun t _ => 9 - (intOf t).toNat)
  case atStart => exact ⟨0, by omega, rfl, rfl, ⟨fun q hq => absurd hq (Nat.not_lt_zero q)⟩⟩
  case round =>
    obtain ⟨m, hm, rfl, rfl, HN⟩ := hrel
    by_cases hm9 : m = 9
    · subst hm9
      clear HL HB
      go_wp2
      go_ret
      exact ⟨by rw [lev_none HN.out]; rfl, rfl⟩
    · obtain ⟨A, c, hlc, hC, hx⟩ := HL.out m (by omega)
      have hixm := hx wr
      have hlt9 : (m : Int) < 9 := by omega
      have h4 := lev_len9 m (by omega)
      have e8 : IntKind.i64.wrap ((m : Int) + 1) = (m : Int) + 1 := IntWalk.i64_in _ (by omega)
      have HC := Hd.mk hC
      clear hx hC
      generalize hLn : (levT m).length = Ln at *
      go_wp2
      go_loopw [14] (fun t wq => ∃ j : Nat, j ≤ Ln ∧ t = .int .i64 j ∧ wq = wr ∧ Hd (∀ q, q < j → ∀ o, (Fp.levelOps m)[q]? = some o → ¬ o.2 = op)) (fun t _ => Ln - (intOf t).toNat)
      case atStart => exact ⟨0, by omega, rfl, rfl, ⟨fun q hq => absurd hq (Nat.not_lt_zero q)⟩⟩
      case round =>
        obtain ⟨j, hj, rfl, rfl, HI⟩ := hrel
        have hlv : Ln = (Fp.levelOps m).length := by rw [← hLn]; simp [levT]
        by_cases hjl : j < Ln
        · obtain ⟨o, ho⟩ : ∃ o, (Fp.levelOps m)[j]? = some o := ⟨_, List.getElem?_eq_getElem (by omega)⟩
          obtain ⟨ad, hAl, hcs⟩ := Kd.at_string HC.out j (by omega) (by omega)
          subst hAl
          rw [Int.toNat_natCast] at hcs
          have hrd : rdOf ByteArray.empty (levT m) (j : Int) = ⟨o.1.toArray⟩ := by
            unfold rdOf levT; rw [Int.toNat_natCast, List.getD_eq_getElem?_getD, List.getElem?_map, ho]; rfl
          rw [hrd] at hcs
          have hlt' : (j : Int) < (Ln : Int) := by omega
          have hsg := HB.out wr rfl ⟨o.1.toArray⟩ (by have := lev_len m (by omega) o (List.mem_of_getElem? ho); show o.1.toArray.size ≤ _; simp; omega)
          rw [lev_sign m (by omega) o (List.mem_of_getElem? ho)] at hsg
          have e1 : IntKind.i64.wrap ((j : Int) + 1) = (j : Int) + 1 := IntWalk.i64_in _ (by omega)
          generalize (⟨o.1.toArray⟩ : ByteArray) = so at hcs hsg
          by_cases hN : o.2 = op
          · have HH := Hd.mk (lev_found (by omega) (List.any_eq_true.2 ⟨o, List.mem_of_getElem? ho, by rw [hN]; exact beq_self_eq_true op⟩) HN.out)
            rw [hN] at hsg
            clear ho HI HN HL HB HC hlv hN
            go_wp2
            go_ret
            exact ⟨by rw [HH.out]; rfl, rfl⟩
          · have HH := Hd.mk hN
            have HO := Hd.mk ho
            obtain ⟨N, hNN⟩ : ∃ N, o.2 = N := ⟨_, rfl⟩
            rw [hNN] at hsg hN
            clear ho hNN HN HL HB HC hlv
            go_wp2
            refine ⟨⟨j + 1, by omega, by go_num, trivial, ⟨fun q hq x hx => ?_⟩⟩, by simp [intOf]; omega⟩
            by_cases hqj : q = j
            · subst hqj
              rw [HO.out] at hx
              rw [← Option.some.inj hx]
              exact HH.out
            · exact HI.out q (by omega) x hx
        · have hge : ¬ (j : Int) < (Ln : Int) := by omega
          have HH : Hd (∀ q, q < m + 1 → hasOp op q = false) := Hd.mk (fun q hq => by
            by_cases hqm : q = m
            · subst hqm
              unfold hasOp
              rw [List.any_eq_false]
              intro o ho hx
              obtain ⟨i, hi⟩ := List.mem_iff_getElem?.1 ho
              have hil := (List.getElem?_eq_some_iff.1 hi).1
              exact HI.out i (by omega) o hi (by simpa using hx)
            · exact HN.out q (by omega))
          clear HI HN HL HB HC hlv
          go_wp2
          exact ⟨⟨m + 1, by omega, by go_num, trivial, HH⟩, by simp [intOf]; omega⟩
end Go.Proofs.YtnjnadlgndjnbaaDoor.Pk
