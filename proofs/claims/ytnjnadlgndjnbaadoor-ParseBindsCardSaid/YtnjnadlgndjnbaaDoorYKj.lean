/- Parse: expr: operators of a level, with its goto. -/
import Derived.Test.YtnjnadlgndjnbaaDoorYKi
import Derived.ScopeJumps
import Derived.WalkMore
import Derived.Deep.RegionHeld3
set_option linter.unusedVariables false
set_option linter.unusedSimpArgs false
namespace Go
theorem scope_twice {P : Program} {a : Act} {w : World} {Q : Exit → Act → World → Prop} {c y : Code} (l : Nat) (J : Act → World → Prop) (μ : Act → World → Nat) (hf : findLabel c l = some (Code.seq .skip y))
    (pass : ∀ a w, J a w → y.wp P (Exit.jump l (fun a' w' => J a' w' ∧ μ a' w' < μ a w) Q) a w)
    (first : (∀ a w, J a w → y.wp P (Exit.jump l J Q) a w) → c.wp P (Exit.jump l J Q) a w) : (Code.scope c).wp P Q a w :=
  wp_scope_jumps l J μ hf (first fun a w h => Code.wp_mono (fun e a' w' h => by
    cases e with
    | goto l' => exact ⟨h.1, h.2.1⟩
    | _ => exact h) (pass a w h)) (fun a w h => wp_seq (wp_skip (pass a w h)))
end Go
namespace Go.Proofs.YtnjnadlgndjnbaaDoor.Pk
open Go.RowKit Go.Proofs.YtnjnadlgndjnbaaDoorW.PrintWords Go.Proofs.YtnjnadlgndjnbaaDoorW.PrintLast Go.Proofs.YtnjnadlgndjnbaaDoorW.PrintMore Go.Proofs.YtnjnadlgndjnbaaDoor.Lx
theorem lev_sign : ∀ n : Nat, n ≤ 8 → ∀ o ∈ Fp.levelOps n, signN ⟨o.1.toArray⟩ = o.2 := by
  intro n hn
  rcases (by omega : n = 0 ∨ n = 1 ∨ n = 2 ∨ n = 3 ∨ n = 4 ∨ n = 5 ∨ n = 6 ∨ n = 7 ∨ n = 8) with rfl | rfl | rfl | rfl | rfl | rfl | rfl | rfl | rfl <;> decide
theorem Pv.lev {B : Nat} {w : World} (h : Pv B w) {n : Nat} (hn : n ≤ 8) : ∃ A c, (levT n).length ≤ c ∧ ∀ w', Below B w w' → w'.cell? ⟨0, n, none⟩ = some (.slice A (levT n).length c) ∧ Kd.C Kd.string w' A (levT n).length (levT n) := by
  obtain ⟨w0, rfl, hP, hb⟩ := h
  obtain ⟨A, c, h1, h2, h3⟩ := hP.levels.2 n hn
  exact ⟨A, c, h2, fun w' hb' => ⟨(World.cell?_of_block ((hb.trans hb').block _ hP.levels.1)).trans h1, Kd.C_below h3 (hb.trans hb')⟩⟩
theorem Pv.sign {B : Nat} {w : World} (h : Pv B w) : ∃ bm, ∀ w', Below B w w' → w'.cell? ⟨1, 0, none⟩ = some (.map (some bm)) ∧ ∀ s : ByteArray, s.size ≤ 140737488351232 → (Instr.lookup 71 (.map (some bm)) (.string s) false).run Tryd.prog w' = .ok (.int .i64 (signN s)) w' := by
  obtain ⟨w0, rfl, hP, hb⟩ := h
  obtain ⟨bm, h1, h2, h3, h4⟩ := hP.signs
  exact ⟨bm, fun w' hb' => ⟨(World.cell?_of_block ((hb.trans hb').block _ h2)).trans h3, fun s hs => h4 w' ((hb.trans hb').block _ h1) s hs⟩⟩
theorem lev_len : ∀ n : Nat, n ≤ 8 → ∀ o ∈ Fp.levelOps n, o.1.length ≤ 2 := by
  intro n hn
  rcases (by omega : n = 0 ∨ n = 1 ∨ n = 2 ∨ n = 3 ∨ n = 4 ∨ n = 5 ∨ n = 6 ∨ n = 7 ∨ n = 8) with rfl | rfl | rfl | rfl | rfl | rfl | rfl | rfl | rfl <;> decide
section
variable {B g : Nat} {A : Option Addr} {c : Nat} {l : List Tk} {ln cl : Int} {k : Nat}
theorem goesP_ {P : Program} {ops : Array Oper} {Q : Exit → Act → World → Prop} {oi : Oper} {N : Option Tmp} {a : Act} {w : World} {K : Act → World → Prop} {f : FuncId} {fn : Func} {xs : Array Operand} {ts : Array TypeId} (hf : P.funcs[f]? = some fn) (hname : (fn.name == "runtime.NumGoroutine") = false) (hb : fn.body.isSome = true) (args : Array Value)
    (hw : Region.wanted oi (yielded ops a.tmps) = true) (hN : oi.dst = N) (hop : oi.op = .call { callee := .value (.func f), args := xs, argTypes := ts }) (hargs : xs.map a.eval = args)
    (h : Calls P f args w fun e w' => ∃ ch, e = .panicked ch ∧ Q (.panic ch) a w') : if Region.wanted oi (yielded ops a.tmps) = true then Oper.wp P oi a w K Q else K (a.put N undef) w := by
  rw [if_pos hw]
  unfold Oper.wp
  have hrun : (execOp a.eval oi).run P w = .ok (.enter f args) w := by
    have he := enters_ hf hname hb args w
    unfold execOp
    simp [hop, resolve, Deferred.ofValue, invoke, Act.eval, hargs, he]
  rw [hrun, Oper.upon_enter]
  refine h.mono ?_
  rintro e w' ⟨ch, rfl, hQ⟩
  exact hQ
theorem fin_two {w w2 : World} {i0 i' b1 : Nat} {x y : SE} {A5 A6 : Option Addr} {c5 c6 : Nat} {v0 v1 v2 v3 v4 v5 : Value} (u0 u1 u2 u3 u4 : Value)
    (hp0 : Pa w g A c l i0 ln cl) (hG : w.grownBy w2 (some g)) (hp2 : Pa w2 g A c l i' ln cl) (hN : w2.heap[b1]? = some (.cells #[v0, v1, v2, v3, v4, v5] 26 (0, 0))) (hb1 : w.heap.size < b1) (hZ : w2.heap[w.heap.size]? = some (.cells zE6 26 (0, 0)))
    (hx : Kd.R kE 26 w2 (w.heap.size + 1) (fun q => q ≠ g ∧ q ≠ b1) (.slice A5 x.f5.length c5) x.f5) (hy : Kd.R kE 26 w2 (w.heap.size + 1) (fun q => q ≠ g ∧ q ≠ b1) (.slice A6 y.f5.length c6) y.f5) {W : World}
    (hW : W = put6W (w2.alloc (.cells #[.int .i64 x.f0, .int .i64 x.f1, .int .i64 x.f2, .int .u32 x.f3, .string x.f4, .slice A5 x.f5.length c5, .int .i64 y.f0, .int .i64 y.f1, .int .i64 y.f2, .int .u32 y.f3, .string y.f4, .slice A6 y.f5.length c6] 26)) b1 u0 u1 u2 u3 u4 (.slice (some ⟨w2.heap.size, 0, none⟩) 2 2)) :
    W.heap[b1]? = some (.cells #[u0, u1, u2, u3, u4, .slice (some ⟨w2.heap.size, 0, none⟩) 2 2] 26 (0, 0)) ∧ w.grownBy W (some g) ∧ Pa W g A c l i' ln cl ∧ W.heap[w.heap.size]? = some (.cells zE6 26 (0, 0)) ∧ Kd.R kE 26 W (w.heap.size + 1) (fun q => q ≠ g ∧ q ≠ b1) (.slice (some ⟨w2.heap.size, 0, none⟩) 2 2) [x, y] := by
  subst hW
  have hgl := hp0.lt
  have hgl2 := hp2.lt
  have hbl := heap_lt' hN
  have hM1 := Go.Proofs.YtnjnadlgndjnbaaDoor.A.k26_mkM w2 (w.heap.size + 1) (fun q => q ≠ g ∧ q ≠ b1) x hx
  have hM2 := Go.Proofs.YtnjnadlgndjnbaaDoor.A.k26_mkM w2 (w.heap.size + 1) (fun q => q ≠ g ∧ q ≠ b1) y hy
  have hRA := R_row2 (e := 26) hM1 hM2 ⟨by omega, by omega⟩ (by omega)
  have hba := below_alloc (Below.refl w2.heap.size w2) (.cells #[.int .i64 x.f0, .int .i64 x.f1, .int .i64 x.f2, .int .u32 x.f3, .string x.f4, .slice A5 x.f5.length c5, .int .i64 y.f0, .int .i64 y.f1, .int .i64 y.f2, .int .u32 y.f3, .string y.f4, .slice A6 y.f5.length c6] 26)
  change Kd.R kE 26 (w2.alloc (.cells #[.int .i64 x.f0, .int .i64 x.f1, .int .i64 x.f2, .int .u32 x.f3, .string x.f4, .slice A5 x.f5.length c5, .int .i64 y.f0, .int .i64 y.f1, .int .i64 y.f2, .int .u32 y.f3, .string y.f4, .slice A6 y.f5.length c6] 26)) (w.heap.size + 1) (fun q => q ≠ g ∧ q ≠ b1) (.slice (some ⟨w2.heap.size, 0, none⟩) 2 2) [x, y] at hRA
  have hN2 := keep_blk hN (grown_of_below hba (some g)) (by omega)
  have hZ2 := keep_blk hZ (grown_of_below hba (some g)) (by omega)
  have hp3 := hp2.below hba
  have hG2 := grown_below hG hba
  generalize (w2.alloc (.cells #[.int .i64 x.f0, .int .i64 x.f1, .int .i64 x.f2, .int .u32 x.f3, .string x.f4, .slice A5 x.f5.length c5, .int .i64 y.f0, .int .i64 y.f1, .int .i64 y.f2, .int .u32 y.f3, .string y.f4, .slice A6 y.f5.length c6] 26)) = WA at hRA hN2 hZ2 hp3 hG2 ⊢
  have hF := put6 hN2 u0 u1 u2 u3 u4 (.slice (some ⟨w2.heap.size, 0, none⟩) 2 2)
  change (put6W WA b1 u0 u1 u2 u3 u4 (.slice (some ⟨w2.heap.size, 0, none⟩) 2 2)).heap[b1]? = _ ∧ WA.grownBy (put6W WA b1 u0 u1 u2 u3 u4 (.slice (some ⟨w2.heap.size, 0, none⟩) 2 2)) (some b1) at hF
  have hG3 := grown_over hG2 hF.2 (by omega)
  exact ⟨hF.1, hG3, hp0.fin hG3 hp3 hF.2 (by omega), keep_blk hZ2 hF.2 (by omega), Kd.R_grown hRA hF.2 (fun q hq e => hq.2 (Option.some.inj e))⟩
theorem Spec.exprS (hk : Spec B g A c l ln cl k) (n : Nat) (w : World) (i : Nat) (r : Fp.Res SE) (hn : n ≤ 8) (hp : Pa w g A c l i ln cl) (hv : Pv B w) (h : Fp.expr k (n + 1) (ks l i) = some r) :
    Calls Tryd.prog 18 #[.pointer (some ⟨g, 0, none⟩), .int .i64 ((n : Int) + 1)] w (Out (ExR g) w g A c l ln cl r) := hk.expr (n + 1) w i r (by omega) (by omega) hp hv h
set_option maxRecDepth 100000 in
set_option maxHeartbeats 2000000 in
theorem expr_go (hk : ∀ j, j ≤ k → Spec B g A c l ln cl j) (hB : B ≤ g) (hpos : ∀ j lv q e r, j ≤ k → Fp.expr j lv q = some (.ok e r) → r.length < q.length) (n : Nat) (hn1 : 1 ≤ n) (hn8 : n ≤ 8) (w : World) (i : Nat) (x : SE) (rest : List Fp.Key) (r : Fp.Res SE) (hp : Pa w g A c l i ln cl) (hv : Pv B w)
    (he : Fp.expr k (n + 1) (ks l i) = some (.ok x rest)) (hm : Fp.more k n x rest = some r) :
    Calls Tryd.prog 18 #[.pointer (some ⟨g, 0, none⟩), .int .i64 n] w (Out (ExR g) w g A c l ln cl r) := by
  have hgl := hp.lt
  have hlen := hp.len
  have en : IntKind.i64.wrap ((n : Int) + 1) = (n : Int) + 1 := IntWalk.i64_in _ (by omega)
  have h8 : decide ((8 : Int) < (n : Int)) = false := by simp; omega
  have h9 : (n : Int) < 9 := by omega
  go_enter Tryd.func18, Tryd.ntmps18
  go_wp2
  refine scope_twice 0 (fun a' w' => ∃ (j : Nat) (x : SE) (i : Nat) (A5 : Option Addr) (c5 b1 : Nat) (u6 u7 u8 u9 u10 u11 u12 u13 u14 u15 u16 u17 u18 u19 u20 u21 u22 u23 u24 u25 u26 u27 u28 u29 u30 u31 u32 u33 u34 u35 u36 u37 u38 : Value), (j ≤ k ∧ Fp.more j n x (ks l i) = some r ∧ w.heap.size < b1) ∧ Hd (Pa w' g A c l i ln cl) ∧ Hd (w.grownBy w' (some g)) ∧ Hd (w'.heap[w.heap.size]? = some (.cells zE6 26 (0, 0))) ∧ Hd (w'.heap[b1]? = some (.cells #[.int .i64 x.f0, .int .i64 x.f1, .int .i64 x.f2, .int .u32 x.f3, .string x.f4, .slice A5 x.f5.length c5] 26 (0, 0))) ∧ Hd (Kd.R kE 26 w' (w.heap.size + 1) (fun q => q ≠ g ∧ q ≠ b1) (.slice A5 x.f5.length c5) x.f5) ∧ a' = { tmps := #[.pointer (some ⟨g, 0, none⟩), .int .i64 n, undef, undef, .pointer (some ⟨w.heap.size, 0, none⟩), .pointer (some ⟨b1, 0, none⟩), u6, u7, u8, u9, u10, u11, u12, u13, u14, u15, u16, u17, u18, u19, u20, u21, u22, u23, u24, u25, u26, u27, u28, u29, u30, u31, u32, u33, u34, u35, u36, u37, u38], defers := [] }) (fun a' w' => l.length - placeOf w' g) rfl ?_ ?_
  · obtain ⟨i0, hp0⟩ : ∃ i0, Pa w g A c l i0 ln cl := ⟨i, hp⟩
    clear hm he hp rest x i
    rintro a' w' ⟨j, x, i, A5, c5, b1, u6, u7, u8, u9, u10, u11, u12, u13, u14, u15, u16, u17, u18, u19, u20, u21, u22, u23, u24, u25, u26, u27, u28, u29, u30, u31, u32, u33, u34, u35, u36, u37, u38, ⟨hj, hm, hb1⟩, HP, HG, HZ, HE, HR, rfl⟩
    obtain ⟨Al, cL, hl2, hl⟩ := hv.lev hn8
    have hl1 := (hl w' (below_of_grown HG.out hv.size hB)).1
    have HL := Hd.mk hl
    clear hl
    cases j with
    | zero => rw [Fp.more] at hm; cases hm
    | succ j =>
      rw [Fp.more] at hm
      have HM := Hd.mk hm
      clear hm
      generalize hF : List.find? (fun o => Fp.isT o.1 (ks l i)) (Fp.levelOps n) = F at HM
      have HF := Hd.mk hF
      clear hF
      go_wp2
      have hpl := HP.out.place
      go_loopw [20] (fun t wr => ∃ m : Nat, (m ≤ (levT n).length) ∧ t = .int .i64 m ∧ Hd (((Fp.levelOps n).drop m).find? (fun o => Fp.isT o.1 (ks l i)) = F) ∧ Hd (Pa wr g A c l i ln cl) ∧ Hd (w.grownBy wr (some g)) ∧ Hd (wr.heap[w.heap.size]? = some (.cells zE6 26 (0, 0))) ∧ Hd (wr.heap[b1]? = some (.cells #[.int .i64 x.f0, .int .i64 x.f1, .int .i64 x.f2, .int .u32 x.f3, .string x.f4, .slice A5 x.f5.length c5] 26 (0, 0))) ∧ Hd (Kd.R kE 26 wr (w.heap.size + 1) (fun q => q ≠ g ∧ q ≠ b1) (.slice A5 x.f5.length c5) x.f5)) (fun t _ => (levT n).length - (intOf t).toNat)
      case atStart => exact ⟨0, Nat.zero_le _, rfl, ⟨HF.out⟩, HP, HG, HZ, HE, HR⟩
      case round =>
        clear HP HG HZ HE HR
        obtain ⟨m, hml, rfl, HD, HP, HG, HZ, HE, HR⟩ := hrel
        have hlv : (levT n).length = (Fp.levelOps n).length := by simp [levT]
        by_cases hlt : m < (levT n).length
        · obtain ⟨o, ho⟩ : ∃ o, (Fp.levelOps n)[m]? = some o := ⟨_, List.getElem?_eq_getElem (by omega)⟩
          obtain ⟨ad, hAl, hcs⟩ := Kd.at_string (HL.out wr (below_of_grown HG.out hv.size hB)).2 m (by omega) (by omega)
          subst hAl
          rw [Int.toNat_natCast] at hcs
          have hrd : rdOf ByteArray.empty (levT n) (m : Int) = ⟨o.1.toArray⟩ := by
            unfold rdOf levT; rw [Int.toNat_natCast, List.getD_eq_getElem?_getD, List.getElem?_map, ho]; rfl
          rw [hrd] at hcs
          have hlt' : (m : Int) < ((levT n).length : Int) := by omega
          have e9 : Fp.isT o.1 (ks l i) = isK ⟨o.1.toArray⟩ (nowT l i ln cl) := by
            have := isT_K (l := l) (i := i) (ln := ln) (cl := cl) ⟨o.1.toArray⟩
            simpa using this
          have hm9 := may_any ⟨o.1.toArray⟩ HP.out (fun hx => isK_lt hx)
          have hD := HD.out
          rw [List.drop_eq_getElem_cons (by omega), List.find?_cons, show (Fp.levelOps n)[m] = o from by rw [List.getElem?_eq_getElem (by omega)] at ho; exact Option.some.inj ho, e9] at hD
          have hsg := lev_sign n hn8 o (List.mem_of_getElem? ho)
          have hlen1 : (levT n).length ≤ 9223372036854775807 := by rw [hlv]; rcases (by omega : n = 1 ∨ n = 2 ∨ n = 3 ∨ n = 4 ∨ n = 5 ∨ n = 6 ∨ n = 7 ∨ n = 8) with rfl | rfl | rfl | rfl | rfl | rfl | rfl | rfl <;> decide
          have e1 : IntKind.i64.wrap ((m : Int) + 1) = (m : Int) + 1 := IntWalk.i64_in _ (by omega)
          generalize hSo : (⟨o.1.toArray⟩ : ByteArray) = so at hcs e9 hm9 hD hsg
          generalize hLn : (levT n).length = Ln at *
          cases hK : isK so (nowT l i ln cl) with
          | false =>
            rw [hK] at hm9 hD
            simp only [Bool.false_eq_true, if_false] at hm9 hD
            have HD2 := Hd.mk hD
            clear hD hlv HL HM HF HD
            go_wp2_with (first | (go_at_call 38; (with_reducible refine hm9.mono ?_); rintro e w1 ⟨rfl, hp1, hg1⟩) | fail)
            exact ⟨⟨m + 1, by omega, by go_num, HD2, ⟨hp1⟩, ⟨grown_trans HG.out hg1⟩, ⟨keep_blk HZ.out hg1 (by omega)⟩, ⟨keep_blk HE.out hg1 (by omega)⟩, ⟨Kd.R_grown HR.out hg1 (fun q hq e => hq.1 (Option.some.inj e))⟩⟩, by simp [intOf]; omega⟩
          | true =>
            have hil := isK_lt hK
            rw [hK] at hm9 hD
            simp only [if_true] at hm9 hD
            have hM := HM.out
            rw [← hD] at hM
            simp only [tail_K hil] at hM
            clear hD hlv HL HM HF HD
            obtain ⟨N, hN⟩ : ∃ N, o.2 = N := ⟨_, rfl⟩
            rw [hN] at hM hsg
            obtain ⟨bm, hbm⟩ := hv.sign
            have HBM := Hd.mk hbm
            clear hbm
            cases hE2 : Fp.expr j (n + 1) (ks l (i + 1)) with
            | none => rw [hE2] at hM; cases hM
            | some r2 =>
              rw [hE2] at hM
              cases r2 with
              | bad rest =>
                obtain rfl := (Option.some.inj hM).symm
                go_wp2_with (first | (go_at_call 38; (with_reducible refine hm9.mono ?_); rintro e w1 ⟨rfl, hp1, hg1⟩) | fail)
                have KS : Hd (∀ W, w1.grownBy W (some g) → (W.cell? ⟨b1, 0, none⟩ = some (.int .i64 x.f0) ∧ W.cell? ⟨b1, 1, none⟩ = some (.int .i64 x.f1) ∧ W.cell? ⟨b1, 2, none⟩ = some (.int .i64 x.f2) ∧ W.cell? ⟨b1, 3, none⟩ = some (.int .u32 x.f3) ∧ W.cell? ⟨b1, 4, none⟩ = some (.string x.f4) ∧ W.cell? ⟨b1, 5, none⟩ = some (.slice A5 x.f5.length c5) ∧ W.cell? ⟨1, 0, none⟩ = some (.map (some bm)) ∧ (Instr.lookup 71 (.map (some bm)) (.string so) false).run Tryd.prog W = .ok (.int .i64 N) W)) := Hd.mk (fun W hW => by
                  obtain ⟨c0, c1, c2, c3, c4, c5⟩ := cells6 (keep_blk (keep_blk HE.out hg1 (by omega)) hW (by omega))
                  have hl := HBM.out W (below_of_grown (grown_trans HG.out (grown_trans hg1 hW)) hv.size hB)
                  have hl2 := hl.2 so (by rw [← hSo]; have := lev_len n hn8 o (List.mem_of_getElem? ho); show o.1.toArray.size ≤ _; simp; omega)
                  rw [hsg] at hl2
                  exact ⟨c0, c1, c2, c3, c4, c5, hl.1, hl2⟩)
                clear hsg
                have hG1 := Hd.mk (grown_drew (grown_refl w1 (some g)))
                refine start_ (n := 11) (S := fun w' => w'.cell? ⟨b1, 0, none⟩ = some (.int .i64 x.f0) ∧ w'.cell? ⟨b1, 1, none⟩ = some (.int .i64 x.f1) ∧ w'.cell? ⟨b1, 2, none⟩ = some (.int .i64 x.f2) ∧ w'.cell? ⟨b1, 3, none⟩ = some (.int .u32 x.f3) ∧ w'.cell? ⟨b1, 4, none⟩ = some (.string x.f4) ∧ w'.cell? ⟨b1, 5, none⟩ = some (.slice A5 x.f5.length c5) ∧ w'.cell? ⟨1, 0, none⟩ = some (.map (some bm)) ∧ (Instr.lookup 71 (.map (some bm)) (.string so) false).run Tryd.prog w' = .ok (.int .i64 N) w') (ds := [10]) #[false, false, false, false, false, false, false, false, false, false, false] (by kernel_rfl) rfl rfl ⟨(KS.out _ hG1.out).1, (KS.out _ hG1.out).2.1, (KS.out _ hG1.out).2.2.1, (KS.out _ hG1.out).2.2.2.1, (KS.out _ hG1.out).2.2.2.2.1, (KS.out _ hG1.out).2.2.2.2.2.1, (KS.out _ hG1.out).2.2.2.2.2.2.1, (KS.out _ hG1.out).2.2.2.2.2.2.2⟩ (fun hHeld => ?_)
                refine pure_ (i := 1) (N := some 28) (v := ?_) (a' := ?_) #[false, true, false, false, false, false, false, false, false, false, false] rfl rfl (by kernel_rfl) (fun _ _ _ h => h) (Or.inl ⟨by rfl, ?_⟩) ?_ ?_
                rotate_left
                · intro w'
                  go_simp
                  with_reducible rfl
                rotate_left
                · simp only [Act.put, List.setIfInBounds_toArray, List.set_cons_zero, List.set_cons_succ, i64_w, i32_w]
                  rfl
                refine pure_ (i := 4) (N := some 31) (v := ?_) (a' := ?_) #[false, true, false, false, true, false, false, false, false, false, false] rfl rfl (by kernel_rfl) (fun _ _ _ h => h) (Or.inl ⟨by rfl, ?_⟩) ?_ ?_
                rotate_left
                · intro w'
                  go_simp
                  with_reducible rfl
                rotate_left
                · simp only [Act.put, List.setIfInBounds_toArray, List.set_cons_zero, List.set_cons_succ, i64_w, i32_w]
                  rfl
                refine pure_ (i := 5) (N := some 32) (v := ?_) (a' := ?_) #[false, true, false, false, true, true, false, false, false, false, false] rfl rfl (by kernel_rfl) (fun _ _ _ h => h) (Or.inl ⟨by rfl, ?_⟩) ?_ ?_
                rotate_left
                · intro w'
                  go_simp
                  with_reducible rfl
                rotate_left
                · simp only [Act.put, List.setIfInBounds_toArray, List.set_cons_zero, List.set_cons_succ, i64_w, i32_w]
                  rfl
                refine pure_ (i := 6) (N := some 33) (v := ?_) (a' := ?_) #[false, true, false, false, true, true, true, false, false, false, false] rfl rfl (by kernel_rfl) (fun _ _ _ h => h) (Or.inl ⟨by rfl, ?_⟩) ?_ ?_
                rotate_left
                · intro w'
                  go_simp
                  with_reducible rfl
                rotate_left
                · simp only [Act.put, List.setIfInBounds_toArray, List.set_cons_zero, List.set_cons_succ, i64_w, i32_w]
                  rfl
                refine take_ (i := 0) (N := some 27) (v := ?_) (a' := ?_) #[true, true, false, false, true, true, true, false, false, false, false] rfl rfl (by kernel_rfl) (fun _ _ _ h => h) (Or.inl ⟨by rfl, ?_⟩) hHeld ?_ ?_
                rotate_left
                · rintro w' ⟨s0, s1, s2, s3, s4, s5, s6, s7⟩
                  go_simp
                  with_reducible rfl
                rotate_left
                · simp only [Act.put, List.setIfInBounds_toArray, List.set_cons_zero, List.set_cons_succ, i64_w, i32_w]
                  rfl
                refine take_ (i := 2) (N := some 29) (v := ?_) (a' := ?_) #[true, true, true, false, true, true, true, false, false, false, false] rfl rfl (by kernel_rfl) (fun _ _ _ h => h) (Or.inl ⟨by rfl, ?_⟩) hHeld ?_ ?_
                rotate_left
                · rintro w' ⟨s0, s1, s2, s3, s4, s5, s6, s7⟩
                  go_simp
                  with_reducible rfl
                rotate_left
                · simp only [Act.put, List.setIfInBounds_toArray, List.set_cons_zero, List.set_cons_succ, i64_w, i32_w]
                  rfl
                refine take_ (i := 3) (N := some 30) (v := ?_) (a' := ?_) #[true, true, true, true, true, true, true, false, false, false, false] rfl rfl (by kernel_rfl) (fun _ _ _ h => h) (Or.inl ⟨by rfl, ?_⟩) hHeld ?_ ?_
                rotate_left
                · rintro w' ⟨s0, s1, s2, s3, s4, s5, s6, s7⟩
                  go_simp
                  with_reducible rfl
                rotate_left
                · simp only [Act.put, List.setIfInBounds_toArray, List.set_cons_zero, List.set_cons_succ, i64_w, i32_w]
                  rfl
                refine one_ (i := 7) (N := some 34) #[true, true, true, true, true, true, true, true, false, false, false] rfl rfl (by kernel_rfl) (by decide) (fun K hK => ?_)
                refine goesP_ Tryd.func18 (by kernel_rfl) rfl #[.pointer (some ⟨g, 0, none⟩), .int .i64 ((n : Int) + 1)] (by rfl) rfl rfl (by (try simp only [List.map_toArray, List.map_cons, List.map_nil]); first | done | rfl) ?_
                with_reducible refine ((hk j (by omega)).exprS n w1.drew _ _ hn8 (hp1.below (below_drew (Below.refl _ _))) (hv.grown (grown_drew (grown_trans HG.out hg1)) hB) hE2).mono ?_
                rintro r w2 ⟨hg2, i', hr, hi', rfl⟩
                refine ⟨_, rfl, ?_⟩
                exact ⟨rfl, grown_trans HG.out (grown_trans hg1 (grown_trans hG1.out hg2)), i', by first | rfl | exact hr, hi', rfl⟩
              | ok y rest =>
                simp only [Fp.andThen] at hM
                have HM := Hd.mk hM
                clear hM
                go_wp2_with (first | (go_at_call 38; (with_reducible refine hm9.mono ?_); rintro e w1 ⟨rfl, hp1, hg1⟩) | fail)
                have hbs := o
                have KS : Hd (∀ W, w1.grownBy W (some g) → (W.cell? ⟨b1, 0, none⟩ = some (.int .i64 x.f0) ∧ W.cell? ⟨b1, 1, none⟩ = some (.int .i64 x.f1) ∧ W.cell? ⟨b1, 2, none⟩ = some (.int .i64 x.f2) ∧ W.cell? ⟨b1, 3, none⟩ = some (.int .u32 x.f3) ∧ W.cell? ⟨b1, 4, none⟩ = some (.string x.f4) ∧ W.cell? ⟨b1, 5, none⟩ = some (.slice A5 x.f5.length c5) ∧ W.cell? ⟨1, 0, none⟩ = some (.map (some bm)) ∧ (Instr.lookup 71 (.map (some bm)) (.string so) false).run Tryd.prog W = .ok (.int .i64 N) W)) := Hd.mk (fun W hW => by
                  obtain ⟨c0, c1, c2, c3, c4, c5⟩ := cells6 (keep_blk (keep_blk HE.out hg1 (by omega)) hW (by omega))
                  have hl := HBM.out W (below_of_grown (grown_trans HG.out (grown_trans hg1 hW)) hv.size hB)
                  have hl2 := hl.2 so (by rw [← hSo]; have := lev_len n hn8 o (List.mem_of_getElem? ho); show o.1.toArray.size ≤ _; simp; omega)
                  rw [hsg] at hl2
                  exact ⟨c0, c1, c2, c3, c4, c5, hl.1, hl2⟩)
                clear hsg
                have hG1 := Hd.mk (grown_drew (grown_refl w1 (some g)))
                refine start_ (n := 11) (S := fun w' => w'.cell? ⟨b1, 0, none⟩ = some (.int .i64 x.f0) ∧ w'.cell? ⟨b1, 1, none⟩ = some (.int .i64 x.f1) ∧ w'.cell? ⟨b1, 2, none⟩ = some (.int .i64 x.f2) ∧ w'.cell? ⟨b1, 3, none⟩ = some (.int .u32 x.f3) ∧ w'.cell? ⟨b1, 4, none⟩ = some (.string x.f4) ∧ w'.cell? ⟨b1, 5, none⟩ = some (.slice A5 x.f5.length c5) ∧ w'.cell? ⟨1, 0, none⟩ = some (.map (some bm)) ∧ (Instr.lookup 71 (.map (some bm)) (.string so) false).run Tryd.prog w' = .ok (.int .i64 N) w') (ds := [10]) #[false, false, false, false, false, false, false, false, false, false, false] (by kernel_rfl) rfl rfl ⟨(KS.out _ hG1.out).1, (KS.out _ hG1.out).2.1, (KS.out _ hG1.out).2.2.1, (KS.out _ hG1.out).2.2.2.1, (KS.out _ hG1.out).2.2.2.2.1, (KS.out _ hG1.out).2.2.2.2.2.1, (KS.out _ hG1.out).2.2.2.2.2.2.1, (KS.out _ hG1.out).2.2.2.2.2.2.2⟩ (fun hHeld => ?_)
                refine pure_ (i := 1) (N := some 28) (v := ?_) (a' := ?_) #[false, true, false, false, false, false, false, false, false, false, false] rfl rfl (by kernel_rfl) (fun _ _ _ h => h) (Or.inl ⟨by rfl, ?_⟩) ?_ ?_
                rotate_left
                · intro w'
                  go_simp
                  with_reducible rfl
                rotate_left
                · simp only [Act.put, List.setIfInBounds_toArray, List.set_cons_zero, List.set_cons_succ, i64_w, i32_w]
                  rfl
                refine pure_ (i := 4) (N := some 31) (v := ?_) (a' := ?_) #[false, true, false, false, true, false, false, false, false, false, false] rfl rfl (by kernel_rfl) (fun _ _ _ h => h) (Or.inl ⟨by rfl, ?_⟩) ?_ ?_
                rotate_left
                · intro w'
                  go_simp
                  with_reducible rfl
                rotate_left
                · simp only [Act.put, List.setIfInBounds_toArray, List.set_cons_zero, List.set_cons_succ, i64_w, i32_w]
                  rfl
                refine pure_ (i := 5) (N := some 32) (v := ?_) (a' := ?_) #[false, true, false, false, true, true, false, false, false, false, false] rfl rfl (by kernel_rfl) (fun _ _ _ h => h) (Or.inl ⟨by rfl, ?_⟩) ?_ ?_
                rotate_left
                · intro w'
                  go_simp
                  with_reducible rfl
                rotate_left
                · simp only [Act.put, List.setIfInBounds_toArray, List.set_cons_zero, List.set_cons_succ, i64_w, i32_w]
                  rfl
                refine pure_ (i := 6) (N := some 33) (v := ?_) (a' := ?_) #[false, true, false, false, true, true, true, false, false, false, false] rfl rfl (by kernel_rfl) (fun _ _ _ h => h) (Or.inl ⟨by rfl, ?_⟩) ?_ ?_
                rotate_left
                · intro w'
                  go_simp
                  with_reducible rfl
                rotate_left
                · simp only [Act.put, List.setIfInBounds_toArray, List.set_cons_zero, List.set_cons_succ, i64_w, i32_w]
                  rfl
                refine take_ (i := 0) (N := some 27) (v := ?_) (a' := ?_) #[true, true, false, false, true, true, true, false, false, false, false] rfl rfl (by kernel_rfl) (fun _ _ _ h => h) (Or.inl ⟨by rfl, ?_⟩) hHeld ?_ ?_
                rotate_left
                · rintro w' ⟨s0, s1, s2, s3, s4, s5, s6, s7⟩
                  go_simp
                  with_reducible rfl
                rotate_left
                · simp only [Act.put, List.setIfInBounds_toArray, List.set_cons_zero, List.set_cons_succ, i64_w, i32_w]
                  rfl
                refine take_ (i := 2) (N := some 29) (v := ?_) (a' := ?_) #[true, true, true, false, true, true, true, false, false, false, false] rfl rfl (by kernel_rfl) (fun _ _ _ h => h) (Or.inl ⟨by rfl, ?_⟩) hHeld ?_ ?_
                rotate_left
                · rintro w' ⟨s0, s1, s2, s3, s4, s5, s6, s7⟩
                  go_simp
                  with_reducible rfl
                rotate_left
                · simp only [Act.put, List.setIfInBounds_toArray, List.set_cons_zero, List.set_cons_succ, i64_w, i32_w]
                  rfl
                refine take_ (i := 3) (N := some 30) (v := ?_) (a' := ?_) #[true, true, true, true, true, true, true, false, false, false, false] rfl rfl (by kernel_rfl) (fun _ _ _ h => h) (Or.inl ⟨by rfl, ?_⟩) hHeld ?_ ?_
                rotate_left
                · rintro w' ⟨s0, s1, s2, s3, s4, s5, s6, s7⟩
                  go_simp
                  with_reducible rfl
                rotate_left
                · simp only [Act.put, List.setIfInBounds_toArray, List.set_cons_zero, List.set_cons_succ, i64_w, i32_w]
                  rfl
                refine one_ (i := 7) (N := some 34) #[true, true, true, true, true, true, true, true, false, false, false] rfl rfl (by kernel_rfl) (by decide) (fun K hK => ?_)
                refine goes_ Tryd.func18 (by kernel_rfl) rfl #[.pointer (some ⟨g, 0, none⟩), .int .i64 ((n : Int) + 1)] (by rfl) rfl rfl (by (try simp only [List.map_toArray, List.map_cons, List.map_nil]); first | done | rfl) ?_
                with_reducible refine ((hk j (by omega)).exprS n w1.drew _ _ hn8 (hp1.below (below_drew (Below.refl _ _))) (hv.grown (grown_drew (grown_trans HG.out hg1)) hB) hE2).mono ?_
                rintro r w2 ⟨hg2, i', v, hr, hp2, rfl, A6, c6, rfl, hR2⟩
                refine ⟨_, rfl, ?_⟩
                have hG2 := Hd.mk (grown_trans (grown_drew (grown_refl w1 (some g))) hg2)
                refine hK.out _ _ ⟨(KS.out _ hG2.out).1, (KS.out _ hG2.out).2.1, (KS.out _ hG2.out).2.2.1, (KS.out _ hG2.out).2.2.2.1, (KS.out _ hG2.out).2.2.2.2.1, (KS.out _ hG2.out).2.2.2.2.2.1, (KS.out _ hG2.out).2.2.2.2.2.2.1, (KS.out _ hG2.out).2.2.2.2.2.2.2⟩ (fun hHeld => ?_)
                clear hK K
                refine norm_ (a' := ?_) ?_ ?_
                rotate_left
                · show Act.put _ (some 34) _ = _
                  simp only [Act.put, List.setIfInBounds_toArray, List.set_cons_zero, List.set_cons_succ, i64_w, i32_w]
                  rfl
                refine one_ (i := 8) (N := some 35) #[true, true, true, true, true, true, true, true, true, false, false] rfl rfl (by kernel_rfl) (by decide) (fun K hK => ?_)
                refine value_ (w1 := ?_) (v := ?_) (by rfl) rfl ?_ ?_
                rotate_left 2
                · go_simp
                  constructor
                  · rfl
                  · rfl
                refine hK.out _ _ ⟨(KS.out _ (grown_alloc hG2.out _)).1, (KS.out _ (grown_alloc hG2.out _)).2.1, (KS.out _ (grown_alloc hG2.out _)).2.2.1, (KS.out _ (grown_alloc hG2.out _)).2.2.2.1, (KS.out _ (grown_alloc hG2.out _)).2.2.2.2.1, (KS.out _ (grown_alloc hG2.out _)).2.2.2.2.2.1, (KS.out _ (grown_alloc hG2.out _)).2.2.2.2.2.2.1, (KS.out _ (grown_alloc hG2.out _)).2.2.2.2.2.2.2⟩ (fun hHeld => ?_)
                clear hK K
                refine norm_ (a' := ?_) ?_ ?_
                rotate_left
                · show Act.put _ (some 35) _ = _
                  simp only [Act.put, List.setIfInBounds_toArray, List.set_cons_zero, List.set_cons_succ, i64_w, i32_w]
                  rfl
                refine pure_ (i := 9) (N := some 36) (v := ?_) (a' := ?_) #[true, true, true, true, true, true, true, true, true, true, false] rfl rfl (by kernel_rfl) (fun _ _ _ h => h) (Or.inl ⟨by rfl, ?_⟩) ?_ ?_
                rotate_left
                · intro w'
                  go_simp
                  with_reducible rfl
                rotate_left
                · simp only [Act.put, List.setIfInBounds_toArray, List.set_cons_zero, List.set_cons_succ, i64_w, i32_w]
                  rfl
                refine last_ (i := 10) (N := none) #[true, true, true, true, true, true, true, true, true, true, true] rfl rfl (by kernel_rfl) (by decide) (fun K hK => ?_)
                obtain ⟨f0, f1, f2, f3, f4, f5⟩ := froz6 (keep_blk (keep_blk HE.out hg1 (by omega)) (grown_alloc hG2.out (.cells #[.int .i64 x.f0, .int .i64 x.f1, .int .i64 x.f2, .int .u32 x.f3, .string x.f4, .slice A5 x.f5.length c5, .int .i64 y.f0, .int .i64 y.f1, .int .i64 y.f2, .int .u32 y.f3, .string y.f4, .slice A6 y.f5.length c6] 26)) (by omega))
                refine skip_ (w1 := ?_) (by rfl) rfl ?_ ?_
                rotate_left
                · go_simp
                  rfl
                refine hK.out _ _ ?_
                clear hK K
                refine done_ (by kernel_rfl) ?_
                have hps := hpos j (n + 1) _ _ _ (by omega) hE2
                rw [hr, ks_len, ks_len] at hps
                have hZ := fin_two (.int .i64 6) (.int .i64 N) (.int .i64 0) (.int .u32 0) (.string ⟨#[]⟩) hp0 (grown_trans HG.out (grown_trans hg1 hG2.out)) hp2 (keep_blk (keep_blk HE.out hg1 (by omega)) hG2.out (by omega)) hb1 (keep_blk (keep_blk HZ.out hg1 (by omega)) hG2.out (by omega)) (Kd.R_grown (Kd.R_grown HR.out hg1 (fun q hq e => hq.1 (Option.some.inj e))) hG2.out (fun q hq e => hq.1 (Option.some.inj e)))
                  (Kd.R_lower (Kd.R_mono (Kd.R_bound hR2) (fun q hq => ⟨hq.1, by have h1 : w1.heap.size ≤ q := hq.2.1; have h2 := heap_lt' (keep_blk HE.out hg1 (by omega)); omega⟩)) (by show _ ≤ w1.heap.size; have h2 := heap_lt' (keep_blk HE.out hg1 (by omega)); omega)) rfl
                subst hr
                go_wp2
                go_step3
                simp only [put6W] at hZ
                obtain ⟨z1, z2, z3, z4, z5⟩ := hZ
                have hpl2 := z3.place
                have := hp2.pos
                refine ⟨rfl, ⟨j, Fp.eBin N x y, i', some ⟨w2.heap.size, 0, none⟩, 2, b1, _, _, _, _, _, _, _, _, _, _, _, _, _, _, _, _, _, _, _, _, _, _, _, _, _, _, _, _, _, _, _, _, _, ⟨by omega, HM.out, hb1⟩, ⟨z3⟩, ⟨z2⟩, ⟨z4⟩, ⟨z1⟩, ⟨z5⟩, rfl⟩, ?_⟩
                rw [hpl2, hpl]
                omega
        · have hD := HD.out
          rw [List.drop_eq_nil_of_le (by omega)] at hD
          have hM := HM.out
          rw [← hD] at hM
          simp only [List.find?_nil, Option.some.injEq] at hM
          have hge : ¬ ((m : Int) < ((levT n).length : Int)) := by omega
          generalize hLn : (levT n).length = Ln at *
          obtain ⟨q0, q1, q2, q3, q4, q5⟩ := cells6 HE.out
          obtain ⟨z0, z1, z2, z3, z4, z5⟩ := cells6 HZ.out
          obtain ⟨f0, f1, f2, f3, f4, f5⟩ := froz6 HZ.out
          clear hD HL HM HF HD
          go_wp2
          have hF6 := put6 HZ.out (.int .i64 x.f0) (.int .i64 x.f1) (.int .i64 x.f2) (.int .u32 x.f3) (.string x.f4) (.slice A5 x.f5.length c5)
          have hGF := grown_over HG.out hF6.2 (Nat.le_refl _)
          simp only [Exit.jump]
          refine bodyPost_ret (results_cell_row rfl _ _ _ 26 _ (0, 0) _ rfl hF6.1 Tryd.underlying26 rfl (by kernel_rfl)) rfl ?_
          exact hM ▸ ⟨hGF, i, _, rfl, hp0.fin hGF HP.out hF6.2 (by omega), rfl, A5, c5, rfl, R_fin (Kd.R_mono HR.out (fun _ h => h.1)) hF6.2 (Nat.lt_succ_self _) (Nat.le_succ _)⟩
  · intro hrr
    have HRR := Hd.mk hrr
    clear hrr
    go_wp2_with (first | (go_at_call 18; (with_reducible refine ((hk k (Nat.le_refl _)).exprS n _ _ _ hn8 (hp.below (below_alloc (Below.refl w.heap.size w) (.cells zE6 26))) (hv.below (below_alloc (Below.refl w.heap.size w) (.cells zE6 26))) he).mono ?_); rintro e w3 ⟨hg3, i', v, hr, hp3, rfl, A5, c5, rfl, hR⟩) | fail)
    go_step3
    rename_i Kq hKq
    subst hr
    have hB1 := below_alloc (Below.refl w.heap.size w) (.cells zE6 26)
    have hG1 := grown_of_below hB1 (some g)
    have hZ1 := (NewB.alloc w zE6 26).1
    have hba := below_alloc (Below.refl w3.heap.size w3) (.cells #[.int .i64 x.f0, .int .i64 x.f1, .int .i64 x.f2, .int .u32 x.f3, .string x.f4, .slice A5 x.f5.length c5] 26)
    have hsz : w.heap.size < w3.heap.size := Nat.lt_of_lt_of_le (heap_lt' hZ1) hg3.size
    have hs1 : (w.alloc (.cells zE6 26)).heap.size = w.heap.size + 1 := by show (w.heap.push _).size = _; simp
    refine hKq _ _ (HRR.out _ _ ⟨k, x, i', A5, c5, w3.heap.size, _, _, _, _, _, _, _, _, _, _, _, _, _, _, _, _, _, _, _, _, _, _, _, _, _, _, _, _, _, _, _, _, _, ⟨Nat.le_refl _, hm, hsz⟩, ⟨hp3.below hba⟩, ⟨grown_below (grown_trans hG1 hg3) hba⟩, ⟨keep_blk (keep_blk hZ1 hg3 (by omega)) (grown_of_below hba (some g)) (by omega)⟩, ⟨(NewB.alloc w3 #[.int .i64 x.f0, .int .i64 x.f1, .int .i64 x.f2, .int .u32 x.f3, .string x.f4, .slice A5 x.f5.length c5] 26).1⟩, ⟨?_⟩, rfl⟩)
    rw [hs1] at hR
    exact Kd.R_below (Kd.R_mono (Kd.R_bound hR) (fun q hq => ⟨hq.1, Nat.ne_of_lt hq.2.2.1⟩)) hba
end
end Go.Proofs.YtnjnadlgndjnbaaDoor.Pk
