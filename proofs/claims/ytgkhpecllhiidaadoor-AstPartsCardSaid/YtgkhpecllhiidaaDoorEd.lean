/- AstParts: the walk of the law. -/
import Derived.Test.YtgkhpecllhiidaaDoorEc
set_option linter.unusedVariables false
set_option linter.unusedSimpArgs false
namespace Go.Proofs.YtgkhpecllhiidaaDoor.A
open Go.RowKit Go.Shelf Go.Proofs.YtgkhpecllhiidaaDoor.As Go.Proofs.YtgkhpecllhiidaaDoorW.PrintWords Go.Proofs.YtgkhpecllhiidaaDoorW.PrintLast Go.Proofs.YtgkhpecllhiidaaDoorW.PrintMore
attribute [local go_sem] max2_int max_two
def pickI (n : Int) : Int := if n.tmod 1000 < 0 then n.tmod 1000 + 1000 else n.tmod 1000
theorem tmod_lt (n : Int) : -1000 < n.tmod 1000 ∧ n.tmod 1000 < 1000 := by
  rcases Int.lt_or_le n 0 with h | h
  · have h1 : n.tmod 1000 = -((-n) % 1000) := by rw [show n = -(-n) by omega, Int.neg_tmod, Int.tmod_eq_emod_of_nonneg (by omega)]; simp
    omega
  · rw [Int.tmod_eq_emod_of_nonneg h]; omega
theorem pick_bounds (n : Int) : 0 ≤ pickI n ∧ pickI n ≤ 999 := by
  have hm := tmod_lt n
  unfold pickI
  by_cases h : n.tmod 1000 < 0
  · rw [if_pos h]; omega
  · rw [if_neg h]; omega
set_option maxRecDepth 100000 in
theorem pick_any (n : Int) (w : World) : Calls Tryd.prog 17 #[.int .i64 n, .int .i64 1000] w fun e w' => e = .returned (.int .i64 (pickI n)) ∧ Below w.heap.size w w' := by
  have hb := tmod_lt n
  obtain ⟨m, hm⟩ : ∃ m, n.tmod 1000 = m := ⟨_, rfl⟩
  have hv : pickI n = if m < 0 then m + 1000 else m := by unfold pickI; rw [hm]
  rw [hv]
  rw [hm] at hb
  have hm1 := hb
  have w1 : IntKind.i64.wrap (n.tmod 1000) = m := by rw [hm]; exact wrap_in (by omega)
  have w2 : IntKind.i64.wrap (m + 1000) = m + 1000 := wrap_in (by omega)
  have H0 := Lx.Hd.mk (Below.refl w.heap.size w)
  clear hv hb
  by_cases h0 : m < 0
  · rw [if_pos h0]
    have d0 : decide (m < 0) = true := decide_eq_true h0
    go_enter Tryd.func17, Tryd.ntmps17
    go_wp2
    go_ret
    exact ⟨rfl, H0.out⟩
  · rw [if_neg h0]
    have d0 : decide (m < 0) = false := decide_eq_false h0
    go_enter Tryd.func17, Tryd.ntmps17
    go_wp2
    go_ret
    exact ⟨rfl, H0.out⟩
theorem max_ite (a b : Nat) : (if (a : Int) < (b : Int) then (b : Int) else (a : Int)) = ((max a b : Nat) : Int) := by split <;> omega
theorem rowOne {α : Type} (k : Kd α) {W : World} {B t : Nat} {x : α} {cs : List Value} (hsz : cs.length = k.sz) (hK : k.K W x cs) (hh : W.heap[B]? = some (.cells cs.toArray t (0, 0))) : k.C W (some ⟨B, 0, none⟩) 1 [x] := by
  refine ⟨rfl, by omega, fun _ => ⟨_, rfl, fun j p hj => ?_⟩⟩
  have hj2 : j < 1 := by have := (List.getElem?_eq_some_iff.1 hj).1; simpa using this
  obtain rfl : j = 0 := by omega
  obtain rfl := Option.some.inj hj
  refine ⟨cs, hsz, hK, fun i u hi => ?_⟩
  rw [add_plain, Nat.zero_mul, Nat.zero_add]
  unfold World.cell?
  rw [hh]
  simp only [List.getElem?_toArray]
  exact hi
def oneP (d : SD) : SP := ⟨1, [], [], [d]⟩
def OneC (W : World) (b bd : Nat) : Prop := W.cell? ⟨b, 0, none⟩ = some (.int .i64 1) ∧ W.cell? ⟨b, 1, none⟩ = some (.slice none 0 0) ∧ W.cell? ⟨b, 2, none⟩ = some (.slice none 0 0) ∧ W.cell? ⟨b, 3, none⟩ = some (.slice (some ⟨bd, 0, none⟩) 1 1)
theorem oneC_of {W : World} {b bd : Nat} (d : SD) (h : W.heap[b]? = some (.cells #[.int .i64 1, .slice none 0 0, .slice none 0 0, .slice (some ⟨bd, 0, none⟩) 1 1] 46 (0, 0))) : ∀ W', Below W.heap.size W W' → OneC W' b bd := fun W' hb => cellsP_of (p := oneP d) h W' hb
/-- A function in a program of its own. -/
theorem one_rows {V : World} {d : SD} {E2 E5 : Option Addr} {x2 x5 : Nat} (h : RowsD V d E2 E5 x2 x5) : RowsP (V.alloc (.cells #[.int .i64 d.f0, .string d.f1, .slice E2 d.f2.length x2, .int .i64 d.f3, .int .i64 d.f4, .slice E5 d.f5.length x5, .int .i64 d.f6] 49)) (oneP d) none none (some ⟨V.heap.size, 0, none⟩) 0 0 1 := by
  have h' := RowsD.below h (below_alloc (Below.refl _ _) (.cells #[.int .i64 d.f0, .string d.f1, .slice E2 d.f2.length x2, .int .i64 d.f3, .int .i64 d.f4, .slice E5 d.f5.length x5, .int .i64 d.f6] 49))
  exact ⟨Kd.C_nil _ _, Kd.C_nil _ _, rowOne kD (cs := [.int .i64 d.f0, .string d.f1, .slice E2 d.f2.length x2, .int .i64 d.f3, .int .i64 d.f4, .slice E5 d.f5.length x5, .int .i64 d.f6]) rfl (k49_mk _ d h'.2.2.1 h'.1 h'.2.2.2 h'.2.1) (World.alloc_heap_new V _), Nat.le_refl _, Nat.le_refl _, Nat.le_refl _⟩
theorem heapD : Kd.Heap kD := Kd.heap_iso _ (Kd.heap_pair (Kd.heap_int _) (Kd.heap_pair Kd.heap_string (Kd.heap_pair (Kd.heap_slice _ (Kd.heap_iso _ (Kd.heap_pair Kd.heap_string (Kd.heap_int _)))) (Kd.heap_pair (Kd.heap_int _) (Kd.heap_pair (Kd.heap_int _) (Kd.heap_pair (Kd.heap_slice _ heapS) (Kd.heap_int _)))))))
theorem put_dline {base n cap : Nat} {ok : Nat → Prop} {W : World} {ad : Addr} {xs : List SD} (h : Kd.N kD 49 W base ok (.slice (some ad) n cap) xs) (i : Nat) (hi : i < n) (m : Int) :
    Kd.N kD 49 (W.setCell ⟨(ad.add (i * 7)).block, (ad.add (i * 7)).off + 6, none⟩ (.int .i64 m)) base ok (.slice (some ad) n cap) (xs.set i ⟨(xs.getD i z49).f0, (xs.getD i z49).f1, (xs.getD i z49).f2, (xs.getD i z49).f3, (xs.getD i z49).f4, (xs.getD i z49).f5, m⟩) := by
  obtain ⟨c, hcl, hM, hcc, hfr⟩ := N_all h z49 i hi
  obtain ⟨A2, c2, A5, c5, rfl, l2, g2, l5, g5⟩ := k49_openF hM
  exact (N_put (okp := fun k => ok k ∧ k ≠ ad.block) h i hi hcl hcc 6 (by decide) _ _ (k49_mkF W _ ⟨(xs.getD i z49).f0, (xs.getD i z49).f1, (xs.getD i z49).f2, (xs.getD i z49).f3, (xs.getD i z49).f4, (xs.getD i z49).f5, m⟩ l2 g2 l5 g5) (fun _ hk => hk)).1
theorem put_dbody {base n cap : Nat} {ok okp : Nat → Prop} {W : World} {ad : Addr} {xs : List SD} (h : Kd.N kD 49 W base ok (.slice (some ad) n cap) xs) (i : Nat) (hi : i < n) {T : List SS} {AT : Option Addr} {cT : Nat} (hlT : T.length ≤ cT) (hT : Kd.F kS W okp AT T.length T) (hk : ∀ k, okp k → ok k ∧ k ≠ ad.block) :
    Kd.N kD 49 (W.setCell ⟨(ad.add (i * 7)).block, (ad.add (i * 7)).off + 5, none⟩ (.slice AT T.length cT)) base ok (.slice (some ad) n cap) (xs.set i ⟨(xs.getD i z49).f0, (xs.getD i z49).f1, (xs.getD i z49).f2, (xs.getD i z49).f3, (xs.getD i z49).f4, T, (xs.getD i z49).f6⟩) := by
  obtain ⟨c, hcl, hM, hcc, hfr⟩ := N_all h z49 i hi
  obtain ⟨A2, c2, A5, c5, rfl, l2, g2, l5, g5⟩ := k49_openF hM
  exact (N_put (okp := fun k => ok k ∧ k ≠ ad.block) h i hi hcl hcc 5 (by decide) _ _ (k49_mkF W _ ⟨(xs.getD i z49).f0, (xs.getD i z49).f1, (xs.getD i z49).f2, (xs.getD i z49).f3, (xs.getD i z49).f4, T, (xs.getD i z49).f6⟩ l2 g2 hlT (Kd.F_mono hT hk)) (fun _ hk => hk)).1

set_option maxRecDepth 100000 in
set_option maxHeartbeats 40000000 in
theorem astParts_walk (p : SP) (line : Int) (A1 A2 A3 : Option Addr) (c1 c2 c3 : Nat) (w : World) (hG : Keys w) (hP : RowsP w p A1 A2 A3 c1 c2 c3) (wP : wellP p) :
    Calls Tryd.prog 10 #[.agg #[.int .i64 p.f0, .slice A1 p.f1.length c1, .slice A2 p.f2.length c2, .slice A3 p.f3.length c3], .int .i64 line] w fun r w' => r = .returned (.bool true) ∧ Below w.heap.size w w' := by
  obtain ⟨bl, hL⟩ : ∃ b, lightPB p = b := ⟨_, rfl⟩
  have hS1 := lightP_says p wP
  rw [hL] at hS1
  obtain ⟨np, hnp⟩ : ∃ n, checkP p = n := ⟨_, rfl⟩
  have HG := Lx.Hd.mk hG
  have HR := Lx.Hd.mk hP
  have HWP := Lx.Hd.mk wP
  have HS1 := Lx.Hd.mk hS1
  have HL := Lx.Hd.mk hL
  have HNP := Lx.Hd.mk hnp
  clear hG hP wP hS1 hL hnp
  go_enter Tryd.func10, Tryd.ntmps10
  go_upto_region 1 with (fail)
  refine name_world fun W2 hW2 => ?_
  have HB0 : Lx.Hd (Below w.heap.size w W2) := Lx.Hd.mk (by rw [hW2]; exact below_alloc (Below.refl _ _) _)
  have hb1 : W2.heap[w.heap.size]? = some (.cells #[.int .i64 p.f0, .slice A1 p.f1.length c1, .slice A2 p.f2.length c2, .slice A3 p.f3.length c3] 46 (0, 0)) := by rw [hW2]; exact World.alloc_heap_new w _
  have hx1 : w.heap.size < W2.heap.size := by rw [hW2]; simp
  have BC1 := Lx.Hd.mk (cellsP_of hb1)
  have HR2 := Lx.Hd.mk (RowsP.below HR.out HB0.out)
  have HG2 : Lx.Hd (Keys W2) := Lx.Hd.mk (Keys.below HG.out HB0.out)
  have HB : Lx.Hd (Below W2.heap.size W2 W2) := Lx.Hd.mk (Below.refl _ _)
  clear hW2 hb1 HR HG
  generalize w.heap.size = x1 at BC1 hx1 ⊢
  obtain ⟨pp0, pp1, pp2, pp3⟩ := BC1.out _ HB.out
  have KLI : Lx.Hd (∀ W', Below W2.heap.size W2 W' → Calls Tryd.prog 14 #[] W' fun r W'' => r = .returned (.bool true) ∧ Below W'.heap.size W' W'') := Lx.Hd.mk fun W' hb => lives_any W' (Keys.below HG2.out hb)
  have KLP : Lx.Hd (∀ W', Below W2.heap.size W2 W' → Calls Tryd.prog 32 #[.agg #[.int .i64 p.f0, .slice A1 p.f1.length c1, .slice A2 p.f2.length c2, .slice A3 p.f3.length c3], .int .i64 300] W' fun r W'' => r = .returned (.bool bl) ∧ Below W'.heap.size W' W'') := Lx.Hd.mk fun W' hb => by rw [← HL.out]; exact lightP_any p HWP.out A1 A2 A3 c1 c2 c3 W' (RowsP.below HR2.out hb)
  cases bl with
  | false =>
      go_wp2_with (first | (go_at_call 14; (with_reducible refine (KLI.out _ HB.out).mono ?_); rintro r W3 ⟨rfl, hb⟩; have hn_ := Lx.Hd.mk (below_step HB.out hb); clear hb HB; have HB := hn_; clear hn_; clear pp0 pp1 pp2 pp3; obtain ⟨pp0, pp1, pp2, pp3⟩ := BC1.out _ HB.out) | (go_at_call 32; (with_reducible refine (KLP.out _ HB.out).mono ?_); rintro r W3 ⟨rfl, hb⟩; have hn_ := Lx.Hd.mk (below_step HB.out hb); clear hb HB; have HB := hn_; clear hn_; clear pp0 pp1 pp2 pp3; obtain ⟨pp0, pp1, pp2, pp3⟩ := BC1.out _ HB.out) | fail)
      go_ret
      exact ⟨rfl, HB0.out.trans (HB.out.mono HB0.out.size)⟩
  | true =>
  obtain ⟨hs1, _, _, hl3⟩ := HS1.out rfl
  have hfp := fit_light p HWP.out (by omega)
  have HFP := Lx.Hd.mk hfp
  clear hfp HS1
  have KC : Lx.Hd (∀ W', Below W2.heap.size W2 W' → Calls Tryd.prog 34 #[.agg #[.int .i64 p.f0, .slice A1 p.f1.length c1, .slice A2 p.f2.length c2, .slice A3 p.f3.length c3]] W' fun r W'' => r = .returned (.int .i64 np) ∧ Below W'.heap.size W' W'') := Lx.Hd.mk fun W' hb => by rw [← HNP.out]; exact check_prog p A1 A2 A3 c1 c2 c3 W' (Keys.below HG2.out hb) (RowsP.below HR2.out hb) HFP.out
  by_cases h0 : np = 0
  rotate_left
  · have h0' : (np == 0) = false := by simpa using h0
    go_wp2_with (first | (go_at_call 14; (with_reducible refine (KLI.out _ HB.out).mono ?_); rintro r W3 ⟨rfl, hb⟩; have hn_ := Lx.Hd.mk (below_step HB.out hb); clear hb HB; have HB := hn_; clear hn_; clear pp0 pp1 pp2 pp3; obtain ⟨pp0, pp1, pp2, pp3⟩ := BC1.out _ HB.out) | (go_at_call 32; (with_reducible refine (KLP.out _ HB.out).mono ?_); rintro r W3 ⟨rfl, hb⟩; have hn_ := Lx.Hd.mk (below_step HB.out hb); clear hb HB; have HB := hn_; clear hn_; clear pp0 pp1 pp2 pp3; obtain ⟨pp0, pp1, pp2, pp3⟩ := BC1.out _ HB.out) | (go_at_call 34; (with_reducible refine (KC.out _ HB.out).mono ?_); rintro r W3 ⟨rfl, hb⟩; have hn_ := Lx.Hd.mk (below_step HB.out hb); clear hb HB; have HB := hn_; clear hn_; clear pp0 pp1 pp2 pp3; obtain ⟨pp0, pp1, pp2, pp3⟩ := BC1.out _ HB.out) | fail)
    go_ret
    exact ⟨rfl, HB0.out.trans (HB.out.mono HB0.out.size)⟩
  subst h0
  obtain ⟨ln, hln⟩ : ∃ m, pickI line = m := ⟨_, rfl⟩
  have hln0 := pick_bounds line
  rw [hln] at hln0
  obtain ⟨zp, ezp⟩ : ∃ n : Nat, sizes (nodes p.f3) = n := ⟨_, rfl⟩
  obtain ⟨dp, edp⟩ : ∃ n : Nat, deeps (nodes p.f3) = n := ⟨_, rfl⟩
  obtain ⟨M, hM⟩ : ∃ l, p.f3.map (mvD ln) = l := ⟨_, rfl⟩
  have hml : M.length = p.f3.length := by rw [← hM]; simp
  have hmv := parts_moved HNP.out ln hln0.1
  have hfm := fit_moved HFP.out ln
  have hqq : mvP ln p = ⟨p.f0, p.f1, p.f2, M⟩ := by unfold mvP; rw [hM]
  rw [hqq] at hmv hfm
  have KP : Lx.Hd (∀ W', Below W2.heap.size W2 W' → Calls Tryd.prog 17 #[.int .i64 line, .int .i64 1000] W' fun r W'' => r = .returned (.int .i64 ln) ∧ Below W'.heap.size W' W'') := Lx.Hd.mk fun W' hb => by rw [← hln]; exact pick_any line W'
  have KZ : Lx.Hd (∀ W', Below W2.heap.size W2 W' → Calls Tryd.prog 27 #[.agg #[.int .i64 p.f0, .slice A1 p.f1.length c1, .slice A2 p.f2.length c2, .slice A3 p.f3.length c3]] W' fun r W'' => r = .returned (.int .i64 (zp : Int)) ∧ Below W'.heap.size W' W'') := Lx.Hd.mk fun W' hb => by rw [← ezp]; exact size_prog p.f0 _ _ rfl rfl A3 c3 p.f3 W' (RowsP.below HR2.out hb).2.2.1 (RowsP.below HR2.out hb).2.2.1.2.1 (fitP_parts HFP.out).1 (fitP_parts HFP.out).2.1
  have KD : Lx.Hd (∀ W', Below W2.heap.size W2 W' → Calls Tryd.prog 26 #[.agg #[.int .i64 p.f0, .slice A1 p.f1.length c1, .slice A2 p.f2.length c2, .slice A3 p.f3.length c3]] W' fun r W'' => r = .returned (.int .i64 (dp : Int)) ∧ Below W'.heap.size W' W'') := Lx.Hd.mk fun W' hb => by rw [← edp]; exact deep_fit p.f0 _ _ rfl rfl A3 c3 p.f3 W' (RowsP.below HR2.out hb).2.2.1 (fitP_parts HFP.out).1 (fun x hx => (fit_parts ((fitP_parts HFP.out).2.2.1 x hx)).2.1)
  have KM : Lx.Hd (∀ W', Below W2.heap.size W2 W' → Calls Tryd.prog 33 #[.agg #[.int .i64 p.f0, .slice A1 p.f1.length c1, .slice A2 p.f2.length c2, .slice A3 p.f3.length c3], .agg #[.int .i64 p.f0, .slice A1 p.f1.length c1, .slice A2 p.f2.length c2, .slice A3 p.f3.length c3]] W' fun r W'' => r = .returned (.bool true) ∧ Below W'.heap.size W' W'') := Lx.Hd.mk fun W' hb => by have q := sameP_any p p A1 A2 A3 c1 c2 c3 A1 A2 A3 c1 c2 c3 W' (RowsP.below HR2.out hb) (RowsP.below HR2.out hb); rw [sameP_refl] at q; exact q
  have HZ := Lx.Hd.mk (And.intro ezp edp)
  have HM := Lx.Hd.mk hM
  have HML := Lx.Hd.mk hml
  have HMV := Lx.Hd.mk (And.intro hmv hfm)
  have HS := Lx.Hd.mk hs1
  have HLN := Lx.Hd.mk hln0
  have HX1 := Lx.Hd.mk hx1
  have l3 : p.f3.length ≤ 100 := by omega
  clear ezp edp hM hml hmv hfm hqq hln hln0 hs1 hl3 hx1
  go_upto_region 7 with (first | (go_at_call 14; (with_reducible refine (KLI.out _ HB.out).mono ?_); rintro r W3 ⟨rfl, hb⟩; have hn_ := Lx.Hd.mk (below_step HB.out hb); clear hb HB; have HB := hn_; clear hn_; clear pp0 pp1 pp2 pp3; obtain ⟨pp0, pp1, pp2, pp3⟩ := BC1.out _ HB.out) | (go_at_call 32; (with_reducible refine (KLP.out _ HB.out).mono ?_); rintro r W3 ⟨rfl, hb⟩; have hn_ := Lx.Hd.mk (below_step HB.out hb); clear hb HB; have HB := hn_; clear hn_; clear pp0 pp1 pp2 pp3; obtain ⟨pp0, pp1, pp2, pp3⟩ := BC1.out _ HB.out) | (go_at_call 34; (with_reducible refine (KC.out _ HB.out).mono ?_); rintro r W3 ⟨rfl, hb⟩; have hn_ := Lx.Hd.mk (below_step HB.out hb); clear hb HB; have HB := hn_; clear hn_; clear pp0 pp1 pp2 pp3; obtain ⟨pp0, pp1, pp2, pp3⟩ := BC1.out _ HB.out) | fail)
  refine name_world fun W4 hW4 => ?_
  have HB4 : Lx.Hd (Below W2.heap.size W2 W4) := Lx.Hd.mk (by rw [hW4]; exact below_alloc HB.out _)
  have hq : W4.heap[W3.heap.size]? = some (.cells #[.int .i64 p.f0, .slice A1 p.f1.length c1, .slice A2 p.f2.length c2, .slice A3 p.f3.length c3] 46 (0, 0)) := by rw [hW4]; exact World.alloc_heap_new W3 _
  have hbq : W3.heap.size < W4.heap.size := by rw [hW4]; simp
  have hbq2 := HB.out.size
  have HQ := Lx.Hd.mk hq
  have HB := HB4
  clear hW4 HB4 hq
  generalize W3.heap.size = bq at HQ hbq hbq2 ⊢
  have HBQ := Lx.Hd.mk hbq2
  have HBL := Lx.Hd.mk hbq
  clear pp0 pp1 pp2 pp3 hbq2 hbq KLI KLP
  obtain ⟨pp0, pp1, pp2, pp3⟩ := BC1.out _ HB.out
  go_upto_region 8 with (first | ((with_reducible refine gate_dst (N := 21) rfl ?_); refine Kd.N_lit kD (w0 := W2) W2.heap.size 49 ?hg (N' := 21) ?hd (xs := ([] : List SD)) (inner := []) (ok := fun k => k ≠ bq) (okp := fun _ => False) ?hr ?hp (fun _ hk => hk.elim) (by have := HBL.out; omega) HB.out HB.out.size (by simp) ?_; (case hd => rfl); (case hg => rfl); (case hr => first | (go_simp; done) | (go_simp; rfl)); (case hp => exact Reps.none _ _); intro v7 w7 ho7 hb7 hg7 hn7; have HO := Lx.Hd.mk ho7; have hq_ := Lx.Hd.mk ((hg7.block bq HBL.out (by simp)).trans HQ.out); have hl_ := Lx.Hd.mk (Nat.lt_of_lt_of_le HBL.out hg7.size); clear HB HQ HBL; have HB := Lx.Hd.mk hb7; have HQ := hq_; have HBL := hl_; clear ho7 hb7 hg7 hn7 hq_ hl_; obtain ⟨A7, c7, rfl⟩ := Kd.N_slice HO.out; clear pp0 pp1 pp2 pp3; obtain ⟨pp0, pp1, pp2, pp3⟩ := BC1.out _ HB.out) | ((with_reducible refine gate_builtin (b := .append) (xs := #[.tmp 21, .tmp 23]) rfl ?_); at_builtin; refine Kd.N_append_rows kD (w0 := W2) W2.heap.size rfl (.tmp 21) (.tmp 23) 44 49 _ 96 rfl Tryd.underlying44 info49 rfl (by decide) (by omega) _ [] p.f3 A3 p.f3.length c3 (fun k => k ≠ bq) (fun k => k < W2.heap.size) rfl rfl ?aO ?aR ?aK ?aF ?aB ?aS ?aL ?_; (case aO => exact HO.out); (case aR => exact Kd.F_below (Kd.C_F heapD HR2.out.2.2.1) HB.out); (case aK => exact fun k hk => ⟨by have := HBQ.out; omega, fun he => by have h1 := Kd.N_base HO.out k he.symm; omega⟩); (case aF => exact fun k hk => by have := HBL.out; omega); (case aB => exact HB.out); (case aS => exact HB.out.size); (case aL => (show (0 + p.f3.length) * 96 ≤ _; omega)); intro v9 w9 ho9 hb9 hg9 hn9; have HN := Lx.Hd.mk (show Kd.N kD 49 w9 W2.heap.size (fun k => k ≠ bq) v9 (half M p.f3 0) from by rw [half_zero]; exact ho9); have hq_ := Lx.Hd.mk ((hg9.block bq HBL.out (fun he => (Kd.N_away HO.out (fun k hk => hk)) he)).trans HQ.out); have hl_ := Lx.Hd.mk (Nat.lt_of_lt_of_le HBL.out hg9.size); clear HB HO HQ HBL; have HB := Lx.Hd.mk hb9; have HQ := hq_; have HBL := hl_; clear ho9 hb9 hg9 hn9 hq_ hl_; have hv9 := Kd.N_slice HN.out; rw [half_length M p.f3 HML.out 0 (Nat.zero_le _)] at hv9; obtain ⟨B, cB, rfl⟩ := hv9; clear pp0 pp1 pp2 pp3; have q3_ : w9.cell? ⟨bq, 3, none⟩ = some (.slice A3 p.f3.length c3) := (blk_cell HQ.out 3).trans rfl; have q4_ : w9.frozen? ⟨bq, 3, none⟩ = false := blk_frozen HQ.out 3) | fail)
  refine name_world fun W5 hW5 => ?_
  have hq5 : W5.heap[bq]? = some (.cells #[.int .i64 p.f0, .slice A1 p.f1.length c1, .slice A2 p.f2.length c2, .slice B p.f3.length cB] 46 (0, 0)) := by rw [hW5]; exact blk_put HQ.out 3 _ rfl
  have hn5 : Kd.N kD 49 W5 W2.heap.size (fun k => k ≠ bq) (.slice B p.f3.length cB) (half M p.f3 0) := by rw [hW5]; exact Kd.N_far HN.out (fun k hk => hk) _
  have hb5 : Below W2.heap.size W2 W5 := by rw [hW5]; exact HB.out.setCell (p := ⟨bq, 3, none⟩) HBQ.out _
  have hl5 : bq < W5.heap.size := blk_lt hq5
  clear hW5 q3_ q4_ HQ HN HB HBL
  have HQ := Lx.Hd.mk hq5
  have HN := Lx.Hd.mk hn5
  have HB := Lx.Hd.mk hb5
  clear hq5 hn5 hb5 hl5
  obtain ⟨pp0, pp1, pp2, pp3⟩ := BC1.out _ HB.out
  go_wp2
  go_loopw [5, 6, 8] (fun t5 t6 t8 wr => ∃ i : Nat, i ≤ p.f3.length ∧ t8 = .int .i64 i ∧ t5 = .int .i64 ((sizeDs (p.f3.take i) : Nat) : Int) ∧ t6 = .int .i64 ((deeps (nodes (p.f3.take i)) : Nat) : Int) ∧ Lx.Hd (Kd.N kD 49 wr W2.heap.size (fun k => k ≠ bq) (.slice B p.f3.length cB) (half M p.f3 i)) ∧ Lx.Hd (wr.heap[bq]? = some (.cells #[.int .i64 p.f0, .slice A1 p.f1.length c1, .slice A2 p.f2.length c2, .slice B p.f3.length cB] 46 (0, 0))) ∧ Lx.Hd (Below W2.heap.size W2 wr)) (fun _ _ t8 _ => p.f3.length - (intOf t8).toNat)
  case atStart => exact ⟨0, Nat.zero_le _, rfl, rfl, rfl, HN, HQ, HB⟩
  case round =>
    clear HN HQ HB pp0 pp1 pp2 pp3
    obtain ⟨i, hi, rfl, rfl, rfl, HN, HQ, HB⟩ := hrel
    obtain ⟨pp0, pp1, pp2, pp3⟩ := BC1.out _ HB.out
    by_cases hlt : i < p.f3.length
    rotate_left
    · obtain rfl : i = p.f3.length := by omega
      have hend : half M p.f3 p.f3.length = M := half_end M p.f3 HML.out _ rfl
      have hN := Kd.N_reads' HN.out
      rw [hend, HML.out] at hN
      have BC7 := Lx.Hd.mk (cellsP_of (p := ⟨p.f0, p.f1, p.f2, p.f3⟩) HQ.out)
      have hrq : RowsP wr ⟨p.f0, p.f1, p.f2, M⟩ A1 A2 B c1 c2 cB := ⟨(RowsP.below HR2.out HB.out).1, (RowsP.below HR2.out HB.out).2.1, by show kD.C wr B M.length M; rw [HML.out]; exact hN.2.2, HR2.out.2.2.2.1, HR2.out.2.2.2.2.1, by show M.length ≤ cB; rw [HML.out]; exact hN.2.1⟩
      have HRQ := Lx.Hd.mk hrq
      have HBr := HB
      have HC : Lx.Hd (Below wr.heap.size wr wr) := Lx.Hd.mk (Below.refl _ _)
      have KM2 : Lx.Hd (∀ W', Below wr.heap.size wr W' → Calls Tryd.prog 33 #[.agg #[.int .i64 p.f0, .slice A1 p.f1.length c1, .slice A2 p.f2.length c2, .slice A3 p.f3.length c3], .agg #[.int .i64 p.f0, .slice A1 p.f1.length c1, .slice A2 p.f2.length c2, .slice B p.f3.length cB]] W' fun r W'' => r = .returned (.bool true) ∧ Below W'.heap.size W' W'') := Lx.Hd.mk fun W' hb => by have q := sameP_any p ⟨p.f0, p.f1, p.f2, M⟩ A1 A2 A3 c1 c2 c3 A1 A2 B c1 c2 cB W' (RowsP.below HR2.out (below_step HBr.out hb)) (RowsP.below HRQ.out hb); rw [HMV.out.1.1] at q; simpa only [HML.out] using q
      have KC2 : Lx.Hd (∀ W', Below wr.heap.size wr W' → Calls Tryd.prog 34 #[.agg #[.int .i64 p.f0, .slice A1 p.f1.length c1, .slice A2 p.f2.length c2, .slice B p.f3.length cB]] W' fun r W'' => r = .returned (.int .i64 0) ∧ Below W'.heap.size W' W'') := Lx.Hd.mk fun W' hb => by have q := check_prog ⟨p.f0, p.f1, p.f2, M⟩ A1 A2 B c1 c2 cB W' (Keys.below HG2.out (below_step HBr.out hb)) (RowsP.below HRQ.out hb) HMV.out.2; rw [HMV.out.1.2] at q; simpa only [HML.out] using q
      have hz1 : sizeDs (p.f3.take p.f3.length) = zp := by rw [List.take_of_length_le (Nat.le_refl _), ← sizes_nodes]; exact HZ.out.1
      have hz2 : deeps (nodes (p.f3.take p.f3.length)) = dp := by rw [List.take_of_length_le (Nat.le_refl _)]; exact HZ.out.2
      rw [hz1, hz2]
      clear hz1 hz2 hend hN hrq hi hlt
      obtain ⟨pq0, pq1, pq2, pq3⟩ := BC7.out _ HC.out
      go_wp2_with (first | (go_at_call 27; (with_reducible refine (KZ.out _ HB.out).mono ?_); rintro r W3 ⟨rfl, hb⟩; have hn_ := Lx.Hd.mk (below_step HB.out hb); have hm_ := Lx.Hd.mk (below_step HC.out hb); clear hb HB HC; have HB := hn_; have HC := hm_; clear hn_ hm_; clear pp0 pp1 pp2 pp3; obtain ⟨pp0, pp1, pp2, pp3⟩ := BC1.out _ HB.out; clear pq0 pq1 pq2 pq3; obtain ⟨pq0, pq1, pq2, pq3⟩ := BC7.out _ HC.out) | (go_at_call 26; (with_reducible refine (KD.out _ HB.out).mono ?_); rintro r W3 ⟨rfl, hb⟩; have hn_ := Lx.Hd.mk (below_step HB.out hb); have hm_ := Lx.Hd.mk (below_step HC.out hb); clear hb HB HC; have HB := hn_; have HC := hm_; clear hn_ hm_; clear pp0 pp1 pp2 pp3; obtain ⟨pp0, pp1, pp2, pp3⟩ := BC1.out _ HB.out; clear pq0 pq1 pq2 pq3; obtain ⟨pq0, pq1, pq2, pq3⟩ := BC7.out _ HC.out) | (go_at_call 33; (with_reducible refine (KM.out _ HB.out).mono ?_); rintro r W3 ⟨rfl, hb⟩; have hn_ := Lx.Hd.mk (below_step HB.out hb); have hm_ := Lx.Hd.mk (below_step HC.out hb); clear hb HB HC; have HB := hn_; have HC := hm_; clear hn_ hm_; clear pp0 pp1 pp2 pp3; obtain ⟨pp0, pp1, pp2, pp3⟩ := BC1.out _ HB.out; clear pq0 pq1 pq2 pq3; obtain ⟨pq0, pq1, pq2, pq3⟩ := BC7.out _ HC.out) | (go_at_call 33; (with_reducible refine (KM2.out _ HC.out).mono ?_); rintro r W3 ⟨rfl, hb⟩; have hn_ := Lx.Hd.mk (below_step HB.out hb); have hm_ := Lx.Hd.mk (below_step HC.out hb); clear hb HB HC; have HB := hn_; have HC := hm_; clear hn_ hm_; clear pp0 pp1 pp2 pp3; obtain ⟨pp0, pp1, pp2, pp3⟩ := BC1.out _ HB.out; clear pq0 pq1 pq2 pq3; obtain ⟨pq0, pq1, pq2, pq3⟩ := BC7.out _ HC.out) | (go_at_call 34; (with_reducible refine (KC2.out _ HC.out).mono ?_); rintro r W3 ⟨rfl, hb⟩; have hn_ := Lx.Hd.mk (below_step HB.out hb); have hm_ := Lx.Hd.mk (below_step HC.out hb); clear hb HB HC; have HB := hn_; have HC := hm_; clear hn_ hm_; clear pp0 pp1 pp2 pp3; obtain ⟨pp0, pp1, pp2, pp3⟩ := BC1.out _ HB.out; clear pq0 pq1 pq2 pq3; obtain ⟨pq0, pq1, pq2, pq3⟩ := BC7.out _ HC.out) | fail)
      go_ret
      exact ⟨rfl, HB0.out.trans (HB.out.mono HB0.out.size)⟩
    obtain ⟨ad, E2, x2, E5, x5, rfl, e0, e1, e2, e3, e4, e5, e6, k2, g2, k5, g5⟩ := at_T49 (show kD.C W2 A3 p.f3.length p.f3 from HR2.out.2.2.1) i (by omega) (by omega)
    have ex : rd_T49 p.f3 i = p.f3[i] := by unfold rd_T49; rw [Int.toNat_natCast, List.getD_eq_getElem?_getD, List.getElem?_eq_getElem hlt]; rfl
    have hmem := List.getElem_mem hlt
    rw [ex] at e0 e1 e2 e3 e4 e5 e6 k2 g2 k5 g5
    rw [Int.toNat_natCast] at e0 e1 e2 e3 e4 e5 e6
    obtain ⟨hgd, hc1, hf1⟩ := parts_decl HWP.out HS.out HNP.out hmem
    have hzd := sizeDs_mem hmem
    have hsz := sizeDs_succ hlt
    have hdp := deepDs_succ hlt
    have hst := sizeDs_take p.f3 (i + 1)
    have hge := half_get M p.f3 HML.out i hlt z49
    have hset : ∀ x, mvD ln p.f3[i] = x → (half M p.f3 i).set i x = half M p.f3 (i + 1) := fun x hx => half_set M p.f3 HML.out i hlt x (by
      have hMo := HM.out
      subst hMo
      rw [List.getElem_map]; exact hx)
    have hxl := half_length M p.f3 HML.out i hi
    obtain ⟨g, cap, hv, hg1, hg2, _⟩ := Kd.N_form HN.out (by rw [hxl]; omega)
    have hgq : bq ≠ g := fun he => Kd.N_away HN.out (fun k hk => hk) (by rw [hv, he]; simp [Value.ownBlock])
    obtain ⟨aq, rfl, hg1, hg2, hgq⟩ : ∃ aq : Addr, B = some aq ∧ W2.heap.size ≤ aq.block ∧ aq.block < wr.heap.size ∧ bq ≠ aq.block := by injection hv with h1 h2 h3; exact ⟨_, h1, hg1, hg2, hgq⟩
    clear ex hmem
    obtain ⟨xs, hxs⟩ : ∃ xs, half M p.f3 i = xs := ⟨_, rfl⟩
    rw [hxs] at hge HN hset hxl
    obtain ⟨zi, hzi⟩ : ∃ n, sizeDs (p.f3.take i) = n := ⟨_, rfl⟩
    obtain ⟨di, hdi⟩ : ∃ n, deeps (nodes (p.f3.take i)) = n := ⟨_, rfl⟩
    rw [hzi] at hsz
    rw [hdi] at hdp
    rw [hzi, hdi]
    generalize p.f3[i] = d at *
    obtain ⟨zd, ezd⟩ : ∃ n, sizes (nodes [d]) = n := ⟨_, rfl⟩
    obtain ⟨dd, edd⟩ : ∃ n, deeps (nodes [d]) = n := ⟨_, rfl⟩
    rw [ezd] at hsz
    rw [edd] at hdp
    have HEL : Lx.Hd (∀ W, Below W2.heap.size W2 W → W.cell? (ad.add (i * 7)) = some (.int .i64 d.f0) ∧ W.cell? ⟨(ad.add (i * 7)).block, (ad.add (i * 7)).off + 1, none⟩ = some (.string d.f1) ∧ W.cell? ⟨(ad.add (i * 7)).block, (ad.add (i * 7)).off + 2, none⟩ = some (.slice E2 d.f2.length x2) ∧ W.cell? ⟨(ad.add (i * 7)).block, (ad.add (i * 7)).off + 3, none⟩ = some (.int .i64 d.f3) ∧ W.cell? ⟨(ad.add (i * 7)).block, (ad.add (i * 7)).off + 4, none⟩ = some (.int .i64 d.f4) ∧ W.cell? ⟨(ad.add (i * 7)).block, (ad.add (i * 7)).off + 5, none⟩ = some (.slice E5 d.f5.length x5) ∧ W.cell? ⟨(ad.add (i * 7)).block, (ad.add (i * 7)).off + 6, none⟩ = some (.int .i64 d.f6)) := Lx.Hd.mk fun W hb => ⟨pw_cell_below hb e0, pw_cell_below hb e1, pw_cell_below hb e2, pw_cell_below hb e3, pw_cell_below hb e4, pw_cell_below hb e5, pw_cell_below hb e6⟩
    have HRD : Lx.Hd (RowsD W2 d E2 E5 x2 x5) := Lx.Hd.mk ⟨g2, g5, k2, k5⟩
    have KPA : Lx.Hd (∀ W', Below W2.heap.size W2 W' → Calls Tryd.prog 50 #[.slice E5 d.f5.length x5] W' fun r W'' => r = .returned (.bool true) ∧ Below W'.heap.size W' W'') := Lx.Hd.mk fun W' hb => parts_any _ d.f5 (Nat.le_refl _) hgd E5 x5 W' (Keys.below HG2.out hb) (Kd.C_below g5 hb) k5
    have KMV : Lx.Hd (∀ W', Below W2.heap.size W2 W' → Calls Tryd.prog 51 #[.slice E5 d.f5.length x5, .int .i64 ln] W' fun r W'' => ∃ v, r = .returned v ∧ Kd.N kS 38 W'' W'.heap.size (OkA (fun k => k < W2.heap.size) W'.heap.size) v (mvSs ln 0 d.f5) ∧ Below W'.heap.size W' W'') := Lx.Hd.mk fun W' hb => moved_any ln HLN.out.1 (by have := HLN.out.2; omega) _ d.f5 (Nat.lt_succ_self _) (by have := HS.out; omega) _ E5 x5 W' (fun k hk => Nat.lt_of_lt_of_le hk hb.size) (Kd.F_below (Kd.C_F heapS g5) hb) k5
    have HI := Lx.Hd.mk (And.intro hc1 (And.intro hf1 (And.intro ezd edd)))
    have HSZ := Lx.Hd.mk (And.intro hsz hdp)
    have HGE := Lx.Hd.mk hge
    have HST := Lx.Hd.mk hset
    have HXL := Lx.Hd.mk hxl
    have HGB := Lx.Hd.mk (And.intro hg1 (And.intro hg2 hgq))
    have hzb : zi + zd ≤ 300 := by have := HS.out; omega
    have i1 : decide ((i : Int) < (p.f3.length : Int)) = true := decide_eq_true (by omega)
    have i2 : decide (i < p.f3.length) = true := decide_eq_true hlt
    clear hgd hc1 hf1 hzd hsz hdp hst hge hset hxl hv hg1 hg2 hgq hxs hzi hdi ezd edd e0 e1 e2 e3 e4 e5 e6 k2 g2 k5 g5
    have hu46 := Tryd.underlying46
    have hu49 := Tryd.underlying49
    obtain ⟨a0, a1, a2, a3, a4, a5, a6⟩ := HEL.out _ HB.out
    go_upto_region 12 with (fail)
    refine name_world fun W6 hW6 => ?_
    obtain ⟨bd, b9, hbd, hb9, hr6, h96, hb6⟩ : ∃ bd b9, wr.heap.size = bd ∧ wr.heap.size + 1 = b9 ∧ RowsP W6 (oneP d) none none (some ⟨bd, 0, none⟩) 0 0 1 ∧ W6.heap[b9]? = some (.cells #[.int .i64 1, .slice none 0 0, .slice none 0 0, .slice (some ⟨bd, 0, none⟩) 1 1] 46 (0, 0)) ∧ Below wr.heap.size wr W6 := by
      refine ⟨_, _, rfl, rfl, ?_, ?_, ?_⟩
      · rw [hW6]; exact RowsP.below (one_rows (RowsD.below HRD.out HB.out)) (below_alloc (Below.refl _ _) _)
      · rw [hW6]
        have q := World.alloc_heap_new (wr.alloc (.cells #[.int .i64 d.f0, .string d.f1, .slice E2 d.f2.length x2, .int .i64 d.f3, .int .i64 d.f4, .slice E5 d.f5.length x5, .int .i64 d.f6] 49)) (.cells #[.int .i64 1, .slice none 0 0, .slice none 0 0, .slice (some ⟨wr.heap.size, 0, none⟩) 1 1] 46)
        rwa [show (wr.alloc (.cells #[.int .i64 d.f0, .string d.f1, .slice E2 d.f2.length x2, .int .i64 d.f3, .int .i64 d.f4, .slice E5 d.f5.length x5, .int .i64 d.f6] 49)).heap.size = wr.heap.size + 1 by simp] at q
      · rw [hW6]; exact below_alloc (below_alloc (Below.refl _ _) _) _
    have HR6 := Lx.Hd.mk hr6
    have BC9 : Lx.Hd (∀ W', Below W6.heap.size W6 W' → OneC W' b9 bd) := Lx.Hd.mk (oneC_of d h96)
    have HW6 : Lx.Hd (Below W2.heap.size W2 W6) := Lx.Hd.mk (below_step HB.out hb6)
    have hn_ := Lx.Hd.mk (Kd.N_below HN.out hb6)
    have hq_ := Lx.Hd.mk ((hb6.block bq (blk_lt HQ.out)).trans HQ.out)
    have hg_ := Lx.Hd.mk (And.intro HGB.out.1 (And.intro (Nat.lt_of_lt_of_le HGB.out.2.1 hb6.size) HGB.out.2.2))
    clear HN HQ HB HGB pp0 pp1 pp2 pp3 a0 a1 a2 a3 a4 a5 a6
    have HN := hn_
    have HQ := hq_
    have HGB := hg_
    have HC : Lx.Hd (Below W6.heap.size W6 W6) := Lx.Hd.mk (Below.refl _ _)
    have HB := HW6
    clear hW6 hn_ hq_ hg_ hr6 h96 hb6
    rw [hb9, hbd]
    clear hbd hb9
    have KC1 : Lx.Hd (∀ W', Below W6.heap.size W6 W' → Calls Tryd.prog 34 #[.agg #[.int .i64 1, .slice none 0 0, .slice none 0 0, .slice (some ⟨bd, 0, none⟩) 1 1]] W' fun r W'' => r = .returned (.int .i64 0) ∧ Below W'.heap.size W' W'') := Lx.Hd.mk fun W' hb => by have q := check_prog (oneP d) none none (some ⟨bd, 0, none⟩) 0 0 1 W' (Keys.below HG2.out (below_step HW6.out hb)) (RowsP.below HR6.out hb) HI.out.2.1; rw [show checkP (oneP d) = 0 from HI.out.1] at q; exact q
    have KZ1 : Lx.Hd (∀ W', Below W6.heap.size W6 W' → Calls Tryd.prog 27 #[.agg #[.int .i64 1, .slice none 0 0, .slice none 0 0, .slice (some ⟨bd, 0, none⟩) 1 1]] W' fun r W'' => r = .returned (.int .i64 (zd : Int)) ∧ Below W'.heap.size W' W'') := Lx.Hd.mk fun W' hb => by rw [← HI.out.2.2.1]; exact size_prog 1 _ _ rfl rfl (some ⟨bd, 0, none⟩) 1 [d] W' (RowsP.below HR6.out hb).2.2.1 (RowsP.below HR6.out hb).2.2.1.2.1 (fitP_parts HI.out.2.1).1 (fitP_parts HI.out.2.1).2.1
    have KD1 : Lx.Hd (∀ W', Below W6.heap.size W6 W' → Calls Tryd.prog 26 #[.agg #[.int .i64 1, .slice none 0 0, .slice none 0 0, .slice (some ⟨bd, 0, none⟩) 1 1]] W' fun r W'' => r = .returned (.int .i64 (dd : Int)) ∧ Below W'.heap.size W' W'') := Lx.Hd.mk fun W' hb => by rw [← HI.out.2.2.2]; exact deep_fit 1 _ _ rfl rfl (some ⟨bd, 0, none⟩) 1 [d] W' (RowsP.below HR6.out hb).2.2.1 (fitP_parts HI.out.2.1).1 (fun x hx => (fit_parts ((fitP_parts HI.out.2.1).2.2.1 x hx)).2.1)
    obtain ⟨pp0, pp1, pp2, pp3⟩ := BC1.out _ HB.out
    obtain ⟨po0, po1, po2, po3⟩ := BC9.out _ HC.out
    obtain ⟨a0, a1, a2, a3, a4, a5, a6⟩ := HEL.out _ HB.out
    go_upto_region 14 with (first | (go_at_call 50; (with_reducible refine (KPA.out _ HB.out).mono ?_); rintro r W3 ⟨rfl, hb⟩; have hn_ := Lx.Hd.mk (below_step HB.out hb); have hm_ := Lx.Hd.mk (below_step HC.out hb); clear hb HB HC; have HB := hn_; have HC := hm_; clear hn_ hm_; clear pp0 pp1 pp2 pp3 po0 po1 po2 po3 a0 a1 a2 a3 a4 a5 a6; obtain ⟨pp0, pp1, pp2, pp3⟩ := BC1.out _ HB.out; obtain ⟨po0, po1, po2, po3⟩ := BC9.out _ HC.out; obtain ⟨a0, a1, a2, a3, a4, a5, a6⟩ := HEL.out _ HB.out) | (go_at_call 34; (with_reducible refine (KC1.out _ HC.out).mono ?_); rintro r W3 ⟨rfl, hb⟩; have hn_ := Lx.Hd.mk (below_step HB.out hb); have hm_ := Lx.Hd.mk (below_step HC.out hb); clear hb HB HC; have HB := hn_; have HC := hm_; clear hn_ hm_; clear pp0 pp1 pp2 pp3 po0 po1 po2 po3 a0 a1 a2 a3 a4 a5 a6; obtain ⟨pp0, pp1, pp2, pp3⟩ := BC1.out _ HB.out; obtain ⟨po0, po1, po2, po3⟩ := BC9.out _ HC.out; obtain ⟨a0, a1, a2, a3, a4, a5, a6⟩ := HEL.out _ HB.out) | fail)
    clear pp0 pp1 pp2 pp3 po0 po1 po2 po3 a0 a1 a2 a3 a4 a5 a6 KPA KC1 HB
    have w1 : IntKind.i64.wrap ((zi : Int) + (zd : Int)) = ((zi + zd : Nat) : Int) := by rw [wrap_in (by omega)]; omega
    obtain ⟨dn, hdn⟩ : ∃ r : Int, (if (di : Int) < (dd : Int) then (dd : Int) else (di : Int)) = r := ⟨_, rfl⟩
    have HDN := Lx.Hd.mk hdn
    have HB := HC
    clear HC
    have HBd := Lx.Hd.mk (below_drew HB.out)
    refine start_ (n := 10) (S := fun w' => OneC w' b9 bd) (ds := []) (fl 10 0) (by kernel_rfl) rfl rfl (BC9.out _ HBd.out) (fun hHeld => ?_)
    clear HB
    have HB := HBd
    clear HBd
    refine pu 0 (some 53) (fl 10 1) ?_
    refine pu 4 (some 57) (fl 10 17) ?_
    refine tk 1 (some 54) (fl 10 19) hHeld (hr := by rintro w' ⟨s0, s1, s2, s3⟩; go_simp; with_reducible rfl) (h := ?_)
    refine tk 5 (some 58) (fl 10 51) hHeld (hr := by rintro w' ⟨s0, s1, s2, s3⟩; go_simp; with_reducible rfl) (h := ?_)
    refine ca 2 55 (fl 10 55) Tryd.func27 (KZ1.out _ HB.out) HB BC9.out ?_; clear HB hHeld; intro W3 HB hHeld
    refine pu 3 (some 56) (fl 10 63) ?_
    refine ca 6 59 (fl 10 127) Tryd.func26 (KD1.out _ HB.out) HB BC9.out ?_; clear HB hHeld; intro W3 HB hHeld
    refine pu 7 (some 60) (fl 10 255) ?_
    refine pu 8 (some 5) (fl 10 511) ?_
    refine pu 9 (some 6) (fl 10 1023) ?_
    refine done_ (by kernel_rfl) ?_
    clear w1 hdn KZ1 KD1 HR6
    go_upto_region 15 with (fail)
    refine name_world fun W9 hW9 => ?_
    rw [← show W9 = _ from hW9] at HB
    have HN9 := Lx.Hd.mk (Kd.N_below HN.out HB.out)
    have HQ9 := Lx.Hd.mk ((HB.out.block bq (blk_lt HQ.out)).trans HQ.out)
    have HG9 := Lx.Hd.mk (And.intro HGB.out.1 (And.intro (Nat.lt_of_lt_of_le HGB.out.2.1 HB.out.size) HGB.out.2.2))
    have HW9 := Lx.Hd.mk (below_step HW6.out HB.out)
    clear HN HQ HGB HB BC9 hHeld HW6 hW9
    have HN := HN9
    have HQ := HQ9
    have HGB := HG9
    have HB : Lx.Hd (Below W9.heap.size W9 W9) := Lx.Hd.mk (Below.refl _ _)
    clear HN9 HQ9 HG9
    have HBd := Lx.Hd.mk (below_drew HB.out)
    have hn_ := Lx.Hd.mk (Kd.N_below HN.out (below_drew (Below.refl _ _)))
    clear HN
    have HN := hn_
    clear hn_
    refine start_ (n := 8) (S := fun w' => w'.cell? ⟨bq, 3, none⟩ = some (.slice (some aq) p.f3.length cB)) (ds := [7]) (fl 8 0) (by kernel_rfl) rfl rfl (pw_cell_below HBd.out ((blk_cell HQ.out 3).trans rfl)) (fun hHeld => ?_)
    clear HB
    have HB := HBd
    clear HBd
    refine pu 0 (some 61) (fl 8 1) ?_
    refine pu 2 (some 63) (fl 8 5) ?_
    refine pu 3 (some 64) (fl 8 13) ?_
    refine tk 1 (some 62) (fl 8 15) hHeld (hr := by intro w' s0; go_simp; with_reducible rfl) (h := ?_)
    refine one_ (i := 4) (N := some 65) (fl 8 31) rfl rfl (by kernel_rfl) (by decide) (fun K hK => ?_)
    refine goes_ Tryd.func17 (by kernel_rfl) rfl #[.int .i64 line, .int .i64 1000] (by rfl) rfl rfl (by (try simp only [List.map_toArray, List.map_cons, List.map_nil]); first | done | rfl) ?_
    with_reducible refine (KP.out _ (below_step HW9.out HB.out)).mono ?_
    rintro r W3 ⟨rfl, hb⟩
    refine ⟨_, rfl, ?_⟩
    have h1_ := Lx.Hd.mk (Kd.N_below HN.out hb)
    have hn_ := Lx.Hd.mk (below_step HB.out hb)
    clear hb HB HN
    have HB := hn_
    have HN := h1_
    clear hn_ h1_
    refine hK.out _ _ (pw_cell_below HB.out ((blk_cell HQ.out 3).trans rfl)) (fun hHeld => ?_)
    clear hK K
    refine norm_ (a' := ?_) ?_ ?_
    rotate_left; · (show Act.put _ (some 65) _ = _; simp only [Act.put, List.setIfInBounds_toArray, List.set_cons_zero, List.set_cons_succ, i64_w, i32_w]; rfl)
    refine pu 5 (some 66) (fl 8 63) ?_
    refine pu 6 (some 67) (fl 8 127) ?_
    refine last_ (i := 7) (N := none) (fl 8 255) rfl rfl (by kernel_rfl) (by decide) (fun K hK => ?_)
    obtain ⟨u_, c_, f_⟩ := N_cell HN.out z49 i hlt 6 (by decide)
    rw [show kD.sz = 7 from rfl] at c_ f_
    refine skip_ (w1 := ?_) (by rfl) rfl ?_ ?_
    rotate_left
    · go_simp
      rfl
    clear u_ c_ f_
    refine hK.out _ _ ?_
    clear hK K
    refine done_ (by kernel_rfl) ?_
    have hn_ := put_dline HN.out i hlt ln
    have hag : (aq.add (i * 7)).block = aq.block := add_block _ _
    have hb_ : Below W2.heap.size W2 (W3.setCell ⟨(aq.add (i * 7)).block, (aq.add (i * 7)).off + 6, none⟩ (.int .i64 ln)) := (below_step HW9.out HB.out).setCell (p := ⟨(aq.add (i * 7)).block, (aq.add (i * 7)).off + 6, none⟩) (by rw [hag]; exact HGB.out.1) _
    have hq_ : (W3.setCell ⟨(aq.add (i * 7)).block, (aq.add (i * 7)).off + 6, none⟩ (.int .i64 ln)).heap[bq]? = some (.cells #[.int .i64 p.f0, .slice A1 p.f1.length c1, .slice A2 p.f2.length c2, .slice (some aq) p.f3.length cB] 46 (0, 0)) := (Below.heap_setCell _ ⟨(aq.add (i * 7)).block, (aq.add (i * 7)).off + 6, none⟩ _ _ (by rw [hag]; exact HGB.out.2.2)).trans ((HB.out.block bq (blk_lt HQ.out)).trans HQ.out)
    have hs_ : (W3.setCell ⟨(aq.add (i * 7)).block, (aq.add (i * 7)).off + 6, none⟩ (.int .i64 ln)).heap.size = W3.heap.size := by simp
    have hg_ : aq.block < (W3.setCell ⟨(aq.add (i * 7)).block, (aq.add (i * 7)).off + 6, none⟩ (.int .i64 ln)).heap.size := by rw [hs_]; exact Nat.lt_of_lt_of_le HGB.out.2.1 HB.out.size
    rw [HGE.out] at hn_
    have HN1 := Lx.Hd.mk hn_
    have HB1 := Lx.Hd.mk hb_
    have HQ1 := Lx.Hd.mk hq_
    have HG1 := Lx.Hd.mk (And.intro HGB.out.1 (And.intro hg_ HGB.out.2.2))
    clear hn_ hb_ hq_ hs_ hg_ hag HN HB HQ HGB HW9
    generalize (W3.setCell ⟨(aq.add (i * 7)).block, (aq.add (i * 7)).off + 6, none⟩ (.int .i64 ln)) = W10 at HN1 HB1 HQ1 HG1 ⊢
    have HW9 := HB1
    have HN := HN1
    have HQ := HQ1
    have HGB := HG1
    clear HN1 HB1 HQ1 HG1
    have HB : Lx.Hd (Below W10.heap.size W10 W10) := Lx.Hd.mk (Below.refl _ _)
    go_upto_region 16 with (fail)
    have KO : Lx.Hd (∀ k b, W10.heap.size ≤ b → OkA (fun k => k < W2.heap.size) b k → k ≠ bq ∧ k ≠ aq.block) := Lx.Hd.mk fun k b hb hk => by
      have h1 := HGB.out.1
      have h2 := HGB.out.2.1
      have h3 := HBQ.out
      have h4 : bq < W10.heap.size := blk_lt HQ.out
      rcases hk with hk | hk
      · exact ⟨by omega, by omega⟩
      · exact ⟨by omega, by omega⟩
    obtain ⟨T, hT⟩ : ∃ T, mvSs ln 0 d.f5 = T := ⟨_, rfl⟩
    rw [hT] at KMV
    have HTT := Lx.Hd.mk hT
    clear hT
    have HBd := Lx.Hd.mk (below_drew HB.out)
    have hn_ := Lx.Hd.mk (Kd.N_below HN.out (below_drew (Below.refl _ _)))
    clear HN
    have HN := hn_
    clear hn_
    refine start_ (n := 15) (S := fun w' => w'.cell? ⟨bq, 3, none⟩ = some (.slice (some aq) p.f3.length cB) ∧ w'.cell? ⟨x1, 3, none⟩ = some (.slice (some ad) p.f3.length c3) ∧ w'.cell? ⟨(ad.add (i * 7)).block, (ad.add (i * 7)).off + 5, none⟩ = some (.slice E5 d.f5.length x5)) (ds := [14]) (fl 15 0) (by kernel_rfl) rfl rfl ⟨pw_cell_below HBd.out ((blk_cell HQ.out 3).trans rfl), (BC1.out _ (below_step HW9.out HBd.out)).2.2.2, (HEL.out _ (below_step HW9.out HBd.out)).2.2.2.2.2.1⟩ (fun hHeld => ?_)
    clear HB
    have HB := HBd
    clear HBd
    refine pu 0 (some 68) (fl 15 1) ?_
    refine pu 2 (some 70) (fl 15 5) ?_
    refine pu 3 (some 71) (fl 15 13) ?_
    refine pu 5 (some 73) (fl 15 45) ?_
    refine pu 9 (some 77) (fl 15 557) ?_
    refine tk 1 (some 69) (fl 15 559) hHeld (hr := by rintro w' ⟨s0, s1, s2⟩; go_simp; with_reducible rfl) (h := ?_)
    refine tk 4 (some 72) (fl 15 575) hHeld (hr := by rintro w' ⟨s0, s1, s2⟩; go_simp; with_reducible rfl) (h := ?_)
    refine pu 6 (some 74) (fl 15 639) ?_
    refine pu 7 (some 75) (fl 15 767) ?_
    refine tk 8 (some 76) (fl 15 1023) hHeld (hr := by rintro w' ⟨s0, s1, s2⟩; go_simp; with_reducible rfl) (h := ?_)
    refine one_ (i := 10) (N := some 78) (fl 15 2047) rfl rfl (by kernel_rfl) (by decide) (fun K hK => ?_)
    refine goes_ Tryd.func17 (by kernel_rfl) rfl #[.int .i64 line, .int .i64 1000] (by rfl) rfl rfl (by (try simp only [List.map_toArray, List.map_cons, List.map_nil]); first | done | rfl) ?_
    with_reducible refine (KP.out _ (below_step HW9.out HB.out)).mono ?_
    rintro r W3 ⟨rfl, hb⟩
    refine ⟨_, rfl, ?_⟩
    have h1_ := Lx.Hd.mk (Kd.N_below HN.out hb)
    have hn_ := Lx.Hd.mk (below_step HB.out hb)
    clear hb HB HN
    have HB := hn_
    have HN := h1_
    clear hn_ h1_
    refine hK.out _ _ ⟨pw_cell_below HB.out ((blk_cell HQ.out 3).trans rfl), (BC1.out _ (below_step HW9.out HB.out)).2.2.2, (HEL.out _ (below_step HW9.out HB.out)).2.2.2.2.2.1⟩ (fun hHeld => ?_)
    clear hK K
    refine norm_ (a' := ?_) ?_ ?_
    rotate_left; · (show Act.put _ (some 78) _ = _; simp only [Act.put, List.setIfInBounds_toArray, List.set_cons_zero, List.set_cons_succ, i64_w, i32_w]; rfl)
    refine one_ (i := 11) (N := some 79) (fl 15 4095) rfl rfl (by kernel_rfl) (by decide) (fun K hK => ?_)
    refine goes_ Tryd.func51 (by kernel_rfl) rfl #[.slice E5 d.f5.length x5, .int .i64 ln] (by rfl) rfl rfl (by (try simp only [List.map_toArray, List.map_cons, List.map_nil]); first | done | rfl) ?_
    with_reducible refine (KMV.out _ (below_step HW9.out HB.out)).mono ?_
    rintro r W5 ⟨v1, rfl, hn1, hb⟩
    refine ⟨_, rfl, ?_⟩
    obtain ⟨AT, cT, rfl⟩ := Kd.N_slice hn1
    have HT := Lx.Hd.mk (Kd.F_mono (Kd.N_F hn1) (fun k hk => KO.out k _ HB.out.size hk))
    have LHT := Lx.Hd.mk (Kd.N_reads' hn1).2.1
    have h1_ := Lx.Hd.mk (Kd.N_below HN.out hb)
    have hn_ := Lx.Hd.mk (below_step HB.out hb)
    clear hb HB HN hn1
    have HB := hn_
    have HN := h1_
    clear hn_ h1_
    refine hK.out _ _ ⟨pw_cell_below HB.out ((blk_cell HQ.out 3).trans rfl), (BC1.out _ (below_step HW9.out HB.out)).2.2.2, (HEL.out _ (below_step HW9.out HB.out)).2.2.2.2.2.1⟩ (fun hHeld => ?_)
    clear hK K
    refine norm_ (a' := ?_) ?_ ?_
    rotate_left; · (show Act.put _ (some 79) _ = _; simp only [Act.put, List.setIfInBounds_toArray, List.set_cons_zero, List.set_cons_succ, i64_w, i32_w]; rfl)
    refine pu 12 (some 80) (fl 15 8191) ?_
    refine pu 13 (some 81) (fl 15 16383) ?_
    refine last_ (i := 14) (N := none) (fl 15 32767) rfl rfl (by kernel_rfl) (by decide) (fun K hK => ?_)
    obtain ⟨u_, c_, f_⟩ := N_cell HN.out z49 i hlt 5 (by decide)
    rw [show kD.sz = 7 from rfl] at c_ f_
    refine skip_ (w1 := ?_) (by rfl) rfl ?_ ?_
    rotate_left
    · go_simp
      rfl
    clear u_ c_ f_
    refine hK.out _ _ ?_
    clear hK K
    refine done_ (by kernel_rfl) ?_
    have hn_ := put_dbody HN.out i hlt LHT.out HT.out (fun _ hk => hk)
    have hg1 : ∀ x : SD, (xs.set i x).getD i z49 = x := fun x => by rw [List.getD_eq_getElem?_getD, List.getElem?_set_self (by rw [HXL.out]; exact hlt)]; rfl
    rw [hg1, List.set_set, HST.out _ (show mvD ln d = _ by unfold mvD; rw [HTT.out])] at hn_
    have hag : (aq.add (i * 7)).block = aq.block := add_block _ _
    have hb_ : Below W2.heap.size W2 (W5.setCell ⟨(aq.add (i * 7)).block, (aq.add (i * 7)).off + 5, none⟩ (.slice AT T.length cT)) := (below_step HW9.out HB.out).setCell (p := ⟨(aq.add (i * 7)).block, (aq.add (i * 7)).off + 5, none⟩) (by rw [hag]; exact HGB.out.1) _
    have hq_ : (W5.setCell ⟨(aq.add (i * 7)).block, (aq.add (i * 7)).off + 5, none⟩ (.slice AT T.length cT)).heap[bq]? = some (.cells #[.int .i64 p.f0, .slice A1 p.f1.length c1, .slice A2 p.f2.length c2, .slice (some aq) p.f3.length cB] 46 (0, 0)) := (Below.heap_setCell _ ⟨(aq.add (i * 7)).block, (aq.add (i * 7)).off + 5, none⟩ _ _ (by rw [hag]; exact HGB.out.2.2)).trans ((HB.out.block bq (blk_lt HQ.out)).trans HQ.out)
    have HN1 := Lx.Hd.mk hn_
    have HB1 := Lx.Hd.mk hb_
    have HQ1 := Lx.Hd.mk hq_
    clear hn_ hb_ hq_ hag HN HB HQ HGB HW9 hg1 HT LHT KO
    generalize (W5.setCell ⟨(aq.add (i * 7)).block, (aq.add (i * 7)).off + 5, none⟩ (.slice AT T.length cT)) = W12 at HN1 HB1 HQ1 ⊢
    go_wp2
    exact ⟨⟨i + 1, hlt, by go_num, by rw [HSZ.out.1]; first | rfl | exact congrArg (Value.int .i64) (by omega), by rw [HSZ.out.2]; exact congrArg (Value.int .i64) (by split <;> omega), HN1, HQ1, HB1⟩, by simp [intOf]; omega⟩
end Go.Proofs.YtgkhpecllhiidaaDoor.A
