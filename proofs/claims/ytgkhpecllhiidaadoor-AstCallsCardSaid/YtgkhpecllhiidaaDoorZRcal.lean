/- The row and the tied card of the law AstCalls: for every input the law returns true, and the input reads behind the call as it did. The listed variable lex.keys is tied to the program's text. -/
import Derived.Test.YtgkhpecllhiidaaDoorZRa
import Derived.Test.YtgkhpecllhiidaaDoorZDt
import Derived.Test.YtgkhpecllhiidaaDoorCards
import Derived.Test.YtgkhpecllhiidaaDoorTie
import Derived.WalkKit
import Derived.ShutString
import Derived.ChangeOld
import Derived.Below
import Derived.Carry
import Derived.SizedLaws
import Derived.SevenTiedAt
import Derived.Stop.Joined
set_option linter.unusedVariables false
set_option linter.unusedSimpArgs false
namespace Go.Proofs.YtgkhpecllhiidaaDoor
namespace Rw.astCalls
open Go.ChangeShapes Go.WideShapes Go.ChangeAt Go.RowKit Go.Proofs.YtgkhpecllhiidaaDoor.Rw
open Go.ChangeMaps (open_string shut_string)
theorem laidOut : laidOutB Tryd.prog = true := by kernel_rfl
set_option maxRecDepth 100000 in
theorem lifted (os : Os) (started : os.Started) (H : Type) (enc : TypeId × Value → H) :
    ReturnsInHanded {} Tryd.checked os 9 .any (fun w args => (Rows.astCallsSpec.pre enc Tryd.prog Tryd.f9 [] false w args ∧ laidMetH Tryd.prog laidL w) ∧ sizedMet enc Tryd.prog Tryd.f9 (OpenSpec.ofChange Rows.astCallsSpec) false w args)
      (Rows.astCallsSpec.post enc Tryd.prog Tryd.f9 false true false false) := by
  refine returns_both (C := Tryd.checked) (X := fun w _ => laidMetH Tryd.prog laidL w) (fun _ _ _ hh h => h.of_heap hh) ownNone started (by kernel_rfl) Tryd.func9
    (ChangeSpec.witness_shaped (enc := enc) (C := Tryd.checked) (os := os) (X := fun w _ => laidMetH Tryd.prog laidL w) false (World.doorLaid Tryd.prog 4000 os) #[.agg #[.int .i64 0, .slice none 0 0, .slice none 0 0, .slice none 0 0], .agg #[.int .i64 0, .slice none 0 0, .slice none 0 0, .slice none 0 0], .agg #[.int .i64 0, .int .i64 0, .int .i64 0, .int .u32 0, .string ByteArray.empty, .slice none 0 0], .agg #[.int .i64 0, .int .i64 0, .int .i64 0, .int .u32 0, .string ByteArray.empty, .slice none 0 0], .agg #[.int .i64 0, .int .i64 0, .int .i64 0, .int .i64 0, .string ByteArray.empty, .slice none 0 0, .slice none 0 0, .slice none 0 0, .slice none 0 0, .slice none 0 0], .agg #[.int .i64 0, .int .i64 0, .int .i64 0, .int .i64 0, .string ByteArray.empty, .slice none 0 0, .slice none 0 0, .slice none 0 0, .slice none 0 0, .slice none 0 0], .int .i64 0] 8 rfl (World.shaped_of_RefB (by kernel_rfl) (by kernel_rfl)) (by kernel_rfl) (by kernel_rfl) (by kernel_rfl) (door_met os _)) ?_
  intro W base args ds gs before hval0 hW hsz0 hL hsh
  have hG := keys_of hL hsh
  have hsz : (DataW.weightsEach Tryd.prog (Tryd.f9.params.toList ++ Rows.astCallsSpec.plain.varTypes Tryd.prog) (ds ++ gs)).all (· ≤ reachBytes) = true := hsz0
  have hval : ∀ (j : Nat) t v, Tryd.f9.params[j]? = some t → args[j]? = some v → Value.okWide Tryd.prog W .any base t v := hval0
  have hW' := hW
  obtain ⟨p, q, hA0, hV, rfl, hfz, hnd⟩ := hW
  have hA : DataW.TrodAll enc Tryd.prog W 0 (fun _ => true) true Tryd.f9.params.toList args.toList ds p := hA0
  rw [Tryd.params9] at hA hval hsz
  obtain ⟨v0, vs0, d0, ds0, p0, q0, hargs, rfl, rfl, h0, r0⟩ := trodAll_cons hA
  obtain ⟨v1, vs1, d1, ds1, p1, q1, rfl, rfl, rfl, h1, r1⟩ := trodAll_cons r0
  obtain ⟨v2, vs2, d2, ds2, p2, q2, rfl, rfl, rfl, h2, r2⟩ := trodAll_cons r1
  obtain ⟨v3, vs3, d3, ds3, p3, q3, rfl, rfl, rfl, h3, r3⟩ := trodAll_cons r2
  obtain ⟨v4, vs4, d4, ds4, p4, q4, rfl, rfl, rfl, h4, r4⟩ := trodAll_cons r3
  obtain ⟨v5, vs5, d5, ds5, p5, q5, rfl, rfl, rfl, h5, r5⟩ := trodAll_cons r4
  obtain ⟨v6, vs6, d6, ds6, p6, q6, rfl, rfl, rfl, h6, r6⟩ := trodAll_cons r5
  obtain ⟨rfl, rfl, rfl⟩ := trodAll_nil r6
  obtain rfl : args = #[v0, v1, v2, v3, v4, v5, v6] := by cases args; simp_all
  obtain ⟨rfl, rfl⟩ := trodVars_none hV
  have q0 := hval 0 46 v0 rfl rfl
  unfold Value.okWide at q0
  rw [Tryd.underlying46] at q0
  obtain ⟨cs0, rfl, _, _⟩ := q0
  have k0 := h0
  have lt0 : ∀ x ∈ p0, x.block < W.heap.size := by obtain ⟨m, hm⟩ := k0; exact DataW.trod_lt m _ _ _ hm
  obtain ⟨n0, t0⟩ := h0
  obtain ⟨a0, A0_1, A0_2, A0_3, c0_1, c0_2, c0_3, e0, g0_1, g0_2, g0_3, l0_1, l0_2, l0_3, s0⟩ := A.pp_open n0 _ _ t0 (fun n hn => by have := List.all_eq_true.1 hsz n (DataW.weights_mem_each (j := 0) rfl rfl n hn); simpa using this)
  obtain rfl : cs0 = #[.int .i64 a0.f0, .slice A0_1 a0.f1.length c0_1, .slice A0_2 a0.f2.length c0_2, .slice A0_3 a0.f3.length c0_3] := by have := congrArg List.toArray e0; simpa [Value.cells] using this
  have q1 := hval 1 46 v1 rfl rfl
  unfold Value.okWide at q1
  rw [Tryd.underlying46] at q1
  obtain ⟨cs1, rfl, _, _⟩ := q1
  have k1 := h1
  have lt1 : ∀ x ∈ p1, x.block < W.heap.size := by obtain ⟨m, hm⟩ := k1; exact DataW.trod_lt m _ _ _ hm
  obtain ⟨n1, t1⟩ := h1
  obtain ⟨a1, A1_1, A1_2, A1_3, c1_1, c1_2, c1_3, e1, g1_1, g1_2, g1_3, l1_1, l1_2, l1_3, s1⟩ := A.pp_open n1 _ _ t1 (fun n hn => by have := List.all_eq_true.1 hsz n (DataW.weights_mem_each (j := 1) rfl rfl n hn); simpa using this)
  obtain rfl : cs1 = #[.int .i64 a1.f0, .slice A1_1 a1.f1.length c1_1, .slice A1_2 a1.f2.length c1_2, .slice A1_3 a1.f3.length c1_3] := by have := congrArg List.toArray e1; simpa [Value.cells] using this
  have q2 := hval 2 25 v2 rfl rfl
  unfold Value.okWide at q2
  rw [Tryd.underlying25] at q2
  obtain ⟨cs2, rfl, _, _⟩ := q2
  have k2 := h2
  have lt2 : ∀ x ∈ p2, x.block < W.heap.size := by obtain ⟨m, hm⟩ := k2; exact DataW.trod_lt m _ _ _ hm
  obtain ⟨n2, t2⟩ := h2
  obtain ⟨a2, A2, c2, e2, l2, g2, s2⟩ := A.ex_open n2 _ _ t2 (fun n hn => by have := List.all_eq_true.1 hsz n (DataW.weights_mem_each (j := 2) rfl rfl n hn); simpa using this)
  obtain rfl : cs2 = #[.int .i64 a2.f0, .int .i64 a2.f1, .int .i64 a2.f2, .int .u32 a2.f3, .string a2.f4, .slice A2 a2.f5.length c2] := by have := congrArg List.toArray e2; simpa [Value.cells] using this
  have q3 := hval 3 25 v3 rfl rfl
  unfold Value.okWide at q3
  rw [Tryd.underlying25] at q3
  obtain ⟨cs3, rfl, _, _⟩ := q3
  have k3 := h3
  have lt3 : ∀ x ∈ p3, x.block < W.heap.size := by obtain ⟨m, hm⟩ := k3; exact DataW.trod_lt m _ _ _ hm
  obtain ⟨n3, t3⟩ := h3
  obtain ⟨a3, A3, c3, e3, l3, g3, s3⟩ := A.ex_open n3 _ _ t3 (fun n hn => by have := List.all_eq_true.1 hsz n (DataW.weights_mem_each (j := 3) rfl rfl n hn); simpa using this)
  obtain rfl : cs3 = #[.int .i64 a3.f0, .int .i64 a3.f1, .int .i64 a3.f2, .int .u32 a3.f3, .string a3.f4, .slice A3 a3.f5.length c3] := by have := congrArg List.toArray e3; simpa [Value.cells] using this
  have q4 := hval 4 38 v4 rfl rfl
  unfold Value.okWide at q4
  rw [Tryd.underlying38] at q4
  obtain ⟨cs4, rfl, _, _⟩ := q4
  have k4 := h4
  have lt4 : ∀ x ∈ p4, x.block < W.heap.size := by obtain ⟨m, hm⟩ := k4; exact DataW.trod_lt m _ _ _ hm
  obtain ⟨n4, t4⟩ := h4
  obtain ⟨a4, A4_5, A4_6, A4_7, A4_8, A4_9, c4_5, c4_6, c4_7, c4_8, c4_9, e4, g4, l4, s4⟩ := A.st_open n4 _ _ t4 (fun n hn => by have := List.all_eq_true.1 hsz n (DataW.weights_mem_each (j := 4) rfl rfl n hn); simpa using this)
  obtain rfl : cs4 = #[.int .i64 a4.f0, .int .i64 a4.f1, .int .i64 a4.f2, .int .i64 a4.f3, .string a4.f4, .slice A4_5 a4.f5.length c4_5, .slice A4_6 a4.f6.length c4_6, .slice A4_7 a4.f7.length c4_7, .slice A4_8 a4.f8.length c4_8, .slice A4_9 a4.f9.length c4_9] := by have := congrArg List.toArray e4; simpa [Value.cells] using this
  have q5 := hval 5 38 v5 rfl rfl
  unfold Value.okWide at q5
  rw [Tryd.underlying38] at q5
  obtain ⟨cs5, rfl, _, _⟩ := q5
  have k5 := h5
  have lt5 : ∀ x ∈ p5, x.block < W.heap.size := by obtain ⟨m, hm⟩ := k5; exact DataW.trod_lt m _ _ _ hm
  obtain ⟨n5, t5⟩ := h5
  obtain ⟨a5, A5_5, A5_6, A5_7, A5_8, A5_9, c5_5, c5_6, c5_7, c5_8, c5_9, e5, g5, l5, s5⟩ := A.st_open n5 _ _ t5 (fun n hn => by have := List.all_eq_true.1 hsz n (DataW.weights_mem_each (j := 5) rfl rfl n hn); simpa using this)
  obtain rfl : cs5 = #[.int .i64 a5.f0, .int .i64 a5.f1, .int .i64 a5.f2, .int .i64 a5.f3, .string a5.f4, .slice A5_5 a5.f5.length c5_5, .slice A5_6 a5.f6.length c5_6, .slice A5_7 a5.f7.length c5_7, .slice A5_8 a5.f8.length c5_8, .slice A5_9 a5.f9.length c5_9] := by have := congrArg List.toArray e5; simpa [Value.cells] using this
  obtain ⟨a6, rfl, rfl, rfl, w6⟩ := open_int Tryd.underlying3 (hval 6 3 v6 rfl rfl) h6
  clear hA0 hval0 hsz0 hsz
  refine (A.astCalls_walk a0 a1 a2 a3 a4 a5 a6 A0_1 A0_2 A0_3 A1_1 A1_2 A1_3 A2 A3 A4_5 A4_6 A4_7 A4_8 A4_9 A5_5 A5_6 A5_7 A5_8 A5_9 c0_1 c0_2 c0_3 c1_1 c1_2 c1_3 c2 c3 c4_5 c4_6 c4_7 c4_8 c4_9 c5_5 c5_6 c5_7 c5_8 c5_9 W hG ⟨g0_1, g0_2, g0_3, l0_1, l0_2, l0_3⟩ ⟨g1_1, g1_2, g1_3, l1_1, l1_2, l1_3⟩ ⟨g2, l2⟩ ⟨g3, l3⟩ ⟨g4.1, g4.2.1, g4.2.2.1, g4.2.2.2.1, g4.2.2.2.2, l4.1, l4.2.1, l4.2.2.1, l4.2.2.2.1, l4.2.2.2.2⟩ ⟨g5.1, g5.2.1, g5.2.2.1, g5.2.2.2.1, g5.2.2.2.2, l5.1, l5.2.1, l5.2.2.1, l5.2.2.2.1, l5.2.2.2.2⟩ s0 s1 s2 s3 s4 s5).mono fun e W' ⟨he, bel⟩ => ?_
  subst he
  exact ⟨_, rfl, _, _, _, [], _, [], hW', trodAll_mk1 (shut_bool Tryd.underlying4 _), (trodAll_cons_mk (Below.trod laidOut (by kernel_rfl) (of_decide_eq_true (by kernel_rfl)) k0 bel lt0) (trodAll_cons_mk (Below.trod laidOut (by kernel_rfl) (of_decide_eq_true (by kernel_rfl)) k1 bel lt1) (trodAll_cons_mk (Below.trod laidOut (by kernel_rfl) (of_decide_eq_true (by kernel_rfl)) k2 bel lt2) (trodAll_cons_mk (Below.trod laidOut (by kernel_rfl) (of_decide_eq_true (by kernel_rfl)) k3 bel lt3) (trodAll_cons_mk (Below.trod laidOut (by kernel_rfl) (of_decide_eq_true (by kernel_rfl)) k4 bel lt4) (trodAll_cons_mk (Below.trod laidOut (by kernel_rfl) (of_decide_eq_true (by kernel_rfl)) k5 bel lt5) (trodAll_cons_mk (shut_int Tryd.underlying3 w6) trodAll_mk0))))))), rfl, bel.frame _, fun h => by cases h⟩
set_option maxRecDepth 100000 in
theorem said : Rows.AstCallsSaid :=
  OpenClaim.holds_of_wide 9 Tryd.f9 rfl rfl rfl rfl rfl rfl rfl ⟨rfl, rfl, rfl, rfl, rfl⟩ rfl rfl rfl rfl rfl (by kernel_rfl) Tryd.func9 (by kernel_rfl)
    (of_decide_eq_true (by kernel_rfl)) (by unfold Func.isWrapper; first | (rw [if_pos (by decide +kernel)]; kernel_rfl) | (rw [if_neg (by decide +kernel)]; exact ⟨rfl, rfl⟩))
    (fun os started H enc _ => lifted os started H enc)
end Rw.astCalls
set_option maxRecDepth 100000 in
theorem astCalls_card : Rows.AstCallsCardSaid :=
  Claim7.holds_tied_plain_at .later [] [.mapped] true Rows.astCallsCard.stood.harness false
    Rw.astCalls.said (fun _ h => by cases h) (by kernel_rfl) (fun _ h => by cases h) astCalls_row_tie rfl ⟨rfl, rfl⟩ (by kernel_rfl) rfl
    (fun f fn hf hfn => by
      obtain rfl : f = 9 := Option.some.inj ((show Tryd.prog.funcNamed "lamplighter/lamplighterlaw06.AstCalls" = some 9 by kernel_rfl).symm.trans hf) |>.symm
      obtain rfl : fn = Tryd.f9 := (Option.some.inj (Tryd.func9.symm.trans hfn)).symm
      exact ⟨by kernel_rfl, fun j t ht => by
        rw [Tryd.params9] at ht
        have hm : t ∈ ([46, 46, 25, 25, 38, 38, 3] : List Nat) := by simpa using Array.mem_of_getElem? ht
        have hall : (([46, 46, 25, 25, 38, 38, 3] : List Nat).all fun u => !Tryd.prog.wantsStandIn u) = true := by kernel_rfl
        exact (show Tryd.prog.wantsStandIn t = false by simpa using List.all_eq_true.1 hall t hm)⟩)
    (by kernel_rfl)
#print axioms astCalls_card
end Go.Proofs.YtgkhpecllhiidaaDoor
