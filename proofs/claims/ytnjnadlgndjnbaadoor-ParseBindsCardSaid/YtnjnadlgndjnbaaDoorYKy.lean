/- ParseBinds: the walk. -/
import Derived.Test.YtnjnadlgndjnbaaDoorYKx
import Derived.Test.YtnjnadlgndjnbaaDoorYFe
import Derived.Deep.RegionHeld3
set_option linter.unusedVariables false
set_option linter.unusedSimpArgs false
namespace Go.Proofs.YtnjnadlgndjnbaaDoor.Pk
open Go.RowKit Go.Proofs.YtnjnadlgndjnbaaDoorW.PrintWords Go.Proofs.YtnjnadlgndjnbaaDoorW.PrintLast Go.Proofs.YtnjnadlgndjnbaaDoorW.PrintMore Go.Proofs.YtnjnadlgndjnbaaDoor.Lx
theorem fit5 {a x m y z : ByteArray} (hx : x.size ≤ 2) (hy : y.size ≤ 2) (ha : a.size ≤ 9) (hm : m.size ≤ 9) (hz : z.size ≤ 9) : (((((a ++ x) ++ m) ++ y) ++ z)).size ≤ 65536 := by
  have : (((((a ++ x) ++ m) ++ y) ++ z)).size = a.size + x.size + m.size + y.size + z.size := by simp
  omega
theorem exprS_res {s : ByteArray} {e : SE} (h : Fp.exprS s = some e) : Fp.parseRes s = (e, 0, 0, 0) := by
  unfold Fp.exprS at h
  unfold Fp.parseRes
  cases hl : lexAll s with
  | mk ts o =>
    rw [hl] at h
    cases o with
    | some lc => cases h
    | none =>
      have hk : ts.map Fp.key' = Fp.keys ts := rfl
      simp only [hk] at h
      simp only
      cases hp : Fp.parseK (Fp.keys ts) with
      | none => rw [hp] at h; cases h
      | some r =>
        rw [hp] at h
        cases r with
        | bad m => cases h
        | ok z m =>
          cases m with
          | cons q m => cases h
          | nil =>
            simp only at h ⊢
            split at h
            · next hc => cases h; unfold Fp.judged; rw [if_pos hc]
            · cases h
theorem binds_res {x y : ByteArray} (hx : x ∈ Fp.opS) (hy : y ∈ Fp.opS) : ∃ e l r : SE, Fp.parseRes (((((⟨#[97, 32]⟩ : ByteArray) ++ x) ++ ⟨#[32, 98, 32]⟩) ++ y) ++ ⟨#[32, 99]⟩) = (e, 0, 0, 0) ∧ Fp.parseRes (((((⟨#[40, 97, 32]⟩ : ByteArray) ++ x) ++ ⟨#[32, 98, 41, 32]⟩) ++ y) ++ ⟨#[32, 99]⟩) = (l, 0, 0, 0) ∧ Fp.parseRes (((((⟨#[97]⟩ : ByteArray) ++ x) ++ ⟨#[40, 98]⟩) ++ y) ++ ⟨#[99, 41]⟩) = (r, 0, 0, 0) ∧ A.sameE l r = false ∧
    (if lvI l.f1 > lvI r.f1 then A.sameE e r else A.sameE e l) = true := by
  have h := Fp.binds_all x hx y hy
  unfold Fp.bindsB at h
  cases h1 : Fp.exprS (Fp.src1 x y) with
  | none => rw [h1] at h; cases h
  | some e =>
    cases h2 : Fp.exprS (Fp.src2 x y) with
    | none => rw [h1, h2] at h; cases h
    | some l =>
      cases h3 : Fp.exprS (Fp.src3 x y) with
      | none => rw [h1, h2, h3] at h; cases h
      | some r =>
        rw [h1, h2, h3] at h
        simp only [Bool.and_eq_true, Bool.not_eq_true'] at h
        exact ⟨e, l, r, exprS_res h1, exprS_res h2, exprS_res h3, h.1, h.2⟩
theorem ops_at : ∀ a : Nat, a < 16 → ∃ x, x ∈ Fp.opS ∧ x.size ≤ 2 ∧ ∀ (B : Nat) (W : World), W.heap[B]? = some (.cells #[.string ⟨#[124]⟩, .string ⟨#[94]⟩, .string ⟨#[38]⟩, .string ⟨#[61, 61]⟩, .string ⟨#[33, 61]⟩, .string ⟨#[60]⟩, .string ⟨#[60, 61]⟩, .string ⟨#[62]⟩, .string ⟨#[62, 61]⟩, .string ⟨#[60, 60]⟩, .string ⟨#[62, 62]⟩, .string ⟨#[43]⟩, .string ⟨#[45]⟩, .string ⟨#[42]⟩, .string ⟨#[47]⟩, .string ⟨#[37]⟩] 9 (0, 0)) → W.cell? ⟨B, a, none⟩ = some (.string x) := by
  intro a ha
  rcases (by omega : a = 0 ∨ a = 1 ∨ a = 2 ∨ a = 3 ∨ a = 4 ∨ a = 5 ∨ a = 6 ∨ a = 7 ∨ a = 8 ∨ a = 9 ∨ a = 10 ∨ a = 11 ∨ a = 12 ∨ a = 13 ∨ a = 14 ∨ a = 15) with rfl | rfl | rfl | rfl | rfl | rfl | rfl | rfl | rfl | rfl | rfl | rfl | rfl | rfl | rfl | rfl
  · exact ⟨⟨#[124]⟩, by simp [Fp.opS], by decide, fun B W h => by simp [World.cell?, h]⟩
  · exact ⟨⟨#[94]⟩, by simp [Fp.opS], by decide, fun B W h => by simp [World.cell?, h]⟩
  · exact ⟨⟨#[38]⟩, by simp [Fp.opS], by decide, fun B W h => by simp [World.cell?, h]⟩
  · exact ⟨⟨#[61, 61]⟩, by simp [Fp.opS], by decide, fun B W h => by simp [World.cell?, h]⟩
  · exact ⟨⟨#[33, 61]⟩, by simp [Fp.opS], by decide, fun B W h => by simp [World.cell?, h]⟩
  · exact ⟨⟨#[60]⟩, by simp [Fp.opS], by decide, fun B W h => by simp [World.cell?, h]⟩
  · exact ⟨⟨#[60, 61]⟩, by simp [Fp.opS], by decide, fun B W h => by simp [World.cell?, h]⟩
  · exact ⟨⟨#[62]⟩, by simp [Fp.opS], by decide, fun B W h => by simp [World.cell?, h]⟩
  · exact ⟨⟨#[62, 61]⟩, by simp [Fp.opS], by decide, fun B W h => by simp [World.cell?, h]⟩
  · exact ⟨⟨#[60, 60]⟩, by simp [Fp.opS], by decide, fun B W h => by simp [World.cell?, h]⟩
  · exact ⟨⟨#[62, 62]⟩, by simp [Fp.opS], by decide, fun B W h => by simp [World.cell?, h]⟩
  · exact ⟨⟨#[43]⟩, by simp [Fp.opS], by decide, fun B W h => by simp [World.cell?, h]⟩
  · exact ⟨⟨#[45]⟩, by simp [Fp.opS], by decide, fun B W h => by simp [World.cell?, h]⟩
  · exact ⟨⟨#[42]⟩, by simp [Fp.opS], by decide, fun B W h => by simp [World.cell?, h]⟩
  · exact ⟨⟨#[47]⟩, by simp [Fp.opS], by decide, fun B W h => by simp [World.cell?, h]⟩
  · exact ⟨⟨#[37]⟩, by simp [Fp.opS], by decide, fun B W h => by simp [World.cell?, h]⟩
set_option maxRecDepth 100000 in
set_option maxHeartbeats 4000000 in
theorem binds_walk (o p : Int) (w : World) (hP : PW w) :
    Calls Tryd.prog 4 #[.int .i64 o, .int .i64 p] w fun e w' => e = .returned (.bool true) ∧ Below w.heap.size w w' := by
  obtain ⟨a, ha, hpa⟩ := pick_at o
  obtain ⟨b, hb, hpb⟩ := pick_at p
  obtain ⟨x, hx, hx2, hxc⟩ := ops_at a ha
  obtain ⟨y, hy, hy2, hyc⟩ := ops_at b hb
  obtain ⟨e, l, r, h1, h2, h3, hlr, hif⟩ := binds_res hx hy
  have hE1 : Hd (∀ W : World, PW W → Calls Tryd.prog 7 #[.string (((((⟨#[97, 32]⟩ : ByteArray) ++ x) ++ ⟨#[32, 98, 32]⟩) ++ y) ++ ⟨#[32, 99]⟩)] W fun q w' => ∃ A5 c5, q = .returned (.tuple #[.agg (exC e A5 c5), .agg #[.int .i64 0, .int .i64 0, .int .i64 0]]) ∧ Kd.R kE 26 w' W.heap.size (fun _ => True) (.slice A5 e.f5.length c5) e.f5 ∧ Below W.heap.size W w') := Hd.mk (fun W hW => by
    have := Expr_any (((((⟨#[97, 32]⟩ : ByteArray) ++ x) ++ ⟨#[32, 98, 32]⟩) ++ y) ++ ⟨#[32, 99]⟩) W (fit5 hx2 hy2 (by decide) (by decide) (by decide)) hW
    rw [h1] at this
    exact this)
  have hE2 : Hd (∀ W : World, PW W → Calls Tryd.prog 7 #[.string (((((⟨#[40, 97, 32]⟩ : ByteArray) ++ x) ++ ⟨#[32, 98, 41, 32]⟩) ++ y) ++ ⟨#[32, 99]⟩)] W fun q w' => ∃ A5 c5, q = .returned (.tuple #[.agg (exC l A5 c5), .agg #[.int .i64 0, .int .i64 0, .int .i64 0]]) ∧ Kd.R kE 26 w' W.heap.size (fun _ => True) (.slice A5 l.f5.length c5) l.f5 ∧ Below W.heap.size W w') := Hd.mk (fun W hW => by
    have := Expr_any (((((⟨#[40, 97, 32]⟩ : ByteArray) ++ x) ++ ⟨#[32, 98, 41, 32]⟩) ++ y) ++ ⟨#[32, 99]⟩) W (fit5 hx2 hy2 (by decide) (by decide) (by decide)) hW
    rw [h2] at this
    exact this)
  have hE3 : Hd (∀ W : World, PW W → Calls Tryd.prog 7 #[.string (((((⟨#[97]⟩ : ByteArray) ++ x) ++ ⟨#[40, 98]⟩) ++ y) ++ ⟨#[99, 41]⟩)] W fun q w' => ∃ A5 c5, q = .returned (.tuple #[.agg (exC r A5 c5), .agg #[.int .i64 0, .int .i64 0, .int .i64 0]]) ∧ Kd.R kE 26 w' W.heap.size (fun _ => True) (.slice A5 r.f5.length c5) r.f5 ∧ Below W.heap.size W w') := Hd.mk (fun W hW => by
    have := Expr_any (((((⟨#[97]⟩ : ByteArray) ++ x) ++ ⟨#[40, 98]⟩) ++ y) ++ ⟨#[99, 41]⟩) W (fit5 hx2 hy2 (by decide) (by decide) (by decide)) hW
    rw [h3] at this
    exact this)
  have HPa := Hd.mk hpa
  have HPb := Hd.mk hpb
  have HXC := Hd.mk hxc
  have HYC := Hd.mk hyc
  have hLR := Hd.mk hlr
  have hIF := Hd.mk hif
  have hla : (a : Int) < 16 := by omega
  have hlb : (b : Int) < 16 := by omega
  clear hpa hpb hxc hyc hlr hif h1 h2 h3 hx hy ha hb
  go_enter Tryd.func4, Tryd.ntmps4
  go_wp2_with (first
    | (go_at_call 6; (with_reducible refine (lives_any _ hP).mono ?_); rintro q w1 ⟨rfl, hb⟩; have HB := Hd.mk hb; clear hb)
    | fail)
  have hBk := (NewB.alloc w1 #[.string ⟨#[124]⟩, .string ⟨#[94]⟩, .string ⟨#[38]⟩, .string ⟨#[61, 61]⟩, .string ⟨#[33, 61]⟩, .string ⟨#[60]⟩, .string ⟨#[60, 61]⟩, .string ⟨#[62]⟩, .string ⟨#[62, 61]⟩, .string ⟨#[60, 60]⟩, .string ⟨#[62, 62]⟩, .string ⟨#[43]⟩, .string ⟨#[45]⟩, .string ⟨#[42]⟩, .string ⟨#[47]⟩, .string ⟨#[37]⟩] 9).1
  have KS := Hd.mk (And.intro (HXC.out _ _ hBk) (HYC.out _ _ hBk))
  have hba := below_alloc (Below.refl w1.heap.size w1) (.cells #[.string ⟨#[124]⟩, .string ⟨#[94]⟩, .string ⟨#[38]⟩, .string ⟨#[61, 61]⟩, .string ⟨#[33, 61]⟩, .string ⟨#[60]⟩, .string ⟨#[60, 61]⟩, .string ⟨#[62]⟩, .string ⟨#[62, 61]⟩, .string ⟨#[60, 60]⟩, .string ⟨#[62, 62]⟩, .string ⟨#[43]⟩, .string ⟨#[45]⟩, .string ⟨#[42]⟩, .string ⟨#[47]⟩, .string ⟨#[37]⟩] 9)
  replace HB := Hd.mk (HB.out.trans (hba.mono HB.out.size))
  clear hBk hba HXC HYC
  generalize (w1.alloc (.cells #[.string ⟨#[124]⟩, .string ⟨#[94]⟩, .string ⟨#[38]⟩, .string ⟨#[61, 61]⟩, .string ⟨#[33, 61]⟩, .string ⟨#[60]⟩, .string ⟨#[60, 61]⟩, .string ⟨#[62]⟩, .string ⟨#[62, 61]⟩, .string ⟨#[60, 60]⟩, .string ⟨#[62, 62]⟩, .string ⟨#[43]⟩, .string ⟨#[45]⟩, .string ⟨#[42]⟩, .string ⟨#[47]⟩, .string ⟨#[37]⟩] 9)) = W1 at KS HB ⊢
  refine start_ (n := 16) (S := fun w' => w'.cell? ⟨w1.heap.size, a, none⟩ = some (.string x) ∧ w'.cell? ⟨w1.heap.size, b, none⟩ = some (.string y)) (ds := []) #[false, false, false, false, false, false, false, false, false, false, false, false, false, false, false, false] (by kernel_rfl) rfl rfl ⟨KS.out.1, KS.out.2⟩ (fun hHeld => ?_)
  refine pure_ (i := 0) (N := some 17) (v := ?_) (a' := ?_) #[true, false, false, false, false, false, false, false, false, false, false, false, false, false, false, false] rfl rfl (by kernel_rfl) (fun _ _ _ h => h) (Or.inl ⟨by rfl, ?_⟩) ?_ ?_
  rotate_left
  · intro w'
    go_simp
    with_reducible rfl
  rotate_left
  · simp only [Act.put, List.setIfInBounds_toArray, List.set_cons_zero, List.set_cons_succ, i64_w, i32_w]
    rfl
  refine pure_ (i := 1) (N := some 18) (v := ?_) (a' := ?_) #[true, true, false, false, false, false, false, false, false, false, false, false, false, false, false, false] rfl rfl (by kernel_rfl) (fun _ _ _ h => h) (Or.inl ⟨by rfl, ?_⟩) ?_ ?_
  rotate_left
  · intro w'
    go_simp
    with_reducible rfl
  rotate_left
  · simp only [Act.put, List.setIfInBounds_toArray, List.set_cons_zero, List.set_cons_succ, i64_w, i32_w]
    rfl
  refine pure_ (i := 2) (N := some 19) (v := ?_) (a' := ?_) #[true, true, true, false, false, false, false, false, false, false, false, false, false, false, false, false] rfl rfl (by kernel_rfl) (fun _ _ _ h => h) (Or.inl ⟨by rfl, ?_⟩) ?_ ?_
  rotate_left
  · intro w'
    go_simp
    with_reducible rfl
  rotate_left
  · simp only [Act.put, List.setIfInBounds_toArray, List.set_cons_zero, List.set_cons_succ, i64_w, i32_w]
    rfl
  refine pure_ (i := 3) (N := some 20) (v := ?_) (a' := ?_) #[true, true, true, true, false, false, false, false, false, false, false, false, false, false, false, false] rfl rfl (by kernel_rfl) (fun _ _ _ h => h) (Or.inl ⟨by rfl, ?_⟩) ?_ ?_
  rotate_left
  · intro w'
    go_simp
    with_reducible rfl
  rotate_left
  · simp only [Act.put, List.setIfInBounds_toArray, List.set_cons_zero, List.set_cons_succ, i64_w, i32_w]
    rfl
  refine pure_ (i := 7) (N := some 24) (v := ?_) (a' := ?_) #[true, true, true, true, false, false, false, true, false, false, false, false, false, false, false, false] rfl rfl (by kernel_rfl) (fun _ _ _ h => h) (Or.inl ⟨by rfl, ?_⟩) ?_ ?_
  rotate_left
  · intro w'
    go_simp
    with_reducible rfl
  rotate_left
  · simp only [Act.put, List.setIfInBounds_toArray, List.set_cons_zero, List.set_cons_succ, i64_w, i32_w]
    rfl
  refine pure_ (i := 8) (N := some 25) (v := ?_) (a' := ?_) #[true, true, true, true, false, false, false, true, true, false, false, false, false, false, false, false] rfl rfl (by kernel_rfl) (fun _ _ _ h => h) (Or.inl ⟨by rfl, ?_⟩) ?_ ?_
  rotate_left
  · intro w'
    go_simp
    with_reducible rfl
  rotate_left
  · simp only [Act.put, List.setIfInBounds_toArray, List.set_cons_zero, List.set_cons_succ, i64_w, i32_w]
    rfl
  refine pure_ (i := 9) (N := some 26) (v := ?_) (a' := ?_) #[true, true, true, true, false, false, false, true, true, true, false, false, false, false, false, false] rfl rfl (by kernel_rfl) (fun _ _ _ h => h) (Or.inl ⟨by rfl, ?_⟩) ?_ ?_
  rotate_left
  · intro w'
    go_simp
    with_reducible rfl
  rotate_left
  · simp only [Act.put, List.setIfInBounds_toArray, List.set_cons_zero, List.set_cons_succ, i64_w, i32_w]
    rfl
  refine pure_ (i := 10) (N := some 27) (v := ?_) (a' := ?_) #[true, true, true, true, false, false, false, true, true, true, true, false, false, false, false, false] rfl rfl (by kernel_rfl) (fun _ _ _ h => h) (Or.inl ⟨by rfl, ?_⟩) ?_ ?_
  rotate_left
  · intro w'
    go_simp
    with_reducible rfl
  rotate_left
  · simp only [Act.put, List.setIfInBounds_toArray, List.set_cons_zero, List.set_cons_succ, i64_w, i32_w]
    rfl
  refine one_ (i := 4) (N := some 21) #[true, true, true, true, true, false, false, true, true, true, true, false, false, false, false, false] rfl rfl (by kernel_rfl) (by decide) (fun K hK => ?_)
  refine goes_ Tryd.func9 (by kernel_rfl) rfl #[.int .i64 o, .int .i64 16] (by rfl) rfl rfl (by (try simp only [List.map_toArray, List.map_cons, List.map_nil]); first | done | rfl) ?_
  with_reducible refine (HPa.out _).mono ?_
  rintro r w2 ⟨rfl, rfl⟩
  refine ⟨_, rfl, ?_⟩
  refine hK.out _ _ ⟨KS.out.1, KS.out.2⟩ (fun hHeld => ?_)
  clear hK K
  refine norm_ (a' := ?_) ?_ ?_
  rotate_left
  · show Act.put _ (some 21) _ = _
    simp only [Act.put, List.setIfInBounds_toArray, List.set_cons_zero, List.set_cons_succ, i64_w, i32_w]
    rfl
  refine pure_ (i := 5) (N := some 22) (v := ?_) (a' := ?_) #[true, true, true, true, true, true, false, true, true, true, true, false, false, false, false, false] rfl rfl (by kernel_rfl) (fun _ _ _ h => h) (Or.inl ⟨by rfl, ?_⟩) ?_ ?_
  rotate_left
  · intro w'
    go_simp
    with_reducible rfl
  rotate_left
  · simp only [Act.put, List.setIfInBounds_toArray, List.set_cons_zero, List.set_cons_succ, i64_w, i32_w]
    rfl
  refine take_ (i := 6) (N := some 23) (v := ?_) (a' := ?_) #[true, true, true, true, true, true, true, true, true, true, true, false, false, false, false, false] rfl rfl (by kernel_rfl) (fun _ _ _ h => h) (Or.inl ⟨by rfl, ?_⟩) hHeld ?_ ?_
  rotate_left
  · rintro w' ⟨s0, s1⟩
    go_simp
    with_reducible rfl
  rotate_left
  · simp only [Act.put, List.setIfInBounds_toArray, List.set_cons_zero, List.set_cons_succ, i64_w, i32_w]
    rfl
  refine one_ (i := 11) (N := some 28) #[true, true, true, true, true, true, true, true, true, true, true, true, false, false, false, false] rfl rfl (by kernel_rfl) (by decide) (fun K hK => ?_)
  refine goes_ Tryd.func9 (by kernel_rfl) rfl #[.int .i64 p, .int .i64 16] (by rfl) rfl rfl (by (try simp only [List.map_toArray, List.map_cons, List.map_nil]); first | done | rfl) ?_
  with_reducible refine (HPb.out _).mono ?_
  rintro r w2 ⟨rfl, rfl⟩
  refine ⟨_, rfl, ?_⟩
  refine hK.out _ _ ⟨KS.out.1, KS.out.2⟩ (fun hHeld => ?_)
  clear hK K
  refine norm_ (a' := ?_) ?_ ?_
  rotate_left
  · show Act.put _ (some 28) _ = _
    simp only [Act.put, List.setIfInBounds_toArray, List.set_cons_zero, List.set_cons_succ, i64_w, i32_w]
    rfl
  refine pure_ (i := 12) (N := some 29) (v := ?_) (a' := ?_) #[true, true, true, true, true, true, true, true, true, true, true, true, true, false, false, false] rfl rfl (by kernel_rfl) (fun _ _ _ h => h) (Or.inl ⟨by rfl, ?_⟩) ?_ ?_
  rotate_left
  · intro w'
    go_simp
    with_reducible rfl
  rotate_left
  · simp only [Act.put, List.setIfInBounds_toArray, List.set_cons_zero, List.set_cons_succ, i64_w, i32_w]
    rfl
  refine pure_ (i := 14) (N := some 6) (v := ?_) (a' := ?_) #[true, true, true, true, true, true, true, true, true, true, true, true, true, false, true, false] rfl rfl (by kernel_rfl) (fun _ _ _ h => h) (Or.inl ⟨by rfl, ?_⟩) ?_ ?_
  rotate_left
  · intro w'
    go_simp
    with_reducible rfl
  rotate_left
  · simp only [Act.put, List.setIfInBounds_toArray, List.set_cons_zero, List.set_cons_succ, i64_w, i32_w]
    rfl
  refine take_ (i := 13) (N := some 30) (v := ?_) (a' := ?_) #[true, true, true, true, true, true, true, true, true, true, true, true, true, true, true, false] rfl rfl (by kernel_rfl) (fun _ _ _ h => h) (Or.inl ⟨by rfl, ?_⟩) hHeld ?_ ?_
  rotate_left
  · rintro w' ⟨s0, s1⟩
    go_simp
    with_reducible rfl
  rotate_left
  · simp only [Act.put, List.setIfInBounds_toArray, List.set_cons_zero, List.set_cons_succ, i64_w, i32_w]
    rfl
  refine pure_ (i := 15) (N := some 7) (v := ?_) (a' := ?_) #[true, true, true, true, true, true, true, true, true, true, true, true, true, true, true, true] rfl rfl (by kernel_rfl) (fun _ _ _ h => h) (Or.inl ⟨by rfl, ?_⟩) ?_ ?_
  rotate_left
  · intro w'
    go_simp
    with_reducible rfl
  rotate_left
  · simp only [Act.put, List.setIfInBounds_toArray, List.set_cons_zero, List.set_cons_succ, i64_w, i32_w]
    rfl
  refine done_ (by kernel_rfl) ?_
  replace HB := Hd.mk (below_drew HB.out)
  go_wp2_with (first
    | (go_at_call 7; (with_reducible refine (hE1.out _ (hP.below HB.out)).mono ?_); rintro q w2 ⟨A1, c1, rfl, hR, hb⟩; have HR1 := Hd.mk hR; replace HB := Hd.mk (HB.out.trans (hb.mono HB.out.size)); clear hR hb)
    | (go_at_call 7; have hb2 := below_two w2 (.cells (exC e A1 c1) 26) (.cells #[.int .i64 0, .int .i64 0, .int .i64 0] 29); obtain ⟨hEb, hFb⟩ := two_blk w2 (exC e A1 c1) #[.int .i64 0, .int .i64 0, .int .i64 0] 26 29; have hbt := HB.out.trans (hb2.mono HB.out.size); (with_reducible refine (hE2.out _ (hP.below hbt)).mono ?_); rintro q w3 ⟨A2, c2, rfl, hR, hb⟩; have hbb := hb; have HE := Hd.mk hEb; have HF := Hd.mk hFb; replace HE := Hd.mk ((hbb.block _ (heap_lt' HE.out)).trans HE.out); replace HF := Hd.mk ((hbb.block _ (heap_lt' HF.out)).trans HF.out); replace HR1 := Hd.mk (Kd.R_below HR1.out (hb2.trans (hb.mono hb2.size))); have HR2 := Hd.mk hR; replace HB := Hd.mk (hbt.trans (hb.mono hbt.size)); clear hR hb hb2 hbt hEb hFb hbb)
    | (go_at_call 7; have hb2 := below_two w3 (.cells (exC l A2 c2) 26) (.cells #[.int .i64 0, .int .i64 0, .int .i64 0] 29); obtain ⟨hEb, hFb⟩ := two_blk w3 (exC l A2 c2) #[.int .i64 0, .int .i64 0, .int .i64 0] 26 29; have hbt := HB.out.trans (hb2.mono HB.out.size); (with_reducible refine (hE3.out _ (hP.below hbt)).mono ?_); rintro q w4 ⟨A3, c3, rfl, hR, hb⟩; have hbb := hb2.trans (hb.mono hb2.size); replace HE := Hd.mk ((hbb.block _ (heap_lt' HE.out)).trans HE.out); replace HF := Hd.mk ((hbb.block _ (heap_lt' HF.out)).trans HF.out); replace HR1 := Hd.mk (Kd.R_below HR1.out hbb); replace HR2 := Hd.mk (Kd.R_below HR2.out hbb); have HL := Hd.mk ((hb.block _ (heap_lt' hEb)).trans hEb); have HG := Hd.mk ((hb.block _ (heap_lt' hFb)).trans hFb); have HR3 := Hd.mk hR; replace HB := Hd.mk (hbt.trans (hb.mono hbt.size)); obtain ⟨e0, e1, e2, e3, e4, e5⟩ := cells6 HE.out; have l0 := heap_lt' HE.out; obtain ⟨⟨u0, u1, u2⟩, hz⟩ := cellsF HF.out; have z0 := hz 0; have z1 := hz 1; have z2 := hz 2; have l1 := heap_lt' HF.out; clear hz; obtain ⟨d0, d1, d2, d3, d4, d5⟩ := cells6 HL.out; have l2 := heap_lt' HL.out; obtain ⟨⟨v0, v1, v2⟩, hz⟩ := cellsF HG.out; have y0 := hz 0; have y1 := hz 1; have y2 := hz 2; have l3 := heap_lt' HG.out; clear hz; clear hR hb hb2 hbt hEb hFb hbb)
    | (go_at_call 8; have hb2 := below_two w4 (.cells (exC r A3 c3) 26) (.cells #[.int .i64 0, .int .i64 0, .int .i64 0] 29); obtain ⟨hEb, hFb⟩ := two_blk w4 (exC r A3 c3) #[.int .i64 0, .int .i64 0, .int .i64 0] 26 29; have hbt := HB.out.trans (hb2.mono HB.out.size); have hK := A.kitAt_any _ l (Nat.le_refl _) r A2 c2 A3 c3 _ (rowsE_of (Kd.R_below HR2.out hb2)) (rowsE_of (Kd.R_below HR3.out hb2)); rw [hLR.out] at hK; (with_reducible refine hK.mono ?_); rintro q w5 ⟨rfl, hb⟩; have hbb := hb2.trans (hb.mono hb2.size); replace HE := Hd.mk ((hbb.block _ (heap_lt' HE.out)).trans HE.out); replace HL := Hd.mk ((hbb.block _ (heap_lt' HL.out)).trans HL.out); replace HR1 := Hd.mk (Kd.R_below HR1.out hbb); replace HR2 := Hd.mk (Kd.R_below HR2.out hbb); replace HR3 := Hd.mk (Kd.R_below HR3.out hbb); have HM := Hd.mk ((hb.block _ (heap_lt' hEb)).trans hEb); replace HB := Hd.mk (hbt.trans (hb.mono hbt.size)); clear hb hb2 hbt hEb hFb hbb hK)
    | fail)
  obtain ⟨p0, p1, p2, p3, p4, p5⟩ := cells6 HL.out
  obtain ⟨q0, q1, q2, q3, q4, q5⟩ := cells6 HM.out
  have KS := Hd.mk (And.intro p1 q1)
  replace HB := Hd.mk (below_drew HB.out)
  clear p0 p1 p2 p3 p4 p5 q0 q1 q2 q3 q4 q5
  refine start_ (n := 7) (S := fun w' => w'.cell? ⟨w3.heap.size, 1, none⟩ = some (.int .i64 l.f1) ∧ w'.cell? ⟨w4.heap.size, 1, none⟩ = some (.int .i64 r.f1)) (ds := []) #[false, false, false, false, false, false, false] (by kernel_rfl) rfl rfl ⟨KS.out.1, KS.out.2⟩ (fun hHeld => ?_)
  refine pure_ (i := 0) (N := some 79) (v := ?_) (a' := ?_) #[true, false, false, false, false, false, false] rfl rfl (by kernel_rfl) (fun _ _ _ h => h) (Or.inl ⟨by rfl, ?_⟩) ?_ ?_
  rotate_left
  · intro w'
    go_simp
    with_reducible rfl
  rotate_left
  · simp only [Act.put, List.setIfInBounds_toArray, List.set_cons_zero, List.set_cons_succ, i64_w, i32_w]
    rfl
  refine pure_ (i := 3) (N := some 82) (v := ?_) (a' := ?_) #[true, false, false, true, false, false, false] rfl rfl (by kernel_rfl) (fun _ _ _ h => h) (Or.inl ⟨by rfl, ?_⟩) ?_ ?_
  rotate_left
  · intro w'
    go_simp
    with_reducible rfl
  rotate_left
  · simp only [Act.put, List.setIfInBounds_toArray, List.set_cons_zero, List.set_cons_succ, i64_w, i32_w]
    rfl
  refine take_ (i := 1) (N := some 80) (v := ?_) (a' := ?_) #[true, true, false, true, false, false, false] rfl rfl (by kernel_rfl) (fun _ _ _ h => h) (Or.inl ⟨by rfl, ?_⟩) hHeld ?_ ?_
  rotate_left
  · rintro w' ⟨s0, s1⟩
    go_simp
    with_reducible rfl
  rotate_left
  · simp only [Act.put, List.setIfInBounds_toArray, List.set_cons_zero, List.set_cons_succ, i64_w, i32_w]
    rfl
  refine take_ (i := 4) (N := some 83) (v := ?_) (a' := ?_) #[true, true, false, true, true, false, false] rfl rfl (by kernel_rfl) (fun _ _ _ h => h) (Or.inl ⟨by rfl, ?_⟩) hHeld ?_ ?_
  rotate_left
  · rintro w' ⟨s0, s1⟩
    go_simp
    with_reducible rfl
  rotate_left
  · simp only [Act.put, List.setIfInBounds_toArray, List.set_cons_zero, List.set_cons_succ, i64_w, i32_w]
    rfl
  refine one_ (i := 2) (N := some 81) #[true, true, true, true, true, false, false] rfl rfl (by kernel_rfl) (by decide) (fun K hK => ?_)
  refine goes_ Tryd.func10 (by kernel_rfl) rfl #[.int .i64 l.f1] (by rfl) rfl rfl (by (try simp only [List.map_toArray, List.map_cons, List.map_nil]); first | done | rfl) ?_
  with_reducible refine (level_any _ _ (hP.below HB.out)).mono ?_
  rintro r w9 ⟨rfl, rfl⟩
  refine ⟨_, rfl, ?_⟩
  refine hK.out _ _ ⟨KS.out.1, KS.out.2⟩ (fun hHeld => ?_)
  clear hK K
  refine norm_ (a' := ?_) ?_ ?_
  rotate_left
  · show Act.put _ (some 81) _ = _
    simp only [Act.put, List.setIfInBounds_toArray, List.set_cons_zero, List.set_cons_succ, i64_w, i32_w]
    rfl
  refine one_ (i := 5) (N := some 84) #[true, true, true, true, true, true, false] rfl rfl (by kernel_rfl) (by decide) (fun K hK => ?_)
  refine goes_ Tryd.func10 (by kernel_rfl) rfl #[.int .i64 r.f1] (by rfl) rfl rfl (by (try simp only [List.map_toArray, List.map_cons, List.map_nil]); first | done | rfl) ?_
  with_reducible refine (level_any _ _ (hP.below HB.out)).mono ?_
  rintro r w9 ⟨rfl, rfl⟩
  refine ⟨_, rfl, ?_⟩
  refine hK.out _ _ ⟨KS.out.1, KS.out.2⟩ (fun hHeld => ?_)
  clear hK K
  refine norm_ (a' := ?_) ?_ ?_
  rotate_left
  · show Act.put _ (some 84) _ = _
    simp only [Act.put, List.setIfInBounds_toArray, List.set_cons_zero, List.set_cons_succ, i64_w, i32_w]
    rfl
  refine pure_ (i := 6) (N := some 85) (v := ?_) (a' := ?_) #[true, true, true, true, true, true, true] rfl rfl (by kernel_rfl) (fun _ _ _ h => h) (Or.inl ⟨by rfl, ?_⟩) ?_ ?_
  rotate_left
  · intro w'
    go_simp
    with_reducible rfl
  rotate_left
  · simp only [Act.put, List.setIfInBounds_toArray, List.set_cons_zero, List.set_cons_succ, i64_w, i32_w]
    rfl
  refine done_ (by kernel_rfl) ?_
  have HE9 : Hd (w5.drew.heap[w2.heap.size]? = _) := Hd.mk HE.out
  have HL9 : Hd (w5.drew.heap[w3.heap.size]? = _) := Hd.mk HL.out
  have HM9 : Hd (w5.drew.heap[w4.heap.size]? = _) := Hd.mk HM.out
  have HS1 : Hd (Kd.R kE 26 w5.drew _ _ _ _) := Hd.mk (Kd.R_below HR1.out (below_drew (Below.refl w5.heap.size w5)))
  have HS2 : Hd (Kd.R kE 26 w5.drew _ _ _ _) := Hd.mk (Kd.R_below HR2.out (below_drew (Below.refl w5.heap.size w5)))
  have HS3 : Hd (Kd.R kE 26 w5.drew _ _ _ _) := Hd.mk (Kd.R_below HR3.out (below_drew (Below.refl w5.heap.size w5)))
  clear HE HL HM HR1 HR2 HR3 KS hHeld
  obtain ⟨p0, p1, p2, p3, p4, p5⟩ := cells6 HE9.out
  obtain ⟨d0, d1, d2, d3, d4, d5⟩ := cells6 HL9.out
  obtain ⟨q0, q1, q2, q3, q4, q5⟩ := cells6 HM9.out
  have hif := hIF.out
  by_cases hgt : lvI r.f1 < lvI l.f1
  · rw [if_pos hgt] at hif
    have HIF := Hd.mk hif
    clear hif d0 d1 d2 d3 d4 d5
    go_wp2_with (first
      | (go_at_call 8; have hK := A.kitAt_any _ e (Nat.le_refl _) r A1 c1 A3 c3 _ (rowsE_of (HS1.out)) (rowsE_of HS3.out); rw [HIF.out] at hK; (with_reducible refine hK.mono ?_); rintro q w6 ⟨rfl, hb⟩; replace HB := Hd.mk (HB.out.trans (hb.mono HB.out.size)); clear hb hK)
      | fail)
    go_ret
    exact ⟨rfl, HB.out⟩
  · rw [if_neg hgt] at hif
    have HIF := Hd.mk hif
    clear hif q0 q1 q2 q3 q4 q5
    go_wp2_with (first
      | (go_at_call 8; have hK := A.kitAt_any _ e (Nat.le_refl _) l A1 c1 A2 c2 _ (rowsE_of (HS1.out)) (rowsE_of HS2.out); rw [HIF.out] at hK; (with_reducible refine hK.mono ?_); rintro q w6 ⟨rfl, hb⟩; replace HB := Hd.mk (HB.out.trans (hb.mono HB.out.size)); clear hb hK)
      | fail)
    go_ret
    exact ⟨rfl, HB.out⟩
end Go.Proofs.YtnjnadlgndjnbaaDoor.Pk
