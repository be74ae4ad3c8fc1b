/- AstParts: the walk of moved (statements with other Lines). -/
import Derived.Test.YtgkhpecllhiidaaDoorEb
set_option linter.unusedVariables false
set_option linter.unusedSimpArgs false
namespace Go.Proofs.YtgkhpecllhiidaaDoor.A
open Go.RowKit Go.Shelf Go.Proofs.YtgkhpecllhiidaaDoor.As Go.Proofs.YtgkhpecllhiidaaDoorW.PrintWords Go.Proofs.YtgkhpecllhiidaaDoorW.PrintLast Go.Proofs.YtgkhpecllhiidaaDoorW.PrintMore
theorem heapS : Kd.Heap kS := Kd.heap_fix (fun d hd => Kd.heap_iso _ (Kd.heap_pair (Kd.heap_int _) (Kd.heap_pair (Kd.heap_int _) (Kd.heap_pair (Kd.heap_int _) (Kd.heap_pair (Kd.heap_int _) (Kd.heap_pair Kd.heap_string (Kd.heap_pair (Kd.heap_slice _ Kd.heap_string) (Kd.heap_pair (Kd.heap_slice _ heapE) (Kd.heap_pair (Kd.heap_slice _ heapE) (Kd.heap_pair (Kd.heap_slice _ hd) (Kd.heap_slice _ hd)))))))))))
/-- Element i of a row of one's own: its cells. -/
theorem N_all {α : Type} {d : Kd α} {e base n cap : Nat} {ok : Nat → Prop} {W : World} {ad : Addr} {xs : List α} (h : Kd.N d e W base ok (.slice (some ad) n cap) xs) (z : α) (i : Nat) (hi : i < n) :
    ∃ c, c.length = d.sz ∧ Kd.FK d W (fun k => ok k ∧ k ≠ ad.block) (xs.getD i z) c ∧ (∀ j u, c[j]? = some u → W.cell? ⟨(ad.add (i * d.sz)).block, (ad.add (i * d.sz)).off + j, none⟩ = some u) ∧ ∀ j, W.frozen? ⟨(ad.add (i * d.sz)).block, (ad.add (i * d.sz)).off + j, none⟩ = false := by
  obtain ⟨g, rfl⟩ : ∃ g, ad = ⟨g, 0, none⟩ := by
    obtain ⟨_, rows, _, hR, _⟩ := h
    exact Kd.R_head hR
  obtain ⟨c, hcl, hM, hcc, hfr⟩ := Kd.N_elem h z (i : Int) (by omega) (by omega)
  simp only [Int.toNat_natCast] at hM hcc hfr
  have e1 : (Addr.add ⟨g, 0, none⟩ (i * d.sz)).block = g := by rw [add_at]
  have e2 : (Addr.add ⟨g, 0, none⟩ (i * d.sz)).off = i * d.sz := by rw [add_at]; simp
  rw [e1, e2]
  exact ⟨c, hcl, hM, hcc, hfr⟩
/-- One cell of element i is written. -/
theorem N_put {α : Type} {d : Kd α} {e base n cap : Nat} {ok okp : Nat → Prop} {W : World} {ad : Addr} {xs : List α} (h : Kd.N d e W base ok (.slice (some ad) n cap) xs) (i : Nat) (hi : i < n) {c : List Value} (hcl : c.length = d.sz)
    (hcc : ∀ j u, c[j]? = some u → W.cell? ⟨(ad.add (i * d.sz)).block, (ad.add (i * d.sz)).off + j, none⟩ = some u) (j : Nat) (hj : j < d.sz) (u : Value) (x' : α) (hM : Kd.FK d W okp x' (c.set j u)) (hokp : ∀ k, okp k → ok k ∧ k ≠ ad.block) :
    Kd.N d e (W.setCell ⟨(ad.add (i * d.sz)).block, (ad.add (i * d.sz)).off + j, none⟩ u) base ok (.slice (some ad) n cap) (xs.set i x') ∧ W.grownBy (W.setCell ⟨(ad.add (i * d.sz)).block, (ad.add (i * d.sz)).off + j, none⟩ u) (some ad.block) := by
  obtain ⟨g, rfl⟩ : ∃ g, ad = ⟨g, 0, none⟩ := by
    obtain ⟨_, rows, _, hR, _⟩ := h
    exact Kd.R_head hR
  have e1 : (Addr.add ⟨g, 0, none⟩ (i * d.sz)).block = g := by rw [add_at]
  have e2 : (Addr.add ⟨g, 0, none⟩ (i * d.sz)).off = i * d.sz := by rw [add_at]; simp
  rw [e1, e2] at hcc ⊢
  have hset : c.take j ++ [u] ++ c.drop (j + 1) = c.set j u := by rw [List.set_eq_take_append_cons_drop, if_pos (by omega)]; simp
  have := Kd.N_seg h (i : Int) (by omega) (by omega) (c := c) (seg := [u]) (j := j) (x' := x') (okp := okp) hcl (by simpa using hcc) (by show j + 1 ≤ d.sz; omega) (by rw [show j + [u].length = j + 1 from rfl, hset]; exact hM) hokp
  simpa [World.setCells] using this

theorem put_line {base n cap : Nat} {ok : Nat → Prop} {W : World} {ad : Addr} {xs : List SS} (h : Kd.N kS 38 W base ok (.slice (some ad) n cap) xs) (i : Nat) (hi : i < n) (m : Int) :
    Kd.N kS 38 (W.setCell ⟨(ad.add (i * 10)).block, (ad.add (i * 10)).off + 1, none⟩ (.int .i64 m)) base ok (.slice (some ad) n cap) (xs.set i ⟨(xs.getD i z38).f0, m, (xs.getD i z38).f2, (xs.getD i z38).f3, (xs.getD i z38).f4, (xs.getD i z38).f5, (xs.getD i z38).f6, (xs.getD i z38).f7, (xs.getD i z38).f8, (xs.getD i z38).f9⟩) ∧ W.grownBy (W.setCell ⟨(ad.add (i * 10)).block, (ad.add (i * 10)).off + 1, none⟩ (.int .i64 m)) (some ad.block) := by
  obtain ⟨c, hcl, hM, hcc, hfr⟩ := N_all h z38 i hi
  obtain ⟨A5, c5, A6, c6, A7, c7, A8, c8, A9, c9, rfl, l5, g5, l6, g6, l7, g7, l8, g8, l9, g9⟩ := k38_openF hM
  exact N_put (okp := fun k => ok k ∧ k ≠ ad.block) h i hi hcl hcc 1 (by decide) _ _ (k38_mkF W _ ⟨(xs.getD i z38).f0, m, (xs.getD i z38).f2, (xs.getD i z38).f3, (xs.getD i z38).f4, (xs.getD i z38).f5, (xs.getD i z38).f6, (xs.getD i z38).f7, (xs.getD i z38).f8, (xs.getD i z38).f9⟩ l5 g5 l6 g6 l7 g7 l8 g8 l9 g9) (fun _ hk => hk)
theorem put_then {base n cap : Nat} {ok okp : Nat → Prop} {W : World} {ad : Addr} {xs : List SS} (h : Kd.N kS 38 W base ok (.slice (some ad) n cap) xs) (i : Nat) (hi : i < n) {T : List SS} {AT : Option Addr} {cT : Nat} (hlT : T.length ≤ cT) (hT : Kd.F kS W okp AT T.length T) (hk : ∀ k, okp k → ok k ∧ k ≠ ad.block) :
    Kd.N kS 38 (W.setCell ⟨(ad.add (i * 10)).block, (ad.add (i * 10)).off + 8, none⟩ (.slice AT T.length cT)) base ok (.slice (some ad) n cap) (xs.set i ⟨(xs.getD i z38).f0, (xs.getD i z38).f1, (xs.getD i z38).f2, (xs.getD i z38).f3, (xs.getD i z38).f4, (xs.getD i z38).f5, (xs.getD i z38).f6, (xs.getD i z38).f7, T, (xs.getD i z38).f9⟩) ∧ W.grownBy (W.setCell ⟨(ad.add (i * 10)).block, (ad.add (i * 10)).off + 8, none⟩ (.slice AT T.length cT)) (some ad.block) := by
  obtain ⟨c, hcl, hM, hcc, hfr⟩ := N_all h z38 i hi
  obtain ⟨A5, c5, A6, c6, A7, c7, A8, c8, A9, c9, rfl, l5, g5, l6, g6, l7, g7, l8, g8, l9, g9⟩ := k38_openF hM
  exact N_put (okp := fun k => ok k ∧ k ≠ ad.block) h i hi hcl hcc 8 (by decide) _ _ (k38_mkF W _ ⟨(xs.getD i z38).f0, (xs.getD i z38).f1, (xs.getD i z38).f2, (xs.getD i z38).f3, (xs.getD i z38).f4, (xs.getD i z38).f5, (xs.getD i z38).f6, (xs.getD i z38).f7, T, (xs.getD i z38).f9⟩ l5 g5 l6 g6 l7 g7 hlT (Kd.F_mono hT hk) l9 g9) (fun _ hk => hk)
theorem put_else {base n cap : Nat} {ok okp : Nat → Prop} {W : World} {ad : Addr} {xs : List SS} (h : Kd.N kS 38 W base ok (.slice (some ad) n cap) xs) (i : Nat) (hi : i < n) {T : List SS} {AT : Option Addr} {cT : Nat} (hlT : T.length ≤ cT) (hT : Kd.F kS W okp AT T.length T) (hk : ∀ k, okp k → ok k ∧ k ≠ ad.block) :
    Kd.N kS 38 (W.setCell ⟨(ad.add (i * 10)).block, (ad.add (i * 10)).off + 9, none⟩ (.slice AT T.length cT)) base ok (.slice (some ad) n cap) (xs.set i ⟨(xs.getD i z38).f0, (xs.getD i z38).f1, (xs.getD i z38).f2, (xs.getD i z38).f3, (xs.getD i z38).f4, (xs.getD i z38).f5, (xs.getD i z38).f6, (xs.getD i z38).f7, (xs.getD i z38).f8, T⟩) ∧ W.grownBy (W.setCell ⟨(ad.add (i * 10)).block, (ad.add (i * 10)).off + 9, none⟩ (.slice AT T.length cT)) (some ad.block) := by
  obtain ⟨c, hcl, hM, hcc, hfr⟩ := N_all h z38 i hi
  obtain ⟨A5, c5, A6, c6, A7, c7, A8, c8, A9, c9, rfl, l5, g5, l6, g6, l7, g7, l8, g8, l9, g9⟩ := k38_openF hM
  exact N_put (okp := fun k => ok k ∧ k ≠ ad.block) h i hi hcl hcc 9 (by decide) _ _ (k38_mkF W _ ⟨(xs.getD i z38).f0, (xs.getD i z38).f1, (xs.getD i z38).f2, (xs.getD i z38).f3, (xs.getD i z38).f4, (xs.getD i z38).f5, (xs.getD i z38).f6, (xs.getD i z38).f7, (xs.getD i z38).f8, T⟩ l5 g5 l6 g6 l7 g7 l8 g8 hlT (Kd.F_mono hT hk)) (fun _ hk => hk)
theorem put_three {base n cap : Nat} {ok okp : Nat → Prop} {W : World} {ad : Addr} {xs : List SS} (h : Kd.N kS 38 W base ok (.slice (some ad) n cap) xs) (i : Nat) (hi : i < n) (hx : i < xs.length) (m : Int) {T E : List SS} {AT AE : Option Addr} {cT cE : Nat} (hlT : T.length ≤ cT) (hT : Kd.F kS W okp AT T.length T) (hlE : E.length ≤ cE) (hE : Kd.F kS W okp AE E.length E) (hk : ∀ k, okp k → ok k ∧ k ≠ ad.block) :
    Kd.N kS 38 (((W.setCell ⟨(ad.add (i * 10)).block, (ad.add (i * 10)).off + 1, none⟩ (.int .i64 m)).setCell ⟨(ad.add (i * 10)).block, (ad.add (i * 10)).off + 8, none⟩ (.slice AT T.length cT)).setCell ⟨(ad.add (i * 10)).block, (ad.add (i * 10)).off + 9, none⟩ (.slice AE E.length cE)) base ok (.slice (some ad) n cap)
      (xs.set i ⟨(xs.getD i z38).f0, m, (xs.getD i z38).f2, (xs.getD i z38).f3, (xs.getD i z38).f4, (xs.getD i z38).f5, (xs.getD i z38).f6, (xs.getD i z38).f7, T, E⟩) := by
  have hne : ∀ k, okp k → some k ≠ some ad.block := fun k hp he => (hk k hp).2 (by injection he)
  obtain ⟨n1, q1⟩ := put_line h i hi m
  have hT1 := Kd.F_grown hT q1 hne
  have hE1 := Kd.F_grown hE q1 hne
  obtain ⟨n2, q2⟩ := put_then n1 i hi hlT hT1 hk
  have hE2 := Kd.F_grown hE1 q2 hne
  obtain ⟨n3, _⟩ := put_else n2 i hi hlE hE2 hk
  have g1 : ∀ x : SS, (xs.set i x).getD i z38 = x := fun x => by rw [List.getD_eq_getElem?_getD, List.getElem?_set_self hx]; rfl
  have g2 : ∀ x y : SS, ((xs.set i x).set i y).getD i z38 = y := fun x y => by rw [List.set_set]; exact g1 y
  simp only [g1, g2, List.set_set] at n3
  exact n3
theorem N_cell {α : Type} {d : Kd α} {e base n cap : Nat} {ok : Nat → Prop} {W : World} {ad : Addr} {xs : List α} (h : Kd.N d e W base ok (.slice (some ad) n cap) xs) (z : α) (i : Nat) (hi : i < n) (j : Nat) (hj : j < d.sz) :
    ∃ u, W.cell? ⟨(ad.add (i * d.sz)).block, (ad.add (i * d.sz)).off + j, none⟩ = some u ∧ W.frozen? ⟨(ad.add (i * d.sz)).block, (ad.add (i * d.sz)).off + j, none⟩ = false := by
  obtain ⟨c, hcl, _, hcc, hfr⟩ := N_all h z i hi
  exact ⟨_, hcc j _ (List.getElem?_eq_getElem (by omega)), hfr j⟩
theorem add_block (a : Addr) (n : Nat) : (a.add n).block = a.block := by unfold Addr.add; split <;> rfl
theorem mvS_eq (ln : Int) (i : Nat) (z : SS) : mvS ln i z = ⟨z.f0, ln + i, z.f2, z.f3, z.f4, z.f5, z.f6, z.f7, mvSs ln 0 z.f8, mvSs ln 0 z.f9⟩ := by cases z; rfl
/-- What lies in ok, or is new since b. -/
def OkA (ok : Nat → Prop) (b : Nat) : Nat → Prop := fun k => ok k ∨ b ≤ k
def MovedAt (ln : Int) (l : List SS) : Prop := ∀ (ok : Nat → Prop) (A : Option Addr) (c : Nat) (w : World), (∀ k, ok k → k < w.heap.size) → Kd.F kS w ok A l.length l → l.length ≤ c →
  Calls Tryd.prog 51 #[.slice A l.length c, .int .i64 ln] w fun r w' => ∃ v, r = .returned v ∧ Kd.N kS 38 w' w.heap.size (OkA ok w.heap.size) v (mvSs ln 0 l) ∧ Below w.heap.size w w'
set_option maxRecDepth 100000 in
set_option maxHeartbeats 8000000 in
theorem moved_step (ln : Int) (hn0 : 0 ≤ ln) (hn1 : ln ≤ 1000) (l : List SS) (ih : ∀ l' : List SS, deepSs l' < deepSs l → sizeSs l' ≤ 4000 → MovedAt ln l') (hS : sizeSs l ≤ 4000) : MovedAt ln l := by
  intro ok A c w hok hF hlc
  have hln : l.length ≤ 4000 := by have := len_le_sizeSs l; omega
  have hml := mvSs_length ln l 0
  obtain ⟨M, hM⟩ : ∃ M, mvSs ln 0 l = M := ⟨_, rfl⟩
  have IH := Lx.Hd.mk ih
  have HF := Lx.Hd.mk hF
  have HOK := Lx.Hd.mk hok
  have HM := Lx.Hd.mk hM
  rw [hM] at hml
  rw [hM]
  clear hF ih hok hM
  have HB : Lx.Hd (Below w.heap.size w w) := Lx.Hd.mk (Below.refl _ _)
  go_enter Tryd.func51, Tryd.ntmps51
  go_wp2_with (first
    | ((with_reducible refine gate_dst (N := 7) rfl ?_); refine Kd.N_lit kS (w0 := w) w.heap.size 38 ?hg (N' := 7) ?hd (xs := ([] : List SS)) (inner := []) (ok := OkA ok w.heap.size) (okp := fun _ => False) ?hr ?hp (fun _ hk => hk.elim) (.inr (Nat.le_refl _)) HB.out (Nat.le_refl _) (by simp) ?_; (case hd => rfl); (case hg => rfl); (case hr => first | (go_simp; done) | (go_simp; rfl)); (case hp => exact Reps.none _ _); intro v7 w7 ho7 hb7 hg7 hn7; have HO := Lx.Hd.mk ho7; clear HB; have HB := Lx.Hd.mk hb7; clear ho7 hb7 hg7 hn7; obtain ⟨A7, c7, rfl⟩ := Kd.N_slice HO.out)
    | ((with_reducible refine gate_builtin (b := .append) (xs := #[.tmp 7, .tmp 8]) rfl ?_); at_builtin; refine Kd.N_append_rows kS (w0 := w) w.heap.size rfl (.tmp 7) (.tmp 8) 36 38 _ 168 rfl Tryd.underlying36 info38 rfl (by decide) (by omega) _ [] l A l.length c (OkA ok w.heap.size) ok rfl rfl ?aO ?aR ?aK ?aF ?aB ?aS ?aL ?_; (case aO => exact HO.out); (case aR => exact Kd.F_below HF.out HB.out); (case aK => exact fun k hk => ⟨.inl hk, fun he => by have h1 := Kd.N_base HO.out k he.symm; have h2 := HOK.out k hk; omega⟩); (case aF => exact fun k hk => .inr (Nat.le_trans HB.out.size hk)); (case aB => exact HB.out); (case aS => exact HB.out.size); (case aL => (show (0 + l.length) * 168 ≤ _; omega)); intro v9 w9 ho9 hb9 hg9 hn9; have HN := Lx.Hd.mk (show Kd.N kS 38 w9 w.heap.size (OkA ok w.heap.size) v9 (half M l 0) from by rw [half_zero]; exact ho9); clear HB HO; have HB := Lx.Hd.mk hb9; clear ho9 hb9 hg9 hn9; have hv9 := Kd.N_slice HN.out; rw [half_length M l hml 0 (Nat.zero_le _)] at hv9; obtain ⟨B, cB, rfl⟩ := hv9)
    | fail)
  go_loopw [6] (fun t6 wr => ∃ i : Nat, i ≤ l.length ∧ t6 = .int .i64 i ∧ Lx.Hd (Kd.N kS 38 wr w.heap.size (OkA ok w.heap.size) (.slice B l.length cB) (half M l i)) ∧ Lx.Hd (Below w.heap.size w wr)) (fun t6 _ => l.length - (intOf t6).toNat)
  case atStart => exact ⟨0, Nat.zero_le _, rfl, HN, HB⟩
  case round =>
    clear HN HB
    obtain ⟨i, hi, rfl, HN, HB⟩ := hrel
    by_cases hlt : i < l.length
    rotate_left
    · go_wp2
      go_ret
      exact ⟨_, rfl, by have := HN.out; rwa [half_end M l hml i (by omega)] at this, HB.out⟩
    have hge := half_get M l hml i hlt z38
    have hmem := List.getElem_mem hlt
    have hd := deep_mem_S hmem
    have hz := size_mem_S hmem
    have hmv : ∀ x, mvS ln i l[i] = x → (half M l i).set i x = half M l (i + 1) := fun x hx => half_set M l hml i hlt x (by
      have h2 := mvSs_get ln l 0 i hlt (by rw [mvSs_length]; exact hlt)
      rw [Nat.zero_add, hx] at h2
      have hMo := HM.out
      subst hMo
      exact h2)
    obtain ⟨g, cap, hv, hg1, hg2, _⟩ := Kd.N_form HN.out (by rw [half_length M l hml i hi]; omega)
    obtain ⟨ad, rfl, hg1, hg2⟩ : ∃ ad : Addr, B = some ad ∧ w.heap.size ≤ ad.block ∧ ad.block < wr.heap.size := by injection hv with h1 h2 h3; exact ⟨_, h1, hg1, hg2⟩
    obtain ⟨cs, hcl, hFK, hcc, hfr⟩ := N_all HN.out z38 i hlt
    have hxl := half_length M l hml i hi
    rw [hge] at hFK
    clear hmem hml
    obtain ⟨xs, hxs⟩ : ∃ xs, half M l i = xs := ⟨_, rfl⟩
    rw [hxs] at hge HN hmv hxl
    generalize l[i] = z at *
    obtain ⟨A5, x5, A6, x6, A7, x7, A8, x8, A9, x9, rfl, k5, g5, k6, g6, k7, g7, k8, g8, k9, g9⟩ := k38_openF hFK
    have e8 := hcc 8 _ rfl
    have e9 := hcc 9 _ rfl
    have kd := deepS_kids z
    have ks := sizeS_kids z
    obtain ⟨T, hT⟩ : ∃ T, mvSs ln 0 z.f8 = T := ⟨_, rfl⟩
    obtain ⟨E, hE⟩ : ∃ T, mvSs ln 0 z.f9 = T := ⟨_, rfl⟩
    obtain ⟨okz, hokz⟩ : ∃ o : Nat → Prop, (fun k => (OkA ok w.heap.size k ∧ k ≠ ad.block) ∧ k < wr.heap.size) = o := ⟨_, rfl⟩
    have KO : Lx.Hd (∀ k b, wr.heap.size ≤ b → OkA okz b k → OkA ok w.heap.size k ∧ k ≠ ad.block) := Lx.Hd.mk fun k b hb hk => by
      rcases hk with hk | hk
      · rw [← hokz] at hk; exact hk.1
      · exact ⟨.inr (by have := HB.out.size; omega), by omega⟩
    have KX : ∀ k, okz k → k < wr.heap.size := fun k hk => by rw [← hokz] at hk; exact hk.2
    have f8 := Kd.F_bound g8
    have f9 := Kd.F_bound g9
    rw [hokz] at f8 f9
    have K8 : Lx.Hd (∀ W, Below wr.heap.size wr W → Calls Tryd.prog 51 #[.slice A8 z.f8.length x8, .int .i64 ln] W fun r W' => ∃ v, r = .returned v ∧ Kd.N kS 38 W' W.heap.size (OkA okz W.heap.size) v T ∧ Below W.heap.size W W') := Lx.Hd.mk fun W hb => by rw [← hT]; exact IH.out z.f8 (by omega) (by omega) okz A8 x8 W (fun k hk => Nat.lt_of_lt_of_le (KX k hk) hb.size) (Kd.F_below f8 hb) k8
    have K9 : Lx.Hd (∀ W, Below wr.heap.size wr W → Calls Tryd.prog 51 #[.slice A9 z.f9.length x9, .int .i64 ln] W fun r W' => ∃ v, r = .returned v ∧ Kd.N kS 38 W' W.heap.size (OkA okz W.heap.size) v E ∧ Below W.heap.size W W') := Lx.Hd.mk fun W hb => by rw [← hE]; exact IH.out z.f9 (by omega) (by omega) okz A9 x9 W (fun k hk => Nat.lt_of_lt_of_le (KX k hk) hb.size) (Kd.F_below f9 hb) k9
    have HQ : Lx.Hd (∀ W, Below wr.heap.size wr W → W.cell? ⟨(ad.add (i * 10)).block, (ad.add (i * 10)).off + 8, none⟩ = some (.slice A8 z.f8.length x8) ∧ W.cell? ⟨(ad.add (i * 10)).block, (ad.add (i * 10)).off + 9, none⟩ = some (.slice A9 z.f9.length x9)) := Lx.Hd.mk fun W hb => ⟨pw_cell_below hb e8, pw_cell_below hb e9⟩
    have HMV := Lx.Hd.mk (hmv _ (by rw [mvS_eq, hT, hE]))
    have HGE := Lx.Hd.mk hge
    have HXL := Lx.Hd.mk hxl
    have HG1 := Lx.Hd.mk hg1
    have HW := HB
    have HB : Lx.Hd (Below wr.heap.size wr wr) := Lx.Hd.mk (Below.refl _ _)
    have w1 : IntKind.i64.wrap (ln + (i : Int)) = ln + (i : Int) := wrap_in (by omega)
    have i1 : decide ((i : Int) < (l.length : Int)) = true := decide_eq_true (by omega)
    have i2 : decide (i < l.length) = true := decide_eq_true hlt
    clear hge hmv hxl hd hz hcl hFK hcc hfr k5 g5 k6 g6 k7 g7 k8 g8 k9 g9 e8 e9 kd ks hT hE hokz KX f8 f9 hv hg1 hg2 hxs IH HF HOK
    have hu38 := Tryd.underlying38
    go_upto_region 5 with (fail)
    have HBd := Lx.Hd.mk (below_drew HB.out)
    have hn_ := Lx.Hd.mk (Kd.N_below HN.out (below_drew (Below.refl _ _)))
    refine start_ (n := 32) (S := fun w' => w'.cell? ⟨(ad.add (i * 10)).block, (ad.add (i * 10)).off + 8, none⟩ = some (.slice A8 z.f8.length x8) ∧ w'.cell? ⟨(ad.add (i * 10)).block, (ad.add (i * 10)).off + 9, none⟩ = some (.slice A9 z.f9.length x9)) (ds := [25, 28, 31]) (fl 32 0) (by kernel_rfl) rfl rfl ⟨(HQ.out _ HBd.out).1, (HQ.out _ HBd.out).2⟩ (fun hHeld => ?_)
    clear HB HN
    have HB := HBd
    have HN := hn_
    clear HBd hn_
    refine pu 0 (some 16) (fl 32 1) ?_
    refine pu 1 (some 17) (fl 32 3) ?_
    refine pu 2 (some 18) (fl 32 7) ?_
    refine pu 3 (some 19) (fl 32 15) ?_
    refine pu 4 (some 20) (fl 32 31) ?_
    refine pu 5 (some 21) (fl 32 63) ?_
    refine pu 6 (some 22) (fl 32 127) ?_
    refine pu 7 (some 23) (fl 32 255) ?_
    refine pu 8 (some 24) (fl 32 511) ?_
    refine pu 9 (some 25) (fl 32 1023) ?_
    refine pu 10 (some 26) (fl 32 2047) ?_
    refine pu 11 (some 27) (fl 32 4095) ?_
    refine pu 12 (some 28) (fl 32 8191) ?_
    refine pu 14 (some 30) (fl 32 24575) ?_
    refine pu 16 (some 32) (fl 32 90111) ?_
    refine pu 17 (some 33) (fl 32 221183) ?_
    refine pu 18 (some 34) (fl 32 483327) ?_
    refine pu 19 (some 35) (fl 32 1007615) ?_
    refine pu 21 (some 37) (fl 32 3104767) ?_
    refine tk 13 (some 29) (fl 32 3112959) hHeld (hr := by rintro w' ⟨s0, s1⟩; go_simp; with_reducible rfl) (h := ?_)
    refine tk 20 (some 36) (fl 32 4161535) hHeld (hr := by rintro w' ⟨s0, s1⟩; go_simp; with_reducible rfl) (h := ?_)
    refine one_ (i := 15) (N := some 31) (fl 32 4194303) rfl rfl (by kernel_rfl) (by decide) (fun K hK => ?_)
    refine goes_ Tryd.func51 (by kernel_rfl) rfl #[.slice A8 z.f8.length x8, .int .i64 ln] (by rfl) rfl rfl (by (try simp only [List.map_toArray, List.map_cons, List.map_nil]); first | done | rfl) ?_
    with_reducible refine (K8.out _ HB.out).mono ?_
    rintro r W3 ⟨v1, rfl, hn1, hb⟩
    refine ⟨_, rfl, ?_⟩
    obtain ⟨AT, cT, rfl⟩ := Kd.N_slice hn1
    have HT := Lx.Hd.mk (Kd.F_mono (Kd.N_F hn1) (fun k hk => KO.out k _ HB.out.size hk))
    have LHT := Lx.Hd.mk (Kd.N_reads' hn1).2.1
    have h1_ := Lx.Hd.mk (Kd.N_below HN.out hb)
    have hn_ := Lx.Hd.mk (below_step HB.out hb)
    clear hb HB hn1 HN
    have HB := hn_
    have HN := h1_
    clear hn_ h1_
    refine hK.out _ _ ⟨(HQ.out _ HB.out).1, (HQ.out _ HB.out).2⟩ (fun hHeld => ?_)
    clear hK K
    refine norm_ (a' := ?_) ?_ ?_
    rotate_left; · (show Act.put _ (some 31) _ = _; simp only [Act.put, List.setIfInBounds_toArray, List.set_cons_zero, List.set_cons_succ, i64_w, i32_w]; rfl)
    refine one_ (i := 22) (N := some 38) (fl 32 8388607) rfl rfl (by kernel_rfl) (by decide) (fun K hK => ?_)
    refine goes_ Tryd.func51 (by kernel_rfl) rfl #[.slice A9 z.f9.length x9, .int .i64 ln] (by rfl) rfl rfl (by (try simp only [List.map_toArray, List.map_cons, List.map_nil]); first | done | rfl) ?_
    with_reducible refine (K9.out _ HB.out).mono ?_
    rintro r W5 ⟨v2, rfl, hn1, hb⟩
    refine ⟨_, rfl, ?_⟩
    obtain ⟨AE, cE, rfl⟩ := Kd.N_slice hn1
    have HE := Lx.Hd.mk (Kd.F_mono (Kd.N_F hn1) (fun k hk => KO.out k _ HB.out.size hk))
    have LHE := Lx.Hd.mk (Kd.N_reads' hn1).2.1
    have ht_ := Lx.Hd.mk (Kd.F_below HT.out hb)
    clear HT
    have HT := ht_
    clear ht_
    have h1_ := Lx.Hd.mk (Kd.N_below HN.out hb)
    have hn_ := Lx.Hd.mk (below_step HB.out hb)
    clear hb HB hn1 HN
    have HB := hn_
    have HN := h1_
    clear hn_ h1_
    refine hK.out _ _ ⟨(HQ.out _ HB.out).1, (HQ.out _ HB.out).2⟩ (fun hHeld => ?_)
    clear hK K
    refine norm_ (a' := ?_) ?_ ?_
    rotate_left; · (show Act.put _ (some 38) _ = _; simp only [Act.put, List.setIfInBounds_toArray, List.set_cons_zero, List.set_cons_succ, i64_w, i32_w]; rfl)
    refine pu 23 (some 39) (fl 32 16777215) ?_
    refine pu 24 (some 40) (fl 32 33554431) ?_
    refine last_ (i := 25) (N := none) (fl 32 67108863) rfl rfl (by kernel_rfl) (by decide) (fun K hK => ?_)
    obtain ⟨u_, c_, f_⟩ := N_cell HN.out z38 i hlt 1 (by decide)
    rw [show kS.sz = 10 from rfl] at c_ f_
    refine skip_ (w1 := ?_) (by rfl) rfl ?_ ?_
    rotate_left
    · go_simp
      rfl
    clear u_ c_ f_
    have Q1 := put_line HN.out i hlt (ln + (i : Int))
    have N1 := Lx.Hd.mk Q1.1
    have F1 := Lx.Hd.mk (Kd.F_grown HT.out Q1.2 (fun k hp he => hp.2 (by injection he)))
    clear Q1
    refine hK.out _ _ ?_
    clear hK K
    refine pu 26 (some 41) (fl 32 134217727) ?_
    refine pu 27 (some 42) (fl 32 268435455) ?_
    refine last_ (i := 28) (N := none) (fl 32 536870911) rfl rfl (by kernel_rfl) (by decide) (fun K hK => ?_)
    obtain ⟨u_, c_, f_⟩ := N_cell N1.out z38 i hlt 8 (by decide)
    rw [show kS.sz = 10 from rfl] at c_ f_
    refine skip_ (w1 := ?_) (by rfl) rfl ?_ ?_
    rotate_left
    · go_simp
      rfl
    clear u_ c_ f_
    have N2 := Lx.Hd.mk (put_then N1.out i hlt LHT.out F1.out (fun _ hk => hk)).1
    clear N1 F1
    refine hK.out _ _ ?_
    clear hK K
    refine pu 29 (some 43) (fl 32 1073741823) ?_
    refine pu 30 (some 44) (fl 32 2147483647) ?_
    refine last_ (i := 31) (N := none) (fl 32 4294967295) rfl rfl (by kernel_rfl) (by decide) (fun K hK => ?_)
    obtain ⟨u_, c_, f_⟩ := N_cell N2.out z38 i hlt 9 (by decide)
    rw [show kS.sz = 10 from rfl] at c_ f_
    refine skip_ (w1 := ?_) (by rfl) rfl ?_ ?_
    rotate_left
    · go_simp
      rfl
    clear u_ c_ f_ N2
    refine hK.out _ _ ?_
    clear hK K
    refine done_ (by kernel_rfl) ?_
    have h3 := put_three HN.out i hlt (by rw [HXL.out]; exact hlt) (ln + (i : Int)) LHT.out HT.out LHE.out HE.out (fun _ hk => hk)
    rw [HGE.out, HMV.out] at h3
    have hge : w.heap.size ≤ (ad.add (i * 10)).block := by rw [add_block]; exact HG1.out
    have h4 : Below w.heap.size w (((W5.setCell ⟨(ad.add (i * 10)).block, (ad.add (i * 10)).off + 1, none⟩ (.int .i64 (ln + (i : Int)))).setCell ⟨(ad.add (i * 10)).block, (ad.add (i * 10)).off + 8, none⟩ (.slice AT T.length cT)).setCell ⟨(ad.add (i * 10)).block, (ad.add (i * 10)).off + 9, none⟩ (.slice AE E.length cE)) := (((below_step HW.out HB.out).setCell (p := ⟨(ad.add (i * 10)).block, (ad.add (i * 10)).off + 1, none⟩) hge _).setCell (p := ⟨(ad.add (i * 10)).block, (ad.add (i * 10)).off + 8, none⟩) hge _).setCell (p := ⟨(ad.add (i * 10)).block, (ad.add (i * 10)).off + 9, none⟩) hge _
    have HN3 := Lx.Hd.mk h3
    have HB3 := Lx.Hd.mk h4
    clear h3 h4 hge HN HT HE LHT LHE HB HW HQ K8 K9
    generalize (((W5.setCell ⟨(ad.add (i * 10)).block, (ad.add (i * 10)).off + 1, none⟩ (.int .i64 (ln + (i : Int)))).setCell ⟨(ad.add (i * 10)).block, (ad.add (i * 10)).off + 8, none⟩ (.slice AT T.length cT)).setCell ⟨(ad.add (i * 10)).block, (ad.add (i * 10)).off + 9, none⟩ (.slice AE E.length cE)) = W6 at HN3 HB3 ⊢
    go_wp2
    exact ⟨⟨i + 1, hlt, by go_num, HN3, HB3⟩, by simp [intOf]; omega⟩
theorem moved_any (ln : Int) (hn0 : 0 ≤ ln) (hn1 : ln ≤ 1000) : ∀ (D : Nat) (l : List SS), deepSs l < D → sizeSs l ≤ 4000 → MovedAt ln l
  | 0, _, h, _ => by omega
  | D + 1, l, hD, hS => moved_step ln hn0 hn1 l (fun l' h h2 => moved_any ln hn0 hn1 D l' (by omega) h2) hS

end Go.Proofs.YtgkhpecllhiidaaDoor.A
