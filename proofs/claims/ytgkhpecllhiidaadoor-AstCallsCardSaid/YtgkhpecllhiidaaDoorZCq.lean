/- How much there is in a program (LightProgram), and whether its Lines are none below 0 (lined): the walks. -/
import Derived.Test.YtgkhpecllhiidaaDoorZBb
import Derived.Test.YtgkhpecllhiidaaDoorZPw
import Derived.Test.YtgkhpecllhiidaaDoorZCp
import Derived.IntWalk
set_option linter.unusedVariables false
set_option linter.unusedSimpArgs false
namespace Go.Proofs.YtgkhpecllhiidaaDoor.A
open Go.RowKit Go.Shelf Go.Proofs.YtgkhpecllhiidaaDoor.As Go.Proofs.YtgkhpecllhiidaaDoorW.PrintWords Go.Proofs.YtgkhpecllhiidaaDoorW.PrintLast Go.Proofs.YtgkhpecllhiidaaDoorW.PrintMore
def fl (n m : Nat) : Array Bool := ((List.range n).map fun i => Nat.testBit m i).toArray
mutual
def lightE : SE → Int → Int
  | ⟨_, _, _, _, s, l⟩, left => lightEs l (left - 1 - (s.size : Int) / 20)
def lightEs : List SE → Int → Int
  | [], left => left
  | e :: l, left => if left < 0 then left else lightEs l (lightE e left)
end
mutual
def stI : SS → Int → Int
  | ⟨_, _, _, _, s, n, i, x, t, e⟩, left => if lightEs x (lightEs i (left - 1 - (s.size : Int) / 20 - (n.length : Int))) < 0 then lightEs x (lightEs i (left - 1 - (s.size : Int) / 20 - (n.length : Int))) else stIs e (stIs t (lightEs x (lightEs i (left - 1 - (s.size : Int) / 20 - (n.length : Int)))))
def stIs : List SS → Int → Int
  | [], left => left
  | s :: l, left => if left < 0 then left else stIs l (stI s left)
end
def Lit (r left : Int) (n : Nat) : Prop := r ≤ left ∧ -1125899906842624 ≤ r ∧ (0 ≤ r → r + n ≤ left)
mutual
theorem lightE_lit : ∀ (e : SE) (left : Int), AllN szN (.ex e) → 0 ≤ left → left ≤ 1125899906842624 → lightE e left ≤ left - 1 ∧ Lit (lightE e left) left (sizeE e)
  | ⟨a, b, c, d, s, l⟩, left, hP, h1, h2 => by
    have hz : s.size ≤ 140737488351232 := hP.own
    have hk : ∀ e ∈ l, AllN szN (.ex e) := fun e he => hP.kid (y := .ex e) (List.mem_map.2 ⟨e, he, rfl⟩)
    rw [lightE, sizeE]
    obtain ⟨q1, q2, q3⟩ := lightEs_lit l (left - 1 - (s.size : Int) / 20) hk (by omega) (by omega)
    exact ⟨by omega, by omega, q2, fun h => by have := q3 h; omega⟩
theorem lightEs_lit : ∀ (l : List SE) (left : Int), (∀ e ∈ l, AllN szN (.ex e)) → -1125899906842624 ≤ left → left ≤ 1125899906842624 → Lit (lightEs l left) left (sizeEs l)
  | [], left, _, h1, _ => ⟨Int.le_refl _, h1, fun _ => by rw [lightEs, sizeEs]; omega⟩
  | e :: l, left, hP, h1, h2 => by
    rw [lightEs, sizeEs]
    by_cases h0 : left < 0
    · rw [if_pos h0]; exact ⟨Int.le_refl _, h1, fun h => by omega⟩
    · rw [if_neg h0]
      obtain ⟨_, p1, p2, p3⟩ := lightE_lit e left (hP e (List.mem_cons_self ..)) (by omega) h2
      obtain ⟨q1, q2, q3⟩ := lightEs_lit l (lightE e left) (fun x hx => hP x (List.mem_cons_of_mem _ hx)) p2 (by omega)
      exact ⟨by omega, q2, fun h => by have := q3 h; have := p3 (by omega); omega⟩
end
mutual
theorem stI_lit : ∀ (s : SS) (left : Int), AllN szN (.st s) → AllN lenN (.st s) → 0 ≤ left → left ≤ 1125899906842624 → Lit (stI s left) left (sizeS s)
  | ⟨a0, a1, a2, a3, f4, f5, f6, f7, f8, f9⟩, left, hP, hL, h1, h2 => by
    have hz : f4.size ≤ 140737488351232 := hP.own.1
    have hn : f5.length ≤ 140737488351232 := hL.own
    have k6 : ∀ x ∈ f6, AllN szN (.ex x) := fun x hx => hP.kid (y := .ex x) (by unfold Nd.kids; simp only [List.mem_append, List.mem_map]; exact .inl (.inl (.inl ⟨x, hx, rfl⟩)))
    have k7 : ∀ x ∈ f7, AllN szN (.ex x) := fun x hx => hP.kid (y := .ex x) (by unfold Nd.kids; simp only [List.mem_append, List.mem_map]; exact .inl (.inl (.inr ⟨x, hx, rfl⟩)))
    have k8 : ∀ x ∈ f8, AllN szN (.st x) ∧ AllN lenN (.st x) := fun x hx => ⟨hP.kid (y := .st x) (by unfold Nd.kids; simp only [List.mem_append, List.mem_map]; exact .inl (.inr ⟨x, hx, rfl⟩)), hL.kid (y := .st x) (by unfold Nd.kids; simp only [List.mem_append, List.mem_map]; exact .inl (.inr ⟨x, hx, rfl⟩))⟩
    have k9 : ∀ x ∈ f9, AllN szN (.st x) ∧ AllN lenN (.st x) := fun x hx => ⟨hP.kid (y := .st x) (by unfold Nd.kids; simp only [List.mem_append, List.mem_map]; exact .inr ⟨x, hx, rfl⟩), hL.kid (y := .st x) (by unfold Nd.kids; simp only [List.mem_append, List.mem_map]; exact .inr ⟨x, hx, rfl⟩)⟩
    obtain ⟨a1, a2, a3⟩ := lightEs_lit f6 (left - 1 - (f4.size : Int) / 20 - (f5.length : Int)) k6 (by omega) (by omega)
    obtain ⟨b1, b2, b3⟩ := lightEs_lit f7 (lightEs f6 (left - 1 - (f4.size : Int) / 20 - (f5.length : Int))) k7 a2 (by omega)
    rw [stI, sizeS]
    generalize lightEs f6 (left - 1 - (f4.size : Int) / 20 - (f5.length : Int)) = ra at *
    generalize lightEs f7 ra = rb at *
    by_cases h0 : rb < 0
    · rw [if_pos h0]; exact ⟨by omega, b2, fun h => by omega⟩
    · rw [if_neg h0]
      obtain ⟨c1, c2, c3⟩ := stIs_lit f8 rb k8 b2 (by omega)
      obtain ⟨d1, d2, d3⟩ := stIs_lit f9 (stIs f8 rb) k9 c2 (by omega)
      exact ⟨by omega, d2, fun h => by have := d3 h; have := c3 (by omega); have := b3 (by omega); have := a3 (by omega); omega⟩
theorem stIs_lit : ∀ (l : List SS) (left : Int), (∀ s ∈ l, AllN szN (.st s) ∧ AllN lenN (.st s)) → -1125899906842624 ≤ left → left ≤ 1125899906842624 → Lit (stIs l left) left (sizeSs l)
  | [], left, _, h1, _ => ⟨Int.le_refl _, h1, fun _ => by rw [stIs, sizeSs]; omega⟩
  | s :: l, left, hP, h1, h2 => by
    rw [stIs, sizeSs]
    by_cases h0 : left < 0
    · rw [if_pos h0]; exact ⟨Int.le_refl _, h1, fun h => by omega⟩
    · rw [if_neg h0]
      have hs := hP s (List.mem_cons_self ..)
      obtain ⟨p1, p2, p3⟩ := stI_lit s left hs.1 hs.2 (by omega) h2
      obtain ⟨q1, q2, q3⟩ := stIs_lit l (stI s left) (fun x hx => hP x (List.mem_cons_of_mem _ hx)) p2 (by omega)
      exact ⟨by omega, q2, fun h => by have := q3 h; have := p3 (by omega); omega⟩
end
theorem lightI_loop (D : Nat) (ih : ∀ (l : List SE) (left : Int), deepEs l ≤ D → (∀ e ∈ l, AllN szN (.ex e)) → -1125899906842624 ≤ left → left ≤ 1125899906842624 → ∃ k, lamplighterkit_light.f k l left = some (lightEs l left))
    (l : List SE) (hD : deepEs l ≤ D + 1) (hP : ∀ e ∈ l, AllN szN (.ex e)) :
    ∀ (n i : Nat) (left : Int), l.length - i ≤ n → i ≤ l.length → -1125899906842624 ≤ left → left + i ≤ 1125899906842624 → ∃ k, lamplighterkit_light.l0 k l left (i : Int) = some (lightEs (l.drop i) left) := by
  intro n
  induction n with
  | zero =>
    intro i left hn hi h1 h2
    obtain rfl : i = l.length := by omega
    exact ⟨1, by rw [lamplighterkit_light.l0, if_neg (by omega), List.drop_length]; rfl⟩
  | succ n hn =>
    intro i left hni hi h1 h2
    by_cases hlt : i < l.length
    · rw [List.drop_eq_getElem_cons hlt, lightEs]
      by_cases h0 : left ≥ 0
      · have hm : l[i] ∈ l := List.getElem_mem hlt
        have hd := deep_mem_E hm
        have hA := hP l[i] hm
        have hlit := lightE_lit l[i] left hA h0 (by omega)
        have hrd := rd_nat l i hlt
        generalize l[i] = x at *
        have hz : x.f4.size ≤ 140737488351232 := hA.own
        have hkid : ∀ e ∈ x.f5, AllN szN (.ex e) := fun e he => hA.kid (y := .ex e) (List.mem_map.2 ⟨e, he, rfl⟩)
        have hde : deepEs x.f5 ≤ D := by
          have : deepE x = 1 + deepEs x.f5 := by obtain ⟨_, _, _, _, _, q⟩ := x; rw [deepE]
          omega
        have hle : lightE x left = lightEs x.f5 (left - 1 - (x.f4.size : Int) / 20) := by obtain ⟨_, _, _, _, _, q⟩ := x; rw [lightE]
        obtain ⟨ka, ha⟩ := ih x.f5 (left - 1 - (x.f4.size : Int) / 20) hde hkid (by omega) (by omega)
        obtain ⟨kb, hb⟩ := hn (i + 1) (lightE x left) (by omega) hlt hlit.2.2.1 (by have := hlit.1; omega)
        refine ⟨max ka kb + 1, ?_⟩
        rw [if_neg (by omega), lamplighterkit_light.l0, if_pos (by omega), if_pos h0, if_pos (by omega), hrd, w64i (left - 1) (by omega), w64i ((x.f4.size : Int) / 20) (by omega), w64i (left - 1 - (x.f4.size : Int) / 20) (by omega), light_up (Nat.le_max_left ka kb) ha, Option.bind_some, w64i ((i : Int) + 1) (by omega), ← hle]
        have := le_up (F := fun k => lamplighterkit_light.l0 k l (lightE x left) ((i + 1 : Nat) : Int)) (fun k => (lamplighterkit_light.mono_l k).2 _ _ _) (Nat.le_max_right ka kb) hb
        rw [show (i : Int) + 1 = ((i + 1 : Nat) : Int) by omega]
        exact this
      · exact ⟨1, by rw [lamplighterkit_light.l0, if_pos (by omega), if_neg h0, if_pos (by omega)]⟩
    · obtain rfl : i = l.length := by omega
      exact ⟨1, by rw [lamplighterkit_light.l0, if_neg (by omega), List.drop_length]; rfl⟩
theorem lightI_f : ∀ (D : Nat) (l : List SE) (left : Int), deepEs l ≤ D → (∀ e ∈ l, AllN szN (.ex e)) → -1125899906842624 ≤ left → left ≤ 1125899906842624 → ∃ k, lamplighterkit_light.f k l left = some (lightEs l left)
  | 0, l, left, hD, _, h1, h2 => by
    cases l with
    | nil => exact ⟨2, by rw [lamplighterkit_light.f, lamplighterkit_light.l0, if_neg (by simp)]; rfl⟩
    | cons e l => rw [deepEs] at hD; obtain ⟨_, _, _, _, _, q⟩ := e; rw [deepE] at hD; omega
  | D + 1, l, left, hD, hP, h1, h2 => by
    obtain ⟨k, hk⟩ := lightI_loop D (lightI_f D) l hD hP l.length 0 left (by omega) (by omega) h1 (by omega)
    rw [List.drop_zero] at hk
    exact ⟨k + 1, by rw [lamplighterkit_light.f]; exact hk⟩
theorem len_le_sizeEs : ∀ l : List SE, l.length ≤ sizeEs l
  | [] => by simp
  | s :: l => by rw [sizeEs, List.length_cons]; have := sizeE_pos s; have := len_le_sizeEs l; omega
theorem lightI_calls (l : List SE) (left : Int) (A : Option Addr) (c : Nat) (w : World) (hC : kE.C w A l.length l) (hl : l.length ≤ c) (hP : ∀ e ∈ l, AllN szN (.ex e)) (h1 : -1125899906842624 ≤ left) (h2 : left ≤ 1125899906842624) (r : Int) (hr : lightEs l left = r) :
    Calls Tryd.prog 58 #[.slice A l.length c, .int .i64 left] w fun e w' => e = .returned (.int .i64 r) ∧ Below w.heap.size w w' := by
  obtain ⟨k, hk⟩ := lightI_f (deepEs l) l left (Nat.le_refl _) hP h1 h2
  rw [hr] at hk
  exact (lamplighterkit_light.calls k A c l left r w hC hl hk).mono fun e w' h => ⟨h.1, by have := h.2; first | exact this | exact this.below⟩
theorem stI_eq (s : SS) (left : Int) : stI s left = if lightEs s.f7 (lightEs s.f6 (left - 1 - (s.f4.size : Int) / 20 - (s.f5.length : Int))) < 0 then lightEs s.f7 (lightEs s.f6 (left - 1 - (s.f4.size : Int) / 20 - (s.f5.length : Int))) else stIs s.f9 (stIs s.f8 (lightEs s.f7 (lightEs s.f6 (left - 1 - (s.f4.size : Int) / 20 - (s.f5.length : Int))))) := by cases s; rfl
def okS' (s : SS) : Prop := AllN szN (.st s) ∧ AllN lenN (.st s)
theorem okS'_parts {s : SS} (h : okS' s) : s.f4.size ≤ 140737488351232 ∧ s.f5.length ≤ 140737488351232 ∧ (∀ e ∈ s.f6, AllN szN (.ex e)) ∧ (∀ e ∈ s.f7, AllN szN (.ex e)) ∧ (∀ x ∈ s.f8, okS' x) ∧ ∀ x ∈ s.f9, okS' x := by
  obtain ⟨hP, hL⟩ := h
  obtain ⟨a0, a1, a2, a3, f4, f5, f6, f7, f8, f9⟩ := s
  refine ⟨hP.own.1, hL.own, fun x hx => hP.kid (y := .ex x) ?_, fun x hx => hP.kid (y := .ex x) ?_, fun x hx => ⟨hP.kid (y := .st x) ?_, hL.kid (y := .st x) ?_⟩, fun x hx => ⟨hP.kid (y := .st x) ?_, hL.kid (y := .st x) ?_⟩⟩ <;> (unfold Nd.kids; simp only [List.mem_append, List.mem_map]; first | exact .inl (.inl (.inl ⟨x, hx, rfl⟩)) | exact .inl (.inl (.inr ⟨x, hx, rfl⟩)) | exact .inl (.inr ⟨x, hx, rfl⟩) | exact .inr ⟨x, hx, rfl⟩)
def StAt (l : List SS) (left : Int) : Prop := ∀ (A : Option Addr) (c : Nat) (w : World), kS.C w A l.length l → l.length ≤ c → Calls Tryd.prog 60 #[.slice A l.length c, .int .i64 left] w fun e w' => e = .returned (.int .i64 (stIs l left)) ∧ Below w.heap.size w w'
theorem wrap_in {n : Int} (h : -4611686018427387904 ≤ n ∧ n ≤ 4611686018427387904) : IntKind.i64.wrap n = n := IntWalk.i64_in _ (by omega)
set_option maxRecDepth 100000 in
set_option maxHeartbeats 8000000 in
theorem stmts_step (D : Nat) (ih : ∀ (l : List SS) (left : Int), deepSs l ≤ D → (∀ s ∈ l, okS' s) → -1125899906842624 ≤ left → left ≤ 1125899906842624 → StAt l left)
    (l : List SS) (left : Int) (hD : deepSs l ≤ D + 1) (hP : ∀ s ∈ l, okS' s) (hL1 : -1125899906842624 ≤ left) (hL2 : left ≤ 1125899906842624) : StAt l left := by
  intro A c w hC hlc
  have hln : l.length ≤ 9223372036854775807 := hC.2.1
  have H1 := Lx.Hd.mk hC
  have IH := Lx.Hd.mk ih
  have HP := Lx.Hd.mk hP
  clear hC ih hP
  go_enter Tryd.func60, Tryd.ntmps60
  go_wp2
  go_loopw [1, 5] (fun t1 t5 wr => ∃ (i : Nat) (m : Int), i ≤ l.length ∧ t5 = .int .i64 i ∧ t1 = .int .i64 m ∧ -1125899906842624 ≤ m ∧ m ≤ 1125899906842624 ∧ stIs l left = stIs (l.drop i) m ∧ Below w.heap.size w wr) (fun _ t5 _ => l.length - (intOf t5).toNat)
  case atStart => exact ⟨0, left, Nat.zero_le _, rfl, rfl, hL1, hL2, rfl, Below.refl _ _⟩
  case round =>
    obtain ⟨i, m, hi, rfl, rfl, hm1, hm2, hS, hB⟩ := hrel
    clear hL1 hL2
    by_cases hlt : i < l.length
    rotate_left
    · have HB := Lx.Hd.mk hB
      have HS := Lx.Hd.mk hS
      clear hB hS
      go_wp2
      go_ret
      exact ⟨by rw [HS.out, show i = l.length by omega, List.drop_length]; rfl, HB.out⟩
    rw [List.drop_eq_getElem_cons hlt, stIs] at hS
    by_cases h0 : m < 0
    · rw [if_pos h0] at hS
      have HB := Lx.Hd.mk hB
      have HS := Lx.Hd.mk hS
      clear hB hS
      have h0' : ¬ (0 : Int) ≤ m := by omega
      have h0'' : decide ((0 : Int) ≤ m) = false := decide_eq_false h0'
      go_wp2
      go_ret
      exact ⟨by rw [HS.out]; rfl, HB.out⟩
    rw [if_neg h0] at hS
    obtain ⟨ad, E5, x5, E6, x6, E7, x7, E8, x8, E9, x9, rfl, e0, e1, e2, e3, e4, e5, e6, e7, e8, e9, k5, g5, k6, g6, k7, g7, k8, g8, k9, g9⟩ := at_T38 H1.out i (by omega) (by omega)
    have ex : rd_T38 l i = l[i] := by unfold rd_T38; rw [Int.toNat_natCast, List.getD_eq_getElem?_getD, List.getElem?_eq_getElem hlt]; rfl
    have hmem := List.getElem_mem hlt
    rw [ex] at e0 e1 e2 e3 e4 e5 e6 e7 e8 e9 k5 g5 k6 g6 k7 g7 k8 g8 k9 g9
    rw [Int.toNat_natCast] at e0 e1 e2 e3 e4 e5 e6 e7 e8 e9
    have hd := deep_mem_S hmem
    have hok := okS'_parts (HP.out _ hmem)
    have hst := stI_lit l[i] m (HP.out _ hmem).1 (HP.out _ hmem).2 (by omega) hm2
    rw [stI_eq] at hS hst
    clear ex hmem
    generalize l[i] = z at *
    obtain ⟨s4, s5, ok6, ok7, ok8, ok9⟩ := hok
    have kd := deepS_kids z
    obtain ⟨q, hq⟩ : ∃ q, (z.f4.size : Int) / 20 = q := ⟨_, rfl⟩
    have hq0 : 0 ≤ q ∧ q ≤ 140737488351232 := by omega
    have hqt : (z.f4.size : Int).tdiv 20 = q := by rw [Int.tdiv_eq_ediv_of_nonneg (by omega)]; exact hq
    obtain ⟨n5, hn5⟩ : ∃ n : Nat, z.f5.length = n := ⟨_, rfl⟩
    obtain ⟨m2, hm2'⟩ : ∃ m2, m - 1 - q - (n5 : Int) = m2 := ⟨_, rfl⟩
    rw [hq, hn5, hm2'] at hS hst
    rw [hn5] at s5 e5
    have bm : -1125899906842624 ≤ m2 ∧ m2 ≤ 1125899906842624 := by omega
    obtain ⟨ra, hra⟩ : ∃ r, lightEs z.f6 m2 = r := ⟨_, rfl⟩
    have ba := lightEs_lit z.f6 m2 ok6 bm.1 bm.2
    rw [hra] at hS ba hst
    obtain ⟨rb, hrb⟩ : ∃ r, lightEs z.f7 ra = r := ⟨_, rfl⟩
    have bb := lightEs_lit z.f7 ra ok7 ba.2.1 (by have := ba.1; omega)
    rw [hrb] at hS bb hst
    have hrb2 : rb ≤ 1125899906842624 := by have := bb.1; have := ba.1; omega
    obtain ⟨rc, hrc⟩ : ∃ r, stIs z.f8 rb = r := ⟨_, rfl⟩
    have bc := stIs_lit z.f8 rb ok8 bb.2.1 hrb2
    rw [hrc] at hS bc hst
    have hrc2 : rc ≤ 1125899906842624 := by have := bc.1; omega
    obtain ⟨rd_, hrd⟩ : ∃ r, stIs z.f9 rc = r := ⟨_, rfl⟩
    rw [hrd] at hS hst
    have K6 := Lx.Hd.mk (fun W (hb : Below w.heap.size w W) => lightI_calls z.f6 m2 E6 x6 W (Kd.C_below g6 hb) k6 ok6 bm.1 bm.2 ra hra)
    have K7 := Lx.Hd.mk (fun W (hb : Below w.heap.size w W) => lightI_calls z.f7 ra E7 x7 W (Kd.C_below g7 hb) k7 ok7 ba.2.1 (by have := ba.1; omega) rb hrb)
    have K8 := Lx.Hd.mk (fun W (hb : Below w.heap.size w W) => IH.out z.f8 rb (by omega) ok8 bb.2.1 hrb2 E8 x8 W (Kd.C_below g8 hb) k8)
    have K9 := Lx.Hd.mk (fun W (hb : Below w.heap.size w W) => IH.out z.f9 rc (by omega) ok9 bc.2.1 hrc2 E9 x9 W (Kd.C_below g9 hb) k9)
    rw [hrc] at K8
    rw [hrd] at K9
    have w1 : IntKind.i64.wrap (m - 1) = m - 1 := wrap_in (by omega)
    have w2 : IntKind.i64.wrap q = q := wrap_in (by omega)
    have w3 : IntKind.i64.wrap (m - 1 - q) = m - 1 - q := wrap_in (by omega)
    have w4 : IntKind.i64.wrap (m - 1 - q - (n5 : Int)) = m2 := by rw [hm2']; exact wrap_in (by omega)
    have HST := Lx.Hd.mk hst
    have HM := Lx.Hd.mk (And.intro hm2 (And.intro bm hrb2))
    have HB := Lx.Hd.mk hB
    have HS := Lx.Hd.mk hS
    have HE := Lx.Hd.mk (And.intro e4 (And.intro e5 (And.intro e6 (And.intro e7 (And.intro e8 e9)))))
    have a4 := pw_cell_below hB e4
    have a5 := pw_cell_below hB e5
    have h0' : (0 : Int) ≤ m := by omega
    have h0'' : decide ((0 : Int) ≤ m) = true := decide_eq_true h0'
    have i1 : decide ((i : Int) < (l.length : Int)) = true := decide_eq_true (by omega)
    have i2 : decide (i < l.length) = true := decide_eq_true hlt
    clear hB hS hst ba bb bc bm hq hq0 hn5 hra hrb hrc hrd hm2' hrb2 hrc2 s4 s5 ok6 ok7 ok8 ok9 hd kd k5 g5 k6 g6 k7 g7 k8 g8 k9 g9 e0 e1 e2 e3 e4 e5 e6 e7 e8 e9 hm1 hm2 h0
    go_upto_region 4 with (fail)
    go_quiet (fail)
    clear w1 w2 w3 w4 a4 a5
    go_upto_region 5 with (fail)
    refine name_world fun W4 hW4 => ?_
    have HB4 : Lx.Hd (Below w.heap.size w W4) := Lx.Hd.mk (by rw [hW4]; exact pw_below_drewN HB.out _)
    clear hW4 HB
    have HB := HB4
    clear HB4
    have hu38 := Tryd.underlying38
    have HBd := Lx.Hd.mk (below_drew HB.out)
    refine start_ (n := 14) (S := fun w' => w'.cell? ⟨(ad.add (i * 10)).block, (ad.add (i * 10)).off + 7, none⟩ = some (.slice E7 z.f7.length x7) ∧ w'.cell? ⟨(ad.add (i * 10)).block, (ad.add (i * 10)).off + 6, none⟩ = some (.slice E6 z.f6.length x6)) (ds := []) (fl 14 0) (by kernel_rfl) rfl rfl ⟨pw_cell_below HBd.out HE.out.2.2.2.1, pw_cell_below HBd.out HE.out.2.2.1⟩ (fun hHeld => ?_)
    clear HB
    have HB := HBd
    clear HBd
    refine pu 0 (some 33) (fl 14 1) ?_
    refine pu 1 (some 34) (fl 14 3) ?_
    refine pu 2 (some 35) (fl 14 7) ?_
    refine pu 3 (some 36) (fl 14 15) ?_
    refine pu 5 (some 38) (fl 14 47) ?_
    refine pu 6 (some 39) (fl 14 111) ?_
    refine pu 7 (some 40) (fl 14 239) ?_
    refine pu 8 (some 41) (fl 14 495) ?_
    refine pu 10 (some 43) (fl 14 1519) ?_
    refine tk 4 (some 37) (fl 14 1535) hHeld (hr := by rintro w' ⟨s0, s1⟩; go_simp; with_reducible rfl) (h := ?_)
    refine tk 9 (some 42) (fl 14 2047) hHeld (hr := by rintro w' ⟨s0, s1⟩; go_simp; with_reducible rfl) (h := ?_)
    refine one_ (i := 11) (N := some 44) (fl 14 4095) rfl rfl (by kernel_rfl) (by decide) (fun K hK => ?_)
    refine goes_ Tryd.func58 (by kernel_rfl) rfl #[.slice E6 z.f6.length x6, .int .i64 m2] (by rfl) rfl rfl (by (try simp only [List.map_toArray, List.map_cons, List.map_nil]); first | done | rfl) ?_
    with_reducible refine (K6.out _ HB.out).mono ?_
    rintro r W3 ⟨rfl, hb⟩
    refine ⟨_, rfl, ?_⟩
    replace HB := bst HB hb
    clear hb
    refine hK.out _ _ ⟨pw_cell_below HB.out HE.out.2.2.2.1, pw_cell_below HB.out HE.out.2.2.1⟩ (fun hHeld => ?_)
    clear hK K
    refine norm_ (a' := ?_) ?_ ?_
    rotate_left; · (show Act.put _ (some 44) _ = _; simp only [Act.put, List.setIfInBounds_toArray, List.set_cons_zero, List.set_cons_succ, i64_w, i32_w]; rfl)
    refine one_ (i := 12) (N := some 45) (fl 14 8191) rfl rfl (by kernel_rfl) (by decide) (fun K hK => ?_)
    refine goes_ Tryd.func58 (by kernel_rfl) rfl #[.slice E7 z.f7.length x7, .int .i64 ra] (by rfl) rfl rfl (by (try simp only [List.map_toArray, List.map_cons, List.map_nil]); first | done | rfl) ?_
    with_reducible refine (K7.out _ HB.out).mono ?_
    rintro r W5 ⟨rfl, hb⟩
    refine ⟨_, rfl, ?_⟩
    replace HB := bst HB hb
    clear hb
    refine hK.out _ _ ⟨pw_cell_below HB.out HE.out.2.2.2.1, pw_cell_below HB.out HE.out.2.2.1⟩ (fun hHeld => ?_)
    clear hK K
    refine norm_ (a' := ?_) ?_ ?_
    rotate_left; · (show Act.put _ (some 45) _ = _; simp only [Act.put, List.setIfInBounds_toArray, List.set_cons_zero, List.set_cons_succ, i64_w, i32_w]; rfl)
    refine pu 13 (some 1) (fl 14 16383) ?_
    refine done_ (by kernel_rfl) ?_
    by_cases hr0 : rb < 0
    · have hr1 : ¬ (0 : Int) ≤ rb := by omega
      have hr2 : decide ((0 : Int) ≤ rb) = false := decide_eq_false hr1
      have hst := HST.out
      rw [if_pos hr0] at hst
      have hS := HS.out
      rw [if_pos hr0] at hS
      have HS2 := Lx.Hd.mk hS
      have HST2 := Lx.Hd.mk hst
      clear hS hst
      go_wp2
      exact ⟨⟨i + 1, rb, hlt, by go_num, rfl, HST2.out.2.1, HM.out.2.2, HS2.out, HB.out⟩, by simp [intOf]; omega⟩
    have hr1 : (0 : Int) ≤ rb := by omega
    have hr2 : decide ((0 : Int) ≤ rb) = true := decide_eq_true hr1
    have hst := HST.out
    rw [if_neg hr0] at hst
    have hS := HS.out
    rw [if_neg hr0] at hS
    have hrd2 : rd_ ≤ 1125899906842624 := by have := hst.1; have := HM.out.1; omega
    have HS2 := Lx.Hd.mk hS
    have HST2 := Lx.Hd.mk hst
    clear hS hst
    go_upto_region 7 with (fail)
    have HBd := Lx.Hd.mk (below_drew HB.out)
    refine start_ (n := 14) (S := fun w' => w'.cell? ⟨(ad.add (i * 10)).block, (ad.add (i * 10)).off + 9, none⟩ = some (.slice E9 z.f9.length x9) ∧ w'.cell? ⟨(ad.add (i * 10)).block, (ad.add (i * 10)).off + 8, none⟩ = some (.slice E8 z.f8.length x8)) (ds := []) (fl 14 0) (by kernel_rfl) rfl rfl ⟨pw_cell_below HBd.out HE.out.2.2.2.2.2, pw_cell_below HBd.out HE.out.2.2.2.2.1⟩ (fun hHeld => ?_)
    clear HB
    have HB := HBd
    clear HBd
    refine pu 0 (some 48) (fl 14 1) ?_
    refine pu 1 (some 49) (fl 14 3) ?_
    refine pu 2 (some 50) (fl 14 7) ?_
    refine pu 3 (some 51) (fl 14 15) ?_
    refine pu 5 (some 53) (fl 14 47) ?_
    refine pu 6 (some 54) (fl 14 111) ?_
    refine pu 7 (some 55) (fl 14 239) ?_
    refine pu 8 (some 56) (fl 14 495) ?_
    refine pu 10 (some 58) (fl 14 1519) ?_
    refine tk 4 (some 52) (fl 14 1535) hHeld (hr := by rintro w' ⟨s0, s1⟩; go_simp; with_reducible rfl) (h := ?_)
    refine tk 9 (some 57) (fl 14 2047) hHeld (hr := by rintro w' ⟨s0, s1⟩; go_simp; with_reducible rfl) (h := ?_)
    refine one_ (i := 11) (N := some 59) (fl 14 4095) rfl rfl (by kernel_rfl) (by decide) (fun K hK => ?_)
    refine goes_ Tryd.func60 (by kernel_rfl) rfl #[.slice E8 z.f8.length x8, .int .i64 rb] (by rfl) rfl rfl (by (try simp only [List.map_toArray, List.map_cons, List.map_nil]); first | done | rfl) ?_
    with_reducible refine (K8.out _ HB.out).mono ?_
    rintro r W3 ⟨rfl, hb⟩
    refine ⟨_, rfl, ?_⟩
    replace HB := bst HB hb
    clear hb
    refine hK.out _ _ ⟨pw_cell_below HB.out HE.out.2.2.2.2.2, pw_cell_below HB.out HE.out.2.2.2.2.1⟩ (fun hHeld => ?_)
    clear hK K
    refine norm_ (a' := ?_) ?_ ?_
    rotate_left; · (show Act.put _ (some 59) _ = _; simp only [Act.put, List.setIfInBounds_toArray, List.set_cons_zero, List.set_cons_succ, i64_w, i32_w]; rfl)
    refine one_ (i := 12) (N := some 60) (fl 14 8191) rfl rfl (by kernel_rfl) (by decide) (fun K hK => ?_)
    refine goes_ Tryd.func60 (by kernel_rfl) rfl #[.slice E9 z.f9.length x9, .int .i64 rc] (by rfl) rfl rfl (by (try simp only [List.map_toArray, List.map_cons, List.map_nil]); first | done | rfl) ?_
    with_reducible refine (K9.out _ HB.out).mono ?_
    rintro r W5 ⟨rfl, hb⟩
    refine ⟨_, rfl, ?_⟩
    replace HB := bst HB hb
    clear hb
    refine hK.out _ _ ⟨pw_cell_below HB.out HE.out.2.2.2.2.2, pw_cell_below HB.out HE.out.2.2.2.2.1⟩ (fun hHeld => ?_)
    clear hK K
    refine norm_ (a' := ?_) ?_ ?_
    rotate_left; · (show Act.put _ (some 60) _ = _; simp only [Act.put, List.setIfInBounds_toArray, List.set_cons_zero, List.set_cons_succ, i64_w, i32_w]; rfl)
    refine pu 13 (some 1) (fl 14 16383) ?_
    refine done_ (by kernel_rfl) ?_
    go_wp2
    exact ⟨⟨i + 1, rd_, hlt, by go_num, rfl, HST2.out.2.1, hrd2, HS2.out, HB.out⟩, by simp [intOf]; omega⟩
theorem stmts_any : ∀ (D : Nat) (l : List SS) (left : Int), deepSs l ≤ D → (∀ s ∈ l, okS' s) → -1125899906842624 ≤ left → left ≤ 1125899906842624 → StAt l left
  | 0, l, left, hD, _, _, _ => by
    cases l with
    | cons s l => rw [deepSs] at hD; obtain ⟨_, _, _, _, _, _, _, _, _, _⟩ := s; rw [deepS] at hD; omega
    | nil =>
      intro A c w hC hlc
      go_enter Tryd.func60, Tryd.ntmps60
      go_wp2
      go_loopw [1, 5] (fun t1 t5 wr => t1 = .int .i64 left ∧ t5 = .int .i64 0 ∧ Below w.heap.size w wr) (fun _ _ _ => 0)
      case atStart => exact ⟨rfl, rfl, Below.refl _ _⟩
      case round =>
        obtain ⟨rfl, rfl, hB⟩ := hrel
        have HB := Lx.Hd.mk hB
        clear hB
        go_wp2
        go_ret
        exact ⟨rfl, HB.out⟩
  | D + 1, l, left, hD, hP, h1, h2 => stmts_step D (stmts_any D) l left hD hP h1 h2
def CellsP (W : World) (b : Nat) (p : SP) (A1 A2 A3 : Option Addr) (c1 c2 c3 : Nat) : Prop := W.cell? ⟨b, 0, none⟩ = some (.int .i64 p.f0) ∧ W.cell? ⟨b, 1, none⟩ = some (.slice A1 p.f1.length c1) ∧ W.cell? ⟨b, 2, none⟩ = some (.slice A2 p.f2.length c2) ∧ W.cell? ⟨b, 3, none⟩ = some (.slice A3 p.f3.length c3)
theorem cellsP_of {W : World} {b : Nat} {p : SP} {A1 A2 A3 : Option Addr} {c1 c2 c3 : Nat} (h : W.heap[b]? = some (.cells #[.int .i64 p.f0, .slice A1 p.f1.length c1, .slice A2 p.f2.length c2, .slice A3 p.f3.length c3] 46 (0, 0))) : ∀ W', Below W.heap.size W W' → CellsP W' b p A1 A2 A3 c1 c2 c3 := fun W' hb => by
  have h' := heap_kept hb h
  refine ⟨?_, ?_, ?_, ?_⟩ <;> (unfold World.cell?; rw [h']; rfl)
def declI : List SD → Int → Int
  | [], left => left
  | d :: l, left => if left < 0 then left else declI l (stIs d.f5 (left - (d.f2.length : Int)))
def smallG (g : SG) : Bool := !decide ((g.f3.length : Int) > 300) && !decide ((g.f0.size : Int) > 100)
def lightPB (p : SP) : Bool := !decide ((p.f1.length : Int) > 200) && (!decide ((p.f2.length : Int) > 60) && (!decide ((p.f3.length : Int) > 100) && (p.f1.all smallG && decide ((0 : Int) ≤ declI p.f3 300))))
theorem declI_lit : ∀ (l : List SD) (left : Int), (∀ d ∈ l, wellD d) → -1125899906842624 ≤ left → left ≤ 1125899906842624 → Lit (declI l left) left (sizeDs l)
  | [], left, _, h1, _ => ⟨Int.le_refl _, h1, fun _ => by rw [declI, sizeDs]; omega⟩
  | d :: l, left, hP, h1, h2 => by
    rw [declI, sizeDs]
    by_cases h0 : left < 0
    · rw [if_pos h0]; exact ⟨Int.le_refl _, h1, fun h => by omega⟩
    · rw [if_neg h0]
      obtain ⟨_, _, hq, _, hs⟩ := hP d (List.mem_cons_self ..)
      obtain ⟨p1, p2, p3⟩ := stIs_lit d.f5 (left - (d.f2.length : Int)) hs (by omega) (by omega)
      obtain ⟨q1, q2, q3⟩ := declI_lit l _ (fun x hx => hP x (List.mem_cons_of_mem _ hx)) p2 (by omega)
      exact ⟨by omega, q2, fun h => by have := q3 h; have := p3 (by omega); omega⟩
theorem lightP_says (p : SP) (hw : wellP p) (h : lightPB p = true) : sizeDs p.f3 ≤ 300 ∧ p.f1.length ≤ 200 ∧ p.f2.length ≤ 60 ∧ p.f3.length ≤ 100 := by
  unfold lightPB at h
  simp only [Bool.and_eq_true, Bool.not_eq_true', decide_eq_false_iff_not, decide_eq_true_eq] at h
  obtain ⟨h1, h2, h3, _, h5⟩ := h
  obtain ⟨q1, q2, q3⟩ := declI_lit p.f3 300 hw.2.2.1 (by omega) (by omega)
  exact ⟨by have := q3 h5; omega, by omega, by omega, by omega⟩
set_option maxRecDepth 100000 in
set_option maxHeartbeats 8000000 in
theorem lightP_any (p : SP) (hW : wellP p) (A1 A2 A3 : Option Addr) (c1 c2 c3 : Nat) (w : World) (hR : RowsP w p A1 A2 A3 c1 c2 c3) :
    Calls Tryd.prog 32 #[.agg #[.int .i64 p.f0, .slice A1 p.f1.length c1, .slice A2 p.f2.length c2, .slice A3 p.f3.length c3], .int .i64 300] w fun e w' => e = .returned (.bool (lightPB p)) ∧ Below w.heap.size w w' := by
  have l1 : p.f1.length ≤ 9223372036854775807 := hR.1.2.1
  have l2 : p.f2.length ≤ 9223372036854775807 := hR.2.1.2.1
  have l3 : p.f3.length ≤ 9223372036854775807 := hR.2.2.1.2.1
  have HR := Lx.Hd.mk hR
  clear hR
  go_enter Tryd.func32, Tryd.ntmps32
  go_upto_region 1 with (fail)
  refine name_world fun W1 hW1 => ?_
  have HB0 : Lx.Hd (Below w.heap.size w W1) := Lx.Hd.mk (by rw [hW1]; exact below_alloc (Below.refl _ _) _)
  have hb1 : W1.heap[w.heap.size]? = some (.cells #[.int .i64 p.f0, .slice A1 p.f1.length c1, .slice A2 p.f2.length c2, .slice A3 p.f3.length c3] 46 (0, 0)) := by rw [hW1]; exact World.alloc_heap_new w _
  have BC1 := Lx.Hd.mk (cellsP_of hb1)
  have HR0 := Lx.Hd.mk (RowsP.below HR.out HB0.out)
  have HR1 := Lx.Hd.mk HR0.out.1
  have HR2 := Lx.Hd.mk HR0.out.2.1
  have HR3 := Lx.Hd.mk HR0.out.2.2.1
  have HC : Lx.Hd (Below W1.heap.size W1 W1) := Lx.Hd.mk (Below.refl _ _)
  clear hW1 hb1 HR
  generalize w.heap.size = bx at BC1 ⊢
  obtain ⟨p0, p1, p2, p3⟩ := BC1.out _ HC.out
  have HWP := Lx.Hd.mk hW
  clear hW
  by_cases y1 : p.f1.length > 200
  · have y1a : decide ((p.f1.length : Int) > 200) = true := decide_eq_true (by omega)
    have y1b : decide (200 < p.f1.length) = true := decide_eq_true (by omega)
    go_wp2
    go_ret
    exact ⟨Lx.ret_bool (by unfold lightPB; rw [decide_eq_true (show (p.f1.length : Int) > 200 by omega)]; rfl), HB0.out.trans (HC.out.mono HB0.out.size)⟩
  have y1a : decide ((p.f1.length : Int) > 200) = false := decide_eq_false (by omega)
  have y1b : decide (200 < p.f1.length) = false := decide_eq_false (by omega)
  by_cases y2 : p.f2.length > 60
  · have y2a : decide ((p.f2.length : Int) > 60) = true := decide_eq_true (by omega)
    have y2b : decide (60 < p.f2.length) = true := decide_eq_true (by omega)
    go_wp2
    go_ret
    exact ⟨Lx.ret_bool (by unfold lightPB; rw [y1a, decide_eq_true (show (p.f2.length : Int) > 60 by omega)]; rfl), HB0.out.trans (HC.out.mono HB0.out.size)⟩
  have y2a : decide ((p.f2.length : Int) > 60) = false := decide_eq_false (by omega)
  have y2b : decide (60 < p.f2.length) = false := decide_eq_false (by omega)
  by_cases y3 : p.f3.length > 100
  · have y3a : decide ((p.f3.length : Int) > 100) = true := decide_eq_true (by omega)
    have y3b : decide (100 < p.f3.length) = true := decide_eq_true (by omega)
    go_wp2
    go_ret
    exact ⟨Lx.ret_bool (by unfold lightPB; rw [y1a, y2a, decide_eq_true (show (p.f3.length : Int) > 100 by omega)]; rfl), HB0.out.trans (HC.out.mono HB0.out.size)⟩
  have y3a : decide ((p.f3.length : Int) > 100) = false := decide_eq_false (by omega)
  have y3b : decide (100 < p.f3.length) = false := decide_eq_false (by omega)
  have HY := Lx.Hd.mk (And.intro y1a (And.intro y2a y3a))
  go_wp2
  clear y1a y1b y2a y2b y3a y3b y1 y2 y3
  clear p0 p1 p2 p3
  go_loopw [6] (fun ts wr => ∃ i : Nat, i ≤ p.f1.length ∧ ts = .int .i64 i ∧ (p.f1.take i).all smallG = true ∧ Below W1.heap.size W1 wr) (fun ts _ => p.f1.length - (intOf ts).toNat)
  case atStart => exact ⟨0, Nat.zero_le _, rfl, rfl, HC.out⟩
  case round =>
    clear HC
    obtain ⟨i, hi, rfl, hS, hC⟩ := hrel
    obtain ⟨p0, p1, p2, p3⟩ := BC1.out _ hC
    by_cases hlt : i < p.f1.length
    · skip
      obtain ⟨ad, E3, x3, rfl, e0, e1, e2, e3, e4, k3, g3⟩ := at_T99 HR1.out i (by omega) (by omega)
      have ex : rd_T99 p.f1 i = p.f1[i] := by unfold rd_T99; rw [Int.toNat_natCast, List.getD_eq_getElem?_getD, List.getElem?_eq_getElem hlt]; rfl
      have hmem := List.getElem_mem hlt
      rw [ex] at e0 e1 e2 e3 e4 k3 g3
      rw [Int.toNat_natCast] at e0 e1 e2 e3 e4
      have hno : ∀ b, smallG p.f1[i] = b → b = false → p.f1.all smallG = false := fun b h h2 => all_no hlt (h.trans h2)
      have hyes : ∀ b, smallG p.f1[i] = b → b = true → (p.f1.take (i + 1)).all smallG = true := fun b h h2 => all_take_snoc hlt hS (h.trans h2)
      clear ex hS
      generalize p.f1[i] = z at *
      have a0 := pw_cell_below hC e0; have a1 := pw_cell_below hC e1; have a2 := pw_cell_below hC e2; have a3 := pw_cell_below hC e3; have a4 := pw_cell_below hC e4
      have HE : Lx.Hd (RowsG W1 z E3 x3) := Lx.Hd.mk (⟨g3, k3⟩)
      have HC := Lx.Hd.mk hC
      have HNO := Lx.Hd.mk hno
      have HYES := Lx.Hd.mk hyes
      have HMEM := Lx.Hd.mk hmem
      clear hC hno hyes hmem e0 e1 e2 e3 e4 k3 g3
      by_cases h1 : (z.f3.length : Int) > 300
      · have h1' : decide ((z.f3.length : Int) > 300) = true := decide_eq_true h1
        have h1'' : decide (300 < z.f3.length) = true := decide_eq_true (by omega)
        go_wp2
        go_ret
        exact ⟨Lx.ret_bool (by unfold lightPB; simp [HY.out.1, HNO.out false (by unfold smallG; rw [h1']; rfl) rfl]), HB0.out.trans (HC.out.mono HB0.out.size)⟩
      have h1' : decide ((z.f3.length : Int) > 300) = false := decide_eq_false h1
      have h1'' : decide (300 < z.f3.length) = false := decide_eq_false (by omega)
      by_cases h2 : (z.f0.size : Int) > 100
      · have h2' : decide ((z.f0.size : Int) > 100) = true := decide_eq_true h2
        have h2'' : decide (100 < z.f0.size) = true := decide_eq_true (by omega)
        go_wp2
        go_ret
        exact ⟨Lx.ret_bool (by unfold lightPB; simp [HY.out.1, HNO.out false (by unfold smallG; rw [h1', h2']; rfl) rfl]), HB0.out.trans (HC.out.mono HB0.out.size)⟩
      have h2' : decide ((z.f0.size : Int) > 100) = false := decide_eq_false h2
      have h2'' : decide (100 < z.f0.size) = false := decide_eq_false (by omega)
      go_wp2
      exact ⟨⟨i + 1, hlt, by go_num, HYES.out true (by unfold smallG; rw [h1', h2']; rfl) rfl, HC.out⟩, by simp [intOf]; omega⟩
    · have HC := Lx.Hd.mk hC
      have HALL1 := Lx.Hd.mk (all_full (show i = p.f1.length by omega) hS)
      clear hC hS hi
      go_wp2
      clear p0 p1 p2 p3
      go_loopw [5, 7] (fun t5 t7 wr => ∃ (i : Nat) (m : Int), i ≤ p.f3.length ∧ t7 = .int .i64 i ∧ t5 = .int .i64 m ∧ -1125899906842624 ≤ m ∧ m ≤ 1125899906842624 ∧ declI p.f3 300 = declI (p.f3.drop i) m ∧ Below W1.heap.size W1 wr) (fun _ t7 _ => p.f3.length - (intOf t7).toNat)
      case atStart => exact ⟨0, 300, Nat.zero_le _, rfl, rfl, by omega, by omega, rfl, HC.out⟩
      case round =>
        clear HC
        obtain ⟨i, m, hi, rfl, rfl, hm1, hm2, hS, hC⟩ := hrel
        obtain ⟨p0, p1, p2, p3⟩ := BC1.out _ hC
        by_cases hlt : i < p.f3.length
        rotate_left
        · have HC := Lx.Hd.mk hC
          have HS := Lx.Hd.mk hS
          clear hC hS
          go_wp2
          go_ret
          exact ⟨Lx.ret_bool (by unfold lightPB; rw [HY.out.1, HY.out.2.1, HY.out.2.2, HALL1.out, HS.out, show i = p.f3.length by omega, List.drop_length]; rfl), HB0.out.trans (HC.out.mono HB0.out.size)⟩
        rw [List.drop_eq_getElem_cons hlt, declI] at hS
        by_cases h0 : m < 0
        · rw [if_pos h0] at hS
          have HC := Lx.Hd.mk hC
          have HS := Lx.Hd.mk hS
          clear hC hS
          have h0' : ¬ (0 : Int) ≤ m := by omega
          have h0'' : decide ((0 : Int) ≤ m) = false := decide_eq_false h0'
          go_wp2
          go_ret
          exact ⟨Lx.ret_bool (by unfold lightPB; rw [HY.out.1, HY.out.2.1, HY.out.2.2, HALL1.out, HS.out, h0'']; rfl), HB0.out.trans (HC.out.mono HB0.out.size)⟩
        rw [if_neg h0] at hS
        obtain ⟨ad, E2, x2, E5, x5, rfl, e0, e1, e2, e3, e4, e5, e6, k2, g2, k5, g5⟩ := at_T49 HR3.out i (by omega) (by omega)
        have ex : rd_T49 p.f3 i = p.f3[i] := by unfold rd_T49; rw [Int.toNat_natCast, List.getD_eq_getElem?_getD, List.getElem?_eq_getElem hlt]; rfl
        have hmem := List.getElem_mem hlt
        rw [ex] at e0 e1 e2 e3 e4 e5 e6 k2 g2 k5 g5
        rw [Int.toNat_natCast] at e0 e1 e2 e3 e4 e5 e6
        have hwd := HWP.out.2.2.1 _ hmem
        clear ex hmem
        generalize p.f3[i] = z at *
        obtain ⟨_, _, hq2, _, hst⟩ := hwd
        obtain ⟨n2, hn2⟩ : ∃ n : Nat, z.f2.length = n := ⟨_, rfl⟩
        obtain ⟨m2, hm2'⟩ : ∃ m2, m - (n2 : Int) = m2 := ⟨_, rfl⟩
        rw [hn2] at hq2 e2
        rw [hn2, hm2'] at hS
        obtain ⟨rc, hrc⟩ : ∃ r, stIs z.f5 m2 = r := ⟨_, rfl⟩
        have bc := stIs_lit z.f5 m2 hst (by omega) (by omega)
        rw [hrc] at hS bc
        have hrc1 := bc.2.1
        have hrc2 : rc ≤ 1125899906842624 := by have := bc.1; omega
        have K5 := Lx.Hd.mk (fun W (hb : Below W1.heap.size W1 W) => stmts_any _ z.f5 m2 (Nat.le_refl _) hst (by omega) (by omega) E5 x5 W (Kd.C_below g5 hb) k5)
        rw [hrc] at K5
        have w1 : IntKind.i64.wrap (m - (n2 : Int)) = m2 := by rw [hm2']; exact wrap_in (by omega)
        have HM := Lx.Hd.mk (And.intro hrc1 hrc2)
        have HE := Lx.Hd.mk (And.intro e2 e5)
        have HC := Lx.Hd.mk hC
        have HS := Lx.Hd.mk hS
        have h0' : (0 : Int) ≤ m := by omega
        have h0'' : decide ((0 : Int) ≤ m) = true := decide_eq_true h0'
        have i1 : decide ((i : Int) < (p.f3.length : Int)) = true := decide_eq_true (by omega)
        have i2 : decide (i < p.f3.length) = true := decide_eq_true hlt
        clear hC hS bc hrc1 hrc2 hrc hm2' hn2 hq2 hst e0 e1 e2 e3 e4 e5 e6 k2 g2 k5 g5 hm1 hm2 h0
        have hu49 := Tryd.underlying49
        have hu46 := Tryd.underlying46
        go_upto_region 12 with (fail)
        clear p0 p1 p2 p3
        have HBd := Lx.Hd.mk (below_drew HC.out)
        refine start_ (n := 17) (S := fun w' => CellsP w' bx p A1 A2 (some ad) c1 c2 c3 ∧ w'.cell? ⟨(ad.add (i * 7)).block, (ad.add (i * 7)).off + 2, none⟩ = some (.slice E2 n2 x2) ∧ w'.cell? ⟨(ad.add (i * 7)).block, (ad.add (i * 7)).off + 5, none⟩ = some (.slice E5 z.f5.length x5)) (ds := []) (fl 17 0) (by kernel_rfl) rfl rfl ⟨BC1.out _ HBd.out, pw_cell_below HBd.out HE.out.1, pw_cell_below HBd.out HE.out.2⟩ (fun hHeld => ?_)
        clear HC
        have HC := HBd
        clear HBd
        refine pu 0 (some 61) (fl 17 1) ?_
        refine pu 2 (some 63) (fl 17 5) ?_
        refine pu 6 (some 67) (fl 17 69) ?_
        refine pu 7 (some 68) (fl 17 197) ?_
        refine pu 9 (some 70) (fl 17 709) ?_
        refine tk 1 (some 62) (fl 17 711) hHeld (hr := by rintro w' ⟨⟨s0, s1, s2, s3⟩, s4, s5⟩; go_simp; with_reducible rfl) (h := ?_)
        refine pu 3 (some 64) (fl 17 719) ?_
        refine pu 4 (some 65) (fl 17 735) ?_
        refine tk 5 (some 66) (fl 17 767) hHeld (hr := by rintro w' ⟨⟨s0, s1, s2, s3⟩, s4, s5⟩; go_simp; with_reducible rfl) (h := ?_)
        refine tk 8 (some 69) (fl 17 1023) hHeld (hr := by rintro w' ⟨⟨s0, s1, s2, s3⟩, s4, s5⟩; go_simp; with_reducible rfl) (h := ?_)
        refine pu 10 (some 71) (fl 17 2047) ?_
        refine pu 11 (some 72) (fl 17 4095) ?_
        refine tk 12 (some 73) (fl 17 8191) hHeld (hr := by rintro w' ⟨⟨s0, s1, s2, s3⟩, s4, s5⟩; go_simp; with_reducible rfl) (h := ?_)
        refine pu 13 (some 74) (fl 17 16383) ?_
        refine pu 14 (some 75) (fl 17 32767) ?_
        refine one_ (i := 15) (N := some 76) (fl 17 65535) rfl rfl (by kernel_rfl) (by decide) (fun K hK => ?_)
        refine goes_ Tryd.func60 (by kernel_rfl) rfl #[.slice E5 z.f5.length x5, .int .i64 m2] (by rfl) rfl rfl (by (try simp only [List.map_toArray, List.map_cons, List.map_nil]); first | done | rfl) ?_
        with_reducible refine (K5.out _ HC.out).mono ?_
        rintro r W3 ⟨rfl, hb⟩
        refine ⟨_, rfl, ?_⟩
        replace HC := bst HC hb
        clear hb
        refine hK.out _ _ ⟨BC1.out _ HC.out, pw_cell_below HC.out HE.out.1, pw_cell_below HC.out HE.out.2⟩ (fun hHeld => ?_)
        clear hK K
        refine norm_ (a' := ?_) ?_ ?_
        rotate_left; · (show Act.put _ (some 76) _ = _; simp only [Act.put, List.setIfInBounds_toArray, List.set_cons_zero, List.set_cons_succ, i64_w, i32_w]; rfl)
        refine pu 16 (some 5) (fl 17 131071) ?_
        refine done_ (by kernel_rfl) ?_
        go_wp2
        exact ⟨⟨i + 1, rc, hlt, by go_num, rfl, HM.out.1, HM.out.2, HS.out, HC.out⟩, by simp [intOf]; omega⟩
end Go.Proofs.YtgkhpecllhiidaaDoor.A
