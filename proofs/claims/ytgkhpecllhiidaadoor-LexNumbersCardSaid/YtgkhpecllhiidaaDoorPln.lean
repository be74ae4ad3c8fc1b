/- The plain law of LexNumbers. -/
import Derived.Test.YtgkhpecllhiidaaDoorPn
import Derived.Test.YtgkhpecllhiidaaDoorQxU
import Derived.DataShut
set_option linter.unusedVariables false
set_option linter.unusedSimpArgs false
namespace Go.Proofs.YtgkhpecllhiidaaDoor.Q
open Go.RowKit Go.Proofs.YtgkhpecllhiidaaDoorW.PrintWords Go.Proofs.YtgkhpecllhiidaaDoorW.PrintLast Go.Proofs.YtgkhpecllhiidaaDoorW.PrintMore
open Lx (letB digB wcB numAt lexAll toks Tk nscan numStop isHex numScan hexV)

abbrev decS : ByteArray := ⟨#[48, 49, 50, 51, 52, 53, 54, 55, 56, 57]⟩
abbrev hexS : ByteArray := ⟨#[48, 49, 50, 51, 52, 53, 54, 55, 56, 57, 97, 98, 99, 100, 101, 102]⟩
abbrev abcS : ByteArray := ⟨#[97, 98, 99, 100, 101, 102, 103, 104, 105, 106, 107, 108, 109, 110, 111, 112, 113, 114, 115, 116, 117, 118, 119, 120, 121, 122]⟩
theorem dec_piece : ∀ r : Nat, r < 10 → (decS.extract r (r + 1)).size = 1 ∧ dOk 10 (Lx.bt (decS.extract r (r + 1)) 0) = true ∧ hexV (Lx.bt (decS.extract r (r + 1)) 0) = (r : Int) := by decide +kernel
theorem hex_piece : ∀ r : Nat, r < 16 → (hexS.extract r (r + 1)).size = 1 ∧ dOk 16 (Lx.bt (hexS.extract r (r + 1)) 0) = true ∧ hexV (Lx.bt (hexS.extract r (r + 1)) 0) = (r : Int) := by decide +kernel
theorem abc_piece : ∀ r : Nat, r < 26 → (abcS.extract r (r + 1)).size = 1 ∧ letB (Lx.bt (abcS.extract r (r + 1)) 0) = true := by decide +kernel
/-- A value fed to a text of digits. -/
def feed (b : Int) (t : ByteArray) (v : Int) : Int := vfold t b 0 t.size v
theorem feed_cons (b : Int) (p t : ByteArray) (hp : p.size = 1) (v : Int) : feed b (p ++ t) v = feed b t (min (v * b + hexV (Lx.bt p 0)) 4294967296) := by
  unfold feed
  rw [ByteArray.size_append, vfold_app, hp, vfold_succ, vfold_zero]
theorem allD_one {b : Int} {p : ByteArray} (hp : p.size = 1) (h : dOk b (Lx.bt p 0) = true) : AllD b p := by
  intro q hq
  obtain rfl : q = 0 := by omega
  exact h
structure Digs (b : Int) (L : Nat) (n : Int) (d : ByteArray) : Prop where
  all : AllD b d
  pos : 0 < d.size
  len : d.size ≤ L
  val : val b d = n
theorem dec_loop (n L : Int) (h : ByteArray) : ∀ (m k X : Nat) (acc : ByteArray), X < 10 ^ m → X < 4294967296 → acc.size + m ≤ 10 → (0 < acc.size ∨ 0 < m) → AllD 10 acc → feed 10 acc (X : Int) = n →
    ∃ d k', k ≤ k' ∧ lamplighterlaw05_LexNumbers.l0 (k + m + 1) n L acc h (X : Int) = lamplighterlaw05_LexNumbers.l1 k' n L d h n ∧ Digs 10 10 n d := by
  intro m; induction m with
  | zero =>
    intro k X acc h1 h2 h3 h4 h5 h6
    obtain rfl : X = 0 := by simpa using h1
    have hne : ¬ (acc.toList = ([] : List UInt8)) := by
      intro e; have := Lx.blen acc; rw [e] at this; simp at this; omega
    refine ⟨acc, k, Nat.le_refl _, ?_, h5, by omega, by omega, h6⟩
    rw [lamplighterlaw05_LexNumbers.l0, if_neg (by omega), if_neg hne]
  | succ m ih =>
    intro k X acc h1 h2 h3 h4 h5 h6
    have hr : X % 10 < 10 := Nat.mod_lt _ (by omega)
    obtain ⟨p1, p2, p3⟩ := dec_piece (X % 10) hr
    have et : Int.tmod (X : Int) 10 = ((X % 10 : Nat) : Int) := rfl
    have ed : Int.tdiv (X : Int) 10 % 4294967296 = ((X / 10 : Nat) : Int) := by
      have : Int.tdiv (X : Int) 10 = ((X / 10 : Nat) : Int) := rfl
      rw [this]; omega
    have e1 : ((((X % 10 : Nat) : Int) + 1) % 4294967296).toNat = X % 10 + 1 := by omega
    have hs : (decS.extract (X % 10) (X % 10 + 1) ++ acc).size = acc.size + 1 := by rw [ByteArray.size_append, p1]; omega
    have hgo := ih k (X / 10) (decS.extract (X % 10) (X % 10 + 1) ++ acc) (by rw [Nat.pow_succ] at h1; omega) (by omega) (by omega) (.inl (by omega)) (allD_app (allD_one p1 p2) h5) (by
      rw [feed_cons 10 _ _ p1, p3]
      have : min (((X / 10 : Nat) : Int) * 10 + ((X % 10 : Nat) : Int)) 4294967296 = (X : Int) := by omega
      rw [this]; exact h6)
    by_cases hx : (X : Int) > 0
    · rw [show k + (m + 1) + 1 = (k + m + 1) + 1 from by omega, lamplighterlaw05_LexNumbers.l0, if_pos hx, et, if_pos (by omega), if_pos (by omega), if_pos (by omega), Int.toNat_natCast, e1, if_pos (by rw [p1]; omega), ed]
      exact hgo
    · by_cases he : acc.toList = ([] : List UInt8)
      · rw [show k + (m + 1) + 1 = (k + m + 1) + 1 from by omega, lamplighterlaw05_LexNumbers.l0, if_neg hx, if_pos he, et, if_pos (by omega), if_pos (by omega), if_pos (by omega), Int.toNat_natCast, e1, if_pos (by rw [p1]; omega), ed]
        exact hgo
      · obtain rfl : X = 0 := by omega
        have hpos : 0 < acc.size := by
          rcases Nat.eq_zero_or_pos acc.size with h0 | h0
          · exact absurd (Lx.nil_of acc h0) he
          · exact h0
        refine ⟨acc, k + (m + 1), by omega, ?_, h5, hpos, by omega, h6⟩
        rw [lamplighterlaw05_LexNumbers.l0, if_neg (by omega), if_neg he]
theorem hex_loop (n L : Int) (d : ByteArray) (hd : d.size ≤ 10) : ∀ (m k X : Nat) (acc : ByteArray), X < 16 ^ m → X < 4294967296 → acc.size + m ≤ 8 → (0 < acc.size ∨ 0 < m) → AllD 16 acc → feed 16 acc (X : Int) = n →
    ∃ h k', k ≤ k' ∧ lamplighterlaw05_LexNumbers.l1 (k + m + 1) n L d acc (X : Int) = lamplighterlaw05_LexNumbers.l2 k' n L d [d, (⟨#[48, 120]⟩ : ByteArray) ++ h, (⟨#[48, 48, 48]⟩ : ByteArray) ++ d, (⟨#[48, 120, 48, 48]⟩ : ByteArray) ++ h] 4 0 ∧ Digs 16 8 n h := by
  intro m; induction m with
  | zero =>
    intro k X acc h1 h2 h3 h4 h5 h6
    obtain rfl : X = 0 := by simpa using h1
    have hne : ¬ (acc.toList = ([] : List UInt8)) := by
      intro e; have := Lx.blen acc; rw [e] at this; simp at this; omega
    refine ⟨acc, k, Nat.le_refl _, ?_, h5, by omega, by omega, h6⟩
    rw [lamplighterlaw05_LexNumbers.l1, if_neg (by omega), if_neg hne, if_pos (by omega), if_pos (by omega), if_pos (by omega)]
    rfl
  | succ m ih =>
    intro k X acc h1 h2 h3 h4 h5 h6
    have hr : X % 16 < 16 := Nat.mod_lt _ (by omega)
    obtain ⟨p1, p2, p3⟩ := hex_piece (X % 16) hr
    have et : Int.tmod (X : Int) 16 = ((X % 16 : Nat) : Int) := rfl
    have ed : Int.tdiv (X : Int) 16 % 4294967296 = ((X / 16 : Nat) : Int) := by
      have : Int.tdiv (X : Int) 16 = ((X / 16 : Nat) : Int) := rfl
      rw [this]; omega
    have e1 : ((((X % 16 : Nat) : Int) + 1) % 4294967296).toNat = X % 16 + 1 := by omega
    have hs : (hexS.extract (X % 16) (X % 16 + 1) ++ acc).size = acc.size + 1 := by rw [ByteArray.size_append, p1]; omega
    have hgo := ih k (X / 16) (hexS.extract (X % 16) (X % 16 + 1) ++ acc) (by rw [Nat.pow_succ] at h1; omega) (by omega) (by omega) (.inl (by omega)) (allD_app (allD_one p1 p2) h5) (by
      rw [feed_cons 16 _ _ p1, p3]
      have : min (((X / 16 : Nat) : Int) * 16 + ((X % 16 : Nat) : Int)) 4294967296 = (X : Int) := by omega
      rw [this]; exact h6)
    by_cases hx : (X : Int) > 0
    · rw [show k + (m + 1) + 1 = (k + m + 1) + 1 from by omega, lamplighterlaw05_LexNumbers.l1, if_pos hx, et, if_pos (by omega), if_pos (by omega), if_pos (by omega), Int.toNat_natCast, e1, if_pos (by rw [p1]; omega), ed]
      exact hgo
    · by_cases he : acc.toList = ([] : List UInt8)
      · rw [show k + (m + 1) + 1 = (k + m + 1) + 1 from by omega, lamplighterlaw05_LexNumbers.l1, if_neg hx, if_pos he, et, if_pos (by omega), if_pos (by omega), if_pos (by omega), Int.toNat_natCast, e1, if_pos (by rw [p1]; omega), ed]
        exact hgo
      · obtain rfl : X = 0 := by omega
        have hpos : 0 < acc.size := by
          rcases Nat.eq_zero_or_pos acc.size with h0 | h0
          · exact absurd (Lx.nil_of acc h0) he
          · exact h0
        refine ⟨acc, k + (m + 1), by omega, ?_, h5, hpos, by omega, h6⟩
        rw [lamplighterlaw05_LexNumbers.l1, if_neg (by omega), if_neg he, if_pos (by omega), if_pos (by omega), if_pos (by omega)]
        rfl
theorem lex_All_one (y : ByteArray) (n : Int) (hy : y.size ≤ 65536) (h : lexAll y = ([⟨3, y, 1, 1, n⟩], none)) : lex_All.f y = some ([⟨3, y, 1, 1, n⟩], 0, 0, 0) := by
  unfold lex_All.f
  rw [if_pos hy, h]; rfl
theorem lex_All_bad (y : ByteArray) (hy : y.size ≤ 65536) (h : lexAll y = ([], some (1, 1))) : lex_All.f y = some ([], 11, 1, 1) := by
  unfold lex_All.f
  rw [if_pos hy, h]; rfl
theorem l2_step (n L : Int) (d : ByteArray) (ys : List ByteArray) (i k : Nat) (hi : i < ys.length) (hl : ys.length = 4) (h : lex_All.f ys[i] = some ([⟨3, ys[i], 1, 1, n⟩], 0, 0, 0)) :
    lamplighterlaw05_LexNumbers.l2 (k + 1) n L d ys 4 (i : Int) = lamplighterlaw05_LexNumbers.l2 k n L d ys 4 ((i + 1 : Nat) : Int) := by
  have hr : rdOf ByteArray.empty ys (i : Int) = ys[i] := by
    unfold rdOf
    rw [Int.toNat_natCast, List.getD_eq_getElem?_getD, List.getElem?_eq_getElem hi]; rfl
  have h0 : rd_T59 [(⟨3, ys[i], 1, 1, n⟩ : S59)] 0 = ⟨3, ys[i], 1, 1, n⟩ := rfl
  rw [lamplighterlaw05_LexNumbers.l2, if_pos (by omega), if_pos (by omega), if_pos (by omega), hr, h, Option.bind_some, if_neg (by simp), if_pos (by simp), if_pos (by simp), h0, if_neg (by simp), w64 i (by omega)]
theorem num_letter (d p : ByteArray) (hd : AllD 10 d) (hpos : 0 < d.size) (hp : p.size = 1) (hl : letB (Lx.bt p 0) = true) : numAt (d ++ p) 0 = none := by
  have hsz : (d ++ p).size = d.size + 1 := by rw [ByteArray.size_append, hp]
  have hc : Lx.bt (d ++ p) d.size = Lx.bt p 0 := by have := bt_app d p 0; rwa [Nat.add_zero] at this
  unfold numAt numScan
  cases hx : isHex (d ++ p) 0
  · simp only [Bool.false_eq_true, if_false]
    have hr := nscan_run (d ++ p) 10 d.size ((d ++ p).size + 3) 0 0 0 (by omega) (fun q hq => by rw [Nat.zero_add, bt_app_left d p q hq]; exact hd q hq) (by
      rw [Nat.zero_add, hc, dOk_ten]
      cases hg : digB (Lx.bt p 0)
      · rfl
      · rw [dig_not_let hg] at hl; cases hl)
    rw [hr]
    have : numStop (d ++ p) (0 + d.size, 0 + (d.size : Int), vfold (d ++ p) 10 0 d.size 0) = true := by
      unfold numStop
      simp only
      rw [Nat.zero_add, hc, hl]; simp
    rw [this]; rfl
  · simp only [if_true]
    have h120 : Lx.bt (d ++ p) 1 = 120 := by
      unfold isHex at hx
      rw [Bool.and_eq_true, beq_iff_eq, beq_iff_eq] at hx
      exact hx.2
    have h1 : d.size = 1 := by
      rcases Nat.lt_or_ge 1 d.size with h | h
      · have := hd 1 h
        rw [← bt_app_left d p 1 h, h120] at this
        exact absurd this (by decide)
      · omega
    have h2 : Lx.bt (d ++ p) 2 = 0 := Lx.bt_out _ _ (by omega)
    have hr := nscan_run (d ++ p) 16 0 ((d ++ p).size + 3) 2 0 0 (by omega) (fun q hq => by omega) (by rw [Nat.add_zero, h2]; exact dok_zero 16 (.inr rfl))
    rw [Nat.zero_add, hr]
    have : numStop (d ++ p) (2 + 0, 0 + ((0 : Nat) : Int), vfold (d ++ p) 16 2 0 0) = true := by simp [numStop]
    rw [this]; rfl
abbrev bigS : ByteArray := ⟨#[49, 48, 48, 48, 48, 48, 48, 48, 48, 48, 48]⟩
theorem big_all : AllD 10 bigS := by
  have : ∀ q : Nat, q < 11 → dOk 10 (Lx.bt bigS q) = true := by decide +kernel
  exact this
theorem big_val : vfold bigS 10 0 bigS.size 0 = 4294967296 := by decide +kernel
theorem ar26 (r : Nat) (h : r < 26) : (0 : Int) ≤ (r : Int) ∧ (r : Int) ≤ wrap64 ((r : Int) + 1) ∧ wrap64 ((r : Int) + 1) ≤ 26 ∧ (wrap64 ((r : Int) + 1)).toNat = r + 1 := by
  rw [w64 r (by omega)]; omega
/-- What follows the four texts. -/
theorem ln_last (n L : Int) (d : ByteArray) (ys : List ByteArray) (r : Nat) (hr : r < 26) (hpick : lamplighterkit_Pick.f L 26 = some (r : Int)) (hd : d.size ≤ 10) (b1 : lex_All.f (d ++ abcS.extract r (r + 1)) = some ([], 11, 1, 1)) (b2 : lex_All.f (bigS ++ d) = some ([], 11, 1, 1)) (q1 : Aside0 ((abcS.extract r (r + 1)).size = 1)) (k : Nat) :
    lamplighterlaw05_LexNumbers.l2 (k + 1) n L d ys 4 ((4 : Nat) : Int) = some true := by
  obtain ⟨c1, c2, c3, c4⟩ := ar26 r hr
  rw [lamplighterlaw05_LexNumbers.l2, if_neg (by decide), hpick, Option.bind_some, if_pos c1, if_pos c2, if_pos c3, c4, Int.toNat_natCast, q1.out, if_pos (Nat.le_trans (Nat.add_le_add_right hd 1) (by decide)), b1, Option.bind_some, if_pos (Nat.le_trans (Nat.add_le_add_left hd 11) (by decide)), b2, Option.bind_some]
  rfl
theorem num_big (d : ByteArray) (hd : AllD 10 d) : numAt (bigS ++ d) 0 = none := by
  have ha := allD_app big_all hd
  have hr := nscan_run (bigS ++ d) 10 (bigS ++ d).size ((bigS ++ d).size + 3) 0 0 0 (by omega) (fun q hq => by rw [Nat.zero_add]; exact ha q hq) (by rw [Nat.zero_add, Lx.bt_out _ _ (Nat.le_refl _)]; exact dok_zero 10 (.inl rfl))
  have hv : vfold (bigS ++ d) 10 0 (bigS ++ d).size 0 = 4294967296 := by
    rw [ByteArray.size_append, vfold_app, big_val]
    exact vfold_top d 10 (by omega) d.size 0
  unfold numAt numScan
  rw [not_hex_of _ ha]
  simp only [Bool.false_eq_true, if_false]
  rw [hr, hv]
  have : numStop (bigS ++ d) (0 + (bigS ++ d).size, 0 + ((bigS ++ d).size : Int), 4294967296) = true := by simp [numStop]
  rw [this]; rfl
theorem first_dig {d : ByteArray} (hd : AllD 10 d) (hpos : 0 < d.size) : digB (Lx.bt d 0) = true := by have := hd 0 hpos; rwa [dOk_ten] at this
theorem zeros_val (z d : ByteArray) (b : Int) (h : vfold z b 0 z.size 0 = 0) : val b (z ++ d) = val b d := by
  unfold val
  rw [ByteArray.size_append, vfold_app, h]
theorem pick_range (L : Int) (w : (Lit.int .i64 L).wf = true) : ∃ r : Nat, r < 26 ∧ lamplighterkit_Pick.f L 26 = some (r : Int) := by
  unfold lamplighterkit_Pick.f
  rw [if_neg (by omega), if_neg (by omega)]
  have h1 := Int.tmod_lt_of_pos L (show (0 : Int) < 26 by omega)
  have h2 : -26 < Int.tmod L 26 := Int.lt_tmod_of_pos L (by omega)
  by_cases h : Int.tmod L 26 < 0
  · rw [if_pos h, w64a _ (by omega)]
    exact ⟨(Int.tmod L 26 + 26).toNat, by omega, by congr 1; omega⟩
  · rw [if_neg h]
    exact ⟨(Int.tmod L 26).toNat, by omega, by congr 1; omega⟩
theorem lexNumbers_pure : lamplighterlaw05_LexNumbers.Pure := by
  intro n L wn wL
  have hn : 0 ≤ n ∧ n < 4294967296 := by
    obtain ⟨h1, h2⟩ := (Lit.wf_int_iff .u32 n).1 wn
    have e1 : IntKind.u32.min = 0 := rfl
    have e2 : IntKind.u32.max = 4294967295 := by decide +kernel
    rw [e1] at h1; rw [e2] at h2
    omega
  obtain ⟨N, rfl⟩ := Int.eq_ofNat_of_zero_le hn.1
  refine ⟨100, ?_⟩
  unfold lamplighterlaw05_LexNumbers.f
  rw [lives_any 100 (by omega), Option.bind_some, if_pos rfl]
  have h0 : AllD 10 (⟨#[]⟩ : ByteArray) := fun q hq => absurd hq (Nat.not_lt_zero q)
  have h0' : AllD 16 (⟨#[]⟩ : ByteArray) := fun q hq => absurd hq (Nat.not_lt_zero q)
  obtain ⟨d, k1, hk1, e1, D⟩ := dec_loop (N : Int) L ⟨#[]⟩ 10 89 N ⟨#[]⟩ (by omega) (by omega) (by decide) (.inr (by omega)) h0 rfl
  have e1' : lamplighterlaw05_LexNumbers.l0 100 (N : Int) L ⟨#[]⟩ ⟨#[]⟩ (N : Int) = _ := e1
  rw [e1']
  obtain ⟨k2, rfl⟩ : ∃ k2, k1 = k2 + 8 + 1 := ⟨k1 - 9, by omega⟩
  obtain ⟨h, k3, hk3, e2, H⟩ := hex_loop (N : Int) L d D.len 8 k2 N ⟨#[]⟩ (by omega) (by omega) (by decide) (.inr (by omega)) h0' rfl
  rw [e2]
  obtain ⟨k, rfl⟩ : ∃ k, k3 = k + 1 + 1 + 1 + 1 + 1 := ⟨k3 - 5, by omega⟩
  have hN : (N : Int) < 4294967296 := hn.2
  have hz3 : AllD 10 (⟨#[48, 48, 48]⟩ : ByteArray) := by
    have : ∀ q : Nat, q < 3 → dOk 10 (Lx.bt (⟨#[48, 48, 48]⟩ : ByteArray) q) = true := by decide +kernel
    exact this
  have hz2 : AllD 16 (⟨#[48, 48]⟩ : ByteArray) := by
    have : ∀ q : Nat, q < 2 → dOk 16 (Lx.bt (⟨#[48, 48]⟩ : ByteArray) q) = true := by decide +kernel
    exact this
  have s3 : ((⟨#[48, 48, 48]⟩ : ByteArray) ++ d).size = 3 + d.size := by rw [ByteArray.size_append]; rfl
  have s2 : ((⟨#[48, 120]⟩ : ByteArray) ++ h).size = 2 + h.size := by rw [ByteArray.size_append]; rfl
  have s4 : ((⟨#[48, 48]⟩ : ByteArray) ++ h).size = 2 + h.size := by rw [ByteArray.size_append]; rfl
  have e4 : (⟨#[48, 120, 48, 48]⟩ : ByteArray) ++ h = (⟨#[48, 120]⟩ : ByteArray) ++ ((⟨#[48, 48]⟩ : ByteArray) ++ h) := ext_list (by rw [ba_append, ba_append, ba_append]; rfl)
  have v3 : val 10 ((⟨#[48, 48, 48]⟩ : ByteArray) ++ d) = N := by rw [zeros_val _ _ _ (by decide +kernel), D.val]
  have v4 : val 16 ((⟨#[48, 48]⟩ : ByteArray) ++ h) = N := by rw [zeros_val _ _ _ (by decide +kernel), H.val]
  have hexd : ∀ t : ByteArray, digB (Lx.bt ((⟨#[48, 120]⟩ : ByteArray) ++ t) 0) = true := by
    intro t; rw [bt_app_left _ _ _ (by decide)]; decide +kernel
  have hD := D.len
  have hH := H.len
  have hDp := D.pos
  have hHp := H.pos
  have a1 : lex_All.f d = some ([⟨3, d, 1, 1, N⟩], 0, 0, 0) := lex_All_one d N (by omega) (lex_number d N (by omega) D.pos (first_dig D.all D.pos) (by rw [num_dec d D.pos D.all (by rw [D.val]; exact hN), D.val]))
  have a2 : lex_All.f ((⟨#[48, 120]⟩ : ByteArray) ++ h) = some ([⟨3, (⟨#[48, 120]⟩ : ByteArray) ++ h, 1, 1, N⟩], 0, 0, 0) := lex_All_one _ N (by omega) (lex_number _ N (by omega) (by omega) (hexd h) (by rw [num_hex h H.pos H.all (by rw [H.val]; exact hN), H.val]))
  have a3 : lex_All.f ((⟨#[48, 48, 48]⟩ : ByteArray) ++ d) = some ([⟨3, (⟨#[48, 48, 48]⟩ : ByteArray) ++ d, 1, 1, N⟩], 0, 0, 0) := lex_All_one _ N (by omega) (lex_number _ N (by omega) (by omega) (first_dig (allD_app hz3 D.all) (by omega)) (by rw [num_dec _ (by omega) (allD_app hz3 D.all) (by rw [v3]; exact hN), v3]))
  have a4 : lex_All.f ((⟨#[48, 120, 48, 48]⟩ : ByteArray) ++ h) = some ([⟨3, (⟨#[48, 120, 48, 48]⟩ : ByteArray) ++ h, 1, 1, N⟩], 0, 0, 0) := by
    rw [e4]
    have s5 : ((⟨#[48, 120]⟩ : ByteArray) ++ ((⟨#[48, 48]⟩ : ByteArray) ++ h)).size = 4 + h.size := by rw [ByteArray.size_append, s4, ← Nat.add_assoc]; rfl
    exact lex_All_one _ N (by omega) (lex_number _ N (by omega) (by omega) (hexd _) (by rw [num_hex _ (by omega) (allD_app hz2 H.all) (by rw [v4]; exact hN), v4]))
  generalize hys : [d, (⟨#[48, 120]⟩ : ByteArray) ++ h, (⟨#[48, 48, 48]⟩ : ByteArray) ++ d, (⟨#[48, 120, 48, 48]⟩ : ByteArray) ++ h] = ys
  have hl : ys.length = 4 := by rw [← hys]; rfl
  have g0 : lex_All.f (ys[0]'(by omega)) = some ([⟨3, ys[0]'(by omega), 1, 1, (N : Int)⟩], 0, 0, 0) := by subst hys; exact a1
  have g1 : lex_All.f (ys[1]'(by omega)) = some ([⟨3, ys[1]'(by omega), 1, 1, (N : Int)⟩], 0, 0, 0) := by subst hys; exact a2
  have g2 : lex_All.f (ys[2]'(by omega)) = some ([⟨3, ys[2]'(by omega), 1, 1, (N : Int)⟩], 0, 0, 0) := by subst hys; exact a3
  have g3 : lex_All.f (ys[3]'(by omega)) = some ([⟨3, ys[3]'(by omega), 1, 1, (N : Int)⟩], 0, 0, 0) := by subst hys; exact a4
  show lamplighterlaw05_LexNumbers.l2 _ _ _ _ _ _ ((0 : Nat) : Int) = _
  rw [l2_step N L d ys 0 _ (by omega) hl g0, l2_step N L d ys 1 _ (by omega) hl g1, l2_step N L d ys 2 _ (by omega) hl g2, l2_step N L d ys 3 _ (by omega) hl g3]
  obtain ⟨r, hr, hpick⟩ := pick_range L wL
  obtain ⟨q1, q2⟩ := abc_piece r hr
  have b1 : lex_All.f (d ++ abcS.extract r (r + 1)) = some ([], 11, 1, 1) := by
    have hsz : (d ++ abcS.extract r (r + 1)).size = d.size + 1 := by rw [ByteArray.size_append, q1]
    exact lex_All_bad _ (by omega) (lex_no_number _ (by omega) (by omega) (by rw [bt_app_left _ _ _ D.pos]; exact first_dig D.all D.pos) (num_letter d _ D.all D.pos q1 q2))
  have b2 : lex_All.f (bigS ++ d) = some ([], 11, 1, 1) := by
    have hsz : (bigS ++ d).size = 11 + d.size := by rw [ByteArray.size_append]; rfl
    exact lex_All_bad _ (by omega) (lex_no_number _ (by omega) (by omega) (first_dig (allD_app big_all D.all) (by omega)) (num_big d D.all))
  exact ln_last N L d ys r hr hpick hD b1 b2 ⟨q1⟩ k
end Go.Proofs.YtgkhpecllhiidaaDoor.Q
