/- Plain laws of the reference of chapter 5: all tokens. -/
import Derived.Test.YtgkhpecllhiidaaDoorPe
set_option linter.unusedVariables false
set_option linter.unusedSimpArgs false
namespace Go.Proofs.YtgkhpecllhiidaaDoor.Q
open Go.RowKit Go.Proofs.YtgkhpecllhiidaaDoorW.PrintWords Go.Proofs.YtgkhpecllhiidaaDoorW.PrintLast Go.Proofs.YtgkhpecllhiidaaDoorW.PrintMore
open Lx (letB digB wcB allW kindOf isKey keyList hexOk hexV nscan numStop isHex numScan numAt wscan wordLen signLen adv betw comLen isCom blankB nlC lexStep lexFrom lexAll toks Tk LexR)

theorem adv_flat (s : ByteArray) (i : Nat) (lc : Int × Int) : ∀ n : Nat, (∀ m, m < n → Lx.bt s (i + m) ≠ 10) → adv s i lc n = (lc.1, lc.2 + n) := by
  intro n; induction n with
  | zero => intro _; simp [adv]
  | succ n ih =>
    intro h
    rw [adv, ih (fun m hm => h m (by omega))]
    simp only
    rw [if_neg (h n (by omega))]
    simp only [Prod.mk.injEq, true_and]
    push_cast; omega
theorem wc_ten {c : Int} (h : wcB c = true) : c ≠ 10 := by intro e; subst e; revert h; decide
theorem e_byte (c z : UInt8) : ((c.toNat : Int) == (z.toNat : Int)) = (z == c) := by
  rw [Bool.eq_iff_iff, beq_iff_eq, beq_iff_eq]
  constructor
  · intro e; exact UInt8.toNat_inj.1 (by omega)
  · intro e; rw [e]
theorem hp_com (s : ByteArray) (i : Nat) (h : i < s.size) : hp (s.extract i s.size) ⟨#[47, 47]⟩ = isCom s i := by
  rw [hp_list, extract_end]
  cases hd : s.data.toList.drop i with
  | nil => have := congrArg List.length hd; simp at this; omega
  | cons c0 r =>
    have g0 := bt_head hd
    have hh : isCom s i = ((47 == c0) && (Lx.bt s (i + 1) == 47)) := by
      unfold isCom; rw [g0]
      show (((c0.toNat : Int) == ((47 : UInt8).toNat : Int)) && _) = _
      rw [e_byte]
    cases r with
    | nil =>
      have h2 : Lx.bt s (i + 1) = 0 := Lx.bt_out _ _ (by have := congrArg List.length hd; simp at this; omega)
      rw [hh, h2]; simp [List.isPrefixOf]
    | cons c1 r =>
      have g1 := bt_head (drop_succ hd)
      rw [hh, g1]
      show _ = (_ && ((c1.toNat : Int) == ((47 : UInt8).toNat : Int)))
      rw [e_byte]; simp [List.isPrefixOf]
theorem com_run (s : ByteArray) (i : Nat) (h : i < s.size) (hc : Lx.bt s i ≠ 10) : (∀ m, m < comLen s i → Lx.bt s (i + m) ≠ 10) ∧ (i + comLen s i < s.size → Lx.bt s (i + comLen s i) = 10) := by
  have hr := Lx.nlC_range s i h hc
  have hno : ∀ m, (s.data.toList.drop i)[m]? ≠ some 10 → Lx.bt s (i + m) ≠ 10 := by
    intro m hm e
    apply hm
    rw [List.getElem?_drop]
    rw [Lx.bt_list, List.getD_eq_getElem?_getD] at e
    cases hg : s.data.toList[i + m]? with
    | none => rw [hg] at e; simp at e
    | some b =>
      rw [hg] at e
      simp at e
      congr 1
      exact UInt8.toNat_inj.1 (by have : b.toNat = 10 := by omega
                                  rw [this]; rfl)
  unfold comLen
  split
  · rename_i hn
    have h1 : Lib.indexByte (s.data.toList.drop i) 10 = -1 := by
      have : nlC (s.extract i s.size) = -1 := by omega
      unfold nlC at this; rwa [extract_end] at this
    exact ⟨fun m hm => hno m (Lib.indexByte_none h1 m), fun h' => by omega⟩
  · rename_i hn
    obtain ⟨o, ho⟩ := Int.eq_ofNat_of_zero_le (by omega : 0 ≤ nlC (s.extract i s.size))
    have h1 : Lib.indexByte (s.data.toList.drop i) 10 = (o : Int) := by
      unfold nlC at ho; rwa [extract_end] at ho
    rw [ho, Int.toNat_natCast]
    exact ⟨fun m hm => hno m ((Lib.indexByte_some h1).2 m hm), fun _ => (Lx.nlC_some s i o (by omega) ho).2⟩

def outOf (R : LexR) : List S59 × Int × Int × Int := ((toks R).map s59, faultOf R)
/-- A token's shape, in the reference's terms: its length. -/
structure TokOk (s : ByteArray) (i n : Nat) (kind : Int) (num : Int) : Prop where
  res : tokRes s i = (kind, s.extract i (i + n), 0, 0, num)
  kind : kind ≠ 0
  pos : 0 < n
  fit : i + n ≤ s.size
  flat : ∀ m, m < n → Lx.bt s (i + m) ≠ 10
theorem tok_word (s : ByteArray) (i : Nat) (hl : letB (Lx.bt s i) = true) : TokOk s i (wordLen s i) (kindOf (s.extract i (i + wordLen s i))) 0 := by
  have R := run_at s i (by unfold wcB; rw [hl]; rfl)
  generalize hn : wordLen s i = n at *
  refine ⟨by unfold tokRes; rw [if_pos hl, hn], ?_, R.pos, R.fit, fun m hm => wc_ten (R.all m hm)⟩
  have hsz : (s.extract i (i + n)).size = n := by have := R.fit; simp; omega
  have h0 : letB (Lx.bt (s.extract i (i + n)) 0) = true := by rw [bt_piece s i n 0 R.fit R.pos]; exact hl
  have ha : ∀ m, m ≤ n → allW (s.extract i (i + n)) m = true := by
    intro m; induction m with
    | zero => intro _; rfl
    | succ m ih => intro h; simp only [allW]; rw [ih (by omega), bt_piece s i n m R.fit (by omega), R.all m (by omega)]; rfl
  have hp := R.pos
  rw [Lx.kind_all _ (by omega) h0 (by rw [hsz]; exact ha n (Nat.le_refl _))]
  split <;> omega
theorem dig_wc {c : Int} (h : digB c = true) : wcB c = true := by unfold wcB; rw [h, Bool.or_true]
theorem dig_not_let {c : Int} (hd : digB c = true) : letB c = false := by
  have hc : 48 ≤ c ∧ c ≤ 57 := by simpa [digB] using hd
  have h1 : decide (97 ≤ c) = false := by rw [decide_eq_false_iff_not]; omega
  have h2 : (c == 95) = false := by rw [beq_eq_false_iff_ne]; omega
  simp [letB, h1, h2]
theorem num_len {s : ByteArray} {i : Nat} (hs : s.size < 9223372036854775000) (hd : digB (Lx.bt s i) = true) {nv : Nat × Int} (h : numAt s i = some nv) : nv.1 = wordLen s i := by
  have R := run_at s i (dig_wc hd)
  obtain ⟨v, b, _, h2⟩ := number_at s i _ hs R (2 * wordLen s i + 10) (by omega)
  rw [h] at h2
  split at h2
  · rw [Option.some.inj h2]
  · cases h2
theorem tok_num (s : ByteArray) (i : Nat) (hs : s.size < 9223372036854775000) (hd : digB (Lx.bt s i) = true) (nv : Nat × Int) (h : numAt s i = some nv) : TokOk s i nv.1 3 nv.2 := by
  have R := run_at s i (dig_wc hd)
  rw [num_len hs hd h]
  refine ⟨?_, by omega, R.pos, R.fit, fun m hm => wc_ten (R.all m hm)⟩
  unfold tokRes
  rw [if_neg (by rw [dig_not_let hd]; simp), if_pos hd, h]
  simp only
  rw [num_len hs hd h]
theorem pair_ten {a b : UInt8} (h : pairOk a b = true) : a ≠ 10 ∧ b ≠ 10 := by
  unfold pairOk at h
  simp only [Bool.or_eq_true, Bool.and_eq_true, beq_iff_eq] at h
  rcases h with ((((⟨rfl, rfl⟩ | ⟨rfl, rfl⟩) | ⟨rfl, rfl⟩) | ⟨rfl, rfl⟩) | ⟨rfl, rfl⟩) | ⟨rfl, rfl⟩ <;> exact ⟨by decide, by decide⟩
theorem nat_ten {c : UInt8} (h : c ≠ 10) : (c.toNat : Int) ≠ 10 := by
  intro e; apply h
  have : c.toNat = 10 := by omega
  exact UInt8.toNat_inj.1 (by rw [this]; rfl)
theorem sign_flat (s : ByteArray) (i : Nat) (hi : i < s.size) (h0 : signLen s i ≠ 0) : i + signLen s i ≤ s.size ∧ ∀ m, m < signLen s i → Lx.bt s (i + m) ≠ 10 := by
  unfold signLen at h0 ⊢
  cases h2 : Lx.two s i
  · rw [h2] at h0
    simp only [Bool.false_eq_true, if_false] at h0 ⊢
    cases h1 : Lx.one (Lx.bt s i)
    · rw [h1] at h0; simp at h0
    · simp only [if_true]
      refine ⟨by omega, fun m hm => ?_⟩
      obtain rfl : m = 0 := by omega
      rw [Nat.add_zero]
      intro e; rw [e] at h1; revert h1; decide
  · simp only [if_true]
    have hl : i + 2 ≤ s.size := by
      unfold Lx.two at h2
      simp only [Bool.and_eq_true, decide_eq_true_eq] at h2
      exact h2.1.1.1
    refine ⟨hl, ?_⟩
    cases hd : s.data.toList.drop i with
    | nil => have := congrArg List.length hd; simp at this; omega
    | cons c0 r =>
      cases r with
      | nil => have := congrArg List.length hd; simp at this; omega
      | cons c1 r =>
        rw [two_eq s i c0 c1 r hd] at h2
        obtain ⟨ha, hb⟩ := pair_ten h2
        intro m hm
        rcases (by omega : m = 0 ∨ m = 1) with rfl | rfl
        · rw [Nat.add_zero, bt_head hd]; exact nat_ten ha
        · rw [bt_head (drop_succ hd)]; exact nat_ten hb
theorem tok_sign (s : ByteArray) (i : Nat) (hi : i < s.size) (hl : letB (Lx.bt s i) = false) (hd : digB (Lx.bt s i) = false) (h0 : signLen s i ≠ 0) : TokOk s i (signLen s i) 4 0 := by
  obtain ⟨h1, h2⟩ := sign_flat s i hi h0
  refine ⟨?_, by omega, by omega, h1, h2⟩
  unfold tokRes
  rw [hl, hd, if_neg (by simp), if_neg (by simp), if_neg h0]
theorem out_fault (l : List Tk) (lc : Int × Int) : outOf (l, some lc) = ([], 11, lc.1, lc.2) := rfl
theorem out_end (l : List Tk) : outOf (l, none) = (l.map s59, 0, 0, 0) := rfl
end Go.Proofs.YtgkhpecllhiidaaDoor.Q
