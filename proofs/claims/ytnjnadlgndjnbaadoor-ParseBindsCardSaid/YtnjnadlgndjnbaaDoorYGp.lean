/- Sources whose tokens are known: plain laws of the lexer, out of the texts of Lex. -/
import Derived.Test.YtnjnadlgndjnbaaDoorYHh
import Derived.Test.YtnjnadlgndjnbaaDoorYW
import Derived.Lib.IndexAny
section
set_option linter.unusedVariables false
set_option linter.unusedSimpArgs false
namespace Go.Proofs.YtnjnadlgndjnbaaDoor.Q
open Go.RowKit Go.Proofs.YtnjnadlgndjnbaaDoorW.PrintWords Go.Proofs.YtnjnadlgndjnbaaDoorW.PrintLast Go.Proofs.YtnjnadlgndjnbaaDoorW.PrintMore
def plainlite_HasPrefix.f (a0 : ByteArray) (a1 : ByteArray) : Option (Bool) := if (a0.size : Int) ≥ (a1.size : Int) then (if 0 ≤ (a1.size : Int) then (if (a1.size : Int) ≤ (a0.size : Int) then (some ((a0.extract 0 ((a1.size : Int) : Int).toNat).toList == a1.toList)) else (none)) else (none)) else (some false)
def plain_HasPrefix.f (a0 : ByteArray) (a1 : ByteArray) : Option (Bool) := (plainlite_HasPrefix.f a0 a1).bind fun t144 => (some t144)
def plain05_digit.f (a0 : Int) : Option (Bool) := if a0 ≥ 48 then (some (decide (a0 ≤ 57))) else (some false)
mutual
def plain05_number.j0 : Nat → Int → ByteArray → Option (Int × Bool)
  | 0, _, _ => none
  | k + 1, x4, x5 => plain05_number.l0 k x4 x5 0
def plain05_number.l0 : Nat → Int → ByteArray → Int → Option (Int × Bool)
  | 0, _, _, _ => none
  | k + 1, x4, x5, x6 => if x6 < (x5.size : Int) then (if 0 ≤ x6 then ((plain05_digit.f (bt x5 x6)).bind fun t155 => (if t155 = true then (plain05_number.l0 k x4 x5 (wrap64 (x6 + 1))) else (if x4 = 10 then (some (0, false)) else (if (bt x5 x6) < 97 then (some (0, false)) else (if (bt x5 x6) > 102 then (some (0, false)) else (plain05_number.l0 k x4 x5 (wrap64 (x6 + 1)))))))) else (none)) else (plain05_number.l1 k x4 x5 0 0)
def plain05_number.l1 : Nat → Int → ByteArray → Int → Int → Option (Int × Bool)
  | 0, _, _, _, _ => none
  | k + 1, x4, x5, x7, x8 => if x8 < (x5.size : Int) then (if 0 ≤ x8 then ((plain05_digit.f (bt x5 x8)).bind fun t156 => (if t156 = true then (if (IntKind.u64.wrap ((IntKind.u64.wrap (x7 * (IntKind.u64.wrap (x4)))) + (IntKind.u64.wrap ((IntKind.u64.wrap (bt x5 x8)) - 48)))) ≥ 4294967296 then (some (0, false)) else (plain05_number.l1 k x4 x5 (IntKind.u64.wrap ((IntKind.u64.wrap (x7 * (IntKind.u64.wrap (x4)))) + (IntKind.u64.wrap ((IntKind.u64.wrap (bt x5 x8)) - 48)))) (wrap64 (x8 + 1)))) else (if (IntKind.u64.wrap ((IntKind.u64.wrap (x7 * (IntKind.u64.wrap (x4)))) + (IntKind.u64.wrap ((IntKind.u64.wrap ((IntKind.u64.wrap (bt x5 x8)) - 97)) + 10)))) ≥ 4294967296 then (some (0, false)) else (plain05_number.l1 k x4 x5 (IntKind.u64.wrap ((IntKind.u64.wrap (x7 * (IntKind.u64.wrap (x4)))) + (IntKind.u64.wrap ((IntKind.u64.wrap ((IntKind.u64.wrap (bt x5 x8)) - 97)) + 10)))) (wrap64 (x8 + 1)))))) else (none)) else (some ((x7) % 4294967296, decide ((x5.size : Int) > 0)))
end
def plain05_number.f (k : Nat) (a0 : ByteArray) : Option (Int × Bool) := (plain_HasPrefix.f a0 (⟨#[48, 120]⟩ : ByteArray)).bind fun t154 => (if t154 = true then (if 2 ≤ (a0.size : Int) then (plain05_number.j0 k 16 (a0.extract 2 a0.size)) else (none)) else (plain05_number.j0 k 10 a0))
end Go.Proofs.YtnjnadlgndjnbaaDoor.Q
section
namespace Go.Proofs.YtnjnadlgndjnbaaDoor.Q
open Go.RowKit Go.Proofs.YtnjnadlgndjnbaaDoorW.PrintWords Go.Proofs.YtnjnadlgndjnbaaDoorW.PrintLast Go.Proofs.YtnjnadlgndjnbaaDoorW.PrintMore
open Lx (letB digB wcB allW kindOf isKey keyList)
theorem w64 (n : Nat) (h : n < 9223372036854775807) : wrap64 ((n : Int) + 1) = ((n + 1 : Nat) : Int) := by unfold wrap64; omega
theorem bt_nat (s : ByteArray) (i : Nat) : Go.Proofs.YtnjnadlgndjnbaaDoorW.PrintWords.bt s (i : Int) = Lx.bt s i := rfl
theorem digit_eq (c : Int) : plain05_digit.f c = some (digB c) := by
  unfold plain05_digit.f digB
  split
  · simp_all
  · rename_i h
    have : decide (48 ≤ c) = false := by simpa using h
    simp [this]
end Go.Proofs.YtnjnadlgndjnbaaDoor.Q
end
section
namespace Go.Proofs.YtnjnadlgndjnbaaDoor.Q
open Go.RowKit Go.Proofs.YtnjnadlgndjnbaaDoorW.PrintWords Go.Proofs.YtnjnadlgndjnbaaDoorW.PrintLast Go.Proofs.YtnjnadlgndjnbaaDoorW.PrintMore
open Lx (letB digB wcB allW kindOf isKey keyList hexOk hexV nscan numStop isHex numScan numAt)
theorem u64_id (n : Int) (h0 : 0 ≤ n) (h1 : n < 18446744073709551616) : IntKind.u64.wrap n = n := by
  show n % 18446744073709551616 = n
  exact Int.emod_eq_of_lt h0 h1
def dOk (base c : Int) : Bool := hexOk c && decide (hexV c < base)
theorem dOk_ten (c : Int) : dOk 10 c = digB c := by
  unfold dOk hexOk hexV
  cases hd : digB c
  · simp only [Bool.false_or, Bool.false_eq_true, if_false]
    split
    · rename_i h; simp; omega
    · rename_i h
      have : (decide (97 ≤ c) && decide (c ≤ 102)) = false := by
        rw [Bool.and_eq_false_iff, decide_eq_false_iff_not, decide_eq_false_iff_not]; omega
      rw [this]; rfl
  · simp only [if_true, Bool.true_or, Bool.true_and]
    unfold digB at hd
    simp at hd ⊢
    omega
theorem dOk_hex (c : Int) : dOk 16 c = (digB c || (decide (97 ≤ c) && decide (c ≤ 102))) := by
  unfold dOk
  have : hexV c < 16 := by have := (Lx.hexV_range c).2; omega
  simp [this, hexOk]
def vfold (s : ByteArray) (base : Int) : Nat → Nat → Int → Int
  | _, 0, v => v
  | j, m + 1, v => vfold s base (j + 1) m (min (v * base + hexV (Lx.bt s j)) 4294967296)
theorem nscan_run (s : ByteArray) (base : Int) : ∀ (m F j : Nat) (d v : Int), m < F → (∀ q, q < m → dOk base (Lx.bt s (j + q)) = true) → dOk base (Lx.bt s (j + m)) = false →
    nscan s base F j d v = (j + m, d + m, vfold s base j m v) := by
  intro m; induction m with
  | zero =>
    intro F j d v hF h1 h2
    cases F with
    | zero => omega
    | succ F =>
      unfold nscan
      rw [Nat.add_zero] at h2
      have : ¬ (hexOk (Lx.bt s j) = true ∧ hexV (Lx.bt s j) < base) := by
        intro ⟨a, b⟩; simp [dOk, a, b] at h2
      rw [if_neg this]; simp [vfold]
  | succ m ih =>
    intro F j d v hF h1 h2
    cases F with
    | zero => omega
    | succ F =>
      unfold nscan
      have h0 := h1 0 (by omega)
      rw [Nat.add_zero] at h0
      have : hexOk (Lx.bt s j) = true ∧ hexV (Lx.bt s j) < base := by simpa [dOk] using h0
      rw [if_pos this, ih F (j + 1) _ _ (by omega) (fun q hq => by have := h1 (q + 1) (by omega); rwa [show j + (q + 1) = j + 1 + q from by omega] at this) (by rwa [show j + (m + 1) = j + 1 + m from by omega] at h2)]
      simp only [vfold, Prod.mk.injEq]
      refine ⟨by omega, by push_cast; omega, trivial⟩
theorem vfold_top (s : ByteArray) (base : Int) (hb : 1 ≤ base) : ∀ (m j : Nat), vfold s base j m 4294967296 = 4294967296 := by
  intro m; induction m with
  | zero => intro j; rfl
  | succ m ih =>
    intro j
    have h := (Lx.hexV_range (Lx.bt s j)).1
    have : min (4294967296 * base + hexV (Lx.bt s j)) 4294967296 = 4294967296 := by omega
    simp only [vfold, this]
    exact ih (j + 1)
theorem vfold_range (s : ByteArray) (base : Int) (hb : 1 ≤ base) : ∀ (m j : Nat) (v : Int), 0 ≤ v → v ≤ 4294967296 → 0 ≤ vfold s base j m v ∧ vfold s base j m v ≤ 4294967296 := by
  intro m; induction m with
  | zero => intro j v h0 h1; exact ⟨h0, h1⟩
  | succ m ih =>
    intro j v h0 h1
    have h := (Lx.hexV_range (Lx.bt s j)).1
    have hm : 0 ≤ v * base := Int.mul_nonneg h0 (by omega)
    exact ih (j + 1) _ (by omega) (by omega)
def numRes (v : Int) (b : Bool) : Int × Bool := if 4294967296 ≤ v then (0, false) else (v % 4294967296, b)
theorem vfold_zero (s : ByteArray) (base : Int) (j : Nat) (v : Int) : vfold s base j 0 v = v := rfl
theorem vfold_succ (s : ByteArray) (base : Int) (j m : Nat) (v : Int) : vfold s base j (m + 1) v = vfold s base (j + 1) m (min (v * base + hexV (Lx.bt s j)) 4294967296) := rfl
theorem num_value (s t : ByteArray) (j : Nat) (base : Int) (hb : base = 10 ∨ base = 16) (ht : t.size < 9223372036854775000) (hbt : ∀ q, q < t.size → Lx.bt t q = Lx.bt s (j + q)) (hok : ∀ q, q < t.size → dOk base (Lx.bt t q) = true) :
    ∀ (n k q : Nat) (v : Int), t.size - q = n → n < k → q ≤ t.size → 0 ≤ v → v < 4294967296 →
    plain05_number.l1 k base t v (q : Int) = some (numRes (vfold s base (j + q) n v) (decide (0 < t.size))) := by
  intro n; induction n with
  | zero =>
    intro k q v h1 h2 h3 hv0 hv1
    cases k with
    | zero => omega
    | succ k =>
      unfold plain05_number.l1
      rw [if_neg (by omega)]
      rw [vfold_zero, numRes, if_neg (by omega)]
      congr 2
      rw [decide_eq_decide]
      omega
  | succ n ih =>
    intro k q v h1 h2 h3 hv0 hv1
    cases k with
    | zero => omega
    | succ k =>
      have hq : q < t.size := by omega
      have hr := Lx.bt_range t q
      have hm0 : 0 ≤ v * base := Int.mul_nonneg hv0 (by omega)
      have hm1 : v * base ≤ v * 16 := Int.mul_le_mul_of_nonneg_left (by omega) hv0
      have hx := Lx.hexV_range (Lx.bt t q)
      have hd := hok q hq
      unfold plain05_number.l1
      rw [if_pos (by omega), if_pos (by omega), bt_nat, digit_eq, Option.bind_some, w64 q (by omega)]
      rw [vfold_succ, ← hbt q hq]
      have key : ∀ e : Int, hexV (Lx.bt t q) = e → 0 ≤ e → e ≤ 15 →
          (if IntKind.u64.wrap (v * base + e) ≥ 4294967296 then (some (0, false) : Option (Int × Bool)) else plain05_number.l1 k base t (IntKind.u64.wrap (v * base + e)) ((q + 1 : Nat) : Int)) =
          some (numRes (vfold s base (j + q + 1) n (min (v * base + hexV (Lx.bt t q)) 4294967296)) (decide (0 < t.size))) := by
        intro e he h0 h15
        rw [he, u64_id _ (by omega) (by omega)]
        by_cases ho : 4294967296 ≤ v * base + e
        · rw [if_pos ho]
          have : min (v * base + e) 4294967296 = 4294967296 := by omega
          rw [this, vfold_top s base (by omega)]; rfl
        · rw [if_neg ho]
          have : min (v * base + e) 4294967296 = v * base + e := by omega
          rw [this, ih k (q + 1) (v * base + e) (by omega) (by omega) (by omega) (by omega) (by omega)]
          rfl
      by_cases hdg : digB (Lx.bt t q) = true
      · rw [if_pos hdg]
        have hc : 48 ≤ Lx.bt t q ∧ Lx.bt t q ≤ 57 := by simpa [digB] using hdg
        have hv : hexV (Lx.bt t q) = Lx.bt t q - 48 := by simp [hexV, hdg]
        rw [u64_id (base) (by omega) (by omega), u64_id (v * base) (by omega) (by omega), u64_id (Lx.bt t q) (by omega) (by omega), u64_id (Lx.bt t q - 48) (by omega) (by omega)]
        exact key _ hv (by omega) (by omega)
      · rw [if_neg hdg]
        have hc : base = 16 ∧ 97 ≤ Lx.bt t q ∧ Lx.bt t q ≤ 102 := by
          rcases hb with rfl | rfl
          · rw [dOk_ten] at hd; exact absurd hd hdg
          · rw [dOk_hex] at hd
            refine ⟨rfl, ?_⟩
            simpa [hdg] using hd
        have hv : hexV (Lx.bt t q) = Lx.bt t q - 97 + 10 := by simp [hexV, hdg, hc.2.1, hc.2.2]; omega
        rw [u64_id (base) (by omega) (by omega), u64_id (v * base) (by omega) (by omega), u64_id (Lx.bt t q) (by omega) (by omega), u64_id (Lx.bt t q - 97) (by omega) (by omega), u64_id (Lx.bt t q - 97 + 10) (by omega) (by omega)]
        exact key _ hv (by omega) (by omega)
theorem num_good_digits (t : ByteArray) (base : Int) (hb : base = 10 ∨ base = 16) (ht : t.size < 9223372036854775000) (R : Option (Int × Bool)) (hR : ∀ k, t.size < k → plain05_number.l1 k base t 0 0 = R) (hok : ∀ q, q < t.size → dOk base (Lx.bt t q) = true) :
    ∀ (n k q : Nat), t.size - q = n → n + t.size + 1 < k → q ≤ t.size → plain05_number.l0 k base t (q : Int) = R := by
  intro n; induction n with
  | zero =>
    intro k q h1 h2 h3
    cases k with
    | zero => omega
    | succ k =>
      unfold plain05_number.l0
      rw [if_neg (by omega)]
      exact hR k (by omega)
  | succ n ih =>
    intro k q h1 h2 h3
    cases k with
    | zero => omega
    | succ k =>
      have hq : q < t.size := by omega
      have hd := hok q hq
      unfold plain05_number.l0
      rw [if_pos (by omega), if_pos (by omega), bt_nat, digit_eq, Option.bind_some, w64 q (by omega), ih k (q + 1) (by omega) (by omega) (by omega)]
      by_cases hdg : digB (Lx.bt t q) = true
      · rw [if_pos hdg]
      · rw [if_neg hdg]
        have hc : base = 16 ∧ 97 ≤ Lx.bt t q ∧ Lx.bt t q ≤ 102 := by
          rcases hb with rfl | rfl
          · rw [dOk_ten] at hd; exact absurd hd hdg
          · rw [dOk_hex] at hd
            refine ⟨rfl, ?_⟩
            simpa [hdg] using hd
        rw [if_neg (by omega), if_neg (by omega), if_neg (by omega)]
theorem num_bad_digits (t : ByteArray) (base : Int) (hb : base = 10 ∨ base = 16) (ht : t.size < 9223372036854775000) (b : Nat) (hbl : b < t.size) (hbad : dOk base (Lx.bt t b) = false) :
    ∀ (n k q : Nat), b - q = n → n < k → q ≤ b → plain05_number.l0 k base t (q : Int) = some (0, false) := by
  intro n; induction n with
  | zero =>
    intro k q h1 h2 h3
    obtain rfl : q = b := by omega
    cases k with
    | zero => omega
    | succ k =>
      unfold plain05_number.l0
      rw [if_pos (by omega), if_pos (by omega), bt_nat, digit_eq, Option.bind_some]
      rcases hb with rfl | rfl
      · rw [dOk_ten] at hbad
        rw [hbad, if_neg (by simp), if_pos rfl]
      · rw [dOk_hex, Bool.or_eq_false_iff] at hbad
        rw [hbad.1, if_neg (by simp), if_neg (by omega)]
        have := hbad.2
        rw [Bool.and_eq_false_iff, decide_eq_false_iff_not, decide_eq_false_iff_not] at this
        by_cases h97 : Lx.bt t q < 97
        · rw [if_pos h97]
        · rw [if_neg h97, if_pos (by omega)]
  | succ n ih =>
    intro k q h1 h2 h3
    cases k with
    | zero => omega
    | succ k =>
      unfold plain05_number.l0
      rw [if_pos (by omega), if_pos (by omega), bt_nat, digit_eq, Option.bind_some, w64 q (by omega), ih k (q + 1) (by omega) (by omega) (by omega)]
      split
      · rfl
      · split
        · rfl
        · split
          · rfl
          · split <;> rfl
end Go.Proofs.YtnjnadlgndjnbaaDoor.Q
end
section
namespace Go.Proofs.YtnjnadlgndjnbaaDoor.Q
open Go.RowKit Go.Proofs.YtnjnadlgndjnbaaDoorW.PrintWords Go.Proofs.YtnjnadlgndjnbaaDoorW.PrintLast Go.Proofs.YtnjnadlgndjnbaaDoorW.PrintMore
def hp (x t : ByteArray) : Bool := decide (t.size ≤ x.size) && ((x.extract 0 t.size).toList == t.toList)
theorem hp_eq (x t : ByteArray) : plain_HasPrefix.f x t = some (hp x t) := by
  unfold plain_HasPrefix.f plainlite_HasPrefix.f hp
  by_cases h : t.size ≤ x.size
  · rw [if_pos (by omega), if_pos (by omega), if_pos (by omega), Int.toNat_natCast, decide_eq_true h, Bool.true_and]; rfl
  · rw [if_neg (by omega), decide_eq_false h, Bool.false_and]; rfl
theorem hp_list (x t : ByteArray) : hp x t = (t.data.toList.isPrefixOf x.data.toList) := by
  unfold hp
  rw [Bool.eq_iff_iff, Bool.and_eq_true, decide_eq_true_iff, beq_iff_eq, List.isPrefixOf_iff_prefix, ByteArray.toList_eq, ByteArray.toList_eq, ByteArray.data_extract, Array.toList_extract, List.extract_eq_take_drop]
  have hx : x.size = x.data.toList.length := by simp
  have ht : t.size = t.data.toList.length := by simp
  rw [hx, ht, List.drop_zero, Nat.sub_zero, List.prefix_iff_eq_take]
  constructor
  · rintro ⟨_, h⟩; exact h.symm
  · intro h
    refine ⟨?_, h.symm⟩
    rw [h, List.length_take]; omega
def pairOk (a b : UInt8) : Bool := (a == 60 && b == 60) || (a == 62 && b == 62) || (a == 61 && b == 61) || (a == 33 && b == 61) || (a == 60 && b == 61) || (a == 62 && b == 61)
theorem contains_cons (c : UInt8) (l sub : List UInt8) : Lib.contains (c :: l) sub = (sub.isPrefixOf (c :: l) || Lib.contains l sub) := by
  unfold Lib.contains
  rw [Lib.index]
  cases h : sub.isPrefixOf (c :: l)
  · simp only [Bool.false_eq_true, if_false, Bool.false_or]
    rw [decide_eq_decide]
    have := Lib.index_ge l sub
    by_cases h1 : Lib.index l sub = -1
    · simp [h1]
    · rw [if_neg (by simpa using h1)]; omega
  · simp
theorem two_pair (a b : UInt8) (ha : a ≠ 32) (hb : b ≠ 32) : Lib.contains Lx.twoBytes [a, b] = pairOk a b := by
  have ha' : (a == 32) = false := beq_eq_false_iff_ne.2 ha
  have hb' : (b == 32) = false := beq_eq_false_iff_ne.2 hb
  have h0 : Lib.contains [] [a, b] = false := rfl
  unfold Lx.twoBytes pairOk
  simp only [contains_cons, h0, List.isPrefixOf, Bool.and_true, ha', hb', Bool.false_and, Bool.and_false, Bool.or_false, Bool.false_or]
  simp only [Bool.or_assoc]
theorem ext_list {x y : ByteArray} (h : x.data.toList = y.data.toList) : x = y := by
  have : x.data = y.data := Array.toList_inj.1 h
  cases x; cases y; simp_all
theorem extract_list (s : ByteArray) (i j : Nat) : (s.extract i j).data.toList = (s.data.toList.drop i).take (j - i) := by
  rw [ByteArray.data_extract, Array.toList_extract, List.extract_eq_take_drop]
theorem bt_head {s : ByteArray} {i : Nat} {c0 : UInt8} {r : List UInt8} (h : s.data.toList.drop i = c0 :: r) : Lx.bt s i = (c0.toNat : Int) := by
  rw [Lx.bt_list, List.getD_eq_getElem?_getD]
  have : (s.data.toList.drop i)[0]? = some c0 := by rw [h]; rfl
  rw [List.getElem?_drop, Nat.add_zero] at this
  rw [this]; rfl
theorem drop_succ {l r : List UInt8} {i : Nat} {c0 : UInt8} (h : l.drop i = c0 :: r) : l.drop (i + 1) = r := by
  rw [Nat.add_comm, ← List.drop_drop] at *
  have : (l.drop i).drop 1 = r := by rw [h]; rfl
  rw [List.drop_drop] at this ⊢
  rwa [Nat.add_comm] at this
theorem two_eq (s : ByteArray) (i : Nat) (c0 c1 : UInt8) (r : List UInt8) (h : s.data.toList.drop i = c0 :: c1 :: r) : Lx.two s i = pairOk c0 c1 := by
  have hl : i + 2 ≤ s.size := by
    have := congrArg List.length h
    simp at this; omega
  have h1 := drop_succ h
  unfold Lx.two Lx.twoC
  rw [extract_list, show i + 2 - i = 2 from by omega, h, bt_head h, bt_head h1, decide_eq_true hl, Bool.true_and]
  show ((c0.toNat : Int) != 32 && (c1.toNat : Int) != 32 && Lib.contains Lx.twoBytes [c0, c1]) = pairOk c0 c1
  have e32 : ∀ c : UInt8, ((c.toNat : Int) != 32) = (c != 32) := by
    intro c
    rw [Bool.eq_iff_iff, bne_iff_ne, bne_iff_ne]
    constructor
    · intro h e; subst e; exact h rfl
    · intro h e; apply h; exact UInt8.toNat_inj.1 (by have : c.toNat = 32 := by omega
                                                      rw [this]; rfl)
  rw [e32, e32]
  by_cases ha : c0 = 32
  · subst ha; simp [pairOk]
  · by_cases hb : c1 = 32
    · subst hb; simp [pairOk]
    · rw [two_pair c0 c1 ha hb, bne_iff_ne.2 ha, bne_iff_ne.2 hb]; rfl
end Go.Proofs.YtnjnadlgndjnbaaDoor.Q
end
section
namespace Go.Proofs.YtnjnadlgndjnbaaDoor.Q
open Go.RowKit Go.Proofs.YtnjnadlgndjnbaaDoorW.PrintWords Go.Proofs.YtnjnadlgndjnbaaDoorW.PrintLast Go.Proofs.YtnjnadlgndjnbaaDoorW.PrintMore
open Lx (letB digB wcB allW kindOf isKey keyList hexOk hexV nscan numStop isHex numScan numAt wscan wordLen signLen)
theorem least (P : Nat → Bool) : ∀ n : Nat, (∀ q, q < n → P q = true) ∨ ∃ b, b < n ∧ P b = false ∧ ∀ q, q < b → P q = true := by
  intro n; induction n with
  | zero => exact .inl (fun q h => by omega)
  | succ n ih =>
    rcases ih with h | ⟨b, h1, h2, h3⟩
    · cases hn : P n
      · exact .inr ⟨n, by omega, hn, h⟩
      · refine .inl (fun q hq => ?_)
        rcases Nat.lt_or_ge q n with h' | h'
        · exact h q h'
        · obtain rfl : q = n := by omega
          exact hn
    · exact .inr ⟨b, by omega, h2, h3⟩
theorem bt_piece (s : ByteArray) (i n q : Nat) (h : i + n ≤ s.size) (hq : q < n) : Lx.bt (s.extract i (i + n)) q = Lx.bt s (i + q) := Lx.bt_extract s i n q h hq
theorem piece_piece (s : ByteArray) (i n a b : Nat) (h : i + n ≤ s.size) (hb : b ≤ n) : (s.extract i (i + n)).extract a b = s.extract (i + a) (i + b) := by
  refine ext_list ?_
  rw [extract_list, extract_list, extract_list, List.drop_take, List.take_take, List.drop_drop]
  congr 1
  omega
theorem wscan_run (s : ByteArray) : ∀ (f j : Nat), s.size - j < f → (∀ m, m < wscan s f j → wcB (Lx.bt s (j + m)) = true) ∧ wcB (Lx.bt s (j + wscan s f j)) = false := by
  intro f; induction f with
  | zero => intro j h; omega
  | succ f ih =>
    intro j h
    unfold wscan
    by_cases hw : wcB (Lx.bt s j) = true
    · rw [if_pos hw]
      have hj := Lx.wcB_lt s j hw
      obtain ⟨h1, h2⟩ := ih (j + 1) (by omega)
      refine ⟨fun m hm => ?_, by rwa [show j + (1 + wscan s f (j + 1)) = j + 1 + wscan s f (j + 1) from by omega]⟩
      cases m with
      | zero => exact hw
      | succ m => have := h1 m (by omega); rwa [show j + (m + 1) = j + 1 + m from by omega]
    · rw [if_neg hw]
      exact ⟨fun m hm => by omega, by simpa using hw⟩
structure Run (s : ByteArray) (i n : Nat) : Prop where
  pos : 0 < n
  all : ∀ m, m < n → wcB (Lx.bt s (i + m)) = true
  stop : wcB (Lx.bt s (i + n)) = false
  fit : i + n ≤ s.size
theorem run_at (s : ByteArray) (i : Nat) (h : wcB (Lx.bt s i) = true) : Run s i (wordLen s i) := by
  have hi := Lx.wcB_lt s i h
  obtain ⟨h1, h2⟩ := wscan_run s (s.size + 1) (i + 1) (by omega)
  have hall : ∀ m, m < wordLen s i → wcB (Lx.bt s (i + m)) = true := by
    intro m hm
    unfold wordLen at hm
    cases m with
    | zero => exact h
    | succ m => have := h1 m (by omega); rwa [show i + (m + 1) = i + 1 + m from by omega]
  refine ⟨Lx.wordLen_pos s i, hall, ?_, ?_⟩
  · unfold wordLen; rwa [show i + (1 + wscan s (s.size + 1) (i + 1)) = i + 1 + wscan s (s.size + 1) (i + 1) from by omega]
  · have hp := Lx.wordLen_pos s i
    have := Lx.wcB_lt s _ (hall (wordLen s i - 1) (by omega))
    omega
theorem dOk_wc {base c : Int} (h : dOk base c = true) : wcB c = true := by
  unfold dOk hexOk at h
  unfold wcB letB
  simp only [Bool.and_eq_true, Bool.or_eq_true, decide_eq_true_eq] at h ⊢
  rcases h.1 with h | h
  · exact .inr h
  · exact .inl (.inl (by omega))
theorem dig_ok {base c : Int} (hb : base = 10 ∨ base = 16) (h : digB c = true) : dOk base c = true := by
  rcases hb with rfl | rfl
  · rw [dOk_ten]; exact h
  · rw [dOk_hex, h]; rfl
def upper (c : Int) : Bool := decide (65 ≤ c) && decide (c ≤ 90)
theorem number_base (s t : ByteArray) (base : Int) (hb : base = 10 ∨ base = 16) (j n : Nat) (hs : s.size < 9223372036854775000) (hstop : wcB (Lx.bt s (j + n)) = false) (hwc : ∀ m, m < n → wcB (Lx.bt s (j + m)) = true) (hfit : j + n ≤ s.size)
    (ht : t.size = n) (hbt : ∀ q, q < t.size → Lx.bt t q = Lx.bt s (j + q)) (F : Nat) (hF : n < F) (k : Nat) (hk : 2 * n + 5 < k) :
    ∃ v b, plain05_number.l0 k base t 0 = some (v, b) ∧ (if numStop s (nscan s base F j 0 0) then none else some ((nscan s base F j 0 0).1, (nscan s base F j 0 0).2.2)) = if b && !upper (Lx.bt s (j + n)) then some (j + n, v) else none := by
  rcases least (fun q => dOk base (Lx.bt s (j + q))) n with hall | ⟨b, hb1, hb2, hb3⟩
  · have hok : ∀ q, q < t.size → dOk base (Lx.bt t q) = true := fun q hq => by rw [hbt q hq]; exact hall q (by omega)
    have hst : dOk base (Lx.bt s (j + n)) = false := by
      cases h : dOk base (Lx.bt s (j + n))
      · rfl
      · rw [dOk_wc h] at hstop; cases hstop
    have hR := fun k' (hk' : t.size < k') => num_value s t j base hb (by omega) hbt hok n k' 0 0 (by omega) (by omega) (by omega) (by omega) (by omega)
    have h0 := num_good_digits t base hb (by omega) _ hR hok n k 0 (by omega) (by omega) (by omega)
    have hn := nscan_run s base n F j 0 0 hF hall hst
    have hV := vfold_range s base (by omega) n j 0 (by omega) (by omega)
    rw [hn]
    simp only [Nat.add_zero] at h0
    generalize vfold s base j n 0 = V at *
    have hl : letB (Lx.bt s (j + n)) = false ∧ digB (Lx.bt s (j + n)) = false := by
      unfold wcB at hstop; rw [Bool.or_eq_false_iff] at hstop; exact hstop
    by_cases hV' : 4294967296 ≤ V
    · have e : numRes V (decide (0 < t.size)) = (0, false) := by unfold numRes; rw [if_pos hV']
      rw [e] at h0
      refine ⟨0, false, h0, ?_⟩
      have : numStop s (j + n, 0 + (n : Int), V) = true := by simp [numStop, hV']
      rw [this]; rfl
    · have e : numRes V (decide (0 < t.size)) = (V, decide (0 < t.size)) := by unfold numRes; rw [if_neg hV', Int.emod_eq_of_lt hV.1 (by omega)]
      rw [e] at h0
      refine ⟨V, _, h0, ?_⟩
      unfold numStop upper
      simp only []
      rw [hl.1, hl.2, decide_eq_false hV', ht]
      simp only [Bool.or_false]
      by_cases hn0 : n = 0
      · subst hn0; simp
      · have e1 : ((0 : Int) + (n : Int) == 0) = false := by rw [beq_eq_false_iff_ne]; omega
        have e2 : decide (0 < n) = true := by simp; omega
        rw [e1, e2]
        cases (decide (65 ≤ Lx.bt s (j + n)) && decide (Lx.bt s (j + n) ≤ 90)) <;> rfl
  · have h0 := num_bad_digits t base hb (by omega) b (by omega) (by rw [hbt b (by omega)]; exact hb2) b k 0 (by omega) (by omega) (by omega)
    refine ⟨0, false, h0, ?_⟩
    rw [nscan_run s base b F j 0 0 (by omega) hb3 hb2]
    have hw := hwc b hb1
    have hl : letB (Lx.bt s (j + b)) = true := by
      unfold wcB at hw
      rw [Bool.or_eq_true] at hw
      rcases hw with h | h
      · exact h
      · rw [dig_ok hb h] at hb2; cases hb2
    have : numStop s (j + b, 0 + (b : Int), vfold s base j b 0) = true := by simp [numStop, hl]
    rw [this]; rfl
theorem hp_hex (s : ByteArray) (i n : Nat) (h : i + n ≤ s.size) (hn : 0 < n) (h1 : isHex s i = true → 2 ≤ n) : hp (s.extract i (i + n)) ⟨#[48, 120]⟩ = isHex s i := by
  rw [hp_list, extract_list, show i + n - i = n from by omega]
  cases hd : s.data.toList.drop i with
  | nil => have := congrArg List.length hd; simp at this; omega
  | cons c0 r =>
    have e0 : ∀ (c : UInt8) (z : UInt8), (((c.toNat : Int)) == (z.toNat : Int)) = (z == c) := by
      intro c z
      rw [Bool.eq_iff_iff, beq_iff_eq, beq_iff_eq]
      constructor
      · intro e; exact UInt8.toNat_inj.1 (by omega)
      · intro e; rw [e]
    have g0 := bt_head hd
    have hh : isHex s i = ((48 == c0) && (Lx.bt s (i + 1) == 120)) := by
      unfold isHex; rw [g0]
      show (((c0.toNat : Int) == ((48 : UInt8).toNat : Int)) && _) = _
      rw [e0]
    cases r with
    | nil =>
      have h2 : Lx.bt s (i + 1) = 0 := Lx.bt_out _ _ (by have := congrArg List.length hd; simp at this; omega)
      rw [hh, h2]
      cases n with
      | zero => omega
      | succ n => simp [List.isPrefixOf]
    | cons c1 r =>
      have g1 := bt_head (drop_succ hd)
      have hh' : isHex s i = ((48 == c0) && (120 == c1)) := by
        rw [hh, g1]
        show (_ && ((c1.toNat : Int) == ((120 : UInt8).toNat : Int))) = _
        rw [e0]
      cases n with
      | zero => omega
      | succ n =>
        cases n with
        | zero =>
          have : isHex s i = false := by
            cases hx : isHex s i
            · rfl
            · have := h1 hx; omega
          rw [this]; simp [List.isPrefixOf]
        | succ n => rw [hh']; simp [List.isPrefixOf]
theorem number_at (s : ByteArray) (i n : Nat) (hs : s.size < 9223372036854775000) (R : Run s i n) (k : Nat) (hk : 2 * n + 9 < k) :
    ∃ v b, plain05_number.f k (s.extract i (i + n)) = some (v, b) ∧ numAt s i = if b && !upper (Lx.bt s (i + n)) then some (n, v) else none := by
  have hsz : (s.extract i (i + n)).size = n := by have := R.fit; simp; omega
  cases k with
  | zero => omega
  | succ k =>
  unfold plain05_number.f
  have hx2 : isHex s i = true → 2 ≤ n := by
    intro h
    have hp := R.pos
    rcases Nat.lt_or_ge n 2 with h' | h'
    · obtain rfl : n = 1 := by omega
      have := R.stop
      unfold isHex at h
      rw [Bool.and_eq_true, beq_iff_eq, beq_iff_eq] at h
      rw [h.2] at this; revert this; decide
    · exact h'
  rw [hp_eq, Option.bind_some, hp_hex s i n R.fit R.pos hx2, hsz]
  unfold numAt numScan
  cases hx : isHex s i
  · rw [if_neg (by simp)]
    simp only [Bool.false_eq_true, if_false]
    obtain ⟨v, b, h1, h2⟩ := number_base s (s.extract i (i + n)) 10 (.inl rfl) i n hs R.stop R.all R.fit hsz (fun q hq => bt_piece s i n q R.fit (by omega)) (s.size + 3) (by have := R.fit; omega) k (by omega)
    refine ⟨v, b, ?_, ?_⟩
    · unfold plain05_number.j0; exact h1
    · have h3 := congrArg (Option.map fun p : Nat × Int => (p.1 - i, p.2)) h2
      cases hb : (b && !upper (Lx.bt s (i + n))) <;> cases hst : numStop s (nscan s 10 (s.size + 3) i 0 0) <;> rw [hb, hst] at h3 <;> simp at h3 ⊢
      exact ⟨by omega, h3.2⟩
  · have hn2 := hx2 hx
    rw [if_pos rfl, if_pos (by omega)]
    simp only [if_true]
    have ht : (s.extract i (i + n)).extract 2 n = s.extract (i + 2) (i + n) := piece_piece s i n 2 n R.fit (by omega)
    obtain ⟨v, b, h1, h2⟩ := number_base s (s.extract (i + 2) (i + n)) 16 (.inr rfl) (i + 2) (n - 2) hs (by rw [show i + 2 + (n - 2) = i + n from by omega]; exact R.stop) (fun m hm => by have := R.all (2 + m) (by omega); rwa [show i + (2 + m) = i + 2 + m from by omega] at this) (by have := R.fit; omega)
      (by have := R.fit; simp; omega) (fun q hq => by
        have hq' : q < n - 2 := by have := R.fit; simp at hq; omega
        have := bt_piece s (i + 2) (n - 2) q (by have := R.fit; omega) hq'
        rwa [show i + 2 + (n - 2) = i + n from by omega] at this) (s.size + 3) (by have := R.fit; omega) k (by omega)
    rw [show i + 2 + (n - 2) = i + n from by omega] at h2
    refine ⟨v, b, ?_, ?_⟩
    · rw [ht]; unfold plain05_number.j0; exact h1
    · have h3 := congrArg (Option.map fun p : Nat × Int => (p.1 - i, p.2)) h2
      cases hb : (b && !upper (Lx.bt s (i + n))) <;> cases hst : numStop s (nscan s 16 (s.size + 3) (i + 2) 0 0) <;> rw [hb, hst] at h3 <;> simp at h3 ⊢
      exact ⟨by omega, h3.2⟩
end Go.Proofs.YtnjnadlgndjnbaaDoor.Q
end
section
namespace Go.Proofs.YtnjnadlgndjnbaaDoor.Q
open Go.RowKit Go.Proofs.YtnjnadlgndjnbaaDoorW.PrintWords Go.Proofs.YtnjnadlgndjnbaaDoorW.PrintLast Go.Proofs.YtnjnadlgndjnbaaDoorW.PrintMore
open Lx (letB digB wcB allW kindOf isKey keyList hexOk hexV nscan numStop isHex numScan numAt wscan wordLen signLen)
def tokRes (s : ByteArray) (i : Nat) : Int × ByteArray × Int × Int × Int :=
  if letB (Lx.bt s i) then (kindOf (s.extract i (i + wordLen s i)), s.extract i (i + wordLen s i), 0, 0, 0)
  else if digB (Lx.bt s i) then match numAt s i with
    | none => (0, ⟨#[]⟩, 0, 0, 0)
    | some nv => (3, s.extract i (i + nv.1), 0, 0, nv.2)
  else if signLen s i = 0 then (0, ⟨#[]⟩, 0, 0, 0) else (4, s.extract i (i + signLen s i), 0, 0, 0)
end Go.Proofs.YtnjnadlgndjnbaaDoor.Q
end
section
namespace Go.Proofs.YtnjnadlgndjnbaaDoor.Q
open Go.RowKit Go.Proofs.YtnjnadlgndjnbaaDoorW.PrintWords Go.Proofs.YtnjnadlgndjnbaaDoorW.PrintLast Go.Proofs.YtnjnadlgndjnbaaDoorW.PrintMore
open Lx (letB digB wcB allW kindOf isKey keyList hexOk hexV nscan numStop isHex numScan numAt wscan wordLen signLen adv betw comLen isCom blankB nlC lexStep lexFrom lexAll toks Tk LexR)
theorem wc_ten {c : Int} (h : wcB c = true) : c ≠ 10 := by intro e; subst e; revert h; decide
structure TokOk (s : ByteArray) (i n : Nat) (kind : Int) (num : Int) : Prop where
  res : tokRes s i = (kind, s.extract i (i + n), 0, 0, num)
  kind : kind ≠ 0
  pos : 0 < n
  fit : i + n ≤ s.size
  flat : ∀ m, m < n → Lx.bt s (i + m) ≠ 10
theorem tok_word (s : ByteArray) (i : Nat) (hl : letB (Lx.bt s i) = true) : TokOk s i (wordLen s i) (kindOf (s.extract i (i + wordLen s i))) 0 := by
  have R := run_at s i (by unfold wcB; rw [hl]; rfl)
  generalize hn : wordLen s i = n at *
  refine ⟨by unfold tokRes; rw [if_pos hl, hn], ?_, R.pos, R.fit, fun m hm => wc_ten (R.all m hm)⟩
  have hsz : (s.extract i (i + n)).size = n := by have := R.fit; simp; omega
  have h0 : letB (Lx.bt (s.extract i (i + n)) 0) = true := by rw [bt_piece s i n 0 R.fit R.pos]; exact hl
  have ha : ∀ m, m ≤ n → allW (s.extract i (i + n)) m = true := by
    intro m; induction m with
    | zero => intro _; rfl
    | succ m ih => intro h; simp only [allW]; rw [ih (by omega), bt_piece s i n m R.fit (by omega), R.all m (by omega)]; rfl
  have hp := R.pos
  rw [Lx.kind_all _ (by omega) h0 (by rw [hsz]; exact ha n (Nat.le_refl _))]
  split <;> omega
theorem dig_wc {c : Int} (h : digB c = true) : wcB c = true := by unfold wcB; rw [h, Bool.or_true]
theorem dig_not_let {c : Int} (hd : digB c = true) : letB c = false := by
  have hc : 48 ≤ c ∧ c ≤ 57 := by simpa [digB] using hd
  have h1 : decide (97 ≤ c) = false := by rw [decide_eq_false_iff_not]; omega
  have h2 : (c == 95) = false := by rw [beq_eq_false_iff_ne]; omega
  simp [letB, h1, h2]
theorem num_len {s : ByteArray} {i : Nat} (hs : s.size < 9223372036854775000) (hd : digB (Lx.bt s i) = true) {nv : Nat × Int} (h : numAt s i = some nv) : nv.1 = wordLen s i := by
  have R := run_at s i (dig_wc hd)
  obtain ⟨v, b, _, h2⟩ := number_at s i _ hs R (2 * wordLen s i + 10) (by omega)
  rw [h] at h2
  split at h2
  · rw [Option.some.inj h2]
  · cases h2
theorem tok_num (s : ByteArray) (i : Nat) (hs : s.size < 9223372036854775000) (hd : digB (Lx.bt s i) = true) (nv : Nat × Int) (h : numAt s i = some nv) : TokOk s i nv.1 3 nv.2 := by
  have R := run_at s i (dig_wc hd)
  rw [num_len hs hd h]
  refine ⟨?_, by omega, R.pos, R.fit, fun m hm => wc_ten (R.all m hm)⟩
  unfold tokRes
  rw [if_neg (by rw [dig_not_let hd]; simp), if_pos hd, h]
  simp only
  rw [num_len hs hd h]
theorem pair_ten {a b : UInt8} (h : pairOk a b = true) : a ≠ 10 ∧ b ≠ 10 := by
  unfold pairOk at h
  simp only [Bool.or_eq_true, Bool.and_eq_true, beq_iff_eq] at h
  rcases h with ((((⟨rfl, rfl⟩ | ⟨rfl, rfl⟩) | ⟨rfl, rfl⟩) | ⟨rfl, rfl⟩) | ⟨rfl, rfl⟩) | ⟨rfl, rfl⟩ <;> exact ⟨by decide, by decide⟩
theorem nat_ten {c : UInt8} (h : c ≠ 10) : (c.toNat : Int) ≠ 10 := by
  intro e; apply h
  have : c.toNat = 10 := by omega
  exact UInt8.toNat_inj.1 (by rw [this]; rfl)
theorem sign_flat (s : ByteArray) (i : Nat) (hi : i < s.size) (h0 : signLen s i ≠ 0) : i + signLen s i ≤ s.size ∧ ∀ m, m < signLen s i → Lx.bt s (i + m) ≠ 10 := by
  unfold signLen at h0 ⊢
  cases h2 : Lx.two s i
  · rw [h2] at h0
    simp only [Bool.false_eq_true, if_false] at h0 ⊢
    cases h1 : Lx.one (Lx.bt s i)
    · rw [h1] at h0; simp at h0
    · simp only [if_true]
      refine ⟨by omega, fun m hm => ?_⟩
      obtain rfl : m = 0 := by omega
      rw [Nat.add_zero]
      intro e; rw [e] at h1; revert h1; decide
  · simp only [if_true]
    have hl : i + 2 ≤ s.size := by
      unfold Lx.two at h2
      simp only [Bool.and_eq_true, decide_eq_true_eq] at h2
      exact h2.1.1.1
    refine ⟨hl, ?_⟩
    cases hd : s.data.toList.drop i with
    | nil => have := congrArg List.length hd; simp at this; omega
    | cons c0 r =>
      cases r with
      | nil => have := congrArg List.length hd; simp at this; omega
      | cons c1 r =>
        rw [two_eq s i c0 c1 r hd] at h2
        obtain ⟨ha, hb⟩ := pair_ten h2
        intro m hm
        rcases (by omega : m = 0 ∨ m = 1) with rfl | rfl
        · rw [Nat.add_zero, bt_head hd]; exact nat_ten ha
        · rw [bt_head (drop_succ hd)]; exact nat_ten hb
theorem tok_sign (s : ByteArray) (i : Nat) (hi : i < s.size) (hl : letB (Lx.bt s i) = false) (hd : digB (Lx.bt s i) = false) (h0 : signLen s i ≠ 0) : TokOk s i (signLen s i) 4 0 := by
  obtain ⟨h1, h2⟩ := sign_flat s i hi h0
  refine ⟨?_, by omega, by omega, h1, h2⟩
  unfold tokRes
  rw [hl, hd, if_neg (by simp), if_neg (by simp), if_neg h0]
end Go.Proofs.YtnjnadlgndjnbaaDoor.Q
end
section
namespace Go.Proofs.YtnjnadlgndjnbaaDoor.Q
open Go.RowKit Go.Proofs.YtnjnadlgndjnbaaDoorW.PrintWords Go.Proofs.YtnjnadlgndjnbaaDoorW.PrintLast Go.Proofs.YtnjnadlgndjnbaaDoorW.PrintMore
open Lx (adv clampI)
end Go.Proofs.YtnjnadlgndjnbaaDoor.Q
end
section
namespace Go.Proofs.YtnjnadlgndjnbaaDoor.Q
open Go.RowKit Go.Proofs.YtnjnadlgndjnbaaDoorW.PrintWords Go.Proofs.YtnjnadlgndjnbaaDoorW.PrintLast Go.Proofs.YtnjnadlgndjnbaaDoorW.PrintMore
open Lx (letB digB wcB numAt wordLen signLen adv betw comLen isCom blankB lexStep lexFrom lexAll toks Tk LexR)
theorem adv_add (s : ByteArray) (i : Nat) (lc : Int × Int) (m : Nat) : ∀ n : Nat, adv s (i + m) (adv s i lc m) n = adv s i lc (m + n) := by
  intro n; induction n with
  | zero => rfl
  | succ n ih => rw [adv, ih, ← Nat.add_assoc, adv]; simp only [Nat.add_assoc]
inductive Gap (s : ByteArray) : Nat → Nat → Prop
  | nil (i : Nat) : Gap s i i
  | blank (i j : Nat) (h : i < s.size) (hb : blankB (Lx.bt s i) = true) (g : Gap s (i + 1) j) : Gap s i j
  | com (i j : Nat) (h : i < s.size) (hb : blankB (Lx.bt s i) = false) (hc : isCom s i = true) (g : Gap s (i + comLen s i) j) : Gap s i j
structure Place (s : ByteArray) (i : Nat) (lc : Int × Int) (st j : Nat) (lc' : Int × Int) : Prop where
  le : i ≤ j
  fit : j ≤ s.size
  at_ : lc' = adv s i lc (j - i)
  gap : Gap s i j
  fin : st = 0 → j = s.size
  tok : st ≠ 0 → j < s.size ∧ blankB (Lx.bt s j) = false ∧ isCom s j = false ∧ st = if letB (Lx.bt s j) then 1 else if digB (Lx.bt s j) then 2 else 3
theorem betw_place (s : ByteArray) : ∀ (f i : Nat) (lc : Int × Int), s.size - i < f → i ≤ s.size → Place s i lc (betw s f i lc).1 (betw s f i lc).2.1 (betw s f i lc).2.2 := by
  intro f; induction f with
  | zero => intro i lc h; omega
  | succ f ih =>
    intro i lc hf hi
    unfold betw
    by_cases hlt : i < s.size
    · rw [if_pos hlt]
      cases hb : blankB (Lx.bt s i) with
      | true =>
        simp only [if_true]
        obtain ⟨h1, h2, h3, h4, h5, h6⟩ := ih (i + 1) (adv s i lc 1) (by omega) (by omega)
        refine ⟨by omega, h2, ?_, .blank i _ hlt hb h4, h5, h6⟩
        rw [h3, adv_add]; congr 1; omega
      | false =>
        simp only [Bool.false_eq_true, if_false]
        cases hcom : isCom s i with
        | true =>
          simp only [if_true]
          have h10 : Lx.bt s i ≠ 10 := by simpa using (Lx.blank_no _ hb).2.2.1
          obtain ⟨hc1, hc2⟩ := Lx.comLen_range s i hlt h10
          obtain ⟨h1, h2, h3, h4, h5, h6⟩ := ih (i + comLen s i) (adv s i lc (comLen s i)) (by omega) (by omega)
          refine ⟨by omega, h2, ?_, .com i _ hlt hb hcom h4, h5, h6⟩
          rw [h3, adv_add]; congr 1; omega
        | false =>
          simp only [Bool.false_eq_true, if_false]
          refine ⟨Nat.le_refl _, hi, ?_, .nil i, fun h => ?_, fun _ => ⟨hlt, hb, hcom, rfl⟩⟩
          · rw [Nat.sub_self]; rfl
          · split at h <;> (try split at h) <;> omega
    · rw [if_neg hlt]
      obtain rfl : i = s.size := by omega
      exact ⟨Nat.le_refl _, Nat.le_refl _, by rw [Nat.sub_self]; rfl, .nil _, fun _ => rfl, fun h => absurd rfl h⟩
theorem lex_step (s : ByteArray) (hs : s.size < 9223372036854775000) (f i : Nat) (lc : Int × Int) (l : List Tk) (hi : i ≤ s.size) :
    ∃ j, i ≤ j ∧ j ≤ s.size ∧ Gap s i j ∧ ((j = s.size ∧ lexFrom s (f + 1) i lc l = (l, none)) ∨
      (j < s.size ∧ blankB (Lx.bt s j) = false ∧ isCom s j = false ∧ (((tokRes s j).1 = 0 ∧ lexFrom s (f + 1) i lc l = (l, some (adv s i lc (j - i)))) ∨
        ∃ n kind num, TokOk s j n kind num ∧ lexFrom s (f + 1) i lc l = lexFrom s f (j + n) (adv s i lc (j + n - i)) (l ++ [⟨kind, s.extract j (j + n), (adv s i lc (j - i)).1, (adv s i lc (j - i)).2, num⟩])))) := by
  have hp := betw_place s (s.size + 1) i lc (by omega) hi
  rw [lexFrom]
  generalize betw s (s.size + 1) i lc = r at *
  obtain ⟨st, j, lc'⟩ := r
  obtain ⟨h1, h2, h3, h4, h5, h6⟩ := hp
  simp only at *
  refine ⟨j, h1, h2, h4, ?_⟩
  unfold lexStep
  simp only
  by_cases h0 : st = 0
  · rw [if_pos h0]; exact .inl ⟨h5 h0, rfl⟩
  · rw [if_neg h0]
    obtain ⟨hlt, hb, hcm, hst⟩ := h6 h0
    refine .inr ⟨hlt, hb, hcm, ?_⟩
    have hadv : ∀ n, adv s j lc' n = adv s i lc (j + n - i) := by
      intro n
      have := adv_add s i lc (j - i) n
      rw [show i + (j - i) = j from by omega] at this
      rw [h3, this]; congr 1; omega
    by_cases hlet : letB (Lx.bt s j) = true
    · rw [if_pos hlet] at hst
      rw [if_pos hst]
      refine .inr ⟨_, _, _, tok_word s j hlet, ?_⟩
      rw [hadv, h3]
    · rw [if_neg hlet] at hst
      have hletf : letB (Lx.bt s j) = false := by simpa using hlet
      by_cases hdig : digB (Lx.bt s j) = true
      · rw [if_pos hdig] at hst
        rw [if_neg (by omega), if_pos hst]
        cases hn : numAt s j with
        | none => exact .inl ⟨by unfold tokRes; rw [if_neg hlet, if_pos hdig, hn], by simp only; rw [h3]⟩
        | some nv =>
          refine .inr ⟨_, _, _, tok_num s j hs hdig nv hn, ?_⟩
          simp only
          rw [hadv, h3]
      · rw [if_neg hdig] at hst
        have hdf : digB (Lx.bt s j) = false := by simpa using hdig
        rw [if_neg (by omega), if_neg (by omega)]
        by_cases hsg : signLen s j = 0
        · rw [if_pos hsg]
          exact .inl ⟨by unfold tokRes; rw [if_neg hlet, if_neg hdig, if_pos hsg], by rw [h3]⟩
        · rw [if_neg hsg]
          refine .inr ⟨_, _, _, tok_sign s j hlt hletf hdf hsg, ?_⟩
          rw [hadv, h3]
end Go.Proofs.YtnjnadlgndjnbaaDoor.Q
end
section
namespace Go.Proofs.YtnjnadlgndjnbaaDoor.Q
open Go.RowKit Go.Proofs.YtnjnadlgndjnbaaDoorW.PrintWords Go.Proofs.YtnjnadlgndjnbaaDoorW.PrintLast Go.Proofs.YtnjnadlgndjnbaaDoorW.PrintMore
open Lx (letB digB wcB numAt wordLen signLen adv betw comLen isCom blankB lexStep lexFrom lexAll toks Tk LexR nscan numStop isHex numScan hexV)
end Go.Proofs.YtnjnadlgndjnbaaDoor.Q
end
section
namespace Go.Proofs.YtnjnadlgndjnbaaDoor.Q
open Go.RowKit Go.Proofs.YtnjnadlgndjnbaaDoorW.PrintWords Go.Proofs.YtnjnadlgndjnbaaDoorW.PrintLast Go.Proofs.YtnjnadlgndjnbaaDoorW.PrintMore
open Lx (letB digB wcB kindOf numAt wordLen wscan signLen adv betw comLen isCom blankB lexStep lexFrom lexAll toks Tk LexR)
end Go.Proofs.YtnjnadlgndjnbaaDoor.Q
end
section
namespace Go.Proofs.YtnjnadlgndjnbaaDoor.Q
open Go.RowKit Go.Proofs.YtnjnadlgndjnbaaDoorW.PrintWords Go.Proofs.YtnjnadlgndjnbaaDoorW.PrintLast Go.Proofs.YtnjnadlgndjnbaaDoorW.PrintMore
open Lx (letB digB wcB kindOf numAt wordLen wscan signLen adv betw comLen isCom blankB lexStep lexFrom lexAll toks Tk LexR)
structure Copy2 (s y : ByteArray) (j i n : Nat) : Prop where
  fit : i + n ≤ y.size
  same : ∀ q, q < n → Lx.bt y (i + q) = Lx.bt s (j + q)
  next : Lx.bt y (i + n) = 10 ∨ i + n = y.size ∨ (j + n < s.size ∧ i + n < y.size ∧ Lx.bt y (i + n) = Lx.bt s (j + n))
structure Emb (s y : ByteArray) (o : Nat) : Prop where
  fit : o + s.size ≤ y.size
  same : ∀ q, q < s.size → Lx.bt y (o + q) = Lx.bt s q
  next : Lx.bt y (o + s.size) = 10 ∨ o + s.size = y.size
end Go.Proofs.YtnjnadlgndjnbaaDoor.Q
end
end

section
set_option linter.unusedVariables false
set_option linter.unusedSimpArgs false
section
namespace Go.Proofs.YtnjnadlgndjnbaaDoor.Q
open Go.RowKit Go.Proofs.YtnjnadlgndjnbaaDoorW.PrintWords Go.Proofs.YtnjnadlgndjnbaaDoorW.PrintLast Go.Proofs.YtnjnadlgndjnbaaDoorW.PrintMore
open Lx (letB digB wcB numAt wordLen signLen adv betw comLen isCom blankB lexStep lexFrom lexAll toks Tk LexR)
def textSum (l : List Tk) : Nat := (l.map fun t => t.text.size).sum
theorem lex_size (s : ByteArray) (hs : s.size < 9223372036854775000) : ∀ (f i : Nat) (lc : Int × Int) (l : List Tk), i ≤ s.size → l.length ≤ i → textSum l ≤ i → (lexFrom s f i lc l).1.length ≤ s.size ∧ textSum (lexFrom s f i lc l).1 ≤ s.size := by
  intro f; induction f with
  | zero => intro i lc l h1 h2 h3; exact ⟨by show l.length ≤ _; omega, by show textSum l ≤ _; omega⟩
  | succ f ih =>
    intro i lc l h1 h2 h3
    obtain ⟨j, hij, hj, _, h | ⟨_, _, _, ⟨_, h⟩ | ⟨n, kind, num, T, h⟩⟩⟩ := lex_step s hs f i lc l h1
    · rw [h.2]; exact ⟨by show l.length ≤ _; omega, by show textSum l ≤ _; omega⟩
    · rw [h]; exact ⟨by show l.length ≤ _; omega, by show textSum l ≤ _; omega⟩
    · rw [h]
      have hp := T.pos
      have hf := T.fit
      refine ih (j + n) _ _ hf (by rw [List.length_append, List.length_singleton]; omega) ?_
      unfold textSum at *
      rw [List.map_append, List.sum_append]
      have : (s.extract j (j + n)).size = n := by simp; omega
      simp only [List.map_cons, List.map_nil, List.sum_cons, List.sum_nil, this]
      omega
theorem toks_le (R : LexR) : (toks R).length ≤ R.1.length ∧ textSum (toks R) ≤ textSum R.1 := by
  unfold toks
  cases R.2 <;> simp [textSum]
theorem toks_size (s : ByteArray) (hs : s.size < 9223372036854775000) : (toks (lexAll s)).length ≤ s.size ∧ textSum (toks (lexAll s)) ≤ s.size := by
  have h := lex_size s hs (s.size + 1) 0 (1, 1) [] (by omega) (by simp) (by simp [textSum])
  have h2 := toks_le (lexAll s)
  exact ⟨Nat.le_trans h2.1 h.1, Nat.le_trans h2.2 h.2⟩
end Go.Proofs.YtnjnadlgndjnbaaDoor.Q
end
end
