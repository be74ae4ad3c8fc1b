/- Plain laws of the reference of chapter 5: prefixes and signs. -/
import Derived.Test.YtgkhpecllhiidaaDoorPb
import Derived.Test.YtgkhpecllhiidaaDoorHf
import Derived.Lib.IndexAny
set_option linter.unusedVariables false
set_option linter.unusedSimpArgs false
namespace Go.Proofs.YtgkhpecllhiidaaDoor.Q
open Go.RowKit Go.Proofs.YtgkhpecllhiidaaDoorW.PrintWords Go.Proofs.YtgkhpecllhiidaaDoorW.PrintLast Go.Proofs.YtgkhpecllhiidaaDoorW.PrintMore

/-- Does a text begin with another one? -/
def hp (x t : ByteArray) : Bool := decide (t.size ≤ x.size) && ((x.extract 0 t.size).toList == t.toList)
theorem hp_eq (x t : ByteArray) : strings_HasPrefix.f x t = some (hp x t) := by
  unfold strings_HasPrefix.f stringslite_HasPrefix.f hp
  by_cases h : t.size ≤ x.size
  · rw [if_pos (by omega), if_pos (by omega), if_pos (by omega), Int.toNat_natCast, decide_eq_true h, Bool.true_and]; rfl
  · rw [if_neg (by omega), decide_eq_false h, Bool.false_and]; rfl
theorem hp_list (x t : ByteArray) : hp x t = (t.data.toList.isPrefixOf x.data.toList) := by
  unfold hp
  rw [Bool.eq_iff_iff, Bool.and_eq_true, decide_eq_true_iff, beq_iff_eq, List.isPrefixOf_iff_prefix, ByteArray.toList_eq, ByteArray.toList_eq, ByteArray.data_extract, Array.toList_extract, List.extract_eq_take_drop]
  have hx : x.size = x.data.toList.length := by simp
  have ht : t.size = t.data.toList.length := by simp
  rw [hx, ht, List.drop_zero, Nat.sub_zero, List.prefix_iff_eq_take]
  constructor
  · rintro ⟨_, h⟩; exact h.symm
  · intro h
    refine ⟨?_, h.symm⟩
    rw [h, List.length_take]; omega
/-- The signs of two bytes. -/
def pairOk (a b : UInt8) : Bool := (a == 60 && b == 60) || (a == 62 && b == 62) || (a == 61 && b == 61) || (a == 33 && b == 61) || (a == 60 && b == 61) || (a == 62 && b == 61)
theorem contains_cons (c : UInt8) (l sub : List UInt8) : Lib.contains (c :: l) sub = (sub.isPrefixOf (c :: l) || Lib.contains l sub) := by
  unfold Lib.contains
  rw [Lib.index]
  cases h : sub.isPrefixOf (c :: l)
  · simp only [Bool.false_eq_true, if_false, Bool.false_or]
    rw [decide_eq_decide]
    have := Lib.index_ge l sub
    by_cases h1 : Lib.index l sub = -1
    · simp [h1]
    · rw [if_neg (by simpa using h1)]; omega
  · simp
theorem two_pair (a b : UInt8) (ha : a ≠ 32) (hb : b ≠ 32) : Lib.contains Lx.twoBytes [a, b] = pairOk a b := by
  have ha' : (a == 32) = false := beq_eq_false_iff_ne.2 ha
  have hb' : (b == 32) = false := beq_eq_false_iff_ne.2 hb
  have h0 : Lib.contains [] [a, b] = false := rfl
  unfold Lx.twoBytes pairOk
  simp only [contains_cons, h0, List.isPrefixOf, Bool.and_true, ha', hb', Bool.false_and, Bool.and_false, Bool.or_false, Bool.false_or]
  simp only [Bool.or_assoc]

theorem ext_list {x y : ByteArray} (h : x.data.toList = y.data.toList) : x = y := by
  have : x.data = y.data := Array.toList_inj.1 h
  cases x; cases y; simp_all
theorem extract_list (s : ByteArray) (i j : Nat) : (s.extract i j).data.toList = (s.data.toList.drop i).take (j - i) := by
  rw [ByteArray.data_extract, Array.toList_extract, List.extract_eq_take_drop]
theorem extract_end (s : ByteArray) (i : Nat) : (s.extract i s.size).data.toList = s.data.toList.drop i := by
  rw [extract_list, List.take_of_length_le]
  simp
def pairL : List (UInt8 × UInt8) := [(60, 60), (62, 62), (61, 61), (33, 61), (60, 61), (62, 61)]
def signL : List ByteArray := pairL.map (fun p => ⟨#[p.1, p.2]⟩) ++ Lx.oneBytes.map (fun c => ⟨#[c]⟩)
theorem signs_eq : lamplighterref05_signs.f = some signL := rfl
theorem find_ones (x : ByteArray) (c0 : UInt8) (r : List UInt8) (hx : x.data.toList = c0 :: r) : ∀ L : List UInt8, (L.map fun c => (⟨#[c]⟩ : ByteArray)).find? (hp x) = if L.contains c0 then some ⟨#[c0]⟩ else none := by
  intro L; induction L with
  | nil => rfl
  | cons c L ih =>
    rw [List.map_cons, List.find?_cons, hp_list, hx, List.contains_cons]
    simp only [List.isPrefixOf, Bool.and_true]
    by_cases h : c = c0
    · subst h; simp
    · have h1 : (c == c0) = false := beq_eq_false_iff_ne.2 h
      have h2 : (c0 == c) = false := beq_eq_false_iff_ne.2 (Ne.symm h)
      rw [h1, h2, Bool.false_or]; exact ih
theorem find_pairs (x : ByteArray) (c0 c1 : UInt8) (r : List UInt8) (hx : x.data.toList = c0 :: c1 :: r) : ∀ L : List (UInt8 × UInt8), (L.map fun p => (⟨#[p.1, p.2]⟩ : ByteArray)).find? (hp x) = if L.contains (c0, c1) then some ⟨#[c0, c1]⟩ else none := by
  intro L; induction L with
  | nil => rfl
  | cons c L ih =>
    obtain ⟨a, b⟩ := c
    rw [List.map_cons, List.find?_cons, hp_list, hx, List.contains_cons]
    simp only [List.isPrefixOf, Bool.and_true]
    by_cases h : (a, b) = (c0, c1)
    · injection h with h1 h2; subst h1 h2; simp
    · have h1 : (a == c0 && b == c1) = false := by
        rw [Bool.and_eq_false_iff, beq_eq_false_iff_ne, beq_eq_false_iff_ne]
        by_cases e : a = c0
        · exact .inr (fun e2 => h (by rw [e, e2]))
        · exact .inl e
      have h2 : ((c0, c1) == (a, b)) = false := beq_eq_false_iff_ne.2 (Ne.symm h)
      rw [h1, h2, Bool.false_or]; exact ih
theorem find_pairs_short (x : ByteArray) (c0 : UInt8) (hx : x.data.toList = [c0]) : ∀ L : List (UInt8 × UInt8), (L.map fun p => (⟨#[p.1, p.2]⟩ : ByteArray)).find? (hp x) = none := by
  intro L; induction L with
  | nil => rfl
  | cons c L ih =>
    rw [List.map_cons, List.find?_cons, hp_list, hx]
    simp only [List.isPrefixOf, Bool.and_false]
    exact ih
theorem pair_mem (a b : UInt8) : pairL.contains (a, b) = pairOk a b := by
  unfold pairL pairOk
  simp only [List.contains_cons, List.contains_nil, Bool.or_false]
  simp only [Bool.or_assoc]
  rfl
theorem one_mem (c : UInt8) : Lx.one (c.toNat : Int) = Lx.oneBytes.contains c := by
  unfold Lx.one Lx.oneC
  rw [Int.toNat_natCast, Nat.toUInt8_eq, UInt8.ofNat_toNat, ← Lib.contains_iff_indexByte]
  by_cases h : c = 0
  · subst h; decide
  · have : ((c.toNat : Int) != 0) = true := by
      rw [bne_iff_ne]; intro e; apply h
      have : c.toNat = 0 := by omega
      exact UInt8.toNat_inj.1 this
    rw [this, Bool.and_true]
theorem bt_head {s : ByteArray} {i : Nat} {c0 : UInt8} {r : List UInt8} (h : s.data.toList.drop i = c0 :: r) : Lx.bt s i = (c0.toNat : Int) := by
  rw [Lx.bt_list, List.getD_eq_getElem?_getD]
  have : (s.data.toList.drop i)[0]? = some c0 := by rw [h]; rfl
  rw [List.getElem?_drop, Nat.add_zero] at this
  rw [this]; rfl
theorem drop_succ {l r : List UInt8} {i : Nat} {c0 : UInt8} (h : l.drop i = c0 :: r) : l.drop (i + 1) = r := by
  rw [Nat.add_comm, ← List.drop_drop] at *
  have : (l.drop i).drop 1 = r := by rw [h]; rfl
  rw [List.drop_drop] at this ⊢
  rwa [Nat.add_comm] at this
theorem two_eq (s : ByteArray) (i : Nat) (c0 c1 : UInt8) (r : List UInt8) (h : s.data.toList.drop i = c0 :: c1 :: r) : Lx.two s i = pairOk c0 c1 := by
  have hl : i + 2 ≤ s.size := by
    have := congrArg List.length h
    simp at this; omega
  have h1 := drop_succ h
  unfold Lx.two Lx.twoC
  rw [extract_list, show i + 2 - i = 2 from by omega, h, bt_head h, bt_head h1, decide_eq_true hl, Bool.true_and]
  show ((c0.toNat : Int) != 32 && (c1.toNat : Int) != 32 && Lib.contains Lx.twoBytes [c0, c1]) = pairOk c0 c1
  have e32 : ∀ c : UInt8, ((c.toNat : Int) != 32) = (c != 32) := by
    intro c
    rw [Bool.eq_iff_iff, bne_iff_ne, bne_iff_ne]
    constructor
    · intro h e; subst e; exact h rfl
    · intro h e; apply h; exact UInt8.toNat_inj.1 (by have : c.toNat = 32 := by omega
                                                      rw [this]; rfl)
  rw [e32, e32]
  by_cases ha : c0 = 32
  · subst ha; simp [pairOk]
  · by_cases hb : c1 = 32
    · subst hb; simp [pairOk]
    · rw [two_pair c0 c1 ha hb, bne_iff_ne.2 ha, bne_iff_ne.2 hb]; rfl
/-- The reference's sign at i is ours. -/
theorem sign_find (s : ByteArray) (i : Nat) (hi : i < s.size) : signL.find? (hp (s.extract i s.size)) = if Lx.signLen s i = 0 then none else some (s.extract i (i + Lx.signLen s i)) := by
  have hx := extract_end s i
  cases hd : s.data.toList.drop i with
  | nil => have := congrArg List.length hd; simp at this; omega
  | cons c0 r =>
    rw [hd] at hx
    have hone : Lx.one (Lx.bt s i) = Lx.oneBytes.contains c0 := by rw [bt_head hd, one_mem]
    have e1 : s.extract i (i + 1) = ⟨#[c0]⟩ := ext_list (by rw [extract_list, hd, show i + 1 - i = 1 from by omega]; rfl)
    unfold signL Lx.signLen
    rw [List.find?_append, find_ones _ c0 r hx, hone]
    cases r with
    | nil =>
      have h2 : Lx.two s i = false := by
        have : ¬ (i + 2 ≤ s.size) := by
          have := congrArg List.length hd; simp at this; omega
        unfold Lx.two; rw [decide_eq_false this]; rfl
      rw [find_pairs_short _ c0 hx, h2]
      cases Lx.oneBytes.contains c0 <;> simp [e1]
    | cons c1 r =>
      have e2 : s.extract i (i + 2) = ⟨#[c0, c1]⟩ := ext_list (by rw [extract_list, hd, show i + 2 - i = 2 from by omega]; rfl)
      rw [find_pairs _ c0 c1 r hx, pair_mem, two_eq s i c0 c1 r hd]
      cases pairOk c0 c1 <;> cases Lx.oneBytes.contains c0 <;> simp [e1, e2]
end Go.Proofs.YtgkhpecllhiidaaDoor.Q
