/- Plain laws of the reference of chapter 5: lines, and tokens joined. -/
import Derived.Test.YtgkhpecllhiidaaDoorPf
import Derived.Test.YtgkhpecllhiidaaDoorQx4c
set_option linter.unusedVariables false
set_option linter.unusedSimpArgs false
namespace Go.Proofs.YtgkhpecllhiidaaDoor.Q
open Go.RowKit Go.Proofs.YtgkhpecllhiidaaDoorW.PrintWords Go.Proofs.YtgkhpecllhiidaaDoorW.PrintLast Go.Proofs.YtgkhpecllhiidaaDoorW.PrintMore
open Lx (adv clampI)

theorem line_loop (s : ByteArray) (a : Int) (hs : s.size < 9223372036854770000) : ∀ (n k i : Nat), Lx.clampI s a - i = n → 2 * n + 2 < k → i ≤ Lx.clampI s a →
    lamplighterref05_Line.l0 k s a (adv s 0 (1, 1) i).1 (adv s 0 (1, 1) i).2 (i : Int) = some (adv s 0 (1, 1) (Lx.clampI s a)) := by
  have hc : ((Lx.clampI s a : Nat) : Int) = min (s.size : Int) (max 0 a) := by unfold Lx.clampI; omega
  intro n; induction n with
  | zero =>
    intro k i h1 h2 h3
    obtain rfl : i = Lx.clampI s a := by omega
    cases k with
    | zero => omega
    | succ k =>
    rw [lamplighterref05_Line.l0]
    cases k with
    | zero => omega
    | succ k =>
    by_cases h : ((Lx.clampI s a : Nat) : Int) < a
    · have hd : decide (((Lx.clampI s a : Nat) : Int) < (s.size : Int)) = false := by rw [decide_eq_false_iff_not]; omega
      rw [if_pos h, hd, lamplighterref05_Line.j1, if_neg (by simp)]
    · rw [if_neg h, lamplighterref05_Line.j1, if_neg (by simp)]
  | succ n ih =>
    intro k i h1 h2 h3
    cases k with
    | zero => omega
    | succ k =>
    rw [lamplighterref05_Line.l0]
    cases k with
    | zero => omega
    | succ k =>
    have hd : decide ((i : Int) < (s.size : Int)) = true := by rw [decide_eq_true_iff]; omega
    have hb := Lx.adv_bound s 0 (1, 1) (by simp) (by simp) i
    rw [if_pos (by omega), hd, lamplighterref05_Line.j1, if_pos rfl, if_pos (by omega), if_pos (by omega), bt_nat, w64 i (by omega)]
    have hi := ih k (i + 1) (by omega) (by omega) (by omega)
    have ha : adv s 0 (1, 1) (i + 1) = if Lx.bt s i = 10 then ((adv s 0 (1, 1) i).1 + 1, 1) else ((adv s 0 (1, 1) i).1, (adv s 0 (1, 1) i).2 + 1) := by
      rw [adv]; simp only [Nat.zero_add]
    simp only at hb
    by_cases h10 : Lx.bt s i = 10
    · rw [if_pos h10] at ha ⊢
      rw [ha] at hi
      rw [w64a _ (by omega)]; exact hi
    · rw [if_neg h10] at ha ⊢
      rw [ha] at hi
      rw [w64a _ (by omega)]; exact hi
theorem line_eq (s : ByteArray) (a : Int) (hs : s.size < 9223372036854770000) (k : Nat) (hk : 2 * s.size + 2 < k) : lamplighterref05_Line.f k s a = some (adv s 0 (1, 1) (Lx.clampI s a)) := by
  have h : Lx.clampI s a ≤ s.size := by unfold Lx.clampI; omega
  exact line_loop s a hs (Lx.clampI s a) k 0 (by omega) (by omega) (by omega)

/-- Texts joined with blanks. -/
def joinT (l : List ByteArray) : ByteArray := joinB l ⟨#[32]⟩
theorem ba_append (x y : ByteArray) : (x ++ y).data.toList = x.data.toList ++ y.data.toList := by
  rw [ByteArray.data_append, Array.toList_append]
theorem rd_at (l : List S59) (i : Nat) (h : i < l.length) : rd_T59 l (i : Int) = l[i] := by
  unfold rd_T59
  rw [Int.toNat_natCast, List.getD_eq_getElem?_getD, List.getElem?_eq_getElem h]; rfl
def totalT (l : List S59) : Nat := (l.map fun t => t.f1.size + 1).sum
theorem joinB_snoc (xs : List ByteArray) (x : ByteArray) (h : xs ≠ []) : joinB (xs ++ [x]) ⟨#[32]⟩ = (joinB xs ⟨#[32]⟩ ++ ⟨#[32]⟩) ++ x := by
  refine ext_list ?_
  unfold joinB
  rw [ba_append, ba_append]
  cases xs with
  | nil => exact absurd rfl h
  | cons y ys =>
    simp only [List.cons_append, List.map_cons, List.map_append, List.map_nil, Lib.join_cons, Lib.joinTail, List.flatten_append]
    simp
theorem joinB_size_snoc (xs : List ByteArray) (x : ByteArray) : (joinB (xs ++ [x]) ⟨#[32]⟩).size ≤ (joinB xs ⟨#[32]⟩).size + 1 + x.size := by
  cases xs with
  | nil =>
    have : joinB ([] ++ [x]) ⟨#[32]⟩ = x := ext_list (by simp [joinB, Lib.join_one])
    rw [this]; omega
  | cons y ys =>
    rw [joinB_snoc _ _ (by simp)]
    simp [ByteArray.size_append]
    have : (⟨#[32]⟩ : ByteArray).size = 1 := rfl
    omega
end Go.Proofs.YtgkhpecllhiidaaDoor.Q
