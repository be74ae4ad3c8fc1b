/- Plain laws of chapter 5: tokens joined. -/
import Derived.Test.YtgkhpecllhiidaaDoorPf
set_option linter.unusedVariables false
set_option linter.unusedSimpArgs false
namespace Go.Proofs.YtgkhpecllhiidaaDoor.Q
open Go.RowKit Go.Proofs.YtgkhpecllhiidaaDoorW.PrintWords Go.Proofs.YtgkhpecllhiidaaDoorW.PrintLast Go.Proofs.YtgkhpecllhiidaaDoorW.PrintMore
open Lx (adv clampI)

/-- Texts joined with blanks. -/
def joinT (l : List ByteArray) : ByteArray := joinB l ⟨#[32]⟩
theorem ba_append (x y : ByteArray) : (x ++ y).data.toList = x.data.toList ++ y.data.toList := by
  rw [ByteArray.data_append, Array.toList_append]
theorem rd_at (l : List S59) (i : Nat) (h : i < l.length) : rd_T59 l (i : Int) = l[i] := by
  unfold rd_T59
  rw [Int.toNat_natCast, List.getD_eq_getElem?_getD, List.getElem?_eq_getElem h]; rfl
def totalT (l : List S59) : Nat := (l.map fun t => t.f1.size + 1).sum
theorem joinB_snoc (xs : List ByteArray) (x : ByteArray) (h : xs ≠ []) : joinB (xs ++ [x]) ⟨#[32]⟩ = (joinB xs ⟨#[32]⟩ ++ ⟨#[32]⟩) ++ x := by
  refine ext_list ?_
  unfold joinB
  rw [ba_append, ba_append]
  cases xs with
  | nil => exact absurd rfl h
  | cons y ys =>
    simp only [List.cons_append, List.map_cons, List.map_append, List.map_nil, Lib.join_cons, Lib.joinTail, List.flatten_append]
    simp
theorem joinB_size_snoc (xs : List ByteArray) (x : ByteArray) : (joinB (xs ++ [x]) ⟨#[32]⟩).size ≤ (joinB xs ⟨#[32]⟩).size + 1 + x.size := by
  cases xs with
  | nil =>
    have : joinB ([] ++ [x]) ⟨#[32]⟩ = x := ext_list (by simp [joinB, Lib.join_one])
    rw [this]; omega
  | cons y ys =>
    rw [joinB_snoc _ _ (by simp)]
    simp [ByteArray.size_append]
    have : (⟨#[32]⟩ : ByteArray).size = 1 := rfl
    omega
end Go.Proofs.YtgkhpecllhiidaaDoor.Q
