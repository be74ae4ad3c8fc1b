/- Parse: what parse.Expr answers; what it answers of brackets around an expression. -/
import Derived.Test.YtnjnadlgndjnbaaDoorZFc
import Derived.Test.YtnjnadlgndjnbaaDoorZFd
import Derived.Test.YtnjnadlgndjnbaaDoorZGs
set_option linter.unusedVariables false
set_option linter.unusedSimpArgs false
namespace Go.Proofs.YtnjnadlgndjnbaaDoor.Fp
open Go.RowKit Go.Proofs.YtnjnadlgndjnbaaDoor.Q
open Lx (adv lexAll Tk LexR)
open Go.Proofs.YtnjnadlgndjnbaaDoor.A (sameE checkN checkN_no long_no tooLong rightN rightE rightEs exprB Nd)
abbrev Flt := Int × Int × Int
def zE : SE := ⟨0, 0, 0, 0, ⟨#[]⟩, []⟩
def posOf (s : ByteArray) (ts : List Tk) (r : List Key) : Int × Int := match ts.drop (ts.length - r.length) with
  | [] => adv s 0 (1, 1) s.size
  | t :: _ => (t.line, t.col)
def syn (s : ByteArray) (ts : List Tk) (r : List Key) : Flt := (14, posOf s ts r)
def judged (e : SE) : SE × Flt := if checkN [.ex e] = 0 then (e, 0, 0, 0) else if checkN [.ex e] = 3 then (zE, 3, 0, 0) else (zE, 14, 0, 0)
def parseRes (s : ByteArray) : SE × Flt := match (lexAll s).2 with
  | some lc => (zE, 11, lc)
  | none => match parseK (keys (lexAll s).1) with
    | some (.ok e []) => judged e
    | some (.ok e r) => (zE, syn s (lexAll s).1 r)
    | some (.bad r) => (zE, syn s (lexAll s).1 r)
    | none => (zE, 0, 0, 0)
theorem judged_ok {e x : SE} (h : judged e = (x, 0, 0, 0)) : x = e ∧ checkN [.ex e] = 0 := by
  unfold judged at h
  split at h
  · next h0 => simp only [Prod.mk.injEq] at h; exact ⟨h.1.symm, h0⟩
  · split at h <;> (simp only [Prod.mk.injEq] at h; exact absurd h.2.1 (by decide))
theorem res_ok {s : ByteArray} {e : SE} (h : parseRes s = (e, 0, 0, 0)) : ∃ ts, lexAll s = (ts, none) ∧ parseK (keys ts) = some (.ok e []) ∧ checkN [.ex e] = 0 := by
  unfold parseRes at h
  cases hl : (lexAll s).2 with
  | some lc => rw [hl] at h; simp only [Prod.mk.injEq] at h; exact absurd h.2.1 (by decide)
  | none =>
    rw [hl] at h
    cases hp : parseK (keys (lexAll s).1) with
    | none => exact absurd hp (parseK_some _)
    | some y =>
      rw [hp] at h
      cases y with
      | bad r => unfold syn at h; simp only [Prod.mk.injEq] at h; exact absurd h.2.1 (by decide)
      | ok x r =>
        cases r with
        | cons k r => unfold syn at h; simp only [Prod.mk.injEq] at h; exact absurd h.2.1 (by decide)
        | nil =>
          obtain ⟨rfl, hc⟩ := judged_ok h
          exact ⟨(lexAll s).1, by rw [← hl], hp, hc⟩
theorem res_of {y : ByteArray} {ks : List Key} {e : SE} (h1 : keys (lexAll y).1 = ks) (h2 : (lexAll y).2 = none) (h3 : parseK ks = some (.ok e [])) : parseRes y = judged e := by
  unfold parseRes
  rw [h2, h1, h3]
def Good (e : SE) : Prop := judged e = (e, 0, 0, 0) ∨ judged e = (zE, 3, 0, 0)
theorem right_of {e : SE} (h : checkN [.ex e] = 0) : rightE exprB e = true := (checkN_no h).2 (.ex e) (List.mem_singleton.2 rfl)
theorem good_of {e : SE} (h : rightE exprB e = true) : Good e := by
  unfold Good judged checkN
  have : ([Nd.ex e].all rightN) = true := by simp only [List.all_cons, List.all_nil, Bool.and_true]; exact h
  rw [this]
  cases tooLong 0 [Nd.ex e] <;> simp
theorem right_one {e : SE} (h : rightE exprB e = true) : rightEs exprB [e] = true := by rw [rightEs, rightEs, h]; rfl
theorem good_index {e : SE} (h : rightE exprB e = true) : Good (eIndex [113] e) := good_of (by
  show rightE exprB ⟨3, 0, 0, 0, ⟨#[113]⟩, [e]⟩ = true
  rw [rightE, right_one h, Bool.and_true]
  have hn : A.nameB ⟨#[113]⟩ = true := by kernel_rfl
  simp [exprB, A.sameB, hn])
theorem good_call {e : SE} (h : rightE exprB e = true) : Good (eCall [113] [e]) := good_of (by
  show rightE exprB ⟨4, 0, 0, 0, ⟨#[113]⟩, [e]⟩ = true
  rw [rightE, right_one h, Bool.and_true]
  have hn : A.nameB ⟨#[113]⟩ = true := by kernel_rfl
  simp [exprB, A.sameB, hn])
theorem good_cast {e : SE} (h : rightE exprB e = true) : Good (eCast 2 e) := good_of (by
  show rightE exprB ⟨7, 0, 2, 0, ⟨#[]⟩, [e]⟩ = true
  rw [rightE, right_one h, Bool.and_true]
  simp [exprB, A.sameB, A.widthI])
theorem good_not {e : SE} (h : rightE exprB e = true) : Good (eUn 3 e) := good_of (by
  show rightE exprB ⟨5, 3, 0, 0, ⟨#[]⟩, [e]⟩ = true
  rw [rightE, right_one h, Bool.and_true]
  have hn : ((A.wordName 3).toList != []) = true := by kernel_rfl
  have hn' : ¬ (A.wordName 3).toList = [] := by simpa using hn
  simp [exprB, A.sameB, hn'])
theorem brackets {s : ByteArray} (hs : s.size ≤ 3000) {e : SE} (h : parseRes s = (e, 0, 0, 0)) :
    parseRes (((⟨#[40]⟩ : ByteArray) ++ s) ++ ⟨#[10, 41]⟩) = (e, 0, 0, 0) ∧ parseRes (((⟨#[40, 32, 40]⟩ : ByteArray) ++ s) ++ ⟨#[10, 41, 41]⟩) = (e, 0, 0, 0) ∧
    parseRes (((⟨#[113, 91]⟩ : ByteArray) ++ s) ++ ⟨#[10, 93]⟩) = judged (eIndex [113] e) ∧ parseRes (((⟨#[113, 40]⟩ : ByteArray) ++ s) ++ ⟨#[10, 41]⟩) = judged (eCall [113] [e]) ∧
    parseRes (((⟨#[117, 49, 54, 40]⟩ : ByteArray) ++ s) ++ ⟨#[10, 41]⟩) = judged (eCast 2 e) ∧ parseRes (((⟨#[33, 40]⟩ : ByteArray) ++ s) ++ ⟨#[10, 41]⟩) = judged (eUn 3 e) ∧
    Good (eIndex [113] e) ∧ Good (eCall [113] [e]) ∧ Good (eCast 2 e) ∧ Good (eUn 3 e) := by
  obtain ⟨ts, hl, hp, hc⟩ := res_ok h
  have hr := right_of hc
  have hj : judged e = (e, 0, 0, 0) := by unfold judged; rw [if_pos hc]
  have hs' : s.size < 9223372036854775000 := by omega
  have hy : ∀ a b : ByteArray, a.size ≤ 10 → b.size ≤ 10 → ((a ++ s) ++ b).size < 9223372036854775000 := fun a b ha hb => by simp; omega
  refine ⟨?_, ?_, ?_, ?_, ?_, ?_, good_index hr, good_call hr, good_cast hr, good_not hr⟩
  · have W := wrap_of ⟨#[40]⟩ s ⟨#[10, 41]⟩
    have y1 := hy ⟨#[40]⟩ ⟨#[10, 41]⟩ (by decide) (by decide)
    obtain ⟨k1, k2⟩ := wrapped W hs' y1 rfl (pre_one W y1) (post_one 41 (.inl rfl) W y1) hl
    rw [res_of k1 k2 (par_same hp), hj]
  · have W := wrap_of ⟨#[40, 32, 40]⟩ s ⟨#[10, 41, 41]⟩
    have y1 := hy ⟨#[40, 32, 40]⟩ ⟨#[10, 41, 41]⟩ (by decide) (by decide)
    obtain ⟨k1, k2⟩ := wrapped W hs' y1 rfl (pre_two W y1) (post_two W y1) hl
    rw [res_of k1 k2 (par_twice hp), hj]
  · have W := wrap_of ⟨#[113, 91]⟩ s ⟨#[10, 93]⟩
    have y1 := hy ⟨#[113, 91]⟩ ⟨#[10, 93]⟩ (by decide) (by decide)
    obtain ⟨k1, k2⟩ := wrapped W hs' y1 rfl (pre_word 91 (.inl rfl) W y1) (post_one 93 (.inr rfl) W y1) hl
    rw [res_of k1 k2 (index_of hp)]
  · have W := wrap_of ⟨#[113, 40]⟩ s ⟨#[10, 41]⟩
    have y1 := hy ⟨#[113, 40]⟩ ⟨#[10, 41]⟩ (by decide) (by decide)
    obtain ⟨k1, k2⟩ := wrapped W hs' y1 rfl (pre_word 40 (.inr rfl) W y1) (post_one 41 (.inl rfl) W y1) hl
    rw [res_of k1 k2 (call_of hp)]
  · have W := wrap_of ⟨#[117, 49, 54, 40]⟩ s ⟨#[10, 41]⟩
    have y1 := hy ⟨#[117, 49, 54, 40]⟩ ⟨#[10, 41]⟩ (by decide) (by decide)
    obtain ⟨k1, k2⟩ := wrapped W hs' y1 rfl (pre_cast W y1) (post_one 41 (.inl rfl) W y1) hl
    rw [res_of k1 k2 (cast_of hp)]
  · have W := wrap_of ⟨#[33, 40]⟩ s ⟨#[10, 41]⟩
    have y1 := hy ⟨#[33, 40]⟩ ⟨#[10, 41]⟩ (by decide) (by decide)
    obtain ⟨k1, k2⟩ := wrapped W hs' y1 rfl (pre_not W y1) (post_one 41 (.inl rfl) W y1) hl
    rw [res_of k1 k2 (not_of hp)]
end Go.Proofs.YtnjnadlgndjnbaaDoor.Fp
