/- Parse: what an expression's source is read as_; of two operators the stronger one binds (256 cases, by computing). -/
import Derived.Test.YtnjnadlgndjnbaaDoorYFd
import Derived.Test.YtnjnadlgndjnbaaDoorYHh
import Derived.Test.YtnjnadlgndjnbaaDoorYGs
set_option linter.unusedVariables false
set_option linter.unusedSimpArgs false
namespace Go.Proofs.YtnjnadlgndjnbaaDoor.Fp
open Lx (lexAll Tk LexR)
open Go.Proofs.YtnjnadlgndjnbaaDoor.A (sameE checkN)
def key' (t : Tk) : Key := (t.kind, t.text.data.toList, t.num)
def exprS (s : ByteArray) : Option SE := match lexAll s with
  | (ts, none) => match parseK (ts.map key') with
    | some (.ok e []) => if checkN [.ex e] = 0 then some e else none
    | _ => none
  | _ => none
def opS : List ByteArray := [⟨#[124]⟩, ⟨#[94]⟩, ⟨#[38]⟩, ⟨#[61, 61]⟩, ⟨#[33, 61]⟩, ⟨#[60]⟩, ⟨#[60, 61]⟩, ⟨#[62]⟩, ⟨#[62, 61]⟩, ⟨#[60, 60]⟩, ⟨#[62, 62]⟩, ⟨#[43]⟩, ⟨#[45]⟩, ⟨#[42]⟩, ⟨#[47]⟩, ⟨#[37]⟩]
def src1 (x y : ByteArray) : ByteArray := ((((⟨#[97, 32]⟩ : ByteArray) ++ x) ++ ⟨#[32, 98, 32]⟩) ++ y) ++ ⟨#[32, 99]⟩
def src2 (x y : ByteArray) : ByteArray := ((((⟨#[40, 97, 32]⟩ : ByteArray) ++ x) ++ ⟨#[32, 98, 41, 32]⟩) ++ y) ++ ⟨#[32, 99]⟩
def src3 (x y : ByteArray) : ByteArray := ((((⟨#[97]⟩ : ByteArray) ++ x) ++ ⟨#[40, 98]⟩) ++ y) ++ ⟨#[99, 41]⟩
def levelI (op : Int) : Int := ((List.range 9).find? fun n => (levelOps n).any fun o => o.2 == op).getD 0
def bindsB (x y : ByteArray) : Bool := match exprS (src1 x y), exprS (src2 x y), exprS (src3 x y) with
  | some e, some l, some r => !sameE l r && (if levelI l.f1 > levelI r.f1 then sameE e r else sameE e l)
  | _, _, _ => false
def bindsRow (x : ByteArray) : Bool := opS.all fun y => bindsB x y
theorem binds_0 : bindsRow ⟨#[124]⟩ = true := by kernel_rfl
theorem binds_1 : bindsRow ⟨#[94]⟩ = true := by kernel_rfl
theorem binds_2 : bindsRow ⟨#[38]⟩ = true := by kernel_rfl
theorem binds_3 : bindsRow ⟨#[61, 61]⟩ = true := by kernel_rfl
theorem binds_4 : bindsRow ⟨#[33, 61]⟩ = true := by kernel_rfl
theorem binds_5 : bindsRow ⟨#[60]⟩ = true := by kernel_rfl
theorem binds_6 : bindsRow ⟨#[60, 61]⟩ = true := by kernel_rfl
theorem binds_7 : bindsRow ⟨#[62]⟩ = true := by kernel_rfl
theorem binds_8 : bindsRow ⟨#[62, 61]⟩ = true := by kernel_rfl
theorem binds_9 : bindsRow ⟨#[60, 60]⟩ = true := by kernel_rfl
theorem binds_10 : bindsRow ⟨#[62, 62]⟩ = true := by kernel_rfl
theorem binds_11 : bindsRow ⟨#[43]⟩ = true := by kernel_rfl
theorem binds_12 : bindsRow ⟨#[45]⟩ = true := by kernel_rfl
theorem binds_13 : bindsRow ⟨#[42]⟩ = true := by kernel_rfl
theorem binds_14 : bindsRow ⟨#[47]⟩ = true := by kernel_rfl
theorem binds_15 : bindsRow ⟨#[37]⟩ = true := by kernel_rfl
theorem binds_all : ∀ x ∈ opS, ∀ y ∈ opS, bindsB x y = true := by
  intro x hx y hy
  have h : bindsRow x = true := by
    unfold opS at hx
    simp only [List.mem_cons, List.not_mem_nil, or_false] at hx
    rcases hx with rfl | rfl | rfl | rfl | rfl | rfl | rfl | rfl | rfl | rfl | rfl | rfl | rfl | rfl | rfl | rfl
    · exact binds_0
    · exact binds_1
    · exact binds_2
    · exact binds_3
    · exact binds_4
    · exact binds_5
    · exact binds_6
    · exact binds_7
    · exact binds_8
    · exact binds_9
    · exact binds_10
    · exact binds_11
    · exact binds_12
    · exact binds_13
    · exact binds_14
    · exact binds_15
  exact List.all_eq_true.1 h y hy
end Go.Proofs.YtnjnadlgndjnbaaDoor.Fp
