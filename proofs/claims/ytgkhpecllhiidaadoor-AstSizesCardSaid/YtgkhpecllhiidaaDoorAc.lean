/- Package ast: nodes, as they lie in memory; (node).size. -/
import Derived.Test.YtgkhpecllhiidaaDoorAb
import Derived.Test.YtgkhpecllhiidaaDoorAx0
set_option linter.unusedVariables false
set_option linter.unusedSimpArgs false
namespace Go.Proofs.YtgkhpecllhiidaaDoor.A
open Go.RowKit Go.Shelf Go.Proofs.YtgkhpecllhiidaaDoor.As Go.Proofs.YtgkhpecllhiidaaDoorW.PrintWords Go.Proofs.YtgkhpecllhiidaaDoorW.PrintLast Go.Proofs.YtgkhpecllhiidaaDoorW.PrintMore

abbrev SE := S25
abbrev SS := S38
abbrev kE := k25
abbrev kS := k38
mutual
def sizeE : SE → Nat
  | ⟨_, _, _, _, _, l⟩ => 1 + sizeEs l
def sizeEs : List SE → Nat
  | [] => 0
  | e :: l => sizeE e + sizeEs l
end
mutual
def deepE : SE → Nat
  | ⟨_, _, _, _, _, l⟩ => 1 + deepEs l
def deepEs : List SE → Nat
  | [] => 0
  | e :: l => max (deepE e) (deepEs l)
end
mutual
def sizeS : SS → Nat
  | ⟨_, _, _, _, _, _, i, x, t, e⟩ => 1 + (sizeEs i + sizeEs x + sizeSs t + sizeSs e)
def sizeSs : List SS → Nat
  | [] => 0
  | s :: l => sizeS s + sizeSs l
end
mutual
def deepS : SS → Nat
  | ⟨_, _, _, _, _, _, i, x, t, e⟩ => 1 + max (max (deepEs i) (deepEs x)) (max (deepSs t) (deepSs e))
def deepSs : List SS → Nat
  | [] => 0
  | s :: l => max (deepS s) (deepSs l)
end
/-- A node: an expression, or a statement. -/
inductive Nd where
  | ex (e : SE)
  | st (s : SS)
def Nd.size : Nd → Nat
  | .ex e => sizeE e
  | .st s => sizeS s
def Nd.deep : Nd → Nat
  | .ex e => deepE e
  | .st s => deepS s
def Nd.kids : Nd → List Nd
  | .ex e => e.f5.map .ex
  | .st s => s.f6.map .ex ++ s.f7.map .ex ++ s.f8.map .st ++ s.f9.map .st
def sizes (l : List Nd) : Nat := (l.map Nd.size).sum
def deeps (l : List Nd) : Nat := l.foldl (fun c x => max c x.deep) 0
theorem sizes_ex (l : List SE) : sizes (l.map .ex) = sizeEs l := by
  induction l with
  | nil => rfl
  | cons e l ih => rw [List.map_cons, sizeEs, ← ih]; rfl
theorem sizes_st (l : List SS) : sizes (l.map .st) = sizeSs l := by
  induction l with
  | nil => rfl
  | cons e l ih => rw [List.map_cons, sizeSs, ← ih]; rfl
theorem sizes_append (a b : List Nd) : sizes (a ++ b) = sizes a + sizes b := by unfold sizes; rw [List.map_append, List.sum_append]
theorem Nd.size_kids (n : Nd) : n.size = 1 + sizes n.kids := by
  cases n with
  | ex e => obtain ⟨_, _, _, _, _, l⟩ := e; show sizeE _ = _; rw [sizeE]; unfold Nd.kids; rw [sizes_ex]
  | st s => obtain ⟨_, _, _, _, _, _, i, x, t, e⟩ := s; show sizeS _ = _; rw [sizeS]; unfold Nd.kids; simp only [sizes_append, sizes_ex, sizes_st]
theorem deep_mem_E {l : List SE} {e : SE} (h : e ∈ l) : deepE e ≤ deepEs l := by
  induction l with
  | nil => cases h
  | cons x l ih =>
    rw [deepEs]
    rcases List.mem_cons.1 h with rfl | h
    · omega
    · have := ih h; omega
theorem deep_mem_S {l : List SS} {e : SS} (h : e ∈ l) : deepS e ≤ deepSs l := by
  induction l with
  | nil => cases h
  | cons x l ih =>
    rw [deepSs]
    rcases List.mem_cons.1 h with rfl | h
    · omega
    · have := ih h; omega
theorem Nd.size_mem {l : List Nd} {x : Nd} (h : x ∈ l) : x.size ≤ sizes l := by
  unfold sizes
  induction l with
  | nil => cases h
  | cons y l ih =>
    rw [List.map_cons, List.sum_cons]
    rcases List.mem_cons.1 h with rfl | h
    · omega
    · have := ih h; omega
theorem Nd.deep_kids {n x : Nd} (h : x ∈ n.kids) : x.deep < n.deep := by
  cases n with
  | ex e =>
    obtain ⟨_, _, _, _, _, l⟩ := e
    obtain ⟨y, hy, rfl⟩ := List.mem_map.1 h
    have := deep_mem_E (l := l) hy
    show deepE y < deepE _
    rw [deepE]; omega
  | st s =>
    obtain ⟨_, _, _, _, _, _, i, x, t, e⟩ := s
    show _ < deepS _
    rw [deepS]
    simp only [Nd.kids, List.mem_append, List.mem_map] at h
    rcases h with ((⟨y, hy, rfl⟩ | ⟨y, hy, rfl⟩) | ⟨y, hy, rfl⟩) | ⟨y, hy, rfl⟩
    · have := deep_mem_E hy; show deepE y < _; omega
    · have := deep_mem_E hy; show deepE y < _; omega
    · have := deep_mem_S hy; show deepS y < _; omega
    · have := deep_mem_S hy; show deepS y < _; omega

/-! ### In memory -/
theorem add_add (a : Addr) (m j : Nat) : (a.add m).add j = a.add (m + j) := by
  unfold Addr.add
  by_cases hj : j = 0
  · subst hj; simp
  · by_cases hm : m = 0
    · subst hm; simp
    · have : ¬ m + j = 0 := by omega
      simp [hj, hm, Nat.add_assoc]
theorem add_ne (a : Addr) (j : Nat) (h : j ≠ 0) : a.add j = ⟨a.block, a.off + j, none⟩ := by unfold Addr.add; rw [if_neg h]
/-- At a lies x. -/
def PtAt {γ : Type} (d : Kd γ) (w : World) (a : Addr) (x : γ) : Prop := ∃ cs, d.K w x cs ∧ ∀ j u, cs[j]? = some u → w.cell? (a.add j) = some u
theorem PtAt.below {γ : Type} {d : Kd γ} {w W : World} {a : Addr} {x : γ} (h : PtAt d w a x) (hb : Below w.heap.size w W) : PtAt d W a x := by
  obtain ⟨cs, hK, hc⟩ := h
  exact ⟨cs, d.K_below hb hK, fun j u hj => pw_cell_below hb (hc j u hj)⟩
theorem PtAt.of_C {γ : Type} {d : Kd γ} {w : World} {ad : Addr} {n : Nat} {l : List γ} (h : d.C w (some ad) n l) (i : Nat) (hi : i < l.length) : PtAt d w (ad.add (i * d.sz)) l[i] := by
  have hn : l.length = n := h.1
  obtain ⟨ad', c, e, _, hK, hc⟩ := Kd.C_get h l[i] (i : Int) (by omega) (by omega)
  obtain rfl := Option.some.inj e
  rw [Int.toNat_natCast] at hK hc
  rw [List.getD_eq_getElem?_getD, List.getElem?_eq_getElem hi] at hK
  exact ⟨c, hK, fun j u hj => by rw [add_add]; exact hc j u hj⟩
def NdAt (w : World) (v : Value) : Nd → Prop
  | .ex e => ∃ a, v = .agg #[.pointer (some a), .pointer none] ∧ PtAt kE w a e
  | .st s => ∃ a, v = .agg #[.pointer none, .pointer (some a)] ∧ PtAt kS w a s
theorem NdAt.below {w W : World} {v : Value} {x : Nd} (h : NdAt w v x) (hb : Below w.heap.size w W) : NdAt W v x := by
  cases x with
  | ex e => obtain ⟨a, rfl, hp⟩ := h; exact ⟨a, rfl, hp.below hb⟩
  | st s => obtain ⟨a, rfl, hp⟩ := h; exact ⟨a, rfl, hp.below hb⟩
/-- A node that lies in w, of which G holds. -/
abbrev At (w : World) (G : Nd → Prop) := { p : Value × Nd // NdAt w p.1 p.2 ∧ G p.2 }
theorem kid_list {γ : Type} {d : Kd γ} {w : World} {A : Option Addr} {l : List γ} (hC : d.C w A l.length l) (G : Nd → Prop) (mk : γ → Nd) (mkv : Addr → Value) (hm : ∀ x ∈ l, G (mk x)) (hN : ∀ a x, PtAt d w a x → NdAt w (mkv a) (mk x)) :
    ∃ xs : List (At w G), xs.map (·.1.2) = l.map mk ∧ xs.length = l.length ∧ (0 < xs.length → ∃ ad, A = some ad) ∧ ∀ (i : Nat) (h : i < xs.length) (ad : Addr), A = some ad → (xs[i]).1.1 = mkv (ad.add (i * d.sz)) := by
  cases A with
  | none =>
    have : l = [] := by
      cases l with
      | nil => rfl
      | cons x l => obtain ⟨ad, h, _⟩ := hC.2.2 (by simp); cases h
    subst this
    exact ⟨[], rfl, rfl, fun h => absurd h (by simp), fun i h => absurd h (by simp)⟩
  | some ad =>
    refine ⟨List.ofFn fun i : Fin l.length => ⟨(mkv (ad.add (i.1 * d.sz)), mk l[i.1]), hN _ _ (PtAt.of_C hC i.1 i.2), hm _ (List.getElem_mem i.2)⟩, ?_, List.length_ofFn, fun _ => ⟨ad, rfl⟩, fun i h ad' e => ?_⟩
    · rw [List.map_ofFn]
      refine List.ext_getElem (by simp) fun i h1 h2 => ?_
      simp
    · obtain rfl := Option.some.inj e
      simp
end Go.Proofs.YtgkhpecllhiidaaDoor.A
