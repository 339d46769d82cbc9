/- Languages and terms, values that came in, as data. -/
import Derived.Test.YtpcfkflhnkfjjaaFin
import Derived.Test.YtpcfkflhnkfjjaaOpenLang
import Derived.Test.YtpcfkflhnkfjjaaGu
set_option linter.unusedVariables false
set_option linter.unusedSimpArgs false
set_option maxRecDepth 100000
namespace Go.Proofs.Ytpcfkflhnkfjjaa
open Go Go.RowKit Go.ChangeShapes Go.WideShapes Go.ChangeAt

section
variable {w : World}

/-- cells that read as these data -/
def CR (w : World) (cs : List Value) (x : FV) (size : Nat) : Prop := x.cells.length = size ∧ (∀ y ∈ x.cells, y.single = true) ∧ ∀ (j : Nat) (u : Value) (y : FV), cs[j]? = some u → x.cells[j]? = some y → RF Any w u y
theorem cr_list {cs : List Value} {xs : List FV} (hl : cs.length = xs.length) (h : ∀ (j : Nat) (y : FV), xs[j]? = some y → y.single = true ∧ ∀ u, cs[j]? = some u → RF Any w u y) : CR w cs (.agg xs) xs.length := by
  refine ⟨rfl, fun y hy => ?_, fun j u y hu hy => (h j y hy).2 u hu⟩
  obtain ⟨j, hj⟩ := List.mem_iff_getElem?.1 hy
  exact (h j y hj).1
theorem tm_cr : ∀ (x : Tm) (cs : List Value), RepTm Any w cs x → CR w cs (eTmR x) 2 := by
  refine Tm.ind fun r l ih => ?_
  intro cs h
  obtain ⟨v, rfl, hr, hv⟩ := h.form
  have hrf : RF Any w v (.lst 2 l.length (eTmRs l)) := by
    have := rf_sl (ec := eTmR) (size := 2) (by omega) hv fun cs x hx hr => ih x hx cs hr
    rw [eTmRs_eq]
    have he : eL 2 eTmR l = .lst 2 l.length (l.map eTmR) := rfl
    rw [← he]
    exact this
  refine cr_list (xs := [eI r, .lst 2 l.length (eTmRs l)]) rfl fun j y hy => ?_
  match j with
  | 0 => simp at hy; subst hy; exact ⟨rfl, fun u hu => by simp at hu; subst hu; exact .atom rfl⟩
  | 1 => simp at hy; subst hy; exact ⟨rfl, fun u hu => by simp at hu; subst hu; exact hrf⟩
  | j + 2 => simp at hy
end
section
variable {H : Type} {enc : TypeId × Value → H} {w : World} {base : Nat} {spare : Nat → Bool} {held : Bool}
end
end Go.Proofs.Ytpcfkflhnkfjjaa
