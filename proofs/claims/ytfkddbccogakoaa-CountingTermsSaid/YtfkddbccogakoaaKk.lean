/- Two numbers that came in. -/
import Derived.Test.YtfkddbccogakoaaGv
import Derived.Test.YtfkddbccogakoaaKj
import Derived.OpenShut
set_option linter.unusedVariables false
set_option linter.unusedSimpArgs false
set_option maxRecDepth 100000
namespace Go.Proofs.Ytfkddbccogakoaa
open Go Go.RowKit Go.ChangeShapes Go.WideShapes Go.ChangeAt

section
variable {H : Type} {enc : TypeId × Value → H} {w : World} {base : Nat} {spare : Nat → Bool} {held : Bool}
theorem cells_ar2 : Try.prog.cellsOf 39 = 2 := by kernel_rfl
theorem wide_array {P : Program} {r : Reach} {b0 n : Nat} {t e : TypeId} {v : Value} (ht : P.underlying t = some (.array n e)) (h : Value.okWide P w r b0 t v) : ∃ cs, v = .agg cs ∧ cs.size = P.cellsOf t := by
  simp only [Value.okWide, ht] at h
  obtain ⟨cs, h1, h2, _⟩ := h
  exact ⟨cs, h1, h2⟩
theorem in_Ar2 {r : Reach} {b0 : Nat} {v : Value} {d : DataW H} {p : List MemPlace} (hv : Value.okWide Try.prog w r b0 39 v) (h : DataW.Trod enc Try.prog w base spare held 39 v d p) : ∃ x, RF Any w v (eS_ar2_i64 x) ∧ True := by
  obtain ⟨cs, rfl, hsz⟩ := wide_array Try.underlying39 hv
  obtain ⟨fuel, hf⟩ := h
  obtain ⟨xs, n, hfu, _, hlen, hxl, hf⟩ := DataW.trod_array Try.underlying39 hf
  rw [cells_ar2] at hsz
  obtain ⟨l⟩ := cs
  match l, hsz with
  | [c0, c1], _ =>
    have h0 := hf 0 (by decide)
    have h1 := hf 1 (by decide)
    rw [List.getElem?_eq_getElem (by rw [hxl]; decide)] at h0 h1
    obtain ⟨m, e0, _⟩ := open_i64 h0
    obtain ⟨k, e1', _⟩ := open_i64 h1
    have h00 : c0 = .int .i64 m := by simpa [cells_int, Value.cells] using e0
    have h11 : c1 = .int .i64 k := by simpa [cells_int, Value.cells] using e1'
    subst h00 h11
    refine ⟨⟨m, k⟩, agg_rf (cs := [.int .i64 m, .int .i64 k]) (xs := [eI m, eI k]) rfl (cr_list rfl fun j y hy => ?_), trivial⟩
    match j with
    | 0 => simp at hy; subst hy; exact ⟨rfl, fun u hu => by simp at hu; subst hu; exact .atom rfl⟩
    | 1 => simp at hy; subst hy; exact ⟨rfl, fun u hu => by simp at hu; subst hu; exact .atom rfl⟩
    | j + 2 => simp at hy
end
end Go.Proofs.Ytfkddbccogakoaa
