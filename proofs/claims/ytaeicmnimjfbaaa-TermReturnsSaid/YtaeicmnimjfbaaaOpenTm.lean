/- A term that came in. -/
import Derived.Test.YtaeicmnimjfbaaaLaw
import Derived.Test.YtaeicmnimjfbaaaTm
import Derived.Deep.Fields
set_option linter.unusedVariables false
set_option linter.unusedSimpArgs false
set_option maxRecDepth 100000
namespace Go.Proofs.Ytaeicmnimjfbaaa
open Go Go.RowKit Go.ChangeShapes Go.WideShapes Go.ChangeAt

theorem i64_of_wf {n : Int} (h : (Lit.int .i64 n).wf = true) : InI64 n := by
  simpa [Lit.wf, IntKind.min, IntKind.max, IntKind.signed, IntKind.bits, InI64] using h

section
variable {H : Type} {enc : TypeId × Value → H} {w : World} {base : Nat} {spare : Nat → Bool} {held : Bool}

theorem cells_term : Try.prog.cellsOf 42 = 2 := by kernel_rfl

theorem cells_int : Try.prog.cellsOf 3 = 1 := by kernel_rfl
theorem cells_terms : Try.prog.cellsOf 40 = 1 := by kernel_rfl

theorem open_term : ∀ (fuel : Nat) (cs : List Value) (x : DataW H × List MemPlace), DataW.trod enc Try.prog w base spare held fuel 42 cs = some x → ∃ t, RepTm Any w cs t := by
  intro fuel
  induction fuel using Nat.strongRecOn with
  | _ fuel ih =>
    intro cs x h
    obtain ⟨xs, n, hfu, _, hlen, hxl, hf⟩ := DataW.trod_struct Try.underlying42 h
    rw [cells_term] at hlen
    match cs, hlen with
    | [c0, c1], _ =>
      have h0 := hf 0 _ rfl
      have h1 := hf 1 _ rfl
      have e0 : xs[0]? = some (xs[0]'(by rw [hxl]; decide)) := List.getElem?_eq_getElem _
      have e1 : xs[1]? = some (xs[1]'(by rw [hxl]; decide)) := List.getElem?_eq_getElem _
      rw [e0] at h0
      rw [e1] at h1
      obtain ⟨r, hr0, _, hwf⟩ := DataW.trod_int Try.underlying3 h0
      obtain ⟨v, ts, hv, hs⟩ := open_sl (R := RepTm Any w) (size := 2) Try.underlying40 cells_term (by omega) h1 fun m cs' y hm hy => ih m (by omega) cs' y hy
      have h00 : c0 = .int .i64 r := by simpa [cells_int] using hr0
      have h11 : c1 = v := by simpa [cells_terms] using hv
      subst h00 h11
      exact ⟨.mk r ts, RepTm.of (i64_of_wf hwf) hs⟩

theorem open_termV {r : Reach} {b0 : Nat} {v : Value} {d : DataW H} {p : List MemPlace} (hv : Value.okWide Try.prog w r b0 42 v) (h : DataW.Trod enc Try.prog w base spare held 42 v d p) : ∃ t, TmV Any w v t := by
  obtain ⟨cs, rfl, hsz⟩ := okWide_struct Try.underlying42 hv
  obtain ⟨fuel, hf⟩ := h
  obtain ⟨t, ht⟩ := open_term fuel _ _ hf
  rw [cells_term] at hsz
  obtain ⟨l⟩ := cs
  match l, hsz with
  | [c0, c1], _ => exact ⟨t, c0, c1, rfl, ht⟩
end
end Go.Proofs.Ytaeicmnimjfbaaa
