import Derived.Test.YtaimpcnpifoidaaGreatDoorLaw
import Derived.Test.YtaimpcnpifoidaaGreatDoorEnc
import Derived.Test.YtaimpcnpifoidaaGreatDoorTy
import Derived.ChangeMaps5
set_option linter.unusedVariables false
set_option linter.unusedSimpArgs false
namespace Go.Proofs.YtaimpcnpifoidaaGreatDoor
open Go Go.RowKit Go.ChangeShapes Go.WideShapes Go.ChangeAt Go.ChangeMaps
section
variable {T : Type} {P : Program} {H : Type} {enc : TypeId × Value → H} {w : World} {base : Nat} {spare : Nat → Bool} {held : Bool}
theorem ktv {R : List Value → T → Prop} {ec : T → FV} {size : Nat} {v : Value} {xs : List T} (hz : 0 < size) (h : RepSl Any w size R v xs)
  (hR : ∀ cs x, x ∈ xs → R cs x → (ec x).cells.length = size ∧ (∀ y ∈ (ec x).cells, y.single = true) ∧ ∀ (j : Nat) (u : Value) (y : FV), cs[j]? = some u → (ec x).cells[j]? = some y → RF Any w u y) : RF Any w v (eL size ec xs) := by
 obtain ⟨A, cap, rfl, h1, h2, h3⟩ := h
 have h3' : ∀ i : Nat, ∃ cs : List Value, ∀ x, xs[i]? = some x → ∃ b o, A = some ⟨b, o, none⟩ ∧ At w b (o + i * size) cs ∧ cs.length = size ∧ R cs x := fun i => by
  cases hx : xs[i]? with
  | none => exact ⟨[], fun x h => by cases h⟩
  | some x =>
   obtain ⟨b, o, cs, e1, _, e2, e3, e4⟩ := h3 i x hx
   exact ⟨cs, fun y hy => by injection hy with hy; subst hy; exact ⟨b, o, e1, e2, e3, e4⟩⟩
 obtain ⟨css, hcss⟩ := Classical.axiomOfChoice h3'
 refine .lst css (by simp) h1 h2 hz (fun i x hx => ?_) (fun i x hx => ?_) fun i x j v y hx hv hy => ?_
 ·simp only [List.getElem?_map, Option.map_eq_some_iff] at hx
  obtain ⟨z, hz', rfl⟩ := hx
  obtain ⟨b, o, e1, e2, _⟩ := hcss i z hz'
  exact ⟨b, o, e1, trivial, e2⟩
 ·simp only [List.getElem?_map, Option.map_eq_some_iff] at hx
  obtain ⟨z, hz', rfl⟩ := hx
  obtain ⟨b, o, e1, e2, e3, e4⟩ := hcss i z hz'
  obtain ⟨g1, g2, _⟩ := hR _ z (List.mem_of_getElem? hz') e4
  exact ⟨e3, g1, g2⟩
 ·simp only [List.getElem?_map, Option.map_eq_some_iff] at hx
  obtain ⟨z, hz', rfl⟩ := hx
  obtain ⟨b, o, e1, e2, e3, e4⟩ := hcss i z hz'
  exact (hR _ z (List.mem_of_getElem? hz') e4).2.2 j v y hv hy
theorem kacz {x : Value} {cs : List Value} (hcs : cs = [x]) (hx : x.oneCell' = true) : (FV.atom x).cells.length = 1 ∧ (∀ y ∈ (FV.atom x).cells, y.single = true) ∧ ∀ (j : Nat) (u : Value) (y : FV), cs[j]? = some u → (FV.atom x).cells[j]? = some y → RF Any w u y := by
 subst hcs
 refine ⟨rfl, fun y hy => ?_, fun j u y hu hy => ?_⟩
 ·simp [FV.cells] at hy
  subst hy
  exact hx
 ·cases j with
  | zero =>
   simp [FV.cells] at hu hy
   subst hu hy
   exact .atom hx
  | succ j => simp at hu
end
end Go.Proofs.YtaimpcnpifoidaaGreatDoor
