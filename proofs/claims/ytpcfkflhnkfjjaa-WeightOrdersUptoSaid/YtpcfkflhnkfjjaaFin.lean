/- From a typed contract to the given statement: arguments opened as data. -/
import Derived.Test.YtpcfkflhnkfjjaaLaw
import Derived.Test.YtpcfkflhnkfjjaaEnc
import Derived.Test.YtpcfkflhnkfjjaaTy
import Derived.ChangeMaps5
set_option linter.unusedVariables false
set_option linter.unusedSimpArgs false
namespace Go.Proofs.Ytpcfkflhnkfjjaa
open Go Go.RowKit Go.ChangeShapes Go.WideShapes Go.ChangeAt Go.ChangeMaps

section
variable {T : Type} {P : Program} {H : Type} {enc : TypeId × Value → H} {w : World} {base : Nat} {spare : Nat → Bool} {held : Bool}

theorem rf_sl {R : List Value → T → Prop} {ec : T → FV} {size : Nat} {v : Value} {xs : List T} (hz : 0 < size) (h : RepSl Any w size R v xs)
    (hR : ∀ cs x, x ∈ xs → R cs x → (ec x).cells.length = size ∧ (∀ y ∈ (ec x).cells, y.single = true) ∧ ∀ (j : Nat) (u : Value) (y : FV), cs[j]? = some u → (ec x).cells[j]? = some y → RF Any w u y) : RF Any w v (eL size ec xs) := by
  obtain ⟨A, cap, rfl, h1, h2, h3⟩ := h
  have h3' : ∀ i : Nat, ∃ cs : List Value, ∀ x, xs[i]? = some x → ∃ b o, A = some ⟨b, o, none⟩ ∧ At w b (o + i * size) cs ∧ cs.length = size ∧ R cs x := fun i => by
    cases hx : xs[i]? with
    | none => exact ⟨[], fun x h => by cases h⟩
    | some x =>
      obtain ⟨b, o, cs, e1, _, e2, e3, e4⟩ := h3 i x hx
      exact ⟨cs, fun y hy => by injection hy with hy; subst hy; exact ⟨b, o, e1, e2, e3, e4⟩⟩
  obtain ⟨css, hcss⟩ := Classical.axiomOfChoice h3'
  refine .lst css (by simp) h1 h2 hz (fun i x hx => ?_) (fun i x hx => ?_) fun i x j v y hx hv hy => ?_
  · simp only [List.getElem?_map, Option.map_eq_some_iff] at hx
    obtain ⟨z, hz', rfl⟩ := hx
    obtain ⟨b, o, e1, e2, _⟩ := hcss i z hz'
    exact ⟨b, o, e1, trivial, e2⟩
  · simp only [List.getElem?_map, Option.map_eq_some_iff] at hx
    obtain ⟨z, hz', rfl⟩ := hx
    obtain ⟨b, o, e1, e2, e3, e4⟩ := hcss i z hz'
    obtain ⟨g1, g2, _⟩ := hR _ z (List.mem_of_getElem? hz') e4
    exact ⟨e3, g1, g2⟩
  · simp only [List.getElem?_map, Option.map_eq_some_iff] at hx
    obtain ⟨z, hz', rfl⟩ := hx
    obtain ⟨b, o, e1, e2, e3, e4⟩ := hcss i z hz'
    exact (hR _ z (List.mem_of_getElem? hz') e4).2.2 j v y hv hy
theorem rf_one {x : Value} {cs : List Value} (hcs : cs = [x]) (hx : x.oneCell' = true) : (FV.atom x).cells.length = 1 ∧ (∀ y ∈ (FV.atom x).cells, y.single = true) ∧ ∀ (j : Nat) (u : Value) (y : FV), cs[j]? = some u → (FV.atom x).cells[j]? = some y → RF Any w u y := by
  subst hcs
  refine ⟨rfl, fun y hy => ?_, fun j u y hu hy => ?_⟩
  · simp [FV.cells] at hy
    subst hy
    exact hx
  · cases j with
    | zero =>
      simp [FV.cells] at hu hy
      subst hu hy
      exact .atom hx
    | succ j => simp at hu
theorem wf_i64 {n : Int} (h : (Lit.int .i64 n).wf = true) : InI64 n := by
  simpa [Lit.wf, IntKind.min, IntKind.max, IntKind.signed, IntKind.bits, InI64] using h
/-- a slice, its elements opened by a law of their own -/
theorem in_sl {R : List Value → T → Prop} {ec : T → FV} {size : Nat} {r : Reach} {b0 : Nat} {t e : TypeId} {v : Value} {d : DataW H} {p : List MemPlace} (ht : P.underlying t = some (.slice e)) (hC : P.cellsOf e = size) (hz : 0 < size) (hv : Value.okWide P w r b0 t v)
    (h : DataW.Trod enc P w base spare held t v d p) (hel : ∀ n cs' y, DataW.trod enc P w base spare held n e cs' = some y → ∃ z, R cs' z)
    (hR : ∀ cs x, R cs x → (ec x).cells.length = size ∧ (∀ y ∈ (ec x).cells, y.single = true) ∧ ∀ (j : Nat) (u : Value) (y : FV), cs[j]? = some u → (ec x).cells[j]? = some y → RF Any w u y) :
    ∃ xs : List T, RF Any w v (eL size ec xs) ∧ xs.length ≤ 9223372036854775807 ∧ ∀ x ∈ xs, ∃ cs, R cs x := by
  obtain ⟨a, len, cap, rfl⟩ := okWide_slice ht hv
  obtain ⟨fuel, hf⟩ := h
  obtain ⟨v', xs, hc, hrep⟩ := open_sl (R := R) ht hC hz hf fun n cs' y _ hy => hel n cs' y hy
  have : v' = .slice a len cap := by simpa [Value.cells] using hc.symm
  subst this
  refine ⟨xs, rf_sl hz hrep fun cs x _ hx => hR cs x hx, ?_, fun x hx => ?_⟩
  · obtain ⟨A, cap', h0, h1, h2, _⟩ := hrep
    omega
  · obtain ⟨A, cap', h0, h1, h2, h3⟩ := hrep
    obtain ⟨i, hi⟩ := List.mem_iff_getElem?.1 hx
    obtain ⟨b, o, cs, _, _, _, _, h4⟩ := h3 i x hi
    exact ⟨cs, h4⟩
theorem in_ints {r : Reach} {b0 : Nat} {t e : TypeId} {v : Value} {d : DataW H} {p : List MemPlace} (ht : P.underlying t = some (.slice e)) (he : P.underlying e = some (.int .i64)) (hC : P.cellsOf e = 1) (hv : Value.okWide P w r b0 t v)
    (h : DataW.Trod enc P w base spare held t v d p) : ∃ xs : List Int, RF Any w v (eL 1 eI xs) ∧ xs.length ≤ 9223372036854775807 ∧ ∀ x ∈ xs, InI64 x := by
  obtain ⟨xs, h1, h2, h3⟩ := in_sl (R := fun cs n => cs = [.int .i64 n] ∧ InI64 n) (ec := eI) ht hC (by omega) hv h (fun n cs' y hy => by
    obtain ⟨m, hm, _, hwf⟩ := DataW.trod_int he hy
    exact ⟨m, hm, wf_i64 hwf⟩) fun cs x hx => rf_one hx.1 rfl
  exact ⟨xs, h1, h2, fun x hx => let ⟨_, h⟩ := h3 x hx; h.2⟩
/-- a law that is true by its contract -/
theorem law_calls {f : FuncId} {args : List FV} {vs : Array Value} (hp : PCall P f args (eB true)) (hs : vs.size = args.length) (hr : ∀ (i : Nat) (v : Value) (x : FV), vs[i]? = some v → args[i]? = some x → RF Any w v x) :
    Calls P f vs w fun e w' => e = .returned (.bool true) ∧ Below w.heap.size w w' := by
  refine (hp.2 Any w vs hs hr).mono ?_
  rintro e w' ⟨v, rfl, h1, h2⟩
  rw [h1.atom_eq]
  exact ⟨rfl, h2⟩
end
end Go.Proofs.Ytpcfkflhnkfjjaa
