/- Values that came in, as data. -/
import Derived.Test.YtijkipikefpopaaDoorLaw
import Derived.Test.YtijkipikefpopaaDoorFin
import Derived.Test.YtijkipikefpopaaDoorVr
import Derived.Deep.Fields
set_option linter.unusedVariables false
set_option linter.unusedSimpArgs false
set_option maxRecDepth 100000
namespace Go.Proofs.YtijkipikefpopaaDoor
open Go Go.RowKit Go.ChangeShapes Go.WideShapes Go.ChangeAt

theorem i64_of_wf' {n : Int} (h : (Lit.int .i64 n).wf = true) : InI64 n := by
  simpa [Lit.wf, IntKind.min, IntKind.max, IntKind.signed, IntKind.bits, InI64] using h

section
variable {H : Type} {enc : TypeId × Value → H} {w : World} {base : Nat} {spare : Nat → Bool} {held : Bool}

theorem cells_tyV : Tryd.prog.cellsOf 3 = 1 ∧ Tryd.prog.cellsOf 2 = 1 ∧ Tryd.prog.cellsOf 9 = 1 ∧ Tryd.prog.cellsOf 22 = 1 ∧ Tryd.prog.cellsOf 24 = 4 := ⟨by kernel_rfl, by kernel_rfl, by kernel_rfl, by kernel_rfl, by kernel_rfl⟩
theorem open_str {fuel : Nat} {cs : List Value} {x : DataW H × List MemPlace} (h : DataW.trod enc Tryd.prog w base spare held fuel 9 cs = some x) : ∃ s, cs = [.string s] ∧ Short s := by
  obtain ⟨s, hs, _, hl⟩ := DataW.trod_string Tryd.underlying9 h
  exact ⟨s, hs, by unfold maxLen at hl; exact hl⟩
theorem open_i64 {fuel : Nat} {cs : List Value} {x : DataW H × List MemPlace} (h : DataW.trod enc Tryd.prog w base spare held fuel 3 cs = some x) : ∃ n, cs = [.int .i64 n] ∧ InI64 n := by
  obtain ⟨n, hn, _, hwf⟩ := DataW.trod_int Tryd.underlying3 h
  exact ⟨n, hn, i64_of_wf' hwf⟩
theorem open_i64' {fuel : Nat} {cs : List Value} {x : DataW H × List MemPlace} (h : DataW.trod enc Tryd.prog w base spare held fuel 2 cs = some x) : ∃ n, cs = [.int .i64 n] ∧ InI64 n := by
  obtain ⟨n, hn, _, hwf⟩ := DataW.trod_int Tryd.underlying2 h
  exact ⟨n, hn, i64_of_wf' hwf⟩
theorem open_value : ∀ (fuel : Nat) (cs : List Value) (x : DataW H × List MemPlace), DataW.trod enc Tryd.prog w base spare held fuel 24 cs = some x → ∃ t, RepVa Any w cs t := by
  obtain ⟨z1, z2, z3, z5, z8⟩ := cells_tyV
  intro fuel
  induction fuel using Nat.strongRecOn with
  | _ fuel ih =>
    intro cs x h
    obtain ⟨xs, n, hfu, _, hlen, hxl, hf⟩ := DataW.trod_struct Tryd.underlying24 h
    rw [z8] at hlen
    match cs, hlen with
    | [c0, c1, c2, c3], _ =>
      have h0 := hf 0 _ rfl
      have h1 := hf 1 _ rfl
      have h2 := hf 2 _ rfl
      have h3 := hf 3 _ rfl
      rw [List.getElem?_eq_getElem (by rw [hxl]; decide)] at h0 h1 h2 h3
      obtain ⟨t, e0, ht⟩ := open_i64 h0
      obtain ⟨m, e1, hm⟩ := open_i64' h1
      obtain ⟨s, e2, hs⟩ := open_str h2
      obtain ⟨v, ts, e3, hV⟩ := open_sl (R := RepVa Any w) (size := 4) Tryd.underlying22 z8 (by omega) h3 fun k cs' y hk hy => ih k (by omega) cs' y hy
      simp [z1, z2, z3, z5, z8] at e0 e1 e2 e3
      subst e0 e1 e2 e3
      exact ⟨.mk t m s ts, RepVa.of ht hm hs hV⟩

end
section
variable {w : World}

/-- cells that read as these data -/
def CR (w : World) (cs : List Value) (x : FV) (size : Nat) : Prop := x.cells.length = size ∧ (∀ y ∈ x.cells, y.single = true) ∧ ∀ (j : Nat) (u : Value) (y : FV), cs[j]? = some u → x.cells[j]? = some y → RF Any w u y
theorem cr_list {cs : List Value} {xs : List FV} (hl : cs.length = xs.length) (h : ∀ (j : Nat) (y : FV), xs[j]? = some y → y.single = true ∧ ∀ u, cs[j]? = some u → RF Any w u y) : CR w cs (.agg xs) xs.length := by
  refine ⟨rfl, fun y hy => ?_, fun j u y hu hy => (h j y hy).2 u hu⟩
  obtain ⟨j, hj⟩ := List.mem_iff_getElem?.1 hy
  exact (h j y hj).1
theorem va_cr : ∀ (x : Va) (cs : List Value), RepVa Any w cs x → CR w cs (eVaR x) 4 ∧ inV x := by
  refine Va.ind fun t n s l ih => ?_
  intro cs h
  obtain ⟨v, rfl, ht, hn, hs, hv⟩ := h.form
  have hrf : RF Any w v (.lst 4 l.length (eVaRs l)) := by
    have := rf_sl (ec := eVaR) (size := 4) (by omega) hv fun cs x hx hr => (ih x hx cs hr).1
    rw [eVaRs_eq]
    have he : eL 4 eVaR l = .lst 4 l.length (l.map eVaR) := rfl
    rw [← he]
    exact this
  refine ⟨cr_list (xs := [eI t, eI n, eS s, .lst 4 l.length (eVaRs l)]) rfl fun j y hy => ?_, ?_⟩
  · match j with
    | 0 => simp at hy; subst hy; exact ⟨rfl, fun u hu => by simp at hu; subst hu; exact .atom rfl⟩
    | 1 => simp at hy; subst hy; exact ⟨rfl, fun u hu => by simp at hu; subst hu; exact .atom rfl⟩
    | 2 => simp at hy; subst hy; exact ⟨rfl, fun u hu => by simp at hu; subst hu; exact .atom rfl⟩
    | 3 => simp at hy; subst hy; exact ⟨rfl, fun u hu => by simp at hu; subst hu; exact hrf⟩
    | j + 4 => simp at hy
  · obtain ⟨A, cap, _, h1, h2, h3⟩ := hv
    have all : ∀ x ∈ l, inV x := fun x hx => by
      obtain ⟨i, hi⟩ := List.mem_iff_getElem?.1 hx
      obtain ⟨b, o, cs, _, _, _, _, hr⟩ := h3 i x hi
      exact (ih x hx cs hr).2
    have gen : ∀ l : List Va, (∀ x ∈ l, inV x) → wideVs 9223372036854775807 l ∧ shortVs l := fun l => by
      induction l with
      | nil => exact fun _ => ⟨trivial, trivial⟩
      | cons y l ih => exact fun h => ⟨⟨(h y (List.mem_cons_self ..)).1, (ih fun z hz => h z (List.mem_cons_of_mem _ hz)).1⟩, (h y (List.mem_cons_self ..)).2, (ih fun z hz => h z (List.mem_cons_of_mem _ hz)).2⟩
    obtain ⟨g1, g2⟩ := gen l all
    exact ⟨⟨by omega, g1⟩, hs, g2⟩
end
section
variable {H : Type} {enc : TypeId × Value → H} {w : World} {base : Nat} {spare : Nat → Bool} {held : Bool}
theorem in_Vas {r : Reach} {b0 : Nat} {v : Value} {d : DataW H} {p : List MemPlace} (hv : Value.okWide Tryd.prog w r b0 22 v) (h : DataW.Trod enc Tryd.prog w base spare held 22 v d p) : ∃ xs : List Va, RF Any w v (eL 4 eVaR xs) ∧ xs.length ≤ 9223372036854775807 ∧ ∀ x ∈ xs, inV x := by
  obtain ⟨xs, h1, h2, h3⟩ := in_sl (R := fun cs x => RepVa Any w cs x) (ec := eVaR) (size := 4) Tryd.underlying22 cells_tyV.2.2.2.2 (by omega) hv h (fun n cs' y hy => open_value n cs' y hy) fun cs x hx => (va_cr x cs hx).1
  exact ⟨xs, h1, h2, fun x hx => by
    obtain ⟨cs, hc⟩ := h3 x hx
    exact (va_cr x cs hc).2⟩
end
end Go.Proofs.YtijkipikefpopaaDoor
