/- A language, a value that came in. -/
import Derived.Test.YtfhmljjkhjifeaaGreatDoorLaw
import Derived.Test.YtfhmljjkhjifeaaGreatDoorLang
import Derived.Deep.Fields
set_option linter.unusedVariables false
set_option linter.unusedSimpArgs false
set_option maxRecDepth 100000
namespace Go.Proofs.YtfhmljjkhjifeaaGreatDoor
open Go Go.RowKit Go.ChangeShapes Go.WideShapes Go.ChangeAt

theorem i64_of_wf' {n : Int} (h : (Lit.int .i64 n).wf = true) : InI64 n := by
  simpa [Lit.wf, IntKind.min, IntKind.max, IntKind.signed, IntKind.bits, InI64] using h

section
variable {H : Type} {enc : TypeId × Value → H} {w : World} {base : Nat} {spare : Nat → Bool} {held : Bool}

theorem cells_ty : Tryz.prog.cellsOf 3 = 1 ∧ Tryz.prog.cellsOf 2 = 1 ∧ Tryz.prog.cellsOf 9 = 1 ∧ Tryz.prog.cellsOf 22 = 1 ∧ Tryz.prog.cellsOf 43 = 1 ∧ Tryz.prog.cellsOf 23 = 1 ∧ Tryz.prog.cellsOf 24 = 1 ∧
    Tryz.prog.cellsOf 45 = 4 ∧ Tryz.prog.cellsOf 49 = 2 ∧ Tryz.prog.cellsOf 47 = 9 ∧ Tryz.prog.cellsOf 26 = 4 := ⟨by kernel_rfl, by kernel_rfl, by kernel_rfl, by kernel_rfl, by kernel_rfl, by kernel_rfl, by kernel_rfl, by kernel_rfl, by kernel_rfl, by kernel_rfl, by kernel_rfl⟩

theorem open_str {fuel : Nat} {cs : List Value} {x : DataW H × List MemPlace} (h : DataW.trod enc Tryz.prog w base spare held fuel 9 cs = some x) : ∃ s, cs = [.string s] ∧ Short s := by
  obtain ⟨s, hs, _, hl⟩ := DataW.trod_string Tryz.underlying9 h
  exact ⟨s, hs, by unfold maxLen at hl; exact hl⟩
theorem open_i64 {fuel : Nat} {cs : List Value} {x : DataW H × List MemPlace} (h : DataW.trod enc Tryz.prog w base spare held fuel 3 cs = some x) : ∃ n, cs = [.int .i64 n] ∧ InI64 n := by
  obtain ⟨n, hn, _, hwf⟩ := DataW.trod_int Tryz.underlying3 h
  exact ⟨n, hn, i64_of_wf' hwf⟩
theorem open_i64' {fuel : Nat} {cs : List Value} {x : DataW H × List MemPlace} (h : DataW.trod enc Tryz.prog w base spare held fuel 2 cs = some x) : ∃ n, cs = [.int .i64 n] ∧ InI64 n := by
  obtain ⟨n, hn, _, hwf⟩ := DataW.trod_int Tryz.underlying2 h
  exact ⟨n, hn, i64_of_wf' hwf⟩
theorem open_intsl {fuel : Nat} {cs : List Value} {x : DataW H × List MemPlace} (h : DataW.trod enc Tryz.prog w base spare held fuel 22 cs = some x) : ∃ v ns, cs = [v] ∧ Ints Any w v ns :=
  open_sl (R := IntR) (size := 1) Tryz.underlying22 cells_ty.1 (by omega) h fun n cs' y _ hy => by
    obtain ⟨k, h1, h2⟩ := open_i64 hy
    exact ⟨k, h1, h2⟩

theorem open_value : ∀ (fuel : Nat) (cs : List Value) (x : DataW H × List MemPlace), DataW.trod enc Tryz.prog w base spare held fuel 45 cs = some x → ∃ t, RepVa Any w cs t := by
  obtain ⟨z1, z2, z3, z4, z5, z6, z7, z8, z9, z10, z11⟩ := cells_ty
  intro fuel
  induction fuel using Nat.strongRecOn with
  | _ fuel ih =>
    intro cs x h
    obtain ⟨xs, n, hfu, _, hlen, hxl, hf⟩ := DataW.trod_struct Tryz.underlying45 h
    rw [z8] at hlen
    match cs, hlen with
    | [c0, c1, c2, c3], _ =>
      have h0 := hf 0 _ rfl
      have h1 := hf 1 _ rfl
      have h2 := hf 2 _ rfl
      have h3 := hf 3 _ rfl
      rw [List.getElem?_eq_getElem (by rw [hxl]; decide)] at h0 h1 h2 h3
      obtain ⟨t, e0, ht⟩ := open_i64 h0
      obtain ⟨m, e1, hm⟩ := open_i64' h1
      obtain ⟨s, e2, hs⟩ := open_str h2
      obtain ⟨v, ts, e3, hV⟩ := open_sl (R := RepVa Any w) (size := 4) Tryz.underlying43 z8 (by omega) h3 fun k cs' y hk hy => ih k (by omega) cs' y hy
      simp [z1, z2, z3, z4, z5, z6, z7, z8] at e0 e1 e2 e3
      subst e0 e1 e2 e3
      exact ⟨.mk t m s ts, RepVa.of ht hm hs hV⟩

theorem open_symbol {fuel : Nat} {cs : List Value} {x : DataW H × List MemPlace} (h : DataW.trod enc Tryz.prog w base spare held fuel 49 cs = some x) : ∃ t, RepSy Any w cs t := by
  obtain ⟨z1, z2, z3, z4, z5, z6, z7, z8, z9, z10, z11⟩ := cells_ty
  obtain ⟨xs, n, hfu, _, hlen, hxl, hf⟩ := DataW.trod_struct Tryz.underlying49 h
  rw [z9] at hlen
  match cs, hlen with
  | [c0, c1], _ =>
    have h0 := hf 0 _ rfl
    have h1 := hf 1 _ rfl
    rw [List.getElem?_eq_getElem (by rw [hxl]; decide)] at h0 h1
    obtain ⟨s, e0, hs⟩ := open_str h0
    obtain ⟨t, e1, ht⟩ := open_i64 h1
    simp [z1, z2, z3, z4, z5, z6, z7, z8] at e0 e1
    subst e0 e1
    exact ⟨⟨s, t⟩, rfl, hs, ht⟩

theorem open_rule {fuel : Nat} {cs : List Value} {x : DataW H × List MemPlace} (h : DataW.trod enc Tryz.prog w base spare held fuel 47 cs = some x) : ∃ t, RepRu Any w cs t := by
  obtain ⟨z1, z2, z3, z4, z5, z6, z7, z8, z9, z10, z11⟩ := cells_ty
  obtain ⟨xs, n, hfu, _, hlen, hxl, hf⟩ := DataW.trod_struct Tryz.underlying47 h
  rw [z10] at hlen
  match cs, hlen with
  | [c0, c1, c2, c3, c4, c5, c6, c7, c8], _ =>
    have h0 := hf 0 _ rfl
    have h1 := hf 1 _ rfl
    have h2 := hf 2 _ rfl
    have h3 := hf 3 _ rfl
    have h4 := hf 4 _ rfl
    have h5 := hf 5 _ rfl
    rw [List.getElem?_eq_getElem (by rw [hxl]; decide)] at h0 h1 h2 h3 h4 h5
    obtain ⟨a, e0, ha⟩ := open_i64 h0
    obtain ⟨b, e1, hb⟩ := open_i64 h1
    obtain ⟨c, e2, hc⟩ := open_i64 h2
    obtain ⟨v, hv⟩ := open_value _ _ _ h3
    obtain ⟨s, e4, hs⟩ := open_str h4
    obtain ⟨u, ns, e5, hns⟩ := open_intsl h5
    simp [z1, z2, z3, z4, z5, z6, z7, z8] at e0 e1 e2 e4 e5 hv
    subst e0 e1 e2 e4 e5
    exact ⟨⟨a, b, c, v, s, ns⟩, c3, c4, c5, c6, _, rfl, ha, hb, hc, hs, hv, hns⟩

theorem open_language {fuel : Nat} {cs : List Value} {x : DataW H × List MemPlace} (h : DataW.trod enc Tryz.prog w base spare held fuel 26 cs = some x) : ∃ t, RepLa Any w cs t := by
  obtain ⟨z1, z2, z3, z4, z5, z6, z7, z8, z9, z10, z11⟩ := cells_ty
  obtain ⟨xs, n, hfu, _, hlen, hxl, hf⟩ := DataW.trod_struct Tryz.underlying26 h
  rw [z11] at hlen
  match cs, hlen with
  | [c0, c1, c2, c3], _ =>
    have h0 := hf 0 _ rfl
    have h1 := hf 1 _ rfl
    have h2 := hf 2 _ rfl
    have h3 := hf 3 _ rfl
    rw [List.getElem?_eq_getElem (by rw [hxl]; decide)] at h0 h1 h2 h3
    obtain ⟨s, e0, hs⟩ := open_str h0
    obtain ⟨v1, n1, e1, hv1⟩ := open_intsl h1
    obtain ⟨v2, n2, e2, hv2⟩ := open_sl (R := RepSy Any w) (size := 2) Tryz.underlying23 z9 (by omega) h2 fun k cs' y hk hy => open_symbol hy
    obtain ⟨v3, n3, e3, hv3⟩ := open_sl (R := RepRu Any w) (size := 9) Tryz.underlying24 z10 (by omega) h3 fun k cs' y hk hy => open_rule hy
    simp [z1, z2, z3, z4, z5, z6, z7, z8] at e0 e1 e2 e3
    subst e0 e1 e2 e3
    exact ⟨⟨s, n1, n2, n3⟩, _, _, _, rfl, hs, hv1, hv2, hv3⟩

theorem open_languageV {r : Reach} {b0 : Nat} {v : Value} {d : DataW H} {p : List MemPlace} (hv : Value.okWide Tryz.prog w r b0 26 v) (h : DataW.Trod enc Tryz.prog w base spare held 26 v d p) : ∃ t, LaV Any w v t := by
  obtain ⟨cs, rfl, hsz⟩ := okWide_struct Tryz.underlying26 hv
  obtain ⟨fuel, hf⟩ := h
  obtain ⟨t, ht⟩ := open_language hf
  exact ⟨t, cs.toList, by simp, by simpa [Value.cells] using ht⟩
end
end Go.Proofs.YtfhmljjkhjifeaaGreatDoor
