import Derived.Test.YtaimpcnpifoidaaGreatDoorLaw
import Derived.Test.YtaimpcnpifoidaaGreatDoorLang
import Derived.Deep.Fields
import Derived.Test.YtaimpcnpifoidaaGreatDoorTm
set_option linter.unusedVariables false
set_option linter.unusedSimpArgs false
set_option maxRecDepth 100000
namespace Go.Proofs.YtaimpcnpifoidaaGreatDoor
open Go Go.RowKit Go.ChangeShapes Go.WideShapes Go.ChangeAt
theorem kwp {n : Int} (h : (Lit.int .i64 n).wf = true) : kdm n := by
 simpa [Lit.wf, IntKind.min, IntKind.max, IntKind.signed, IntKind.bits, kdm] using h
section
variable {H : Type} {enc : TypeId × Value → H} {w : World} {base : Nat} {spare : Nat → Bool} {held : Bool}
theorem cells_ty : Tryz.prog.cellsOf 3 = 1 ∧ Tryz.prog.cellsOf 2 = 1 ∧ Tryz.prog.cellsOf 9 = 1 ∧ Tryz.prog.cellsOf 22 = 1 ∧ Tryz.prog.cellsOf 41 = 1 ∧ Tryz.prog.cellsOf 23 = 1 ∧ Tryz.prog.cellsOf 24 = 1 ∧
  Tryz.prog.cellsOf 43 = 4 ∧ Tryz.prog.cellsOf 92 = 2 ∧ Tryz.prog.cellsOf 45 = 9 ∧ Tryz.prog.cellsOf 26 = 4 := ⟨by kernel_rfl, by kernel_rfl, by kernel_rfl, by kernel_rfl, by kernel_rfl, by kernel_rfl, by kernel_rfl, by kernel_rfl, by kernel_rfl, by kernel_rfl, by kernel_rfl⟩
theorem kro {fuel : Nat} {cs : List Value} {x : DataW H × List MemPlace} (h : DataW.trod enc Tryz.prog w base spare held fuel 9 cs = some x) : ∃ s, cs = [.string s] ∧ kli s := by
 obtain ⟨s, hs, _, hl⟩ := DataW.trod_string Tryz.underlying9 h
 exact ⟨s, hs, by unfold maxLen at hl; exact hl⟩
theorem kmt {fuel : Nat} {cs : List Value} {x : DataW H × List MemPlace} (h : DataW.trod enc Tryz.prog w base spare held fuel 3 cs = some x) : ∃ n, cs = [.int .i64 n] ∧ kdm n := by
 obtain ⟨n, hn, _, hwf⟩ := DataW.trod_int Tryz.underlying3 h
 exact ⟨n, hn, kwp hwf⟩
theorem k56 {fuel : Nat} {cs : List Value} {x : DataW H × List MemPlace} (h : DataW.trod enc Tryz.prog w base spare held fuel 2 cs = some x) : ∃ n, cs = [.int .i64 n] ∧ kdm n := by
 obtain ⟨n, hn, _, hwf⟩ := DataW.trod_int Tryz.underlying2 h
 exact ⟨n, hn, kwp hwf⟩
theorem kv9 {fuel : Nat} {cs : List Value} {x : DataW H × List MemPlace} (h : DataW.trod enc Tryz.prog w base spare held fuel 22 cs = some x) : ∃ v ns, cs = [v] ∧ Ints Any w v ns :=
 kq6 (R := IntR) (size := 1) Tryz.underlying22 cells_ty.1 (by omega) h fun n cs' y _ hy => by
  obtain ⟨k, h1, h2⟩ := kmt hy
  exact ⟨k, h1, h2⟩
theorem k2v : ∀ (fuel : Nat) (cs : List Value) (x : DataW H × List MemPlace), DataW.trod enc Tryz.prog w base spare held fuel 43 cs = some x → ∃ t, RepVa Any w cs t := by
 obtain ⟨z1, z2, z3, z4, z5, z6, z7, z8, z9, z10, z11⟩ := cells_ty
 intro fuel
 induction fuel using Nat.strongRecOn with
 | _ fuel ih =>
  intro cs x h
  obtain ⟨xs, n, hfu, _, hlen, hxl, hf⟩ := DataW.trod_struct Tryz.underlying43 h
  rw [z8] at hlen
  match cs, hlen with
  | [c0, c1, c2, c3], _ =>
   have h0 := hf 0 _ rfl
   have h1 := hf 1 _ rfl
   have h2 := hf 2 _ rfl
   have h3 := hf 3 _ rfl
   rw [List.getElem?_eq_getElem (by rw [hxl]; decide)] at h0 h1 h2 h3
   obtain ⟨t, e0, ht⟩ := kmt h0
   obtain ⟨m, e1, hm⟩ := k56 h1
   obtain ⟨s, e2, hs⟩ := kro h2
   obtain ⟨v, ts, e3, hV⟩ := kq6 (R := RepVa Any w) (size := 4) Tryz.underlying41 z8 (by omega) h3 fun k cs' y hk hy => ih k (by omega) cs' y hy
   simp [z1, z2, z3, z4, z5, z6, z7, z8] at e0 e1 e2 e3
   subst e0 e1 e2 e3
   exact ⟨.mk t m s ts, RepVa.of ht hm hs hV⟩
theorem k1e {fuel : Nat} {cs : List Value} {x : DataW H × List MemPlace} (h : DataW.trod enc Tryz.prog w base spare held fuel 92 cs = some x) : ∃ t, kws Any w cs t := by
 obtain ⟨z1, z2, z3, z4, z5, z6, z7, z8, z9, z10, z11⟩ := cells_ty
 obtain ⟨xs, n, hfu, _, hlen, hxl, hf⟩ := DataW.trod_struct Tryz.underlying92 h
 rw [z9] at hlen
 match cs, hlen with
 | [c0, c1], _ =>
  have h0 := hf 0 _ rfl
  have h1 := hf 1 _ rfl
  rw [List.getElem?_eq_getElem (by rw [hxl]; decide)] at h0 h1
  obtain ⟨s, e0, hs⟩ := kro h0
  obtain ⟨t, e1, ht⟩ := kmt h1
  simp [z1, z2, z3, z4, z5, z6, z7, z8] at e0 e1
  subst e0 e1
  exact ⟨⟨s, t⟩, rfl, hs, ht⟩
theorem k5l {fuel : Nat} {cs : List Value} {x : DataW H × List MemPlace} (h : DataW.trod enc Tryz.prog w base spare held fuel 45 cs = some x) : ∃ t, RepRu Any w cs t := by
 obtain ⟨z1, z2, z3, z4, z5, z6, z7, z8, z9, z10, z11⟩ := cells_ty
 obtain ⟨xs, n, hfu, _, hlen, hxl, hf⟩ := DataW.trod_struct Tryz.underlying45 h
 rw [z10] at hlen
 match cs, hlen with
 | [c0, c1, c2, c3, c4, c5, c6, c7, c8], _ =>
  have h0 := hf 0 _ rfl
  have h1 := hf 1 _ rfl
  have h2 := hf 2 _ rfl
  have h3 := hf 3 _ rfl
  have h4 := hf 4 _ rfl
  have h5 := hf 5 _ rfl
  rw [List.getElem?_eq_getElem (by rw [hxl]; decide)] at h0 h1 h2 h3 h4 h5
  obtain ⟨a, e0, ha⟩ := kmt h0
  obtain ⟨b, e1, hb⟩ := kmt h1
  obtain ⟨c, e2, hc⟩ := kmt h2
  obtain ⟨v, hv⟩ := k2v _ _ _ h3
  obtain ⟨s, e4, hs⟩ := kro h4
  obtain ⟨u, ns, e5, hns⟩ := kv9 h5
  simp [z1, z2, z3, z4, z5, z6, z7, z8] at e0 e1 e2 e4 e5 hv
  subst e0 e1 e2 e4 e5
  exact ⟨⟨a, b, c, v, s, ns⟩, c3, c4, c5, c6, _, rfl, ha, hb, hc, hs, hv, hns⟩
theorem kye {fuel : Nat} {cs : List Value} {x : DataW H × List MemPlace} (h : DataW.trod enc Tryz.prog w base spare held fuel 26 cs = some x) : ∃ t, RepLa Any w cs t := by
 obtain ⟨z1, z2, z3, z4, z5, z6, z7, z8, z9, z10, z11⟩ := cells_ty
 obtain ⟨xs, n, hfu, _, hlen, hxl, hf⟩ := DataW.trod_struct Tryz.underlying26 h
 rw [z11] at hlen
 match cs, hlen with
 | [c0, c1, c2, c3], _ =>
  have h0 := hf 0 _ rfl
  have h1 := hf 1 _ rfl
  have h2 := hf 2 _ rfl
  have h3 := hf 3 _ rfl
  rw [List.getElem?_eq_getElem (by rw [hxl]; decide)] at h0 h1 h2 h3
  obtain ⟨s, e0, hs⟩ := kro h0
  obtain ⟨v1, n1, e1, hv1⟩ := kv9 h1
  obtain ⟨v2, n2, e2, hv2⟩ := kq6 (R := kws Any w) (size := 2) Tryz.underlying23 z9 (by omega) h2 fun k cs' y hk hy => k1e hy
  obtain ⟨v3, n3, e3, hv3⟩ := kq6 (R := RepRu Any w) (size := 9) Tryz.underlying24 z10 (by omega) h3 fun k cs' y hk hy => k5l hy
  simp [z1, z2, z3, z4, z5, z6, z7, z8] at e0 e1 e2 e3
  subst e0 e1 e2 e3
  exact ⟨⟨s, n1, n2, n3⟩, _, _, _, rfl, hs, hv1, hv2, hv3⟩
theorem kw4 {r : Reach} {b0 : Nat} {v : Value} {d : DataW H} {p : List MemPlace} (hv : Value.okWide Tryz.prog w r b0 26 v) (h : DataW.Trod enc Tryz.prog w base spare held 26 v d p) : ∃ t, LaV Any w v t := by
 obtain ⟨cs, rfl, hsz⟩ := okWide_struct Tryz.underlying26 hv
 obtain ⟨fuel, hf⟩ := h
 obtain ⟨t, ht⟩ := kye hf
 exact ⟨t, cs.toList, by simp, by simpa [Value.cells] using ht⟩
end
end Go.Proofs.YtaimpcnpifoidaaGreatDoor
set_option linter.unusedVariables false
set_option linter.unusedSimpArgs false
set_option maxRecDepth 100000
namespace Go.Proofs.YtaimpcnpifoidaaGreatDoor
open Go Go.RowKit Go.ChangeShapes Go.WideShapes Go.ChangeAt
theorem k6e {n : Int} (h : (Lit.int .i64 n).wf = true) : kdm n := by
 simpa [Lit.wf, IntKind.min, IntKind.max, IntKind.signed, IntKind.bits, kdm] using h
section
variable {H : Type} {enc : TypeId × Value → H} {w : World} {base : Nat} {spare : Nat → Bool} {held : Bool}
theorem ksd : Tryz.prog.cellsOf 29 = 2 := by kernel_rfl
theorem k5q : Tryz.prog.cellsOf 3 = 1 := by kernel_rfl
theorem k0y : Tryz.prog.cellsOf 27 = 1 := by kernel_rfl
theorem k6u : ∀ (fuel : Nat) (cs : List Value) (x : DataW H × List MemPlace), DataW.trod enc Tryz.prog w base spare held fuel 29 cs = some x → ∃ t, RepTm Any w cs t := by
 intro fuel
 induction fuel using Nat.strongRecOn with
 | _ fuel ih =>
  intro cs x h
  obtain ⟨xs, n, hfu, _, hlen, hxl, hf⟩ := DataW.trod_struct Tryz.underlying29 h
  rw [ksd] at hlen
  match cs, hlen with
  | [c0, c1], _ =>
   have h0 := hf 0 _ rfl
   have h1 := hf 1 _ rfl
   have e0 : xs[0]? = some (xs[0]'(by rw [hxl]; decide)) := List.getElem?_eq_getElem _
   have e1 : xs[1]? = some (xs[1]'(by rw [hxl]; decide)) := List.getElem?_eq_getElem _
   rw [e0] at h0
   rw [e1] at h1
   obtain ⟨r, hr0, _, hwf⟩ := DataW.trod_int Tryz.underlying3 h0
   obtain ⟨v, ts, hv, hs⟩ := kq6 (R := RepTm Any w) (size := 2) Tryz.underlying27 ksd (by omega) h1 fun m cs' y hm hy => ih m (by omega) cs' y hy
   have h00 : c0 = .int .i64 r := by simpa [k5q] using hr0
   have h11 : c1 = v := by simpa [k0y] using hv
   subst h00 h11
   exact ⟨.mk r ts, RepTm.of (k6e hwf) hs⟩
theorem k3q {r : Reach} {b0 : Nat} {v : Value} {d : DataW H} {p : List MemPlace} (hv : Value.okWide Tryz.prog w r b0 29 v) (h : DataW.Trod enc Tryz.prog w base spare held 29 v d p) : ∃ t, TmV Any w v t := by
 obtain ⟨cs, rfl, hsz⟩ := okWide_struct Tryz.underlying29 hv
 obtain ⟨fuel, hf⟩ := h
 obtain ⟨t, ht⟩ := k6u fuel _ _ hf
 rw [ksd] at hsz
 obtain ⟨l⟩ := cs
 match l, hsz with
 | [c0, c1], _ => exact ⟨t, c0, c1, rfl, ht⟩
end
end Go.Proofs.YtaimpcnpifoidaaGreatDoor
