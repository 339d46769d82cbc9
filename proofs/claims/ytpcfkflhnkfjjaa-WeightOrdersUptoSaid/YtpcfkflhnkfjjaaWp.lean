/- Terms that came in, with their bulk. -/
import Derived.Test.YtpcfkflhnkfjjaaGv
import Derived.Test.YtpcfkflhnkfjjaaRows
import Derived.JoinedCond
set_option linter.unusedVariables false
set_option linter.unusedSimpArgs false
set_option maxRecDepth 100000
namespace Go.Proofs.Ytpcfkflhnkfjjaa
open Go Go.RowKit Go.ChangeShapes Go.WideShapes Go.ChangeAt

section
variable {H : Type} {enc : TypeId × Value → H} {P : Program} {w : World} {base : Nat} {spare : Nat → Bool} {held : Bool}
theorem bulk_part {d : DataW H} {l : List (DataW H)} (h : d ∈ l) : Rows.uptoBulk d ≤ Rows.uptoBulkAll l := by
  induction l with
  | nil => cases h
  | cons x r ih =>
    simp only [Rows.uptoBulkAll]
    cases List.mem_cons.1 h with
    | inl e => subst e; omega
    | inr e => have := ih e; omega
theorem sizeL_bulk : ∀ (xs : List Tm) (es : List (DataW H)), xs.length = es.length → (∀ (i : Nat) (z : Tm) (d : DataW H), xs[i]? = some z → es[i]? = some d → z.size ≤ Rows.uptoBulk d) → Tm.sizeL xs ≤ Rows.uptoBulkAll es
  | [], es, h, _ => by simp [Tm.sizeL]
  | x :: xs, [], h, _ => by simp at h
  | x :: xs, e :: es, h, hp => by
    have h1 := hp 0 x e rfl rfl
    have h2 := sizeL_bulk xs es (by simpa using h) fun i z d hz hd => hp (i + 1) z d (by simpa using hz) (by simpa using hd)
    simp only [Tm.sizeL, Rows.uptoBulkAll]
    omega
theorem open_slB {R : List Value → Tm → Prop} {t e : TypeId} {size fuel : Nat} {cs : List Value} {x : DataW H × List MemPlace} (ht : P.underlying t = some (.slice e)) (hC : P.cellsOf e = size) (hpos : 0 < size)
    (h : DataW.trod enc P w base spare held fuel t cs = some x) (hel : ∀ n cs' y, n < fuel → DataW.trod enc P w base spare held n e cs' = some y → ∃ z, R cs' z ∧ z.size ≤ Rows.uptoBulk y.1) :
    ∃ v xs, cs = [v] ∧ RepSl Any w size R v xs ∧ Tm.sizeL xs + 1 ≤ Rows.uptoBulk x.1 := by
  rcases DataW.trod_slice ht h with ⟨rfl, rfl⟩ | ⟨a, len, cap, elems, rest, n, hfu, rfl, rfl, _, hlc, hcm, hlen, hel', _⟩
  · exact ⟨_, [], rfl, RepSl.nil (by omega), by simp [Tm.sizeL, Rows.uptoBulk]⟩
  · have each : ∀ i, i < len → ∃ cs' z, R cs' z ∧ cs'.length = size ∧ (∀ j, j < size → w.cell? ((a.add (i * size)).add j) = cs'[j]?) ∧ ∀ d, (elems.map (·.1))[i]? = some d → z.size ≤ Rows.uptoBulk d := fun i hi => by
      have h1 := hel' i hi
      have h2 : elems[i]? = some elems[i] := List.getElem?_eq_getElem (by omega)
      rw [h2, hC] at h1
      obtain ⟨cs', hc, htr⟩ := Option.bind_eq_some_iff.1 h1
      obtain ⟨_, hl, hat⟩ := World.cells?_some hc
      obtain ⟨z, hz, hz2⟩ := hel n cs' _ (by omega) htr
      refine ⟨cs', z, hz, hl, hat, fun d hd => ?_⟩
      rw [List.getElem?_map, h2] at hd
      simp at hd
      rw [← hd]; exact hz2
    obtain ⟨xs, hxl, hx⟩ := list_of (Q := fun i z => ∃ cs', R cs' z ∧ cs'.length = size ∧ (∀ j, j < size → w.cell? ((a.add (i * size)).add j) = cs'[j]?) ∧ ∀ d, (elems.map (·.1))[i]? = some d → z.size ≤ Rows.uptoBulk d) len (fun i hi => by
      obtain ⟨cs', z, h⟩ := each i hi; exact ⟨z, cs', h⟩)
    have hb := sizeL_bulk xs (elems.map (·.1)) (by rw [List.length_map]; omega) fun i z d hz hd => by
      obtain ⟨cs', _, _, _, h4⟩ := hx i z hz
      exact h4 d hd
    refine ⟨_, xs, rfl, ⟨some a, cap, by rw [hxl], by omega, by unfold maxLen at hcm; exact hcm, fun i z hz => ?_⟩, by simp only [Rows.uptoBulk]; omega⟩
    obtain ⟨cs', hr, hl, hat, _⟩ := hx i z hz
    have hsp : a.spot = none := by
      have h0 : 0 < xs.length := by have := (List.getElem?_eq_some_iff.1 hz).1; omega
      obtain ⟨cs0, _, hl0, hat0, _⟩ := hx 0 _ (List.getElem?_eq_getElem h0)
      have h1 := hat0 0 hpos
      simp only [Nat.zero_mul, Addr.add, if_true] at h1
      rw [List.getElem?_eq_getElem (by omega)] at h1
      unfold World.cell? at h1
      split at h1
      · split at h1
        · cases h1
        · rename_i hs; simpa using hs
      · cases h1
    obtain ⟨b, o, sp⟩ := a
    simp only at hsp
    subst hsp
    refine ⟨b, o, cs', rfl, trivial, fun j u hu => ?_, hl, hr⟩
    have hj : j < size := by have := (List.getElem?_eq_some_iff.1 hu).1; omega
    rw [← hu, ← hat j hj]
    congr 1
    unfold Addr.add
    by_cases h1 : i * size = 0 <;> by_cases h2 : j = 0 <;> simp [h1, h2, Nat.add_assoc]
theorem open_termB : ∀ (fuel : Nat) (cs : List Value) (x : DataW H × List MemPlace), DataW.trod enc Try.prog w base spare held fuel 35 cs = some x → ∃ t, RepTm Any w cs t ∧ t.size ≤ Rows.uptoBulk x.1 := by
  intro fuel
  induction fuel using Nat.strongRecOn with
  | _ fuel ih =>
    intro cs x h
    obtain ⟨xs, n, hfu, hx, hlen, hxl, hf⟩ := DataW.trod_struct Try.underlying35 h
    rw [cells_term] at hlen
    match cs, hlen with
    | [c0, c1], _ =>
      have h0 := hf 0 _ rfl
      have h1 := hf 1 _ rfl
      have e0 : xs[0]? = some (xs[0]'(by rw [hxl]; decide)) := List.getElem?_eq_getElem _
      have e1 : xs[1]? = some (xs[1]'(by rw [hxl]; decide)) := List.getElem?_eq_getElem _
      rw [e0] at h0
      rw [e1] at h1
      obtain ⟨r, hr0, _, hwf⟩ := DataW.trod_int Try.underlying3 h0
      obtain ⟨v, ts, hv, hs, hb⟩ := open_slB (R := RepTm Any w) (size := 2) Try.underlying33 cells_term (by omega) h1 fun m cs' y hm hy => ih m (by omega) cs' y hy
      have h00 : c0 = .int .i64 r := by simpa [cells_int] using hr0
      have h11 : c1 = v := by simpa [cells_terms] using hv
      subst h00 h11
      refine ⟨.mk r ts, RepTm.of (i64_of_wf hwf) hs, ?_⟩
      have hm : (xs[1]'(by rw [hxl]; decide)).1 ∈ xs.map (·.1) := List.mem_map_of_mem (List.getElem_mem _)
      have hp := bulk_part hm
      rw [hx]
      simp only [Rows.uptoBulk]
      have : (Tm.mk r ts).size = Tm.sizeL ts + 1 := by simp only [Tm.size]
      omega
theorem in_TmsB {r : Reach} {b0 : Nat} {v : Value} {d : DataW H} {p : List MemPlace} (hv : Value.okWide Try.prog w r b0 33 v) (h : DataW.Trod enc Try.prog w base spare held 33 v d p) : ∃ xs : List Tm, RF Any w v (eL 2 eTmR xs) ∧ xs.length ≤ 9223372036854775807 ∧ Tm.sizeL xs ≤ Rows.uptoBulk d := by
  obtain ⟨a, len, cap, rfl⟩ := okWide_slice Try.underlying33 hv
  obtain ⟨fuel, hf⟩ := h
  obtain ⟨v', xs, hc, hrep, hb⟩ := open_slB (R := RepTm Any w) Try.underlying33 cells_term (by omega) hf fun n cs' y _ hy => open_termB n cs' y hy
  have : v' = .slice a len cap := by simpa [Value.cells] using hc.symm
  subst this
  refine ⟨xs, rf_sl (by omega) hrep fun cs x _ hx => tm_cr x cs hx, ?_, by simp only at hb; omega⟩
  obtain ⟨A, cap', h0, h1, h2, _⟩ := hrep
  omega
end
end Go.Proofs.Ytpcfkflhnkfjjaa
