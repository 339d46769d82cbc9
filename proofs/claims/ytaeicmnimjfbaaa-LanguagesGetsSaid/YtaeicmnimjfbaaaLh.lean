/- Languages: a language is the same as itself; the languages of lists, vectors, tables, texts. -/
import Derived.Test.YtaeicmnimjfbaaaLg
set_option linter.unusedVariables false
set_option linter.unusedSimpArgs false
namespace Go.Proofs.Ytaeicmnimjfbaaa
open Go Go.RowKit

theorem sameInts_self (l : List Int) (h : l.length ≤ 1152921504606846976) : synthesisref11_SameInts l l = some true := by
  have hl := loop_end (step := synthesisref11_SameInts_l1 l l) l.length (by omega) (fun i => (i : Int)) (.inl ()) (fun i hi => by
    have e1 : l[i]? = some l[i] := List.getElem?_eq_getElem hi
    have b1 : decide ((i : Int) < (l.length : Int)) = true := decide_eq_true (by omega)
    simp only [synthesisref11_SameInts_l1, b1, idx_nat, e1, cond_true, Option.bind_some, bne_self_eq_false, cond_false, w64_succ (n := i) (by omega)]) (by simp [synthesisref11_SameInts_l1])
  have hl' : loopN (synthesisref11_SameInts_l1 l l) fuel 0 = some (.inl ()) := by simpa using hl
  unfold synthesisref11_SameInts
  simp only [bne_self_eq_false, cond_false, hl', Option.bind_some, Sum.elim_inl]
def okR (r : Ru) : Prop := r.args.length ≤ 1152921504606846976 ∧ okV r.const
theorem sameRule_self (r : Ru) (h : okR r) : synthesisref11_SameRule r r = some true := by
  unfold synthesisref11_SameRule
  simp only [beq_self_eq_true, cond_true, sameInts_self _ h.1, Option.bind_some, ref_Equal_eq h.2 h.2, eqV_self]
theorem same_self (l : La) (h1 : l.inputs.length ≤ 1152921504606846976) (h2 : l.symbols.length ≤ 1152921504606846976) (h3 : l.rules.length ≤ 1152921504606846976) (hr : ∀ r ∈ l.rules, okR r) : synthesisref11_Same l l = some true := by
  have hl := loop_end (step := synthesisref11_Same_l2 l l) l.symbols.length (by omega) (fun i => (i : Int)) (.inl ()) (fun i hi => by
    have e1 : l.symbols[i]? = some l.symbols[i] := List.getElem?_eq_getElem hi
    have b1 : decide ((i : Int) < (l.symbols.length : Int)) = true := decide_eq_true (by omega)
    simp only [synthesisref11_Same_l2, b1, idx_nat, e1, cond_true, Option.bind_some, beq_self_eq_true, Bool.and_self, Bool.not_true, cond_false, w64_succ (n := i) (by omega)]) (by simp [synthesisref11_Same_l2])
  have hl' : loopN (synthesisref11_Same_l2 l l) fuel 0 = some (.inl ()) := by simpa using hl
  have hk := loop_end (step := synthesisref11_Same_l1 l l) l.rules.length (by omega) (fun i => (i : Int)) (.inl ()) (fun i hi => by
    have e1 : l.rules[i]? = some l.rules[i] := List.getElem?_eq_getElem hi
    have b1 : decide ((i : Int) < (l.rules.length : Int)) = true := decide_eq_true (by omega)
    simp only [synthesisref11_Same_l1, b1, idx_nat, e1, cond_true, Option.bind_some, sameRule_self _ (hr _ (List.getElem_mem hi)), Bool.not_true, cond_false, w64_succ (n := i) (by omega)]) (by simp [synthesisref11_Same_l1])
  have hk' : loopN (synthesisref11_Same_l1 l l) fuel 0 = some (.inl ()) := by simpa using hk
  unfold synthesisref11_Same
  simp only [beq_self_eq_true, Bool.not_true, cond_false, sameInts_self _ h1, Option.bind_some, bne_self_eq_false, hl', hk', Sum.elim_inl]
theorem rI_ok (s : Int) : okR (rI s) := ⟨by simp [rI, Ru.args], flat_ok rfl⟩
theorem rO_ok {s : Int} {args : List Int} {o : ByteArray} (h : args.length ≤ 1152921504606846976) : okR (rO s args o) := ⟨h, flat_ok rfl⟩
theorem rC_ok {s : Int} {v : Va} (h : okV v) : okR (rC s v) := ⟨by simp [rC, Ru.args], h⟩
theorem rOs_ok {s : Int} {args : List Int} {os : List ByteArray} (h : args.length ≤ 1152921504606846976) : ∀ r ∈ os.map (rO s args), okR r := fun r hr => by
  obtain ⟨o, _, rfl⟩ := List.mem_map.1 hr
  exact rO_ok h
theorem rCs_ok {s : Int} {vs : List Va} (h : ∀ v ∈ vs, okV v) : ∀ r ∈ vs.map (rC s), okR r := fun r hr => by
  obtain ⟨v, hv, rfl⟩ := List.mem_map.1 hr
  exact rC_ok (h v hv)
theorem app_ok {l m : List Ru} (h : ∀ r ∈ l, okR r) (k : ∀ r ∈ m, okR r) : ∀ r ∈ l ++ m, okR r := fun r hr => (List.mem_append.1 hr).elim (h r) (k r)
theorem one_ok {r : Ru} (h : okR r) : ∀ x ∈ [r], okR x := fun x hx => by rw [List.mem_singleton] at hx; exact hx ▸ h
theorem nil_ok : ∀ r ∈ ([] : List Ru), okR r := fun r h => by cases h
theorem ints_ok (ns : List Int) : ∀ v ∈ ns.map vI, okV v := fun v hv => by
  obtain ⟨n, _, rfl⟩ := List.mem_map.1 hv
  exact flat_ok rfl
theorem bits_ok (ns : List Int) : ∀ v ∈ ns.map vB, okV v := fun v hv => by
  obtain ⟨n, _, rfl⟩ := List.mem_map.1 hv
  exact flat_ok rfl
theorem texts_ok (ns : List ByteArray) : ∀ v ∈ ns.map vT, okV v := fun v hv => by
  obtain ⟨n, _, rfl⟩ := List.mem_map.1 hv
  exact flat_ok rfl
theorem pats_ok {α : Type} (f : α → ByteArray) (ns : List α) : ∀ v ∈ ns.map (fun n => vP (f n)), okV v := fun v hv => by
  obtain ⟨n, _, rfl⟩ := List.mem_map.1 hv
  exact flat_ok rfl
def okL (l : La) : Prop := l.inputs.length ≤ 1000 ∧ l.symbols.length ≤ 1000 ∧ l.rules.length ≤ 1000 ∧ ∀ r ∈ l.rules, okR r
theorem okL.same {l : La} (h : okL l) : synthesisref11_Same l l = some true := same_self l (by have := h.1; omega) (by have := h.2.1; omega) (by have := h.2.2.1; omega) h.2.2.2
def nilL : La := La.mk ⟨#[]⟩ [] [] []
theorem nilL_ok : okL nilL := ⟨by simp [nilL, La.inputs], by simp [nilL, La.symbols], by simp [nilL, La.rules], nil_ok⟩

/-- the constants of a list, one after the other -/
theorem rf_consts {α : Type} {step : Int × ByteArray × List Int × List Sy × List Ru → Option ((Int × ByteArray × List Int × List Sy × List Ru) ⊕ (ByteArray × List Int × List Sy × List Ru))} (xs : List α) (f : α → Va) (s : Int) (a : ByteArray) (b : List Int) (c : List Sy) (base : List Ru) (hb : base.length ≤ 900) (hx : xs.length ≤ 100)
    (hs : ∀ (i : Nat) (x : α) (l : List Ru), xs[i]? = some x → i < 100 → step ((i : Int), a, b, c, l) = (synthesisref16_writer_constant_h a b c l s (f x)).bind fun r => some (.inl (w64 ((i : Int) + 1), a, b, c, r)))
    (he : ∀ l, step ((xs.length : Int), a, b, c, l) = some (.inr (a, b, c, l))) : loopN step fuel (0, a, b, c, base) = some (a, b, c, base ++ xs.map fun x => rC s (f x)) := by
  refine loop_mapS xs (fun x => rC s (f x)) base (fun i l => (i, a, b, c, l)) (fun l => (a, b, c, l)) (by omega) (fun i x hxi => ?_) (he _)
  obtain ⟨h1, h2, h3⟩ := len_take_map xs (fun x => rC s (f x)) base hxi
  rw [hs i x _ hxi (by omega), rf_constant _ _ _ _ _ _ (by rw [h1]; omega), Option.bind_some, w64_succ (by omega)]
theorem ints_short (ns : List Int) : ∀ n ∈ ns, okV (vI n) ∧ shortV (vI n) := fun n _ => ⟨flat_ok rfl, flat_short rfl (by simp [vI, Va.text, ByteArray.size])⟩
theorem bits_short (ns : List Int) : ∀ n ∈ ns, okV (vB n) ∧ shortV (vB n) := fun n _ => ⟨flat_ok rfl, flat_short rfl (by simp [vB, Va.text, ByteArray.size])⟩
theorem bne0 {c : Int} (h : c ≠ 0) : (c != 0) = true := by simpa using h

theorem rCf_ok {α : Type} {s : Int} {f : α → Va} {xs : List α} (h : ∀ x, okV (f x)) : ∀ r ∈ xs.map (fun x => rC s (f x)), okR r := fun r hr => by
  obtain ⟨v, hv, rfl⟩ := List.mem_map.1 hr
  exact rC_ok (h v)
set_option maxRecDepth 100000 in
theorem lists_both (ns : List Int) (hn : ns.length ≤ 30) : ∃ l e, languages_Lists ns = some (l, e) ∧ synthesisref16_Lists ns = some (l, e) ∧ okL l := by
  obtain ⟨c, c1, c2⟩ := checked_both17 vI ns (by omega) (ints_short ns)
  have hv : synthesisref16_values ns 2 = some ((ns.take 17).map vI) := rf_values ns 2 (by omega)
  have hlp : True := trivial
  by_cases hc : c = 0
  · subst hc
    have hloop := fun base (hb : base.length ≤ 900) a b c' => rf_consts (step := synthesisref16_Lists_l1 ns) ns vI 1 a b c' base hb (by omega) (fun i x l hx hi => by
      have b1 : decide ((i : Int) < (ns.length : Int)) = true := decide_eq_true (by have := (List.getElem?_eq_some_iff.1 hx).1; omega)
      simp only [synthesisref16_Lists_l1, b1, cond_true, idx_nat, hx, Option.bind_some, synthesisref01_OfInt, vI]) (fun l => by simp only [synthesisref16_Lists_l1, not_lt_len, cond_false])
    apply Exists.intro
    refine ⟨0, ?_, ?_, ?_⟩
    rotate_left
    · unfold synthesisref16_Lists
      simp only [hv, c2, Option.bind_some, bne_self_eq_false, cond_false, synthesisref16_begin_h]
      repeat (first
        | rw [rf_input _ _ _ _ _ (by simp; try omega), Option.bind_some]
        | rw [rf_op _ _ _ _ _ _ _ (by simp; try omega) (by simp), Option.bind_some]
        | rw [hloop _ (by simp; try omega), Option.bind_some]
        )
    · refine ⟨?_, ?_, ?_, ?_⟩
      · simp [La.inputs]
      · simp [La.symbols]
      · simp [La.rules]; try omega
      · repeat (first | exact nil_ok | exact one_ok (rI_ok _) | exact rOs_ok (by simp) | exact rCs_ok (ints_ok _) | exact rCf_ok (fun _ => flat_ok rfl) | apply app_ok)
    · unfold languages_Lists
      simp only [lg_integers ns (by omega), hlp, c1, Option.bind_some, bne_self_eq_false, cond_false, languages_begin_h]
      repeat (first
        | rw [lg_input _ _ _ _ _ (by simp; try omega), Option.bind_some]
        | rw [lg_ops _ _ _ _ _ _ _ (by simp; try omega) (by simp) (by simp), Option.bind_some]
        | rw [lg_constants _ _ _ _ _ _ (by simp; try omega) (by simp; try omega), Option.bind_some]
        )
      simp only [List.map_map]
      rfl
  · refine ⟨nilL, c, ?_, ?_, nilL_ok⟩
    · simp only [languages_Lists, lg_integers ns (by omega), hlp, c1, Option.bind_some, bne0 hc, cond_true]; rfl
    · simp only [synthesisref16_Lists, hv, c2, Option.bind_some, bne0 hc, cond_true]; rfl
set_option maxRecDepth 100000 in
theorem reshaping_both (ns : List Int) (hn : ns.length ≤ 30) : ∃ l e, languages_Reshaping ns = some (l, e) ∧ synthesisref16_Reshaping ns = some (l, e) ∧ okL l := by
  obtain ⟨c, c1, c2⟩ := checked_both17 vI ns (by omega) (ints_short ns)
  have hv : synthesisref16_values ns 2 = some ((ns.take 17).map vI) := rf_values ns 2 (by omega)
  have hlp : True := trivial
  by_cases hc : c = 0
  · subst hc
    have hloop := fun base (hb : base.length ≤ 900) a b c' => rf_consts (step := synthesisref16_Reshaping_l1 ns) ns vI 1 a b c' base hb (by omega) (fun i x l hx hi => by
      have b1 : decide ((i : Int) < (ns.length : Int)) = true := decide_eq_true (by have := (List.getElem?_eq_some_iff.1 hx).1; omega)
      simp only [synthesisref16_Reshaping_l1, b1, cond_true, idx_nat, hx, Option.bind_some, synthesisref01_OfInt, vI]) (fun l => by simp only [synthesisref16_Reshaping_l1, not_lt_len, cond_false])
    apply Exists.intro
    refine ⟨0, ?_, ?_, ?_⟩
    rotate_left
    · unfold synthesisref16_Reshaping
      simp only [hv, c2, Option.bind_some, bne_self_eq_false, cond_false, synthesisref16_begin_h]
      repeat (first
        | rw [rf_input _ _ _ _ _ (by simp; try omega), Option.bind_some]
        | rw [rf_op _ _ _ _ _ _ _ (by simp; try omega) (by simp), Option.bind_some]
        | rw [hloop _ (by simp; try omega), Option.bind_some]
        )
    · refine ⟨?_, ?_, ?_, ?_⟩
      · simp [La.inputs]
      · simp [La.symbols]
      · simp [La.rules]; try omega
      · repeat (first | exact nil_ok | exact one_ok (rI_ok _) | exact rOs_ok (by simp) | exact rCs_ok (ints_ok _) | exact rCf_ok (fun _ => flat_ok rfl) | apply app_ok)
    · unfold languages_Reshaping
      simp only [lg_integers ns (by omega), hlp, c1, Option.bind_some, bne_self_eq_false, cond_false, languages_begin_h]
      repeat (first
        | rw [lg_input _ _ _ _ _ (by simp; try omega), Option.bind_some]
        | rw [lg_ops _ _ _ _ _ _ _ (by simp; try omega) (by simp) (by simp), Option.bind_some]
        | rw [lg_constants _ _ _ _ _ _ (by simp; try omega) (by simp; try omega), Option.bind_some]
        )
      simp only [List.map_map]
      rfl
  · refine ⟨nilL, c, ?_, ?_, nilL_ok⟩
    · simp only [languages_Reshaping, lg_integers ns (by omega), hlp, c1, Option.bind_some, bne0 hc, cond_true]; rfl
    · simp only [synthesisref16_Reshaping, hv, c2, Option.bind_some, bne0 hc, cond_true]; rfl
/-- 1, 2, 4 -/
theorem loop_124 (a : ByteArray) (b : List Int) (c : List Sy) (base : List Ru) (hb : base.length ≤ 900) : loopN synthesisref16_Vectors_l1 fuel (1, a, b, c, base) = some (a, b, c, base ++ [1, 2, 4].map fun x => rC 1 (vI x)) := by
  have s1 : synthesisref16_Vectors_l1 (1, a, b, c, base) = some (.inl (2, a, b, c, base ++ [rC 1 (vI 1)])) := by
    simp only [synthesisref16_Vectors_l1, synthesisref01_OfInt, Option.bind_some, rf_constant _ _ _ _ _ _ (show base.length ≤ 1000 by omega)]
    rfl
  have s2 : synthesisref16_Vectors_l1 (2, a, b, c, base ++ [rC 1 (vI 1)]) = some (.inl (4, a, b, c, base ++ [rC 1 (vI 1)] ++ [rC 1 (vI 2)])) := by
    simp only [synthesisref16_Vectors_l1, synthesisref01_OfInt, Option.bind_some, rf_constant _ _ _ _ _ _ (show (base ++ [rC 1 (vI 1)]).length ≤ 1000 by simp; omega)]
    rfl
  have s3 : synthesisref16_Vectors_l1 (4, a, b, c, base ++ [rC 1 (vI 1)] ++ [rC 1 (vI 2)]) = some (.inl (8, a, b, c, base ++ [rC 1 (vI 1)] ++ [rC 1 (vI 2)] ++ [rC 1 (vI 4)])) := by
    simp only [synthesisref16_Vectors_l1, synthesisref01_OfInt, Option.bind_some, rf_constant _ _ _ _ _ _ (show (base ++ [rC 1 (vI 1)] ++ [rC 1 (vI 2)]).length ≤ 1000 by simp; omega)]
    rfl
  have s4 : synthesisref16_Vectors_l1 (8, a, b, c, base ++ [rC 1 (vI 1)] ++ [rC 1 (vI 2)] ++ [rC 1 (vI 4)]) = some (.inr (a, b, c, base ++ [rC 1 (vI 1)] ++ [rC 1 (vI 2)] ++ [rC 1 (vI 4)])) := rfl
  rw [show fuel = 18446744073709551612 + 1 + 1 + 1 + 1 from rfl]
  simp only [loopN, s1, s2, s3, s4]
  simp
theorem lg_bits (ns : List Int) (h : ns.length ≤ 1000) : loopN (languages_Vectors_l1 ns) fuel (0, []) = some (ns.map vB) := by
  rw [loop_mapS ns vB [] (fun i l => (i, l)) id (by omega) (fun i x hx => by
    obtain ⟨h1, h2, h3⟩ := len_take_map ns vB [] hx
    simp only [languages_Vectors_l1, h3, cond_true, idx_nat, hx, Option.bind_some, value_OfBits]
    rw [app_eq (by rw [h1]; simp; omega), Option.bind_some, w64_succ (by omega)]
    rfl) (by simp only [languages_Vectors_l1, not_lt_len, cond_false]; rfl)]
  rfl
set_option maxRecDepth 100000 in
theorem vectors_both (ns : List Int) (hn : ns.length ≤ 30) : ∃ l e, languages_Vectors ns = some (l, e) ∧ synthesisref16_Vectors ns = some (l, e) ∧ okL l := by
  obtain ⟨c, c1, c2⟩ := checked_both17 vB ns (by omega) (bits_short ns)
  have hv : synthesisref16_values ns 4 = some ((ns.take 17).map vB) := rf_values ns 4 (by omega)
  have hlp := lg_bits ns (by omega)
  have h124 := lg_integers [1, 2, 4] (by simp)
  by_cases hc : c = 0
  · subst hc
    have hloop := fun base (hb : base.length ≤ 900) a b c' => rf_consts (step := synthesisref16_Vectors_l2 ns) ns vB 0 a b c' base hb (by omega) (fun i x l hx hi => by
      have b1 : decide ((i : Int) < (ns.length : Int)) = true := decide_eq_true (by have := (List.getElem?_eq_some_iff.1 hx).1; omega)
      simp only [synthesisref16_Vectors_l2, b1, cond_true, idx_nat, hx, Option.bind_some, synthesisref01_OfBits, vB]) (fun l => by simp only [synthesisref16_Vectors_l2, not_lt_len, cond_false])
    have hloop1 := fun (base : List Ru) (hb : base.length ≤ 900) a b c' => loop_124 a b c' base hb
    apply Exists.intro
    refine ⟨0, ?_, ?_, ?_⟩
    rotate_left
    · unfold synthesisref16_Vectors
      simp only [hv, c2, Option.bind_some, bne_self_eq_false, cond_false, synthesisref16_begin_h]
      repeat (first
        | rw [rf_input _ _ _ _ _ (by simp; try omega), Option.bind_some]
        | rw [rf_op _ _ _ _ _ _ _ (by simp; try omega) (by simp), Option.bind_some]
        | rw [hloop _ (by simp; try omega), Option.bind_some]
        | rw [hloop1 _ (by simp; try omega), Option.bind_some]
        )
    · refine ⟨?_, ?_, ?_, ?_⟩
      · simp [La.inputs]
      · simp [La.symbols]
      · simp [La.rules]; try omega
      · repeat (first | exact nil_ok | exact one_ok (rI_ok _) | exact rOs_ok (by simp) | exact rCs_ok (ints_ok _) | exact rCf_ok (fun _ => flat_ok rfl) | apply app_ok)
    · unfold languages_Vectors
      simp only [lg_integers ns (by omega), hlp, c1, Option.bind_some, bne_self_eq_false, cond_false, languages_begin_h]
      repeat (first
        | rw [lg_input _ _ _ _ _ (by simp; try omega), Option.bind_some]
        | rw [lg_ops _ _ _ _ _ _ _ (by simp; try omega) (by simp) (by simp), Option.bind_some]
        | rw [lg_constants _ _ _ _ _ _ (by simp; try omega) (by simp; try omega), Option.bind_some]
        | rw [h124, Option.bind_some]
        )
      simp only [List.map_map]
      rfl
  · refine ⟨nilL, c, ?_, ?_, nilL_ok⟩
    · simp only [languages_Vectors, lg_integers ns (by omega), hlp, c1, Option.bind_some, bne0 hc, cond_true]; rfl
    · simp only [synthesisref16_Vectors, hv, c2, Option.bind_some, bne0 hc, cond_true]; rfl
end Go.Proofs.Ytaeicmnimjfbaaa
