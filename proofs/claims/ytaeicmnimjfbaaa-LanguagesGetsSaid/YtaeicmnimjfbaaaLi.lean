/- Languages: the language of texts; the laws on lists and texts. -/
import Derived.Test.YtaeicmnimjfbaaaLh
set_option linter.unusedVariables false
set_option linter.unusedSimpArgs false
namespace Go.Proofs.Ytaeicmnimjfbaaa
open Go Go.RowKit

theorem lg_texts (ws : List ByteArray) (h : ws.length ≤ 1000) : loopN (languages_Strings_l1 ws) fuel (0, []) = some (ws.map vT) := by
  rw [loop_mapS ws vT [] (fun i l => (i, l)) id (by omega) (fun i x hx => by
    obtain ⟨h1, h2, h3⟩ := len_take_map ws vT [] hx
    simp only [languages_Strings_l1, h3, cond_true, idx_nat, hx, Option.bind_some, value_OfText]
    rw [app_eq (by rw [h1]; simp; omega), Option.bind_some, w64_succ (by omega)]
    rfl) (by simp only [languages_Strings_l1, not_lt_len, cond_false]; rfl)]
  rfl
theorem rf_texts (ws : List ByteArray) (h : ws.length ≤ 1000) : loopN (synthesisref16_Strings_l3 ws) fuel (0, []) = some ((ws.take 17).map vT) := by
  rw [loop_mapS (ws.take 17) vT [] (fun i l => (i, l)) id (by simp; omega) (fun i x hx => by
    obtain ⟨h1, h2, h3⟩ := len_take_map (ws.take 17) vT [] hx
    obtain ⟨h4, h5⟩ := take_get hx
    have h6 := (List.getElem?_eq_some_iff.1 h5).1
    have b1 : decide ((i : Int) < (ws.length : Int)) = true := decide_eq_true (by omega)
    have b2 : decide ((i : Int) < 17) = true := decide_eq_true (by omega)
    simp only [synthesisref16_Strings_l3, b1, b2, cond_true, idx_nat, h5, Option.bind_some, synthesisref01_OfText]
    rw [app_eq (by rw [h1]; simp; omega), Option.bind_some, w64_succ (by omega)]
    rfl) (by simp only [synthesisref16_Strings_l3, lt17, Option.bind_some, cond_false]; rfl)]
  rfl
theorem texts_short (ws : List ByteArray) (h : ∀ s ∈ ws, s.size ≤ 100) : ∀ s ∈ ws, okV (vT s) ∧ shortV (vT s) := fun s hs => ⟨flat_ok rfl, flat_short rfl (by have := h s hs; simp [vT, Va.text]; omega)⟩
theorem checked_len {xs : List Va} {c : Int} (h : languages_checked xs = some c) (hc : c = 0) : xs.length ≤ 16 := by
  unfold languages_checked at h
  by_cases h16 : (16 : Int) < (xs.length : Int)
  · rw [decide_eq_true h16] at h
    simp only [cond_true, Option.some.injEq] at h
    omega
  · omega

set_option maxRecDepth 100000 in
theorem strings_both (ws : List ByteArray) (ns : List Int) (hw : ws.length ≤ 30) (hn : ns.length ≤ 30) (hs : ∀ s ∈ ws, s.size ≤ 100) : ∃ l e, languages_Strings ws ns = some (l, e) ∧ synthesisref16_Strings ws ns = some (l, e) ∧ okL l := by
  obtain ⟨d, d1, d2⟩ := checked_both17 vT ws (by omega) (texts_short ws hs)
  obtain ⟨c, c1, c2⟩ := checked_both17 vI ns (by omega) (ints_short ns)
  have hv : synthesisref16_values ns 2 = some ((ns.take 17).map vI) := rf_values ns 2 (by omega)
  have ht := lg_texts ws (by omega)
  have hr := rf_texts ws (by omega)
  by_cases hd : d = 0
  · have hl16 := checked_len d1 hd
    rw [List.length_map] at hl16
    rw [List.take_of_length_le (show ws.length ≤ 17 by omega)] at d2 hr
    subst hd
    by_cases hc : c = 0
    · subst hc
      have hloop := fun base (hb : base.length ≤ 900) a b c' => rf_consts (step := synthesisref16_Strings_l1 ns) ns vI 1 a b c' base hb (by omega) (fun i x l hx hi => by
        have b1 : decide ((i : Int) < (ns.length : Int)) = true := decide_eq_true (by have := (List.getElem?_eq_some_iff.1 hx).1; omega)
        simp only [synthesisref16_Strings_l1, b1, cond_true, idx_nat, hx, Option.bind_some, synthesisref01_OfInt, vI]) (fun l => by simp only [synthesisref16_Strings_l1, not_lt_len, cond_false])
      have hloop2 := fun base (hb : base.length ≤ 900) a b c' => rf_consts (step := synthesisref16_Strings_l2 (ws.map vT)) (ws.map vT) id 0 a b c' base hb (by simp; omega) (fun i x l hx hi => by
        have b1 : decide ((i : Int) < (((ws.map vT).length : Nat) : Int)) = true := decide_eq_true (by have := (List.getElem?_eq_some_iff.1 hx).1; omega)
        simp only [synthesisref16_Strings_l2, b1, cond_true, idx_nat, hx, Option.bind_some, id]) (fun l => by simp only [synthesisref16_Strings_l2, not_lt_len, cond_false])
      apply Exists.intro
      refine ⟨0, ?_, ?_, ?_⟩
      rotate_left
      · unfold synthesisref16_Strings
        simp only [hr, d2, hv, c2, Option.bind_some, bne_self_eq_false, cond_false, synthesisref16_begin_h]
        repeat (first
          | rw [rf_input _ _ _ _ _ (by simp; try omega), Option.bind_some]
          | rw [rf_op _ _ _ _ _ _ _ (by simp; try omega) (by simp), Option.bind_some]
          | rw [hloop _ (by simp; try omega), Option.bind_some]
          | rw [hloop2 _ (by simp; try omega), Option.bind_some])
      · refine ⟨?_, ?_, ?_, ?_⟩
        · simp [La.inputs]
        · simp [La.symbols]
        · simp [La.rules]; try omega
        · repeat (first | exact nil_ok | exact one_ok (rI_ok _) | exact rOs_ok (by simp) | exact rCs_ok (ints_ok _) | exact rCs_ok (texts_ok _) | exact rCf_ok (fun _ => flat_ok rfl) | apply app_ok)
      · unfold languages_Strings
        simp only [ht, d1, lg_integers ns (by omega), c1, Option.bind_some, bne_self_eq_false, cond_false, languages_begin_h]
        repeat (first
          | rw [lg_input _ _ _ _ _ (by simp; try omega), Option.bind_some]
          | rw [lg_ops _ _ _ _ _ _ _ (by simp; try omega) (by simp) (by simp), Option.bind_some]
          | rw [lg_constants _ _ _ _ _ _ (by simp; try omega) (by simp; try omega), Option.bind_some])
        simp only [List.map_map]
        rfl
    · refine ⟨nilL, c, ?_, ?_, nilL_ok⟩
      · simp only [languages_Strings, ht, d1, lg_integers ns (by omega), c1, Option.bind_some, bne_self_eq_false, bne0 hc, cond_true, cond_false]; rfl
      · simp only [synthesisref16_Strings, hr, d2, hv, c2, Option.bind_some, bne_self_eq_false, bne0 hc, cond_true, cond_false]; rfl
  · refine ⟨nilL, d, ?_, ?_, nilL_ok⟩
    · simp only [languages_Strings, ht, d1, Option.bind_some, bne0 hd, cond_true]; rfl
    · simp only [synthesisref16_Strings, hr, d2, Option.bind_some, bne0 hd, cond_true]; rfl

theorem alive16 : synthesislaw16_alive = some true := by kernel_rfl
theorem law_lists (ns : List Int) (hn : ns.length ≤ 9223372036854775807) : synthesislaw16_LanguagesLists ns = some true := by
  unfold synthesislaw16_LanguagesLists
  by_cases h : (30 : Int) < (ns.length : Int)
  · simp only [decide_eq_true h, cond_true, alive16, Option.bind_some]
  · obtain ⟨l1, f1, a1, b1, k1⟩ := lists_both ns (by omega)
    obtain ⟨l2, f2, a2, b2, k2⟩ := vectors_both ns (by omega)
    obtain ⟨l3, f3, a3, b3, k3⟩ := reshaping_both ns (by omega)
    simp only [decide_eq_false h, cond_false, a1, b1, a2, b2, a3, b3, Option.bind_some, k1.same, k2.same, k3.same, Bool.not_true, bne_self_eq_false, beq_self_eq_true, cond_true, alive16]
theorem law_strings (ws : List ByteArray) (ns : List Int) (hw : ws.length ≤ 9223372036854775807) : synthesislaw16_LanguagesStrings ws ns = some true := by
  unfold synthesislaw16_LanguagesStrings
  by_cases h : (30 : Int) < (ws.length : Int)
  · simp only [decide_eq_true h, cond_true, alive16, Option.bind_some]
  · by_cases h' : (30 : Int) < (ns.length : Int)
    · simp only [decide_eq_false h, decide_eq_true h', cond_true, cond_false, alive16, Option.bind_some]
    · simp only [decide_eq_false h, decide_eq_false h', cond_false, Option.bind_some]
      by_cases hs : ∀ s ∈ ws, s.size ≤ 100
      · have hl := loop_end (step := synthesislaw16_LanguagesStrings_l1 ws) ws.length (by omega) (fun i => (i : Int)) (.inl ()) (fun i hi => by
          have e1 : ws[i]? = some ws[i] := List.getElem?_eq_getElem hi
          have b1 : decide ((i : Int) < (ws.length : Int)) = true := decide_eq_true (by omega)
          have b2 : decide (100 < (ws[i].size : Int)) = false := decide_eq_false (by have := hs _ (List.getElem_mem hi); omega)
          simp only [synthesislaw16_LanguagesStrings_l1, b1, idx_nat, e1, b2, cond_true, cond_false, Option.bind_some, w64_succ (n := i) (by omega)]) (by simp [synthesislaw16_LanguagesStrings_l1])
        have hl' : loopN (synthesislaw16_LanguagesStrings_l1 ws) fuel 0 = some (.inl ()) := by simpa using hl
        obtain ⟨l1, f1, a1, b1, k1⟩ := strings_both ws ns (by omega) (by omega) hs
        simp only [hl', Option.bind_some, Sum.elim_inl, a1, b1, k1.same, cond_true, beq_self_eq_true, alive16]
      · -- the first that is too long
        have hex : ∃ r, loopN (synthesislaw16_LanguagesStrings_l1 ws) fuel 0 = some r ∧ (r = .inl () → ∀ s ∈ ws, s.size ≤ 100) ∧ ∀ b, r = .inr b → b = true := by
          have hl := loop_fuel (step := synthesislaw16_LanguagesStrings_l1 ws) ws.length (by omega) (fun i => (i : Int)) (fun i => if (ws.drop i).all (fun s => decide (s.size ≤ 100)) = true then .inl () else .inr true) (fun i hi => by
            have e1 : ws[i]? = some ws[i] := List.getElem?_eq_getElem hi
            have d1 : ws.drop i = ws[i] :: ws.drop (i + 1) := List.drop_eq_getElem_cons hi
            have b1 : decide ((i : Int) < (ws.length : Int)) = true := decide_eq_true (by omega)
            by_cases hg : ws[i].size ≤ 100
            · refine .inl ⟨?_, ?_⟩
              · have b2 : decide (100 < (ws[i].size : Int)) = false := decide_eq_false (by omega)
                simp only [synthesislaw16_LanguagesStrings_l1, b1, idx_nat, e1, b2, cond_true, cond_false, Option.bind_some, w64_succ (n := i) (by omega)]
              · simp only [d1, List.all_cons, decide_eq_true hg, Bool.true_and]
            · refine .inr ?_
              have b2 : decide (100 < (ws[i].size : Int)) = true := decide_eq_true (by omega)
              simp only [synthesislaw16_LanguagesStrings_l1, b1, idx_nat, e1, b2, cond_true, Option.bind_some, alive16, d1, List.all_cons, decide_eq_false hg, Bool.false_and, Bool.false_eq_true, if_false]) (by
            simp only [synthesislaw16_LanguagesStrings_l1, not_lt_len, cond_false, List.drop_length, List.all_nil, if_true])
          refine ⟨if ws.all (fun s => decide (s.size ≤ 100)) = true then .inl () else .inr true, by simpa using hl, fun h s hsm => ?_, fun b h => ?_⟩
          · by_cases ha : ws.all (fun s => decide (s.size ≤ 100)) = true
            · exact of_decide_eq_true (List.all_eq_true.1 ha s hsm)
            · rw [if_neg ha] at h; cases h
          · by_cases ha : ws.all (fun s => decide (s.size ≤ 100)) = true
            · rw [if_pos ha] at h; cases h
            · rw [if_neg ha] at h; cases h; rfl
        obtain ⟨r, hr, h1, h2⟩ := hex
        cases r with
        | inl u => exact absurd (h1 rfl) hs
        | inr b => simp only [hr, Option.bind_some, Sum.elim_inr, h2 b rfl]
theorem law_LanguagesLists (ns : List Int) (hn : ns.length ≤ 9223372036854775807) : synthesislaw16_LanguagesLists ns = some true := law_lists ns hn
theorem law_LanguagesStrings (ws : List ByteArray) (ns : List Int) (hw : ws.length ≤ 9223372036854775807) (hn : ns.length ≤ 9223372036854775807) : synthesislaw16_LanguagesStrings ws ns = some true := law_strings ws ns hw
end Go.Proofs.Ytaeicmnimjfbaaa
