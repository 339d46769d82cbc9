/- The languages that are returned are valid, and their start symbols productive: Strings, Patterns; the law LanguagesValid. -/
import Derived.Test.YtaeicmnimjfbaaaLw
set_option linter.unusedVariables false
set_option linter.unusedSimpArgs false
namespace Go.Proofs.Ytaeicmnimjfbaaa
open Go Go.RowKit
set_option maxRecDepth 100000

theorem strings_valid (ws : List ByteArray) (ns : List Int) (hw : ws.length ≤ 30) (hn : ns.length ≤ 30) (hs : ∀ s ∈ ws, s.size ≤ 100) : ∃ l e, languages_Strings ws ns = some (l, e) ∧ synthesislaw16_valid l e = some true := by
  have okT : ∀ v ∈ ws.map vT, okV v ∧ shortV v := fun v hv => by obtain ⟨n, hn, rfl⟩ := List.mem_map.1 hv; exact texts_short ws hs n hn
  have okN : ∀ v ∈ ns.map vI, okV v ∧ shortV v := fun v hv => by obtain ⟨n, hn, rfl⟩ := List.mem_map.1 hv; exact ints_short ns n hn
  obtain ⟨d, d1⟩ := checked_tot (ws.map vT) (by rw [List.length_map]; omega) okT
  obtain ⟨c, c1⟩ := checked_tot (ns.map vI) (by rw [List.length_map]; omega) okN
  have ht := lg_texts ws (by omega)
  have hli := lg_integers ns (by omega)
  by_cases hd : d = 0
  · subst hd
    by_cases hc : c = 0
    · subst hc
      obtain ⟨h16, hck, hpw⟩ := checked_facts (ns.map vI) (by rw [List.length_map]; omega) okN c1
      obtain ⟨g16, gck, gpw⟩ := checked_facts (ws.map vT) (by rw [List.length_map]; omega) okT d1
      rw [List.length_map] at h16 g16
      obtain ⟨rs, hq, hrs⟩ : ∃ rs, languages_Strings ws ns = some (La.mk (⟨#[115, 116, 114, 105, 110, 103, 115]⟩ : ByteArray) [3] [Sy.mk (⟨#[116, 101, 120, 116]⟩ : ByteArray) 3, Sy.mk (⟨#[110, 117, 109, 98, 101, 114]⟩ : ByteArray) 2] rs, 0) ∧ rs = ([rI 0]) ++ ((ws.map vT).map (rC 0) ++ (((([(⟨#[99, 111, 110, 99, 97, 116]⟩ : ByteArray)] : List ByteArray).map (rO 0 [0, 0])) ++ (([(⟨#[117, 112, 112, 101, 114]⟩ : ByteArray), (⟨#[108, 111, 119, 101, 114]⟩ : ByteArray), (⟨#[116, 114, 105, 109]⟩ : ByteArray)] : List ByteArray).map (rO 0 [0])) ++ (([(⟨#[119, 111, 114, 100]⟩ : ByteArray), (⟨#[99, 104, 97, 114]⟩ : ByteArray), (⟨#[114, 101, 112, 101, 97, 116]⟩ : ByteArray)] : List ByteArray).map (rO 0 [0, 1])) ++ (([(⟨#[115, 108, 105, 99, 101]⟩ : ByteArray)] : List ByteArray).map (rO 0 [0, 1, 1])) ++ (([(⟨#[114, 101, 112, 108, 97, 99, 101]⟩ : ByteArray)] : List ByteArray).map (rO 0 [0, 0, 0]))) ++ ((ns.map vI).map (rC 1) ++ ((([(⟨#[108, 101, 110]⟩ : ByteArray)] : List ByteArray).map (rO 1 [0])) ++ (([(⟨#[102, 105, 110, 100]⟩ : ByteArray)] : List ByteArray).map (rO 1 [0, 0])))))) := by
        apply Exists.intro
        refine ⟨?_, ?_⟩
        · unfold languages_Strings
          simp only [ht, d1, hli, c1, Option.bind_some, bne_self_eq_false, cond_false, languages_begin_h]
          repeat (first
            | rw [lg_input _ _ _ _ _ (by simp; try omega), Option.bind_some]
            | rw [lg_ops _ _ _ _ _ _ _ (by simp; try omega) (by simp) (by simp), Option.bind_some]
            | rw [lg_constants _ _ _ _ _ _ (by simp; try omega) (by simp; try omega), Option.bind_some])
        · simp only [List.append_assoc, List.nil_append, List.append_nil]
          try rfl
      refine ⟨_, 0, hq, ?_⟩
      have kA : okRules (La.mk (⟨#[115, 116, 114, 105, 110, 103, 115]⟩ : ByteArray) [3] [Sy.mk (⟨#[116, 101, 120, 116]⟩ : ByteArray) 3, Sy.mk (⟨#[110, 117, 109, 98, 101, 114]⟩ : ByteArray) 2] rs) ([rI 0]) = true := by kernel_rfl
      have kB : okRules (La.mk (⟨#[115, 116, 114, 105, 110, 103, 115]⟩ : ByteArray) [3] [Sy.mk (⟨#[116, 101, 120, 116]⟩ : ByteArray) 3, Sy.mk (⟨#[110, 117, 109, 98, 101, 114]⟩ : ByteArray) 2] rs) ((([(⟨#[99, 111, 110, 99, 97, 116]⟩ : ByteArray)] : List ByteArray).map (rO 0 [0, 0])) ++ (([(⟨#[117, 112, 112, 101, 114]⟩ : ByteArray), (⟨#[108, 111, 119, 101, 114]⟩ : ByteArray), (⟨#[116, 114, 105, 109]⟩ : ByteArray)] : List ByteArray).map (rO 0 [0])) ++ (([(⟨#[119, 111, 114, 100]⟩ : ByteArray), (⟨#[99, 104, 97, 114]⟩ : ByteArray), (⟨#[114, 101, 112, 101, 97, 116]⟩ : ByteArray)] : List ByteArray).map (rO 0 [0, 1])) ++ (([(⟨#[115, 108, 105, 99, 101]⟩ : ByteArray)] : List ByteArray).map (rO 0 [0, 1, 1])) ++ (([(⟨#[114, 101, 112, 108, 97, 99, 101]⟩ : ByteArray)] : List ByteArray).map (rO 0 [0, 0, 0]))) = true := by kernel_rfl
      have kC : okRules (La.mk (⟨#[115, 116, 114, 105, 110, 103, 115]⟩ : ByteArray) [3] [Sy.mk (⟨#[116, 101, 120, 116]⟩ : ByteArray) 3, Sy.mk (⟨#[110, 117, 109, 98, 101, 114]⟩ : ByteArray) 2] rs) ((([(⟨#[108, 101, 110]⟩ : ByteArray)] : List ByteArray).map (rO 1 [0])) ++ (([(⟨#[102, 105, 110, 100]⟩ : ByteArray)] : List ByteArray).map (rO 1 [0, 0]))) = true := by kernel_rfl
      have dA : allDf ((([rI 0]) ++ ((([(⟨#[99, 111, 110, 99, 97, 116]⟩ : ByteArray)] : List ByteArray).map (rO 0 [0, 0])) ++ (([(⟨#[117, 112, 112, 101, 114]⟩ : ByteArray), (⟨#[108, 111, 119, 101, 114]⟩ : ByteArray), (⟨#[116, 114, 105, 109]⟩ : ByteArray)] : List ByteArray).map (rO 0 [0])) ++ (([(⟨#[119, 111, 114, 100]⟩ : ByteArray), (⟨#[99, 104, 97, 114]⟩ : ByteArray), (⟨#[114, 101, 112, 101, 97, 116]⟩ : ByteArray)] : List ByteArray).map (rO 0 [0, 1])) ++ (([(⟨#[115, 108, 105, 99, 101]⟩ : ByteArray)] : List ByteArray).map (rO 0 [0, 1, 1])) ++ (([(⟨#[114, 101, 112, 108, 97, 99, 101]⟩ : ByteArray)] : List ByteArray).map (rO 0 [0, 0, 0])))) ++ ((([(⟨#[108, 101, 110]⟩ : ByteArray)] : List ByteArray).map (rO 1 [0])) ++ (([(⟨#[102, 105, 110, 100]⟩ : ByteArray)] : List ByteArray).map (rO 1 [0, 0])))) = true := by kernel_rfl
      have n1 : noC 1 (([rI 0]) ++ ((([(⟨#[99, 111, 110, 99, 97, 116]⟩ : ByteArray)] : List ByteArray).map (rO 0 [0, 0])) ++ (([(⟨#[117, 112, 112, 101, 114]⟩ : ByteArray), (⟨#[108, 111, 119, 101, 114]⟩ : ByteArray), (⟨#[116, 114, 105, 109]⟩ : ByteArray)] : List ByteArray).map (rO 0 [0])) ++ (([(⟨#[119, 111, 114, 100]⟩ : ByteArray), (⟨#[99, 104, 97, 114]⟩ : ByteArray), (⟨#[114, 101, 112, 101, 97, 116]⟩ : ByteArray)] : List ByteArray).map (rO 0 [0, 1])) ++ (([(⟨#[115, 108, 105, 99, 101]⟩ : ByteArray)] : List ByteArray).map (rO 0 [0, 1, 1])) ++ (([(⟨#[114, 101, 112, 108, 97, 99, 101]⟩ : ByteArray)] : List ByteArray).map (rO 0 [0, 0, 0])))) = true := by kernel_rfl
      have n2 : noC 1 ((([(⟨#[108, 101, 110]⟩ : ByteArray)] : List ByteArray).map (rO 1 [0])) ++ (([(⟨#[102, 105, 110, 100]⟩ : ByteArray)] : List ByteArray).map (rO 1 [0, 0]))) = true := by kernel_rfl
      have n3 : noC 0 ([rI 0]) = true := by kernel_rfl
      have n4 : noC 0 ((([(⟨#[99, 111, 110, 99, 97, 116]⟩ : ByteArray)] : List ByteArray).map (rO 0 [0, 0])) ++ (([(⟨#[117, 112, 112, 101, 114]⟩ : ByteArray), (⟨#[108, 111, 119, 101, 114]⟩ : ByteArray), (⟨#[116, 114, 105, 109]⟩ : ByteArray)] : List ByteArray).map (rO 0 [0])) ++ (([(⟨#[119, 111, 114, 100]⟩ : ByteArray), (⟨#[99, 104, 97, 114]⟩ : ByteArray), (⟨#[114, 101, 112, 101, 97, 116]⟩ : ByteArray)] : List ByteArray).map (rO 0 [0, 1])) ++ (([(⟨#[115, 108, 105, 99, 101]⟩ : ByteArray)] : List ByteArray).map (rO 0 [0, 1, 1])) ++ (([(⟨#[114, 101, 112, 108, 97, 99, 101]⟩ : ByteArray)] : List ByteArray).map (rO 0 [0, 0, 0]))) = true := by kernel_rfl
      have n5 : noC 0 ((([(⟨#[108, 101, 110]⟩ : ByteArray)] : List ByteArray).map (rO 1 [0])) ++ (([(⟨#[102, 105, 110, 100]⟩ : ByteArray)] : List ByteArray).map (rO 1 [0, 0]))) = true := by kernel_rfl
      have iA : ([rI 0]).all (inRb 2) = true := by kernel_rfl
      have iB : ((([(⟨#[99, 111, 110, 99, 97, 116]⟩ : ByteArray)] : List ByteArray).map (rO 0 [0, 0])) ++ (([(⟨#[117, 112, 112, 101, 114]⟩ : ByteArray), (⟨#[108, 111, 119, 101, 114]⟩ : ByteArray), (⟨#[116, 114, 105, 109]⟩ : ByteArray)] : List ByteArray).map (rO 0 [0])) ++ (([(⟨#[119, 111, 114, 100]⟩ : ByteArray), (⟨#[99, 104, 97, 114]⟩ : ByteArray), (⟨#[114, 101, 112, 101, 97, 116]⟩ : ByteArray)] : List ByteArray).map (rO 0 [0, 1])) ++ (([(⟨#[115, 108, 105, 99, 101]⟩ : ByteArray)] : List ByteArray).map (rO 0 [0, 1, 1])) ++ (([(⟨#[114, 101, 112, 108, 97, 99, 101]⟩ : ByteArray)] : List ByteArray).map (rO 0 [0, 0, 0]))).all (inRb 2) = true := by kernel_rfl
      have iC : ((([(⟨#[108, 101, 110]⟩ : ByteArray)] : List ByteArray).map (rO 1 [0])) ++ (([(⟨#[102, 105, 110, 100]⟩ : ByteArray)] : List ByteArray).map (rO 1 [0, 0]))).all (inRb 2) = true := by kernel_rfl
      have hlen : rs.length ≤ 96 := by rw [hrs]; simp; omega
      have hin : ∀ r ∈ rs, inR 2 r := fun r hr => by
        rw [hrs] at hr
        rcases List.mem_append.1 hr with h | h
        · exact inRb_all iA r h
        · rcases List.mem_append.1 h with h | h
          · exact consts_in (by decide) (by decide) r h
          · rcases List.mem_append.1 h with h | h
            · exact inRb_all iB r h
            · rcases List.mem_append.1 h with h | h
              · exact consts_in (by decide) (by decide) r h
              · exact inRb_all iC r h
      refine valid_ok _ 2 (check_ok _ (by kernel_rfl) (by kernel_rfl) (by kernel_rfl) (by kernel_rfl) (by kernel_rfl) (by kernel_rfl) hlen (fun r hr => ?_) ?_) rfl (by decide) (by decide) (by show rs.length ≤ 1000; omega) hin (start2 _ ?_)
      · have hr : r ∈ rs := hr
        rw [hrs] at hr
        rcases List.mem_append.1 hr with h | h
        · exact okRules_ok kA r h
        · rcases List.mem_append.1 h with h | h
          · obtain ⟨v, hv, rfl⟩ := List.mem_map.1 h
            obtain ⟨n, _, rfl⟩ := List.mem_map.1 hv
            exact rC_rule _ 0 _ (Sy.mk (⟨#[116, 101, 120, 116]⟩ : ByteArray) 3) (by kernel_rfl) (by kernel_rfl) rfl (gck _ hv)
          · rcases List.mem_append.1 h with h | h
            · exact okRules_ok kB r h
            · rcases List.mem_append.1 h with h | h
              · obtain ⟨v, hv, rfl⟩ := List.mem_map.1 h
                obtain ⟨n, _, rfl⟩ := List.mem_map.1 hv
                exact rC_rule _ 1 _ (Sy.mk (⟨#[110, 117, 109, 98, 101, 114]⟩ : ByteArray) 2) (by kernel_rfl) (by kernel_rfl) rfl (hck _ hv)
              · exact okRules_ok kC r h
      · show rs.Pairwise Dif
        rw [hrs]
        have p1 := put_pw (s := 1) (vs := ns.map vI) (allDf_pw dA) hpw (fun a ha v => noC_l n1 ha v) (fun a ha v => noC_r n2 ha v)
        rw [List.append_assoc] at p1
        refine put_pw p1 gpw (fun a ha v => noC_l n3 ha v) fun a ha v => ?_
        rcases List.mem_append.1 ha with h | h
        · exact noC_r n4 h v
        · rcases List.mem_append.1 h with h | h
          · obtain ⟨u, _, rfl⟩ := List.mem_map.1 h
            exact cc_dif rfl v u
          · exact noC_r n5 h v
      · show rI 0 ∈ rs
        rw [hrs]
        exact List.mem_append_left _ (List.mem_cons_self ..)
    · refine ⟨nilL, c, ?_, valid_nil c hc⟩
      simp only [languages_Strings, ht, d1, hli, c1, Option.bind_some, bne_self_eq_false, cond_false, bne0 hc, cond_true]
      rfl
  · refine ⟨nilL, d, ?_, valid_nil d hd⟩
    simp only [languages_Strings, ht, d1, Option.bind_some, bne0 hd, cond_true]
    rfl

/-! patterns -/
def litB (c : UInt8) : ByteArray := (pattern_Literal ⟨#[c]⟩).getD ⟨#[]⟩
theorem lit_all : (List.range 256).all (fun k => (pattern_Literal ⟨#[UInt8.ofNat k]⟩).isSome) = true := by kernel_rfl
theorem lit_eq (c : UInt8) : pattern_Literal ⟨#[c]⟩ = some (litB c) := by
  have h := List.all_eq_true.1 lit_all c.toNat (List.mem_range.2 (UInt8.toNat_lt c))
  simp only [UInt8.ofNat_toNat] at h
  unfold litB
  cases hp : pattern_Literal ⟨#[c]⟩ with
  | none => rw [hp] at h; cases h
  | some x => rfl
def goodP (k : Nat) : Bool := decide (k < 32) || (decide (126 < k) || (value_Check fuel (vP (litB (UInt8.ofNat k))) == some 0 && (litB (UInt8.ofNat k)).data.toList.getLast? == some (UInt8.ofNat k)))
theorem goodP_all : (List.range 256).all goodP = true := by kernel_rfl
theorem lit_good (c : UInt8) (h1 : ¬ c.toNat < 32) (h2 : ¬ 126 < c.toNat) : value_Check fuel (vP (litB c)) = some 0 ∧ (litB c).data.toList.getLast? = some c := by
  have h := List.all_eq_true.1 goodP_all c.toNat (List.mem_range.2 (UInt8.toNat_lt c))
  unfold goodP at h
  rw [decide_eq_false h1, decide_eq_false h2] at h
  simp only [UInt8.ofNat_toNat, Bool.false_or, Bool.and_eq_true, beq_iff_eq] at h
  exact h
theorem lit_ne {c d : UInt8} (hc : (litB c).data.toList.getLast? = some c) (hd : (litB d).data.toList.getLast? = some d) (h : c ≠ d) : value_Equal (vP (litB c)) (vP (litB d)) = some false := by
  rw [value_Equal_eq (flat_ok rfl) (flat_ok rfl)]
  cases he : eqV (vP (litB c)) (vP (litB d)) with
  | false => rfl
  | true =>
    have h1 := eqV_iff.1 he
    have h2 : litB c = litB d := by have := congrArg Va.text h1; exact this
    rw [h2, hd] at hc
    injection hc with hc
    exact absurd hc.symm h
theorem loop_cls {σ β : Type} {step : σ → Option (σ ⊕ β)} (n : Nat) (hn : n < 18446744073709551616) (S : Nat → σ) (bE : β) (Q : β → Prop) (hs : ∀ i, i < n → step (S i) = some (.inl (S (i + 1))) ∨ ∃ b, step (S i) = some (.inr b) ∧ Q b) (he : step (S n) = some (.inr bE)) :
    (loopN step fuel (S 0) = some bE ∧ ∀ i, i < n → step (S i) = some (.inl (S (i + 1)))) ∨ ∃ b, loopN step fuel (S 0) = some b ∧ Q b := by
  have key : ∀ (k i : Nat), i ≤ n → n - i < k → (loopN step k (S i) = some bE ∧ ∀ j, i ≤ j → j < n → step (S j) = some (.inl (S (j + 1)))) ∨ ∃ b, loopN step k (S i) = some b ∧ Q b := by
    intro k
    induction k with
    | zero => intro i _ h; omega
    | succ k ih =>
      intro i hi hk
      rw [loopN]
      by_cases h : i = n
      · subst h
        rw [he]
        exact .inl ⟨rfl, fun j h1 h2 => by omega⟩
      · rcases hs i (by omega) with h1 | ⟨b, h1, h2⟩
        · rw [h1]
          rcases ih (i + 1) (by omega) (by omega) with ⟨q1, q2⟩ | q
          · exact .inl ⟨q1, fun j h3 h4 => by
              by_cases hij : j = i
              · subst hij; exact h1
              · exact q2 j (by omega) h4⟩
          · exact .inr q
        · rw [h1]
          exact .inr ⟨b, rfl, h2⟩
  rcases key fuel 0 (Nat.zero_le _) (lt_fuel (by omega)) with ⟨h1, h2⟩ | h
  · exact .inl ⟨h1, fun i hi => h2 i (Nat.zero_le _) hi⟩
  · exact .inr h
theorem cut_one (a : ByteArray) (i : Nat) (h : i < a.size) : cutS a (i : Int) ((i + 1 : Nat) : Int) = some ⟨#[a[i]]⟩ := by
  unfold cutS
  rw [if_pos (by omega)]
  refine congrArg some ?_
  apply ByteArray.ext
  simp only [ByteArray.data_extract, Int.toNat_natCast]
  apply Array.ext
  · simp; have : i + 1 ≤ a.data.size := h; omega
  · intro j h1 h2
    simp at h2
    subst h2
    simp
    rfl
theorem cut_list (a : ByteArray) (i : Nat) (c : UInt8) (h : a.data.toList[i]? = some c) : cutS a (i : Int) ((i + 1 : Nat) : Int) = some ⟨#[c]⟩ := by
  obtain ⟨h1, h2⟩ := List.getElem?_eq_some_iff.1 h
  have h3 : i < a.size := by rw [size_list]; exact h1
  rw [cut_one a i h3]
  have : a[i] = c := by rw [← h2]; exact (Array.getElem_toList ..).symm
  rw [this]
/-- equal bytes before this one -/
theorem dup_cls (a : ByteArray) (i : Nat) (l : List Va) (hi : i < a.data.toList.length) (hn : a.size ≤ 1000) : (loopN (languages_Patterns_l1 a ((i : Int), l)) fuel 0 = some (.inl ()) ∧ ∀ j (hj : j < i), a.data.toList[j]'(by omega) ≠ a.data.toList[i]) ∨ loopN (languages_Patterns_l1 a ((i : Int), l)) fuel 0 = some (.inr (nilL, 6)) := by
  have hsz := size_list a
  have hst : ∀ j (hj : j < i), languages_Patterns_l1 a ((i : Int), l) (j : Int) = bif ((a.data.toList[j]'(by omega)).toNat : Int) == (a.data.toList[i].toNat : Int) then some (.inr (.inr (nilL, 6))) else some (.inl ((j + 1 : Nat) : Int)) := fun j hj => by
    have hj' : j < a.data.toList.length := by omega
    have e1 : byt a (i : Int) = some (a.data.toList[i].toNat : Int) := by rw [byt_list, List.getElem?_eq_getElem hi]; rfl
    have e2 : byt a (j : Int) = some (a.data.toList[j].toNat : Int) := by rw [byt_list, List.getElem?_eq_getElem hj']; rfl
    have b1 : decide ((j : Int) < (i : Int)) = true := decide_eq_true (by omega)
    simp only [languages_Patterns_l1, b1, cond_true, e1, e2, Option.bind_some, w64_succ (n := j) (by omega)]
    rfl
  rcases loop_cls (step := languages_Patterns_l1 a ((i : Int), l)) i (by omega) (fun j => (j : Int)) (.inl ()) (fun b => b = .inr (nilL, 6)) (fun j hj => by
    rw [hst j hj]
    cases ((a.data.toList[j]'(by omega)).toNat : Int) == (a.data.toList[i].toNat : Int) with
    | true => exact .inr ⟨_, rfl, rfl⟩
    | false => exact .inl rfl) (by
    have b1 : decide ((i : Int) < (i : Int)) = false := decide_eq_false (by omega)
    simp only [languages_Patterns_l1, b1, cond_false]) with ⟨h1, h2⟩ | ⟨b, h1, rfl⟩
  · refine .inl ⟨by simpa using h1, fun j hj he => ?_⟩
    have := h2 j hj
    rw [hst j hj, he] at this
    simp at this
  · exact .inr (by simpa using h1)
theorem walk_cls (a : ByteArray) (hn : a.size ≤ 1000) : (loopN (languages_Patterns_l2 a) fuel (0, []) = some (.inl (a.data.toList.map fun c => vP (litB c))) ∧ (∀ c ∈ a.data.toList, ¬ c.toNat < 32 ∧ ¬ 126 < c.toNat) ∧ a.data.toList.Pairwise (· ≠ ·)) ∨
    ∃ e, e ≠ 0 ∧ loopN (languages_Patterns_l2 a) fuel (0, []) = some (.inr (nilL, e)) := by
  have hsz := size_list a
  let S : Nat → Int × List Va := fun i => ((i : Int), (a.data.toList.take i).map fun c => vP (litB c))
  have hst : ∀ i (hi : i < a.data.toList.length), (languages_Patterns_l2 a (S i) = some (.inl (S (i + 1))) ∧ (¬ a.data.toList[i].toNat < 32 ∧ ¬ 126 < a.data.toList[i].toNat) ∧ ∀ j (hj : j < i), a.data.toList[j]'(by omega) ≠ a.data.toList[i]) ∨ ∃ e, e ≠ 0 ∧ languages_Patterns_l2 a (S i) = some (.inr (.inr (nilL, e))) := fun i hi => by
    have e1 : byt a (i : Int) = some (a.data.toList[i].toNat : Int) := by rw [byt_list, List.getElem?_eq_getElem hi]; rfl
    have b1 : decide ((i : Int) < (a.size : Int)) = true := decide_eq_true (by omega)
    by_cases c1 : a.data.toList[i].toNat < 32
    · refine .inr ⟨1, by decide, ?_⟩
      show languages_Patterns_l2 a ((i : Int), _) = _
      simp only [languages_Patterns_l2, b1, cond_true, e1, Option.bind_some, decide_eq_true (show (a.data.toList[i].toNat : Int) < 32 by omega)]
      rfl
    by_cases c2 : 126 < a.data.toList[i].toNat
    · refine .inr ⟨1, by decide, ?_⟩
      show languages_Patterns_l2 a ((i : Int), _) = _
      simp only [languages_Patterns_l2, b1, cond_true, cond_false, e1, Option.bind_some, decide_eq_false (show ¬ (a.data.toList[i].toNat : Int) < 32 by omega), decide_eq_true (show (126 : Int) < (a.data.toList[i].toNat : Int) by omega)]
      rfl
    have f1 := decide_eq_false (show ¬ (a.data.toList[i].toNat : Int) < 32 by omega)
    have f2 := decide_eq_false (show ¬ (126 : Int) < (a.data.toList[i].toNat : Int) by omega)
    rcases dup_cls a i ((a.data.toList.take i).map fun c => vP (litB c)) hi hn with ⟨h1, h2⟩ | h1
    · refine .inl ⟨?_, ⟨c1, c2⟩, h2⟩
      have hcut := cut_list a i a.data.toList[i] (List.getElem?_eq_getElem hi)
      have hw := w64_succ (n := i) (by omega)
      have happ : app 56 ((a.data.toList.take i).map fun c => vP (litB c)) [vP (litB a.data.toList[i])] = some ((a.data.toList.take (i + 1)).map fun c => vP (litB c)) := by
        rw [app_eq (by simp; omega), List.take_succ_eq_append_getElem hi, List.map_append]
        rfl
      have hp : value_OfPattern (litB a.data.toList[i]) = some (vP (litB a.data.toList[i])) := rfl
      show languages_Patterns_l2 a ((i : Int), _) = _
      simp only [languages_Patterns_l2, b1, cond_true, cond_false, e1, Option.bind_some, f1, f2, h1, Sum.elim_inl, hw, hcut, lit_eq, hp, happ]
      rfl
    · refine .inr ⟨6, by decide, ?_⟩
      show languages_Patterns_l2 a ((i : Int), _) = _
      simp only [languages_Patterns_l2, b1, cond_true, cond_false, e1, Option.bind_some, f1, f2, h1, Sum.elim_inr]
  rcases loop_cls (step := languages_Patterns_l2 a) a.data.toList.length (by omega) S (.inl (a.data.toList.map fun c => vP (litB c))) (fun b => ∃ e, e ≠ 0 ∧ b = .inr (nilL, e)) (fun i hi => by
    rcases hst i hi with ⟨h, _⟩ | ⟨e, he, h⟩
    · exact .inl h
    · exact .inr ⟨_, h, e, he, rfl⟩) (by
    have b1 : decide ((a.data.toList.length : Int) < (a.size : Int)) = false := decide_eq_false (by omega)
    show languages_Patterns_l2 a ((a.data.toList.length : Int), _) = _
    simp only [languages_Patterns_l2, b1, cond_false, List.take_length]) with ⟨h1, h2⟩ | ⟨b, h1, e, he, rfl⟩
  · refine .inl ⟨by simpa [S] using h1, fun c hc => ?_, List.pairwise_iff_getElem.2 fun i j hi hj hij => ?_⟩
    · obtain ⟨i, hi, rfl⟩ := List.mem_iff_getElem.1 hc
      rcases hst i hi with ⟨_, h, _⟩ | ⟨e, _, h⟩
      · exact h
      · rw [h2 i hi] at h; cases h
    · rcases hst j hj with ⟨_, _, h⟩ | ⟨e, _, h⟩
      · exact h i hij
      · rw [h2 j hj] at h; cases h
  · exact .inr ⟨e, he, by simpa [S] using h1⟩
theorem start3 (rs : List Ru) (m : ByteArray) (v : Va) (h0 : rO 0 [1, 2] m ∈ rs) (h1 : rI 1 ∈ rs) (h2 : rC 2 v ∈ rs) : (itr rs 3 (List.replicate 3 false)).getD 0 false = true := by
  have g1 : (itr rs 1 (List.replicate 3 false)).getD 1 false = true := itr_gets rs (List.replicate 3 false) 0 (rI 1) h1 rfl (by decide)
  have g2 : (itr rs 1 (List.replicate 3 false)).getD 2 false = true := itr_gets rs (List.replicate 3 false) 0 (rC 2 v) h2 rfl (show (2 : Nat) < 3 by decide)
  have hu : usB (itr rs 1 (List.replicate 3 false)) (rO 0 [1, 2] m) = true := by
    show ((itr rs 1 (List.replicate 3 false)).getD 1 false && ((itr rs 1 (List.replicate 3 false)).getD 2 false && true)) = true
    rw [g1, g2]
    rfl
  have g3 : (itr rs 2 (List.replicate 3 false)).getD 0 false = true := itr_gets rs (List.replicate 3 false) 1 (rO 0 [1, 2] m) h0 hu (show (0 : Nat) < 3 by decide)
  exact (itr_le rs _ 2).2 0 g3
theorem patterns_valid (a : ByteArray) : ∃ l e, languages_Patterns a = some (l, e) ∧ synthesislaw16_valid l e = some true := by
  have hsz := size_list a
  have hg : (bif decide ((a.size : Int) < 1) then some true else some (decide (16 < (a.size : Int))) : Option Bool) = some (decide ((a.size : Int) < 1) || decide (16 < (a.size : Int))) := by cases decide ((a.size : Int) < 1) <;> rfl
  by_cases hz : (decide ((a.size : Int) < 1) || decide (16 < (a.size : Int))) = true
  · refine ⟨nilL, 2, ?_, valid_nil 2 (by decide)⟩
    simp only [languages_Patterns, hg, hz, Option.bind_some, cond_true]
    rfl
  · rw [Bool.not_eq_true] at hz
    have hz2 := hz
    rw [Bool.or_eq_false_iff, decide_eq_false_iff_not, decide_eq_false_iff_not] at hz2
    rcases walk_cls a (by omega) with ⟨w1, w2, w3⟩ | ⟨e, he, w1⟩
    · have h16 : a.data.toList.length ≤ 16 := by omega
      have hv : ∀ c ∈ a.data.toList, value_Check fuel (vP (litB c)) = some 0 ∧ (litB c).data.toList.getLast? = some c := fun c hc => lit_good c (w2 c hc).1 (w2 c hc).2
      have hpw : (a.data.toList.map fun c => vP (litB c)).Pairwise fun x y => value_Equal x y = some false := by
        rw [List.pairwise_map]
        refine List.Pairwise.imp_of_mem (fun {x y} hx hy hxy => ?_) w3
        exact lit_ne (hv x hx).2 (hv y hy).2 hxy
      obtain ⟨rs, hq, hrs⟩ : ∃ rs, languages_Patterns a = some (La.mk (⟨#[112, 97, 116, 116, 101, 114, 110, 115]⟩ : ByteArray) [3] [Sy.mk (⟨#[116, 101, 115, 116]⟩ : ByteArray) 1, Sy.mk (⟨#[116, 101, 120, 116]⟩ : ByteArray) 3, Sy.mk (⟨#[112, 97, 116, 116, 101, 114, 110]⟩ : ByteArray) 8] rs, 0) ∧ rs = ((([(⟨#[109, 97, 116, 99, 104, 101, 115]⟩ : ByteArray)] : List ByteArray).map (rO 0 [1, 2])) ++ ([rI 1])) ++ ((a.data.toList.map fun c => vP (litB c)).map (rC 2) ++ ((([(⟨#[112, 99, 97, 116]⟩ : ByteArray), (⟨#[112, 97, 108, 116]⟩ : ByteArray)] : List ByteArray).map (rO 2 [2, 2])) ++ (([(⟨#[112, 115, 116, 97, 114]⟩ : ByteArray)] : List ByteArray).map (rO 2 [2])))) := by
        apply Exists.intro
        refine ⟨?_, ?_⟩
        · unfold languages_Patterns
          simp only [hg, hz, w1, Option.bind_some, cond_false, Sum.elim_inl, languages_begin_h]
          repeat (first
            | rw [lg_input _ _ _ _ _ (by simp; try omega), Option.bind_some]
            | rw [lg_ops _ _ _ _ _ _ _ (by simp; try omega) (by simp) (by simp), Option.bind_some]
            | rw [lg_constants _ _ _ _ _ _ (by simp; try omega) (by simp; try omega), Option.bind_some])
        · simp only [List.append_assoc, List.nil_append, List.append_nil]
          try rfl
      refine ⟨_, 0, hq, ?_⟩
      have kA : okRules (La.mk (⟨#[112, 97, 116, 116, 101, 114, 110, 115]⟩ : ByteArray) [3] [Sy.mk (⟨#[116, 101, 115, 116]⟩ : ByteArray) 1, Sy.mk (⟨#[116, 101, 120, 116]⟩ : ByteArray) 3, Sy.mk (⟨#[112, 97, 116, 116, 101, 114, 110]⟩ : ByteArray) 8] rs) ((([(⟨#[109, 97, 116, 99, 104, 101, 115]⟩ : ByteArray)] : List ByteArray).map (rO 0 [1, 2])) ++ ([rI 1])) = true := by kernel_rfl
      have kB : okRules (La.mk (⟨#[112, 97, 116, 116, 101, 114, 110, 115]⟩ : ByteArray) [3] [Sy.mk (⟨#[116, 101, 115, 116]⟩ : ByteArray) 1, Sy.mk (⟨#[116, 101, 120, 116]⟩ : ByteArray) 3, Sy.mk (⟨#[112, 97, 116, 116, 101, 114, 110]⟩ : ByteArray) 8] rs) ((([(⟨#[112, 99, 97, 116]⟩ : ByteArray), (⟨#[112, 97, 108, 116]⟩ : ByteArray)] : List ByteArray).map (rO 2 [2, 2])) ++ (([(⟨#[112, 115, 116, 97, 114]⟩ : ByteArray)] : List ByteArray).map (rO 2 [2]))) = true := by kernel_rfl
      have dA : allDf (((([(⟨#[109, 97, 116, 99, 104, 101, 115]⟩ : ByteArray)] : List ByteArray).map (rO 0 [1, 2])) ++ ([rI 1])) ++ ((([(⟨#[112, 99, 97, 116]⟩ : ByteArray), (⟨#[112, 97, 108, 116]⟩ : ByteArray)] : List ByteArray).map (rO 2 [2, 2])) ++ (([(⟨#[112, 115, 116, 97, 114]⟩ : ByteArray)] : List ByteArray).map (rO 2 [2])))) = true := by kernel_rfl
      have n1 : noC 2 ((([(⟨#[109, 97, 116, 99, 104, 101, 115]⟩ : ByteArray)] : List ByteArray).map (rO 0 [1, 2])) ++ ([rI 1])) = true := by kernel_rfl
      have n2 : noC 2 ((([(⟨#[112, 99, 97, 116]⟩ : ByteArray), (⟨#[112, 97, 108, 116]⟩ : ByteArray)] : List ByteArray).map (rO 2 [2, 2])) ++ (([(⟨#[112, 115, 116, 97, 114]⟩ : ByteArray)] : List ByteArray).map (rO 2 [2]))) = true := by kernel_rfl
      have iA : ((([(⟨#[109, 97, 116, 99, 104, 101, 115]⟩ : ByteArray)] : List ByteArray).map (rO 0 [1, 2])) ++ ([rI 1])).all (inRb 3) = true := by kernel_rfl
      have iB : ((([(⟨#[112, 99, 97, 116]⟩ : ByteArray), (⟨#[112, 97, 108, 116]⟩ : ByteArray)] : List ByteArray).map (rO 2 [2, 2])) ++ (([(⟨#[112, 115, 116, 97, 114]⟩ : ByteArray)] : List ByteArray).map (rO 2 [2]))).all (inRb 3) = true := by kernel_rfl
      have hlen : rs.length ≤ 96 := by rw [hrs]; simp; omega
      have hin : ∀ r ∈ rs, inR 3 r := fun r hr => by
        rw [hrs] at hr
        rcases List.mem_append.1 hr with h | h
        · exact inRb_all iA r h
        · rcases List.mem_append.1 h with h | h
          · exact consts_in (by decide) (by decide) r h
          · exact inRb_all iB r h
      have hne : a.data.toList ≠ [] := by
        intro h
        have h0 : a.size = 0 := by rw [hsz, h]; rfl
        omega
      refine valid_ok _ 3 (check_ok _ (by kernel_rfl) (by kernel_rfl) (by kernel_rfl) (by kernel_rfl) (by kernel_rfl) (by kernel_rfl) hlen (fun r hr => ?_) ?_) rfl (by decide) (by decide) (by show rs.length ≤ 1000; omega) hin (start3 _ (⟨#[109, 97, 116, 99, 104, 101, 115]⟩ : ByteArray) (vP (litB (a.data.toList.head hne))) ?_ ?_ ?_)
      · have hr : r ∈ rs := hr
        rw [hrs] at hr
        rcases List.mem_append.1 hr with h | h
        · exact okRules_ok kA r h
        · rcases List.mem_append.1 h with h | h
          · obtain ⟨v, hv2, rfl⟩ := List.mem_map.1 h
            obtain ⟨n, hn2, rfl⟩ := List.mem_map.1 hv2
            exact rC_rule _ 2 _ (Sy.mk (⟨#[112, 97, 116, 116, 101, 114, 110]⟩ : ByteArray) 8) (by kernel_rfl) (by kernel_rfl) rfl (hv n hn2).1
          · exact okRules_ok kB r h
      · show rs.Pairwise Dif
        rw [hrs]
        exact put_pw (allDf_pw dA) hpw (fun a ha v => noC_l n1 ha v) (fun a ha v => noC_r n2 ha v)
      · show rO 0 [1, 2] _ ∈ rs
        rw [hrs]
        exact List.mem_append_left _ (List.mem_cons_self ..)
      · show rI 1 ∈ rs
        rw [hrs]
        exact List.mem_append_left _ (List.mem_cons_of_mem _ (List.mem_cons_self ..))
      · show rC 2 _ ∈ rs
        rw [hrs]
        exact List.mem_append_right _ (List.mem_append_left _ (List.mem_map.2 ⟨_, List.mem_map.2 ⟨_, List.head_mem hne, rfl⟩, rfl⟩))
    · refine ⟨nilL, e, ?_, valid_nil e he⟩
      simp only [languages_Patterns, hg, hz, w1, Option.bind_some, cond_false, Sum.elim_inr]
theorem law_LanguagesValid (ws : List ByteArray) (ns : List Int) (hw : ws.length ≤ 9223372036854775807) (hn : ns.length ≤ 9223372036854775807) : synthesislaw16_LanguagesValid ws ns = some true := by
  have hg : (bif decide ((30 : Int) < (ws.length : Int)) then some true else some (decide ((30 : Int) < (ns.length : Int))) : Option Bool) = some (decide ((30 : Int) < (ws.length : Int)) || decide ((30 : Int) < (ns.length : Int))) := by cases decide ((30 : Int) < (ws.length : Int)) <;> rfl
  unfold synthesislaw16_LanguagesValid
  rw [hg]
  simp only [Option.bind_some]
  cases hz : (decide ((30 : Int) < (ws.length : Int)) || decide ((30 : Int) < (ns.length : Int))) with
  | true => simp only [cond_true, alive16, Option.bind_some]
  | false =>
  rw [Bool.or_eq_false_iff, decide_eq_false_iff_not, decide_eq_false_iff_not] at hz
  simp only [cond_false]
  -- the lengths of the words
  have hst : ∀ i (hi : i < ws.length), synthesislaw16_LanguagesValid_l2 ws (i : Int) = bif decide ((100 : Int) < (ws[i].size : Int)) then some (.inr (.inr true)) else some (.inl ((i + 1 : Nat) : Int)) := fun i hi => by
    have e1 : ws[i]? = some ws[i] := List.getElem?_eq_getElem hi
    have b1 : decide ((i : Int) < (ws.length : Int)) = true := decide_eq_true (by omega)
    simp only [synthesislaw16_LanguagesValid_l2, b1, cond_true, idx_nat, e1, Option.bind_some, alive16, w64_succ (n := i) (by omega)]
  rcases loop_cls (step := synthesislaw16_LanguagesValid_l2 ws) ws.length (by omega) (fun i => (i : Int)) (.inl ()) (fun b => b = .inr true) (fun i hi => by
    rw [hst i hi]
    cases decide ((100 : Int) < (ws[i].size : Int)) with
    | true => exact .inr ⟨_, rfl, rfl⟩
    | false => exact .inl rfl) (by simp only [synthesislaw16_LanguagesValid_l2, not_lt_len, cond_false]) with ⟨h1, h2⟩ | ⟨b, h1, rfl⟩
  · have h1' : loopN (synthesislaw16_LanguagesValid_l2 ws) fuel 0 = some (.inl ()) := by simpa using h1
    have hs : ∀ s ∈ ws, s.size ≤ 100 := fun s hs => by
      obtain ⟨i, hi, rfl⟩ := List.mem_iff_getElem.1 hs
      have := h2 i hi
      rw [hst i hi] at this
      by_cases hb : (100 : Int) < (ws[i].size : Int)
      · rw [decide_eq_true hb] at this; cases this
      · omega
    obtain ⟨l1, e1, s1, s2⟩ := strings_valid ws ns (by omega) (by omega) hs
    obtain ⟨l2, e2, t1, t2, t3⟩ := lists_valid ns (by omega)
    obtain ⟨l3, e3, u1, u2, u3⟩ := vectors_valid ns (by omega)
    obtain ⟨l4, e4, v1, v2, v3⟩ := reshaping_valid ns (by omega)
    have he : e2 = e4 := by rw [t3] at v3; injection v3
    subst he
    have hk : loopN (synthesislaw16_LanguagesValid_l1 ws) fuel 0 = some (.inl ()) := by
      have hp : ∀ i (hi : i < ws.length), i < 3 → synthesislaw16_LanguagesValid_l1 ws (i : Int) = some (.inl ((i + 1 : Nat) : Int)) := fun i hi h3 => by
        have e1 : ws[i]? = some ws[i] := List.getElem?_eq_getElem hi
        have b1 : decide ((i : Int) < (ws.length : Int)) = true := decide_eq_true (by omega)
        have b2 : decide ((i : Int) < 3) = true := decide_eq_true (by omega)
        obtain ⟨l, e, q1, q2⟩ := patterns_valid ws[i]
        simp only [synthesislaw16_LanguagesValid_l1, b1, b2, cond_true, cond_false, idx_nat, e1, Option.bind_some, q1, q2, Bool.not_true, w64_succ (n := i) (by omega)]
      have hm : ∀ i, i < min ws.length 3 → synthesislaw16_LanguagesValid_l1 ws (i : Int) = some (.inl ((i + 1 : Nat) : Int)) := fun i hi => hp i (by omega) (by omega)
      have := loop_end (step := synthesislaw16_LanguagesValid_l1 ws) (min ws.length 3) (by omega) (fun i => (i : Int)) (.inl ()) hm (by
        by_cases h3 : ws.length ≤ 3
        · have b1 : decide (((min ws.length 3 : Nat) : Int) < (ws.length : Int)) = false := decide_eq_false (by omega)
          simp only [synthesislaw16_LanguagesValid_l1, b1, cond_false, Option.bind_some]
        · have b1 : decide (((min ws.length 3 : Nat) : Int) < (ws.length : Int)) = true := decide_eq_true (by omega)
          have b2 : decide (((min ws.length 3 : Nat) : Int) < 3) = false := decide_eq_false (by omega)
          simp only [synthesislaw16_LanguagesValid_l1, b1, b2, cond_true, cond_false, Option.bind_some])
      simpa using this
    simp only [h1', Option.bind_some, Sum.elim_inl, s1, s2, t1, t2, u1, u2, v1, v2, Bool.not_true, cond_false, hk, beq_self_eq_true, cond_true, alive16]
  · have h1' : loopN (synthesislaw16_LanguagesValid_l2 ws) fuel 0 = some (.inr true) := by simpa using h1
    simp only [h1', Option.bind_some, Sum.elim_inr]
end Go.Proofs.Ytaeicmnimjfbaaa
