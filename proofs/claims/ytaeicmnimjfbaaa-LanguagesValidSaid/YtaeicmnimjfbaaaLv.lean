/- Languages: what makes a language valid; which symbols are productive. -/
import Derived.Test.YtaeicmnimjfbaaaVd
set_option linter.unusedVariables false
set_option linter.unusedSimpArgs false
namespace Go.Proofs.Ytaeicmnimjfbaaa
open Go Go.RowKit

def va0 : Va := Va.mk 0 0 ⟨#[]⟩ []
def rI (s : Int) : Ru := Ru.mk s 1 0 (Va.mk 0 0 ⟨#[]⟩ []) ⟨#[]⟩ []
def rC (s : Int) (v : Va) : Ru := Ru.mk s 2 0 v ⟨#[]⟩ []
def rO (s : Int) (args : List Int) (o : ByteArray) : Ru := Ru.mk s 3 0 (Va.mk 0 0 ⟨#[]⟩ []) o args

theorem loop_mapS {α γ σ β : Type} {step : σ → Option (σ ⊕ β)} (xs : List α) (f : α → γ) (base : List γ) (mk : Int → List γ → σ) (out : List γ → β) (hn : xs.length < 18446744073709551616)
    (hs : ∀ (i : Nat) (x : α), xs[i]? = some x → step (mk (i : Int) (base ++ (xs.take i).map f)) = some (.inl (mk ((i + 1 : Nat) : Int) (base ++ (xs.take i).map f ++ [f x]))))
    (he : step (mk (xs.length : Int) (base ++ xs.map f)) = some (.inr (out (base ++ xs.map f)))) : loopN step fuel (mk 0 base) = some (out (base ++ xs.map f)) := by
  have := loop_end (step := step) xs.length hn (fun i => mk (i : Int) (base ++ (xs.take i).map f)) (out (base ++ xs.map f)) (fun i hi => by
    have h1 : xs[i]? = some xs[i] := List.getElem?_eq_getElem hi
    rw [hs i _ h1]
    have h2 : base ++ (xs.take (i + 1)).map f = base ++ (xs.take i).map f ++ [f xs[i]] := by
      rw [List.take_add_one, h1, List.map_append, List.append_assoc]; rfl
    rw [h2]) (by simpa using he)
  simpa using this
theorem len_take_map {α γ : Type} (xs : List α) (f : α → γ) (base : List γ) {i : Nat} {x : α} (h : xs[i]? = some x) : (base ++ (xs.take i).map f).length = base.length + i ∧ i < xs.length ∧ decide ((i : Int) < (xs.length : Int)) = true := by
  have hi := (List.getElem?_eq_some_iff.1 h).1
  refine ⟨by rw [List.length_append, List.length_map, List.length_take]; omega, hi, decide_eq_true (by omega)⟩
theorem not_lt_len {α : Type} (xs : List α) : decide ((xs.length : Int) < (xs.length : Int)) = false := decide_eq_false (by omega)

theorem lg_input (a : ByteArray) (b : List Int) (c : List Sy) (base : List Ru) (s : Int) (h : base.length ≤ 1000) : languages_writer_input_h a b c base s = some (base ++ [rI s]) := by
  unfold languages_writer_input_h
  rw [app_eq (by simp; omega)]
  rfl
theorem lg_constants (a : ByteArray) (b : List Int) (c : List Sy) (base : List Ru) (s : Int) (vs : List Va) (h : base.length ≤ 900) (hv : vs.length ≤ 100) : languages_writer_constants_h a b c base s vs = some (base ++ vs.map (rC s)) := by
  unfold languages_writer_constants_h
  rw [loop_mapS vs (rC s) base (fun i l => (i, l)) id (by omega) (fun i x hx => by
    obtain ⟨h1, h2, h3⟩ := len_take_map vs (rC s) base hx
    simp only [languages_writer_constants_h_l1, h3, cond_true, idx_nat, hx, Option.bind_some]
    rw [app_eq (by rw [h1]; simp; omega), Option.bind_some, w64_succ (by omega)]
    rfl) (by simp only [languages_writer_constants_h_l1, not_lt_len, cond_false]; rfl)]
  rfl
theorem lg_ops (a : ByteArray) (b : List Int) (c : List Sy) (base : List Ru) (s : Int) (args : List Int) (ns : List ByteArray) (h : base.length ≤ 900) (hv : ns.length ≤ 100) (ha : args.length ≤ 100) : languages_writer_ops_h a b c base s args ns = some (base ++ ns.map (rO s args)) := by
  unfold languages_writer_ops_h
  rw [loop_mapS ns (rO s args) base (fun i l => (i, l)) id (by omega) (fun i x hx => by
    obtain ⟨h1, h2, h3⟩ := len_take_map ns (rO s args) base hx
    simp only [languages_writer_ops_h_l1, h3, cond_true, idx_nat, hx, Option.bind_some]
    rw [app_eq (xs := ([] : List Int)) (by simp; omega), Option.bind_some, app_eq (by rw [h1]; simp; omega), Option.bind_some, w64_succ (by omega)]
    rfl) (by simp only [languages_writer_ops_h_l1, not_lt_len, cond_false]; rfl)]
  rfl
def vI (n : Int) : Va := Va.mk 2 n ⟨#[]⟩ []
def vB (n : Int) : Va := Va.mk 4 n ⟨#[]⟩ []
def vT (s : ByteArray) : Va := Va.mk 3 0 s []
def vP (s : ByteArray) : Va := Va.mk 8 0 s []
theorem lg_integers (ns : List Int) (h : ns.length ≤ 1000) : languages_integers ns = some (ns.map vI) := by
  unfold languages_integers
  rw [loop_mapS ns vI [] (fun i l => (i, l)) id (by omega) (fun i x hx => by
    obtain ⟨h1, h2, h3⟩ := len_take_map ns vI [] hx
    simp only [languages_integers_l1, h3, cond_true, idx_nat, hx, Option.bind_some, value_OfInt]
    rw [app_eq (by rw [h1]; simp; omega), Option.bind_some, w64_succ (by omega)]
    rfl) (by simp only [languages_integers_l1, not_lt_len, cond_false]; rfl)]
  rfl
theorem flat_ok {v : Va} (h : v.items = []) : okV v := by
  cases v with
  | mk t n s l =>
    simp only [Va.items] at h
    subst h
    exact ⟨by simp [depV, depVs], by simp [wideV, wideVs]⟩
theorem flat_short {v : Va} (h : v.items = []) (hs : v.text.size ≤ 1152921504606846976) : shortV v := by
  cases v with
  | mk t n s l =>
    simp only [Va.items] at h
    subst h
    exact ⟨hs, trivial⟩
def nilL : La := La.mk ⟨#[]⟩ [] [] []
theorem ints_short (ns : List Int) : ∀ n ∈ ns, okV (vI n) ∧ shortV (vI n) := fun n _ => ⟨flat_ok rfl, flat_short rfl (by simp [vI, Va.text, ByteArray.size])⟩
theorem bits_short (ns : List Int) : ∀ n ∈ ns, okV (vB n) ∧ shortV (vB n) := fun n _ => ⟨flat_ok rfl, flat_short rfl (by simp [vB, Va.text, ByteArray.size])⟩
theorem bne0 {c : Int} (h : c ≠ 0) : (c != 0) = true := by simpa using h

theorem lg_bits (ns : List Int) (h : ns.length ≤ 1000) : loopN (languages_Vectors_l1 ns) fuel (0, []) = some (ns.map vB) := by
  rw [loop_mapS ns vB [] (fun i l => (i, l)) id (by omega) (fun i x hx => by
    obtain ⟨h1, h2, h3⟩ := len_take_map ns vB [] hx
    simp only [languages_Vectors_l1, h3, cond_true, idx_nat, hx, Option.bind_some, value_OfBits]
    rw [app_eq (by rw [h1]; simp; omega), Option.bind_some, w64_succ (by omega)]
    rfl) (by simp only [languages_Vectors_l1, not_lt_len, cond_false]; rfl)]
  rfl
theorem lg_texts (ws : List ByteArray) (h : ws.length ≤ 1000) : loopN (languages_Strings_l1 ws) fuel (0, []) = some (ws.map vT) := by
  rw [loop_mapS ws vT [] (fun i l => (i, l)) id (by omega) (fun i x hx => by
    obtain ⟨h1, h2, h3⟩ := len_take_map ws vT [] hx
    simp only [languages_Strings_l1, h3, cond_true, idx_nat, hx, Option.bind_some, value_OfText]
    rw [app_eq (by rw [h1]; simp; omega), Option.bind_some, w64_succ (by omega)]
    rfl) (by simp only [languages_Strings_l1, not_lt_len, cond_false]; rfl)]
  rfl
theorem texts_short (ws : List ByteArray) (h : ∀ s ∈ ws, s.size ≤ 100) : ∀ s ∈ ws, okV (vT s) ∧ shortV (vT s) := fun s hs => ⟨flat_ok rfl, flat_short rfl (by have := h s hs; simp [vT, Va.text]; omega)⟩
theorem checked_len {xs : List Va} {c : Int} (h : languages_checked xs = some c) (hc : c = 0) : xs.length ≤ 16 := by
  unfold languages_checked at h
  by_cases h16 : (16 : Int) < (xs.length : Int)
  · rw [decide_eq_true h16] at h
    simp only [cond_true, Option.some.injEq] at h
    omega
  · omega

theorem alive16 : synthesislaw16_alive = some true := by kernel_rfl

/-! rules that differ -/
theorem cut_take0 {α : Type} (xs : List α) (i : Nat) (hi : i ≤ xs.length) : cutL xs 0 (i : Int) = some (xs.take i) := by
  unfold cutL
  rw [if_pos ⟨by omega, by omega, by omega⟩]
  simp
def nd (a b : Ru) : Bool := !(a.symbol == b.symbol && (a.kind == b.kind && (a.input == b.input && a.op.toList == b.op.toList)))
theorem nd_ok {a b : Ru} (h : nd a b = true) : grammar_sameRule a b = some false := by
  unfold nd at h
  unfold grammar_sameRule
  cases h1 : (a.symbol == b.symbol) with
  | false => rfl
  | true =>
    cases h2 : (a.kind == b.kind) with
    | false => rfl
    | true =>
      cases h3 : (a.input == b.input) with
      | false => rfl
      | true =>
        cases h4 : (a.op.toList == b.op.toList) with
        | false => rfl
        | true => rw [h1, h2, h3, h4] at h; cases h
theorem const_ok {s : Int} {x v : Va} (h : value_Equal x v = some false) : grammar_sameRule (rC s x) (rC s v) = some false := by
  have h1 : ((rC s x).symbol == (rC s v).symbol) = true := by simp [rC, Ru.symbol]
  have h2 : ((rC s x).kind == (rC s v).kind) = true := rfl
  have h3 : ((rC s x).input == (rC s v).input) = true := rfl
  have h4 : ((rC s x).op.toList == (rC s v).op.toList) = true := by simp [rC, Ru.op]
  have h5 : slices_Equal_int_int (rC s x).args (rC s v).args = some true := by kernel_rfl
  have h6 : value_Equal (rC s x).const (rC s v).const = some false := h
  unfold grammar_sameRule
  rw [h1, h2, h3, h4, h5]
  simp only [cond_true, Option.bind_some, h6]
abbrev Dif (a b : Ru) : Prop := grammar_sameRule a b = some false
def allNd : List Ru → Bool
  | [] => true
  | a :: l => (l.all fun b => nd a b) && allNd l
theorem allNd_pw : ∀ {l : List Ru}, allNd l = true → l.Pairwise Dif
  | [], _ => .nil
  | a :: l, h => by
    simp only [allNd, Bool.and_eq_true, List.all_eq_true] at h
    exact .cons (fun b hb => nd_ok (h.1 b hb)) (allNd_pw h.2)
/-- constants beside rules that are none -/
def noC (s : Int) (l : List Ru) : Bool := l.all fun a => !(a.symbol == s) || !(a.kind == 2)
theorem noC_l {s : Int} {l : List Ru} (h : noC s l = true) {a : Ru} (ha : a ∈ l) (v : Va) : Dif a (rC s v) := by
  have := List.all_eq_true.1 h a ha
  refine nd_ok ?_
  unfold nd
  have e1 : (rC s v).symbol = s := rfl
  have e2 : (rC s v).kind = 2 := rfl
  rw [e1, e2]
  cases h1 : (a.symbol == s) <;> cases h2 : (a.kind == 2) <;> simp_all
theorem noC_r {s : Int} {l : List Ru} (h : noC s l = true) {a : Ru} (ha : a ∈ l) (v : Va) : Dif (rC s v) a := by
  have := List.all_eq_true.1 h a ha
  refine nd_ok ?_
  unfold nd
  have e1 : (rC s v).symbol = s := rfl
  have e2 : (rC s v).kind = 2 := rfl
  rw [e1, e2, Bool.beq_comm (a := s), Bool.beq_comm (a := (2 : Int))]
  cases h1 : (a.symbol == s) <;> cases h2 : (a.kind == 2) <;> simp_all
theorem consts_pw {s : Int} {vs : List Va} (h : vs.Pairwise fun a b => value_Equal a b = some false) : (vs.map (rC s)).Pairwise Dif := by
  rw [List.pairwise_map]
  exact h.imp fun h => const_ok h
/-- constants put among rules -/
theorem put_pw {s : Int} {A R : List Ru} {vs : List Va} (h : (A ++ R).Pairwise Dif) (hv : vs.Pairwise fun a b => value_Equal a b = some false) (hA : ∀ a ∈ A, ∀ v, Dif a (rC s v)) (hR : ∀ a ∈ R, ∀ v, Dif (rC s v) a) : (A ++ (vs.map (rC s) ++ R)).Pairwise Dif := by
  rw [List.pairwise_append] at h ⊢
  obtain ⟨h1, h2, h3⟩ := h
  refine ⟨h1, ?_, fun a ha b hb => ?_⟩
  · rw [List.pairwise_append]
    refine ⟨consts_pw hv, h2, fun a ha b hb => ?_⟩
    obtain ⟨v, _, rfl⟩ := List.mem_map.1 ha
    exact hR b hb v
  · rcases List.mem_append.1 hb with hb | hb
    · obtain ⟨v, _, rfl⟩ := List.mem_map.1 hb
      exact hA a ha v
    · exact h3 a ha b hb

/-! the check of the rules -/
theorem contains_no (xs : List Ru) (r : Ru) (hl : xs.length ≤ 1000) (h : ∀ x ∈ xs, Dif x r) : slices_ContainsFunc_api_Rule_api_Rule_h xs r = some false := by
  have hl2 := loop_end (step := slices_IndexFunc_api_Rule_api_Rule_h_l1 xs r) xs.length (by omega) (fun i => (i : Int)) (.inl ()) (fun i hi => by
    have e1 : xs[i]? = some xs[i] := List.getElem?_eq_getElem hi
    have b1 : decide ((i : Int) < (xs.length : Int)) = true := decide_eq_true (by omega)
    have hd : grammar_sameRule xs[i] r = some false := h _ (List.getElem_mem hi)
    simp only [slices_IndexFunc_api_Rule_api_Rule_h_l1, b1, cond_true, cond_false, idx_nat, e1, Option.bind_some, grammar_Check_1_h, hd, w64_succ (n := i) (by omega)]) (by
    simp only [slices_IndexFunc_api_Rule_api_Rule_h_l1, not_lt_len, cond_false])
  have hl3 : loopN (slices_IndexFunc_api_Rule_api_Rule_h_l1 xs r) fuel 0 = some (.inl ()) := by simpa using hl2
  unfold slices_ContainsFunc_api_Rule_api_Rule_h slices_IndexFunc_api_Rule_api_Rule_h
  rw [hl3]
  rfl
theorem rules_ok (l : La) (hl : l.rules.length ≤ 96) (hr : ∀ r ∈ l.rules, grammar_rule l r = some 0) (hp : l.rules.Pairwise Dif) : loopN (grammar_Check_l1 l) fuel 0 = some (.inl ()) := by
  have hl2 := loop_end (step := grammar_Check_l1 l) l.rules.length (by omega) (fun i => (i : Int)) (.inl ()) (fun i hi => by
    have e1 : l.rules[i]? = some l.rules[i] := List.getElem?_eq_getElem hi
    have b1 : decide ((i : Int) < (l.rules.length : Int)) = true := decide_eq_true (by omega)
    have hz : ((0 : Int) != 0) = false := rfl
    have hc := contains_no (l.rules.take i) l.rules[i] (by rw [List.length_take]; omega) (fun x hx => by
      obtain ⟨j, hj, rfl⟩ := List.mem_iff_getElem.1 hx
      rw [List.length_take] at hj
      rw [List.getElem_take]
      exact List.pairwise_iff_getElem.1 hp j i (by omega) hi (by omega))
    simp only [grammar_Check_l1, b1, cond_true, cond_false, idx_nat, e1, Option.bind_some, hr _ (List.getElem_mem hi), hz, cut_take0 l.rules i (by omega), hc, w64_succ (n := i) (by omega)]) (by
    simp only [grammar_Check_l1, not_lt_len, cond_false])
  simpa using hl2
theorem check_ok (l : La) (k1 : grammar_named l.name = some true) (k2 : decide ((4 : Int) < (l.inputs.length : Int)) = false) (k3 : loopN (grammar_Check_l3 l) fuel 0 = some (.inl ())) (k4 : decide ((l.symbols.length : Int) < 1) = false) (k5 : decide ((16 : Int) < (l.symbols.length : Int)) = false)
    (k6 : loopN (grammar_Check_l2 l) fuel (0, []) = some (.inl ())) (hl : l.rules.length ≤ 96) (hr : ∀ r ∈ l.rules, grammar_rule l r = some 0) (hp : l.rules.Pairwise Dif) : grammar_Check l = some 0 := by
  have k7 := rules_ok l hl hr hp
  have k8 : decide ((96 : Int) < (l.rules.length : Int)) = false := decide_eq_false (by omega)
  unfold grammar_Check
  simp only [k1, k2, k3, k4, k5, k6, k7, k8, Option.bind_some, Bool.not_true, cond_false, Sum.elim_inl]
theorem rC_rule (l : La) (s : Int) (v : Va) (x : Sy) (hs : grammar_symbol l s = some true) (hx : idx l.symbols s = some x) (ht : v.type = x.type) (hc : value_Check fuel v = some 0) : grammar_rule l (rC s v) = some 0 := by
  have e1 : (rC s v).symbol = s := rfl
  have e2 : (rC s v).kind = 2 := rfl
  have e3 : (rC s v).input = 0 := rfl
  have e4 : (rC s v).op = ⟨#[]⟩ := rfl
  have e5 : (rC s v).args = [] := rfl
  have e6 : (rC s v).const = v := rfl
  have hs1 : slices_Equal_int_int [] [] = some true := by kernel_rfl
  have hs2 : value_Equal (Va.mk 0 0 ⟨#[]⟩ []) (Va.mk 0 0 ⟨#[]⟩ []) = some true := by kernel_rfl
  have hsr : grammar_sameRule (Ru.mk s 2 0 (Va.mk 0 0 ⟨#[]⟩ []) ⟨#[]⟩ []) (Ru.mk s 2 0 (Va.mk 0 0 ⟨#[]⟩ []) ⟨#[]⟩ []) = some true := by
    unfold grammar_sameRule
    simp only [Ru.symbol, Ru.kind, Ru.input, Ru.op, Ru.args, Ru.const, beq_self_eq_true, cond_true, hs1, hs2, Option.bind_some]
  have hz : ((0 : Int) != 0) = false := rfl
  have hg : grammar_same v.type x.type = some 0 := by
    unfold grammar_same
    rw [ht, show (x.type != x.type) = false by rw [bne_eq_false_iff_eq]]
    rfl
  have f1 : decide ((2 : Int) < 1) = false := rfl
  have f2 : decide ((3 : Int) < 2) = false := rfl
  have f3 : ((2 : Int) == 1) = false := rfl
  have f4 : ((2 : Int) == 2) = true := rfl
  unfold grammar_rule
  simp only [e1, e2, e3, e4, e5, e6, hs, hx, hc, hg, hz, f1, f2, f3, f4, hsr, Option.bind_some, Bool.not_true, cond_false, cond_true]

/-! productive symbols -/
def usB (out : List Bool) (r : Ru) : Bool := r.args.all fun a => out.getD a.toNat false
def upd (out : List Bool) (r : Ru) : List Bool := out.set r.symbol.toNat (out.getD r.symbol.toNat false || usB out r)
def rnd (rs : List Ru) (out : List Bool) : List Bool := rs.foldl upd out
def itr (rs : List Ru) : Nat → List Bool → List Bool
  | 0, o => o
  | k + 1, o => rnd rs (itr rs k o)
theorem upd_len (out : List Bool) (r : Ru) : (upd out r).length = out.length := by simp [upd]
theorem rnd_len : ∀ (rs : List Ru) (out : List Bool), (rnd rs out).length = out.length
  | [], _ => rfl
  | r :: rs, out => by rw [rnd, List.foldl_cons]; exact (rnd_len rs (upd out r)).trans (upd_len out r)
theorem itr_len (rs : List Ru) (o : List Bool) : ∀ k, (itr rs k o).length = o.length
  | 0 => rfl
  | k + 1 => (rnd_len rs _).trans (itr_len rs o k)
def leB (o o' : List Bool) : Prop := o.length = o'.length ∧ ∀ i : Nat, o.getD i false = true → o'.getD i false = true
theorem leB.trans {a b c : List Bool} (h : leB a b) (k : leB b c) : leB a c := ⟨h.1.trans k.1, fun i hi => k.2 i (h.2 i hi)⟩
theorem upd_get (out : List Bool) (r : Ru) (i : Nat) : (upd out r).getD i false = if r.symbol.toNat = i ∧ i < out.length then (out.getD i false || usB out r) else out.getD i false := by
  unfold upd
  rw [List.getD_eq_getElem?_getD, List.getElem?_set]
  by_cases h : r.symbol.toNat = i
  · subst h
    by_cases h2 : r.symbol.toNat < out.length
    · simp [h2]
    · simp [h2, List.getElem?_eq_none (Nat.le_of_not_lt h2)]
  · simp [h]
theorem upd_le (out : List Bool) (r : Ru) : leB out (upd out r) := ⟨(upd_len out r).symm, fun i hi => by
  rw [upd_get]
  split
  · rw [hi]; rfl
  · exact hi⟩
theorem rnd_le : ∀ (rs : List Ru) (out : List Bool), leB out (rnd rs out)
  | [], out => ⟨rfl, fun _ h => h⟩
  | r :: rs, out => by rw [rnd, List.foldl_cons]; exact (upd_le out r).trans (rnd_le rs (upd out r))
theorem us_le {o o' : List Bool} (h : leB o o') {r : Ru} (hu : usB o r = true) : usB o' r = true := by
  unfold usB at hu ⊢
  rw [List.all_eq_true] at hu ⊢
  exact fun a ha => h.2 _ (hu a ha)
theorem rnd_gets : ∀ (rs : List Ru) (out : List Bool) (r : Ru), r ∈ rs → usB out r = true → r.symbol.toNat < out.length → (rnd rs out).getD r.symbol.toNat false = true
  | [], _, _, h, _, _ => by cases h
  | x :: rs, out, r, h, hu, hl => by
    rw [rnd, List.foldl_cons]
    rcases List.mem_cons.1 h with rfl | h
    · refine (rnd_le rs (upd out r)).2 _ ?_
      rw [upd_get, if_pos ⟨rfl, hl⟩, hu, Bool.or_true]
    · exact rnd_gets rs (upd out x) r h (us_le (upd_le out x) hu) (by rw [upd_len]; exact hl)
theorem itr_gets (rs : List Ru) (o : List Bool) (k : Nat) (r : Ru) (h : r ∈ rs) (hu : usB (itr rs k o) r = true) (hl : r.symbol.toNat < o.length) : (itr rs (k + 1) o).getD r.symbol.toNat false = true :=
  rnd_gets rs (itr rs k o) r h hu (by rw [itr_len]; exact hl)
theorem itr_le (rs : List Ru) (o : List Bool) (k : Nat) : leB (itr rs k o) (itr rs (k + 1) o) := rnd_le rs _
def inR (n : Nat) (r : Ru) : Prop := (0 ≤ r.symbol ∧ r.symbol < (n : Int)) ∧ r.args.length ≤ 1000 ∧ ∀ a ∈ r.args, 0 ≤ a ∧ a < (n : Int)
theorem idx_getD {out : List Bool} {a : Int} (h0 : 0 ≤ a) (h1 : a < (out.length : Int)) : idx out a = some (out.getD a.toNat false) := by
  unfold idx
  rw [if_pos h0, List.getElem?_eq_getElem (by omega), List.getD_eq_getElem?_getD, List.getElem?_eq_getElem (by omega)]
  rfl
theorem usable_eq (r : Ru) (out : List Bool) (h : inR out.length r) : grammar_productive_1_h r out = some (usB out r) := by
  obtain ⟨_, hl, ha⟩ := h
  have hlp := loop_fuel (step := grammar_productive_1_h_l1 r out) r.args.length (by omega) (fun i => (i : Int)) (fun i => bif (r.args.drop i).all (fun a => out.getD a.toNat false) then .inl () else .inr ()) (fun i hi => by
    have e1 : r.args[i]? = some r.args[i] := List.getElem?_eq_getElem hi
    have b1 : decide ((i : Int) < (r.args.length : Int)) = true := decide_eq_true (by omega)
    obtain ⟨g1, g2⟩ := ha _ (List.getElem_mem hi)
    have hd := List.drop_eq_getElem_cons hi
    rw [hd, List.all_cons]
    cases hb : out.getD r.args[i].toNat false with
    | true => exact .inl ⟨by simp only [grammar_productive_1_h_l1, b1, cond_true, idx_nat, e1, Option.bind_some, idx_getD g1 g2, hb, Bool.not_true, cond_false, w64_succ (n := i) (by omega)], by rw [Bool.true_and]⟩
    | false => exact .inr (by simp only [grammar_productive_1_h_l1, b1, cond_true, idx_nat, e1, Option.bind_some, idx_getD g1 g2, hb, Bool.not_false, Bool.false_and, cond_false])) (by
    simp only [grammar_productive_1_h_l1, not_lt_len, cond_false, List.drop_length, List.all_nil, cond_true])
  have hlp2 : loopN (grammar_productive_1_h_l1 r out) fuel 0 = some (bif usB out r then .inl () else .inr ()) := by simpa [usB] using hlp
  unfold grammar_productive_1_h
  rw [hlp2]
  cases usB out r <;> rfl
theorem round_eq (l : La) (out : List Bool) (hl : l.rules.length ≤ 1000) (hr : ∀ r ∈ l.rules, inR out.length r) : loopN (grammar_productive_l1 l) fuel (0, out) = some (rnd l.rules out) := by
  have hlp := loop_end (step := grammar_productive_l1 l) l.rules.length (by omega) (fun i => ((i : Int), rnd (l.rules.take i) out)) (rnd l.rules out) (fun i hi => by
    have e1 : l.rules[i]? = some l.rules[i] := List.getElem?_eq_getElem hi
    have b1 : decide ((i : Int) < (l.rules.length : Int)) = true := decide_eq_true (by omega)
    have hin := hr _ (List.getElem_mem hi)
    have hlen := rnd_len (l.rules.take i) out
    have hin2 : inR (rnd (l.rules.take i) out).length l.rules[i] := by rw [hlen]; exact hin
    have hix := idx_getD (out := rnd (l.rules.take i) out) hin2.1.1 hin2.1.2
    have hnext : rnd (l.rules.take (i + 1)) out = upd (rnd (l.rules.take i) out) l.rules[i] := by
      rw [List.take_succ_eq_append_getElem hi]
      simp only [rnd, List.foldl_append, List.foldl_cons, List.foldl_nil]
    rw [hnext]
    unfold upd
    cases hb : (rnd (l.rules.take i) out).getD l.rules[i].symbol.toNat false with
    | true => simp only [grammar_productive_l1, b1, cond_true, idx_nat, e1, Option.bind_some, hix, hb, Bool.true_or, w64_succ (n := i) (by omega)]
    | false => simp only [grammar_productive_l1, b1, cond_true, idx_nat, e1, Option.bind_some, hix, hb, usable_eq _ _ hin2, Bool.false_or, cond_false, w64_succ (n := i) (by omega)]) (by
    simp only [grammar_productive_l1, not_lt_len, cond_false, List.take_length])
  simpa [rnd] using hlp
theorem prod_eq (l : La) (n : Nat) (hn : l.symbols.length = n) (h16 : n ≤ 16) (hl : l.rules.length ≤ 1000) (hr : ∀ r ∈ l.rules, inR n r) : grammar_productive l = some (itr l.rules n (List.replicate n false)) := by
  have hm : mkL 1 false (l.symbols.length : Int) = some (List.replicate n false) := by
    unfold mkL
    rw [if_pos ⟨by omega, by omega, by omega⟩, hn]
    rfl
  have hlp := loop_end (step := grammar_productive_l2 l) n (by omega) (fun k => ((k : Int), itr l.rules k (List.replicate n false))) (itr l.rules n (List.replicate n false)) (fun k hk => by
    have b1 : decide ((k : Int) < (l.symbols.length : Int)) = true := decide_eq_true (by omega)
    have hq := round_eq l (itr l.rules k (List.replicate n false)) hl (by rw [itr_len, List.length_replicate]; exact hr)
    simp only [grammar_productive_l2, b1, cond_true, hq, Option.bind_some, w64_succ (n := k) (by omega)]
    rfl) (by
    have b1 : decide ((n : Int) < (l.symbols.length : Int)) = false := decide_eq_false (by omega)
    simp only [grammar_productive_l2, b1, cond_false])
  have hlp2 : loopN (grammar_productive_l2 l) fuel (0, List.replicate n false) = some (itr l.rules n (List.replicate n false)) := by simpa [itr] using hlp
  unfold grammar_productive
  rw [hm, Option.bind_some, hlp2]
  rfl
theorem valid_ok (l : La) (n : Nat) (hc : grammar_Check l = some 0) (hn : l.symbols.length = n) (h1 : 1 ≤ n) (h16 : n ≤ 16) (hl : l.rules.length ≤ 1000) (hr : ∀ r ∈ l.rules, inR n r) (hp : (itr l.rules n (List.replicate n false)).getD 0 false = true) : synthesislaw16_valid l 0 = some true := by
  have hlen : (itr l.rules n (List.replicate n false)).length = n := by rw [itr_len, List.length_replicate]
  have hz : ((0 : Int) != 0) = false := rfl
  have hz2 : ((0 : Int) == 0) = true := rfl
  have b1 : decide ((0 : Int) < ((itr l.rules n (List.replicate n false)).length : Int)) = true := decide_eq_true (by omega)
  have hi : idx (itr l.rules n (List.replicate n false)) 0 = some true := by
    rw [idx_getD (by omega) (by omega)]
    exact congrArg some hp
  unfold synthesislaw16_valid grammar_Productive
  simp only [hz, hz2, hc, cond_false, cond_true, Option.bind_some, prod_eq l n hn h16 hl hr, b1, hi]
theorem valid_nil (e : Int) (he : e ≠ 0) : synthesislaw16_valid nilL e = some true := by
  have hs : synthesisref11_Same nilL nilL = some true := by kernel_rfl
  unfold synthesislaw16_valid
  rw [show (e != 0) = true by rw [bne_iff_ne]; exact he, cond_true]
  show (Option.bind (synthesisref11_Same nilL nilL) fun v1 => some v1) = _
  rw [hs]
  rfl
end Go.Proofs.Ytaeicmnimjfbaaa
