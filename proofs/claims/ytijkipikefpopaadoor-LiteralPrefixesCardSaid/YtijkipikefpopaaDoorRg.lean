/- What is written for a value; a value that passes its check; small values. -/
import Derived.Test.YtijkipikefpopaaDoorRf
set_option linter.unusedVariables false
set_option linter.unusedSimpArgs false
set_option maxRecDepth 10000
namespace Go.Proofs.YtijkipikefpopaaDoor
open Go Go.RowKit

/-! lists written -/
theorem seps_cons (v : Va) (l : List Va) : sepsB showV (v :: l) = [44, 32] ++ showV v ++ sepsB showV l := by simp [sepsB]
theorem join_len {B : Nat} : ∀ (l : List Va), (∀ x ∈ l, (showV x).length ≤ B) → (sepsB showV l).length ≤ l.length * (B + 2)
  | [], _ => Nat.zero_le _
  | v :: l, h => by
    rw [seps_cons]
    have h1 := h v (List.mem_cons_self ..)
    have h2 := join_len l fun x hx => h x (List.mem_cons_of_mem _ hx)
    simp only [List.length_append, List.length_cons, List.length_nil]
    rw [Nat.add_mul, Nat.one_mul]
    omega
theorem joinB_len {B : Nat} (l : List Va) (h : ∀ x ∈ l, (showV x).length ≤ B) : (joinB (l.map showV)).length ≤ l.length * (B + 2) := by
  cases l with
  | nil => exact Nat.zero_le _
  | cons v l =>
    have := join_len (v :: l) h
    rw [seps_cons] at this
    rw [joinB_cons]
    simp only [List.length_append] at this ⊢
    omega
theorem writeAll_loop {l : List Va} {B C : Nat} (hC : C ≤ 3000000000) {r22 : List Int → List Va → Option (List Int)} (hl : l.length ≤ 1000) (hB : B ≤ 100000) (hb : ∀ x ∈ l, (showV x).length ≤ B)
    (H : ∀ x ∈ l, ∀ acc : List UInt8, acc.length ≤ C → literal_write_h2 r22 (iB acc) x = some (iB (acc ++ showV x))) :
    ∀ (k m : Nat) (acc : List UInt8) (n : Nat), m + k = l.length → k < n → acc.length + k * (B + 2) ≤ C →
    loopN (literal_writeAll_h_l1 l r22) n ((m : Int), iB acc) = some (iB (acc ++ if m = 0 then joinB (l.map showV) else sepsB showV (l.drop m))) := by
  intro k
  induction k with
  | zero =>
    intro m acc n hm hn ha
    obtain ⟨n, rfl⟩ : ∃ j, n = j + 1 := ⟨n - 1, by omega⟩
    have d1 : decide ((m : Int) < (l.length : Int)) = false := decide_eq_false (by omega)
    refine lp_out ?_
    simp only [literal_writeAll_h_l1, d1, cond_false]
    by_cases h : m = 0
    · rw [if_pos h, List.eq_nil_of_length_eq_zero (by omega : l.length = 0)]
      simp [joinB]
    · rw [if_neg h, List.drop_eq_nil_of_le (by omega)]
      simp [sepsB]
  | succ k ih =>
    intro m acc n hm hn ha
    obtain ⟨n, rfl⟩ : ∃ j, n = j + 1 := ⟨n - 1, by omega⟩
    have hml : m < l.length := by omega
    have e1 : idx l (m : Int) = some l[m] := by rw [idx_nat, List.getElem?_eq_getElem hml]
    have hx := List.getElem_mem hml
    have hB' := hb _ hx
    rw [Nat.add_mul, Nat.one_mul] at ha
    by_cases h : m = 0
    · subst h
      have d2 : decide ((0 : Int) < ((0 : Nat) : Int)) = false := rfl
      have w := H _ hx acc (by omega)
      have hc : l.map showV = (l[0] :: l.drop 1).map showV := by rw [List.getElem_cons_drop, List.drop_zero]
      rw [if_pos rfl, hc, joinB_cons, ← List.append_assoc]
      have := ih 1 (acc ++ showV l[0]) n (by omega) (by omega) (by simp only [List.length_append]; omega)
      rw [if_neg (by omega)] at this
      rw [← this]
      refine lp_go ?_
      simp only [literal_writeAll_h_l1, lt_len hml, cond_true, e1, Option.bind_some, d2, cond_false, w, w64s 0 (by omega)]
    · have d2 : decide ((0 : Int) < (m : Int)) = true := decide_eq_true (by omega)
      have w1 := ws_eq (acc := acc) (l := [44, 32]) (s := ⟨#[44, 32]⟩) rfl (by omega) (by decide)
      have w := H _ hx (acc ++ [44, 32]) (by simp only [List.length_append, List.length_cons, List.length_nil]; omega)
      rw [if_neg h, List.drop_eq_getElem_cons hml, seps_cons, ← List.append_assoc, ← List.append_assoc]
      have := ih (m + 1) (acc ++ [44, 32] ++ showV l[m]) n (by omega) (by omega) (by simp only [List.length_append, List.length_cons, List.length_nil]; omega)
      rw [if_neg (by omega)] at this
      rw [← this]
      refine lp_go ?_
      simp only [literal_writeAll_h_l1, lt_len hml, cond_true, e1, Option.bind_some, d2, w1, w, w64s m (by omega)]
theorem join_loop {l : List Va} {B : Nat} {r29 : Va → Option ByteArray} (hl : l.length ≤ 1000) (hB : B ≤ 100000) (hb : ∀ x ∈ l, (showV x).length ≤ B) (H : ∀ x ∈ l, r29 x = some (mkB (showV x))) :
    ∀ (k m : Nat) (acc : List UInt8) (n : Nat), m + k = l.length → k < n → acc.length + k * (B + 2) ≤ 1000000000 →
    loopN (synthesisref02_join_l1 l r29) n (mkB acc, (m : Int)) = some (mkB (acc ++ if m = 0 then joinB (l.map showV) else sepsB showV (l.drop m))) := by
  intro k
  induction k with
  | zero =>
    intro m acc n hm hn ha
    obtain ⟨n, rfl⟩ : ∃ j, n = j + 1 := ⟨n - 1, by omega⟩
    have d1 : decide ((m : Int) < (l.length : Int)) = false := decide_eq_false (by omega)
    refine lp_out ?_
    simp only [synthesisref02_join_l1, d1, cond_false]
    by_cases h : m = 0
    · rw [if_pos h, List.eq_nil_of_length_eq_zero (by omega : l.length = 0)]
      simp [joinB]
    · rw [if_neg h, List.drop_eq_nil_of_le (by omega)]
      simp [sepsB]
  | succ k ih =>
    intro m acc n hm hn ha
    obtain ⟨n, rfl⟩ : ∃ j, n = j + 1 := ⟨n - 1, by omega⟩
    have hml : m < l.length := by omega
    have e1 : idx l (m : Int) = some l[m] := by rw [idx_nat, List.getElem?_eq_getElem hml]
    have hx := List.getElem_mem hml
    have hB' := hb _ hx
    have w := H _ hx
    rw [Nat.add_mul, Nat.one_mul] at ha
    by_cases h : m = 0
    · subst h
      have d2 : decide ((0 : Int) < ((0 : Nat) : Int)) = false := rfl
      have hc : l.map showV = (l[0] :: l.drop 1).map showV := by rw [List.getElem_cons_drop, List.drop_zero]
      rw [if_pos rfl, hc, joinB_cons, ← List.append_assoc]
      have := ih 1 (acc ++ showV l[0]) n (by omega) (by omega) (by simp only [List.length_append]; omega)
      rw [if_neg (by omega)] at this
      rw [← this]
      refine lp_go ?_
      simp only [synthesisref02_join_l1, lt_len hml, cond_true, e1, Option.bind_some, d2, cond_false, w, cat_mk (a := acc) (b := showV l[0]) (by omega), w64s 0 (by omega)]
    · have d2 : decide ((0 : Int) < (m : Int)) = true := decide_eq_true (by omega)
      have c1 : cat (mkB acc) (⟨#[44, 32]⟩ : ByteArray) = some (mkB (acc ++ [44, 32])) := cat_mk (b := [44, 32]) (by simp; omega)
      have c2 := cat_mk (a := acc ++ [44, 32]) (b := showV l[m]) (by simp only [List.length_append, List.length_cons, List.length_nil]; omega)
      rw [if_neg h, List.drop_eq_getElem_cons hml, seps_cons, ← List.append_assoc, ← List.append_assoc]
      have := ih (m + 1) (acc ++ [44, 32] ++ showV l[m]) n (by omega) (by omega) (by simp only [List.length_append, List.length_cons, List.length_nil]; omega)
      rw [if_neg (by omega)] at this
      rw [← this]
      refine lp_go ?_
      simp only [synthesisref02_join_l1, lt_len hml, cond_true, e1, Option.bind_some, d2, c1, c2, w, w64s m (by omega)]
/-- what is written for v, by both: n and m rounds of recursion, at most B bytes -/
def okW (C B n m : Nat) (v : Va) : Prop := (∀ acc : List UInt8, acc.length ≤ C → literal_write_h2 (literal_writeAll_h n) (iB acc) v = some (iB (acc ++ showV v))) ∧ synthesisref02_text m v = some (mkB (showV v)) ∧ (showV v).length ≤ B
theorem okW_all {C B n m : Nat} (hC : C ≤ 3000000000) {l : List Va} (hl : l.length ≤ 1000) (hB : B ≤ 100000) (h : ∀ x ∈ l, okW C B n m x) (acc : List UInt8) (ha : acc.length + 110000000 ≤ C) :
    literal_writeAll_h (n + 1) (iB acc) l = some (iB (acc ++ joinB (l.map showV))) ∧ synthesisref02_join (m + 1) l = some (mkB (joinB (l.map showV))) := by
  have hk : l.length * (B + 2) ≤ 1000 * (100000 + 2) := Nat.mul_le_mul hl (by omega)
  have h1 := writeAll_loop hC (r22 := literal_writeAll_h n) hl hB (fun x hx => (h x hx).2.2) (fun x hx => (h x hx).1) l.length 0 acc fuel (by omega) (lt_fuel (by omega)) (by omega)
  have h2 := join_loop (r29 := synthesisref02_text m) hl hB (fun x hx => (h x hx).2.2) (fun x hx => (h x hx).2.1) l.length 0 [] fuel (by omega) (lt_fuel (by omega)) (by simp; omega)
  rw [if_pos rfl] at h1 h2
  constructor
  · show literal_writeAll_h_b (literal_writeAll_h n) (iB acc) l = _
    have h1' : loopN (literal_writeAll_h_l1 l (literal_writeAll_h n)) fuel (0, iB acc) = some (iB (acc ++ joinB (l.map showV))) := h1
    simp only [literal_writeAll_h_b, h1', Option.bind_some]
  · show synthesisref02_join_b (synthesisref02_text m) (synthesisref02_join m) l = _
    have h2' : loopN (synthesisref02_join_l1 l (synthesisref02_text m)) fuel ((⟨#[]⟩ : ByteArray), 0) = some (mkB (joinB (l.map showV))) := h2
    simp only [synthesisref02_join_b, h2', Option.bind_some]
theorem showI_len {n : Int} (h1 : -1000000 ≤ n) (h2 : n ≤ 1000000) : (showI n).length ≤ 12 := by
  have := decN_len n.natAbs (by omega)
  unfold showI
  split
  · simp only [List.length_cons]; omega
  · omega
theorem okW_int {v : Va} (h : intOk v) (n m : Nat) : okW 3000000000 300 n (m + 1) v := by
  obtain ⟨k, rfl, h1, h2⟩ := h
  have hs : showV (Va.mk 2 k ⟨#[]⟩ []) = showI k := by simp [showV]
  have hl := showI_len h1 h2
  refine ⟨fun acc ha => ?_, ?_, by rw [hs]; omega⟩
  · have w := ws_eq (acc := acc) (l := showI k) (s := mkB (showI k)) rfl (by omega) (by omega)
    simp only [literal_write_h2, show ((Va.mk 2 k ⟨#[]⟩ []).type == 1) = false from rfl, show ((Va.mk 2 k ⟨#[]⟩ []).type == 2) = true from rfl, cond_false, cond_true, strconv_FormatInt_h, show (Va.mk 2 k ⟨#[]⟩ []).num = k from rfl, itoaB_eq (show -9223372036854775808 ≤ k by omega) (by omega), Option.bind_some, w, Sum.elim_inr, Sum.elim_inl, hs]
  · rw [show ∀ v, synthesisref02_text (m + 1) v = synthesisref02_text_b (synthesisref02_text m) (synthesisref02_join m) v from fun _ => rfl]
    simp only [synthesisref02_text_b, show ((Va.mk 2 k ⟨#[]⟩ []).type == 1) = false from rfl, show ((Va.mk 2 k ⟨#[]⟩ []).type == 2) = true from rfl, cond_false, cond_true, show (Va.mk 2 k ⟨#[]⟩ []).num = k from rfl, Decimal_eq h1 h2, Option.bind_some, hs]
theorem quoteB_len (l : List UInt8) : (quoteB l).length ≤ 4 * l.length + 2 := by
  have := flat_len l
  unfold quoteB
  simp only [List.length_cons, List.length_append, List.length_nil]
  omega
theorem okW_txt {v : Va} (h : txtOk v) (n m : Nat) : okW 3000000000 300 n (m + 1) v := by
  obtain ⟨s, rfl, h1, h2, _⟩ := h
  have hs : showV (Va.mk 3 0 s []) = quoteB s.data.toList := by simp [showV]
  have hl := quoteB_len s.data.toList
  rw [← size_list] at hl
  refine ⟨fun acc ha => ?_, ?_, by rw [hs]; omega⟩
  · have w := ws_eq (acc := acc) (l := quoteB s.data.toList) (s := mkB (quoteB s.data.toList)) rfl (by omega) (by omega)
    simp only [literal_write_h2, show ((Va.mk 3 0 s []).type == 1) = false from rfl, show ((Va.mk 3 0 s []).type == 2) = false from rfl, show ((Va.mk 3 0 s []).type == 4) = false from rfl, show ((Va.mk 3 0 s []).type == 8) = false from rfl, show ((Va.mk 3 0 s []).type == 3) = true from rfl, cond_false, cond_true, show (Va.mk 3 0 s []).text = s from rfl, Quote_eq (show s.size ≤ 100000 by omega), Option.bind_some, w, Sum.elim_inr, Sum.elim_inl, hs]
  · rw [show ∀ v, synthesisref02_text (m + 1) v = synthesisref02_text_b (synthesisref02_text m) (synthesisref02_join m) v from fun _ => rfl]
    simp only [synthesisref02_text_b, show ((Va.mk 3 0 s []).type == 1) = false from rfl, show ((Va.mk 3 0 s []).type == 2) = false from rfl, show ((Va.mk 3 0 s []).type == 4) = false from rfl, show ((Va.mk 3 0 s []).type == 3) = true from rfl, cond_false, cond_true, show (Va.mk 3 0 s []).text = s from rfl, rQuote_eq (show s.size ≤ 100000 by omega), Option.bind_some, hs]
/-- a list in its brackets -/
theorem okW_list {t : Int} {a b : UInt8} {l : List Va} {C B n m : Nat} (hC : 2000000000 ≤ C ∧ C ≤ 3000000000) (ht : (t = 5 ∧ a = 91 ∧ b = 93) ∨ (t = 6 ∧ a = 123 ∧ b = 125) ∨ (t = 7 ∧ a = 60 ∧ b = 62)) (hl : l.length ≤ 16) (hB : B ≤ 5000) (h : ∀ x ∈ l, okW C B n m x) : okW (C - 100000) (l.length * (B + 2) + 2) (n + 1) (m + 2) (Va.mk t 0 ⟨#[]⟩ l) ∧ showV (Va.mk t 0 ⟨#[]⟩ l) = a :: (joinB (l.map showV) ++ [b]) := by
  have hs : showV (Va.mk t 0 ⟨#[]⟩ l) = a :: (joinB (l.map showV) ++ [b]) := by rcases ht with ⟨rfl, rfl, rfl⟩ | ⟨rfl, rfl, rfl⟩ | ⟨rfl, rfl, rfl⟩ <;> simp [showV, showVs_map]
  have hj := joinB_len l fun x hx => (h x hx).2.2
  have hk : l.length * (B + 2) ≤ 16 * (5000 + 2) := Nat.mul_le_mul hl (by omega)
  refine ⟨⟨fun acc ha => ?_, ?_, by rw [hs]; simp only [List.length_cons, List.length_append, List.length_nil]; omega⟩, hs⟩
  · have w0 := fun c : UInt8 => ws_eq (acc := acc) (l := [c]) (s := ⟨#[c]⟩) rfl (by omega) (by simp)
    have w1 : literal_writeAll_h (n + 1) (iB (acc ++ [a])) l = some (iB (acc ++ [a] ++ joinB (l.map showV))) := by
      have h1 := writeAll_loop hC.2 (r22 := literal_writeAll_h n) (by omega) (show B ≤ 100000 by omega) (fun x hx => (h x hx).2.2) (fun x hx => (h x hx).1) l.length 0 (acc ++ [a]) fuel (by omega) (lt_fuel (by omega)) (by simp only [List.length_append, List.length_cons, List.length_nil]; omega)
      rw [if_pos rfl] at h1
      show literal_writeAll_h_b (literal_writeAll_h n) (iB (acc ++ [a])) l = _
      have h1' : loopN (literal_writeAll_h_l1 l (literal_writeAll_h n)) fuel (0, iB (acc ++ [a])) = _ := h1
      simp only [literal_writeAll_h_b, h1', Option.bind_some]
    have w2 := fun c : UInt8 => ws_eq (acc := acc ++ [a] ++ joinB (l.map showV)) (l := [c]) (s := ⟨#[c]⟩) rfl (by simp only [List.length_append, List.length_cons, List.length_nil]; omega) (by simp)
    rw [hs]
    rcases ht with ⟨rfl, rfl, rfl⟩ | ⟨rfl, rfl, rfl⟩ | ⟨rfl, rfl, rfl⟩
    all_goals
      simp only [literal_write_h2, show (Va.mk _ 0 (⟨#[]⟩ : ByteArray) l).items = l from rfl]
      show (Option.bind (strings_Builder_WriteString_h (iB acc) _) _ : Option (List Int)).bind _ = _
      rw [w0, Option.bind_some, w1, Option.bind_some, w2]
      simp
  · rw [show ∀ v, synthesisref02_text (m + 2) v = synthesisref02_text_b (synthesisref02_text (m + 1)) (synthesisref02_join (m + 1)) v from fun _ => rfl]
    have h2 := (okW_all hC.2 (by omega) (by omega) h [] (by simp; omega)).2
    rw [hs]
    have c1 := fun c : UInt8 => cat_mk (a := [c]) (b := joinB (l.map showV)) (by simp; omega)
    have c2 := fun c d : UInt8 => cat_mk (a := [c] ++ joinB (l.map showV)) (b := [d]) (by simp only [List.length_append, List.length_cons, List.length_nil]; omega)
    rcases ht with ⟨rfl, rfl, rfl⟩ | ⟨rfl, rfl, rfl⟩ | ⟨rfl, rfl, rfl⟩
    all_goals
      simp only [synthesisref02_text_b]
      show (Option.bind (synthesisref02_join (m + 1) l) _ : Option ByteArray) = _
      rw [h2, Option.bind_some]
      show (Option.bind (cat (mkB [_]) _) _ : Option ByteArray) = _
      rw [c1, Option.bind_some]
      show (Option.bind (cat _ (mkB [_])) _ : Option ByteArray) = _
      rw [c2]
      rfl
end Go.Proofs.YtijkipikefpopaaDoor
