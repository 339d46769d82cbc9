/- Every value that passes its check is written the same by both; LiteralPrints, LiteralPrefixes. -/
import Derived.Test.YtijkipikefpopaaDoorRf
import Derived.Test.YtijkipikefpopaaDoorRd
set_option linter.unusedVariables false
set_option linter.unusedSimpArgs false
set_option maxRecDepth 10000
namespace Go.Proofs.YtijkipikefpopaaDoor
open Go Go.RowKit

/-! lists written -/
theorem seps_cons (v : Va) (l : List Va) : sepsB showV (v :: l) = [44, 32] ++ showV v ++ sepsB showV l := by simp [sepsB]
theorem join_len {B : Nat} : ∀ (l : List Va), (∀ x ∈ l, (showV x).length ≤ B) → (sepsB showV l).length ≤ l.length * (B + 2)
  | [], _ => Nat.zero_le _
  | v :: l, h => by
    rw [seps_cons]
    have h1 := h v (List.mem_cons_self ..)
    have h2 := join_len l fun x hx => h x (List.mem_cons_of_mem _ hx)
    simp only [List.length_append, List.length_cons, List.length_nil]
    rw [Nat.add_mul, Nat.one_mul]
    omega
theorem joinB_len {B : Nat} (l : List Va) (h : ∀ x ∈ l, (showV x).length ≤ B) : (joinB (l.map showV)).length ≤ l.length * (B + 2) := by
  cases l with
  | nil => exact Nat.zero_le _
  | cons v l =>
    have := join_len (v :: l) h
    rw [seps_cons] at this
    rw [joinB_cons]
    simp only [List.length_append] at this ⊢
    omega
theorem writeAll_loop {l : List Va} {B C : Nat} (hC : C ≤ 3000000000) {r22 : List Int → List Va → Option (List Int)} (hl : l.length ≤ 1000) (hB : B ≤ 100000) (hb : ∀ x ∈ l, (showV x).length ≤ B)
    (H : ∀ x ∈ l, ∀ acc : List UInt8, acc.length ≤ C → literal_write_h2 r22 (iB acc) x = some (iB (acc ++ showV x))) :
    ∀ (k m : Nat) (acc : List UInt8) (n : Nat), m + k = l.length → k < n → acc.length + k * (B + 2) ≤ C →
    loopN (literal_writeAll_h_l1 l r22) n ((m : Int), iB acc) = some (iB (acc ++ if m = 0 then joinB (l.map showV) else sepsB showV (l.drop m))) := by
  intro k
  induction k with
  | zero =>
    intro m acc n hm hn ha
    obtain ⟨n, rfl⟩ : ∃ j, n = j + 1 := ⟨n - 1, by omega⟩
    have d1 : decide ((m : Int) < (l.length : Int)) = false := decide_eq_false (by omega)
    refine lp_out ?_
    simp only [literal_writeAll_h_l1, d1, cond_false]
    by_cases h : m = 0
    · rw [if_pos h, List.eq_nil_of_length_eq_zero (by omega : l.length = 0)]
      simp [joinB]
    · rw [if_neg h, List.drop_eq_nil_of_le (by omega)]
      simp [sepsB]
  | succ k ih =>
    intro m acc n hm hn ha
    obtain ⟨n, rfl⟩ : ∃ j, n = j + 1 := ⟨n - 1, by omega⟩
    have hml : m < l.length := by omega
    have e1 : idx l (m : Int) = some l[m] := by rw [idx_nat, List.getElem?_eq_getElem hml]
    have hx := List.getElem_mem hml
    have hB' := hb _ hx
    rw [Nat.add_mul, Nat.one_mul] at ha
    by_cases h : m = 0
    · subst h
      have d2 : decide ((0 : Int) < ((0 : Nat) : Int)) = false := rfl
      have w := H _ hx acc (by omega)
      have hc : l.map showV = (l[0] :: l.drop 1).map showV := by rw [List.getElem_cons_drop, List.drop_zero]
      rw [if_pos rfl, hc, joinB_cons, ← List.append_assoc]
      have := ih 1 (acc ++ showV l[0]) n (by omega) (by omega) (by simp only [List.length_append]; omega)
      rw [if_neg (by omega)] at this
      rw [← this]
      refine lp_go ?_
      simp only [literal_writeAll_h_l1, lt_len hml, cond_true, e1, Option.bind_some, d2, cond_false, w, w64s 0 (by omega)]
    · have d2 : decide ((0 : Int) < (m : Int)) = true := decide_eq_true (by omega)
      have w1 := ws_eq (acc := acc) (l := [44, 32]) (s := ⟨#[44, 32]⟩) rfl (by omega) (by decide)
      have w := H _ hx (acc ++ [44, 32]) (by simp only [List.length_append, List.length_cons, List.length_nil]; omega)
      rw [if_neg h, List.drop_eq_getElem_cons hml, seps_cons, ← List.append_assoc, ← List.append_assoc]
      have := ih (m + 1) (acc ++ [44, 32] ++ showV l[m]) n (by omega) (by omega) (by simp only [List.length_append, List.length_cons, List.length_nil]; omega)
      rw [if_neg (by omega)] at this
      rw [← this]
      refine lp_go ?_
      simp only [literal_writeAll_h_l1, lt_len hml, cond_true, e1, Option.bind_some, d2, w1, w, w64s m (by omega)]
theorem join_loop {l : List Va} {B : Nat} {r29 : Va → Option ByteArray} (hl : l.length ≤ 1000) (hB : B ≤ 100000) (hb : ∀ x ∈ l, (showV x).length ≤ B) (H : ∀ x ∈ l, r29 x = some (mkB (showV x))) :
    ∀ (k m : Nat) (acc : List UInt8) (n : Nat), m + k = l.length → k < n → acc.length + k * (B + 2) ≤ 1000000000 →
    loopN (synthesisref02_join_l1 l r29) n (mkB acc, (m : Int)) = some (mkB (acc ++ if m = 0 then joinB (l.map showV) else sepsB showV (l.drop m))) := by
  intro k
  induction k with
  | zero =>
    intro m acc n hm hn ha
    obtain ⟨n, rfl⟩ : ∃ j, n = j + 1 := ⟨n - 1, by omega⟩
    have d1 : decide ((m : Int) < (l.length : Int)) = false := decide_eq_false (by omega)
    refine lp_out ?_
    simp only [synthesisref02_join_l1, d1, cond_false]
    by_cases h : m = 0
    · rw [if_pos h, List.eq_nil_of_length_eq_zero (by omega : l.length = 0)]
      simp [joinB]
    · rw [if_neg h, List.drop_eq_nil_of_le (by omega)]
      simp [sepsB]
  | succ k ih =>
    intro m acc n hm hn ha
    obtain ⟨n, rfl⟩ : ∃ j, n = j + 1 := ⟨n - 1, by omega⟩
    have hml : m < l.length := by omega
    have e1 : idx l (m : Int) = some l[m] := by rw [idx_nat, List.getElem?_eq_getElem hml]
    have hx := List.getElem_mem hml
    have hB' := hb _ hx
    have w := H _ hx
    rw [Nat.add_mul, Nat.one_mul] at ha
    by_cases h : m = 0
    · subst h
      have d2 : decide ((0 : Int) < ((0 : Nat) : Int)) = false := rfl
      have hc : l.map showV = (l[0] :: l.drop 1).map showV := by rw [List.getElem_cons_drop, List.drop_zero]
      rw [if_pos rfl, hc, joinB_cons, ← List.append_assoc]
      have := ih 1 (acc ++ showV l[0]) n (by omega) (by omega) (by simp only [List.length_append]; omega)
      rw [if_neg (by omega)] at this
      rw [← this]
      refine lp_go ?_
      simp only [synthesisref02_join_l1, lt_len hml, cond_true, e1, Option.bind_some, d2, cond_false, w, cat_mk (a := acc) (b := showV l[0]) (by omega), w64s 0 (by omega)]
    · have d2 : decide ((0 : Int) < (m : Int)) = true := decide_eq_true (by omega)
      have c1 : cat (mkB acc) (⟨#[44, 32]⟩ : ByteArray) = some (mkB (acc ++ [44, 32])) := cat_mk (b := [44, 32]) (by simp; omega)
      have c2 := cat_mk (a := acc ++ [44, 32]) (b := showV l[m]) (by simp only [List.length_append, List.length_cons, List.length_nil]; omega)
      rw [if_neg h, List.drop_eq_getElem_cons hml, seps_cons, ← List.append_assoc, ← List.append_assoc]
      have := ih (m + 1) (acc ++ [44, 32] ++ showV l[m]) n (by omega) (by omega) (by simp only [List.length_append, List.length_cons, List.length_nil]; omega)
      rw [if_neg (by omega)] at this
      rw [← this]
      refine lp_go ?_
      simp only [synthesisref02_join_l1, lt_len hml, cond_true, e1, Option.bind_some, d2, c1, c2, w, w64s m (by omega)]
/-- what is written for v, by both: n and m rounds of recursion, at most B bytes -/
def okW (C B n m : Nat) (v : Va) : Prop := (∀ acc : List UInt8, acc.length ≤ C → literal_write_h2 (literal_writeAll_h n) (iB acc) v = some (iB (acc ++ showV v))) ∧ synthesisref02_text m v = some (mkB (showV v)) ∧ (showV v).length ≤ B
theorem okW_all {C B n m : Nat} (hC : C ≤ 3000000000) {l : List Va} (hl : l.length ≤ 1000) (hB : B ≤ 100000) (h : ∀ x ∈ l, okW C B n m x) (acc : List UInt8) (ha : acc.length + 110000000 ≤ C) :
    literal_writeAll_h (n + 1) (iB acc) l = some (iB (acc ++ joinB (l.map showV))) ∧ synthesisref02_join (m + 1) l = some (mkB (joinB (l.map showV))) := by
  have hk : l.length * (B + 2) ≤ 1000 * (100000 + 2) := Nat.mul_le_mul hl (by omega)
  have h1 := writeAll_loop hC (r22 := literal_writeAll_h n) hl hB (fun x hx => (h x hx).2.2) (fun x hx => (h x hx).1) l.length 0 acc fuel (by omega) (lt_fuel (by omega)) (by omega)
  have h2 := join_loop (r29 := synthesisref02_text m) hl hB (fun x hx => (h x hx).2.2) (fun x hx => (h x hx).2.1) l.length 0 [] fuel (by omega) (lt_fuel (by omega)) (by simp; omega)
  rw [if_pos rfl] at h1 h2
  constructor
  · show literal_writeAll_h_b (literal_writeAll_h n) (iB acc) l = _
    have h1' : loopN (literal_writeAll_h_l1 l (literal_writeAll_h n)) fuel (0, iB acc) = some (iB (acc ++ joinB (l.map showV))) := h1
    simp only [literal_writeAll_h_b, h1', Option.bind_some]
  · show synthesisref02_join_b (synthesisref02_text m) (synthesisref02_join m) l = _
    have h2' : loopN (synthesisref02_join_l1 l (synthesisref02_text m)) fuel ((⟨#[]⟩ : ByteArray), 0) = some (mkB (joinB (l.map showV))) := h2
    simp only [synthesisref02_join_b, h2', Option.bind_some]
theorem showI_len {n : Int} (h1 : -1000000 ≤ n) (h2 : n ≤ 1000000) : (showI n).length ≤ 12 := by
  have := decN_len n.natAbs (by omega)
  unfold showI
  split
  · simp only [List.length_cons]; omega
  · omega
theorem okW_int {v : Va} (h : intOk v) (n m : Nat) : okW 3000000000 300 n (m + 1) v := by
  obtain ⟨k, rfl, h1, h2⟩ := h
  have hs : showV (Va.mk 2 k ⟨#[]⟩ []) = showI k := by simp [showV]
  have hl := showI_len h1 h2
  refine ⟨fun acc ha => ?_, ?_, by rw [hs]; omega⟩
  · have w := ws_eq (acc := acc) (l := showI k) (s := mkB (showI k)) rfl (by omega) (by omega)
    simp only [literal_write_h2, show ((Va.mk 2 k ⟨#[]⟩ []).type == 1) = false from rfl, show ((Va.mk 2 k ⟨#[]⟩ []).type == 2) = true from rfl, cond_false, cond_true, strconv_FormatInt_h, show (Va.mk 2 k ⟨#[]⟩ []).num = k from rfl, itoaB_eq (show -9223372036854775808 ≤ k by omega) (by omega), Option.bind_some, w, Sum.elim_inr, Sum.elim_inl, hs]
  · rw [show ∀ v, synthesisref02_text (m + 1) v = synthesisref02_text_b (synthesisref02_text m) (synthesisref02_join m) v from fun _ => rfl]
    simp only [synthesisref02_text_b, show ((Va.mk 2 k ⟨#[]⟩ []).type == 1) = false from rfl, show ((Va.mk 2 k ⟨#[]⟩ []).type == 2) = true from rfl, cond_false, cond_true, show (Va.mk 2 k ⟨#[]⟩ []).num = k from rfl, Decimal_eq h1 h2, Option.bind_some, hs]
theorem quoteB_len (l : List UInt8) : (quoteB l).length ≤ 4 * l.length + 2 := by
  have := flat_len l
  unfold quoteB
  simp only [List.length_cons, List.length_append, List.length_nil]
  omega
theorem okW_txt {v : Va} (h : txtOk v) (n m : Nat) : okW 3000000000 300 n (m + 1) v := by
  obtain ⟨s, rfl, h1, h2, _⟩ := h
  have hs : showV (Va.mk 3 0 s []) = quoteB s.data.toList := by simp [showV]
  have hl := quoteB_len s.data.toList
  rw [← size_list] at hl
  refine ⟨fun acc ha => ?_, ?_, by rw [hs]; omega⟩
  · have w := ws_eq (acc := acc) (l := quoteB s.data.toList) (s := mkB (quoteB s.data.toList)) rfl (by omega) (by omega)
    simp only [literal_write_h2, show ((Va.mk 3 0 s []).type == 1) = false from rfl, show ((Va.mk 3 0 s []).type == 2) = false from rfl, show ((Va.mk 3 0 s []).type == 4) = false from rfl, show ((Va.mk 3 0 s []).type == 8) = false from rfl, show ((Va.mk 3 0 s []).type == 3) = true from rfl, cond_false, cond_true, show (Va.mk 3 0 s []).text = s from rfl, Quote_eq (show s.size ≤ 100000 by omega), Option.bind_some, w, Sum.elim_inr, Sum.elim_inl, hs]
  · rw [show ∀ v, synthesisref02_text (m + 1) v = synthesisref02_text_b (synthesisref02_text m) (synthesisref02_join m) v from fun _ => rfl]
    simp only [synthesisref02_text_b, show ((Va.mk 3 0 s []).type == 1) = false from rfl, show ((Va.mk 3 0 s []).type == 2) = false from rfl, show ((Va.mk 3 0 s []).type == 4) = false from rfl, show ((Va.mk 3 0 s []).type == 3) = true from rfl, cond_false, cond_true, show (Va.mk 3 0 s []).text = s from rfl, rQuote_eq (show s.size ≤ 100000 by omega), Option.bind_some, hs]
/-- a list in its brackets -/
theorem okW_list {t : Int} {a b : UInt8} {l : List Va} {C B n m : Nat} (hC : 2000000000 ≤ C ∧ C ≤ 3000000000) (ht : (t = 5 ∧ a = 91 ∧ b = 93) ∨ (t = 6 ∧ a = 123 ∧ b = 125) ∨ (t = 7 ∧ a = 60 ∧ b = 62)) (hl : l.length ≤ 16) (hB : B ≤ 5000) (h : ∀ x ∈ l, okW C B n m x) : okW (C - 100000) (l.length * (B + 2) + 2) (n + 1) (m + 2) (Va.mk t 0 ⟨#[]⟩ l) ∧ showV (Va.mk t 0 ⟨#[]⟩ l) = a :: (joinB (l.map showV) ++ [b]) := by
  have hs : showV (Va.mk t 0 ⟨#[]⟩ l) = a :: (joinB (l.map showV) ++ [b]) := by rcases ht with ⟨rfl, rfl, rfl⟩ | ⟨rfl, rfl, rfl⟩ | ⟨rfl, rfl, rfl⟩ <;> simp [showV, showVs_map]
  have hj := joinB_len l fun x hx => (h x hx).2.2
  have hk : l.length * (B + 2) ≤ 16 * (5000 + 2) := Nat.mul_le_mul hl (by omega)
  refine ⟨⟨fun acc ha => ?_, ?_, by rw [hs]; simp only [List.length_cons, List.length_append, List.length_nil]; omega⟩, hs⟩
  · have w0 := fun c : UInt8 => ws_eq (acc := acc) (l := [c]) (s := ⟨#[c]⟩) rfl (by omega) (by simp)
    have w1 : literal_writeAll_h (n + 1) (iB (acc ++ [a])) l = some (iB (acc ++ [a] ++ joinB (l.map showV))) := by
      have h1 := writeAll_loop hC.2 (r22 := literal_writeAll_h n) (by omega) (show B ≤ 100000 by omega) (fun x hx => (h x hx).2.2) (fun x hx => (h x hx).1) l.length 0 (acc ++ [a]) fuel (by omega) (lt_fuel (by omega)) (by simp only [List.length_append, List.length_cons, List.length_nil]; omega)
      rw [if_pos rfl] at h1
      show literal_writeAll_h_b (literal_writeAll_h n) (iB (acc ++ [a])) l = _
      have h1' : loopN (literal_writeAll_h_l1 l (literal_writeAll_h n)) fuel (0, iB (acc ++ [a])) = _ := h1
      simp only [literal_writeAll_h_b, h1', Option.bind_some]
    have w2 := fun c : UInt8 => ws_eq (acc := acc ++ [a] ++ joinB (l.map showV)) (l := [c]) (s := ⟨#[c]⟩) rfl (by simp only [List.length_append, List.length_cons, List.length_nil]; omega) (by simp)
    rw [hs]
    rcases ht with ⟨rfl, rfl, rfl⟩ | ⟨rfl, rfl, rfl⟩ | ⟨rfl, rfl, rfl⟩
    all_goals
      simp only [literal_write_h2, show (Va.mk _ 0 (⟨#[]⟩ : ByteArray) l).items = l from rfl]
      show (Option.bind (strings_Builder_WriteString_h (iB acc) _) _ : Option (List Int)).bind _ = _
      rw [w0, Option.bind_some, w1, Option.bind_some, w2]
      simp
  · rw [show ∀ v, synthesisref02_text (m + 2) v = synthesisref02_text_b (synthesisref02_text (m + 1)) (synthesisref02_join (m + 1)) v from fun _ => rfl]
    have h2 := (okW_all hC.2 (by omega) (by omega) h [] (by simp; omega)).2
    rw [hs]
    have c1 := fun c : UInt8 => cat_mk (a := [c]) (b := joinB (l.map showV)) (by simp; omega)
    have c2 := fun c d : UInt8 => cat_mk (a := [c] ++ joinB (l.map showV)) (b := [d]) (by simp only [List.length_append, List.length_cons, List.length_nil]; omega)
    rcases ht with ⟨rfl, rfl, rfl⟩ | ⟨rfl, rfl, rfl⟩ | ⟨rfl, rfl, rfl⟩
    all_goals
      simp only [synthesisref02_text_b]
      show (Option.bind (synthesisref02_join (m + 1) l) _ : Option ByteArray) = _
      rw [h2, Option.bind_some]
      show (Option.bind (cat (mkB [_]) _) _ : Option ByteArray) = _
      rw [c1, Option.bind_some]
      show (Option.bind (cat _ (mkB [_])) _ : Option ByteArray) = _
      rw [c2]
      rfl
end Go.Proofs.YtijkipikefpopaaDoor
set_option linter.unusedVariables false
set_option linter.unusedSimpArgs false
set_option maxRecDepth 100000
namespace Go.Proofs.YtijkipikefpopaaDoor
open Go Go.RowKit

theorem okW_mono {C C' B B' n m : Nat} {v : Va} (hC : C' ≤ C) (hB : B ≤ B') (h : okW C B n m v) : okW C' B' n m v := ⟨fun acc ha => h.1 acc (by omega), h.2.1, by have := h.2.2; omega⟩
theorem text_def (m : Nat) (v : Va) : synthesisref02_text (m + 1) v = synthesisref02_text_b (synthesisref02_text m) (synthesisref02_join m) v := rfl
theorem okW_bool {k : Int} (h : k = 0 ∨ k = 1) (n m : Nat) : okW 3000000000 300 n (m + 1) (Va.mk 1 k ⟨#[]⟩ []) := by
  rcases h with rfl | rfl
  · refine ⟨fun acc ha => ?_, rfl, by decide⟩
    have w := ws_eq (acc := acc) (l := [102, 97, 108, 115, 101]) (s := ⟨#[102, 97, 108, 115, 101]⟩) rfl (by omega) (by decide)
    rw [show showV (Va.mk 1 0 ⟨#[]⟩ []) = [102, 97, 108, 115, 101] from rfl]
    simp only [literal_write_h2, show ((Va.mk 1 0 ⟨#[]⟩ []).type == 1) = true from rfl, cond_true, show ((Va.mk 1 0 ⟨#[]⟩ []).num == 1) = false from rfl, strconv_FormatBool, internal_strconv_FormatBool, cond_false, Option.bind_some, w, Sum.elim_inr, Sum.elim_inl]
  · refine ⟨fun acc ha => ?_, rfl, by decide⟩
    have w := ws_eq (acc := acc) (l := [116, 114, 117, 101]) (s := ⟨#[116, 114, 117, 101]⟩) rfl (by omega) (by decide)
    rw [show showV (Va.mk 1 1 ⟨#[]⟩ []) = [116, 114, 117, 101] from rfl]
    simp only [literal_write_h2, show ((Va.mk 1 1 ⟨#[]⟩ []).type == 1) = true from rfl, cond_true, show ((Va.mk 1 1 ⟨#[]⟩ []).num == 1) = true from rfl, strconv_FormatBool, internal_strconv_FormatBool, Option.bind_some, w, Sum.elim_inr, Sum.elim_inl]
theorem okW_bits {k : Int} (h0 : 0 ≤ k) (h1 : k ≤ 255) (n m : Nat) : okW 2900000000 300 n (m + 1) (Va.mk 4 k ⟨#[]⟩ []) := by
  obtain ⟨c, rfl⟩ : ∃ c : UInt8, k = (c.toNat : Int) := ⟨UInt8.ofNat k.toNat, by rw [ofNat_toNat (by omega)]; omega⟩
  have hs : showV (Va.mk 4 (c.toNat : Int) ⟨#[]⟩ []) = [48, 120, hexD (c.toNat / 16), hexD (c.toNat % 16)] := by simp [showV]
  refine ⟨fun acc ha => ?_, ?_, by rw [hs]; simp⟩
  · have w := ws_eq (acc := acc) (l := [48, 120]) (s := ⟨#[48, 120]⟩) rfl (by omega) (by decide)
    have w2 := hexa_eq (acc := acc ++ [48, 120]) (c := c) rfl (by simp; omega)
    rw [hs]
    simp only [literal_write_h2, show ((Va.mk 4 (c.toNat : Int) ⟨#[]⟩ []).type == 1) = false from rfl, show ((Va.mk 4 (c.toNat : Int) ⟨#[]⟩ []).type == 2) = false from rfl, show ((Va.mk 4 (c.toNat : Int) ⟨#[]⟩ []).type == 4) = true from rfl, cond_true, cond_false, show (Va.mk 4 (c.toNat : Int) ⟨#[]⟩ []).num = (c.toNat : Int) from rfl, wu8_nat, Option.bind_some, w, w2, Sum.elim_inr, Sum.elim_inl]
    simp
  · rw [text_def, hs]
    have c1 : cat (⟨#[48, 120]⟩ : ByteArray) (mkB [hexD (c.toNat / 16)]) = some (mkB ([48, 120] ++ [hexD (c.toNat / 16)])) := cat_mk (a := [48, 120]) (by simp)
    have c2 := cat_mk (a := [48, 120] ++ [hexD (c.toNat / 16)]) (b := [hexD (c.toNat % 16)]) (by simp)
    simp only [synthesisref02_text_b, show ((Va.mk 4 (c.toNat : Int) ⟨#[]⟩ []).type == 1) = false from rfl, show ((Va.mk 4 (c.toNat : Int) ⟨#[]⟩ []).type == 2) = false from rfl, show ((Va.mk 4 (c.toNat : Int) ⟨#[]⟩ []).type == 4) = true from rfl, cond_true, cond_false, show (Va.mk 4 (c.toNat : Int) ⟨#[]⟩ []).num = (c.toNat : Int) from rfl, (hex_wr c).2.2.1, (hex_wr c).2.2.2, Option.bind_some, c1, c2]
    rfl
theorem okW_regex {s : ByteArray} (h : s.size ≤ 40) (n m : Nat) : okW 2900000000 300 n (m + 1) (Va.mk 8 0 s []) := by
  have hs : showV (Va.mk 8 0 s []) = 114 :: quoteB s.data.toList := by simp [showV]
  have hl := quoteB_len s.data.toList
  rw [← size_list] at hl
  refine ⟨fun acc ha => ?_, ?_, by rw [hs]; simp only [List.length_cons]; omega⟩
  · have w := wb_eq (acc := acc) (c := 114) (n := 114) rfl (by omega)
    have w2 := ws_eq (acc := acc ++ [114]) (l := quoteB s.data.toList) (s := mkB (quoteB s.data.toList)) rfl (by simp; omega) (by omega)
    rw [hs]
    simp only [literal_write_h2, show ((Va.mk 8 0 s []).type == 1) = false from rfl, show ((Va.mk 8 0 s []).type == 2) = false from rfl, show ((Va.mk 8 0 s []).type == 4) = false from rfl, show ((Va.mk 8 0 s []).type == 8) = true from rfl, cond_true, cond_false, show (Va.mk 8 0 s []).text = s from rfl, Quote_eq (show s.size ≤ 100000 by omega), Option.bind_some, w, w2, Sum.elim_inr, Sum.elim_inl]
    simp
  · rw [text_def, hs]
    have c1 : cat (⟨#[114]⟩ : ByteArray) (mkB (quoteB s.data.toList)) = some (mkB ([114] ++ quoteB s.data.toList)) := cat_mk (a := [114]) (by simp; omega)
    simp only [synthesisref02_text_b, show ((Va.mk 8 0 s []).type == 1) = false from rfl, show ((Va.mk 8 0 s []).type == 2) = false from rfl, show ((Va.mk 8 0 s []).type == 4) = false from rfl, show ((Va.mk 8 0 s []).type == 3) = false from rfl, show ((Va.mk 8 0 s []).type == 8) = true from rfl, cond_true, cond_false, show (Va.mk 8 0 s []).text = s from rfl, rQuote_eq (show s.size ≤ 100000 by omega), Option.bind_some, c1]
    rfl
theorem okW_row {v : Va} {lo hi : Nat} (hhi : hi ≤ 16) (h : rowOk lo hi v) (n m : Nat) : okW 2999900000 5000 (n + 1) (m + 3) v := by
  obtain ⟨l, rfl, h1, h2, h3⟩ := h
  have := (okW_list (t := 6) (a := 123) (b := 125) (C := 3000000000) (n := n) (m := m + 1) (by omega) (.inr (.inl ⟨rfl, rfl, rfl⟩)) (by omega) (B := 300) (by omega) fun x hx => okW_txt (h3 x hx) n m).1
  have hk : l.length * (300 + 2) ≤ 16 * (300 + 2) := Nat.mul_le_mul_right _ (by omega)
  exact okW_mono (by omega) (by omega) this
theorem okW_val {v : Va} (h : valOk v) (n m : Nat) : okW 2500000000 60000 (n + 2) (m + 5) v := by
  rcases h with (rfl | rfl) | h | ⟨k, rfl, h0, h1⟩ | h | ⟨s, rfl, h⟩ | ⟨l, rfl, h1, h2⟩ | h | ⟨l, rfl, h1, k, h2, h3, h4⟩
  · exact okW_mono (by omega) (by omega) (okW_bool (.inl rfl) (n + 2) (m + 4))
  · exact okW_mono (by omega) (by omega) (okW_bool (.inr rfl) (n + 2) (m + 4))
  · exact okW_mono (by omega) (by omega) (okW_int h (n + 2) (m + 4))
  · exact okW_mono (by omega) (by omega) (okW_bits h0 h1 (n + 2) (m + 4))
  · exact okW_mono (by omega) (by omega) (okW_txt h (n + 2) (m + 4))
  · exact okW_mono (by omega) (by omega) (okW_regex h.2.1 (n + 2) (m + 4))
  · have := (okW_list (t := 5) (a := 91) (b := 93) (C := 3000000000) (n := n + 1) (m := m + 3) (by omega) (.inl ⟨rfl, rfl, rfl⟩) h1 (B := 300) (by omega) fun x hx => okW_int (h2 x hx) (n + 1) (m + 2)).1
    have hk : l.length * (300 + 2) ≤ 16 * (300 + 2) := Nat.mul_le_mul_right _ (by omega)
    exact okW_mono (by omega) (by omega) this
  · exact okW_mono (by omega) (by omega) (okW_row (by omega) h (n + 1) (m + 2))
  · have := (okW_list (t := 7) (a := 60) (b := 62) (C := 2999900000) (n := n + 1) (m := m + 3) (by omega) (.inr (.inr ⟨rfl, rfl, rfl⟩)) (by omega) (B := 5000) (by omega) fun x hx => okW_row (show k ≤ 16 by omega) (h4 x hx) n m).1
    have hk : l.length * (5000 + 2) ≤ 8 * (5000 + 2) := Nat.mul_le_mul_right _ (by omega)
    exact okW_mono (by omega) (by omega) this
theorem fuel9 : ∃ k, fuel = k + 9 := ⟨18446744073709551607, by unfold fuel; omega⟩
/-- lists written by both -/
theorem written {l : List Va} (hl : l.length ≤ 1000) (h : ∀ x ∈ l, valOk x) : literal_writeAll_h fuel [] l = some (iB (joinB (l.map showV))) ∧ synthesisref02_join fuel l = some (mkB (joinB (l.map showV))) ∧ (joinB (l.map showV)).length ≤ l.length * 60002 := by
  obtain ⟨k, hk⟩ := fuel9
  rw [hk]
  generalize fuel = ff at hk
  have h1 := okW_all (C := 2500000000) (B := 60000) (n := k + 8) (m := k + 8) (by omega) hl (by omega) (fun x hx => okW_val (h x hx) (k + 6) (k + 3)) [] (by simp)
  exact ⟨h1.1, h1.2, joinB_len l fun x hx => (okW_val (h x hx) 0 0).2.2⟩
/-! a check passed -/
theorem ranged0 {m a b : Int} (h : value_ranged m a b = some 0) : a ≤ m ∧ m ≤ b := by
  unfold value_ranged at h
  by_cases h1 : m < a
  · rw [decide_eq_true h1] at h; simp at h
  · rw [decide_eq_false h1] at h
    by_cases h2 : b < m
    · rw [decide_eq_true h2] at h; simp at h
    · omega
theorem sized0 {s : ByteArray} {a b : Nat} (hs : s.size ≤ 9223372036854775807) (h : value_sized s (a : Int) (b : Int) = some 0) : textOk a b s := by
  unfold value_sized at h
  by_cases h1 : (s.size : Int) < (a : Int)
  · rw [decide_eq_true h1] at h; simp at h
  · rw [decide_eq_false h1] at h
    by_cases h2 : (b : Int) < (s.size : Int)
    · rw [decide_eq_true h2] at h; simp at h
    · rw [decide_eq_false h2, value_printed_eq s hs] at h
      cases hall : s.data.toList.all goodB with
      | false => rw [hall] at h; simp at h
      | true => exact ⟨by omega, by omega, fun c hc => List.all_eq_true.1 hall c hc⟩
theorem text_nil {s : ByteArray} (h : (s.toList == (⟨#[]⟩ : ByteArray).toList) = true) : s = ⟨#[]⟩ := bytesList_inj (by simpa using h)
theorem items_nil {l : List Va} (h : ((l.length : Int) == 0) = true) : l = [] := List.eq_nil_of_length_eq_zero (by have := eq_of_beq h; omega)
theorem type_int {v : Va} (h : valOk v) (ht : v.type = 2) : intOk v := by
  rcases h with (rfl | rfl) | h | ⟨k, rfl, h0, h1⟩ | ⟨s, rfl, h⟩ | ⟨s, rfl, h⟩ | ⟨l, rfl, h1, h2⟩ | ⟨l, rfl, h⟩ | ⟨l, rfl, h1, k, h2, h3, h4⟩
  all_goals first | exact h | (simp [Va.type] at ht)
theorem type_txt {v : Va} (h : valOk v) (ht : v.type = 3) : txtOk v := by
  rcases h with (rfl | rfl) | ⟨k, rfl, h0, h1⟩ | ⟨k, rfl, h0, h1⟩ | h | ⟨s, rfl, h⟩ | ⟨l, rfl, h1, h2⟩ | ⟨l, rfl, h⟩ | ⟨l, rfl, h1, k, h2, h3, h4⟩
  all_goals first | exact h | (simp [Va.type] at ht)
theorem type_row {v : Va} (h : valOk v) (ht : v.type = 6) : rowOk 0 16 v := by
  rcases h with (rfl | rfl) | ⟨k, rfl, h0, h1⟩ | ⟨k, rfl, h0, h1⟩ | ⟨s, rfl, h⟩ | ⟨s, rfl, h⟩ | ⟨l, rfl, h1, h2⟩ | h | ⟨l, rfl, h1, k, h2, h3, h4⟩
  all_goals first | exact h | (simp [Va.type] at ht)
theorem elements0 {n : Nat} {l : List Va} {t : Int} (wl : ∀ x ∈ l, inV x) (hlen : l.length ≤ 9223372036854775807) (hc : ∀ x ∈ l, x.type = t → ∃ c, value_Check n x = some c) (h : value_elements (n + 1) l t = some 0) : l.length ≤ 16 ∧ ∀ x ∈ l, x.type = t ∧ value_Check n x = some 0 := by
  have h : value_elements_b (value_Check n) (value_elements n) (value_rows n) l t = some 0 := h
  by_cases h16 : (16 : Int) < (l.length : Int)
  · simp only [value_elements_b, decide_eq_true h16, cond_true] at h; cases h
  · simp only [value_elements_b, decide_eq_false h16, cond_false] at h
    refine ⟨by omega, ?_⟩
    have hst : ∀ (i : Nat) (hi : i < l.length), (value_elements_l1 l t (value_Check n) (i : Int) = some (.inl ((i + 1 : Nat) : Int)) ∧ l[i].type = t ∧ value_Check n l[i] = some 0) ∨ ∃ c, c ≠ 0 ∧ value_elements_l1 l t (value_Check n) (i : Int) = some (.inr (.inr c)) := fun i hi => by
      have e1 : l[i]? = some l[i] := List.getElem?_eq_getElem hi
      have hw := w64_succ (n := i) (by omega)
      cases ht : (l[i].type != t) with
      | true => exact .inr ⟨3, by decide, by simp only [value_elements_l1, lt_len hi, idx_nat, e1, ht, cond_true, Option.bind_some]⟩
      | false =>
        have hty : l[i].type = t := by rwa [bne_eq_false_iff_eq] at ht
        obtain ⟨c, k1⟩ := hc _ (List.getElem_mem hi) hty
        cases hc' : (c != 0) with
        | true => exact .inr ⟨c, by simpa using hc', by simp only [value_elements_l1, lt_len hi, idx_nat, e1, ht, k1, hc', cond_true, cond_false, Option.bind_some]⟩
        | false => exact .inl ⟨by simp only [value_elements_l1, lt_len hi, idx_nat, e1, ht, k1, hc', hw, cond_true, cond_false, Option.bind_some], hty, by rw [k1]; rw [bne_eq_false_iff_eq] at hc'; rw [hc']⟩
    cases hr : loopN (value_elements_l1 l t (value_Check n)) fuel 0 with
    | none => rw [hr] at h; cases h
    | some r =>
      obtain ⟨r2, r3, f1, f2, f3⟩ := loop_two (step := value_elements_l1 l t (value_Check n)) (step' := value_elements_l1 l t (value_Check n)) l.length (by omega) (fun i => (i : Int)) (fun i => (i : Int)) (fun r r' => ∀ c, r = .inr c → c ≠ 0) (fun i hi => by
        rcases hst i hi with ⟨a1, _⟩ | ⟨c, h0, a1⟩
        · exact .inl ⟨a1, a1⟩
        · exact .inr ⟨_, _, a1, a1, fun c' h => by cases h; exact h0⟩) ⟨.inl (), .inl (), by simp [value_elements_l1], by simp [value_elements_l1], fun c h => by cases h⟩
      have f1' : loopN (value_elements_l1 l t (value_Check n)) fuel 0 = some r2 := by simpa using f1
      rw [hr] at f1'
      cases f1'
      rw [hr, Option.bind_some] at h
      cases r with
      | inr c => exact absurd (Option.some.inj h) (f3 c rfl)
      | inl u =>
        intro x hx
        obtain ⟨i, hi, rfl⟩ := List.mem_iff_getElem.1 hx
        have hall := loop_all (step := value_elements_l1 l t (value_Check n)) l.length (fun i => (i : Int)) (.inl u) (fun i hi => by
          rcases hst i hi with ⟨a1, _⟩ | ⟨c, _, a1⟩
          · exact .inl a1
          · exact .inr ⟨_, a1, fun h => by cases h⟩) fuel 0 hr i (Nat.zero_le _) hi
        rcases hst i hi with ⟨_, h⟩ | ⟨c, _, a1⟩
        · exact h
        · rw [a1] at hall; cases hall
theorem rows0 {n : Nat} {l : List Va} (wl : ∀ x ∈ l, inV x) (hlen : l.length ≤ 9223372036854775807) (hc : ∀ x ∈ l, x.type = 6 → ∃ c, value_Check n x = some c) (h : value_rows (n + 1) l = some 0) : l.length ≤ 8 ∧ ∃ k, 1 ≤ k ∧ k ≤ 8 ∧ ∀ x ∈ l, x.type = 6 ∧ x.items.length = k ∧ value_Check n x = some 0 := by
  have h : value_rows_b (value_Check n) (value_elements n) (value_rows n) l = some 0 := h
  by_cases h16 : (8 : Int) < (l.length : Int)
  · simp only [value_rows_b, decide_eq_true h16, cond_true] at h; cases h
  · simp only [value_rows_b, decide_eq_false h16, cond_false] at h
    refine ⟨by omega, ?_⟩
    have hst : ∀ (i : Nat) (hi : i < l.length), (value_rows_l1 l (value_Check n) (i : Int) = some (.inl ((i + 1 : Nat) : Int)) ∧ l[i].type = 6 ∧ (1 ≤ l[i].items.length ∧ l[i].items.length ≤ 8 ∧ l[i].items.length = (l[0]'(by omega)).items.length) ∧ value_Check n l[i] = some 0) ∨ ∃ c, c ≠ 0 ∧ value_rows_l1 l (value_Check n) (i : Int) = some (.inr (.inr c)) := fun i hi => by
      have e1 : l[i]? = some l[i] := List.getElem?_eq_getElem hi
      have e0 : idx l 0 = some (l[0]'(by omega)) := by rw [show (0 : Int) = ((0 : Nat) : Int) from rfl, idx_nat, List.getElem?_eq_getElem]
      have hw := w64_succ (n := i) (by omega)
      cases ht : (l[i].type != 6) with
      | true => exact .inr ⟨3, by decide, by simp only [value_rows_l1, lt_len hi, idx_nat, e1, ht, cond_true, Option.bind_some]⟩
      | false =>
        have hty : l[i].type = 6 := by rwa [bne_eq_false_iff_eq] at ht
        obtain ⟨c, k1⟩ := hc _ (List.getElem_mem hi) hty
        by_cases hq : 1 ≤ l[i].items.length ∧ l[i].items.length ≤ 8 ∧ l[i].items.length = (l[0]'(by omega)).items.length
        · have e3 : (bif decide ((l[i].items.length : Int) < 1) then some true else bif decide (8 < (l[i].items.length : Int)) then some true else (some ((l[i].items.length : Int) != ((l[0]'(by omega)).items.length : Int)) : Option Bool)) = some false := by
            rw [decide_eq_false (by omega), decide_eq_false (by omega), hq.2.2]; simp
          cases hc' : (c != 0) with
          | true => exact .inr ⟨c, by simpa using hc', by simp only [value_rows_l1, lt_len hi, idx_nat, e1, e0, ht, e3, k1, hc', cond_true, cond_false, Option.bind_some]⟩
          | false => exact .inl ⟨by simp only [value_rows_l1, lt_len hi, idx_nat, e1, e0, ht, e3, k1, hc', hw, cond_true, cond_false, Option.bind_some], hty, hq, by rw [k1]; rw [bne_eq_false_iff_eq] at hc'; rw [hc']⟩
        · have e3 : (bif decide ((l[i].items.length : Int) < 1) then some true else bif decide (8 < (l[i].items.length : Int)) then some true else (some ((l[i].items.length : Int) != ((l[0]'(by omega)).items.length : Int)) : Option Bool)) = some true := by
            by_cases q1 : (l[i].items.length : Int) < 1
            · rw [decide_eq_true q1]; rfl
            · by_cases q2 : 8 < (l[i].items.length : Int)
              · rw [decide_eq_true q2, decide_eq_false q1]; rfl
              · rw [decide_eq_false q1, decide_eq_false q2, cond_false, cond_false]
                congr 1
                simp
                omega
          exact .inr ⟨2, by decide, by simp only [value_rows_l1, lt_len hi, idx_nat, e1, e0, ht, e3, cond_true, cond_false, Option.bind_some]⟩
    cases hr : loopN (value_rows_l1 l (value_Check n)) fuel 0 with
    | none => rw [hr] at h; cases h
    | some r =>
      obtain ⟨r2, r3, f1, f2, f3⟩ := loop_two (step := value_rows_l1 l (value_Check n)) (step' := value_rows_l1 l (value_Check n)) l.length (by omega) (fun i => (i : Int)) (fun i => (i : Int)) (fun r r' => ∀ c, r = .inr c → c ≠ 0) (fun i hi => by
        rcases hst i hi with ⟨a1, _⟩ | ⟨c, h0, a1⟩
        · exact .inl ⟨a1, a1⟩
        · exact .inr ⟨_, _, a1, a1, fun c' h => by cases h; exact h0⟩) ⟨.inl (), .inl (), by simp [value_rows_l1], by simp [value_rows_l1], fun c h => by cases h⟩
      have f1' : loopN (value_rows_l1 l (value_Check n)) fuel 0 = some r2 := by simpa using f1
      rw [hr] at f1'
      cases f1'
      rw [hr, Option.bind_some] at h
      cases r with
      | inr c => exact absurd (Option.some.inj h) (f3 c rfl)
      | inl u =>
        have all : ∀ (i : Nat) (hi : i < l.length), l[i].type = 6 ∧ (1 ≤ l[i].items.length ∧ l[i].items.length ≤ 8 ∧ l[i].items.length = (l[0]'(by omega)).items.length) ∧ value_Check n l[i] = some 0 := fun i hi => by
          have hall := loop_all (step := value_rows_l1 l (value_Check n)) l.length (fun i => (i : Int)) (.inl u) (fun i hi => by
            rcases hst i hi with ⟨a1, _⟩ | ⟨c, _, a1⟩
            · exact .inl a1
            · exact .inr ⟨_, a1, fun h => by cases h⟩) fuel 0 hr i (Nat.zero_le _) hi
          rcases hst i hi with ⟨_, h⟩ | ⟨c, _, a1⟩
          · exact h
          · rw [a1] at hall; cases hall
        by_cases hl0 : 0 < l.length
        · have z := (all 0 hl0).2.1
          refine ⟨(l[0]'hl0).items.length, z.1, z.2.1, fun x hx => ?_⟩
          obtain ⟨i, hi, rfl⟩ := List.mem_iff_getElem.1 hx
          have := all i hi
          exact ⟨this.1, this.2.1.2.2, this.2.2⟩
        · exact ⟨1, by omega, by omega, fun x hx => by rw [List.eq_nil_of_length_eq_zero (by omega : l.length = 0)] at hx; cases hx⟩
theorem va_t (t m : Int) (s : ByteArray) (l : List Va) : (Va.mk t m s l).type = t := rfl
theorem va_n (t m : Int) (s : ByteArray) (l : List Va) : (Va.mk t m s l).num = m := rfl
theorem va_s (t m : Int) (s : ByteArray) (l : List Va) : (Va.mk t m s l).text = s := rfl
theorem va_l (t m : Int) (s : ByteArray) (l : List Va) : (Va.mk t m s l).items = l := rfl
theorem check_ok : ∀ (n : Nat) (x : Va), 2 * rkT x.type ≤ n → inV x → value_Check n x = some 0 → valOk x := by
  intro n
  induction n using Nat.strongRecOn with
  | ind n ih =>
    intro x hn hx h
    have h1rk : 1 ≤ rkT x.type := by unfold rkT; split <;> (try split) <;> omega
    obtain ⟨n, rfl⟩ : ∃ m, n = m + 2 := ⟨n - 2, by omega⟩
    replace h : value_Check_b (value_Check (n + 1)) (value_elements (n + 1)) (value_rows (n + 1)) x = some 0 := h
    obtain ⟨lx, sx, wx⟩ := inV_items hx
    by_cases h0 : x.type < 1
    · simp [value_Check_b, h0] at h
    by_cases h8 : 8 < x.type
    · simp [value_Check_b, h0, h8] at h
    have hcc : ∀ k (y : Va), 2 * rkT y.type ≤ k → inV y → ∃ c, value_Check k y = some c := fun k y h1 h2 => by
      obtain ⟨c, hc, _⟩ := (check_u k).1 y h1 h2
      exact ⟨c, hc⟩
    have ht : x.type = 1 ∨ x.type = 2 ∨ x.type = 3 ∨ x.type = 4 ∨ x.type = 5 ∨ x.type = 6 ∨ x.type = 7 ∨ x.type = 8 := by omega
    obtain ⟨t, m, s, l⟩ := x
    simp only [va_t, va_n, va_s, va_l] at *
    cases hz : (s.toList == (⟨#[]⟩ : ByteArray).toList) <;> cases hm : (m == 0) <;> cases hl : ((l.length : Int) == 0) <;>
      rcases ht with rfl | rfl | rfl | rfl | rfl | rfl | rfl | rfl <;>
      simp only [value_Check_b, value_unused, va_t, va_n, va_s, va_l, hz, hm, hl] at h <;> simp at h
    · obtain ⟨c, hc⟩ := sized_some s 0 64 sx
      rw [hc] at h; simp at h; subst h
      obtain rfl := items_nil hl
      obtain rfl := eq_of_beq hm
      exact .inr (.inr (.inr (.inl ⟨s, rfl, sized0 (a := 0) (b := 64) sx hc⟩)))
    · obtain ⟨c, hc⟩ := sized_some s 1 40 sx
      rw [hc] at h; simp at h; subst h
      obtain rfl := items_nil hl
      obtain rfl := eq_of_beq hm
      exact .inr (.inr (.inr (.inr (.inl ⟨s, rfl, sized0 (a := 1) (b := 40) sx hc⟩))))
    · obtain ⟨c, hc, _⟩ := ranged_some m 0 1
      rw [hc] at h; simp at h; subst h
      obtain rfl := items_nil hl
      obtain rfl := text_nil hz
      have hr := ranged0 hc
      rcases (by omega : m = 0 ∨ m = 1) with rfl | rfl
      · exact .inl (.inl rfl)
      · exact .inl (.inr rfl)
    · obtain ⟨c, hc, _⟩ := ranged_some m (-1000000) 1000000
      rw [hc] at h; simp at h; subst h
      obtain rfl := items_nil hl
      obtain rfl := text_nil hz
      have hr := ranged0 hc
      exact .inr (.inl ⟨m, rfl, hr.1, hr.2⟩)
    · obtain ⟨c, hc, _⟩ := ranged_some m 0 255
      rw [hc] at h; simp at h; subst h
      obtain rfl := items_nil hl
      obtain rfl := text_nil hz
      have hr := ranged0 hc
      exact .inr (.inr (.inl ⟨m, rfl, hr.1, hr.2⟩))
    · obtain rfl := text_nil hz
      obtain rfl := eq_of_beq hm
      have hn' : 2 ≤ n := by have : rkT 5 = 2 := rfl; omega
      obtain ⟨h1, h2⟩ := elements0 wx lx (fun y hy hty => hcc n y (by rw [hty]; exact hn') (wx y hy)) h
      exact .inr (.inr (.inr (.inr (.inr (.inl ⟨l, rfl, h1, fun y hy => type_int (ih n (by omega) y (by rw [(h2 y hy).1]; exact hn') (wx y hy) (h2 y hy).2) (h2 y hy).1⟩)))))
    · obtain rfl := text_nil hz
      obtain rfl := eq_of_beq hm
      have hn' : 2 ≤ n := by have : rkT 6 = 2 := rfl; omega
      obtain ⟨h1, h2⟩ := elements0 wx lx (fun y hy hty => hcc n y (by rw [hty]; exact hn') (wx y hy)) h
      exact .inr (.inr (.inr (.inr (.inr (.inr (.inl ⟨l, rfl, Nat.zero_le _, h1, fun y hy => type_txt (ih n (by omega) y (by rw [(h2 y hy).1]; exact hn') (wx y hy) (h2 y hy).2) (h2 y hy).1⟩))))))
    · obtain rfl := text_nil hz
      obtain rfl := eq_of_beq hm
      have hn' : 4 ≤ n := by have : rkT 7 = 3 := rfl; omega
      obtain ⟨h1, k, k1, k2, h2⟩ := rows0 wx lx (fun y hy hty => hcc n y (by rw [hty]; exact hn') (wx y hy)) h
      refine .inr (.inr (.inr (.inr (.inr (.inr (.inr ⟨l, rfl, h1, k, k1, k2, fun y hy => ?_⟩))))))
      obtain ⟨l', rfl, _, _, q⟩ := type_row (ih n (by omega) y (by rw [(h2 y hy).1]; exact hn') (wx y hy) (h2 y hy).2.2) (h2 y hy).1
      have hk : l'.length = k := (h2 _ hy).2.1
      exact ⟨l', rfl, by omega, by omega, q⟩
    · obtain ⟨c, hc, _⟩ := ranged_some m 0 1
      rw [hc] at h; simp at h; subst h
      obtain rfl := items_nil hl
      obtain rfl := text_nil hz
      have hr := ranged0 hc
      rcases (by omega : m = 0 ∨ m = 1) with rfl | rfl
      · exact .inl (.inl rfl)
      · exact .inl (.inr rfl)
    · obtain ⟨c, hc, _⟩ := ranged_some m (-1000000) 1000000
      rw [hc] at h; simp at h; subst h
      obtain rfl := items_nil hl
      obtain rfl := text_nil hz
      have hr := ranged0 hc
      exact .inr (.inl ⟨m, rfl, hr.1, hr.2⟩)
    · obtain ⟨c, hc⟩ := sized_some s 0 64 sx
      rw [hc] at h; simp at h; subst h
      obtain rfl := items_nil hl
      obtain rfl := eq_of_beq hm
      exact .inr (.inr (.inr (.inl ⟨s, rfl, sized0 (a := 0) (b := 64) sx hc⟩)))
    · obtain ⟨c, hc, _⟩ := ranged_some m 0 255
      rw [hc] at h; simp at h; subst h
      obtain rfl := items_nil hl
      obtain rfl := text_nil hz
      have hr := ranged0 hc
      exact .inr (.inr (.inl ⟨m, rfl, hr.1, hr.2⟩))
    · obtain rfl := text_nil hz
      obtain rfl := eq_of_beq hm
      have hn' : 2 ≤ n := by have : rkT 5 = 2 := rfl; omega
      obtain ⟨h1, h2⟩ := elements0 wx lx (fun y hy hty => hcc n y (by rw [hty]; exact hn') (wx y hy)) h
      exact .inr (.inr (.inr (.inr (.inr (.inl ⟨l, rfl, h1, fun y hy => type_int (ih n (by omega) y (by rw [(h2 y hy).1]; exact hn') (wx y hy) (h2 y hy).2) (h2 y hy).1⟩)))))
    · obtain rfl := text_nil hz
      obtain rfl := eq_of_beq hm
      have hn' : 2 ≤ n := by have : rkT 6 = 2 := rfl; omega
      obtain ⟨h1, h2⟩ := elements0 wx lx (fun y hy hty => hcc n y (by rw [hty]; exact hn') (wx y hy)) h
      exact .inr (.inr (.inr (.inr (.inr (.inr (.inl ⟨l, rfl, Nat.zero_le _, h1, fun y hy => type_txt (ih n (by omega) y (by rw [(h2 y hy).1]; exact hn') (wx y hy) (h2 y hy).2) (h2 y hy).1⟩))))))
    · obtain rfl := text_nil hz
      obtain rfl := eq_of_beq hm
      have hn' : 4 ≤ n := by have : rkT 7 = 3 := rfl; omega
      obtain ⟨h1, k, k1, k2, h2⟩ := rows0 wx lx (fun y hy hty => hcc n y (by rw [hty]; exact hn') (wx y hy)) h
      refine .inr (.inr (.inr (.inr (.inr (.inr (.inr ⟨l, rfl, h1, k, k1, k2, fun y hy => ?_⟩))))))
      obtain ⟨l', rfl, _, _, q⟩ := type_row (ih n (by omega) y (by rw [(h2 y hy).1]; exact hn') (wx y hy) (h2 y hy).2.2) (h2 y hy).1
      have hk : l'.length = k := (h2 _ hy).2.1
      exact ⟨l', rfl, by omega, by omega, q⟩
    · obtain ⟨c, hc⟩ := sized_some s 1 40 sx
      rw [hc] at h; simp at h; subst h
      obtain rfl := items_nil hl
      obtain rfl := eq_of_beq hm
      exact .inr (.inr (.inr (.inr (.inl ⟨s, rfl, sized0 (a := 1) (b := 40) sx hc⟩))))

end Go.Proofs.YtijkipikefpopaaDoor
