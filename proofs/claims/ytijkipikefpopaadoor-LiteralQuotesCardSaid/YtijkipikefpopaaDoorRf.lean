/- What is written: quoted texts, numbers, values: the program's bytes and the reference's. -/
import Derived.Test.YtijkipikefpopaaDoorRe
set_option linter.unusedVariables false
set_option linter.unusedSimpArgs false
set_option maxRecDepth 10000
namespace Go.Proofs.YtijkipikefpopaaDoor
open Go Go.RowKit

theorem cut_mk {s : ByteArray} {i w : Nat} (h : i + w ≤ s.size) : cutS s (i : Int) ((i + w : Nat) : Int) = some (mkB ((s.data.toList.drop i).take w)) := by
  unfold cutS
  rw [if_pos ⟨by omega, by omega, by omega⟩]
  congr 1
  apply ba_ext
  rw [mkB_data, show ((i : Int).toNat) = i from rfl, show (((i + w : Nat) : Int).toNat) = i + w from rfl, ext_list, List.drop_take]
  congr 1
  omega
theorem s2b_mk {l : List UInt8} (h : l.length ≤ 4000000000) : s2b (mkB l) = some (iB l) := by
  unfold s2b
  rw [mkB_size, if_pos (by omega), ofBA_mkB]
theorem dec_ok {s : ByteArray} {i : Nat} (hi : i < s.size) (c : UInt8) (hc : s.data.toList[i]? = some c) : (c.toNat < 128 ∧ Utf8.decode s i = (c.toNat, 1)) ∨
    (128 ≤ c.toNat ∧ 128 ≤ (Utf8.decode s i).1 ∧ 1 ≤ (Utf8.decode s i).2 ∧ i + (Utf8.decode s i).2 ≤ s.size ∧ ∀ x ∈ (s.data.toList.drop i).take (Utf8.decode s i).2, 128 ≤ x.toNat) := by
  have hg : ∀ k : Nat, i + k < s.size → ∀ x, s.data.toList[i + k]? = some x → (s.get! (i + k)).toNat = x.toNat := fun k hk x hx => by
    rw [get_at hk]
    rw [List.getElem?_eq_getElem (by rw [← size_list]; exact hk)] at hx
    rw [Option.some.inj hx]
  have h0 := hg 0 hi c hc
  rw [Nat.add_zero] at h0
  rw [Lib.decode_at, h0]
  by_cases h : c.toNat < 128
  · exact .inl ⟨h, by unfold Lib.decodeN; rw [if_pos h]⟩
  · obtain ⟨k1, k2, k3, k4, k5, k6, k7⟩ := decodeN_hi (s.size - i) c.toNat (s.get! (i + 1)).toNat (s.get! (i + 2)).toNat (s.get! (i + 3)).toNat (by omega) (by omega)
    refine .inr ⟨by omega, k1, k2, by omega, fun x hx => ?_⟩
    obtain ⟨k, hk⟩ := List.mem_iff_getElem?.1 hx
    rw [List.getElem?_take] at hk
    split at hk
    · rename_i hkw
      rw [List.getElem?_drop] at hk
      have hks : i + k < s.size := by omega
      have := hg k hks x hk
      rcases (by omega : k = 0 ∨ k = 1 ∨ k = 2 ∨ k = 3) with rfl | rfl | rfl | rfl
      · rw [Nat.add_zero, hc] at hk; cases hk; omega
      · rw [← this]; exact k5 (by omega)
      · rw [← this]; exact k6 (by omega)
      · rw [← this]; exact k7 (by omega)
    · cases hk
theorem esc_hex {c : UInt8} (h1 : c.toNat ≠ 34) (h2 : c.toNat ≠ 92) (h3 : ¬ (32 ≤ c.toNat ∧ c.toNat ≤ 126)) : escB c = hex4 c := by
  unfold escB hex4
  rw [if_neg (by rintro (rfl | rfl) <;> simp_all), if_neg (by unfold plainB; simpa using h3)]
theorem esc_plain {c : UInt8} (h1 : c.toNat ≠ 34) (h2 : c.toNat ≠ 92) (h3 : 32 ≤ c.toNat ∧ c.toNat ≤ 126) : escB c = [c] := by
  unfold escB
  rw [if_neg (by rintro (rfl | rfl) <;> simp_all), if_pos (by unfold plainB; simpa using h3)]
theorem esc_q {c : UInt8} (h : c.toNat = 34 ∨ c.toNat = 92) : escB c = [92, c] := by
  unfold escB
  rw [if_pos]
  rcases h with h | h
  · exact .inl (UInt8.toNat.inj h)
  · exact .inr (UInt8.toNat.inj h)
theorem flat_hex {l : List UInt8} (h : ∀ x ∈ l, escB x = hex4 x) : l.flatMap escB = l.flatMap hex4 := by
  induction l with
  | nil => rfl
  | cons x l ih => rw [List.flatMap_cons, List.flatMap_cons, h x (List.mem_cons_self ..), ih fun y hy => h y (List.mem_cons_of_mem _ hy)]
theorem wu8_nat (c : UInt8) : wu8 ((c.toNat : Nat) : Int) = (c.toNat : Int) := by
  have := c.toNat_lt
  simp [wu8, IntKind.wrap, IntKind.signed, IntKind.bits, IntKind.min, IntKind.max]
  omega
theorem quote_loop {s : ByteArray} (hs : s.size ≤ 100000) : ∀ (d i : Nat) (acc : List UInt8) (n : Nat), s.size - i = d → i ≤ s.size → d < n → acc.length + 4 * d ≤ 1000000000 →
    loopN (literal_Quote_h_l2 s) n (iB acc, i) = some (iB (acc ++ (s.data.toList.drop i).flatMap escB)) := by
  intro d
  induction d using Nat.strongRecOn with
  | ind d ih =>
    intro i acc n hd hi hn hl
    obtain ⟨n, rfl⟩ : ∃ m, n = m + 1 := ⟨n - 1, by omega⟩
    by_cases h : i < s.size
    · have hil : i < s.data.toList.length := by rw [← size_list]; exact h
      have hdr := List.drop_eq_getElem_cons hil
      have hget : s.data.toList[i]? = some s.data.toList[i] := List.getElem?_eq_getElem hil
      generalize s.data.toList[i] = c at hdr hget
      have d1 : decide (i < ByteArray.size s) = true := decide_eq_true h
      have hdec := dec_ok h c hget
      by_cases hq : c.toNat = 34 ∨ c.toNat = 92
      · obtain ⟨g1, g2⟩ : c.toNat < 128 ∧ Utf8.decode s i = (c.toNat, 1) := by
          rcases hdec with hdec | hdec
          · exact hdec
          · omega
        rw [hdr, List.flatMap_cons, esc_q hq, ← List.append_assoc, ← ih (d - 1) (by omega) (i + 1) (acc ++ [92, c]) n (by omega) (by omega) (by omega) (by simp; omega)]
        refine lp_go ?_
        have e1 : (bif (((c.toNat : Nat) : Int) == 34) then (some (true)) else (some (((c.toNat : Nat) : Int) == 92)) : Option Bool) = some true := by rcases hq with hq | hq <;> rw [hq] <;> rfl
        have w1 := wb_eq (acc := acc) (c := 92) (n := 92) rfl (by omega)
        have w2 := wb_eq (acc := acc ++ [92]) (c := c) rfl (by simp; omega)
        rw [List.append_assoc] at w2
        simp only [literal_Quote_h_l2, d1, cond_true, g2, e1, Option.bind_some, w1, wu8_nat, w2]
        rfl
      · have e1 : ∀ r : Nat, r ≠ 34 → r ≠ 92 → (bif (((r : Nat) : Int) == 34) then (some (true)) else (some (((r : Nat) : Int) == 92)) : Option Bool) = some false := fun r h1 h2 => by
          rw [show ((r : Int) == 34) = false by rw [beq_eq_false_iff_ne]; omega, show ((r : Int) == 92) = false by rw [beq_eq_false_iff_ne]; omega]; rfl
        by_cases hp : 32 ≤ c.toNat ∧ c.toNat ≤ 126
        · obtain ⟨g1, g2⟩ : c.toNat < 128 ∧ Utf8.decode s i = (c.toNat, 1) := by
            rcases hdec with hdec | hdec
            · exact hdec
            · omega
          have hpl : plainI (c.toNat : Int) = true := by unfold plainI; simp; omega
          rw [hdr, List.flatMap_cons, esc_plain (by omega) (by omega) hp, ← List.append_assoc, ← ih (d - 1) (by omega) (i + 1) (acc ++ [c]) n (by omega) (by omega) (by omega) (by simp; omega)]
          refine lp_go ?_
          have w2 := wb_eq (acc := acc) (c := c) rfl (by omega)
          simp only [literal_Quote_h_l2, d1, cond_true, g2, e1 c.toNat (by omega) (by omega), Option.bind_some, cond_false, plain_eq, hpl, wu8_nat, w2]
        · obtain ⟨t, r, ht1, ht2⟩ := rune_eq (by omega) h
          -- what is escaped
          obtain ⟨q1, q2, q3, q4, q5⟩ : (Utf8.decode s i).1 ≠ 34 ∧ (Utf8.decode s i).1 ≠ 92 ∧ plainI ((Utf8.decode s i).1 : Int) = false ∧ (1 ≤ (Utf8.decode s i).2 ∧ i + (Utf8.decode s i).2 ≤ s.size) ∧ ∀ x ∈ (s.data.toList.drop i).take (Utf8.decode s i).2, escB x = hex4 x := by
            rcases hdec with ⟨g1, g2⟩ | ⟨g1, g2, g3, g4, g5⟩
            · rw [g2]
              refine ⟨by omega, by omega, by unfold plainI; simp; omega, ⟨by omega, by show i + 1 ≤ _; omega⟩, fun x hx => ?_⟩
              rw [hdr] at hx
              simp at hx
              rw [hx]
              exact esc_hex (by omega) (by omega) hp
            · exact ⟨by omega, by omega, by unfold plainI; simp; omega, ⟨g3, g4⟩, fun x hx => esc_hex (by have := g5 x hx; omega) (by have := g5 x hx; omega) (by have := g5 x hx; omega)⟩
          obtain ⟨r', w, hrw⟩ : ∃ r' w, Utf8.decode s i = (r', w) := ⟨_, _, rfl⟩
          rw [hrw] at q1 q2 q3 q4 q5 ht2
          simp only at q1 q2 q3 q4 q5 ht2
          have hsplit : s.data.toList.drop i = (s.data.toList.drop i).take w ++ s.data.toList.drop (i + w) := by
            rw [← List.drop_drop, List.take_append_drop]
          have hlen : ((s.data.toList.drop i).take w).length = w := by rw [List.length_take, List.length_drop, ← size_list]; omega
          have hflat : (((s.data.toList.drop i).take w).flatMap hex4).length ≤ 4 * w := by
            have gen : ∀ l : List UInt8, (l.flatMap hex4).length = 4 * l.length := fun l => by
              induction l with
              | nil => rfl
              | cons x l ih => rw [List.flatMap_cons, List.length_append, ih, List.length_cons]; simp [hex4]; omega
            rw [gen, hlen]
            exact Nat.le_refl _
          rw [hsplit, List.flatMap_append, flat_hex q5, ← List.append_assoc, ← ih (d - w) (by omega) (i + w) (acc ++ ((s.data.toList.drop i).take w).flatMap hex4) n (by omega) (by omega) (by omega) (by simp only [List.length_append]; omega)]
          refine lp_go ?_
          have ew : w64 ((i : Int) + (w : Int)) = ((i + w : Nat) : Int) := by rw [← w64n (i + w) (by omega)]; congr 1
          have hx := hex_loop ((s.data.toList.drop i).take w) (by omega) w 0 acc fuel (by omega) (lt_fuel (by omega)) (by omega)
          rw [List.drop_zero] at hx
          simp only [literal_Quote_h_l2, d1, cond_true, hrw, e1 r' q1 q2, Option.bind_some, cond_false, plain_eq, q3, ht1, ht2, ew, cut_mk q4.2, s2b_mk (l := (s.data.toList.drop i).take w) (by omega)]
          rw [show (0 : Int) = ((0 : Nat) : Int) from rfl, hx]
          rfl
    · rw [List.drop_eq_nil_of_le (by rw [← size_list]; omega)]
      refine lp_out ?_
      have d1 : decide (i < ByteArray.size s) = false := decide_eq_false h
      simp only [literal_Quote_h_l2, d1, cond_false]
      simp
theorem esc_len (c : UInt8) : (escB c).length ≤ 4 := by unfold escB; split <;> (try split) <;> simp
theorem flat_len (l : List UInt8) : (l.flatMap escB).length ≤ 4 * l.length := by
  induction l with
  | nil => exact Nat.le_refl _
  | cons x l ih => rw [List.flatMap_cons, List.length_append, List.length_cons]; have := esc_len x; omega
theorem Quote_eq {s : ByteArray} (hs : s.size ≤ 100000) : literal_Quote_h s = some (mkB (quoteB s.data.toList)) := by
  have h1 := wb_eq (acc := []) (c := 34) (n := 34) rfl (by simp)
  have h2 := quote_loop hs (s.size - 0) 0 [34] fuel rfl (by omega) (lt_fuel (by omega)) (by simp; omega)
  have hl := flat_len s.data.toList
  rw [← size_list] at hl
  rw [List.drop_zero] at h2
  have h3 := wb_eq (acc := [34] ++ s.data.toList.flatMap escB) (c := 34) (n := 34) rfl (by simp only [List.length_append, List.length_singleton]; omega)
  have h1' : strings_Builder_WriteByte_h [] 34 = some (iB [34]) := h1
  simp only [literal_Quote_h, h1', Option.bind_some, h2, h3, strings_Builder_String_h, toBA_iB]
  unfold quoteB
  simp
theorem cat_mk {a b : List UInt8} (h : a.length + b.length ≤ 4000000000) : cat (mkB a) (mkB b) = some (mkB (a ++ b)) := by
  rw [cat_eq (by rw [mkB_size, mkB_size]; omega), mkB_append]
theorem rquote_loop {s : ByteArray} (hs : s.size ≤ 100000) : ∀ (d i : Nat) (acc : List UInt8) (n : Nat), i + d = s.size → d < n → acc.length + 4 * d ≤ 1000000000 →
    loopN (synthesisref02_Quote_l1 s) n (mkB acc, (i : Int)) = some (mkB (acc ++ (s.data.toList.drop i).flatMap escB)) := by
  intro d
  induction d with
  | zero =>
    intro i acc n hd hn hl
    obtain ⟨n, rfl⟩ : ∃ m, n = m + 1 := ⟨n - 1, by omega⟩
    rw [List.drop_eq_nil_of_le (by rw [← size_list]; omega)]
    refine lp_out ?_
    have d1 : decide ((i : Int) < (s.size : Int)) = false := decide_eq_false (by omega)
    simp only [synthesisref02_Quote_l1, d1, cond_false]
    simp
  | succ d ih =>
    intro i acc n hd hn hl
    obtain ⟨n, rfl⟩ : ∃ m, n = m + 1 := ⟨n - 1, by omega⟩
    have h : i < s.size := by omega
    obtain ⟨b1, b2, b3⟩ := at_lt h
    generalize s.data.toList[i]'(by rw [← size_list]; exact h) = c at b2 b3
    have hcut : cutS s (i : Int) ((i + 1 : Nat) : Int) = some (mkB [c]) := by rw [cut_mk (by omega), b2]; rfl
    have hw : w64 (c.toNat : Int) = (c.toNat : Int) := by have := c.toNat_lt; exact w64_eq (by omega) (by omega)
    rw [b2, List.flatMap_cons, ← List.append_assoc, ← ih (i + 1) (acc ++ escB c) n (by omega) (by omega) (by have := esc_len c; simp only [List.length_append]; omega)]
    refine lp_go ?_
    by_cases hq : c.toNat = 34 ∨ c.toNat = 92
    · have e1 : (bif ((c.toNat : Int) == 34) then (some (true)) else (some ((c.toNat : Int) == 92)) : Option Bool) = some true := by rcases hq with hq | hq <;> rw [hq] <;> rfl
      have c1 : cat (mkB acc) (⟨#[92]⟩ : ByteArray) = some (mkB (acc ++ [92])) := cat_mk (b := [92]) (by simp; omega)
      have c2 := cat_mk (a := acc ++ [92]) (b := [c]) (by simp; omega)
      rw [List.append_assoc] at c2
      simp only [synthesisref02_Quote_l1, lt_len h, cond_true, b1, b3, Option.bind_some, e1, c1, w64s i (by omega), hcut, c2, esc_q hq]
      rfl
    · have e1 : (bif ((c.toNat : Int) == 34) then (some (true)) else (some ((c.toNat : Int) == 92)) : Option Bool) = some false := by
        rw [show ((c.toNat : Int) == 34) = false by rw [beq_eq_false_iff_ne]; omega, show ((c.toNat : Int) == 92) = false by rw [beq_eq_false_iff_ne]; omega]; rfl
      by_cases hp : 32 ≤ c.toNat ∧ c.toNat ≤ 126
      · have e2 : (bif (decide ((c.toNat : Int) < 32)) then (some (true)) else (some ((decide (126 < (c.toNat : Int))))) : Option Bool) = some false := by
          rw [decide_eq_false (by omega), decide_eq_false (by omega)]; rfl
        simp only [synthesisref02_Quote_l1, lt_len h, cond_true, cond_false, b1, b3, hw, Option.bind_some, e1, e2, w64s i (by omega), hcut, cat_mk (a := acc) (b := [c]) (by simp; omega), esc_plain (show c.toNat ≠ 34 by omega) (by omega) hp]
      · have e2 : (bif (decide ((c.toNat : Int) < 32)) then (some (true)) else (some ((decide (126 < (c.toNat : Int))))) : Option Bool) = some true := by
          by_cases q : c.toNat < 32
          · rw [decide_eq_true (by omega)]; rfl
          · rw [decide_eq_false (by omega), decide_eq_true (by omega)]; rfl
        have c1 : cat (mkB acc) (⟨#[92, 120]⟩ : ByteArray) = some (mkB (acc ++ [92, 120])) := cat_mk (b := [92, 120]) (by simp; omega)
        have c2 := cat_mk (a := acc ++ [92, 120]) (b := [hexD (c.toNat / 16)]) (by simp; omega)
        have c3 := cat_mk (a := acc ++ [92, 120] ++ [hexD (c.toNat / 16)]) (b := [hexD (c.toNat % 16)]) (by simp; omega)
        simp only [synthesisref02_Quote_l1, lt_len h, cond_true, cond_false, b1, b3, hw, Option.bind_some, e1, e2, w64s i (by omega), c1, (hex_wr c).2.2.1, (hex_wr c).2.2.2, c2, c3, esc_hex (show c.toNat ≠ 34 by omega) (by omega) hp]
        simp [hex4]
theorem rQuote_eq {s : ByteArray} (hs : s.size ≤ 100000) : synthesisref02_Quote s = some (mkB (quoteB s.data.toList)) := by
  have h2 := rquote_loop hs s.size 0 [34] fuel (by omega) (lt_fuel (by omega)) (by simp; omega)
  have hl := flat_len s.data.toList
  rw [← size_list] at hl
  rw [List.drop_zero] at h2
  have h2' : loopN (synthesisref02_Quote_l1 s) fuel ((⟨#[34]⟩ : ByteArray), 0) = some (mkB ([34] ++ s.data.toList.flatMap escB)) := h2
  have h3 : cat (mkB ([34] ++ s.data.toList.flatMap escB)) (⟨#[34]⟩ : ByteArray) = some (mkB ([34] ++ s.data.toList.flatMap escB ++ [34])) := cat_mk (b := [34]) (by simp only [List.length_append, List.length_singleton]; omega)
  simp only [synthesisref02_Quote, h2', Option.bind_some, h3]
  unfold quoteB
  simp
/-! numbers -/
end Go.Proofs.YtijkipikefpopaaDoor
