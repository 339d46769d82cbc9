/- What is written: quoted texts, numbers. -/
import Derived.Test.YtijkipikefpopaaDoorRc
import Derived.Test.YtijkipikefpopaaDoorOpg
import Derived.Lib.DecodeNEq
import Derived.Lib.ItoaNum
set_option linter.unusedVariables false
set_option linter.unusedSimpArgs false
set_option maxRecDepth 10000
namespace Go.Proofs.YtijkipikefpopaaDoor
open Go Go.RowKit

def iB (l : List UInt8) : List Int := l.map fun c => (c.toNat : Int)
def mkB (l : List UInt8) : ByteArray := ⟨l.toArray⟩
theorem mkB_data (l : List UInt8) : (mkB l).data.toList = l := by simp [mkB]
theorem mkB_size (l : List UInt8) : (mkB l).size = l.length := by rw [size_list, mkB_data]
theorem mkB_append (a b : List UInt8) : mkB a ++ mkB b = mkB (a ++ b) := by
  apply ba_ext
  rw [mkB_data]
  simp [ByteArray.data_append, mkB]
theorem toBA_iB (l : List UInt8) : toBA (iB l) = mkB l := by
  have := toBA_map (mkB l)
  rwa [mkB_data] at this
theorem iB_append (a b : List UInt8) : iB a ++ iB b = iB (a ++ b) := by simp [iB]
theorem iB_len (l : List UInt8) : (iB l).length = l.length := by simp [iB]
theorem ofBA_mkB (l : List UInt8) : ofBA (mkB l) = iB l := by unfold ofBA iB; rw [mkB_data]
theorem iB_one (c : UInt8) : ([(c.toNat : Int)] : List Int) = iB [c] := rfl
theorem wb_eq {acc : List UInt8} {c : UInt8} {n : Int} (hn : n = (c.toNat : Int)) (h : acc.length ≤ 4000000000) : strings_Builder_WriteByte_h (iB acc) n = some (iB (acc ++ [c])) := by
  subst hn
  have := app_eq (b := 1) (xs := iB acc) (ys := [(c.toNat : Int)]) (by rw [iB_len]; simp; omega)
  simp only [strings_Builder_WriteByte_h, strings_Builder_copyCheck_h, Option.bind_some, this]
  rw [iB_one, iB_append]
theorem ws_eq {acc l : List UInt8} {s : ByteArray} (hs : s = mkB l) (h : acc.length ≤ 4000000000) (hl : l.length ≤ 4000000000) : strings_Builder_WriteString_h (iB acc) s = some (iB (acc ++ l)) := by
  subst hs
  have : appS (iB acc) (mkB l) = some (iB (acc ++ l)) := by
    unfold appS
    rw [iB_len, mkB_size, if_pos (by omega), ofBA_mkB, iB_append]
  simp only [strings_Builder_WriteString_h, strings_Builder_copyCheck_h, Option.bind_some, this]
/-! hexadecimal digits -/
theorem hex_wr (c : UInt8) : byt (⟨#[48, 49, 50, 51, 52, 53, 54, 55, 56, 57, 97, 98, 99, 100, 101, 102]⟩ : ByteArray) (Int.fdiv (c.toNat : Int) (2 ^ (4 : Nat))) = some ((hexD (c.toNat / 16)).toNat : Int) ∧
    byt (⟨#[48, 49, 50, 51, 52, 53, 54, 55, 56, 57, 97, 98, 99, 100, 101, 102]⟩ : ByteArray) (iand .u8 (c.toNat : Int) 15) = some ((hexD (c.toNat % 16)).toNat : Int) ∧
    synthesisref02_hex (w64 (Int.tdiv (c.toNat : Int) 16)) = some (mkB [hexD (c.toNat / 16)]) ∧ synthesisref02_hex (Int.tmod (c.toNat : Int) 16) = some (mkB [hexD (c.toNat % 16)]) := by
  have key : ∀ n : Fin 256, byt (⟨#[48, 49, 50, 51, 52, 53, 54, 55, 56, 57, 97, 98, 99, 100, 101, 102]⟩ : ByteArray) (Int.fdiv ((n.val : Nat) : Int) (2 ^ (4 : Nat))) = some ((hexD (n.val / 16)).toNat : Int) ∧
    byt (⟨#[48, 49, 50, 51, 52, 53, 54, 55, 56, 57, 97, 98, 99, 100, 101, 102]⟩ : ByteArray) (iand .u8 ((n.val : Nat) : Int) 15) = some ((hexD (n.val % 16)).toNat : Int) := by decide
  have key2 : ∀ n : Fin 256, synthesisref02_hex (w64 (Int.tdiv ((n.val : Nat) : Int) 16)) = some (mkB [hexD (n.val / 16)]) ∧ synthesisref02_hex (Int.tmod ((n.val : Nat) : Int) 16) = some (mkB [hexD (n.val % 16)]) := by decide
  have hc := c.toNat_lt
  exact ⟨(key ⟨c.toNat, hc⟩).1, (key ⟨c.toNat, hc⟩).2, (key2 ⟨c.toNat, hc⟩).1, (key2 ⟨c.toNat, hc⟩).2⟩
theorem hexa_eq {acc : List UInt8} {c : UInt8} {n : Int} (hn : n = (c.toNat : Int)) (h : acc.length ≤ 3000000000) : literal_hexadecimal_h (iB acc) n = some (iB (acc ++ [hexD (c.toNat / 16), hexD (c.toNat % 16)])) := by
  subst hn
  have h1 := wb_eq (acc := acc) (c := hexD (c.toNat / 16)) rfl (by omega)
  have h2 := wb_eq (acc := acc ++ [hexD (c.toNat / 16)]) (c := hexD (c.toNat % 16)) rfl (by simp; omega)
  rw [List.append_assoc] at h2
  simp only [literal_hexadecimal_h, (hex_wr c).1, (hex_wr c).2.1, Option.bind_some, h1, h2]
  rfl
def hex4 (c : UInt8) : List UInt8 := [92, 120, hexD (c.toNat / 16), hexD (c.toNat % 16)]
theorem hex_loop (v : List UInt8) (hv : v.length ≤ 1000000) : ∀ (k m : Nat) (acc : List UInt8) (n : Nat), m + k = v.length → k < n → acc.length + 4 * k ≤ 2000000000 →
    loopN (literal_Quote_h_l1 (iB v)) n ((m : Int), iB acc) = some (iB (acc ++ (v.drop m).flatMap hex4)) := by
  intro k
  induction k with
  | zero =>
    intro m acc n hm hn hl
    obtain ⟨n, rfl⟩ : ∃ j, n = j + 1 := ⟨n - 1, by omega⟩
    rw [List.drop_eq_nil_of_le (by omega)]
    refine lp_out ?_
    have : decide ((m : Int) < ((iB v).length : Int)) = false := decide_eq_false (by rw [iB_len]; omega)
    simp only [literal_Quote_h_l1, this, cond_false]
    simp
  | succ k ih =>
    intro m acc n hm hn hl
    obtain ⟨n, rfl⟩ : ∃ j, n = j + 1 := ⟨n - 1, by omega⟩
    have hml : m < v.length := by omega
    rw [List.drop_eq_getElem_cons hml, List.flatMap_cons, ← List.append_assoc, ← ih (m + 1) (acc ++ hex4 v[m]) n (by omega) (by omega) (by simp [hex4]; omega)]
    refine lp_go ?_
    have d1 : decide ((m : Int) < ((iB v).length : Int)) = true := decide_eq_true (by rw [iB_len]; omega)
    have e1 : idx (iB v) (m : Int) = some (v[m].toNat : Int) := by rw [idx_nat]; simp [iB, hml]
    have h1 := ws_eq (acc := acc) (l := [92, 120]) (s := ⟨#[92, 120]⟩) rfl (by omega) (by decide)
    have h2 := hexa_eq (acc := acc ++ [92, 120]) (c := v[m]) rfl (by simp; omega)
    rw [List.append_assoc] at h2
    simp only [literal_Quote_h_l1, d1, cond_true, e1, Option.bind_some, h1, h2, w64s m (by omega)]
    rfl
/-! runes -/
theorem get_at {s : ByteArray} {j : Nat} (h : j < s.size) : (s.get! j).toNat = (s.data.toList[j]'(by rw [← size_list]; exact h)).toNat := by
  obtain ⟨a⟩ := s
  have h' : j < a.size := h
  show (a[j]!).toNat = _
  rw [getElem!_pos a j h']
  rfl
theorem decodeN_hi (n b0 b1 b2 b3 : Nat) (hn : 1 ≤ n) (h0 : 128 ≤ b0) : 128 ≤ (Lib.decodeN n b0 b1 b2 b3).1 ∧ 1 ≤ (Lib.decodeN n b0 b1 b2 b3).2 ∧ (Lib.decodeN n b0 b1 b2 b3).2 ≤ n ∧ (Lib.decodeN n b0 b1 b2 b3).2 ≤ 4 ∧ (2 ≤ (Lib.decodeN n b0 b1 b2 b3).2 → 128 ≤ b1) ∧ (3 ≤ (Lib.decodeN n b0 b1 b2 b3).2 → 128 ≤ b2) ∧ (4 ≤ (Lib.decodeN n b0 b1 b2 b3).2 → 128 ≤ b3) := by
  unfold Lib.decodeN
  repeat' split
  all_goals refine ⟨?_, ?_, ?_, ?_, ?_, ?_, ?_⟩
  all_goals (simp only; omega)
theorem first_ok : ∀ n : Fin 256, idx gt0 ((n.val : Nat) : Int) = some (Lib.firstT n.val : Int) ∧ w64 (iand .u8 (Lib.firstT n.val : Int) 7) = ((Lib.firstT n.val % 8 : Nat) : Int) ∧
    (Lib.firstT n.val < 240 → (idx gt1 (Int.fdiv (Lib.firstT n.val : Int) (2 ^ (4 : Nat)))).map (fun r => (r.f_lo, r.f_hi)) = some ((Lib.accLo (Lib.firstT n.val / 16) : Int), (Lib.accHi (Lib.firstT n.val / 16) : Int))) ∧ (Lib.firstT n.val < 240 ∨ Lib.firstT n.val = 240 ∨ Lib.firstT n.val = 241) ∧ (Lib.firstT n.val < 240 → 2 ≤ Lib.firstT n.val % 8 ∧ Lib.firstT n.val % 8 ≤ 4) := by decide
theorem slow_w (n b0 b1 b2 b3 sz lo hi : Nat) : (Lib.slowN n b0 b1 b2 b3 sz lo hi).2 = if n < sz then 1 else if b1 < lo ∨ hi < b1 then 1 else if sz ≤ 2 then 2 else if b2 < 128 ∨ 191 < b2 then 1 else if sz ≤ 3 then 3 else if b3 < 128 ∨ 191 < b3 then 1 else 4 := by
  unfold Lib.slowN
  repeat' split
  all_goals first | rfl | omega
theorem rune_eq {s : ByteArray} (hs : s.size ≤ 1000000) {i : Nat} (hi : i < s.size) : ∃ t r, cutS s (i : Int) (s.size : Int) = some t ∧ unicode_utf8_DecodeRuneInString_h t = some (r, ((Utf8.decode s i).2 : Int)) := by
  have hd : (s.extract i s.size).data.toList = s.data.toList.drop i := by
    rw [ext_list, List.take_of_length_le (by rw [← size_list]; exact Nat.le_refl _)]
  generalize ht : s.extract i s.size = t at hd
  have hsz : t.size = s.size - i := by rw [size_list, hd, List.length_drop, ← size_list]
  have hcut : cutS s (i : Int) (s.size : Int) = some t := by unfold cutS; rw [if_pos ⟨by omega, by omega, by omega⟩, ← ht]; rfl
  have hb : ∀ k : Nat, i + k < s.size → byt t (k : Int) = some ((s.get! (i + k)).toNat : Int) := fun k hk => by
    rw [byt_list, hd, List.getElem?_drop, List.getElem?_eq_getElem (by rw [← size_list]; exact hk), get_at hk]
    rfl
  have hlt : ∀ k : Nat, (s.get! k).toNat < 256 := fun k => UInt8.toNat_lt _
  rw [Lib.decode_at]
  have b0 := hb 0 (by omega)
  have hb1 := hb 1
  have hb2 := hb 2
  have hb3 := hb 3
  rw [Nat.add_zero] at b0
  have h0 := hlt i
  have h1 := hlt (i + 1)
  have h2 := hlt (i + 2)
  have h3 := hlt (i + 3)
  generalize (s.get! i).toNat = c0 at *
  generalize (s.get! (i + 1)).toNat = c1 at *
  generalize (s.get! (i + 2)).toNat = c2 at *
  generalize (s.get! (i + 3)).toNat = c3 at *
  refine ⟨t, ?_⟩
  have hne : (!(t.toList == (⟨#[]⟩ : ByteArray).toList)) = true := by
    rw [Bool.not_eq_true', beq_eq_false_iff_ne]
    intro h
    have := congrArg ByteArray.size (bytesList_inj h)
    rw [hsz, show (⟨#[]⟩ : ByteArray).size = 0 from rfl] at this
    omega
  have b0' : byt t 0 = some (c0 : Int) := b0
  by_cases ha : c0 < 128
  · have d1 : decide ((c0 : Int) < 128) = true := decide_eq_true (by omega)
    have : Lib.decodeN (s.size - i) c0 c1 c2 c3 = (c0, 1) := by unfold Lib.decodeN; rw [if_pos ha]
    rw [this]
    exact ⟨_, hcut, by simp only [unicode_utf8_DecodeRuneInString_h, hne, cond_true, b0', Option.bind_some, d1]; rfl⟩
  · have d1 : decide ((c0 : Int) < 128) = false := decide_eq_false (by omega)
    obtain ⟨f1, f2, f3, f4, f5⟩ := first_ok ⟨c0, h0⟩
    simp only at f1 f2 f3 f4 f5
    have d2 : decide ((t.size : Int) < 1) = false := decide_eq_false (by omega)
    have goal : ∀ r, (∃ a, unicode_utf8_decodeRuneInStringSlow_h t = some (a, (r : Int))) → ∃ a, cutS s (i : Int) (s.size : Int) = some t ∧ unicode_utf8_DecodeRuneInString_h t = some (a, (r : Int)) := fun r ⟨a, h⟩ =>
      ⟨a, hcut, by simp only [unicode_utf8_DecodeRuneInString_h, hne, cond_true, b0', Option.bind_some, d1, cond_false, h]⟩
    refine goal _ ?_
    rcases f4 with f4 | f4
    · have e := Lib.slow_eq (s.size - i) c0 c1 c2 c3 (by omega) h1 h2 h3 f4
      rw [← e, slow_w]
      have d3 : decide ((240 : Int) ≤ (Lib.firstT c0 : Int)) = false := decide_eq_false (by omega)
      obtain ⟨v4, g, g'⟩ := Option.map_eq_some_iff.1 (f3 f4)
      obtain ⟨glo, ghi⟩ := Prod.mk.inj g'
      obtain ⟨g1, g2⟩ := f5 f4
      generalize Lib.firstT c0 % 8 = sz at *
      generalize Lib.accLo (Lib.firstT c0 / 16) = lo at *
      generalize Lib.accHi (Lib.firstT c0 / 16) = hi' at *
      by_cases k1 : s.size - i < sz
      · rw [if_pos k1]
        have d4 : decide ((t.size : Int) < (sz : Int)) = true := decide_eq_true (by omega)
        exact ⟨65533, by simp only [unicode_utf8_decodeRuneInStringSlow_h, d2, cond_false, b0', Option.bind_some, f1, d3, g, glo, ghi, f2, d4, cond_true]; rfl⟩
      · rw [if_neg k1]
        have d4 : decide ((t.size : Int) < (sz : Int)) = false := decide_eq_false (by omega)
        have b1' : byt t 1 = some (c1 : Int) := hb1 (by omega)
        have c1b : (bif (decide ((c1 : Int) < (lo : Int))) then (some (true)) else (some ((decide ((hi' : Int) < (c1 : Int))))) : Option Bool) = some (decide (c1 < lo ∨ hi' < c1)) := by
          by_cases q : c1 < lo
          · rw [decide_eq_true (show (c1 : Int) < (lo : Int) by omega), decide_eq_true (show c1 < lo ∨ hi' < c1 from .inl q)]; rfl
          · rw [decide_eq_false (show ¬ (c1 : Int) < (lo : Int) by omega), cond_false]
            congr 1
            by_cases q' : hi' < c1
            · rw [decide_eq_true (show (hi' : Int) < (c1 : Int) by omega), decide_eq_true (show c1 < lo ∨ hi' < c1 from .inr q')]
            · rw [decide_eq_false (show ¬ (hi' : Int) < (c1 : Int) by omega), decide_eq_false (by omega)]
        by_cases k2 : c1 < lo ∨ hi' < c1
        · rw [if_pos k2]
          exact ⟨65533, by simp only [unicode_utf8_decodeRuneInStringSlow_h, d2, cond_false, b0', Option.bind_some, f1, d3, g, glo, ghi, f2, d4, b1', c1b, decide_eq_true k2, cond_true]; rfl⟩
        · rw [if_neg k2]
          by_cases k3 : sz ≤ 2
          · rw [if_pos k3]
            have d5 : decide ((sz : Int) ≤ 2) = true := decide_eq_true (by omega)
            exact ⟨_, by simp only [unicode_utf8_decodeRuneInStringSlow_h, d2, cond_false, b0', Option.bind_some, f1, d3, g, glo, ghi, f2, d4, b1', c1b, decide_eq_false k2, d5, cond_true]; rfl⟩
          · rw [if_neg k3]
            have d5 : decide ((sz : Int) ≤ 2) = false := decide_eq_false (by omega)
            have b2' : byt t 2 = some (c2 : Int) := hb2 (by omega)
            have c2b : ∀ c : Nat, (bif (decide ((c : Int) < 128)) then (some (true)) else (some ((decide (191 < (c : Int))))) : Option Bool) = some (decide (c < 128 ∨ 191 < c)) := fun c => by
              by_cases q : c < 128
              · rw [decide_eq_true (show (c : Int) < 128 by omega), decide_eq_true (show c < 128 ∨ 191 < c from .inl q)]; rfl
              · rw [decide_eq_false (show ¬ (c : Int) < 128 by omega), cond_false]
                congr 1
                by_cases q' : 191 < c
                · rw [decide_eq_true (show 191 < (c : Int) by omega), decide_eq_true (show c < 128 ∨ 191 < c from .inr q')]
                · rw [decide_eq_false (show ¬ 191 < (c : Int) by omega), decide_eq_false (by omega)]
            by_cases k4 : c2 < 128 ∨ 191 < c2
            · rw [if_pos k4]
              exact ⟨65533, by simp only [unicode_utf8_decodeRuneInStringSlow_h, d2, cond_false, b0', Option.bind_some, f1, d3, g, glo, ghi, f2, d4, b1', c1b, decide_eq_false k2, d5, b2', c2b, decide_eq_true k4, cond_true]; rfl⟩
            · rw [if_neg k4]
              by_cases k5 : sz ≤ 3
              · rw [if_pos k5]
                have d6 : decide ((sz : Int) ≤ 3) = true := decide_eq_true (by omega)
                exact ⟨_, by simp only [unicode_utf8_decodeRuneInStringSlow_h, d2, cond_false, b0', Option.bind_some, f1, d3, g, glo, ghi, f2, d4, b1', c1b, decide_eq_false k2, d5, b2', c2b, decide_eq_false k4, d6, cond_true]; rfl⟩
              · rw [if_neg k5]
                have d6 : decide ((sz : Int) ≤ 3) = false := decide_eq_false (by omega)
                have b3' : byt t 3 = some (c3 : Int) := hb3 (by omega)
                by_cases k6 : c3 < 128 ∨ 191 < c3
                · rw [if_pos k6]
                  exact ⟨65533, by simp only [unicode_utf8_decodeRuneInStringSlow_h, d2, cond_false, b0', Option.bind_some, f1, d3, g, glo, ghi, f2, d4, b1', c1b, decide_eq_false k2, d5, b2', c2b, decide_eq_false k4, d6, b3', decide_eq_true k6, cond_true]; rfl⟩
                · rw [if_neg k6]
                  exact ⟨_, by simp only [unicode_utf8_decodeRuneInStringSlow_h, d2, cond_false, b0', Option.bind_some, f1, d3, g, glo, ghi, f2, d4, b1', c1b, decide_eq_false k2, d5, b2', c2b, decide_eq_false k4, d6, b3', decide_eq_false k6]; rfl⟩
    · have : (Lib.decodeN (s.size - i) c0 c1 c2 c3).2 = 1 := by
        rcases f4 with f4 | f4
        · rw [Lib.ascii_eq _ _ _ _ _ f4]
        · rw [Lib.bad_eq _ _ _ _ _ h0 f4]
      rw [this]
      have d3 : decide ((240 : Int) ≤ (Lib.firstT c0 : Int)) = true := decide_eq_true (by omega)
      exact ⟨_, by simp only [unicode_utf8_decodeRuneInStringSlow_h, d2, cond_false, b0', Option.bind_some, f1, d3, cond_true]; rfl⟩
end Go.Proofs.YtijkipikefpopaaDoor
