/- What is written: quoted texts, numbers, values: the program's bytes and the reference's. -/
import Derived.Test.YtijkipikefpopaaDoorRd
import Derived.Test.YtijkipikefpopaaDoorOpg
import Derived.Lib.DecodeNEq
import Derived.Lib.ItoaNum
set_option linter.unusedVariables false
set_option linter.unusedSimpArgs false
set_option maxRecDepth 10000
namespace Go.Proofs.YtijkipikefpopaaDoor
open Go Go.RowKit

def iB (l : List UInt8) : List Int := l.map fun c => (c.toNat : Int)
def mkB (l : List UInt8) : ByteArray := ⟨l.toArray⟩
theorem mkB_data (l : List UInt8) : (mkB l).data.toList = l := by simp [mkB]
theorem mkB_size (l : List UInt8) : (mkB l).size = l.length := by rw [size_list, mkB_data]
theorem mkB_append (a b : List UInt8) : mkB a ++ mkB b = mkB (a ++ b) := by
  apply ba_ext
  rw [mkB_data]
  simp [ByteArray.data_append, mkB]
theorem toBA_iB (l : List UInt8) : toBA (iB l) = mkB l := by
  have := toBA_map (mkB l)
  rwa [mkB_data] at this
theorem iB_append (a b : List UInt8) : iB a ++ iB b = iB (a ++ b) := by simp [iB]
theorem iB_len (l : List UInt8) : (iB l).length = l.length := by simp [iB]
theorem ofBA_mkB (l : List UInt8) : ofBA (mkB l) = iB l := by unfold ofBA iB; rw [mkB_data]
theorem iB_one (c : UInt8) : ([(c.toNat : Int)] : List Int) = iB [c] := rfl
theorem wb_eq {acc : List UInt8} {c : UInt8} {n : Int} (hn : n = (c.toNat : Int)) (h : acc.length ≤ 4000000000) : strings_Builder_WriteByte_h (iB acc) n = some (iB (acc ++ [c])) := by
  subst hn
  have := app_eq (b := 1) (xs := iB acc) (ys := [(c.toNat : Int)]) (by rw [iB_len]; simp; omega)
  simp only [strings_Builder_WriteByte_h, strings_Builder_copyCheck_h, Option.bind_some, this]
  rw [iB_one, iB_append]
theorem ws_eq {acc l : List UInt8} {s : ByteArray} (hs : s = mkB l) (h : acc.length ≤ 4000000000) (hl : l.length ≤ 4000000000) : strings_Builder_WriteString_h (iB acc) s = some (iB (acc ++ l)) := by
  subst hs
  have : appS (iB acc) (mkB l) = some (iB (acc ++ l)) := by
    unfold appS
    rw [iB_len, mkB_size, if_pos (by omega), ofBA_mkB, iB_append]
  simp only [strings_Builder_WriteString_h, strings_Builder_copyCheck_h, Option.bind_some, this]
/-! hexadecimal digits -/
theorem hex_wr (c : UInt8) : byt (⟨#[48, 49, 50, 51, 52, 53, 54, 55, 56, 57, 97, 98, 99, 100, 101, 102]⟩ : ByteArray) (Int.fdiv (c.toNat : Int) (2 ^ (4 : Nat))) = some ((hexD (c.toNat / 16)).toNat : Int) ∧
    byt (⟨#[48, 49, 50, 51, 52, 53, 54, 55, 56, 57, 97, 98, 99, 100, 101, 102]⟩ : ByteArray) (iand .u8 (c.toNat : Int) 15) = some ((hexD (c.toNat % 16)).toNat : Int) ∧
    synthesisref02_hex (w64 (Int.tdiv (c.toNat : Int) 16)) = some (mkB [hexD (c.toNat / 16)]) ∧ synthesisref02_hex (Int.tmod (c.toNat : Int) 16) = some (mkB [hexD (c.toNat % 16)]) := by
  have key : ∀ n : Fin 256, byt (⟨#[48, 49, 50, 51, 52, 53, 54, 55, 56, 57, 97, 98, 99, 100, 101, 102]⟩ : ByteArray) (Int.fdiv ((n.val : Nat) : Int) (2 ^ (4 : Nat))) = some ((hexD (n.val / 16)).toNat : Int) ∧
    byt (⟨#[48, 49, 50, 51, 52, 53, 54, 55, 56, 57, 97, 98, 99, 100, 101, 102]⟩ : ByteArray) (iand .u8 ((n.val : Nat) : Int) 15) = some ((hexD (n.val % 16)).toNat : Int) := by decide
  have key2 : ∀ n : Fin 256, synthesisref02_hex (w64 (Int.tdiv ((n.val : Nat) : Int) 16)) = some (mkB [hexD (n.val / 16)]) ∧ synthesisref02_hex (Int.tmod ((n.val : Nat) : Int) 16) = some (mkB [hexD (n.val % 16)]) := by decide
  have hc := c.toNat_lt
  exact ⟨(key ⟨c.toNat, hc⟩).1, (key ⟨c.toNat, hc⟩).2, (key2 ⟨c.toNat, hc⟩).1, (key2 ⟨c.toNat, hc⟩).2⟩
theorem hexa_eq {acc : List UInt8} {c : UInt8} {n : Int} (hn : n = (c.toNat : Int)) (h : acc.length ≤ 3000000000) : literal_hexadecimal_h (iB acc) n = some (iB (acc ++ [hexD (c.toNat / 16), hexD (c.toNat % 16)])) := by
  subst hn
  have h1 := wb_eq (acc := acc) (c := hexD (c.toNat / 16)) rfl (by omega)
  have h2 := wb_eq (acc := acc ++ [hexD (c.toNat / 16)]) (c := hexD (c.toNat % 16)) rfl (by simp; omega)
  rw [List.append_assoc] at h2
  simp only [literal_hexadecimal_h, (hex_wr c).1, (hex_wr c).2.1, Option.bind_some, h1, h2]
  rfl
def hex4 (c : UInt8) : List UInt8 := [92, 120, hexD (c.toNat / 16), hexD (c.toNat % 16)]
theorem hex_loop (v : List UInt8) (hv : v.length ≤ 1000000) : ∀ (k m : Nat) (acc : List UInt8) (n : Nat), m + k = v.length → k < n → acc.length + 4 * k ≤ 2000000000 →
    loopN (literal_Quote_h_l1 (iB v)) n ((m : Int), iB acc) = some (iB (acc ++ (v.drop m).flatMap hex4)) := by
  intro k
  induction k with
  | zero =>
    intro m acc n hm hn hl
    obtain ⟨n, rfl⟩ : ∃ j, n = j + 1 := ⟨n - 1, by omega⟩
    rw [List.drop_eq_nil_of_le (by omega)]
    refine lp_out ?_
    have : decide ((m : Int) < ((iB v).length : Int)) = false := decide_eq_false (by rw [iB_len]; omega)
    simp only [literal_Quote_h_l1, this, cond_false]
    simp
  | succ k ih =>
    intro m acc n hm hn hl
    obtain ⟨n, rfl⟩ : ∃ j, n = j + 1 := ⟨n - 1, by omega⟩
    have hml : m < v.length := by omega
    rw [List.drop_eq_getElem_cons hml, List.flatMap_cons, ← List.append_assoc, ← ih (m + 1) (acc ++ hex4 v[m]) n (by omega) (by omega) (by simp [hex4]; omega)]
    refine lp_go ?_
    have d1 : decide ((m : Int) < ((iB v).length : Int)) = true := decide_eq_true (by rw [iB_len]; omega)
    have e1 : idx (iB v) (m : Int) = some (v[m].toNat : Int) := by rw [idx_nat]; simp [iB, hml]
    have h1 := ws_eq (acc := acc) (l := [92, 120]) (s := ⟨#[92, 120]⟩) rfl (by omega) (by decide)
    have h2 := hexa_eq (acc := acc ++ [92, 120]) (c := v[m]) rfl (by simp; omega)
    rw [List.append_assoc] at h2
    simp only [literal_Quote_h_l1, d1, cond_true, e1, Option.bind_some, h1, h2, w64s m (by omega)]
    rfl
/-! runes -/
theorem get_at {s : ByteArray} {j : Nat} (h : j < s.size) : (s.get! j).toNat = (s.data.toList[j]'(by rw [← size_list]; exact h)).toNat := by
  obtain ⟨a⟩ := s
  have h' : j < a.size := h
  show (a[j]!).toNat = _
  rw [getElem!_pos a j h']
  rfl
theorem decodeN_hi (n b0 b1 b2 b3 : Nat) (hn : 1 ≤ n) (h0 : 128 ≤ b0) : 128 ≤ (Lib.decodeN n b0 b1 b2 b3).1 ∧ 1 ≤ (Lib.decodeN n b0 b1 b2 b3).2 ∧ (Lib.decodeN n b0 b1 b2 b3).2 ≤ n ∧ (Lib.decodeN n b0 b1 b2 b3).2 ≤ 4 ∧ (2 ≤ (Lib.decodeN n b0 b1 b2 b3).2 → 128 ≤ b1) ∧ (3 ≤ (Lib.decodeN n b0 b1 b2 b3).2 → 128 ≤ b2) ∧ (4 ≤ (Lib.decodeN n b0 b1 b2 b3).2 → 128 ≤ b3) := by
  unfold Lib.decodeN
  repeat' split
  all_goals refine ⟨?_, ?_, ?_, ?_, ?_, ?_, ?_⟩
  all_goals (simp only; omega)
theorem first_ok : ∀ n : Fin 256, idx gt0 ((n.val : Nat) : Int) = some (Lib.firstT n.val : Int) ∧ w64 (iand .u8 (Lib.firstT n.val : Int) 7) = ((Lib.firstT n.val % 8 : Nat) : Int) ∧
    (Lib.firstT n.val < 240 → (idx gt1 (Int.fdiv (Lib.firstT n.val : Int) (2 ^ (4 : Nat)))).map (fun r => (r.f_lo, r.f_hi)) = some ((Lib.accLo (Lib.firstT n.val / 16) : Int), (Lib.accHi (Lib.firstT n.val / 16) : Int))) ∧ (Lib.firstT n.val < 240 ∨ Lib.firstT n.val = 240 ∨ Lib.firstT n.val = 241) ∧ (Lib.firstT n.val < 240 → 2 ≤ Lib.firstT n.val % 8 ∧ Lib.firstT n.val % 8 ≤ 4) := by decide
theorem slow_w (n b0 b1 b2 b3 sz lo hi : Nat) : (Lib.slowN n b0 b1 b2 b3 sz lo hi).2 = if n < sz then 1 else if b1 < lo ∨ hi < b1 then 1 else if sz ≤ 2 then 2 else if b2 < 128 ∨ 191 < b2 then 1 else if sz ≤ 3 then 3 else if b3 < 128 ∨ 191 < b3 then 1 else 4 := by
  unfold Lib.slowN
  repeat' split
  all_goals first | rfl | omega
theorem rune_eq {s : ByteArray} (hs : s.size ≤ 1000000) {i : Nat} (hi : i < s.size) : ∃ t r, cutS s (i : Int) (s.size : Int) = some t ∧ unicode_utf8_DecodeRuneInString_h t = some (r, ((Utf8.decode s i).2 : Int)) := by
  have hd : (s.extract i s.size).data.toList = s.data.toList.drop i := by
    rw [ext_list, List.take_of_length_le (by rw [← size_list]; exact Nat.le_refl _)]
  generalize ht : s.extract i s.size = t at hd
  have hsz : t.size = s.size - i := by rw [size_list, hd, List.length_drop, ← size_list]
  have hcut : cutS s (i : Int) (s.size : Int) = some t := by unfold cutS; rw [if_pos ⟨by omega, by omega, by omega⟩, ← ht]; rfl
  have hb : ∀ k : Nat, i + k < s.size → byt t (k : Int) = some ((s.get! (i + k)).toNat : Int) := fun k hk => by
    rw [byt_list, hd, List.getElem?_drop, List.getElem?_eq_getElem (by rw [← size_list]; exact hk), get_at hk]
    rfl
  have hlt : ∀ k : Nat, (s.get! k).toNat < 256 := fun k => UInt8.toNat_lt _
  rw [Lib.decode_at]
  have b0 := hb 0 (by omega)
  have hb1 := hb 1
  have hb2 := hb 2
  have hb3 := hb 3
  rw [Nat.add_zero] at b0
  have h0 := hlt i
  have h1 := hlt (i + 1)
  have h2 := hlt (i + 2)
  have h3 := hlt (i + 3)
  generalize (s.get! i).toNat = c0 at *
  generalize (s.get! (i + 1)).toNat = c1 at *
  generalize (s.get! (i + 2)).toNat = c2 at *
  generalize (s.get! (i + 3)).toNat = c3 at *
  refine ⟨t, ?_⟩
  have hne : (!(t.toList == (⟨#[]⟩ : ByteArray).toList)) = true := by
    rw [Bool.not_eq_true', beq_eq_false_iff_ne]
    intro h
    have := congrArg ByteArray.size (bytesList_inj h)
    rw [hsz, show (⟨#[]⟩ : ByteArray).size = 0 from rfl] at this
    omega
  have b0' : byt t 0 = some (c0 : Int) := b0
  by_cases ha : c0 < 128
  · have d1 : decide ((c0 : Int) < 128) = true := decide_eq_true (by omega)
    have : Lib.decodeN (s.size - i) c0 c1 c2 c3 = (c0, 1) := by unfold Lib.decodeN; rw [if_pos ha]
    rw [this]
    exact ⟨_, hcut, by simp only [unicode_utf8_DecodeRuneInString_h, hne, cond_true, b0', Option.bind_some, d1]; rfl⟩
  · have d1 : decide ((c0 : Int) < 128) = false := decide_eq_false (by omega)
    obtain ⟨f1, f2, f3, f4, f5⟩ := first_ok ⟨c0, h0⟩
    simp only at f1 f2 f3 f4 f5
    have d2 : decide ((t.size : Int) < 1) = false := decide_eq_false (by omega)
    have goal : ∀ r, (∃ a, unicode_utf8_decodeRuneInStringSlow_h t = some (a, (r : Int))) → ∃ a, cutS s (i : Int) (s.size : Int) = some t ∧ unicode_utf8_DecodeRuneInString_h t = some (a, (r : Int)) := fun r ⟨a, h⟩ =>
      ⟨a, hcut, by simp only [unicode_utf8_DecodeRuneInString_h, hne, cond_true, b0', Option.bind_some, d1, cond_false, h]⟩
    refine goal _ ?_
    rcases f4 with f4 | f4
    · have e := Lib.slow_eq (s.size - i) c0 c1 c2 c3 (by omega) h1 h2 h3 f4
      rw [← e, slow_w]
      have d3 : decide ((240 : Int) ≤ (Lib.firstT c0 : Int)) = false := decide_eq_false (by omega)
      obtain ⟨v4, g, g'⟩ := Option.map_eq_some_iff.1 (f3 f4)
      obtain ⟨glo, ghi⟩ := Prod.mk.inj g'
      obtain ⟨g1, g2⟩ := f5 f4
      generalize Lib.firstT c0 % 8 = sz at *
      generalize Lib.accLo (Lib.firstT c0 / 16) = lo at *
      generalize Lib.accHi (Lib.firstT c0 / 16) = hi' at *
      by_cases k1 : s.size - i < sz
      · rw [if_pos k1]
        have d4 : decide ((t.size : Int) < (sz : Int)) = true := decide_eq_true (by omega)
        exact ⟨65533, by simp only [unicode_utf8_decodeRuneInStringSlow_h, d2, cond_false, b0', Option.bind_some, f1, d3, g, glo, ghi, f2, d4, cond_true]; rfl⟩
      · rw [if_neg k1]
        have d4 : decide ((t.size : Int) < (sz : Int)) = false := decide_eq_false (by omega)
        have b1' : byt t 1 = some (c1 : Int) := hb1 (by omega)
        have c1b : (bif (decide ((c1 : Int) < (lo : Int))) then (some (true)) else (some ((decide ((hi' : Int) < (c1 : Int))))) : Option Bool) = some (decide (c1 < lo ∨ hi' < c1)) := by
          by_cases q : c1 < lo
          · rw [decide_eq_true (show (c1 : Int) < (lo : Int) by omega), decide_eq_true (show c1 < lo ∨ hi' < c1 from .inl q)]; rfl
          · rw [decide_eq_false (show ¬ (c1 : Int) < (lo : Int) by omega), cond_false]
            congr 1
            by_cases q' : hi' < c1
            · rw [decide_eq_true (show (hi' : Int) < (c1 : Int) by omega), decide_eq_true (show c1 < lo ∨ hi' < c1 from .inr q')]
            · rw [decide_eq_false (show ¬ (hi' : Int) < (c1 : Int) by omega), decide_eq_false (by omega)]
        by_cases k2 : c1 < lo ∨ hi' < c1
        · rw [if_pos k2]
          exact ⟨65533, by simp only [unicode_utf8_decodeRuneInStringSlow_h, d2, cond_false, b0', Option.bind_some, f1, d3, g, glo, ghi, f2, d4, b1', c1b, decide_eq_true k2, cond_true]; rfl⟩
        · rw [if_neg k2]
          by_cases k3 : sz ≤ 2
          · rw [if_pos k3]
            have d5 : decide ((sz : Int) ≤ 2) = true := decide_eq_true (by omega)
            exact ⟨_, by simp only [unicode_utf8_decodeRuneInStringSlow_h, d2, cond_false, b0', Option.bind_some, f1, d3, g, glo, ghi, f2, d4, b1', c1b, decide_eq_false k2, d5, cond_true]; rfl⟩
          · rw [if_neg k3]
            have d5 : decide ((sz : Int) ≤ 2) = false := decide_eq_false (by omega)
            have b2' : byt t 2 = some (c2 : Int) := hb2 (by omega)
            have c2b : ∀ c : Nat, (bif (decide ((c : Int) < 128)) then (some (true)) else (some ((decide (191 < (c : Int))))) : Option Bool) = some (decide (c < 128 ∨ 191 < c)) := fun c => by
              by_cases q : c < 128
              · rw [decide_eq_true (show (c : Int) < 128 by omega), decide_eq_true (show c < 128 ∨ 191 < c from .inl q)]; rfl
              · rw [decide_eq_false (show ¬ (c : Int) < 128 by omega), cond_false]
                congr 1
                by_cases q' : 191 < c
                · rw [decide_eq_true (show 191 < (c : Int) by omega), decide_eq_true (show c < 128 ∨ 191 < c from .inr q')]
                · rw [decide_eq_false (show ¬ 191 < (c : Int) by omega), decide_eq_false (by omega)]
            by_cases k4 : c2 < 128 ∨ 191 < c2
            · rw [if_pos k4]
              exact ⟨65533, by simp only [unicode_utf8_decodeRuneInStringSlow_h, d2, cond_false, b0', Option.bind_some, f1, d3, g, glo, ghi, f2, d4, b1', c1b, decide_eq_false k2, d5, b2', c2b, decide_eq_true k4, cond_true]; rfl⟩
            · rw [if_neg k4]
              by_cases k5 : sz ≤ 3
              · rw [if_pos k5]
                have d6 : decide ((sz : Int) ≤ 3) = true := decide_eq_true (by omega)
                exact ⟨_, by simp only [unicode_utf8_decodeRuneInStringSlow_h, d2, cond_false, b0', Option.bind_some, f1, d3, g, glo, ghi, f2, d4, b1', c1b, decide_eq_false k2, d5, b2', c2b, decide_eq_false k4, d6, cond_true]; rfl⟩
              · rw [if_neg k5]
                have d6 : decide ((sz : Int) ≤ 3) = false := decide_eq_false (by omega)
                have b3' : byt t 3 = some (c3 : Int) := hb3 (by omega)
                by_cases k6 : c3 < 128 ∨ 191 < c3
                · rw [if_pos k6]
                  exact ⟨65533, by simp only [unicode_utf8_decodeRuneInStringSlow_h, d2, cond_false, b0', Option.bind_some, f1, d3, g, glo, ghi, f2, d4, b1', c1b, decide_eq_false k2, d5, b2', c2b, decide_eq_false k4, d6, b3', decide_eq_true k6, cond_true]; rfl⟩
                · rw [if_neg k6]
                  exact ⟨_, by simp only [unicode_utf8_decodeRuneInStringSlow_h, d2, cond_false, b0', Option.bind_some, f1, d3, g, glo, ghi, f2, d4, b1', c1b, decide_eq_false k2, d5, b2', c2b, decide_eq_false k4, d6, b3', decide_eq_false k6]; rfl⟩
    · have : (Lib.decodeN (s.size - i) c0 c1 c2 c3).2 = 1 := by
        rcases f4 with f4 | f4
        · rw [Lib.ascii_eq _ _ _ _ _ f4]
        · rw [Lib.bad_eq _ _ _ _ _ h0 f4]
      rw [this]
      have d3 : decide ((240 : Int) ≤ (Lib.firstT c0 : Int)) = true := decide_eq_true (by omega)
      exact ⟨_, by simp only [unicode_utf8_decodeRuneInStringSlow_h, d2, cond_false, b0', Option.bind_some, f1, d3, cond_true]; rfl⟩
end Go.Proofs.YtijkipikefpopaaDoor
set_option linter.unusedVariables false
set_option linter.unusedSimpArgs false
set_option maxRecDepth 10000
namespace Go.Proofs.YtijkipikefpopaaDoor
open Go Go.RowKit

theorem cut_mk {s : ByteArray} {i w : Nat} (h : i + w ≤ s.size) : cutS s (i : Int) ((i + w : Nat) : Int) = some (mkB ((s.data.toList.drop i).take w)) := by
  unfold cutS
  rw [if_pos ⟨by omega, by omega, by omega⟩]
  congr 1
  apply ba_ext
  rw [mkB_data, show ((i : Int).toNat) = i from rfl, show (((i + w : Nat) : Int).toNat) = i + w from rfl, ext_list, List.drop_take]
  congr 1
  omega
theorem s2b_mk {l : List UInt8} (h : l.length ≤ 4000000000) : s2b (mkB l) = some (iB l) := by
  unfold s2b
  rw [mkB_size, if_pos (by omega), ofBA_mkB]
theorem dec_ok {s : ByteArray} {i : Nat} (hi : i < s.size) (c : UInt8) (hc : s.data.toList[i]? = some c) : (c.toNat < 128 ∧ Utf8.decode s i = (c.toNat, 1)) ∨
    (128 ≤ c.toNat ∧ 128 ≤ (Utf8.decode s i).1 ∧ 1 ≤ (Utf8.decode s i).2 ∧ i + (Utf8.decode s i).2 ≤ s.size ∧ ∀ x ∈ (s.data.toList.drop i).take (Utf8.decode s i).2, 128 ≤ x.toNat) := by
  have hg : ∀ k : Nat, i + k < s.size → ∀ x, s.data.toList[i + k]? = some x → (s.get! (i + k)).toNat = x.toNat := fun k hk x hx => by
    rw [get_at hk]
    rw [List.getElem?_eq_getElem (by rw [← size_list]; exact hk)] at hx
    rw [Option.some.inj hx]
  have h0 := hg 0 hi c hc
  rw [Nat.add_zero] at h0
  rw [Lib.decode_at, h0]
  by_cases h : c.toNat < 128
  · exact .inl ⟨h, by unfold Lib.decodeN; rw [if_pos h]⟩
  · obtain ⟨k1, k2, k3, k4, k5, k6, k7⟩ := decodeN_hi (s.size - i) c.toNat (s.get! (i + 1)).toNat (s.get! (i + 2)).toNat (s.get! (i + 3)).toNat (by omega) (by omega)
    refine .inr ⟨by omega, k1, k2, by omega, fun x hx => ?_⟩
    obtain ⟨k, hk⟩ := List.mem_iff_getElem?.1 hx
    rw [List.getElem?_take] at hk
    split at hk
    · rename_i hkw
      rw [List.getElem?_drop] at hk
      have hks : i + k < s.size := by omega
      have := hg k hks x hk
      rcases (by omega : k = 0 ∨ k = 1 ∨ k = 2 ∨ k = 3) with rfl | rfl | rfl | rfl
      · rw [Nat.add_zero, hc] at hk; cases hk; omega
      · rw [← this]; exact k5 (by omega)
      · rw [← this]; exact k6 (by omega)
      · rw [← this]; exact k7 (by omega)
    · cases hk
theorem esc_hex {c : UInt8} (h1 : c.toNat ≠ 34) (h2 : c.toNat ≠ 92) (h3 : ¬ (32 ≤ c.toNat ∧ c.toNat ≤ 126)) : escB c = hex4 c := by
  unfold escB hex4
  rw [if_neg (by rintro (rfl | rfl) <;> simp_all), if_neg (by unfold plainB; simpa using h3)]
theorem esc_plain {c : UInt8} (h1 : c.toNat ≠ 34) (h2 : c.toNat ≠ 92) (h3 : 32 ≤ c.toNat ∧ c.toNat ≤ 126) : escB c = [c] := by
  unfold escB
  rw [if_neg (by rintro (rfl | rfl) <;> simp_all), if_pos (by unfold plainB; simpa using h3)]
theorem esc_q {c : UInt8} (h : c.toNat = 34 ∨ c.toNat = 92) : escB c = [92, c] := by
  unfold escB
  rw [if_pos]
  rcases h with h | h
  · exact .inl (UInt8.toNat.inj h)
  · exact .inr (UInt8.toNat.inj h)
theorem flat_hex {l : List UInt8} (h : ∀ x ∈ l, escB x = hex4 x) : l.flatMap escB = l.flatMap hex4 := by
  induction l with
  | nil => rfl
  | cons x l ih => rw [List.flatMap_cons, List.flatMap_cons, h x (List.mem_cons_self ..), ih fun y hy => h y (List.mem_cons_of_mem _ hy)]
theorem wu8_nat (c : UInt8) : wu8 ((c.toNat : Nat) : Int) = (c.toNat : Int) := by
  have := c.toNat_lt
  simp [wu8, IntKind.wrap, IntKind.signed, IntKind.bits, IntKind.min, IntKind.max]
  omega
theorem quote_loop {s : ByteArray} (hs : s.size ≤ 100000) : ∀ (d i : Nat) (acc : List UInt8) (n : Nat), s.size - i = d → i ≤ s.size → d < n → acc.length + 4 * d ≤ 1000000000 →
    loopN (literal_Quote_h_l2 s) n (iB acc, i) = some (iB (acc ++ (s.data.toList.drop i).flatMap escB)) := by
  intro d
  induction d using Nat.strongRecOn with
  | ind d ih =>
    intro i acc n hd hi hn hl
    obtain ⟨n, rfl⟩ : ∃ m, n = m + 1 := ⟨n - 1, by omega⟩
    by_cases h : i < s.size
    · have hil : i < s.data.toList.length := by rw [← size_list]; exact h
      have hdr := List.drop_eq_getElem_cons hil
      have hget : s.data.toList[i]? = some s.data.toList[i] := List.getElem?_eq_getElem hil
      generalize s.data.toList[i] = c at hdr hget
      have d1 : decide (i < ByteArray.size s) = true := decide_eq_true h
      have hdec := dec_ok h c hget
      by_cases hq : c.toNat = 34 ∨ c.toNat = 92
      · obtain ⟨g1, g2⟩ : c.toNat < 128 ∧ Utf8.decode s i = (c.toNat, 1) := by
          rcases hdec with hdec | hdec
          · exact hdec
          · omega
        rw [hdr, List.flatMap_cons, esc_q hq, ← List.append_assoc, ← ih (d - 1) (by omega) (i + 1) (acc ++ [92, c]) n (by omega) (by omega) (by omega) (by simp; omega)]
        refine lp_go ?_
        have e1 : (bif (((c.toNat : Nat) : Int) == 34) then (some (true)) else (some (((c.toNat : Nat) : Int) == 92)) : Option Bool) = some true := by rcases hq with hq | hq <;> rw [hq] <;> rfl
        have w1 := wb_eq (acc := acc) (c := 92) (n := 92) rfl (by omega)
        have w2 := wb_eq (acc := acc ++ [92]) (c := c) rfl (by simp; omega)
        rw [List.append_assoc] at w2
        simp only [literal_Quote_h_l2, d1, cond_true, g2, e1, Option.bind_some, w1, wu8_nat, w2]
        rfl
      · have e1 : ∀ r : Nat, r ≠ 34 → r ≠ 92 → (bif (((r : Nat) : Int) == 34) then (some (true)) else (some (((r : Nat) : Int) == 92)) : Option Bool) = some false := fun r h1 h2 => by
          rw [show ((r : Int) == 34) = false by rw [beq_eq_false_iff_ne]; omega, show ((r : Int) == 92) = false by rw [beq_eq_false_iff_ne]; omega]; rfl
        by_cases hp : 32 ≤ c.toNat ∧ c.toNat ≤ 126
        · obtain ⟨g1, g2⟩ : c.toNat < 128 ∧ Utf8.decode s i = (c.toNat, 1) := by
            rcases hdec with hdec | hdec
            · exact hdec
            · omega
          have hpl : plainI (c.toNat : Int) = true := by unfold plainI; simp; omega
          rw [hdr, List.flatMap_cons, esc_plain (by omega) (by omega) hp, ← List.append_assoc, ← ih (d - 1) (by omega) (i + 1) (acc ++ [c]) n (by omega) (by omega) (by omega) (by simp; omega)]
          refine lp_go ?_
          have w2 := wb_eq (acc := acc) (c := c) rfl (by omega)
          simp only [literal_Quote_h_l2, d1, cond_true, g2, e1 c.toNat (by omega) (by omega), Option.bind_some, cond_false, plain_eq, hpl, wu8_nat, w2]
        · obtain ⟨t, r, ht1, ht2⟩ := rune_eq (by omega) h
          -- what is escaped
          obtain ⟨q1, q2, q3, q4, q5⟩ : (Utf8.decode s i).1 ≠ 34 ∧ (Utf8.decode s i).1 ≠ 92 ∧ plainI ((Utf8.decode s i).1 : Int) = false ∧ (1 ≤ (Utf8.decode s i).2 ∧ i + (Utf8.decode s i).2 ≤ s.size) ∧ ∀ x ∈ (s.data.toList.drop i).take (Utf8.decode s i).2, escB x = hex4 x := by
            rcases hdec with ⟨g1, g2⟩ | ⟨g1, g2, g3, g4, g5⟩
            · rw [g2]
              refine ⟨by omega, by omega, by unfold plainI; simp; omega, ⟨by omega, by show i + 1 ≤ _; omega⟩, fun x hx => ?_⟩
              rw [hdr] at hx
              simp at hx
              rw [hx]
              exact esc_hex (by omega) (by omega) hp
            · exact ⟨by omega, by omega, by unfold plainI; simp; omega, ⟨g3, g4⟩, fun x hx => esc_hex (by have := g5 x hx; omega) (by have := g5 x hx; omega) (by have := g5 x hx; omega)⟩
          obtain ⟨r', w, hrw⟩ : ∃ r' w, Utf8.decode s i = (r', w) := ⟨_, _, rfl⟩
          rw [hrw] at q1 q2 q3 q4 q5 ht2
          simp only at q1 q2 q3 q4 q5 ht2
          have hsplit : s.data.toList.drop i = (s.data.toList.drop i).take w ++ s.data.toList.drop (i + w) := by
            rw [← List.drop_drop, List.take_append_drop]
          have hlen : ((s.data.toList.drop i).take w).length = w := by rw [List.length_take, List.length_drop, ← size_list]; omega
          have hflat : (((s.data.toList.drop i).take w).flatMap hex4).length ≤ 4 * w := by
            have gen : ∀ l : List UInt8, (l.flatMap hex4).length = 4 * l.length := fun l => by
              induction l with
              | nil => rfl
              | cons x l ih => rw [List.flatMap_cons, List.length_append, ih, List.length_cons]; simp [hex4]; omega
            rw [gen, hlen]
            exact Nat.le_refl _
          rw [hsplit, List.flatMap_append, flat_hex q5, ← List.append_assoc, ← ih (d - w) (by omega) (i + w) (acc ++ ((s.data.toList.drop i).take w).flatMap hex4) n (by omega) (by omega) (by omega) (by simp only [List.length_append]; omega)]
          refine lp_go ?_
          have ew : w64 ((i : Int) + (w : Int)) = ((i + w : Nat) : Int) := by rw [← w64n (i + w) (by omega)]; congr 1
          have hx := hex_loop ((s.data.toList.drop i).take w) (by omega) w 0 acc fuel (by omega) (lt_fuel (by omega)) (by omega)
          rw [List.drop_zero] at hx
          simp only [literal_Quote_h_l2, d1, cond_true, hrw, e1 r' q1 q2, Option.bind_some, cond_false, plain_eq, q3, ht1, ht2, ew, cut_mk q4.2, s2b_mk (l := (s.data.toList.drop i).take w) (by omega)]
          rw [show (0 : Int) = ((0 : Nat) : Int) from rfl, hx]
          rfl
    · rw [List.drop_eq_nil_of_le (by rw [← size_list]; omega)]
      refine lp_out ?_
      have d1 : decide (i < ByteArray.size s) = false := decide_eq_false h
      simp only [literal_Quote_h_l2, d1, cond_false]
      simp
theorem esc_len (c : UInt8) : (escB c).length ≤ 4 := by unfold escB; split <;> (try split) <;> simp
theorem flat_len (l : List UInt8) : (l.flatMap escB).length ≤ 4 * l.length := by
  induction l with
  | nil => exact Nat.le_refl _
  | cons x l ih => rw [List.flatMap_cons, List.length_append, List.length_cons]; have := esc_len x; omega
theorem Quote_eq {s : ByteArray} (hs : s.size ≤ 100000) : literal_Quote_h s = some (mkB (quoteB s.data.toList)) := by
  have h1 := wb_eq (acc := []) (c := 34) (n := 34) rfl (by simp)
  have h2 := quote_loop hs (s.size - 0) 0 [34] fuel rfl (by omega) (lt_fuel (by omega)) (by simp; omega)
  have hl := flat_len s.data.toList
  rw [← size_list] at hl
  rw [List.drop_zero] at h2
  have h3 := wb_eq (acc := [34] ++ s.data.toList.flatMap escB) (c := 34) (n := 34) rfl (by simp only [List.length_append, List.length_singleton]; omega)
  have h1' : strings_Builder_WriteByte_h [] 34 = some (iB [34]) := h1
  simp only [literal_Quote_h, h1', Option.bind_some, h2, h3, strings_Builder_String_h, toBA_iB]
  unfold quoteB
  simp
theorem cat_mk {a b : List UInt8} (h : a.length + b.length ≤ 4000000000) : cat (mkB a) (mkB b) = some (mkB (a ++ b)) := by
  rw [cat_eq (by rw [mkB_size, mkB_size]; omega), mkB_append]
theorem rquote_loop {s : ByteArray} (hs : s.size ≤ 100000) : ∀ (d i : Nat) (acc : List UInt8) (n : Nat), i + d = s.size → d < n → acc.length + 4 * d ≤ 1000000000 →
    loopN (synthesisref02_Quote_l1 s) n (mkB acc, (i : Int)) = some (mkB (acc ++ (s.data.toList.drop i).flatMap escB)) := by
  intro d
  induction d with
  | zero =>
    intro i acc n hd hn hl
    obtain ⟨n, rfl⟩ : ∃ m, n = m + 1 := ⟨n - 1, by omega⟩
    rw [List.drop_eq_nil_of_le (by rw [← size_list]; omega)]
    refine lp_out ?_
    have d1 : decide ((i : Int) < (s.size : Int)) = false := decide_eq_false (by omega)
    simp only [synthesisref02_Quote_l1, d1, cond_false]
    simp
  | succ d ih =>
    intro i acc n hd hn hl
    obtain ⟨n, rfl⟩ : ∃ m, n = m + 1 := ⟨n - 1, by omega⟩
    have h : i < s.size := by omega
    obtain ⟨b1, b2, b3⟩ := at_lt h
    generalize s.data.toList[i]'(by rw [← size_list]; exact h) = c at b2 b3
    have hcut : cutS s (i : Int) ((i + 1 : Nat) : Int) = some (mkB [c]) := by rw [cut_mk (by omega), b2]; rfl
    have hw : w64 (c.toNat : Int) = (c.toNat : Int) := by have := c.toNat_lt; exact w64_eq (by omega) (by omega)
    rw [b2, List.flatMap_cons, ← List.append_assoc, ← ih (i + 1) (acc ++ escB c) n (by omega) (by omega) (by have := esc_len c; simp only [List.length_append]; omega)]
    refine lp_go ?_
    by_cases hq : c.toNat = 34 ∨ c.toNat = 92
    · have e1 : (bif ((c.toNat : Int) == 34) then (some (true)) else (some ((c.toNat : Int) == 92)) : Option Bool) = some true := by rcases hq with hq | hq <;> rw [hq] <;> rfl
      have c1 : cat (mkB acc) (⟨#[92]⟩ : ByteArray) = some (mkB (acc ++ [92])) := cat_mk (b := [92]) (by simp; omega)
      have c2 := cat_mk (a := acc ++ [92]) (b := [c]) (by simp; omega)
      rw [List.append_assoc] at c2
      simp only [synthesisref02_Quote_l1, lt_len h, cond_true, b1, b3, Option.bind_some, e1, c1, w64s i (by omega), hcut, c2, esc_q hq]
      rfl
    · have e1 : (bif ((c.toNat : Int) == 34) then (some (true)) else (some ((c.toNat : Int) == 92)) : Option Bool) = some false := by
        rw [show ((c.toNat : Int) == 34) = false by rw [beq_eq_false_iff_ne]; omega, show ((c.toNat : Int) == 92) = false by rw [beq_eq_false_iff_ne]; omega]; rfl
      by_cases hp : 32 ≤ c.toNat ∧ c.toNat ≤ 126
      · have e2 : (bif (decide ((c.toNat : Int) < 32)) then (some (true)) else (some ((decide (126 < (c.toNat : Int))))) : Option Bool) = some false := by
          rw [decide_eq_false (by omega), decide_eq_false (by omega)]; rfl
        simp only [synthesisref02_Quote_l1, lt_len h, cond_true, cond_false, b1, b3, hw, Option.bind_some, e1, e2, w64s i (by omega), hcut, cat_mk (a := acc) (b := [c]) (by simp; omega), esc_plain (show c.toNat ≠ 34 by omega) (by omega) hp]
      · have e2 : (bif (decide ((c.toNat : Int) < 32)) then (some (true)) else (some ((decide (126 < (c.toNat : Int))))) : Option Bool) = some true := by
          by_cases q : c.toNat < 32
          · rw [decide_eq_true (by omega)]; rfl
          · rw [decide_eq_false (by omega), decide_eq_true (by omega)]; rfl
        have c1 : cat (mkB acc) (⟨#[92, 120]⟩ : ByteArray) = some (mkB (acc ++ [92, 120])) := cat_mk (b := [92, 120]) (by simp; omega)
        have c2 := cat_mk (a := acc ++ [92, 120]) (b := [hexD (c.toNat / 16)]) (by simp; omega)
        have c3 := cat_mk (a := acc ++ [92, 120] ++ [hexD (c.toNat / 16)]) (b := [hexD (c.toNat % 16)]) (by simp; omega)
        simp only [synthesisref02_Quote_l1, lt_len h, cond_true, cond_false, b1, b3, hw, Option.bind_some, e1, e2, w64s i (by omega), c1, (hex_wr c).2.2.1, (hex_wr c).2.2.2, c2, c3, esc_hex (show c.toNat ≠ 34 by omega) (by omega) hp]
        simp [hex4]
theorem rQuote_eq {s : ByteArray} (hs : s.size ≤ 100000) : synthesisref02_Quote s = some (mkB (quoteB s.data.toList)) := by
  have h2 := rquote_loop hs s.size 0 [34] fuel (by omega) (lt_fuel (by omega)) (by simp; omega)
  have hl := flat_len s.data.toList
  rw [← size_list] at hl
  rw [List.drop_zero] at h2
  have h2' : loopN (synthesisref02_Quote_l1 s) fuel ((⟨#[34]⟩ : ByteArray), 0) = some (mkB ([34] ++ s.data.toList.flatMap escB)) := h2
  have h3 : cat (mkB ([34] ++ s.data.toList.flatMap escB)) (⟨#[34]⟩ : ByteArray) = some (mkB ([34] ++ s.data.toList.flatMap escB ++ [34])) := cat_mk (b := [34]) (by simp only [List.length_append, List.length_singleton]; omega)
  simp only [synthesisref02_Quote, h2', Option.bind_some, h3]
  unfold quoteB
  simp
/-! numbers -/
theorem decDigits_eq (n : Nat) : Lib.decDigits n = decN n := by
  induction n using Nat.strongRecOn with
  | ind n ih =>
    rw [Lib.decDigits, decN]
    split
    · rfl
    · rw [ih (n / 10) (by omega)]
theorem itoaB_eq {n : Int} (h1 : -9223372036854775808 ≤ n) (h2 : n ≤ 9223372036854775807) : itoaB n 10 = some (mkB (showI n)) := by
  unfold itoaB
  rw [if_pos ⟨rfl, h1, h2⟩]
  congr 1
  unfold mkB Lib.itoa showI
  split
  · rw [decDigits_eq]
  · rw [decDigits_eq, show n.toNat = n.natAbs by omega]
theorem decN_len (n : Nat) (h : n < 100000000000) : (decN n).length ≤ 11 := by
  obtain ⟨d, ds, h1, _, _, _, h5⟩ := decN_ok n
  rw [h1, List.length_cons]
  have := h5 11 (by omega) (by simpa using h)
  omega
theorem digit_ok {m : Int} (h0 : 0 ≤ m) (h1 : m ≤ 9) : toBA [wu8 (w64 (48 + m))] = mkB [UInt8.ofNat (48 + m.toNat)] := by
  rcases (by omega : m = 0 ∨ m = 1 ∨ m = 2 ∨ m = 3 ∨ m = 4 ∨ m = 5 ∨ m = 6 ∨ m = 7 ∨ m = 8 ∨ m = 9) with rfl | rfl | rfl | rfl | rfl | rfl | rfl | rfl | rfl | rfl <;> rfl
theorem dec_loop : ∀ (m : Nat) (tl : List UInt8) (n : Nat), m < 9223372036854775807 → m < n → tl.length + (decN m).length ≤ 1000000 →
    ∃ d : Nat, ∃ t : List UInt8, d ≤ 9 ∧ loopN synthesisref02_Decimal_l1 n ((m : Int), mkB tl) = some ((d : Int), mkB t) ∧ [UInt8.ofNat (48 + d)] ++ t = decN m ++ tl := by
  intro m
  induction m using Nat.strongRecOn with
  | ind m ih =>
    intro tl n hm hn hl
    obtain ⟨n, rfl⟩ : ∃ j, n = j + 1 := ⟨n - 1, by omega⟩
    by_cases h : m < 10
    · have d1 : decide ((10 : Int) ≤ (m : Int)) = false := decide_eq_false (by omega)
      refine ⟨m, tl, by omega, lp_out (by simp only [synthesisref02_Decimal_l1, d1, cond_false]), ?_⟩
      rw [decN, dif_pos h]
    · have d1 : decide ((10 : Int) ≤ (m : Int)) = true := decide_eq_true (by omega)
      have e0 : decN m = decN (m / 10) ++ [UInt8.ofNat (48 + m % 10)] := by rw [decN, dif_neg h]
      rw [e0] at hl ⊢
      simp only [List.length_append, List.length_singleton] at hl
      obtain ⟨d, t, h1, h2, h3⟩ := ih (m / 10) (by omega) (UInt8.ofNat (48 + m % 10) :: tl) n (by omega) (by omega) (by simp; omega)
      refine ⟨d, t, h1, ?_, by rw [h3]; simp⟩
      rw [← h2]
      refine lp_go ?_
      have e1 : Int.tmod (m : Int) 10 = ((m % 10 : Nat) : Int) := rfl
      have e2 : w64 (Int.tdiv (m : Int) 10) = ((m / 10 : Nat) : Int) := by
        rw [show Int.tdiv (m : Int) 10 = ((m / 10 : Nat) : Int) from rfl]
        exact w64_eq (by omega) (by omega)
      have e3 := digit_ok (m := ((m % 10 : Nat) : Int)) (by omega) (by omega)
      have e4 := cat_mk (a := [UInt8.ofNat (48 + m % 10)]) (b := tl) (by simp; omega)
      rw [show (((m % 10 : Nat) : Int)).toNat = m % 10 from rfl] at e3
      simp only [synthesisref02_Decimal_l1, d1, cond_true, e1, e2, e3, Option.bind_some, e4]
      rfl
theorem Decimal_pos (k : Nat) (m : Nat) (h : m < 100000000000) : synthesisref02_Decimal (k + 1) (m : Int) = some (mkB (decN m)) := by
  show synthesisref02_Decimal_b (synthesisref02_Decimal k) (m : Int) = _
  have d1 : decide ((m : Int) < 0) = false := decide_eq_false (by omega)
  have hl := decN_len m h
  obtain ⟨d, t, h1, h2, h3⟩ := dec_loop m [] fuel (by omega) (lt_fuel (by omega)) (by simp; omega)
  have h2' : loopN synthesisref02_Decimal_l1 fuel ((m : Int), (⟨#[]⟩ : ByteArray)) = some ((d : Int), mkB t) := h2
  rw [List.append_nil] at h3
  have e3 := digit_ok (m := (d : Int)) (by omega) (by omega)
  rw [show ((d : Int)).toNat = d from rfl] at e3
  have hl2 := congrArg List.length h3
  simp only [List.length_append, List.length_singleton] at hl2
  simp only [synthesisref02_Decimal_b, d1, cond_false, h2', Option.bind_some, e3, cat_mk (a := [UInt8.ofNat (48 + d)]) (b := t) (by simp; omega), h3]
theorem Decimal_eq {n : Int} (h1 : -1000000 ≤ n) (h2 : n ≤ 1000000) : synthesisref02_Decimal fuel n = some (mkB (showI n)) := by
  rw [fuel_succ]
  unfold showI
  by_cases h : n < 0
  · rw [if_pos h]
    show synthesisref02_Decimal_b (synthesisref02_Decimal 18446744073709551615) n = _
    have d1 : decide (n < 0) = true := decide_eq_true h
    have ew : w64 (0 - n) = (n.natAbs : Int) := by rw [show 0 - n = (n.natAbs : Int) by omega]; exact w64_eq (by omega) (by omega)
    have hp := Decimal_pos 18446744073709551614 n.natAbs (by omega)
    have hl := decN_len n.natAbs (by omega)
    have hc : cat (⟨#[45]⟩ : ByteArray) (mkB (decN n.natAbs)) = some (mkB ([45] ++ decN n.natAbs)) := cat_mk (a := [45]) (by simp; omega)
    simp only [synthesisref02_Decimal_b, d1, cond_true, ew, hp, Option.bind_some, hc]
    rfl
  · rw [if_neg h]
    have := Decimal_pos 18446744073709551615 n.natAbs (by omega)
    rwa [show ((n.natAbs : Nat) : Int) = n by omega] at this
end Go.Proofs.YtijkipikefpopaaDoor
