/- A trimmed language; GrammarTrimmed. -/
import Derived.Test.YtfhmljjkhjifeaaGreatDoorTl
import Derived.Test.YtfhmljjkhjifeaaGreatDoorEv
set_option linter.unusedVariables false
set_option linter.unusedSimpArgs false
set_option maxRecDepth 100000
namespace Go.Proofs.YtfhmljjkhjifeaaGreatDoor
open Go Go.RowKit

theorem wide_mono {B C : Nat} (h : B ≤ C) : ∀ x : Va, wideV B x → wideV C x
  | .mk t m s l => fun hw => ⟨Nat.le_trans hw.1 h, wides_mono h l hw.2⟩
where
  wides_mono {B C : Nat} (h : B ≤ C) : ∀ l : List Va, wideVs B l → wideVs C l
  | [], _ => trivial
  | x :: l, hw => ⟨wide_mono h x hw.1, wides_mono h l hw.2⟩
theorem scan_iff {α γ : Type} {a b : List α} {g : γ} {step : Int → Option (Int ⊕ (Unit ⊕ γ))} (hl : a.length = b.length) (hn : a.length ≤ 4000000000)
    (hs : ∀ i (h : i < a.length) (h' : i < b.length), ∃ t : Bool, step (i : Int) = (bif t then some (.inr (.inr g)) else some (.inl (w64 ((i : Int) + 1)))) ∧ (t = false ↔ a[i] = b[i])) (he : step (a.length : Int) = some (.inr (.inl ()))) :
    Ev (loopN step fuel 0) fun r => (r = .inl () ∧ a = b) ∨ (r = .inr g ∧ a ≠ b) := by
  refine ev_loop a.length (fun i s => s = (i : Int) ∧ ∀ j (h1 : j < a.length) (h2 : j < b.length), j < i → a[j] = b[j]) (by omega) ⟨rfl, fun j _ _ h => by omega⟩ (fun i s hi ⟨e, h⟩ => ?_) (fun s ⟨e, h⟩ => ?_)
  · subst e
    obtain ⟨t, h1, h2⟩ := hs i hi (by omega)
    rw [h1]
    cases t with
    | true => exact ev_some (.inr ⟨rfl, fun hab => by subst hab; exact absurd (h2.2 rfl) (by decide)⟩)
    | false =>
      refine ev_some ⟨w64s i (by omega), fun j a1 a2 hj => ?_⟩
      by_cases hji : j = i
      · subst hji; exact h2.1 rfl
      · exact h j a1 a2 (by omega)
  · subst e
    rw [he]
    exact ev_some ⟨_, rfl, .inl ⟨rfl, List.ext_getElem hl fun j h1 h2 => h j h1 h2 h1⟩⟩
theorem len_bne {α : Type} {a b : List α} : ((a.length : Int) != (b.length : Int)) = !decide (a.length = b.length) := by
  by_cases h : a.length = b.length
  · rw [h]; simp
  · rw [decide_eq_false h, Bool.not_false, bne_iff_ne]; omega
theorem ints_iff {a b : List Int} (ha : a.length ≤ 4000000000) : Ev (synthesisref11_SameInts a b) fun c => c = true ↔ a = b := by
  unfold synthesisref11_SameInts
  rw [len_bne]
  by_cases h : a.length = b.length
  · rw [decide_eq_true h, Bool.not_true, cond_false]
    refine ev_bind ((scan_iff (g := false) h ha (fun i h1 h2 => ⟨a[i] != b[i], ?_, by simp⟩) ?_).mono fun r hr => ?_)
    · simp only [synthesisref11_SameInts_l1, lt_len h1, cond_true, idx_nat, List.getElem?_eq_getElem h1, List.getElem?_eq_getElem h2, Option.bind_some]
    · simp only [synthesisref11_SameInts_l1, lt_len', cond_false]
    · rcases hr with ⟨rfl, hr⟩ | ⟨rfl, hr⟩
      · exact ev_some (by simp [hr])
      · exact ev_some (by simp [hr])
  · rw [decide_eq_false h, Bool.not_false, cond_true]
    exact ev_some (by simp; intro e; exact h (by rw [e]))
theorem beqB_iff {a b : ByteArray} : (a.toList == b.toList) = true ↔ a = b := by
  rw [beq_iff_eq]
  exact ⟨bytesList_inj, fun h => by rw [h]⟩
theorem sy_beq (x y : Sy) : ((x.name.toList == y.name.toList) && ((x.type == y.type) && true)) = true ↔ x = y := by
  rw [Bool.and_eq_true, Bool.and_true, beqB_iff, beq_iff_eq]
  constructor
  · rintro ⟨h1, h2⟩
    cases x; cases y; simp_all
  · rintro rfl; exact ⟨rfl, rfl⟩
theorem not_iff_false {t : Bool} {p : Prop} (h : t = true ↔ p) : (!t) = false ↔ p := by
  cases t with
  | false => simp at h ⊢; exact h
  | true => simp at h ⊢; exact h
theorem syms_iff {a b : List Sy} (ha : a.length ≤ 4000000000) : Ev (slices_Equal_api_Symbol_api_Symbol a b) fun c => c = true ↔ a = b := by
  unfold slices_Equal_api_Symbol_api_Symbol
  rw [len_bne]
  by_cases h : a.length = b.length
  · rw [decide_eq_true h, Bool.not_true, cond_false]
    refine ev_bind ((scan_iff (g := false) h ha (fun i h1 h2 => ⟨_, ?_, not_iff_false (sy_beq a[i] b[i])⟩) ?_).mono fun r hr => ?_)
    · simp only [slices_Equal_api_Symbol_api_Symbol_l1, lt_len h1, cond_true, idx_nat, List.getElem?_eq_getElem h1, List.getElem?_eq_getElem h2, Option.bind_some]
    · simp only [slices_Equal_api_Symbol_api_Symbol_l1, lt_len', cond_false]
    · rcases hr with ⟨rfl, hr⟩ | ⟨rfl, hr⟩
      · exact ev_some (by simp [hr])
      · exact ev_some (by simp [hr])
  · rw [decide_eq_false h, Bool.not_false, cond_true]
    exact ev_some (by simp; intro e; exact h (by rw [e]))
/-- a rule that can be compared -/
def modR (r : Ru) : Prop := r.args.length ≤ 4000000000 ∧ okV r.const
theorem ru_ext {a b : Ru} (h1 : a.symbol = b.symbol) (h2 : a.kind = b.kind) (h3 : a.input = b.input) (h4 : a.op = b.op) (h5 : a.args = b.args) (h6 : a.const = b.const) : a = b := by
  cases a; cases b; simp_all
theorem sameR_gen {a b : Ru} {S : List Int → List Int → Option Bool} {E : Va → Va → Option Bool} (hS : Ev (S a.args b.args) fun c => c = true ↔ a.args = b.args) (hE : E a.const b.const = some (eqV a.const b.const)) :
    Ev (Option.bind ((bif (a.symbol == b.symbol) then (bif (a.kind == b.kind) then (bif (a.input == b.input) then (bif (a.op.toList == b.op.toList) then (Option.bind (S a.args b.args) fun v1 => (bif v1 then (Option.bind (E a.const b.const) fun v2 => (some (v2))) else (some (false)))) else (some (false))) else (some (false))) else (some (false))) else (some (false))) : Option Bool) fun v4 => some v4) fun c => c = true ↔ a = b := by
  refine ev_bind ?_
  have hne : ∀ {p : Prop}, ¬ p → (false = true ↔ p) := fun h => by simp [h]
  refine ev_if (fun h1 => ?_) fun h1 => ev_some (ev_some (hne fun e => by subst e; simp at h1))
  refine ev_if (fun h2 => ?_) fun h2 => ev_some (ev_some (hne fun e => by subst e; simp at h2))
  refine ev_if (fun h3 => ?_) fun h3 => ev_some (ev_some (hne fun e => by subst e; simp at h3))
  refine ev_if (fun h4 => ?_) fun h4 => ev_some (ev_some (hne fun e => by subst e; simp at h4))
  refine ev_bind (hS.mono fun c hc => ?_)
  refine ev_if (fun h5 => ?_) fun h5 => ev_some (ev_some (hne fun e => by subst e; rw [hc.2 rfl] at h5; cases h5))
  rw [hE]
  refine ev_some (ev_some ?_)
  rw [eqV_iff]
  exact ⟨fun h6 => ru_ext (eq_of_beq h1) (eq_of_beq h2) (eq_of_beq h3) (beqB_iff.1 h4) (hc.1 h5) h6, fun e => by rw [e]⟩
theorem sameR_iff {a b : Ru} (ha : modR a) (hb : modR b) : (Ev (grammar_sameRule_h a b) fun c => c = true ↔ a = b) ∧ (Ev (synthesisref11_SameRule a b) fun c => c = true ↔ a = b) :=
  ⟨sameR_gen (S := slices_Equal_int_int) (E := value_Equal) (ints_iff ha.1) (value_Equal_eq ha.2 hb.2), sameR_gen (S := synthesisref11_SameInts) (E := synthesisref01_Equal) (ints_iff ha.1) (ref_Equal_eq ha.2 hb.2)⟩
theorem rules_iff {a b : List Ru} (ha : a.length ≤ 4000000000) (h1 : ∀ r ∈ a, modR r) (h2 : ∀ r ∈ b, modR r) : Ev (slices_EqualFunc_api_Rule_api_Rule_api_Rule_api_Rule_h a b) fun c => c = true ↔ a = b := by
  unfold slices_EqualFunc_api_Rule_api_Rule_api_Rule_api_Rule_h
  rw [len_bne]
  by_cases h : a.length = b.length
  · rw [decide_eq_true h, Bool.not_true, cond_false]
    refine ev_bind ((scan_iff (g := ()) h ha (fun i i1 i2 => ?_) ?_).mono fun r hr => ?_)
    · obtain ⟨t, ht, ht2⟩ := (sameR_iff (h1 _ (List.getElem_mem i1)) (h2 _ (List.getElem_mem i2))).1
      refine ⟨!t, ?_, not_iff_false ht2⟩
      simp only [slices_EqualFunc_api_Rule_api_Rule_api_Rule_api_Rule_h_l1, lt_len i1, cond_true, idx_nat, List.getElem?_eq_getElem i1, List.getElem?_eq_getElem i2, Option.bind_some, ht]
    · simp only [slices_EqualFunc_api_Rule_api_Rule_api_Rule_api_Rule_h_l1, lt_len', cond_false]
    · rcases hr with ⟨rfl, hr⟩ | ⟨rfl, hr⟩
      · exact ev_some (by simp [hr])
      · exact ev_some (by simp [hr])
  · rw [decide_eq_false h, Bool.not_false, cond_true]
    exact ev_some (by simp; intro e; exact h (by rw [e]))
/-- a language that can be compared -/
structure ModL (l : La) : Prop where
  inputs : l.inputs.length ≤ 4000000000
  symbols : l.symbols.length ≤ 4000000000
  rules : l.rules.length ≤ 4000000000
  mods : ∀ r ∈ l.rules, modR r
theorem la_ext {a b : La} (h1 : a.name = b.name) (h2 : a.inputs = b.inputs) (h3 : a.symbols = b.symbols) (h4 : a.rules = b.rules) : a = b := by
  cases a; cases b; simp_all
theorem same_prog {a b : La} (ha : ModL a) (hb : ModL b) : Ev (grammar_Same a b) fun c => c = true ↔ a = b := by
  unfold grammar_Same
  refine ev_bind ?_
  have hne : ∀ {p : Prop}, ¬ p → (false = true ↔ p) := fun h => by simp [h]
  refine ev_if (fun h1 => ?_) fun h1 => ev_some (ev_some (hne fun e => by subst e; simp at h1))
  refine ev_bind ((ints_iff ha.inputs).mono fun c hc => ?_)
  refine ev_if (fun h2 => ?_) fun h2 => ev_some (ev_some (hne fun e => by subst e; rw [hc.2 rfl] at h2; cases h2))
  refine ev_bind ((syms_iff ha.symbols).mono fun d hd => ?_)
  refine ev_if (fun h3 => ?_) fun h3 => ev_some (ev_some (hne fun e => by subst e; rw [hd.2 rfl] at h3; cases h3))
  refine ev_bind ((rules_iff ha.rules ha.mods hb.mods).mono fun f hf => ?_)
  refine ev_some (ev_some ?_)
  rw [hf]
  exact ⟨fun h4 => la_ext (beqB_iff.1 h1) (hc.1 h2) (hd.1 h3) h4, fun e => by rw [e]⟩
theorem SmallL.mod {l : La} (h : SmallL l) : ModL l := by
  obtain ⟨h1, h2, h3, h4, h5, h6⟩ := h
  refine ⟨by omega, by omega, by omega, fun r hr => ?_⟩
  obtain ⟨a1, a2, a3, a4⟩ := h6 r hr
  exact ⟨by omega, by omega, wide_mono (by omega) _ a4⟩
theorem GoodR.mod {l : La} {r : Ru} (h : GoodR l r) : modR r := ⟨by have := h.few; omega, h.fine⟩
theorem GoodL.mod {l : La} (h : GoodL l) : ModL l := ⟨by have := h.inputs; omega, by have := h.sym16; omega, by have := h.rules; omega, fun r hr => (h.good r hr).mod⟩
end Go.Proofs.YtfhmljjkhjifeaaGreatDoor
set_option linter.unusedVariables false
set_option linter.unusedSimpArgs false
set_option maxRecDepth 100000
namespace Go.Proofs.YtfhmljjkhjifeaaGreatDoor
open Go Go.RowKit

theorem copied_loop {x : Va} {r : Va → Option Va} (hl : x.items.length ≤ 1000) (h : ∀ y ∈ x.items, r y = some y) : loopN (grammar_copied_l1 x r) fuel (0, []) = some x.items := by
  refine (ev_loop (Q := (· = x.items)) x.items.length (fun i s => s = ((i : Int), x.items.take i)) (by omega) (by simp) (fun i s hi e => ?_) (fun s e => ?_)).eq
  · subst e
    refine ev_go (s := (((i + 1 : Nat) : Int), x.items.take (i + 1))) ?_ rfl
    simp only [grammar_copied_l1, lt_len hi, cond_true, idx_nat, List.getElem?_eq_getElem hi, Option.bind_some, h _ (List.getElem_mem hi), app_eq (b := 56) (xs := x.items.take i) (ys := [x.items[i]]) (by rw [List.length_take]; simp; omega), w64s i (by omega), List.take_succ_eq_append_getElem hi]
  · subst e
    exact ev_out (b := x.items.take x.items.length) (by simp only [grammar_copied_l1, lt_len', cond_false]) (by simp)
theorem copied_eq : ∀ (n : Nat) (x : Va), depV x ≤ n → wideV 1000 x → grammar_copied n x = some x
  | 0, x, h, _ => by obtain ⟨t, m, s, l⟩ := x; exact absurd h (by unfold depV; omega)
  | n + 1, x, h, hw => by
    obtain ⟨w1, w2⟩ := wide_items hw
    show grammar_copied_b (grammar_copied n) x = _
    unfold grammar_copied_b
    rw [copied_loop w1 fun y hy => copied_eq n y (by have := dep_items hy; omega) (w2 y hy), Option.bind_some, va_eta]
/-- the symbols that stay; the rules that stay -/
def keepL (l : La) : List Bool := selfR true 0 (refReach (fun r => allB r (prodL l)) 0 l)
theorem keepL_len (l : La) : (keepL l).length = l.symbols.length := by simp [keepL, selfR, refReach_len]
def syD : Sy := ⟨⟨#[]⟩, 0⟩
def ruD : Ru := ⟨0, 0, 0, zeroV, ⟨#[]⟩, []⟩
def keepR (l : La) (i : Nat) : Bool := mk (keepL l) (l.rules.getD i ruD).symbol.toNat && allB (l.rules.getD i ruD) (prodL l)
/-- the new number of a symbol -/
def rkL (l : La) (i : Nat) : Nat := (selN (mk (keepL l)) i).length
def newR (l : La) (r : Ru) : Ru := ⟨(rkL l r.symbol.toNat : Int), r.kind, r.input, r.const, r.op, r.args.map fun a => (rkL l a.toNat : Int)⟩
def symsL (l : La) (n : Nat) : List Sy := (selN (mk (keepL l)) n).map fun i => l.symbols.getD i syD
def idxL (l : La) (n : Nat) : List Int := (selN (keepR l) n).map fun (i : Nat) => (i : Int)
def rulsL (l : La) (n : Nat) : List Ru := (selN (keepR l) n).map fun i => newR l (l.rules.getD i ruD)
def trimL (l : La) : La := ⟨l.name, l.inputs, symsL l l.symbols.length, rulsL l l.rules.length⟩
theorem symsL_len (l : La) (n : Nat) : (symsL l n).length = rkL l n := by simp [symsL, rkL]
theorem rkL_le (l : La) (n : Nat) : rkL l n ≤ n := selN_len_le _ _
theorem symsL_yes {l : La} {i : Nat} (hi : i < l.symbols.length) (h : mk (keepL l) i = true) : symsL l (i + 1) = symsL l i ++ [l.symbols[i]] := by
  unfold symsL
  rw [selN_yes h, List.map_append]
  simp [List.getD_eq_getElem?_getD, hi]
theorem symsL_no {l : La} {i : Nat} (h : mk (keepL l) i = false) : symsL l (i + 1) = symsL l i := by unfold symsL; rw [selN_no h]
theorem idxL_len (l : La) (n : Nat) : (idxL l n).length ≤ n := by rw [idxL, List.length_map]; exact selN_len_le _ _
theorem rulsL_len (l : La) (n : Nat) : (rulsL l n).length ≤ n := by rw [rulsL, List.length_map]; exact selN_len_le _ _
theorem idxL_yes {l : La} {i : Nat} (h : keepR l i = true) : idxL l (i + 1) = idxL l i ++ [(i : Int)] := by unfold idxL; rw [selN_yes h, List.map_append]; rfl
theorem idxL_no {l : La} {i : Nat} (h : keepR l i = false) : idxL l (i + 1) = idxL l i := by unfold idxL; rw [selN_no h]
theorem rulsL_yes {l : La} {i : Nat} (hi : i < l.rules.length) (h : keepR l i = true) : rulsL l (i + 1) = rulsL l i ++ [newR l l.rules[i]] := by
  unfold rulsL
  rw [selN_yes h, List.map_append]
  simp [List.getD_eq_getElem?_getD, hi]
theorem rulsL_no {l : La} {i : Nat} (h : keepR l i = false) : rulsL l (i + 1) = rulsL l i := by unfold rulsL; rw [selN_no h]
/-- what stays can be built of what stays -/
theorem keep_closed {l : La} (hg : GoodL l) {r : Ru} (hr : r ∈ l.rules) (hk : mk (keepL l) r.symbol.toNat = true) (ha : allB r (prodL l) = true) : ∀ a ∈ r.args, mk (keepL l) a.toNat = true := by
  intro a haa
  have h1 := hg.sym1
  have hlt := arg_lt hg hr a.toNat (List.mem_map_of_mem haa)
  unfold keepL selfR at hk ⊢
  rw [if_pos rfl] at hk ⊢
  rw [mk_set (by rw [refReach_len]; omega)] at hk ⊢
  by_cases h0 : 0 = a.toNat
  · rw [if_pos h0]
  · rw [if_neg h0, refReach_iff hg]
    have hs : a.toNat ∈ succA (fun r => allB r (prodL l)) l r.symbol.toNat := mem_succ.2 ⟨r, hr, rfl, ha, List.mem_map_of_mem haa⟩
    by_cases h2 : 0 = r.symbol.toNat
    · rw [← h2] at hs
      exact .single hs
    · rw [if_neg h2, refReach_iff hg] at hk
      exact .tail hk hs
/-- the numbers that a text writes down -/
structure NumOk (l : La) (i : Nat) (num : List Int) : Prop where
  len : num.length = l.symbols.length
  val : ∀ j, j < i → mk (keepL l) j = true → num[j]? = some (rkL l j : Int)
theorem NumOk.set {l : La} {i : Nat} {num : List Int} (h : NumOk l i num) (hi : i < l.symbols.length) : NumOk l (i + 1) (num.set i (rkL l i : Int)) := by
  refine ⟨by rw [List.length_set]; exact h.len, fun j hj hk => ?_⟩
  by_cases hji : i = j
  · subst hji
    rw [List.getElem?_set_self (by rw [h.len]; exact hi)]
  · rw [List.getElem?_set_ne hji]
    exact h.val j (by omega) hk
theorem numSkip {l : La} {i : Nat} {num : List Int} (h : NumOk l i num) (hk : mk (keepL l) i = false) : NumOk l (i + 1) num := by
  refine ⟨h.len, fun j hj hj2 => ?_⟩
  by_cases hji : j = i
  · subst hji; rw [hk] at hj2; cases hj2
  · exact h.val j (by omega) hj2
theorem idx_mk {s : List Bool} {i : Nat} (hi : i < s.length) : idx s (i : Int) = some (mk s i) := by
  rw [idx_nat, List.getElem?_eq_getElem hi]
  simp [mk, List.getD_eq_getElem?_getD, hi]
theorem idx_keep {l : La} {a : Int} (h0 : 0 ≤ a) (h1 : a < (l.symbols.length : Int)) : idx (keepL l) a = some (mk (keepL l) a.toNat) := by
  have := idx_mk (s := keepL l) (i := a.toNat) (by rw [keepL_len]; omega)
  rwa [show ((a.toNat : Nat) : Int) = a by omega] at this
theorem idx_num {l : La} {num : List Int} (h : NumOk l l.symbols.length num) {a : Int} (h0 : 0 ≤ a) (h1 : a < (l.symbols.length : Int)) (hk : mk (keepL l) a.toNat = true) : idx num a = some (rkL l a.toNat : Int) := by
  unfold idx
  rw [if_pos h0]
  exact h.val _ (by omega) hk
theorem trim_l3 {l : La} (hg : GoodL l) : Ev (loopN (grammar_Trim_l3 l (keepL l)) fuel (0, List.replicate l.symbols.length 0, [])) fun r => NumOk l l.symbols.length r.1 ∧ r.2 = symsL l l.symbols.length := by
  have h16 := hg.sym16
  refine ev_loop l.symbols.length (fun i s => s.1 = (i : Int) ∧ NumOk l i s.2.1 ∧ s.2.2 = symsL l i) (by omega) ⟨rfl, ⟨by simp, fun j hj => by omega⟩, rfl⟩ (fun i s hi ⟨e1, e2, e3⟩ => ?_) (fun s ⟨e1, e2, e3⟩ => ?_)
  · obtain ⟨k, num, sy⟩ := s
    simp only at e1 e2 e3
    subst e1 e3
    have hk := idx_mk (s := keepL l) (i := i) (by rw [keepL_len]; exact hi)
    have hl := rkL_le l i
    unfold grammar_Trim_l3
    simp only [keepL_len, lt_len hi, cond_true, hk, Option.bind_some]
    cases hb : mk (keepL l) i with
    | true =>
      have en : idx num (i : Int) = some (num[i]'(by rw [e2.len]; exact hi)) := by rw [idx_nat, List.getElem?_eq_getElem]
      simp only [cond_true, en, idx_nat, List.getElem?_eq_getElem hi, Option.bind_some, app_eq (b := 24) (xs := symsL l i) (ys := [l.symbols[i]]) (by rw [symsL_len]; simp; omega), Int.toNat_natCast, symsL_len]
      exact ev_some ⟨w64s i (by omega), e2.set hi, (symsL_yes hi hb).symm⟩
    | false =>
      simp only [cond_false, Option.bind_some]
      exact ev_some ⟨w64s i (by omega), numSkip e2 hb, (symsL_no hb).symm⟩
  · obtain ⟨k, num, sy⟩ := s
    simp only at e1 e2 e3
    subst e1 e3
    exact ev_out (b := (num, symsL l l.symbols.length)) (by simp only [grammar_Trim_l3, keepL_len, lt_len', cond_false]) ⟨e2, rfl⟩
theorem keepL_ref (l : La) : List.set (refReach (fun r => allB r (prodL l)) 0 l) (Int.toNat 0) true = keepL l := rfl
theorem rtrim_l3 {l : La} (hg : GoodL l) : Ev (loopN (synthesisref11_Trim_l3 l (refReach (fun r => allB r (prodL l)) 0 l)) fuel (0, List.replicate l.symbols.length 0, [])) fun r => NumOk l l.symbols.length r.1 ∧ r.2 = symsL l l.symbols.length := by
  have h16 := hg.sym16
  refine ev_loop l.symbols.length (fun i s => s.1 = (i : Int) ∧ NumOk l i s.2.1 ∧ s.2.2 = symsL l i) (by omega) ⟨rfl, ⟨by simp, fun j hj => by omega⟩, rfl⟩ (fun i s hi ⟨e1, e2, e3⟩ => ?_) (fun s ⟨e1, e2, e3⟩ => ?_)
  · obtain ⟨k, num, sy⟩ := s
    simp only at e1 e2 e3
    subst e1 e3
    have hk := idx_mk (s := keepL l) (i := i) (by rw [keepL_len]; exact hi)
    have hl := rkL_le l i
    have en : idx num (i : Int) = some (num[i]'(by rw [e2.len]; exact hi)) := by rw [idx_nat, List.getElem?_eq_getElem]
    unfold synthesisref11_Trim_l3
    simp only [keepL_ref, lt_len hi, cond_true, hk, en, Option.bind_some]
    cases hb : mk (keepL l) i with
    | true =>
      simp only [cond_true, idx_nat, List.getElem?_eq_getElem hi, Option.bind_some, app_eq (b := 24) (xs := symsL l i) (ys := [l.symbols[i]]) (by rw [symsL_len]; simp; omega), Int.toNat_natCast, symsL_len]
      exact ev_some ⟨w64s i (by omega), e2.set hi, (symsL_yes hi hb).symm⟩
    | false =>
      simp only [cond_false, Option.bind_some, Int.toNat_natCast, symsL_len]
      exact ev_some ⟨w64s i (by omega), e2.set hi, (symsL_no hb).symm⟩
  · obtain ⟨k, num, sy⟩ := s
    simp only at e1 e2 e3
    subst e1 e3
    exact ev_out (b := (num, symsL l l.symbols.length)) (by simp only [synthesisref11_Trim_l3, lt_len', cond_false]) ⟨e2, rfl⟩
theorem trim_args {l : La} {num : List Int} {sy : List Sy} (h : NumOk l l.symbols.length num) {r : Ru} (hr : GoodR l r) (hk : ∀ a ∈ r.args, mk (keepL l) a.toNat = true) : loopN (grammar_Trim_l1 (num, sy) r) fuel (0, []) = some (newR l r).args ∧ loopN (synthesisref11_Trim_l1 (num, sy) r) fuel (0, []) = some (newR l r).args := by
  have hf := hr.few
  have hstep : ∀ i (hi : i < r.args.length), idx num r.args[i] = some (rkL l r.args[i].toNat : Int) := fun i hi => by
    have hm := List.getElem_mem hi
    exact idx_num h (hr.args _ hm).1 (hr.args _ hm).2 (hk _ hm)
  have h1 : loopN (grammar_Trim_l1 (num, sy) r) fuel (0, []) = some (newR l r).args := by
    refine (ev_loop (Q := (· = (newR l r).args)) r.args.length (fun i s => s = ((i : Int), (newR l r).args.take i)) (by omega) (by simp) (fun i s hi e => ?_) (fun s e => ?_)).eq
    · subst e
      have hi' : i < (newR l r).args.length := by simp [newR]; exact hi
      have hx : (newR l r).args[i] = (rkL l r.args[i].toNat : Int) := by simp [newR]
      refine ev_go (s := (((i + 1 : Nat) : Int), (newR l r).args.take (i + 1))) ?_ rfl
      simp only [grammar_Trim_l1, lt_len hi, cond_true, idx_nat, List.getElem?_eq_getElem hi, Option.bind_some, hstep i hi, app_eq (b := 8) (xs := (newR l r).args.take i) (ys := [(rkL l r.args[i].toNat : Int)]) (by rw [List.length_take]; simp; omega), w64s i (by omega), List.take_succ_eq_append_getElem hi', hx]
    · subst e
      exact ev_out (b := (newR l r).args.take r.args.length) (by simp only [grammar_Trim_l1, lt_len', cond_false]) (by rw [List.take_of_length_le]; simp [newR])
  exact ⟨h1, h1⟩
theorem all_both {r : Ru} {l : La} (hg : GoodL l) (hr : GoodR l r) : synthesisref11_all r (prodL l) = some (allB r (prodL l)) ∧ grammar_complete_1_h r (prodL l) = some (allB r (prodL l)) := by
  obtain ⟨a1, _, a3⟩ := all_scan (r := r) (s := prodL l) (by have := hr.few; omega) (fun a ha => by rw [prodL_len]; exact hr.args a ha)
  exact ⟨a1, a3⟩
theorem ru_app {l : La} {n : Nat} (hn : n ≤ 96) (x : Ru) : app 120 (rulsL l n) [x] = some (rulsL l n ++ [x]) := app_eq (by have := rulsL_len l n; simp; omega)
theorem ix_app {l : La} {n : Nat} (hn : n ≤ 96) (x : Int) : app 8 (idxL l n) [x] = some (idxL l n ++ [x]) := app_eq (by have := idxL_len l n; simp; omega)
theorem rd_eq {l : La} {i : Nat} (hi : i < l.rules.length) : l.rules.getD i ruD = l.rules[i] := by simp [List.getD_eq_getElem?_getD, hi]
theorem trim_l2 {l : La} (hg : GoodL l) (hm : ∀ r ∈ l.rules, depV r.const ≤ 1000000 ∧ wideV 1000 r.const) {num : List Int} (h : NumOk l l.symbols.length num) (sy : List Sy) : loopN (grammar_Trim_l2 l (prodL l) (keepL l) (num, sy)) fuel (0, [], []) = some (idxL l l.rules.length, rulsL l l.rules.length) ∧ loopN (synthesisref11_Trim_l2 l (prodL l) (refReach (fun r => allB r (prodL l)) 0 l) (num, sy)) fuel (0, [], []) = some (idxL l l.rules.length, rulsL l l.rules.length) := by
  have h96 := hg.rules
  constructor
  · refine (ev_loop (s0 := ((0 : Int), ([] : List Int), ([] : List Ru))) (Q := (· = (idxL l l.rules.length, rulsL l l.rules.length))) l.rules.length (fun i s => s = ((i : Int), idxL l i, rulsL l i)) (by omega) rfl (fun i s hi e => ?_) (fun s e => ?_)).eq
    · subst e
      have hr := List.getElem_mem hi
      have gr := hg.good _ hr
      have e1 := idx_keep gr.sym0 gr.sym1
      have e2 := (all_both hg gr).2
      have hkr : keepR l i = (mk (keepL l) l.rules[i].symbol.toNat && allB l.rules[i] (prodL l)) := by unfold keepR; rw [rd_eq hi]
      unfold grammar_Trim_l2
      simp only [lt_len hi, cond_true, idx_nat, List.getElem?_eq_getElem hi, Option.bind_some, e1]
      cases hb : mk (keepL l) l.rules[i].symbol.toNat with
      | false =>
        have hn : keepR l i = false := by rw [hkr, hb]; rfl
        simp only [Bool.not_false, cond_true, Option.bind_some, Sum.elim_inr]
        exact ev_some (by simp only [Sum.elim_inl]; rw [idxL_no hn, rulsL_no hn, w64s i (by omega)])
      | true =>
        simp only [Bool.not_true, cond_false, e2, Option.bind_some]
        cases hc : allB l.rules[i] (prodL l) with
        | false =>
          have hn : keepR l i = false := by rw [hkr, hb, hc]; rfl
          simp only [Bool.not_false, cond_true, Option.bind_some, Sum.elim_inr]
          exact ev_some (by simp only [Sum.elim_inl]; rw [idxL_no hn, rulsL_no hn, w64s i (by omega)])
        | true =>
          have hn : keepR l i = true := by rw [hkr, hb, hc]; rfl
          have e3 := idx_num h gr.sym0 gr.sym1 hb
          have e4 := (trim_args (sy := sy) h gr (keep_closed hg hr hb hc)).1
          have e5 := copied_eq fuel l.rules[i].const (Nat.le_trans (hm _ hr).1 (Nat.le_of_lt (lt_fuel (by omega)))) (hm _ hr).2
          simp only [Bool.not_true, cond_false, Option.bind_some, e3, e4, e5, ru_app (l := l) (n := i) (by omega), ix_app (l := l) (n := i) (by omega), Sum.elim_inl]
          exact ev_some (by simp only [Sum.elim_inl]; rw [idxL_yes hn, rulsL_yes hi hn, w64s i (by omega)]; rfl)
    · subst e
      exact ev_out (b := (idxL l l.rules.length, rulsL l l.rules.length)) (by simp only [grammar_Trim_l2, lt_len', cond_false]) rfl
  · refine (ev_loop (s0 := ((0 : Int), ([] : List Int), ([] : List Ru))) (Q := (· = (idxL l l.rules.length, rulsL l l.rules.length))) l.rules.length (fun i s => s = ((i : Int), idxL l i, rulsL l i)) (by omega) rfl (fun i s hi e => ?_) (fun s e => ?_)).eq
    · subst e
      have hr := List.getElem_mem hi
      have gr := hg.good _ hr
      have e1 := idx_keep gr.sym0 gr.sym1
      have e2 := (all_both hg gr).1
      have hkr : keepR l i = (mk (keepL l) l.rules[i].symbol.toNat && allB l.rules[i] (prodL l)) := by unfold keepR; rw [rd_eq hi]
      unfold synthesisref11_Trim_l2
      simp only [keepL_ref, lt_len hi, cond_true, idx_nat, List.getElem?_eq_getElem hi, Option.bind_some, e1]
      cases hb : mk (keepL l) l.rules[i].symbol.toNat with
      | false =>
        have hn : keepR l i = false := by rw [hkr, hb]; rfl
        simp only [Bool.not_false, cond_true, Option.bind_some, Sum.elim_inr]
        exact ev_some (by simp only [Sum.elim_inl]; rw [idxL_no hn, rulsL_no hn, w64s i (by omega)])
      | true =>
        simp only [Bool.not_true, cond_false, e2, Option.bind_some]
        cases hc : allB l.rules[i] (prodL l) with
        | false =>
          have hn : keepR l i = false := by rw [hkr, hb, hc]; rfl
          simp only [Bool.not_false, cond_true, Option.bind_some, Sum.elim_inr]
          exact ev_some (by simp only [Sum.elim_inl]; rw [idxL_no hn, rulsL_no hn, w64s i (by omega)])
        | true =>
          have hn : keepR l i = true := by rw [hkr, hb, hc]; rfl
          have e3 := idx_num h gr.sym0 gr.sym1 hb
          have e4 := (trim_args (sy := sy) h gr (keep_closed hg hr hb hc)).2
          simp only [Bool.not_true, cond_false, Option.bind_some, e3, e4, ru_app (l := l) (n := i) (by omega), ix_app (l := l) (n := i) (by omega), Sum.elim_inl]
          exact ev_some (by simp only [Sum.elim_inl]; rw [idxL_yes hn, rulsL_yes hi hn, w64s i (by omega)]; rfl)
    · subst e
      exact ev_out (b := (idxL l l.rules.length, rulsL l l.rules.length)) (by simp only [synthesisref11_Trim_l2, lt_len', cond_false]) rfl
def laD : La := ⟨⟨#[]⟩, [], [], []⟩
/-- what Trim returns for a valid language -/
def trimR (l : La) : La × List Int × Int := if mk (prodL l) 0 = true then (trimL l, idxL l l.rules.length, 0) else (laD, [], 12)
theorem app_nil8 {xs : List Int} (h : xs.length ≤ 1000) : app 8 [] xs = some xs := by rw [app_eq (by simp; omega)]; rfl
theorem trim_good {l : La} (hg : GoodL l) (hc : grammar_Check l = some 0) (hc' : synthesisref11_Check l = some 0) (hm : ∀ r ∈ l.rules, depV r.const ≤ 1000000 ∧ wideV 1000 r.const) : grammar_Trim l = some (trimR l) ∧ synthesisref11_Trim l = some (trimR l) := by
  have h1 := hg.sym1
  have h16 := hg.sym16
  have hi := hg.inputs
  obtain ⟨p1, p2⟩ := productive_eq hg
  have e0 : idx (prodL l) 0 = some (mk (prodL l) 0) := idx_mk (i := 0) (by rw [prodL_len]; omega)
  have hmk : mkL 8 (0 : Int) (l.symbols.length : Int) = some (List.replicate l.symbols.length 0) := mkL_eq 8 0 l.symbols.length (by omega)
  have hr1 : grammar_reach_h2 l 0 true (prodL l) = some (keepL l) := (prog_reach hg (fr := 0) (by omega) true).2 (prodL l) (prodL_len l)
  have hr2 : synthesisref11_reach_h2 l 0 (prodL l) = some (refReach (fun r => allB r (prodL l)) 0 l) := (ref_reach hg 0).2 (prodL l) (prodL_ne hg) (prodL_len l)
  have e3 : idx (refReach (fun r => allB r (prodL l)) 0 l) 0 = some (mk (refReach (fun r => allB r (prodL l)) 0 l) 0) := idx_mk (i := 0) (by rw [refReach_len]; omega)
  obtain ⟨⟨num, sy⟩, a1, a2, a3⟩ := trim_l3 hg
  obtain ⟨⟨num', sy'⟩, b1, b2, b3⟩ := rtrim_l3 hg
  simp only at a2 a3 b2 b3
  subst a3 b3
  have c1 := (trim_l2 hg hm a2 (symsL l l.symbols.length)).1
  have c2 := (trim_l2 hg hm b2 (symsL l l.symbols.length)).2
  unfold trimR
  constructor
  · unfold grammar_Trim
    simp only [hc, Option.bind_some, bne_self_eq_false, cond_false, p1, e0]
    cases hb : mk (prodL l) 0 with
    | false => rfl
    | true => simp only [Bool.not_true, cond_false, complete_eq hg, Option.bind_some, hr1, app_nil8 (xs := l.inputs) (by omega), keepL_len, hmk, a1, c1, if_true]; rfl
  · unfold synthesisref11_Trim
    simp only [hc', Option.bind_some, bne_self_eq_false, cond_false, p2, e0]
    cases hb : mk (prodL l) 0 with
    | false => rfl
    | true => simp only [Bool.not_true, cond_false, Option.bind_some, hr2, e3, app_nil8 (xs := l.inputs) (by omega), hmk, b1, c2, if_true]; rfl
theorem trim_bad {l : La} {c : Int} (hc : grammar_Check l = some c) (hc' : synthesisref11_Check l = some c) (h : c ≠ 0) : grammar_Trim l = some (laD, [], c) ∧ synthesisref11_Trim l = some (laD, [], c) := by
  have hb : (c != 0) = true := by simp [h]
  constructor
  · simp only [grammar_Trim, hc, Option.bind_some, hb, cond_true]; rfl
  · simp only [synthesisref11_Trim, hc', Option.bind_some, hb, cond_true]; rfl
theorem SmallL.fine {l : La} (h : SmallL l) : ∀ r ∈ l.rules, depV r.const ≤ 1000000 ∧ wideV 1000 r.const := fun r hr => by
  obtain ⟨a1, a2, a3, a4⟩ := h.2.2.2.2.2 r hr
  exact ⟨by omega, wide_mono (by omega) _ a4⟩
theorem trimL_mod {l : La} (hg : GoodL l) : ModL (trimL l) := by
  refine ⟨by have := hg.inputs; show l.inputs.length ≤ _; omega, ?_, ?_, fun r hr => ?_⟩
  · have := rkL_le l l.symbols.length; have := hg.sym16; show (symsL l l.symbols.length).length ≤ _; rw [symsL_len]; omega
  · have := rulsL_len l l.rules.length; have := hg.rules; show (rulsL l l.rules.length).length ≤ _; omega
  · obtain ⟨i, hi, rfl⟩ := List.mem_map.1 (show r ∈ rulsL l l.rules.length from hr)
    have hi := (mem_selN.1 hi).1
    rw [rd_eq hi]
    have gr := hg.good _ (List.getElem_mem hi)
    exact ⟨by have := gr.few; show (List.map _ _).length ≤ _; rw [List.length_map]; omega, gr.fine⟩
end Go.Proofs.YtfhmljjkhjifeaaGreatDoor
set_option linter.unusedVariables false
set_option linter.unusedSimpArgs false
set_option maxRecDepth 100000
namespace Go.Proofs.YtfhmljjkhjifeaaGreatDoor
open Go Go.RowKit

theorem rounds_iter (l : La) : ∀ (k : Nat) (s : List Bool), roundsS l k s = iterL (roundS l) k s
  | 0, s => rfl
  | k + 1, s => by rw [roundsS, iterL, rounds_iter l k]
theorem prodS_mono (r : Ru) (s : List Bool) (i : Nat) (h : mk s i = true) : mk (prodS r s) i = true := by
  unfold prodS
  split
  · by_cases hlt : r.symbol.toNat < s.length
    · rw [mk_set hlt]; split
      · rfl
      · exact h
    · rw [List.set_eq_of_length_le (by omega)]; exact h
  · exact h
theorem foldS_mono : ∀ (rs : List Ru) (s : List Bool) (i : Nat), mk s i = true → mk (rs.foldl (fun s r => prodS r s) s) i = true
  | [], s, i, h => h
  | r :: rs, s, i, h => foldS_mono rs _ i (prodS_mono r s i h)
theorem mk_full {s : List Bool} (h : cf s = 0) {i : Nat} (hi : i < s.length) : mk s i = true := by
  unfold cf at h
  rw [List.countP_eq_zero] at h
  have := h _ (List.getElem_mem hi)
  simp [mk, List.getD_eq_getElem?_getD, hi] at this ⊢
  exact this
theorem iter_closed_le {n : Nat} {f : List Bool → List Bool} (hl : ∀ s, (f s).length = s.length) (hm : ∀ s i, mk s i = true → mk (f s) i = true) : ∀ (k : Nat) (s : List Bool), cf s ≤ k → f (iterL f k s) = iterL f k s
  | 0, s, h => by
    show f s = s
    exact mk_ext (hl s) fun i hi => ⟨fun _ => mk_full (by omega) (by rw [← hl s]; exact hi), fun h => hm s i h⟩
  | k + 1, s, h => by
    rw [iterL]
    by_cases he : f s = s
    · rw [he, iter_fix he, he]
    · have := cf_lt (hl s).symm (fun i => hm s i) fun e => he e.symm
      exact iter_closed_le (n := n) hl hm k (f s) (by omega)
theorem prod_fix (l : La) : roundS l (prodL l) = prodL l := by
  unfold prodL
  rw [rounds_iter]
  exact iter_closed_le (n := 0) (roundS_len l) (fun s i h => foldS_mono _ s i h) _ _ (Nat.le_of_eq (cf_rep _))
theorem foldS_fix : ∀ (rs : List Ru) (s : List Bool), rs.foldl (fun s r => prodS r s) s = s → ∀ r ∈ rs, prodS r s = s
  | [], s, _, r, hr => by cases hr
  | r :: rs, s, h, q, hq => by
    rw [List.foldl_cons] at h
    have h1 : prodS r s = s := mk_ext (prodS_len r s) fun i hi => ⟨fun hi2 => by
      have := foldS_mono rs _ i hi2
      rwa [h] at this, fun hi2 => prodS_mono r s i hi2⟩
    rcases List.mem_cons.1 hq with rfl | hq
    · exact h1
    · rw [h1] at h
      exact foldS_fix rs s h q hq
theorem allB_iff {r : Ru} {s : List Bool} : allB r s = true ↔ ∀ a ∈ r.args, mk s a.toNat = true := by
  unfold allB mk
  rw [List.all_eq_true]
theorem prod_closed {l : La} (hg : GoodL l) {r : Ru} (hr : r ∈ l.rules) (h : allB r (prodL l) = true) : mk (prodL l) r.symbol.toNat = true := by
  have h1 := foldS_fix l.rules (prodL l) (prod_fix l) r hr
  unfold prodS at h1
  rw [if_pos h] at h1
  have gr := hg.good r hr
  have h0 := gr.sym0
  have h2 := gr.sym1
  have h3 := mk_set (s := prodL l) (i := r.symbol.toNat) (j := r.symbol.toNat) (by rw [prodL_len]; omega)
  rw [h1, if_pos rfl] at h3
  exact h3
theorem foldS_ind {l : La} {I : Nat → Prop} (h : ∀ r ∈ l.rules, (∀ a ∈ r.args, I a.toNat) → I r.symbol.toNat) : ∀ (rs : List Ru) (s : List Bool), (∀ r ∈ rs, r ∈ l.rules) → (∀ y, mk s y = true → I y) → ∀ y, mk (rs.foldl (fun s r => prodS r s) s) y = true → I y
  | [], s, _, hs => hs
  | r :: rs, s, hm, hs => by
    refine foldS_ind h rs _ (fun q hq => hm q (List.mem_cons_of_mem _ hq)) fun y hy => ?_
    have hy : mk (prodS r s) y = true := hy
    unfold prodS at hy
    split at hy
    · rename_i ha
      by_cases hlt : r.symbol.toNat < s.length
      · rw [mk_set hlt] at hy
        split at hy
        · rename_i he
          subst he
          exact h r (hm r (List.mem_cons_self ..)) fun a haa => hs _ (allB_iff.1 ha a haa)
        · exact hs y hy
      · rw [List.set_eq_of_length_le (by omega)] at hy
        exact hs y hy
    · exact hs y hy
theorem iterS_ind {l : La} {I : Nat → Prop} (h : ∀ r ∈ l.rules, (∀ a ∈ r.args, I a.toNat) → I r.symbol.toNat) : ∀ (k : Nat) (s : List Bool), (∀ y, mk s y = true → I y) → ∀ y, mk (iterL (roundS l) k s) y = true → I y
  | 0, s, hs => hs
  | k + 1, s, hs => iterS_ind h k _ fun y hy => foldS_ind h l.rules s (fun _ h => h) hs y hy
/-- what the rules close holds of all productive symbols -/
theorem prod_ind {l : La} {I : Nat → Prop} (h : ∀ r ∈ l.rules, (∀ a ∈ r.args, I a.toNat) → I r.symbol.toNat) (y : Nat) (hy : mk (prodL l) y = true) : I y := by
  unfold prodL at hy
  rw [rounds_iter] at hy
  exact iterS_ind h _ _ (fun y hy => by rw [mk_rep] at hy; cases hy) y hy
end Go.Proofs.YtfhmljjkhjifeaaGreatDoor
set_option linter.unusedVariables false
set_option linter.unusedSimpArgs false
set_option maxRecDepth 100000
namespace Go.Proofs.YtfhmljjkhjifeaaGreatDoor
open Go Go.RowKit

/-- a scan that leaves at the first place that is not good -/
theorem ev_all {β : Type} {step : Int → Option (Int ⊕ β)} {b0 : β} (n : Nat) (hn : n ≤ 4000000000) (G : Nat → Prop) (Bad : β → Prop)
    (hs : ∀ i, i < n → (∀ j, j < i → G j) → Ev (step (i : Int)) fun r => (r = .inl (w64 ((i : Int) + 1)) ∧ G i) ∨ ∃ b, r = .inr b ∧ Bad b ∧ ¬ G i) (he : step (n : Int) = some (.inr b0)) :
    Ev (loopN step fuel 0) fun r => (r = b0 ∧ ∀ i, i < n → G i) ∨ (Bad r ∧ ¬ ∀ i, i < n → G i) := by
  refine ev_loop n (fun i s => s = (i : Int) ∧ ∀ j, j < i → G j) (by omega) ⟨rfl, fun j hj => by omega⟩ (fun i s hi ⟨e, h⟩ => ?_) (fun s ⟨e, h⟩ => ?_)
  · subst e
    obtain ⟨r, h1, h2⟩ := hs i hi h
    rcases h2 with ⟨rfl, h2⟩ | ⟨b, rfl, h2, h3⟩
    · refine ⟨_, h1, w64s i (by omega), fun j hj => ?_⟩
      rcases Nat.lt_succ_iff_lt_or_eq.1 hj with hj | rfl
      · exact h j hj
      · exact h2
    · exact ⟨_, h1, .inr ⟨h2, fun hall => h3 (hall i hi)⟩⟩
  · subst e
    exact ⟨_, he, _, rfl, .inl ⟨rfl, h⟩⟩
def letC (c : UInt8) : Prop := (97 ≤ c.toNat ∧ c.toNat ≤ 122) ∨ (65 ≤ c.toNat ∧ c.toNat ≤ 90)
def digC (c : UInt8) : Prop := 48 ≤ c.toNat ∧ c.toNat ≤ 57
/-- a name -/
def nameOk (s : ByteArray) : Prop := (1 ≤ s.size ∧ s.size ≤ 24) ∧ ∀ i (h : i < s.data.toList.length), letC s.data.toList[i] ∨ (0 < i ∧ (s.data.toList[i] = 45 ∨ digC s.data.toList[i]))
theorem name_iff {s : ByteArray} (hs : s.size ≤ 4000000000) : Ev (synthesisref11_Name s) fun b => b = true ↔ nameOk s := by
  unfold synthesisref11_Name
  have hlen : s.data.toList.length = s.size := by rw [← size_list]
  refine ev_bind ((ev_all (b0 := .inl ()) s.size hs (fun i => ∀ h : i < s.data.toList.length, letC s.data.toList[i] ∨ (0 < i ∧ (s.data.toList[i] = 45 ∨ digC s.data.toList[i]))) (fun b => b = .inr false) (fun i hi _ => ?_) (by simp only [synthesisref11_Name_l1, decide_eq_false (show ¬ ((s.size : Nat) : Int) < (s.size : Int) by omega), cond_false])).mono fun r hr => ?_)
  · have hi' : i < s.data.toList.length := by omega
    have hb : byt s (i : Int) = some ((s.data.toList[i]'hi').toNat : Int) := by rw [byt_list, List.getElem?_eq_getElem hi']; rfl
    generalize hc : s.data.toList[i]'hi' = c at hb
    have h45 : (((c.toNat : Int) != 45) = true) ↔ c ≠ 45 := by
      rw [bne_iff_ne]
      refine ⟨fun h e => h (by rw [e]; rfl), fun h e => h (UInt8.toNat_inj.1 (show c.toNat = 45 by omega))⟩
    unfold synthesisref11_Name_l1
    simp only [decide_eq_true (show (i : Int) < (s.size : Int) by omega), cond_true, hb, Option.bind_some]
    have e1 : (bif decide (97 ≤ (c.toNat : Int)) then bif decide ((c.toNat : Int) ≤ 122) then some true else bif decide (65 ≤ (c.toNat : Int)) then some (decide ((c.toNat : Int) ≤ 90)) else some false
        else bif decide (65 ≤ (c.toNat : Int)) then some (decide ((c.toNat : Int) ≤ 90)) else some false : Option Bool) = some (decide ((97 ≤ c.toNat ∧ c.toNat ≤ 122) ∨ (65 ≤ c.toNat ∧ c.toNat ≤ 90))) := by
      rw [show decide (97 ≤ (c.toNat : Int)) = decide (97 ≤ c.toNat) by rw [decide_eq_decide]; omega, show decide ((c.toNat : Int) ≤ 122) = decide (c.toNat ≤ 122) by rw [decide_eq_decide]; omega, show decide (65 ≤ (c.toNat : Int)) = decide (65 ≤ c.toNat) by rw [decide_eq_decide]; omega, show decide ((c.toNat : Int) ≤ 90) = decide (c.toNat ≤ 90) by rw [decide_eq_decide]; omega]
      by_cases q1 : 97 ≤ c.toNat <;> by_cases q2 : c.toNat ≤ 122 <;> by_cases q3 : 65 ≤ c.toNat <;> by_cases q4 : c.toNat ≤ 90 <;> simp [q1, q2, q3, q4] <;> omega
    rw [e1, Option.bind_some]
    by_cases hl : letC c
    · rw [decide_eq_true (show (97 ≤ c.toNat ∧ c.toNat ≤ 122) ∨ (65 ≤ c.toNat ∧ c.toNat ≤ 90) from hl)]
      exact ev_some (.inl ⟨rfl, fun _ => by rw [hc]; exact .inl hl⟩)
    · rw [decide_eq_false (show ¬ ((97 ≤ c.toNat ∧ c.toNat ≤ 122) ∨ (65 ≤ c.toNat ∧ c.toNat ≤ 90)) from hl)]
      simp only [Bool.not_false, cond_true]
      by_cases h0 : i = 0
      · subst h0
        simp only [Int.natCast_zero, beq_self_eq_true, cond_true, Option.bind_some]
        refine ev_some (.inr ⟨_, rfl, rfl, fun hh => ?_⟩)
        have := hh hi'
        rw [hc] at this
        rcases this with h | ⟨h, _⟩
        · exact hl h
        · omega
      · have hb0 : ((i : Int) == 0) = false := by rw [beq_eq_false_iff_ne]; omega
        simp only [hb0, cond_false]
        by_cases h4 : c = 45
        · have : ((c.toNat : Int) != 45) = false := by rw [h4]; rfl
          simp only [this, cond_false, Option.bind_some]
          exact ev_some (.inl ⟨rfl, fun _ => by rw [hc]; exact .inr ⟨by omega, .inl h4⟩⟩)
        · simp only [h45.2 h4, cond_true]
          by_cases q1 : (c.toNat : Int) < 48
          · simp only [decide_eq_true q1, cond_true, Option.bind_some]
            refine ev_some (.inr ⟨_, rfl, rfl, fun hh => ?_⟩)
            have := hh hi'
            rw [hc] at this
            rcases this with h | ⟨_, h | h⟩
            · exact hl h
            · exact h4 h
            · have := h.1; omega
          · by_cases q2 : 57 < (c.toNat : Int)
            · simp only [decide_eq_false q1, decide_eq_true q2, cond_false, cond_true, Option.bind_some]
              refine ev_some (.inr ⟨_, rfl, rfl, fun hh => ?_⟩)
              have := hh hi'
              rw [hc] at this
              rcases this with h | ⟨_, h | h⟩
              · exact hl h
              · exact h4 h
              · have := h.2; omega
            · simp only [decide_eq_false q1, decide_eq_false q2, cond_false, Option.bind_some]
              exact ev_some (.inl ⟨rfl, fun _ => by rw [hc]; exact .inr ⟨by omega, .inr ⟨by omega, by omega⟩⟩⟩)
  · rcases hr with ⟨rfl, hr⟩ | ⟨rfl, hr⟩
    · simp only [Sum.elim_inl]
      have hp : nameOk s ↔ (1 ≤ s.size ∧ s.size ≤ 24) := ⟨fun h => h.1, fun h => ⟨h, fun i hi => hr i (by omega) hi⟩⟩
      rw [hp]
      refine ev_bind (ev_if (fun h => ev_some (ev_some ?_)) fun h => ev_some (ev_some ?_))
      · have := of_decide_eq_true h
        rw [decide_eq_true_eq]; omega
      · have := of_decide_eq_false h
        simp; omega
    · exact ev_some ⟨fun h => by simp at h, fun h => absurd (fun i _ hi' => h.2 i hi') hr⟩
def tyOf (l : La) (a : Int) : Int := (l.symbols.getD a.toNat syD).type
theorem idx_ty {l : La} {a : Int} (h0 : 0 ≤ a) (h1 : a < (l.symbols.length : Int)) : ∃ x, idx l.symbols a = some x ∧ x.type = tyOf l a := by
  refine ⟨l.symbols[a.toNat]'(by omega), ?_, ?_⟩
  · unfold idx; rw [if_pos h0, List.getElem?_eq_getElem]
  · unfold tyOf; rw [List.getD_eq_getElem?_getD, List.getElem?_eq_getElem (by omega)]; rfl
/-- a valid rule -/
def ValidR (l : La) (r : Ru) : Prop :=
  (0 ≤ r.symbol ∧ r.symbol < (l.symbols.length : Int)) ∧
  ((r.kind = 1 ∧ r.const = zeroV ∧ r.op = ⟨#[]⟩ ∧ r.args = [] ∧ (0 ≤ r.input ∧ r.input < (l.inputs.length : Int)) ∧ l.inputs.getD r.input.toNat 0 = tyOf l r.symbol) ∨
   (r.kind = 2 ∧ r.input = 0 ∧ r.op = ⟨#[]⟩ ∧ r.args = [] ∧ value_Check fuel r.const = some 0 ∧ r.const.type = tyOf l r.symbol) ∨
   (r.kind = 3 ∧ r.input = 0 ∧ r.const = zeroV ∧ ∃ o, synthesisref09_Find r.op = some (o, true) ∧ r.args.length = o.f_Args.length ∧ (∀ i (h : i < r.args.length), (0 ≤ r.args[i] ∧ r.args[i] < (l.symbols.length : Int)) ∧ o.f_Args[i]? = some (tyOf l r.args[i])) ∧ tyOf l r.symbol = o.f_Result))
theorem eqV_zero {x : Va} : eqV x zeroV = true ↔ x = zeroV := eqV_iff
theorem beq_nil {s : ByteArray} : (s.toList == (⟨#[]⟩ : ByteArray).toList) = true ↔ s = ⟨#[]⟩ := beqB_iff
theorem len_nil {α : Type} {xs : List α} : ((xs.length : Int) == 0) = true ↔ xs = [] := by
  rw [beq_iff_eq]
  cases xs with
  | nil => simp
  | cons x xs => simp; omega
theorem three {a b c : Bool} {p q r : Prop} (ha : a = true ↔ p) (hb : b = true ↔ q) (hc : c = true ↔ r) : Ev (bif a then bif b then some c else some false else some false : Option Bool) fun x => x = true ↔ p ∧ q ∧ r := by
  cases a <;> cases b <;> simp at ha hb <;> refine ev_some ?_ <;> simp [ha, hb, hc]
theorem zero_iff (r : Ru) : Ev (synthesisref11_zero r) fun b => b = true ↔ (r.kind = 1 ∧ r.const = zeroV ∧ r.op = ⟨#[]⟩ ∧ r.args = []) ∨ (r.kind = 2 ∧ r.input = 0 ∧ r.op = ⟨#[]⟩ ∧ r.args = []) ∨ (r.kind ≠ 1 ∧ r.kind ≠ 2 ∧ r.input = 0 ∧ r.const = zeroV) := by
  unfold synthesisref11_zero
  rw [refEqual_zero, Option.bind_some]
  refine ev_if (fun h1 => ?_) fun h1 => ev_if (fun h2 => ?_) fun h2 => ?_
  · have h1 := eq_of_beq h1
    refine ev_bind ((three eqV_zero beq_nil len_nil).mono fun c hc => ev_some (hc.trans ?_))
    simp [h1]
  · have h2 := eq_of_beq h2
    refine ev_bind ((three beq_iff_eq beq_nil len_nil).mono fun c hc => ev_some (hc.trans ?_))
    simp [h2]
  · have h1 : r.kind ≠ 1 := by simpa using h1
    have h2 : r.kind ≠ 2 := by simpa using h2
    refine ev_bind (ev_if (fun h => ev_some (ev_some ?_)) fun h => ev_some (ev_some ?_))
    · have h := eq_of_beq h
      rw [eqV_zero]; simp [h1, h2, h]
    · have h : r.input ≠ 0 := by simpa using h
      simp [h1, h2, h]
theorem out_iff {a n : Int} : Ev (bif decide (a < 0) then some true else some (decide (n ≤ a)) : Option Bool) fun b => b = true ↔ ¬ (0 ≤ a ∧ a < n) := by
  refine ev_if (fun h => ev_some ?_) fun h => ev_some ?_
  · have := of_decide_eq_true h; simp; omega
  · have := of_decide_eq_false h; rw [decide_eq_true_eq]; omega
theorem iff_no {c : Int} {p : Prop} (h1 : c ≠ 0) (h2 : ¬ p) : c = 0 ↔ p := ⟨fun h => absurd h h1, fun h => absurd h h2⟩
theorem oper_iff {l : La} {r : Ru} (ha : r.args.length ≤ 4000000000) (hs : 0 ≤ r.symbol ∧ r.symbol < (l.symbols.length : Int)) : Ev (synthesisref11_operation l r) fun c => c = 0 ↔ ∃ o, synthesisref09_Find r.op = some (o, true) ∧ r.args.length = o.f_Args.length ∧ (∀ i (h : i < r.args.length), (0 ≤ r.args[i] ∧ r.args[i] < (l.symbols.length : Int)) ∧ o.f_Args[i]? = some (tyOf l r.args[i])) ∧ tyOf l r.symbol = o.f_Result := by
  obtain ⟨⟨o, ok⟩, _, hf⟩ := find_both r.op
  unfold synthesisref11_operation
  rw [hf, Option.bind_some]
  refine ev_if (fun h => ev_some ?_) fun h => ?_
  · have h : ok = false := by simpa using h
    subst h
    exact iff_no (by decide) fun ⟨o', h1, _⟩ => by simp at h1
  have h : ok = true := by simpa using h
  subst h
  rw [len_bne]
  refine ev_if (fun h => ev_some ?_) fun h => ?_
  · have h : ¬ r.args.length = o.f_Args.length := by simpa using h
    exact iff_no (by decide) fun ⟨o', h1, h2, _⟩ => by simp at h1; subst h1; exact h h2
  have hl : r.args.length = o.f_Args.length := by simpa using h
  refine ev_bind ((ev_all (b0 := .inl ()) r.args.length ha (fun i => ∀ h : i < r.args.length, (0 ≤ r.args[i] ∧ r.args[i] < (l.symbols.length : Int)) ∧ o.f_Args[i]? = some (tyOf l r.args[i])) (fun b => ∃ e : Int, b = .inr e ∧ e ≠ 0) (fun i hi _ => ?_) (by simp only [synthesisref11_operation_l1, lt_len', cond_false])).mono fun v hv => ?_)
  · unfold synthesisref11_operation_l1
    simp only [lt_len hi, cond_true, idx_nat, List.getElem?_eq_getElem hi, Option.bind_some]
    refine ev_bind (out_iff.mono fun b hb => ?_)
    refine ev_if (fun h => ev_some (.inr ⟨_, rfl, ⟨1, rfl, by decide⟩, fun hh => hb.1 h (hh hi).1⟩)) fun h => ?_
    have hr : 0 ≤ r.args[i] ∧ r.args[i] < (l.symbols.length : Int) := Classical.byContradiction fun hn => by rw [hb.2 hn] at h; cases h
    obtain ⟨x, hx, hx2⟩ := idx_ty hr.1 hr.2
    have hi2 : i < o.f_Args.length := by omega
    rw [hx, Option.bind_some, List.getElem?_eq_getElem hi2, Option.bind_some]
    refine ev_if (fun h => ev_some (.inr ⟨_, rfl, ⟨3, rfl, by decide⟩, fun hh => ?_⟩)) fun h => ev_some (.inl ⟨rfl, fun _ => ⟨hr, ?_⟩⟩)
    · have := (hh hi).2
      rw [Option.some.injEq] at this
      rw [hx2, ← this] at h
      simp at h
    · rw [bne_eq_false_iff_eq] at h
      rw [← h, hx2]
  · rcases hv with ⟨rfl, hv⟩ | ⟨⟨e, rfl, he⟩, hv⟩
    · simp only [Sum.elim_inl]
      obtain ⟨x, hx, hx2⟩ := idx_ty hs.1 hs.2
      rw [hx, Option.bind_some]
      refine ev_if (fun h => ev_some ?_) fun h => ev_some ?_
      · refine iff_no (by decide) fun ⟨o', h1, _, _, h4⟩ => ?_
        simp at h1; subst h1
        rw [hx2, h4] at h; simp at h
      · rw [bne_eq_false_iff_eq, hx2] at h
        exact ⟨fun _ => ⟨o, rfl, hl, fun i hi => hv i hi hi, h⟩, fun _ => rfl⟩
    · exact ev_some (iff_no he fun ⟨o', h1, _, h3, _⟩ => by simp at h1; subst h1; exact hv fun i hi hi' => h3 i hi')
theorem rule_iff {l : La} {r : Ru} (hr : wideR r) (ha : r.args.length ≤ 4000000000) : Ev (synthesisref11_rule l r) fun c => c = 0 ↔ ValidR l r := by
  unfold synthesisref11_rule ValidR
  refine ev_bind (out_iff.mono fun b hb => ?_)
  refine ev_if (fun h => ev_some (iff_no (by decide) fun hh => hb.1 h hh.1)) fun h => ?_
  have hs : 0 ≤ r.symbol ∧ r.symbol < (l.symbols.length : Int) := Classical.byContradiction fun hn => by rw [hb.2 hn] at h; cases h
  obtain ⟨z, hz, hz2⟩ := zero_iff r
  have hform : Ev (bif decide (r.kind < 1) then some true else bif decide (3 < r.kind) then some true else Option.bind (synthesisref11_zero r) fun v3 => some (!v3) : Option Bool) fun b => b = false ↔ (1 ≤ r.kind ∧ r.kind ≤ 3) ∧ z = true := by
    refine ev_if (fun h => ev_some ?_) fun h => ev_if (fun h2 => ev_some ?_) fun h2 => ?_
    · have := of_decide_eq_true h; simp; omega
    · have := of_decide_eq_true h2; simp; omega
    · have := of_decide_eq_false h; have := of_decide_eq_false h2
      rw [hz, Option.bind_some]
      refine ev_some ?_
      rw [Bool.not_eq_false']
      exact ⟨fun h => ⟨by omega, h⟩, fun h => h.2⟩
  refine ev_bind (hform.mono fun f hf => ?_)
  refine ev_if (fun h => ev_some (iff_no (by decide) fun hh => ?_)) fun h => ?_
  · have hzt : z = true := by
      rw [hz2]
      rcases hh.2 with h | h | h
      · exact .inl ⟨h.1, h.2.1, h.2.2.1, h.2.2.2.1⟩
      · exact .inr (.inl ⟨h.1, h.2.1, h.2.2.1, h.2.2.2.1⟩)
      · exact .inr (.inr ⟨by omega, by omega, h.2.1, h.2.2.1⟩)
    have : f = false := hf.2 ⟨by rcases hh.2 with h | h | h <;> omega, hzt⟩
    rw [this] at h; cases h
  obtain ⟨hk, hzt⟩ := hf.1 h
  have hzt := hz2.1 hzt
  obtain ⟨x, hx, hx2⟩ := idx_ty hs.1 hs.2
  rw [hx, Option.bind_some]
  refine ev_if (fun h1 => ?_) fun h1 => ev_if (fun h2 => ?_) fun h2 => ?_
  · have h1 := eq_of_beq h1
    obtain ⟨_, g1, g2, g3⟩ : r.kind = 1 ∧ r.const = zeroV ∧ r.op = ⟨#[]⟩ ∧ r.args = [] := by
      rcases hzt with h | h | h
      · exact h
      · have := h.1; omega
      · exact absurd h1 h.1
    refine ev_bind (out_iff.mono fun b hb => ?_)
    refine ev_if (fun h => ev_some (iff_no (by decide) fun hh => ?_)) fun h => ?_
    · rcases hh.2 with q | q | q
      · exact hb.1 h q.2.2.2.2.1
      · have := q.1; omega
      · have := q.1; omega
    have hin : 0 ≤ r.input ∧ r.input < (l.inputs.length : Int) := Classical.byContradiction fun hn => by rw [hb.2 hn] at h; cases h
    have hid : idx l.inputs r.input = some (l.inputs.getD r.input.toNat 0) := by
      unfold idx
      rw [if_pos hin.1, List.getD_eq_getElem?_getD, List.getElem?_eq_getElem (by omega)]
      rfl
    rw [hid, Option.bind_some]
    refine ev_if (fun h => ev_some (iff_no (by decide) fun hh => ?_)) fun h => ev_some ⟨fun _ => ⟨hs, .inl ⟨h1, g1, g2, g3, hin, ?_⟩⟩, fun _ => rfl⟩
    · rcases hh.2 with q | q | q
      · rw [hx2, q.2.2.2.2.2] at h; simp at h
      · have := q.1; omega
      · have := q.1; omega
    · rw [bne_eq_false_iff_eq, hx2] at h; exact h
  · have h1 : r.kind ≠ 1 := by simpa using h1
    have h2 := eq_of_beq h2
    obtain ⟨_, g1, g2, g3⟩ : r.kind = 2 ∧ r.input = 0 ∧ r.op = ⟨#[]⟩ ∧ r.args = [] := by
      rcases hzt with h | h | h
      · exact absurd h.1 h1
      · exact h
      · exact absurd h2 h.2.1
    obtain ⟨c, c1, c2, _⟩ := Check_u hr.2
    rw [c2, Option.bind_some]
    refine ev_if (fun h => ev_some (iff_no (by simpa using h) fun hh => ?_)) fun h => ?_
    · rcases hh.2 with q | q | q
      · exact h1 q.1
      · have := q.2.2.2.2.1
        rw [c1] at this
        rw [Option.some.inj this] at h; simp at h
      · have := q.1; omega
    rw [bne_eq_false_iff_eq] at h
    subst h
    refine ev_if (fun h => ev_some (iff_no (by decide) fun hh => ?_)) fun h => ev_some ⟨fun _ => ⟨hs, .inr (.inl ⟨h2, g1, g2, g3, c1, ?_⟩)⟩, fun _ => rfl⟩
    · rcases hh.2 with q | q | q
      · exact h1 q.1
      · rw [hx2, q.2.2.2.2.2] at h; simp at h
      · have := q.1; omega
    · rw [bne_eq_false_iff_eq, hx2] at h; exact h
  · have h1 : r.kind ≠ 1 := by simpa using h1
    have h2 : r.kind ≠ 2 := by simpa using h2
    obtain ⟨_, _, g1, g2⟩ : r.kind ≠ 1 ∧ r.kind ≠ 2 ∧ r.input = 0 ∧ r.const = zeroV := by
      rcases hzt with h | h | h
      · exact absurd h.1 h1
      · exact absurd h.1 h2
      · exact h
    refine ev_bind ((oper_iff ha hs).mono fun c hc => ev_some (hc.trans ⟨fun h => ⟨hs, .inr (.inr ⟨by omega, g1, g2, h⟩)⟩, fun h => ?_⟩))
    rcases h.2 with q | q | q
    · exact absurd q.1 h1
    · exact absurd q.1 h2
    · exact q.2.2.2
def typOk (t : Int) : Prop := 1 ≤ t ∧ t ≤ 8
theorem typed_iff (t : Int) : Ev (synthesisref11_typed t) fun b => b = true ↔ typOk t := by
  rw [typed_eq']
  exact ev_some (by unfold tyB typOk; simp)
/-- a valid language -/
structure ValidL (l : La) : Prop where
  name : nameOk l.name
  inputs : l.inputs.length ≤ 4
  typs : ∀ i (h : i < l.inputs.length), typOk l.inputs[i]
  sym1 : 1 ≤ l.symbols.length
  sym16 : l.symbols.length ≤ 16
  names : ∀ i (h : i < l.symbols.length), nameOk l.symbols[i].name
  once : ∀ i j (h : i < l.symbols.length) (h2 : j < l.symbols.length), i < j → l.symbols[i].name ≠ l.symbols[j].name
  types : ∀ i (h : i < l.symbols.length), typOk l.symbols[i].type
  rules : l.rules.length ≤ 96
  valid : ∀ i (h : i < l.rules.length), ValidR l l.rules[i]
  diff : ∀ i j (h : i < l.rules.length) (h2 : j < l.rules.length), i < j → l.rules[i] ≠ l.rules[j]
theorem symC_l1 {l : La} {i : Nat} (hi : i < l.symbols.length) (hn : l.symbols.length ≤ 4000000000) : Ev (loopN (synthesisref11_Check_l1 l (i : Int)) fuel 0) fun (r : Unit ⊕ Int) => (r = .inl () ∧ ∀ k, k < i → ∀ h : k < l.symbols.length, l.symbols[k].name ≠ l.symbols[i].name) ∨ (r = .inr 6 ∧ ¬ ∀ k, k < i → ∀ h : k < l.symbols.length, l.symbols[k].name ≠ l.symbols[i].name) := by
  refine ev_all (β := Unit ⊕ Int) (b0 := .inl ()) i (by omega) (fun k => ∀ h : k < l.symbols.length, l.symbols[k].name ≠ l.symbols[i].name) (fun (b : Unit ⊕ Int) => b = .inr 6) (fun k hk _ => ?_) (by simp only [synthesisref11_Check_l1, lt_len', cond_false])
  have hk' : k < l.symbols.length := by omega
  unfold synthesisref11_Check_l1
  simp only [lt_len hk, cond_true, idx_nat, List.getElem?_eq_getElem hi, List.getElem?_eq_getElem hk', Option.bind_some]
  refine ev_if (fun h => ev_some (.inr ⟨_, rfl, rfl, fun hh => hh hk' (beqB_iff.1 h)⟩)) fun h => ev_some (.inl ⟨rfl, fun _ e => ?_⟩)
  rw [beqB_iff.2 e] at h; cases h
theorem rulC_l2 {l : La} {i : Nat} (hi : i < l.rules.length) (hn : l.rules.length ≤ 4000000000) (hm : ∀ k, k ≤ i → ∀ h : k < l.rules.length, modR l.rules[k]) : Ev (loopN (synthesisref11_Check_l2 l (i : Int)) fuel 0) fun (r : Unit ⊕ Int) => (r = .inl () ∧ ∀ k, k < i → ∀ h : k < l.rules.length, l.rules[k] ≠ l.rules[i]) ∨ (r = .inr 6 ∧ ¬ ∀ k, k < i → ∀ h : k < l.rules.length, l.rules[k] ≠ l.rules[i]) := by
  refine ev_all (β := Unit ⊕ Int) (b0 := .inl ()) i (by omega) (fun k => ∀ h : k < l.rules.length, l.rules[k] ≠ l.rules[i]) (fun (b : Unit ⊕ Int) => b = .inr 6) (fun k hk _ => ?_) (by simp only [synthesisref11_Check_l2, lt_len', cond_false])
  have hk' : k < l.rules.length := by omega
  obtain ⟨c, hc, hc2⟩ := (sameR_iff (hm k (by omega) hk') (hm i (Nat.le_refl _) hi)).2
  unfold synthesisref11_Check_l2
  simp only [lt_len hk, cond_true, idx_nat, List.getElem?_eq_getElem hi, List.getElem?_eq_getElem hk', Option.bind_some, hc]
  refine ev_if (fun h => ev_some (.inr ⟨_, rfl, rfl, fun hh => hh hk' (hc2.1 h)⟩)) fun h => ev_some (.inl ⟨rfl, fun _ e => ?_⟩)
  rw [hc2.2 e] at h; cases h
theorem ValidR.modR {l : La} {r : Ru} (hr : wideR r) (h : ValidR l r) : modR r := by
  obtain ⟨c, hc, hc2⟩ := rule_iff (l := l) hr (by
    rcases h.2 with q | q | q
    · rw [q.2.2.2.1]; simp
    · rw [q.2.2.2.1]; simp
    · obtain ⟨o, h1, h2, _⟩ := q.2.2.2
      have := find_len h1 rfl
      simp only at this
      omega)
  rw [hc2.2 h] at hc
  exact (rule_good hr hc).mod
theorem check_iff {l : La} (hw : wideL l) (h1 : l.name.size ≤ 4000000000) (h2 : l.symbols.length ≤ 4000000000) (h3 : ∀ x ∈ l.symbols, x.name.size ≤ 4000000000) (h4 : l.rules.length ≤ 4000000000) (h5 : ∀ r ∈ l.rules, r.args.length ≤ 4000000000) : Ev (synthesisref11_Check l) fun c => c = 0 ↔ ValidL l := by
  unfold synthesisref11_Check
  refine ev_bind ((name_iff h1).mono fun b hb => ?_)
  refine ev_if (fun h => ev_some (iff_no (by decide) fun hh => ?_)) fun h => ?_
  · rw [hb.2 hh.name] at h; cases h
  have g1 : nameOk l.name := hb.1 (by simpa using h)
  refine ev_if (fun h => ev_some (iff_no (by decide) fun hh => ?_)) fun h => ?_
  · have := of_decide_eq_true h; have := hh.inputs; omega
  have g2 := of_decide_eq_false h
  refine ev_bind ((ev_all (b0 := .inl ()) l.inputs.length (by omega) (fun i => ∀ h : i < l.inputs.length, typOk l.inputs[i]) (fun b => ∃ e : Int, b = .inr e ∧ e ≠ 0) (fun i hi _ => ?_) (by simp only [synthesisref11_Check_l5, lt_len', cond_false])).mono fun v hv => ?_)
  · obtain ⟨t, ht, ht2⟩ := typed_iff l.inputs[i]
    unfold synthesisref11_Check_l5
    simp only [lt_len hi, cond_true, idx_nat, List.getElem?_eq_getElem hi, Option.bind_some, ht]
    refine ev_if (fun h => ev_some (.inr ⟨_, rfl, ⟨3, rfl, by decide⟩, fun hh => ?_⟩)) fun h => ev_some (.inl ⟨rfl, fun _ => ht2.1 (by simpa using h)⟩)
    rw [ht2.2 (hh hi)] at h; cases h
  rcases hv with ⟨rfl, hv⟩ | ⟨⟨e, rfl, he⟩, hv⟩
  rotate_left
  · exact ev_some (iff_no he fun hh => hv fun i hi hi' => hh.typs i hi')
  simp only [Sum.elim_inl]
  have hcnt : Ev (bif decide ((l.symbols.length : Int) < 1) then some true else some (decide (16 < (l.symbols.length : Int))) : Option Bool) fun b => b = false ↔ 1 ≤ l.symbols.length ∧ l.symbols.length ≤ 16 := by
    refine ev_if (fun h => ev_some ?_) fun h => ev_some ?_
    · have := of_decide_eq_true h; simp; omega
    · have := of_decide_eq_false h; rw [decide_eq_false_iff_not]; omega
  refine ev_bind (hcnt.mono fun b hb => ?_)
  refine ev_if (fun h => ev_some (iff_no (by decide) fun hh => ?_)) fun h => ?_
  · rw [hb.2 ⟨hh.sym1, hh.sym16⟩] at h; cases h
  have g3 := hb.1 h
  refine ev_bind ((ev_all (b0 := .inl ()) l.symbols.length h2 (fun i => ∀ h : i < l.symbols.length, nameOk l.symbols[i].name ∧ (∀ k, k < i → ∀ h : k < l.symbols.length, l.symbols[k].name ≠ l.symbols[i].name) ∧ typOk l.symbols[i].type) (fun b => ∃ e : Int, b = .inr e ∧ e ≠ 0) (fun i hi _ => ?_) (by simp only [synthesisref11_Check_l4, lt_len', cond_false])).mono fun v hv2 => ?_)
  · unfold synthesisref11_Check_l4
    simp only [lt_len hi, cond_true, idx_nat, List.getElem?_eq_getElem hi, Option.bind_some]
    refine ev_bind ((name_iff (h3 _ (List.getElem_mem hi))).mono fun b hb => ?_)
    refine ev_if (fun h => ev_some (.inr ⟨_, rfl, ⟨5, rfl, by decide⟩, fun hh => ?_⟩)) fun h => ?_
    · rw [hb.2 (hh hi).1] at h; cases h
    refine ev_bind ((symC_l1 hi h2).mono fun r hr => ?_)
    rcases hr with ⟨rfl, hr⟩ | ⟨rfl, hr⟩
    rotate_left
    · exact ev_some (.inr ⟨_, rfl, ⟨6, rfl, by decide⟩, fun hh => hr (hh hi).2.1⟩)
    simp only [Sum.elim_inl]
    refine ev_bind ((typed_iff _).mono fun c hc => ?_)
    refine ev_if (fun h => ev_some (.inr ⟨_, rfl, ⟨3, rfl, by decide⟩, fun hh => ?_⟩)) fun h' => ev_some (.inl ⟨rfl, fun _ => ⟨hb.1 (by simpa using h), hr, hc.1 (by simpa using h')⟩⟩)
    rw [hc.2 (hh hi).2.2] at h; cases h
  rcases hv2 with ⟨rfl, hv2⟩ | ⟨⟨e, rfl, he⟩, hv2⟩
  rotate_left
  · exact ev_some (iff_no he fun hh => hv2 fun i hi hi' => ⟨hh.names i hi', fun k hk hk' => hh.once k i hk' hi' hk, hh.types i hi'⟩)
  simp only [Sum.elim_inl]
  refine ev_if (fun h => ev_some (iff_no (by decide) fun hh => ?_)) fun h => ?_
  · have := of_decide_eq_true h; have := hh.rules; omega
  have g4 := of_decide_eq_false h
  refine ev_bind ((ev_all (b0 := .inl ()) l.rules.length h4 (fun i => ∀ h : i < l.rules.length, ValidR l l.rules[i] ∧ ∀ k, k < i → ∀ h : k < l.rules.length, l.rules[k] ≠ l.rules[i]) (fun b => ∃ e : Int, b = .inr e ∧ e ≠ 0) (fun i hi hall => ?_) (by simp only [synthesisref11_Check_l3, lt_len', cond_false])).mono fun v hv3 => ?_)
  · have hmem := List.getElem_mem hi
    unfold synthesisref11_Check_l3
    simp only [lt_len hi, cond_true, idx_nat, List.getElem?_eq_getElem hi, Option.bind_some]
    refine ev_bind ((rule_iff (l := l) (hw.wide _ hmem) (h5 _ hmem)).mono fun c hc => ?_)
    refine ev_if (fun h => ev_some (.inr ⟨_, rfl, ⟨c, rfl, by simpa using h⟩, fun hh => ?_⟩)) fun h => ?_
    · rw [hc.2 (hh hi).1] at h; simp at h
    have hvr : ValidR l l.rules[i] := hc.1 (by simpa using h)
    refine ev_bind ((rulC_l2 hi h4 fun k hk hk' => ?_).mono fun r hr => ?_)
    · have hmk := hw.wide _ (List.getElem_mem hk')
      by_cases hki : k = i
      · subst hki; exact hvr.modR hmk
      · exact (hall k (by omega) hk').1.modR hmk
    rcases hr with ⟨rfl, hr⟩ | ⟨rfl, hr⟩
    · exact ev_some (.inl ⟨rfl, fun _ => ⟨hvr, hr⟩⟩)
    · exact ev_some (.inr ⟨_, rfl, ⟨6, rfl, by decide⟩, fun hh => hr (hh hi).2⟩)
  rcases hv3 with ⟨rfl, hv3⟩ | ⟨⟨e, rfl, he⟩, hv3⟩
  · refine ev_some ⟨fun _ => ⟨g1, by omega, fun i hi => hv i hi hi, g3.1, g3.2, fun i hi => (hv2 i hi hi).1, fun i j hi hj hij => (hv2 j hj hj).2.1 i hij hi, fun i hi => (hv2 i hi hi).2.2, by omega, fun i hi => (hv3 i hi hi).1, fun i j hi hj hij => (hv3 j hj hj).2 i hij hi⟩, fun _ => rfl⟩
  · exact ev_some (iff_no he fun hh => hv3 fun i hi hi' => ⟨hh.valid i hi', fun k hk hk' => hh.diff k i hk' hi' hk⟩)
end Go.Proofs.YtfhmljjkhjifeaaGreatDoor
set_option linter.unusedVariables false
set_option linter.unusedSimpArgs false
set_option maxRecDepth 100000
namespace Go.Proofs.YtfhmljjkhjifeaaGreatDoor
open Go Go.RowKit

theorem selN_rank {p : Nat → Bool} {k i : Nat} : ∀ {n : Nat}, (selN p n)[k]? = some i → (selN p i).length = k ∧ p i = true ∧ i < n := by
  intro n
  induction n with
  | zero => intro h; simp [selN_zero] at h
  | succ n ih =>
    intro h
    cases hb : p n with
    | false =>
      rw [selN_no hb] at h
      obtain ⟨h1, h2, h3⟩ := ih h
      exact ⟨h1, h2, by omega⟩
    | true =>
      rw [selN_yes hb] at h
      by_cases hk : k < (selN p n).length
      · rw [List.getElem?_append_left hk] at h
        obtain ⟨h1, h2, h3⟩ := ih h
        exact ⟨h1, h2, by omega⟩
      · rw [List.getElem?_append_right (by omega)] at h
        have h0 : k - (selN p n).length = 0 := by
          have := get_lt h
          simp at this; omega
        rw [h0] at h
        simp at h
        subst h
        exact ⟨by omega, hb, by omega⟩
theorem keep0 (l : La) (h : 1 ≤ l.symbols.length) : mk (keepL l) 0 = true := by
  unfold keepL selfR
  rw [if_pos rfl, mk_set (by rw [refReach_len]; omega), if_pos rfl]
theorem keep_lt {l : La} {i : Nat} (h : mk (keepL l) i = true) : i < l.symbols.length := by
  refine Classical.byContradiction fun hn => ?_
  unfold mk at h
  rw [List.getD_eq_getElem?_getD, List.getElem?_eq_none (by rw [keepL_len]; omega)] at h
  cases h
theorem rk_lt {l : La} {i : Nat} (h : mk (keepL l) i = true) : rkL l i < rkL l l.symbols.length := selN_lt (keep_lt h) h
theorem sy_getD {l : La} {i : Nat} (h : i < l.symbols.length) : l.symbols.getD i syD = l.symbols[i] := by simp [List.getD_eq_getElem?_getD, h]
theorem sym_at {l : La} {i : Nat} (h : mk (keepL l) i = true) : (trimL l).symbols[rkL l i]? = some (l.symbols.getD i syD) := by
  show (symsL l l.symbols.length)[rkL l i]? = _
  unfold symsL rkL
  rw [List.getElem?_map, selN_at (keep_lt h) h]
  rfl
theorem sym_of {l : La} {k : Nat} (h : k < (trimL l).symbols.length) : ∃ i, mk (keepL l) i = true ∧ rkL l i = k ∧ (trimL l).symbols[k] = l.symbols.getD i syD := by
  have h' : k < (selN (mk (keepL l)) l.symbols.length).length := by
    have : (trimL l).symbols.length = rkL l l.symbols.length := symsL_len l _
    unfold rkL at this; omega
  have e := List.getElem?_eq_getElem h'
  obtain ⟨h1, h2, h3⟩ := selN_rank e
  refine ⟨_, h2, h1, ?_⟩
  show (symsL l l.symbols.length)[k]'h = _
  simp only [symsL, List.getElem_map]
theorem trimL_syms (l : La) : (trimL l).symbols.length = rkL l l.symbols.length := symsL_len l _
theorem ty_trim {l : La} {a : Int} (h : mk (keepL l) a.toNat = true) : tyOf (trimL l) (rkL l a.toNat : Int) = tyOf l a := by
  unfold tyOf
  rw [Int.toNat_natCast, List.getD_eq_getElem?_getD, sym_at h]
  rfl
theorem rul_of {l : La} {k : Nat} (h : k < (trimL l).rules.length) : ∃ i, ∃ hi : i < l.rules.length, keepR l i = true ∧ (selN (keepR l) i).length = k ∧ (trimL l).rules[k] = newR l l.rules[i] ∧ (idxL l l.rules.length)[k]? = some (i : Int) := by
  have h' : k < (selN (keepR l) l.rules.length).length := by
    have : (trimL l).rules.length = (selN (keepR l) l.rules.length).length := by show (rulsL l _).length = _; simp [rulsL]
    omega
  have e := List.getElem?_eq_getElem h'
  obtain ⟨h1, h2, h3⟩ := selN_rank e
  refine ⟨_, h3, h2, h1, ?_, ?_⟩
  · show (rulsL l l.rules.length)[k]'h = _
    simp only [rulsL, List.getElem_map]
    rw [rd_eq h3]
  · unfold idxL
    rw [List.getElem?_map, e]
    rfl
theorem rul_at {l : La} {i : Nat} (hi : i < l.rules.length) (h : keepR l i = true) : newR l l.rules[i] ∈ (trimL l).rules := by
  show _ ∈ rulsL l l.rules.length
  unfold rulsL
  exact List.mem_map.2 ⟨i, mem_selN.2 ⟨hi, h⟩, by rw [rd_eq hi]⟩
theorem keepR_iff {l : La} {i : Nat} (hi : i < l.rules.length) : keepR l i = true ↔ mk (keepL l) l.rules[i].symbol.toNat = true ∧ allB l.rules[i] (prodL l) = true := by
  unfold keepR
  rw [rd_eq hi, Bool.and_eq_true]
theorem keep_prod {l : La} (hg : GoodL l) (h0 : mk (prodL l) 0 = true) {y : Nat} (h : mk (keepL l) y = true) : mk (prodL l) y = true := by
  unfold keepL selfR at h
  rw [if_pos rfl, mk_set (by rw [refReach_len]; have := hg.sym1; omega)] at h
  split at h
  · rename_i he; rw [← he]; exact h0
  · rw [refReach_iff hg] at h
    have last : ∀ {x y : Nat}, y ∈ succA (fun r => allB r (prodL l)) l x → mk (prodL l) y = true := fun {x y} hy => by
      obtain ⟨r, hr, _, ha, hy⟩ := mem_succ.1 hy
      obtain ⟨a, haa, rfl⟩ := List.mem_map.1 hy
      exact allB_iff.1 ha a haa
    cases h with
    | single h => exact last h
    | tail _ h => exact last h
theorem newR_args {l : La} {r : Ru} : (newR l r).args = r.args.map fun a => (rkL l a.toNat : Int) := rfl
theorem trim_validR {l : La} (hg : GoodL l) (hv : ValidL l) {i : Nat} (hi : i < l.rules.length) (hk : keepR l i = true) : ValidR (trimL l) (newR l l.rules[i]) := by
  obtain ⟨k1, k2⟩ := (keepR_iff hi).1 hk
  have hr := List.getElem_mem hi
  have ka := keep_closed hg hr k1 k2
  have hval := hv.valid i hi
  have hs : 0 ≤ (newR l l.rules[i]).symbol ∧ (newR l l.rules[i]).symbol < ((trimL l).symbols.length : Int) := by
    have := rk_lt k1
    rw [trimL_syms]
    show 0 ≤ ((rkL l l.rules[i].symbol.toNat : Nat) : Int) ∧ ((rkL l l.rules[i].symbol.toNat : Nat) : Int) < _
    omega
  have ht : tyOf (trimL l) (newR l l.rules[i]).symbol = tyOf l l.rules[i].symbol := ty_trim k1
  refine ⟨hs, ?_⟩
  rw [ht]
  rcases hval.2 with q | q | q
  · exact .inl ⟨q.1, q.2.1, q.2.2.1, by rw [newR_args, q.2.2.2.1]; rfl, q.2.2.2.2⟩
  · exact .inr (.inl ⟨q.1, q.2.1, q.2.2.1, by rw [newR_args, q.2.2.2.1]; rfl, q.2.2.2.2⟩)
  · obtain ⟨q1, q2, q3, o, q4, q5, q6, q7⟩ := q
    refine .inr (.inr ⟨q1, q2, q3, o, q4, by rw [newR_args, List.length_map]; exact q5, fun k hk => ?_, q7⟩)
    have hk' : k < l.rules[i].args.length := by rw [newR_args, List.length_map] at hk; exact hk
    have e : (newR l l.rules[i]).args[k] = (rkL l l.rules[i].args[k].toNat : Int) := by simp [newR]
    have kk := ka _ (List.getElem_mem hk')
    rw [e, ty_trim kk, trimL_syms]
    have := rk_lt kk
    exact ⟨⟨by omega, by omega⟩, (q6 k hk').2⟩
theorem newR_inj {l : La} (hg : GoodL l) {i j : Nat} (hi : i < l.rules.length) (hj : j < l.rules.length) (ki : keepR l i = true) (kj : keepR l j = true) (h : newR l l.rules[i] = newR l l.rules[j]) : l.rules[i] = l.rules[j] := by
  obtain ⟨k1, k2⟩ := (keepR_iff hi).1 ki
  obtain ⟨m1, m2⟩ := (keepR_iff hj).1 kj
  have ka := keep_closed hg (List.getElem_mem hi) k1 k2
  have kb := keep_closed hg (List.getElem_mem hj) m1 m2
  have gi := hg.good _ (List.getElem_mem hi)
  have gj := hg.good _ (List.getElem_mem hj)
  unfold newR at h
  injection h with e1 e2 e3 e4 e5 e6
  refine ru_ext ?_ e2 e3 e5 ?_ e4
  · have := selN_inj k1 m1 (by unfold rkL at e1; omega)
    have := gi.sym0; have := gj.sym0; omega
  · have hl : l.rules[i].args.length = l.rules[j].args.length := by have := congrArg List.length e6; simpa using this
    refine List.ext_getElem hl fun k q1 q2 => ?_
    have e := congrArg (fun xs : List Int => xs[k]?) e6
    simp only [List.getElem?_map, List.getElem?_eq_getElem q1, List.getElem?_eq_getElem q2, Option.map_some, Option.some.injEq] at e
    have := selN_inj (ka _ (List.getElem_mem q1)) (kb _ (List.getElem_mem q2)) (by unfold rkL at e; omega)
    have := (gi.args _ (List.getElem_mem q1)).1; have := (gj.args _ (List.getElem_mem q2)).1; omega
theorem trim_valid {l : La} (hg : GoodL l) (hv : ValidL l) : ValidL (trimL l) := by
  have h1 := hg.sym1
  refine ⟨hv.name, hv.inputs, hv.typs, ?_, ?_, fun i hi => ?_, fun i j hi hj hij => ?_, fun i hi => ?_, ?_, fun i hi => ?_, fun i j hi hj hij => ?_⟩
  · rw [trimL_syms]; have := rk_lt (keep0 l h1); omega
  · rw [trimL_syms]; have := rkL_le l l.symbols.length; have := hv.sym16; omega
  · obtain ⟨k, k1, k2, k3⟩ := sym_of hi
    rw [k3, sy_getD (keep_lt k1)]
    exact hv.names k (keep_lt k1)
  · obtain ⟨a, a1, a2, a3⟩ := sym_of hi
    obtain ⟨b, b1, b2, b3⟩ := sym_of hj
    rw [a3, b3, sy_getD (keep_lt a1), sy_getD (keep_lt b1)]
    refine hv.once a b (keep_lt a1) (keep_lt b1) ?_
    refine Classical.byContradiction fun hn => ?_
    have : rkL l b ≤ rkL l a := selN_mono_len (by omega)
    omega
  · obtain ⟨k, k1, k2, k3⟩ := sym_of hi
    rw [k3, sy_getD (keep_lt k1)]
    exact hv.types k (keep_lt k1)
  · have := rulsL_len l l.rules.length; have := hv.rules; show (rulsL l _).length ≤ 96; omega
  · obtain ⟨k, k0, k1, k2, k3, _⟩ := rul_of hi
    rw [k3]
    exact trim_validR hg hv k0 k1
  · obtain ⟨a, a0, a1, a2, a3, _⟩ := rul_of hi
    obtain ⟨b, b0, b1, b2, b3, _⟩ := rul_of hj
    rw [a3, b3]
    intro e
    refine hv.diff a b a0 b0 ?_ (newR_inj hg a0 b0 a1 b1 e)
    refine Classical.byContradiction fun hn => ?_
    have : (selN (keepR l) b).length ≤ (selN (keepR l) a).length := selN_mono_len (by omega)
    omega
theorem trim_prod {l : La} (hg : GoodL l) (h0 : mk (prodL l) 0 = true) {t : La} (ht : t = trimL l) (gt : GoodL t) {y : Nat} (hy : mk (keepL l) y = true) : mk (prodL t) (rkL l y) = true := by
  have key := prod_ind (l := l) (I := fun y => mk (prodL l) y = true ∧ (mk (keepL l) y = true → mk (prodL t) (rkL l y) = true)) (fun r hr ha => by
    have h1 : allB r (prodL l) = true := allB_iff.2 fun a h => (ha a h).1
    refine ⟨prod_closed hg hr h1, fun hk => ?_⟩
    obtain ⟨i, hi, rfl⟩ := List.mem_iff_getElem.1 hr
    have hkr : keepR l i = true := (keepR_iff hi).2 ⟨hk, h1⟩
    have hm := rul_at hi hkr
    rw [← ht] at hm
    have := prod_closed gt hm (allB_iff.2 fun a haa => by
      rw [newR_args] at haa
      obtain ⟨b, hb, rfl⟩ := List.mem_map.1 haa
      rw [Int.toNat_natCast]
      exact (ha b hb).2 (keep_closed hg hr hk h1 b hb))
    have e : (newR l l.rules[i]).symbol.toNat = rkL l l.rules[i].symbol.toNat := rfl
    rwa [e] at this) y (keep_prod hg h0 hy)
  exact key.2 hy
theorem trim_reach {l : La} (hg : GoodL l) {t : La} (ht : t = trimL l) {y : Nat} (hy : Reach (succA (fun r => allB r (prodL l)) l) 0 y) : mk (keepL l) y = true ∧ Reach (succA (fun _ => true) t) 0 (rkL l y) := by
  have hk0 := keep0 l hg.sym1
  have step : ∀ {x y : Nat}, mk (keepL l) x = true → y ∈ succA (fun r => allB r (prodL l)) l x → mk (keepL l) y = true ∧ rkL l y ∈ succA (fun _ => true) t (rkL l x) := fun {x y} hx hy => by
    obtain ⟨r, hr, rfl, ha, hy⟩ := mem_succ.1 hy
    obtain ⟨a, haa, rfl⟩ := List.mem_map.1 hy
    have ka := keep_closed hg hr hx ha a haa
    obtain ⟨i, hi, rfl⟩ := List.mem_iff_getElem.1 hr
    have hm := rul_at hi ((keepR_iff hi).2 ⟨hx, ha⟩)
    rw [← ht] at hm
    refine ⟨ka, mem_succ.2 ⟨_, hm, rfl, rfl, ?_⟩⟩
    unfold argN
    rw [newR_args, List.map_map]
    exact List.mem_map.2 ⟨a, haa, by simp⟩
  have r0 : rkL l 0 = 0 := rfl
  induction hy with
  | single h =>
    obtain ⟨h1, h2⟩ := step hk0 h
    rw [r0] at h2
    exact ⟨h1, .single h2⟩
  | tail _ h ih =>
    obtain ⟨h1, h2⟩ := step ih.1 h
    exact ⟨h1, .tail ih.2 h2⟩
theorem trim_all {l : La} (hg : GoodL l) (h0 : mk (prodL l) 0 = true) {t : La} (ht : t = trimL l) (gt : GoodL t) (k : Nat) (hk : k < t.symbols.length) : mk (prodL t) k = true ∧ mk (selfR true 0 (refReach (fun _ => true) 0 t)) k = true := by
  have hk' : k < (trimL l).symbols.length := by rw [← ht]; exact hk
  obtain ⟨i, i1, i2, _⟩ := sym_of hk'
  refine ⟨i2 ▸ trim_prod hg h0 ht gt i1, ?_⟩
  unfold selfR
  rw [if_pos rfl, mk_set (by rw [refReach_len]; have := gt.sym1; omega)]
  split
  · rfl
  · rename_i hne
    rw [refReach_iff gt, ← i2]
    unfold keepL selfR at i1
    rw [if_pos rfl, mk_set (by rw [refReach_len]; have := hg.sym1; omega)] at i1
    split at i1
    · rename_i h00
      exact absurd (show 0 = k by rw [← i2, ← h00]; rfl) hne
    · rw [refReach_iff hg] at i1
      exact (trim_reach hg ht i1).2
theorem reach_mono {s s' : Nat → List Nat} (h : ∀ x y, y ∈ s x → y ∈ s' x) {x y : Nat} (hr : Reach s x y) : Reach s' x y := by
  induction hr with
  | single h1 => exact .single (h _ _ h1)
  | tail _ h1 ih => exact .tail ih (h _ _ h1)
/-- a language all of whose symbols are productive and reachable is trimmed -/
theorem trim_same {t : La} (gt : GoodL t) (h : ∀ k, k < t.symbols.length → mk (prodL t) k = true ∧ mk (selfR true 0 (refReach (fun _ => true) 0 t)) k = true) : trimL t = t := by
  have hall : ∀ r ∈ t.rules, allB r (prodL t) = true := fun r hr => allB_iff.2 fun a ha => (h _ (by have := (gt.good r hr).args a ha; omega)).1
  have hsucc : ∀ x y, y ∈ succA (fun _ => true) t x → y ∈ succA (fun r => allB r (prodL t)) t x := fun x y hy => by
    obtain ⟨r, hr, h1, _, h2⟩ := mem_succ.1 hy
    exact mem_succ.2 ⟨r, hr, h1, hall r hr, h2⟩
  have hkeep : ∀ k, k < t.symbols.length → mk (keepL t) k = true := fun k hk => by
    have h2 := (h k hk).2
    have hlt : 0 < (refReach (fun r => allB r (prodL t)) 0 t).length := by rw [refReach_len]; have := gt.sym1; omega
    unfold keepL selfR
    unfold selfR at h2
    rw [if_pos rfl, mk_set hlt]
    rw [if_pos rfl, mk_set (by rw [refReach_len]; have := gt.sym1; omega)] at h2
    split
    · rfl
    · rename_i hne
      rw [if_neg hne, refReach_iff gt] at h2
      rw [refReach_iff gt]
      exact reach_mono hsucc h2
  have hrk : ∀ k, k ≤ t.symbols.length → rkL t k = k := fun k hk => by
    unfold rkL
    rw [selN_all fun i hi => hkeep i (by omega), List.length_range]
  have hkr : ∀ i, i < t.rules.length → keepR t i = true := fun i hi => by
    have gr := gt.good _ (List.getElem_mem hi)
    exact (keepR_iff hi).2 ⟨hkeep _ (by have := gr.sym0; have := gr.sym1; omega), hall _ (List.getElem_mem hi)⟩
  refine la_ext rfl rfl ?_ ?_
  · show symsL t t.symbols.length = _
    unfold symsL
    rw [selN_all hkeep]
    refine List.ext_getElem (by simp) fun i h1 h2 => ?_
    rw [List.getElem_map, List.getElem_range, sy_getD h2]
  · show rulsL t t.rules.length = _
    unfold rulsL
    rw [selN_all hkr]
    refine List.ext_getElem (by simp) fun i h1 h2 => ?_
    rw [List.getElem_map, List.getElem_range, rd_eq h2]
    have gr := gt.good _ (List.getElem_mem h2)
    have e1 := hrk t.rules[i].symbol.toNat (by have := gr.sym0; have := gr.sym1; omega)
    refine ru_ext ?_ rfl rfl rfl ?_ rfl
    · show ((rkL t t.rules[i].symbol.toNat : Nat) : Int) = _
      have := gr.sym0; omega
    · rw [newR_args]
      refine List.ext_getElem (by simp) fun k q1 q2 => ?_
      rw [List.getElem_map]
      have ga := gr.args _ (List.getElem_mem q2)
      have e2 := hrk t.rules[i].args[k].toNat (by omega)
      omega
theorem trim_wide {l : La} (hw : wideL l) (hg : GoodL l) : wideL (trimL l) := by
  refine ⟨hw.name, hw.inputs, ?_, ?_, fun x hx => ?_, fun r hr => ?_⟩
  · rw [trimL_syms]; have := rkL_le l l.symbols.length; have := hg.sym16; omega
  · have := rulsL_len l l.rules.length; have := hg.rules; show (rulsL l _).length ≤ _; omega
  · obtain ⟨k, hk, rfl⟩ := List.mem_iff_getElem.1 hx
    obtain ⟨i, i1, _, i3⟩ := sym_of hk
    rw [i3, sy_getD (keep_lt i1)]
    exact hw.names _ (List.getElem_mem _)
  · obtain ⟨k, hk, rfl⟩ := List.mem_iff_getElem.1 hr
    obtain ⟨i, i0, _, _, i3, _⟩ := rul_of hk
    rw [i3]
    have := hw.wide _ (List.getElem_mem i0)
    exact ⟨by rw [newR_args, List.length_map]; exact this.1, this.2⟩
theorem trimmed_l2 {p q : List Bool} (hp : p.length ≤ 16) (hl : q.length = p.length) (h : ∀ k, k < p.length → mk p k = true ∧ mk q k = true) : loopN (synthesislaw11_GrammarTrimmed_h_l2 p q) fuel 0 = some (.inl ()) := by
  refine (ev_loop (s0 := (0 : Int)) (Q := (· = Sum.inl ())) p.length (fun i s => s = (i : Int)) (by omega) rfl (fun i s hi e => ?_) (fun s e => ?_)).eq
  · subst e
    refine ev_go (s := ((i + 1 : Nat) : Int)) ?_ rfl
    simp only [synthesislaw11_GrammarTrimmed_h_l2, lt_len hi, cond_true, idx_mk hi, idx_mk (s := q) (i := i) (by omega), (h i hi).1, (h i hi).2, Bool.not_true, cond_false, Option.bind_some, w64s i (by omega)]
  · subst e
    exact ev_out (b := .inl ()) (by simp only [synthesislaw11_GrammarTrimmed_h_l2, lt_len', cond_false]) rfl
theorem trimmed_l1 {l : La} (hg : GoodL l) : loopN (synthesislaw11_GrammarTrimmed_h_l1 l (trimL l, idxL l l.rules.length, 0)) fuel 0 = some (.inl ()) := by
  have hlen : (idxL l l.rules.length).length = (trimL l).rules.length := by show _ = (rulsL l _).length; simp [idxL, rulsL]
  have h96 : (trimL l).rules.length ≤ 96 := by have := rulsL_len l l.rules.length; have := hg.rules; show (rulsL l _).length ≤ 96; omega
  refine (ev_loop (s0 := (0 : Int)) (Q := (· = Sum.inl ())) (trimL l).rules.length (fun i s => s = (i : Int)) (by omega) rfl (fun i s hi e => ?_) (fun s e => ?_)).eq
  · subst e
    obtain ⟨j, j0, j1, j2, j3, j4⟩ := rul_of hi
    have e1 : idx (idxL l l.rules.length) (i : Int) = some (j : Int) := by rw [idx_nat]; exact j4
    have d1 : decide ((j : Int) < 0) = false := decide_eq_false (by omega)
    have d2 : decide ((l.rules.length : Int) ≤ (j : Int)) = false := decide_eq_false (by omega)
    have g1 : (Option.bind (idx (idxL l l.rules.length) (i : Int)) fun v21 => bif decide (v21 < 0) then some true else Option.bind (idx (idxL l l.rules.length) (i : Int)) fun v22 => bif decide ((l.rules.length : Int) ≤ v22) then some true else bif decide (0 < (i : Int)) then Option.bind (idx (idxL l l.rules.length) (i : Int)) fun v23 => Option.bind (idx (idxL l l.rules.length) (w64 ((i : Int) - 1))) fun v24 => some (decide (v23 ≤ v24)) else some false : Option Bool) = some false := by
      simp only [e1, Option.bind_some, d1, d2, cond_false]
      by_cases h0 : 0 < i
      · obtain ⟨i', rfl⟩ : ∃ i', i = i' + 1 := ⟨i - 1, by omega⟩
        obtain ⟨k, k0, k1, k2, k3, k4⟩ := rul_of (l := l) (k := i') (by omega)
        have e2 : w64 (((i' + 1 : Nat) : Int) - 1) = (i' : Int) := by rw [show ((i' + 1 : Nat) : Int) - 1 = (i' : Int) by omega]; exact w64n i' (by omega)
        have e3 : idx (idxL l l.rules.length) (i' : Int) = some (k : Int) := by rw [idx_nat]; exact k4
        have hkj : k < j := Classical.byContradiction fun hn => by
          have : (selN (keepR l) j).length ≤ (selN (keepR l) k).length := selN_mono_len (by omega)
          omega
        rw [decide_eq_true (show (0 : Int) < ((i' + 1 : Nat) : Int) by omega), cond_true, e2, e3, Option.bind_some, decide_eq_false (by omega)]
      · rw [decide_eq_false (by omega), cond_false]
    have kk := ((keepR_iff j0).1 j1).1
    have gr := hg.good _ (List.getElem_mem j0)
    have hs1 : idx (trimL l).symbols (newR l l.rules[j]).symbol = some (l.symbols.getD l.rules[j].symbol.toNat syD) := by
      show idx (trimL l).symbols ((rkL l l.rules[j].symbol.toNat : Nat) : Int) = _
      rw [idx_nat]
      exact sym_at kk
    have hs2 : idx l.symbols l.rules[j].symbol = some (l.symbols.getD l.rules[j].symbol.toNat syD) := by
      unfold idx
      rw [if_pos gr.sym0, List.getElem?_eq_getElem (by have := gr.sym0; have := gr.sym1; omega), sy_getD]
    refine ev_go (s := ((i + 1 : Nat) : Int)) ?_ rfl
    unfold synthesislaw11_GrammarTrimmed_h_l1
    simp only [hlen, lt_len hi, cond_true]
    rw [g1]
    simp only [Option.bind_some, cond_false, idx_nat, List.getElem?_eq_getElem hi, j3, j4, List.getElem?_eq_getElem j0]
    have f1 : (newR l l.rules[j]).kind = l.rules[j].kind := rfl
    have f2 : (newR l l.rules[j]).input = l.rules[j].input := rfl
    have f3 : (newR l l.rules[j]).op = l.rules[j].op := rfl
    have f4 : (newR l l.rules[j]).args.length = l.rules[j].args.length := by rw [newR_args, List.length_map]
    simp only [f1, f2, f3, f4, bne_self_eq_false, beq_self_eq_true, Bool.not_true, cond_false, hs1, hs2, Option.bind_some, Bool.and_self, w64s i (by omega)]
  · subst e
    exact ev_out (b := .inl ()) (by simp only [synthesislaw11_GrammarTrimmed_h_l1, hlen, lt_len', cond_false]) rfl
theorem law_GrammarTrimmed (a0 : La) (h0 : wideL a0) : synthesislaw11_GrammarTrimmed_h a0 = some true := by
  obtain ⟨b, hb, hb2⟩ := smallL_some h0
  unfold synthesislaw11_GrammarTrimmed_h
  rw [hb, awake11]
  cases b with
  | false => rfl
  | true =>
    have hs := hb2 rfl
    obtain ⟨c, c1, c2, c3⟩ := lang_u a0 h0
    by_cases hc : c = 0
    · subst hc
      have hg := c3 rfl
      have hv : ValidL a0 := by
        obtain ⟨q1, q2, q3, q4, q5, q6⟩ := hs
        obtain ⟨d, d1, d2⟩ := check_iff h0 (by omega) (by omega) (fun x hx => by have := q5 x hx; omega) (by omega) (fun r hr => by have := (q6 r hr).1; omega)
        obtain rfl : d = 0 := by rw [d1] at c2; exact Option.some.inj c2
        exact d2.1 rfl
      obtain ⟨t1, _⟩ := trim_good hg c1 c2 hs.fine
      cases hp : mk (prodL a0) 0 with
      | false =>
        have hr : trimR a0 = (laD, [], 12) := by unfold trimR; rw [hp]; rfl
        rw [hr] at t1
        simp only [Bool.not_true, cond_false, Option.bind_some, t1]
        rfl
      | true =>
        have hr : trimR a0 = (trimL a0, idxL a0 a0.rules.length, 0) := by unfold trimR; rw [hp]; rfl
        rw [hr] at t1
        have tw := trim_wide h0 hg
        have tv := trim_valid hg hv
        obtain ⟨e, e1, e2, e3⟩ := lang_u (trimL a0) tw
        have hmods := trimL_mod hg
        obtain ⟨d, d1, d2⟩ := check_iff tw (by have := hs.1; show a0.name.size ≤ _; omega) (by have := tv.sym16; omega) (fun x hx => by
          obtain ⟨k, hk, rfl⟩ := List.mem_iff_getElem.1 hx
          have := (tv.names k hk).1; omega) (by have := tv.rules; omega) (fun r hr => (hmods.mods r hr).1)
        obtain rfl : d = e := by rw [d1] at e2; exact Option.some.inj e2
        obtain rfl : d = 0 := d2.2 tv
        have gt := e3 rfl
        have hall := fun k hk => trim_all hg hp (t := trimL a0) rfl gt k hk
        have p1 : grammar_Productive (trimL a0) = some (prodL (trimL a0)) := by simp only [grammar_Productive, e1, Option.bind_some, bne_self_eq_false, cond_false, (productive_eq gt).1]
        have p2 : grammar_Reachable (trimL a0) = some (selfR true 0 (refReach (fun _ => true) 0 (trimL a0))) := by
          have := (prog_reach gt (fr := 0) (by have := gt.sym1; omega) true).1
          rw [Int.natCast_zero] at this
          simp only [grammar_Reachable, e1, Option.bind_some, bne_self_eq_false, cond_false, this]
        have l1 : (selfR true 0 (refReach (fun _ => true) 0 (trimL a0))).length = (trimL a0).symbols.length := by simp [selfR, refReach_len]
        have hlen : (idxL a0 a0.rules.length).length = (trimL a0).rules.length := by show _ = (rulsL a0 _).length; simp [idxL, rulsL]
        have x2 := trimmed_l2 (p := prodL (trimL a0)) (q := selfR true 0 (refReach (fun _ => true) 0 (trimL a0))) (by rw [prodL_len]; exact gt.sym16) (by rw [l1, prodL_len]) (fun k hk => hall k (by rw [prodL_len] at hk; exact hk))
        have x1 := trimmed_l1 hg
        obtain ⟨u1, _⟩ := trim_good gt e1 e2 (fun r hr => by
          obtain ⟨k, hk, rfl⟩ := List.mem_iff_getElem.1 hr
          obtain ⟨i, i0, _, _, i3, _⟩ := rul_of hk
          rw [i3]
          have hfx := hs.fine _ (List.getElem_mem i0)
          exact hfx)
        have hr2 : trimR (trimL a0) = (trimL a0, idxL (trimL a0) (trimL a0).rules.length, 0) := by
          unfold trimR
          rw [(hall 0 (by have := gt.sym1; omega)).1, if_pos rfl, trim_same gt hall]
        rw [hr2] at u1
        obtain ⟨s, s1, s2⟩ := same_prog hmods hmods
        obtain rfl : s = true := s2.2 rfl
        simp only [Bool.not_true, cond_false, Option.bind_some, t1, bne_self_eq_false, p1, p2, e1, d1, prodL_len, l1, hlen, x2, Sum.elim_inl, x1, u1, beq_self_eq_true, cond_true, s1]
    · obtain ⟨t1, _⟩ := trim_bad c1 c2 hc
      have hb : (c != 0) = true := by simp [hc]
      simp only [Bool.not_true, cond_false, Option.bind_some, t1, hb, cond_true]
      rfl
end Go.Proofs.YtfhmljjkhjifeaaGreatDoor
