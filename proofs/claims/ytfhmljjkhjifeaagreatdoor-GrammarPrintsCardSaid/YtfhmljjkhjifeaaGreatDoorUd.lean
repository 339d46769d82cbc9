/- What a valid language is, in plain words: the check answers OK exactly for these. -/
import Derived.Test.YtfhmljjkhjifeaaGreatDoorTl
import Derived.Test.YtfhmljjkhjifeaaGreatDoorEv
set_option linter.unusedVariables false
set_option linter.unusedSimpArgs false
set_option maxRecDepth 100000
namespace Go.Proofs.YtfhmljjkhjifeaaGreatDoor
open Go Go.RowKit

theorem wide_mono {B C : Nat} (h : B ≤ C) : ∀ x : Va, wideV B x → wideV C x
  | .mk t m s l => fun hw => ⟨Nat.le_trans hw.1 h, wides_mono h l hw.2⟩
where
  wides_mono {B C : Nat} (h : B ≤ C) : ∀ l : List Va, wideVs B l → wideVs C l
  | [], _ => trivial
  | x :: l, hw => ⟨wide_mono h x hw.1, wides_mono h l hw.2⟩
theorem scan_iff {α γ : Type} {a b : List α} {g : γ} {step : Int → Option (Int ⊕ (Unit ⊕ γ))} (hl : a.length = b.length) (hn : a.length ≤ 4000000000)
    (hs : ∀ i (h : i < a.length) (h' : i < b.length), ∃ t : Bool, step (i : Int) = (bif t then some (.inr (.inr g)) else some (.inl (w64 ((i : Int) + 1)))) ∧ (t = false ↔ a[i] = b[i])) (he : step (a.length : Int) = some (.inr (.inl ()))) :
    Ev (loopN step fuel 0) fun r => (r = .inl () ∧ a = b) ∨ (r = .inr g ∧ a ≠ b) := by
  refine ev_loop a.length (fun i s => s = (i : Int) ∧ ∀ j (h1 : j < a.length) (h2 : j < b.length), j < i → a[j] = b[j]) (by omega) ⟨rfl, fun j _ _ h => by omega⟩ (fun i s hi ⟨e, h⟩ => ?_) (fun s ⟨e, h⟩ => ?_)
  · subst e
    obtain ⟨t, h1, h2⟩ := hs i hi (by omega)
    rw [h1]
    cases t with
    | true => exact ev_some (.inr ⟨rfl, fun hab => by subst hab; exact absurd (h2.2 rfl) (by decide)⟩)
    | false =>
      refine ev_some ⟨w64s i (by omega), fun j a1 a2 hj => ?_⟩
      by_cases hji : j = i
      · subst hji; exact h2.1 rfl
      · exact h j a1 a2 (by omega)
  · subst e
    rw [he]
    exact ev_some ⟨_, rfl, .inl ⟨rfl, List.ext_getElem hl fun j h1 h2 => h j h1 h2 h1⟩⟩
theorem len_bne {α : Type} {a b : List α} : ((a.length : Int) != (b.length : Int)) = !decide (a.length = b.length) := by
  by_cases h : a.length = b.length
  · rw [h]; simp
  · rw [decide_eq_false h, Bool.not_false, bne_iff_ne]; omega
theorem ints_iff {a b : List Int} (ha : a.length ≤ 4000000000) : Ev (synthesisref11_SameInts a b) fun c => c = true ↔ a = b := by
  unfold synthesisref11_SameInts
  rw [len_bne]
  by_cases h : a.length = b.length
  · rw [decide_eq_true h, Bool.not_true, cond_false]
    refine ev_bind ((scan_iff (g := false) h ha (fun i h1 h2 => ⟨a[i] != b[i], ?_, by simp⟩) ?_).mono fun r hr => ?_)
    · simp only [synthesisref11_SameInts_l1, lt_len h1, cond_true, idx_nat, List.getElem?_eq_getElem h1, List.getElem?_eq_getElem h2, Option.bind_some]
    · simp only [synthesisref11_SameInts_l1, lt_len', cond_false]
    · rcases hr with ⟨rfl, hr⟩ | ⟨rfl, hr⟩
      · exact ev_some (by simp [hr])
      · exact ev_some (by simp [hr])
  · rw [decide_eq_false h, Bool.not_false, cond_true]
    exact ev_some (by simp; intro e; exact h (by rw [e]))
theorem beqB_iff {a b : ByteArray} : (a.toList == b.toList) = true ↔ a = b := by
  rw [beq_iff_eq]
  exact ⟨bytesList_inj, fun h => by rw [h]⟩
theorem sy_beq (x y : Sy) : ((x.name.toList == y.name.toList) && ((x.type == y.type) && true)) = true ↔ x = y := by
  rw [Bool.and_eq_true, Bool.and_true, beqB_iff, beq_iff_eq]
  constructor
  · rintro ⟨h1, h2⟩
    cases x; cases y; simp_all
  · rintro rfl; exact ⟨rfl, rfl⟩
theorem not_iff_false {t : Bool} {p : Prop} (h : t = true ↔ p) : (!t) = false ↔ p := by
  cases t with
  | false => simp at h ⊢; exact h
  | true => simp at h ⊢; exact h
theorem syms_iff {a b : List Sy} (ha : a.length ≤ 4000000000) : Ev (slices_Equal_api_Symbol_api_Symbol a b) fun c => c = true ↔ a = b := by
  unfold slices_Equal_api_Symbol_api_Symbol
  rw [len_bne]
  by_cases h : a.length = b.length
  · rw [decide_eq_true h, Bool.not_true, cond_false]
    refine ev_bind ((scan_iff (g := false) h ha (fun i h1 h2 => ⟨_, ?_, not_iff_false (sy_beq a[i] b[i])⟩) ?_).mono fun r hr => ?_)
    · simp only [slices_Equal_api_Symbol_api_Symbol_l1, lt_len h1, cond_true, idx_nat, List.getElem?_eq_getElem h1, List.getElem?_eq_getElem h2, Option.bind_some]
    · simp only [slices_Equal_api_Symbol_api_Symbol_l1, lt_len', cond_false]
    · rcases hr with ⟨rfl, hr⟩ | ⟨rfl, hr⟩
      · exact ev_some (by simp [hr])
      · exact ev_some (by simp [hr])
  · rw [decide_eq_false h, Bool.not_false, cond_true]
    exact ev_some (by simp; intro e; exact h (by rw [e]))
/-- a rule that can be compared -/
def modR (r : Ru) : Prop := r.args.length ≤ 4000000000 ∧ okV r.const
theorem ru_ext {a b : Ru} (h1 : a.symbol = b.symbol) (h2 : a.kind = b.kind) (h3 : a.input = b.input) (h4 : a.op = b.op) (h5 : a.args = b.args) (h6 : a.const = b.const) : a = b := by
  cases a; cases b; simp_all
theorem sameR_gen {a b : Ru} {S : List Int → List Int → Option Bool} {E : Va → Va → Option Bool} (hS : Ev (S a.args b.args) fun c => c = true ↔ a.args = b.args) (hE : E a.const b.const = some (eqV a.const b.const)) :
    Ev (Option.bind ((bif (a.symbol == b.symbol) then (bif (a.kind == b.kind) then (bif (a.input == b.input) then (bif (a.op.toList == b.op.toList) then (Option.bind (S a.args b.args) fun v1 => (bif v1 then (Option.bind (E a.const b.const) fun v2 => (some (v2))) else (some (false)))) else (some (false))) else (some (false))) else (some (false))) else (some (false))) : Option Bool) fun v4 => some v4) fun c => c = true ↔ a = b := by
  refine ev_bind ?_
  have hne : ∀ {p : Prop}, ¬ p → (false = true ↔ p) := fun h => by simp [h]
  refine ev_if (fun h1 => ?_) fun h1 => ev_some (ev_some (hne fun e => by subst e; simp at h1))
  refine ev_if (fun h2 => ?_) fun h2 => ev_some (ev_some (hne fun e => by subst e; simp at h2))
  refine ev_if (fun h3 => ?_) fun h3 => ev_some (ev_some (hne fun e => by subst e; simp at h3))
  refine ev_if (fun h4 => ?_) fun h4 => ev_some (ev_some (hne fun e => by subst e; simp at h4))
  refine ev_bind (hS.mono fun c hc => ?_)
  refine ev_if (fun h5 => ?_) fun h5 => ev_some (ev_some (hne fun e => by subst e; rw [hc.2 rfl] at h5; cases h5))
  rw [hE]
  refine ev_some (ev_some ?_)
  rw [eqV_iff]
  exact ⟨fun h6 => ru_ext (eq_of_beq h1) (eq_of_beq h2) (eq_of_beq h3) (beqB_iff.1 h4) (hc.1 h5) h6, fun e => by rw [e]⟩
theorem sameR_iff {a b : Ru} (ha : modR a) (hb : modR b) : (Ev (grammar_sameRule_h a b) fun c => c = true ↔ a = b) ∧ (Ev (synthesisref11_SameRule a b) fun c => c = true ↔ a = b) :=
  ⟨sameR_gen (S := slices_Equal_int_int) (E := value_Equal) (ints_iff ha.1) (value_Equal_eq ha.2 hb.2), sameR_gen (S := synthesisref11_SameInts) (E := synthesisref01_Equal) (ints_iff ha.1) (ref_Equal_eq ha.2 hb.2)⟩
theorem rules_iff {a b : List Ru} (ha : a.length ≤ 4000000000) (h1 : ∀ r ∈ a, modR r) (h2 : ∀ r ∈ b, modR r) : Ev (slices_EqualFunc_api_Rule_api_Rule_api_Rule_api_Rule_h a b) fun c => c = true ↔ a = b := by
  unfold slices_EqualFunc_api_Rule_api_Rule_api_Rule_api_Rule_h
  rw [len_bne]
  by_cases h : a.length = b.length
  · rw [decide_eq_true h, Bool.not_true, cond_false]
    refine ev_bind ((scan_iff (g := ()) h ha (fun i i1 i2 => ?_) ?_).mono fun r hr => ?_)
    · obtain ⟨t, ht, ht2⟩ := (sameR_iff (h1 _ (List.getElem_mem i1)) (h2 _ (List.getElem_mem i2))).1
      refine ⟨!t, ?_, not_iff_false ht2⟩
      simp only [slices_EqualFunc_api_Rule_api_Rule_api_Rule_api_Rule_h_l1, lt_len i1, cond_true, idx_nat, List.getElem?_eq_getElem i1, List.getElem?_eq_getElem i2, Option.bind_some, ht]
    · simp only [slices_EqualFunc_api_Rule_api_Rule_api_Rule_api_Rule_h_l1, lt_len', cond_false]
    · rcases hr with ⟨rfl, hr⟩ | ⟨rfl, hr⟩
      · exact ev_some (by simp [hr])
      · exact ev_some (by simp [hr])
  · rw [decide_eq_false h, Bool.not_false, cond_true]
    exact ev_some (by simp; intro e; exact h (by rw [e]))
/-- a language that can be compared -/
structure ModL (l : La) : Prop where
  inputs : l.inputs.length ≤ 4000000000
  symbols : l.symbols.length ≤ 4000000000
  rules : l.rules.length ≤ 4000000000
  mods : ∀ r ∈ l.rules, modR r
theorem la_ext {a b : La} (h1 : a.name = b.name) (h2 : a.inputs = b.inputs) (h3 : a.symbols = b.symbols) (h4 : a.rules = b.rules) : a = b := by
  cases a; cases b; simp_all
theorem same_prog {a b : La} (ha : ModL a) (hb : ModL b) : Ev (grammar_Same a b) fun c => c = true ↔ a = b := by
  unfold grammar_Same
  refine ev_bind ?_
  have hne : ∀ {p : Prop}, ¬ p → (false = true ↔ p) := fun h => by simp [h]
  refine ev_if (fun h1 => ?_) fun h1 => ev_some (ev_some (hne fun e => by subst e; simp at h1))
  refine ev_bind ((ints_iff ha.inputs).mono fun c hc => ?_)
  refine ev_if (fun h2 => ?_) fun h2 => ev_some (ev_some (hne fun e => by subst e; rw [hc.2 rfl] at h2; cases h2))
  refine ev_bind ((syms_iff ha.symbols).mono fun d hd => ?_)
  refine ev_if (fun h3 => ?_) fun h3 => ev_some (ev_some (hne fun e => by subst e; rw [hd.2 rfl] at h3; cases h3))
  refine ev_bind ((rules_iff ha.rules ha.mods hb.mods).mono fun f hf => ?_)
  refine ev_some (ev_some ?_)
  rw [hf]
  exact ⟨fun h4 => la_ext (beqB_iff.1 h1) (hc.1 h2) (hd.1 h3) h4, fun e => by rw [e]⟩
theorem SmallL.mod {l : La} (h : SmallL l) : ModL l := by
  obtain ⟨h1, h2, h3, h4, h5, h6⟩ := h
  refine ⟨by omega, by omega, by omega, fun r hr => ?_⟩
  obtain ⟨a1, a2, a3, a4⟩ := h6 r hr
  exact ⟨by omega, by omega, wide_mono (by omega) _ a4⟩
theorem GoodR.mod {l : La} {r : Ru} (h : GoodR l r) : modR r := ⟨by have := h.few; omega, h.fine⟩
theorem GoodL.mod {l : La} (h : GoodL l) : ModL l := ⟨by have := h.inputs; omega, by have := h.sym16; omega, by have := h.rules; omega, fun r hr => (h.good r hr).mod⟩
end Go.Proofs.YtfhmljjkhjifeaaGreatDoor
set_option linter.unusedVariables false
set_option linter.unusedSimpArgs false
set_option maxRecDepth 100000
namespace Go.Proofs.YtfhmljjkhjifeaaGreatDoor
open Go Go.RowKit

/-- the symbols that stay; the rules that stay -/
def keepL (l : La) : List Bool := selfR true 0 (refReach (fun r => allB r (prodL l)) 0 l)
def syD : Sy := ⟨⟨#[]⟩, 0⟩
/-- the new number of a symbol -/
def rkL (l : La) (i : Nat) : Nat := (selN (mk (keepL l)) i).length
/-- the numbers that a text writes down -/
structure NumOk (l : La) (i : Nat) (num : List Int) : Prop where
  len : num.length = l.symbols.length
  val : ∀ j, j < i → mk (keepL l) j = true → num[j]? = some (rkL l j : Int)
theorem NumOk.set {l : La} {i : Nat} {num : List Int} (h : NumOk l i num) (hi : i < l.symbols.length) : NumOk l (i + 1) (num.set i (rkL l i : Int)) := by
  refine ⟨by rw [List.length_set]; exact h.len, fun j hj hk => ?_⟩
  by_cases hji : i = j
  · subst hji
    rw [List.getElem?_set_self (by rw [h.len]; exact hi)]
  · rw [List.getElem?_set_ne hji]
    exact h.val j (by omega) hk
theorem SmallL.fine {l : La} (h : SmallL l) : ∀ r ∈ l.rules, depV r.const ≤ 1000000 ∧ wideV 1000 r.const := fun r hr => by
  obtain ⟨a1, a2, a3, a4⟩ := h.2.2.2.2.2 r hr
  exact ⟨by omega, wide_mono (by omega) _ a4⟩
end Go.Proofs.YtfhmljjkhjifeaaGreatDoor
set_option linter.unusedVariables false
set_option linter.unusedSimpArgs false
set_option maxRecDepth 100000
namespace Go.Proofs.YtfhmljjkhjifeaaGreatDoor
open Go Go.RowKit

end Go.Proofs.YtfhmljjkhjifeaaGreatDoor
set_option linter.unusedVariables false
set_option linter.unusedSimpArgs false
set_option maxRecDepth 100000
namespace Go.Proofs.YtfhmljjkhjifeaaGreatDoor
open Go Go.RowKit

/-- a scan that leaves at the first place that is not good -/
theorem ev_all {β : Type} {step : Int → Option (Int ⊕ β)} {b0 : β} (n : Nat) (hn : n ≤ 4000000000) (G : Nat → Prop) (Bad : β → Prop)
    (hs : ∀ i, i < n → (∀ j, j < i → G j) → Ev (step (i : Int)) fun r => (r = .inl (w64 ((i : Int) + 1)) ∧ G i) ∨ ∃ b, r = .inr b ∧ Bad b ∧ ¬ G i) (he : step (n : Int) = some (.inr b0)) :
    Ev (loopN step fuel 0) fun r => (r = b0 ∧ ∀ i, i < n → G i) ∨ (Bad r ∧ ¬ ∀ i, i < n → G i) := by
  refine ev_loop n (fun i s => s = (i : Int) ∧ ∀ j, j < i → G j) (by omega) ⟨rfl, fun j hj => by omega⟩ (fun i s hi ⟨e, h⟩ => ?_) (fun s ⟨e, h⟩ => ?_)
  · subst e
    obtain ⟨r, h1, h2⟩ := hs i hi h
    rcases h2 with ⟨rfl, h2⟩ | ⟨b, rfl, h2, h3⟩
    · refine ⟨_, h1, w64s i (by omega), fun j hj => ?_⟩
      rcases Nat.lt_succ_iff_lt_or_eq.1 hj with hj | rfl
      · exact h j hj
      · exact h2
    · exact ⟨_, h1, .inr ⟨h2, fun hall => h3 (hall i hi)⟩⟩
  · subst e
    exact ⟨_, he, _, rfl, .inl ⟨rfl, h⟩⟩
def letC (c : UInt8) : Prop := (97 ≤ c.toNat ∧ c.toNat ≤ 122) ∨ (65 ≤ c.toNat ∧ c.toNat ≤ 90)
def digC (c : UInt8) : Prop := 48 ≤ c.toNat ∧ c.toNat ≤ 57
/-- a name -/
def nameOk (s : ByteArray) : Prop := (1 ≤ s.size ∧ s.size ≤ 24) ∧ ∀ i (h : i < s.data.toList.length), letC s.data.toList[i] ∨ (0 < i ∧ (s.data.toList[i] = 45 ∨ digC s.data.toList[i]))
theorem name_iff {s : ByteArray} (hs : s.size ≤ 4000000000) : Ev (synthesisref11_Name s) fun b => b = true ↔ nameOk s := by
  unfold synthesisref11_Name
  have hlen : s.data.toList.length = s.size := by rw [← size_list]
  refine ev_bind ((ev_all (b0 := .inl ()) s.size hs (fun i => ∀ h : i < s.data.toList.length, letC s.data.toList[i] ∨ (0 < i ∧ (s.data.toList[i] = 45 ∨ digC s.data.toList[i]))) (fun b => b = .inr false) (fun i hi _ => ?_) (by simp only [synthesisref11_Name_l1, decide_eq_false (show ¬ ((s.size : Nat) : Int) < (s.size : Int) by omega), cond_false])).mono fun r hr => ?_)
  · have hi' : i < s.data.toList.length := by omega
    have hb : byt s (i : Int) = some ((s.data.toList[i]'hi').toNat : Int) := by rw [byt_list, List.getElem?_eq_getElem hi']; rfl
    generalize hc : s.data.toList[i]'hi' = c at hb
    have h45 : (((c.toNat : Int) != 45) = true) ↔ c ≠ 45 := by
      rw [bne_iff_ne]
      refine ⟨fun h e => h (by rw [e]; rfl), fun h e => h (UInt8.toNat_inj.1 (show c.toNat = 45 by omega))⟩
    unfold synthesisref11_Name_l1
    simp only [decide_eq_true (show (i : Int) < (s.size : Int) by omega), cond_true, hb, Option.bind_some]
    have e1 : (bif decide (97 ≤ (c.toNat : Int)) then bif decide ((c.toNat : Int) ≤ 122) then some true else bif decide (65 ≤ (c.toNat : Int)) then some (decide ((c.toNat : Int) ≤ 90)) else some false
        else bif decide (65 ≤ (c.toNat : Int)) then some (decide ((c.toNat : Int) ≤ 90)) else some false : Option Bool) = some (decide ((97 ≤ c.toNat ∧ c.toNat ≤ 122) ∨ (65 ≤ c.toNat ∧ c.toNat ≤ 90))) := by
      rw [show decide (97 ≤ (c.toNat : Int)) = decide (97 ≤ c.toNat) by rw [decide_eq_decide]; omega, show decide ((c.toNat : Int) ≤ 122) = decide (c.toNat ≤ 122) by rw [decide_eq_decide]; omega, show decide (65 ≤ (c.toNat : Int)) = decide (65 ≤ c.toNat) by rw [decide_eq_decide]; omega, show decide ((c.toNat : Int) ≤ 90) = decide (c.toNat ≤ 90) by rw [decide_eq_decide]; omega]
      by_cases q1 : 97 ≤ c.toNat <;> by_cases q2 : c.toNat ≤ 122 <;> by_cases q3 : 65 ≤ c.toNat <;> by_cases q4 : c.toNat ≤ 90 <;> simp [q1, q2, q3, q4] <;> omega
    rw [e1, Option.bind_some]
    by_cases hl : letC c
    · rw [decide_eq_true (show (97 ≤ c.toNat ∧ c.toNat ≤ 122) ∨ (65 ≤ c.toNat ∧ c.toNat ≤ 90) from hl)]
      exact ev_some (.inl ⟨rfl, fun _ => by rw [hc]; exact .inl hl⟩)
    · rw [decide_eq_false (show ¬ ((97 ≤ c.toNat ∧ c.toNat ≤ 122) ∨ (65 ≤ c.toNat ∧ c.toNat ≤ 90)) from hl)]
      simp only [Bool.not_false, cond_true]
      by_cases h0 : i = 0
      · subst h0
        simp only [Int.natCast_zero, beq_self_eq_true, cond_true, Option.bind_some]
        refine ev_some (.inr ⟨_, rfl, rfl, fun hh => ?_⟩)
        have := hh hi'
        rw [hc] at this
        rcases this with h | ⟨h, _⟩
        · exact hl h
        · omega
      · have hb0 : ((i : Int) == 0) = false := by rw [beq_eq_false_iff_ne]; omega
        simp only [hb0, cond_false]
        by_cases h4 : c = 45
        · have : ((c.toNat : Int) != 45) = false := by rw [h4]; rfl
          simp only [this, cond_false, Option.bind_some]
          exact ev_some (.inl ⟨rfl, fun _ => by rw [hc]; exact .inr ⟨by omega, .inl h4⟩⟩)
        · simp only [h45.2 h4, cond_true]
          by_cases q1 : (c.toNat : Int) < 48
          · simp only [decide_eq_true q1, cond_true, Option.bind_some]
            refine ev_some (.inr ⟨_, rfl, rfl, fun hh => ?_⟩)
            have := hh hi'
            rw [hc] at this
            rcases this with h | ⟨_, h | h⟩
            · exact hl h
            · exact h4 h
            · have := h.1; omega
          · by_cases q2 : 57 < (c.toNat : Int)
            · simp only [decide_eq_false q1, decide_eq_true q2, cond_false, cond_true, Option.bind_some]
              refine ev_some (.inr ⟨_, rfl, rfl, fun hh => ?_⟩)
              have := hh hi'
              rw [hc] at this
              rcases this with h | ⟨_, h | h⟩
              · exact hl h
              · exact h4 h
              · have := h.2; omega
            · simp only [decide_eq_false q1, decide_eq_false q2, cond_false, Option.bind_some]
              exact ev_some (.inl ⟨rfl, fun _ => by rw [hc]; exact .inr ⟨by omega, .inr ⟨by omega, by omega⟩⟩⟩)
  · rcases hr with ⟨rfl, hr⟩ | ⟨rfl, hr⟩
    · simp only [Sum.elim_inl]
      have hp : nameOk s ↔ (1 ≤ s.size ∧ s.size ≤ 24) := ⟨fun h => h.1, fun h => ⟨h, fun i hi => hr i (by omega) hi⟩⟩
      rw [hp]
      refine ev_bind (ev_if (fun h => ev_some (ev_some ?_)) fun h => ev_some (ev_some ?_))
      · have := of_decide_eq_true h
        rw [decide_eq_true_eq]; omega
      · have := of_decide_eq_false h
        simp; omega
    · exact ev_some ⟨fun h => by simp at h, fun h => absurd (fun i _ hi' => h.2 i hi') hr⟩
def tyOf (l : La) (a : Int) : Int := (l.symbols.getD a.toNat syD).type
theorem idx_ty {l : La} {a : Int} (h0 : 0 ≤ a) (h1 : a < (l.symbols.length : Int)) : ∃ x, idx l.symbols a = some x ∧ x.type = tyOf l a := by
  refine ⟨l.symbols[a.toNat]'(by omega), ?_, ?_⟩
  · unfold idx; rw [if_pos h0, List.getElem?_eq_getElem]
  · unfold tyOf; rw [List.getD_eq_getElem?_getD, List.getElem?_eq_getElem (by omega)]; rfl
/-- a valid rule -/
def ValidR (l : La) (r : Ru) : Prop :=
  (0 ≤ r.symbol ∧ r.symbol < (l.symbols.length : Int)) ∧
  ((r.kind = 1 ∧ r.const = zeroV ∧ r.op = ⟨#[]⟩ ∧ r.args = [] ∧ (0 ≤ r.input ∧ r.input < (l.inputs.length : Int)) ∧ l.inputs.getD r.input.toNat 0 = tyOf l r.symbol) ∨
   (r.kind = 2 ∧ r.input = 0 ∧ r.op = ⟨#[]⟩ ∧ r.args = [] ∧ value_Check fuel r.const = some 0 ∧ r.const.type = tyOf l r.symbol) ∨
   (r.kind = 3 ∧ r.input = 0 ∧ r.const = zeroV ∧ ∃ o, synthesisref09_Find r.op = some (o, true) ∧ r.args.length = o.f_Args.length ∧ (∀ i (h : i < r.args.length), (0 ≤ r.args[i] ∧ r.args[i] < (l.symbols.length : Int)) ∧ o.f_Args[i]? = some (tyOf l r.args[i])) ∧ tyOf l r.symbol = o.f_Result))
theorem eqV_zero {x : Va} : eqV x zeroV = true ↔ x = zeroV := eqV_iff
theorem beq_nil {s : ByteArray} : (s.toList == (⟨#[]⟩ : ByteArray).toList) = true ↔ s = ⟨#[]⟩ := beqB_iff
theorem len_nil {α : Type} {xs : List α} : ((xs.length : Int) == 0) = true ↔ xs = [] := by
  rw [beq_iff_eq]
  cases xs with
  | nil => simp
  | cons x xs => simp; omega
theorem three {a b c : Bool} {p q r : Prop} (ha : a = true ↔ p) (hb : b = true ↔ q) (hc : c = true ↔ r) : Ev (bif a then bif b then some c else some false else some false : Option Bool) fun x => x = true ↔ p ∧ q ∧ r := by
  cases a <;> cases b <;> simp at ha hb <;> refine ev_some ?_ <;> simp [ha, hb, hc]
theorem zero_iff (r : Ru) : Ev (synthesisref11_zero r) fun b => b = true ↔ (r.kind = 1 ∧ r.const = zeroV ∧ r.op = ⟨#[]⟩ ∧ r.args = []) ∨ (r.kind = 2 ∧ r.input = 0 ∧ r.op = ⟨#[]⟩ ∧ r.args = []) ∨ (r.kind ≠ 1 ∧ r.kind ≠ 2 ∧ r.input = 0 ∧ r.const = zeroV) := by
  unfold synthesisref11_zero
  rw [refEqual_zero, Option.bind_some]
  refine ev_if (fun h1 => ?_) fun h1 => ev_if (fun h2 => ?_) fun h2 => ?_
  · have h1 := eq_of_beq h1
    refine ev_bind ((three eqV_zero beq_nil len_nil).mono fun c hc => ev_some (hc.trans ?_))
    simp [h1]
  · have h2 := eq_of_beq h2
    refine ev_bind ((three beq_iff_eq beq_nil len_nil).mono fun c hc => ev_some (hc.trans ?_))
    simp [h2]
  · have h1 : r.kind ≠ 1 := by simpa using h1
    have h2 : r.kind ≠ 2 := by simpa using h2
    refine ev_bind (ev_if (fun h => ev_some (ev_some ?_)) fun h => ev_some (ev_some ?_))
    · have h := eq_of_beq h
      rw [eqV_zero]; simp [h1, h2, h]
    · have h : r.input ≠ 0 := by simpa using h
      simp [h1, h2, h]
theorem out_iff {a n : Int} : Ev (bif decide (a < 0) then some true else some (decide (n ≤ a)) : Option Bool) fun b => b = true ↔ ¬ (0 ≤ a ∧ a < n) := by
  refine ev_if (fun h => ev_some ?_) fun h => ev_some ?_
  · have := of_decide_eq_true h; simp; omega
  · have := of_decide_eq_false h; rw [decide_eq_true_eq]; omega
theorem iff_no {c : Int} {p : Prop} (h1 : c ≠ 0) (h2 : ¬ p) : c = 0 ↔ p := ⟨fun h => absurd h h1, fun h => absurd h h2⟩
theorem oper_iff {l : La} {r : Ru} (ha : r.args.length ≤ 4000000000) (hs : 0 ≤ r.symbol ∧ r.symbol < (l.symbols.length : Int)) : Ev (synthesisref11_operation l r) fun c => c = 0 ↔ ∃ o, synthesisref09_Find r.op = some (o, true) ∧ r.args.length = o.f_Args.length ∧ (∀ i (h : i < r.args.length), (0 ≤ r.args[i] ∧ r.args[i] < (l.symbols.length : Int)) ∧ o.f_Args[i]? = some (tyOf l r.args[i])) ∧ tyOf l r.symbol = o.f_Result := by
  obtain ⟨⟨o, ok⟩, _, hf⟩ := find_both r.op
  unfold synthesisref11_operation
  rw [hf, Option.bind_some]
  refine ev_if (fun h => ev_some ?_) fun h => ?_
  · have h : ok = false := by simpa using h
    subst h
    exact iff_no (by decide) fun ⟨o', h1, _⟩ => by simp at h1
  have h : ok = true := by simpa using h
  subst h
  rw [len_bne]
  refine ev_if (fun h => ev_some ?_) fun h => ?_
  · have h : ¬ r.args.length = o.f_Args.length := by simpa using h
    exact iff_no (by decide) fun ⟨o', h1, h2, _⟩ => by simp at h1; subst h1; exact h h2
  have hl : r.args.length = o.f_Args.length := by simpa using h
  refine ev_bind ((ev_all (b0 := .inl ()) r.args.length ha (fun i => ∀ h : i < r.args.length, (0 ≤ r.args[i] ∧ r.args[i] < (l.symbols.length : Int)) ∧ o.f_Args[i]? = some (tyOf l r.args[i])) (fun b => ∃ e : Int, b = .inr e ∧ e ≠ 0) (fun i hi _ => ?_) (by simp only [synthesisref11_operation_l1, lt_len', cond_false])).mono fun v hv => ?_)
  · unfold synthesisref11_operation_l1
    simp only [lt_len hi, cond_true, idx_nat, List.getElem?_eq_getElem hi, Option.bind_some]
    refine ev_bind (out_iff.mono fun b hb => ?_)
    refine ev_if (fun h => ev_some (.inr ⟨_, rfl, ⟨1, rfl, by decide⟩, fun hh => hb.1 h (hh hi).1⟩)) fun h => ?_
    have hr : 0 ≤ r.args[i] ∧ r.args[i] < (l.symbols.length : Int) := Classical.byContradiction fun hn => by rw [hb.2 hn] at h; cases h
    obtain ⟨x, hx, hx2⟩ := idx_ty hr.1 hr.2
    have hi2 : i < o.f_Args.length := by omega
    rw [hx, Option.bind_some, List.getElem?_eq_getElem hi2, Option.bind_some]
    refine ev_if (fun h => ev_some (.inr ⟨_, rfl, ⟨3, rfl, by decide⟩, fun hh => ?_⟩)) fun h => ev_some (.inl ⟨rfl, fun _ => ⟨hr, ?_⟩⟩)
    · have := (hh hi).2
      rw [Option.some.injEq] at this
      rw [hx2, ← this] at h
      simp at h
    · rw [bne_eq_false_iff_eq] at h
      rw [← h, hx2]
  · rcases hv with ⟨rfl, hv⟩ | ⟨⟨e, rfl, he⟩, hv⟩
    · simp only [Sum.elim_inl]
      obtain ⟨x, hx, hx2⟩ := idx_ty hs.1 hs.2
      rw [hx, Option.bind_some]
      refine ev_if (fun h => ev_some ?_) fun h => ev_some ?_
      · refine iff_no (by decide) fun ⟨o', h1, _, _, h4⟩ => ?_
        simp at h1; subst h1
        rw [hx2, h4] at h; simp at h
      · rw [bne_eq_false_iff_eq, hx2] at h
        exact ⟨fun _ => ⟨o, rfl, hl, fun i hi => hv i hi hi, h⟩, fun _ => rfl⟩
    · exact ev_some (iff_no he fun ⟨o', h1, _, h3, _⟩ => by simp at h1; subst h1; exact hv fun i hi hi' => h3 i hi')
theorem rule_iff {l : La} {r : Ru} (hr : wideR r) (ha : r.args.length ≤ 4000000000) : Ev (synthesisref11_rule l r) fun c => c = 0 ↔ ValidR l r := by
  unfold synthesisref11_rule ValidR
  refine ev_bind (out_iff.mono fun b hb => ?_)
  refine ev_if (fun h => ev_some (iff_no (by decide) fun hh => hb.1 h hh.1)) fun h => ?_
  have hs : 0 ≤ r.symbol ∧ r.symbol < (l.symbols.length : Int) := Classical.byContradiction fun hn => by rw [hb.2 hn] at h; cases h
  obtain ⟨z, hz, hz2⟩ := zero_iff r
  have hform : Ev (bif decide (r.kind < 1) then some true else bif decide (3 < r.kind) then some true else Option.bind (synthesisref11_zero r) fun v3 => some (!v3) : Option Bool) fun b => b = false ↔ (1 ≤ r.kind ∧ r.kind ≤ 3) ∧ z = true := by
    refine ev_if (fun h => ev_some ?_) fun h => ev_if (fun h2 => ev_some ?_) fun h2 => ?_
    · have := of_decide_eq_true h; simp; omega
    · have := of_decide_eq_true h2; simp; omega
    · have := of_decide_eq_false h; have := of_decide_eq_false h2
      rw [hz, Option.bind_some]
      refine ev_some ?_
      rw [Bool.not_eq_false']
      exact ⟨fun h => ⟨by omega, h⟩, fun h => h.2⟩
  refine ev_bind (hform.mono fun f hf => ?_)
  refine ev_if (fun h => ev_some (iff_no (by decide) fun hh => ?_)) fun h => ?_
  · have hzt : z = true := by
      rw [hz2]
      rcases hh.2 with h | h | h
      · exact .inl ⟨h.1, h.2.1, h.2.2.1, h.2.2.2.1⟩
      · exact .inr (.inl ⟨h.1, h.2.1, h.2.2.1, h.2.2.2.1⟩)
      · exact .inr (.inr ⟨by omega, by omega, h.2.1, h.2.2.1⟩)
    have : f = false := hf.2 ⟨by rcases hh.2 with h | h | h <;> omega, hzt⟩
    rw [this] at h; cases h
  obtain ⟨hk, hzt⟩ := hf.1 h
  have hzt := hz2.1 hzt
  obtain ⟨x, hx, hx2⟩ := idx_ty hs.1 hs.2
  rw [hx, Option.bind_some]
  refine ev_if (fun h1 => ?_) fun h1 => ev_if (fun h2 => ?_) fun h2 => ?_
  · have h1 := eq_of_beq h1
    obtain ⟨_, g1, g2, g3⟩ : r.kind = 1 ∧ r.const = zeroV ∧ r.op = ⟨#[]⟩ ∧ r.args = [] := by
      rcases hzt with h | h | h
      · exact h
      · have := h.1; omega
      · exact absurd h1 h.1
    refine ev_bind (out_iff.mono fun b hb => ?_)
    refine ev_if (fun h => ev_some (iff_no (by decide) fun hh => ?_)) fun h => ?_
    · rcases hh.2 with q | q | q
      · exact hb.1 h q.2.2.2.2.1
      · have := q.1; omega
      · have := q.1; omega
    have hin : 0 ≤ r.input ∧ r.input < (l.inputs.length : Int) := Classical.byContradiction fun hn => by rw [hb.2 hn] at h; cases h
    have hid : idx l.inputs r.input = some (l.inputs.getD r.input.toNat 0) := by
      unfold idx
      rw [if_pos hin.1, List.getD_eq_getElem?_getD, List.getElem?_eq_getElem (by omega)]
      rfl
    rw [hid, Option.bind_some]
    refine ev_if (fun h => ev_some (iff_no (by decide) fun hh => ?_)) fun h => ev_some ⟨fun _ => ⟨hs, .inl ⟨h1, g1, g2, g3, hin, ?_⟩⟩, fun _ => rfl⟩
    · rcases hh.2 with q | q | q
      · rw [hx2, q.2.2.2.2.2] at h; simp at h
      · have := q.1; omega
      · have := q.1; omega
    · rw [bne_eq_false_iff_eq, hx2] at h; exact h
  · have h1 : r.kind ≠ 1 := by simpa using h1
    have h2 := eq_of_beq h2
    obtain ⟨_, g1, g2, g3⟩ : r.kind = 2 ∧ r.input = 0 ∧ r.op = ⟨#[]⟩ ∧ r.args = [] := by
      rcases hzt with h | h | h
      · exact absurd h.1 h1
      · exact h
      · exact absurd h2 h.2.1
    obtain ⟨c, c1, c2, _⟩ := Check_u hr.2
    rw [c2, Option.bind_some]
    refine ev_if (fun h => ev_some (iff_no (by simpa using h) fun hh => ?_)) fun h => ?_
    · rcases hh.2 with q | q | q
      · exact h1 q.1
      · have := q.2.2.2.2.1
        rw [c1] at this
        rw [Option.some.inj this] at h; simp at h
      · have := q.1; omega
    rw [bne_eq_false_iff_eq] at h
    subst h
    refine ev_if (fun h => ev_some (iff_no (by decide) fun hh => ?_)) fun h => ev_some ⟨fun _ => ⟨hs, .inr (.inl ⟨h2, g1, g2, g3, c1, ?_⟩)⟩, fun _ => rfl⟩
    · rcases hh.2 with q | q | q
      · exact h1 q.1
      · rw [hx2, q.2.2.2.2.2] at h; simp at h
      · have := q.1; omega
    · rw [bne_eq_false_iff_eq, hx2] at h; exact h
  · have h1 : r.kind ≠ 1 := by simpa using h1
    have h2 : r.kind ≠ 2 := by simpa using h2
    obtain ⟨_, _, g1, g2⟩ : r.kind ≠ 1 ∧ r.kind ≠ 2 ∧ r.input = 0 ∧ r.const = zeroV := by
      rcases hzt with h | h | h
      · exact absurd h.1 h1
      · exact absurd h.1 h2
      · exact h
    refine ev_bind ((oper_iff ha hs).mono fun c hc => ev_some (hc.trans ⟨fun h => ⟨hs, .inr (.inr ⟨by omega, g1, g2, h⟩)⟩, fun h => ?_⟩))
    rcases h.2 with q | q | q
    · exact absurd q.1 h1
    · exact absurd q.1 h2
    · exact q.2.2.2
def typOk (t : Int) : Prop := 1 ≤ t ∧ t ≤ 8
theorem typed_iff (t : Int) : Ev (synthesisref11_typed t) fun b => b = true ↔ typOk t := by
  rw [typed_eq']
  exact ev_some (by unfold tyB typOk; simp)
/-- a valid language -/
structure ValidL (l : La) : Prop where
  name : nameOk l.name
  inputs : l.inputs.length ≤ 4
  typs : ∀ i (h : i < l.inputs.length), typOk l.inputs[i]
  sym1 : 1 ≤ l.symbols.length
  sym16 : l.symbols.length ≤ 16
  names : ∀ i (h : i < l.symbols.length), nameOk l.symbols[i].name
  once : ∀ i j (h : i < l.symbols.length) (h2 : j < l.symbols.length), i < j → l.symbols[i].name ≠ l.symbols[j].name
  types : ∀ i (h : i < l.symbols.length), typOk l.symbols[i].type
  rules : l.rules.length ≤ 96
  valid : ∀ i (h : i < l.rules.length), ValidR l l.rules[i]
  diff : ∀ i j (h : i < l.rules.length) (h2 : j < l.rules.length), i < j → l.rules[i] ≠ l.rules[j]
theorem symC_l1 {l : La} {i : Nat} (hi : i < l.symbols.length) (hn : l.symbols.length ≤ 4000000000) : Ev (loopN (synthesisref11_Check_l1 l (i : Int)) fuel 0) fun (r : Unit ⊕ Int) => (r = .inl () ∧ ∀ k, k < i → ∀ h : k < l.symbols.length, l.symbols[k].name ≠ l.symbols[i].name) ∨ (r = .inr 6 ∧ ¬ ∀ k, k < i → ∀ h : k < l.symbols.length, l.symbols[k].name ≠ l.symbols[i].name) := by
  refine ev_all (β := Unit ⊕ Int) (b0 := .inl ()) i (by omega) (fun k => ∀ h : k < l.symbols.length, l.symbols[k].name ≠ l.symbols[i].name) (fun (b : Unit ⊕ Int) => b = .inr 6) (fun k hk _ => ?_) (by simp only [synthesisref11_Check_l1, lt_len', cond_false])
  have hk' : k < l.symbols.length := by omega
  unfold synthesisref11_Check_l1
  simp only [lt_len hk, cond_true, idx_nat, List.getElem?_eq_getElem hi, List.getElem?_eq_getElem hk', Option.bind_some]
  refine ev_if (fun h => ev_some (.inr ⟨_, rfl, rfl, fun hh => hh hk' (beqB_iff.1 h)⟩)) fun h => ev_some (.inl ⟨rfl, fun _ e => ?_⟩)
  rw [beqB_iff.2 e] at h; cases h
theorem rulC_l2 {l : La} {i : Nat} (hi : i < l.rules.length) (hn : l.rules.length ≤ 4000000000) (hm : ∀ k, k ≤ i → ∀ h : k < l.rules.length, modR l.rules[k]) : Ev (loopN (synthesisref11_Check_l2 l (i : Int)) fuel 0) fun (r : Unit ⊕ Int) => (r = .inl () ∧ ∀ k, k < i → ∀ h : k < l.rules.length, l.rules[k] ≠ l.rules[i]) ∨ (r = .inr 6 ∧ ¬ ∀ k, k < i → ∀ h : k < l.rules.length, l.rules[k] ≠ l.rules[i]) := by
  refine ev_all (β := Unit ⊕ Int) (b0 := .inl ()) i (by omega) (fun k => ∀ h : k < l.rules.length, l.rules[k] ≠ l.rules[i]) (fun (b : Unit ⊕ Int) => b = .inr 6) (fun k hk _ => ?_) (by simp only [synthesisref11_Check_l2, lt_len', cond_false])
  have hk' : k < l.rules.length := by omega
  obtain ⟨c, hc, hc2⟩ := (sameR_iff (hm k (by omega) hk') (hm i (Nat.le_refl _) hi)).2
  unfold synthesisref11_Check_l2
  simp only [lt_len hk, cond_true, idx_nat, List.getElem?_eq_getElem hi, List.getElem?_eq_getElem hk', Option.bind_some, hc]
  refine ev_if (fun h => ev_some (.inr ⟨_, rfl, rfl, fun hh => hh hk' (hc2.1 h)⟩)) fun h => ev_some (.inl ⟨rfl, fun _ e => ?_⟩)
  rw [hc2.2 e] at h; cases h
theorem ValidR.modR {l : La} {r : Ru} (hr : wideR r) (h : ValidR l r) : modR r := by
  obtain ⟨c, hc, hc2⟩ := rule_iff (l := l) hr (by
    rcases h.2 with q | q | q
    · rw [q.2.2.2.1]; simp
    · rw [q.2.2.2.1]; simp
    · obtain ⟨o, h1, h2, _⟩ := q.2.2.2
      have := find_len h1 rfl
      simp only at this
      omega)
  rw [hc2.2 h] at hc
  exact (rule_good hr hc).mod
theorem check_iff {l : La} (hw : wideL l) (h1 : l.name.size ≤ 4000000000) (h2 : l.symbols.length ≤ 4000000000) (h3 : ∀ x ∈ l.symbols, x.name.size ≤ 4000000000) (h4 : l.rules.length ≤ 4000000000) (h5 : ∀ r ∈ l.rules, r.args.length ≤ 4000000000) : Ev (synthesisref11_Check l) fun c => c = 0 ↔ ValidL l := by
  unfold synthesisref11_Check
  refine ev_bind ((name_iff h1).mono fun b hb => ?_)
  refine ev_if (fun h => ev_some (iff_no (by decide) fun hh => ?_)) fun h => ?_
  · rw [hb.2 hh.name] at h; cases h
  have g1 : nameOk l.name := hb.1 (by simpa using h)
  refine ev_if (fun h => ev_some (iff_no (by decide) fun hh => ?_)) fun h => ?_
  · have := of_decide_eq_true h; have := hh.inputs; omega
  have g2 := of_decide_eq_false h
  refine ev_bind ((ev_all (b0 := .inl ()) l.inputs.length (by omega) (fun i => ∀ h : i < l.inputs.length, typOk l.inputs[i]) (fun b => ∃ e : Int, b = .inr e ∧ e ≠ 0) (fun i hi _ => ?_) (by simp only [synthesisref11_Check_l5, lt_len', cond_false])).mono fun v hv => ?_)
  · obtain ⟨t, ht, ht2⟩ := typed_iff l.inputs[i]
    unfold synthesisref11_Check_l5
    simp only [lt_len hi, cond_true, idx_nat, List.getElem?_eq_getElem hi, Option.bind_some, ht]
    refine ev_if (fun h => ev_some (.inr ⟨_, rfl, ⟨3, rfl, by decide⟩, fun hh => ?_⟩)) fun h => ev_some (.inl ⟨rfl, fun _ => ht2.1 (by simpa using h)⟩)
    rw [ht2.2 (hh hi)] at h; cases h
  rcases hv with ⟨rfl, hv⟩ | ⟨⟨e, rfl, he⟩, hv⟩
  rotate_left
  · exact ev_some (iff_no he fun hh => hv fun i hi hi' => hh.typs i hi')
  simp only [Sum.elim_inl]
  have hcnt : Ev (bif decide ((l.symbols.length : Int) < 1) then some true else some (decide (16 < (l.symbols.length : Int))) : Option Bool) fun b => b = false ↔ 1 ≤ l.symbols.length ∧ l.symbols.length ≤ 16 := by
    refine ev_if (fun h => ev_some ?_) fun h => ev_some ?_
    · have := of_decide_eq_true h; simp; omega
    · have := of_decide_eq_false h; rw [decide_eq_false_iff_not]; omega
  refine ev_bind (hcnt.mono fun b hb => ?_)
  refine ev_if (fun h => ev_some (iff_no (by decide) fun hh => ?_)) fun h => ?_
  · rw [hb.2 ⟨hh.sym1, hh.sym16⟩] at h; cases h
  have g3 := hb.1 h
  refine ev_bind ((ev_all (b0 := .inl ()) l.symbols.length h2 (fun i => ∀ h : i < l.symbols.length, nameOk l.symbols[i].name ∧ (∀ k, k < i → ∀ h : k < l.symbols.length, l.symbols[k].name ≠ l.symbols[i].name) ∧ typOk l.symbols[i].type) (fun b => ∃ e : Int, b = .inr e ∧ e ≠ 0) (fun i hi _ => ?_) (by simp only [synthesisref11_Check_l4, lt_len', cond_false])).mono fun v hv2 => ?_)
  · unfold synthesisref11_Check_l4
    simp only [lt_len hi, cond_true, idx_nat, List.getElem?_eq_getElem hi, Option.bind_some]
    refine ev_bind ((name_iff (h3 _ (List.getElem_mem hi))).mono fun b hb => ?_)
    refine ev_if (fun h => ev_some (.inr ⟨_, rfl, ⟨5, rfl, by decide⟩, fun hh => ?_⟩)) fun h => ?_
    · rw [hb.2 (hh hi).1] at h; cases h
    refine ev_bind ((symC_l1 hi h2).mono fun r hr => ?_)
    rcases hr with ⟨rfl, hr⟩ | ⟨rfl, hr⟩
    rotate_left
    · exact ev_some (.inr ⟨_, rfl, ⟨6, rfl, by decide⟩, fun hh => hr (hh hi).2.1⟩)
    simp only [Sum.elim_inl]
    refine ev_bind ((typed_iff _).mono fun c hc => ?_)
    refine ev_if (fun h => ev_some (.inr ⟨_, rfl, ⟨3, rfl, by decide⟩, fun hh => ?_⟩)) fun h' => ev_some (.inl ⟨rfl, fun _ => ⟨hb.1 (by simpa using h), hr, hc.1 (by simpa using h')⟩⟩)
    rw [hc.2 (hh hi).2.2] at h; cases h
  rcases hv2 with ⟨rfl, hv2⟩ | ⟨⟨e, rfl, he⟩, hv2⟩
  rotate_left
  · exact ev_some (iff_no he fun hh => hv2 fun i hi hi' => ⟨hh.names i hi', fun k hk hk' => hh.once k i hk' hi' hk, hh.types i hi'⟩)
  simp only [Sum.elim_inl]
  refine ev_if (fun h => ev_some (iff_no (by decide) fun hh => ?_)) fun h => ?_
  · have := of_decide_eq_true h; have := hh.rules; omega
  have g4 := of_decide_eq_false h
  refine ev_bind ((ev_all (b0 := .inl ()) l.rules.length h4 (fun i => ∀ h : i < l.rules.length, ValidR l l.rules[i] ∧ ∀ k, k < i → ∀ h : k < l.rules.length, l.rules[k] ≠ l.rules[i]) (fun b => ∃ e : Int, b = .inr e ∧ e ≠ 0) (fun i hi hall => ?_) (by simp only [synthesisref11_Check_l3, lt_len', cond_false])).mono fun v hv3 => ?_)
  · have hmem := List.getElem_mem hi
    unfold synthesisref11_Check_l3
    simp only [lt_len hi, cond_true, idx_nat, List.getElem?_eq_getElem hi, Option.bind_some]
    refine ev_bind ((rule_iff (l := l) (hw.wide _ hmem) (h5 _ hmem)).mono fun c hc => ?_)
    refine ev_if (fun h => ev_some (.inr ⟨_, rfl, ⟨c, rfl, by simpa using h⟩, fun hh => ?_⟩)) fun h => ?_
    · rw [hc.2 (hh hi).1] at h; simp at h
    have hvr : ValidR l l.rules[i] := hc.1 (by simpa using h)
    refine ev_bind ((rulC_l2 hi h4 fun k hk hk' => ?_).mono fun r hr => ?_)
    · have hmk := hw.wide _ (List.getElem_mem hk')
      by_cases hki : k = i
      · subst hki; exact hvr.modR hmk
      · exact (hall k (by omega) hk').1.modR hmk
    rcases hr with ⟨rfl, hr⟩ | ⟨rfl, hr⟩
    · exact ev_some (.inl ⟨rfl, fun _ => ⟨hvr, hr⟩⟩)
    · exact ev_some (.inr ⟨_, rfl, ⟨6, rfl, by decide⟩, fun hh => hr (hh hi).2⟩)
  rcases hv3 with ⟨rfl, hv3⟩ | ⟨⟨e, rfl, he⟩, hv3⟩
  · refine ev_some ⟨fun _ => ⟨g1, by omega, fun i hi => hv i hi hi, g3.1, g3.2, fun i hi => (hv2 i hi hi).1, fun i j hi hj hij => (hv2 j hj hj).2.1 i hij hi, fun i hi => (hv2 i hi hi).2.2, by omega, fun i hi => (hv3 i hi hi).1, fun i j hi hj hij => (hv3 j hj hj).2 i hij hi⟩, fun _ => rfl⟩
  · exact ev_some (iff_no he fun hh => hv3 fun i hi hi' => ⟨hh.valid i hi', fun k hk hk' => hh.diff k i hk' hi' hk⟩)
end Go.Proofs.YtfhmljjkhjifeaaGreatDoor
