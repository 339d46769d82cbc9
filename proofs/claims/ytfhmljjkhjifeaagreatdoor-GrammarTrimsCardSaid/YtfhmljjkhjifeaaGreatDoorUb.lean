/- Trim, by both texts; GrammarTrims. -/
import Derived.Test.YtfhmljjkhjifeaaGreatDoorTl
import Derived.Test.YtfhmljjkhjifeaaGreatDoorEv
set_option linter.unusedVariables false
set_option linter.unusedSimpArgs false
set_option maxRecDepth 100000
namespace Go.Proofs.YtfhmljjkhjifeaaGreatDoor
open Go Go.RowKit

theorem wide_mono {B C : Nat} (h : B ≤ C) : ∀ x : Va, wideV B x → wideV C x
  | .mk t m s l => fun hw => ⟨Nat.le_trans hw.1 h, wides_mono h l hw.2⟩
where
  wides_mono {B C : Nat} (h : B ≤ C) : ∀ l : List Va, wideVs B l → wideVs C l
  | [], _ => trivial
  | x :: l, hw => ⟨wide_mono h x hw.1, wides_mono h l hw.2⟩
theorem scan_iff {α γ : Type} {a b : List α} {g : γ} {step : Int → Option (Int ⊕ (Unit ⊕ γ))} (hl : a.length = b.length) (hn : a.length ≤ 4000000000)
    (hs : ∀ i (h : i < a.length) (h' : i < b.length), ∃ t : Bool, step (i : Int) = (bif t then some (.inr (.inr g)) else some (.inl (w64 ((i : Int) + 1)))) ∧ (t = false ↔ a[i] = b[i])) (he : step (a.length : Int) = some (.inr (.inl ()))) :
    Ev (loopN step fuel 0) fun r => (r = .inl () ∧ a = b) ∨ (r = .inr g ∧ a ≠ b) := by
  refine ev_loop a.length (fun i s => s = (i : Int) ∧ ∀ j (h1 : j < a.length) (h2 : j < b.length), j < i → a[j] = b[j]) (by omega) ⟨rfl, fun j _ _ h => by omega⟩ (fun i s hi ⟨e, h⟩ => ?_) (fun s ⟨e, h⟩ => ?_)
  · subst e
    obtain ⟨t, h1, h2⟩ := hs i hi (by omega)
    rw [h1]
    cases t with
    | true => exact ev_some (.inr ⟨rfl, fun hab => by subst hab; exact absurd (h2.2 rfl) (by decide)⟩)
    | false =>
      refine ev_some ⟨w64s i (by omega), fun j a1 a2 hj => ?_⟩
      by_cases hji : j = i
      · subst hji; exact h2.1 rfl
      · exact h j a1 a2 (by omega)
  · subst e
    rw [he]
    exact ev_some ⟨_, rfl, .inl ⟨rfl, List.ext_getElem hl fun j h1 h2 => h j h1 h2 h1⟩⟩
theorem len_bne {α : Type} {a b : List α} : ((a.length : Int) != (b.length : Int)) = !decide (a.length = b.length) := by
  by_cases h : a.length = b.length
  · rw [h]; simp
  · rw [decide_eq_false h, Bool.not_false, bne_iff_ne]; omega
theorem ints_iff {a b : List Int} (ha : a.length ≤ 4000000000) : Ev (synthesisref11_SameInts a b) fun c => c = true ↔ a = b := by
  unfold synthesisref11_SameInts
  rw [len_bne]
  by_cases h : a.length = b.length
  · rw [decide_eq_true h, Bool.not_true, cond_false]
    refine ev_bind ((scan_iff (g := false) h ha (fun i h1 h2 => ⟨a[i] != b[i], ?_, by simp⟩) ?_).mono fun r hr => ?_)
    · simp only [synthesisref11_SameInts_l1, lt_len h1, cond_true, idx_nat, List.getElem?_eq_getElem h1, List.getElem?_eq_getElem h2, Option.bind_some]
    · simp only [synthesisref11_SameInts_l1, lt_len', cond_false]
    · rcases hr with ⟨rfl, hr⟩ | ⟨rfl, hr⟩
      · exact ev_some (by simp [hr])
      · exact ev_some (by simp [hr])
  · rw [decide_eq_false h, Bool.not_false, cond_true]
    exact ev_some (by simp; intro e; exact h (by rw [e]))
theorem beqB_iff {a b : ByteArray} : (a.toList == b.toList) = true ↔ a = b := by
  rw [beq_iff_eq]
  exact ⟨bytesList_inj, fun h => by rw [h]⟩
theorem sy_beq (x y : Sy) : ((x.name.toList == y.name.toList) && ((x.type == y.type) && true)) = true ↔ x = y := by
  rw [Bool.and_eq_true, Bool.and_true, beqB_iff, beq_iff_eq]
  constructor
  · rintro ⟨h1, h2⟩
    cases x; cases y; simp_all
  · rintro rfl; exact ⟨rfl, rfl⟩
theorem not_iff_false {t : Bool} {p : Prop} (h : t = true ↔ p) : (!t) = false ↔ p := by
  cases t with
  | false => simp at h ⊢; exact h
  | true => simp at h ⊢; exact h
/-- a rule that can be compared -/
def modR (r : Ru) : Prop := r.args.length ≤ 4000000000 ∧ okV r.const
theorem ru_ext {a b : Ru} (h1 : a.symbol = b.symbol) (h2 : a.kind = b.kind) (h3 : a.input = b.input) (h4 : a.op = b.op) (h5 : a.args = b.args) (h6 : a.const = b.const) : a = b := by
  cases a; cases b; simp_all
theorem sameR_gen {a b : Ru} {S : List Int → List Int → Option Bool} {E : Va → Va → Option Bool} (hS : Ev (S a.args b.args) fun c => c = true ↔ a.args = b.args) (hE : E a.const b.const = some (eqV a.const b.const)) :
    Ev (Option.bind ((bif (a.symbol == b.symbol) then (bif (a.kind == b.kind) then (bif (a.input == b.input) then (bif (a.op.toList == b.op.toList) then (Option.bind (S a.args b.args) fun v1 => (bif v1 then (Option.bind (E a.const b.const) fun v2 => (some (v2))) else (some (false)))) else (some (false))) else (some (false))) else (some (false))) else (some (false))) : Option Bool) fun v4 => some v4) fun c => c = true ↔ a = b := by
  refine ev_bind ?_
  have hne : ∀ {p : Prop}, ¬ p → (false = true ↔ p) := fun h => by simp [h]
  refine ev_if (fun h1 => ?_) fun h1 => ev_some (ev_some (hne fun e => by subst e; simp at h1))
  refine ev_if (fun h2 => ?_) fun h2 => ev_some (ev_some (hne fun e => by subst e; simp at h2))
  refine ev_if (fun h3 => ?_) fun h3 => ev_some (ev_some (hne fun e => by subst e; simp at h3))
  refine ev_if (fun h4 => ?_) fun h4 => ev_some (ev_some (hne fun e => by subst e; simp at h4))
  refine ev_bind (hS.mono fun c hc => ?_)
  refine ev_if (fun h5 => ?_) fun h5 => ev_some (ev_some (hne fun e => by subst e; rw [hc.2 rfl] at h5; cases h5))
  rw [hE]
  refine ev_some (ev_some ?_)
  rw [eqV_iff]
  exact ⟨fun h6 => ru_ext (eq_of_beq h1) (eq_of_beq h2) (eq_of_beq h3) (beqB_iff.1 h4) (hc.1 h5) h6, fun e => by rw [e]⟩
theorem sameR_iff {a b : Ru} (ha : modR a) (hb : modR b) : (Ev (grammar_sameRule_h a b) fun c => c = true ↔ a = b) ∧ (Ev (synthesisref11_SameRule a b) fun c => c = true ↔ a = b) :=
  ⟨sameR_gen (S := slices_Equal_int_int) (E := value_Equal) (ints_iff ha.1) (value_Equal_eq ha.2 hb.2), sameR_gen (S := synthesisref11_SameInts) (E := synthesisref01_Equal) (ints_iff ha.1) (ref_Equal_eq ha.2 hb.2)⟩
/-- a language that can be compared -/
structure ModL (l : La) : Prop where
  inputs : l.inputs.length ≤ 4000000000
  symbols : l.symbols.length ≤ 4000000000
  rules : l.rules.length ≤ 4000000000
  mods : ∀ r ∈ l.rules, modR r
theorem la_ext {a b : La} (h1 : a.name = b.name) (h2 : a.inputs = b.inputs) (h3 : a.symbols = b.symbols) (h4 : a.rules = b.rules) : a = b := by
  cases a; cases b; simp_all
theorem same_ref {a b : La} (ha : ModL a) (hb : ModL b) : Ev (synthesisref11_Same a b) fun c => c = true ↔ a = b := by
  unfold synthesisref11_Same
  have hne : ∀ {p : Prop}, ¬ p → (false = true ↔ p) := fun h => by simp [h]
  refine ev_bind ?_
  refine ev_if (fun h1 => ev_some (ev_yes rfl (ev_some (hne fun e => by subst e; simp at h1)))) fun h1 => ?_
  refine ev_bind ((ints_iff ha.inputs).mono fun c hc => ?_)
  refine ev_if (fun h2 => ev_some (ev_yes rfl (ev_some (hne fun e => by subst e; rw [hc.2 rfl] at h2; cases h2)))) fun h2 => ?_
  refine ev_if (fun h3 => ev_some (ev_yes rfl (ev_some (hne fun e => by subst e; simp at h3)))) fun h3 => ?_
  refine ev_some (ev_if (fun h4 => ev_some (hne fun e => by subst e; simp at h4)) fun h4 => ?_)
  rw [len_bne, Bool.not_eq_false', decide_eq_true_eq] at h3 h4
  have hname : a.name = b.name := beqB_iff.1 (by simpa using h1)
  have hin : a.inputs = b.inputs := hc.1 (by simpa using h2)
  refine ev_bind ((scan_iff (g := false) h3 ha.symbols (fun i i1 i2 => ⟨_, ?_, not_iff_false (sy_beq a.symbols[i] b.symbols[i])⟩) ?_).mono fun r hr => ?_)
  · simp only [synthesisref11_Same_l2, lt_len i1, cond_true, idx_nat, List.getElem?_eq_getElem i1, List.getElem?_eq_getElem i2, Option.bind_some]
  · simp only [synthesisref11_Same_l2, lt_len', cond_false]
  rcases hr with ⟨rfl, hr⟩ | ⟨rfl, hr⟩
  rotate_left
  · exact ev_some (hne (fun e => (by subst e; exact hr rfl)))
  refine ev_bind ((scan_iff (g := false) h4 ha.rules (fun i i1 i2 => ?_) ?_).mono fun r hq => ?_)
  · obtain ⟨t, ht, ht2⟩ := (sameR_iff (ha.mods _ (List.getElem_mem i1)) (hb.mods _ (List.getElem_mem i2))).2
    refine ⟨!t, ?_, not_iff_false ht2⟩
    simp only [synthesisref11_Same_l1, lt_len i1, cond_true, idx_nat, List.getElem?_eq_getElem i1, List.getElem?_eq_getElem i2, Option.bind_some, ht]
  · simp only [synthesisref11_Same_l1, lt_len', cond_false]
  rcases hq with ⟨rfl, hq⟩ | ⟨rfl, hq⟩
  · exact ev_some (by simp [la_ext hname hin hr hq])
  · exact ev_some (hne fun e => by subst e; exact hq rfl)
end Go.Proofs.YtfhmljjkhjifeaaGreatDoor
set_option linter.unusedVariables false
set_option linter.unusedSimpArgs false
set_option maxRecDepth 100000
namespace Go.Proofs.YtfhmljjkhjifeaaGreatDoor
open Go Go.RowKit

theorem copied_loop {x : Va} {r : Va → Option Va} (hl : x.items.length ≤ 1000) (h : ∀ y ∈ x.items, r y = some y) : loopN (grammar_copied_l1 x r) fuel (0, []) = some x.items := by
  refine (ev_loop (Q := (· = x.items)) x.items.length (fun i s => s = ((i : Int), x.items.take i)) (by omega) (by simp) (fun i s hi e => ?_) (fun s e => ?_)).eq
  · subst e
    refine ev_go (s := (((i + 1 : Nat) : Int), x.items.take (i + 1))) ?_ rfl
    simp only [grammar_copied_l1, lt_len hi, cond_true, idx_nat, List.getElem?_eq_getElem hi, Option.bind_some, h _ (List.getElem_mem hi), app_eq (b := 56) (xs := x.items.take i) (ys := [x.items[i]]) (by rw [List.length_take]; simp; omega), w64s i (by omega), List.take_succ_eq_append_getElem hi]
  · subst e
    exact ev_out (b := x.items.take x.items.length) (by simp only [grammar_copied_l1, lt_len', cond_false]) (by simp)
theorem copied_eq : ∀ (n : Nat) (x : Va), depV x ≤ n → wideV 1000 x → grammar_copied n x = some x
  | 0, x, h, _ => by obtain ⟨t, m, s, l⟩ := x; exact absurd h (by unfold depV; omega)
  | n + 1, x, h, hw => by
    obtain ⟨w1, w2⟩ := wide_items hw
    show grammar_copied_b (grammar_copied n) x = _
    unfold grammar_copied_b
    rw [copied_loop w1 fun y hy => copied_eq n y (by have := dep_items hy; omega) (w2 y hy), Option.bind_some, va_eta]
/-- the symbols that stay; the rules that stay -/
def keepL (l : La) : List Bool := selfR true 0 (refReach (fun r => allB r (prodL l)) 0 l)
theorem keepL_len (l : La) : (keepL l).length = l.symbols.length := by simp [keepL, selfR, refReach_len]
def syD : Sy := ⟨⟨#[]⟩, 0⟩
def ruD : Ru := ⟨0, 0, 0, zeroV, ⟨#[]⟩, []⟩
def keepR (l : La) (i : Nat) : Bool := mk (keepL l) (l.rules.getD i ruD).symbol.toNat && allB (l.rules.getD i ruD) (prodL l)
/-- the new number of a symbol -/
def rkL (l : La) (i : Nat) : Nat := (selN (mk (keepL l)) i).length
def newR (l : La) (r : Ru) : Ru := ⟨(rkL l r.symbol.toNat : Int), r.kind, r.input, r.const, r.op, r.args.map fun a => (rkL l a.toNat : Int)⟩
def symsL (l : La) (n : Nat) : List Sy := (selN (mk (keepL l)) n).map fun i => l.symbols.getD i syD
def idxL (l : La) (n : Nat) : List Int := (selN (keepR l) n).map fun (i : Nat) => (i : Int)
def rulsL (l : La) (n : Nat) : List Ru := (selN (keepR l) n).map fun i => newR l (l.rules.getD i ruD)
def trimL (l : La) : La := ⟨l.name, l.inputs, symsL l l.symbols.length, rulsL l l.rules.length⟩
theorem symsL_len (l : La) (n : Nat) : (symsL l n).length = rkL l n := by simp [symsL, rkL]
theorem rkL_le (l : La) (n : Nat) : rkL l n ≤ n := selN_len_le _ _
theorem symsL_yes {l : La} {i : Nat} (hi : i < l.symbols.length) (h : mk (keepL l) i = true) : symsL l (i + 1) = symsL l i ++ [l.symbols[i]] := by
  unfold symsL
  rw [selN_yes h, List.map_append]
  simp [List.getD_eq_getElem?_getD, hi]
theorem symsL_no {l : La} {i : Nat} (h : mk (keepL l) i = false) : symsL l (i + 1) = symsL l i := by unfold symsL; rw [selN_no h]
theorem idxL_len (l : La) (n : Nat) : (idxL l n).length ≤ n := by rw [idxL, List.length_map]; exact selN_len_le _ _
theorem rulsL_len (l : La) (n : Nat) : (rulsL l n).length ≤ n := by rw [rulsL, List.length_map]; exact selN_len_le _ _
theorem idxL_yes {l : La} {i : Nat} (h : keepR l i = true) : idxL l (i + 1) = idxL l i ++ [(i : Int)] := by unfold idxL; rw [selN_yes h, List.map_append]; rfl
theorem idxL_no {l : La} {i : Nat} (h : keepR l i = false) : idxL l (i + 1) = idxL l i := by unfold idxL; rw [selN_no h]
theorem rulsL_yes {l : La} {i : Nat} (hi : i < l.rules.length) (h : keepR l i = true) : rulsL l (i + 1) = rulsL l i ++ [newR l l.rules[i]] := by
  unfold rulsL
  rw [selN_yes h, List.map_append]
  simp [List.getD_eq_getElem?_getD, hi]
theorem rulsL_no {l : La} {i : Nat} (h : keepR l i = false) : rulsL l (i + 1) = rulsL l i := by unfold rulsL; rw [selN_no h]
/-- what stays can be built of what stays -/
theorem keep_closed {l : La} (hg : GoodL l) {r : Ru} (hr : r ∈ l.rules) (hk : mk (keepL l) r.symbol.toNat = true) (ha : allB r (prodL l) = true) : ∀ a ∈ r.args, mk (keepL l) a.toNat = true := by
  intro a haa
  have h1 := hg.sym1
  have hlt := arg_lt hg hr a.toNat (List.mem_map_of_mem haa)
  unfold keepL selfR at hk ⊢
  rw [if_pos rfl] at hk ⊢
  rw [mk_set (by rw [refReach_len]; omega)] at hk ⊢
  by_cases h0 : 0 = a.toNat
  · rw [if_pos h0]
  · rw [if_neg h0, refReach_iff hg]
    have hs : a.toNat ∈ succA (fun r => allB r (prodL l)) l r.symbol.toNat := mem_succ.2 ⟨r, hr, rfl, ha, List.mem_map_of_mem haa⟩
    by_cases h2 : 0 = r.symbol.toNat
    · rw [← h2] at hs
      exact .single hs
    · rw [if_neg h2, refReach_iff hg] at hk
      exact .tail hk hs
/-- the numbers that a text writes down -/
structure NumOk (l : La) (i : Nat) (num : List Int) : Prop where
  len : num.length = l.symbols.length
  val : ∀ j, j < i → mk (keepL l) j = true → num[j]? = some (rkL l j : Int)
theorem NumOk.set {l : La} {i : Nat} {num : List Int} (h : NumOk l i num) (hi : i < l.symbols.length) : NumOk l (i + 1) (num.set i (rkL l i : Int)) := by
  refine ⟨by rw [List.length_set]; exact h.len, fun j hj hk => ?_⟩
  by_cases hji : i = j
  · subst hji
    rw [List.getElem?_set_self (by rw [h.len]; exact hi)]
  · rw [List.getElem?_set_ne hji]
    exact h.val j (by omega) hk
theorem numSkip {l : La} {i : Nat} {num : List Int} (h : NumOk l i num) (hk : mk (keepL l) i = false) : NumOk l (i + 1) num := by
  refine ⟨h.len, fun j hj hj2 => ?_⟩
  by_cases hji : j = i
  · subst hji; rw [hk] at hj2; cases hj2
  · exact h.val j (by omega) hj2
theorem idx_mk {s : List Bool} {i : Nat} (hi : i < s.length) : idx s (i : Int) = some (mk s i) := by
  rw [idx_nat, List.getElem?_eq_getElem hi]
  simp [mk, List.getD_eq_getElem?_getD, hi]
theorem idx_keep {l : La} {a : Int} (h0 : 0 ≤ a) (h1 : a < (l.symbols.length : Int)) : idx (keepL l) a = some (mk (keepL l) a.toNat) := by
  have := idx_mk (s := keepL l) (i := a.toNat) (by rw [keepL_len]; omega)
  rwa [show ((a.toNat : Nat) : Int) = a by omega] at this
theorem idx_num {l : La} {num : List Int} (h : NumOk l l.symbols.length num) {a : Int} (h0 : 0 ≤ a) (h1 : a < (l.symbols.length : Int)) (hk : mk (keepL l) a.toNat = true) : idx num a = some (rkL l a.toNat : Int) := by
  unfold idx
  rw [if_pos h0]
  exact h.val _ (by omega) hk
theorem trim_l3 {l : La} (hg : GoodL l) : Ev (loopN (grammar_Trim_l3 l (keepL l)) fuel (0, List.replicate l.symbols.length 0, [])) fun r => NumOk l l.symbols.length r.1 ∧ r.2 = symsL l l.symbols.length := by
  have h16 := hg.sym16
  refine ev_loop l.symbols.length (fun i s => s.1 = (i : Int) ∧ NumOk l i s.2.1 ∧ s.2.2 = symsL l i) (by omega) ⟨rfl, ⟨by simp, fun j hj => by omega⟩, rfl⟩ (fun i s hi ⟨e1, e2, e3⟩ => ?_) (fun s ⟨e1, e2, e3⟩ => ?_)
  · obtain ⟨k, num, sy⟩ := s
    simp only at e1 e2 e3
    subst e1 e3
    have hk := idx_mk (s := keepL l) (i := i) (by rw [keepL_len]; exact hi)
    have hl := rkL_le l i
    unfold grammar_Trim_l3
    simp only [keepL_len, lt_len hi, cond_true, hk, Option.bind_some]
    cases hb : mk (keepL l) i with
    | true =>
      have en : idx num (i : Int) = some (num[i]'(by rw [e2.len]; exact hi)) := by rw [idx_nat, List.getElem?_eq_getElem]
      simp only [cond_true, en, idx_nat, List.getElem?_eq_getElem hi, Option.bind_some, app_eq (b := 24) (xs := symsL l i) (ys := [l.symbols[i]]) (by rw [symsL_len]; simp; omega), Int.toNat_natCast, symsL_len]
      exact ev_some ⟨w64s i (by omega), e2.set hi, (symsL_yes hi hb).symm⟩
    | false =>
      simp only [cond_false, Option.bind_some]
      exact ev_some ⟨w64s i (by omega), numSkip e2 hb, (symsL_no hb).symm⟩
  · obtain ⟨k, num, sy⟩ := s
    simp only at e1 e2 e3
    subst e1 e3
    exact ev_out (b := (num, symsL l l.symbols.length)) (by simp only [grammar_Trim_l3, keepL_len, lt_len', cond_false]) ⟨e2, rfl⟩
theorem keepL_ref (l : La) : List.set (refReach (fun r => allB r (prodL l)) 0 l) (Int.toNat 0) true = keepL l := rfl
theorem rtrim_l3 {l : La} (hg : GoodL l) : Ev (loopN (synthesisref11_Trim_l3 l (refReach (fun r => allB r (prodL l)) 0 l)) fuel (0, List.replicate l.symbols.length 0, [])) fun r => NumOk l l.symbols.length r.1 ∧ r.2 = symsL l l.symbols.length := by
  have h16 := hg.sym16
  refine ev_loop l.symbols.length (fun i s => s.1 = (i : Int) ∧ NumOk l i s.2.1 ∧ s.2.2 = symsL l i) (by omega) ⟨rfl, ⟨by simp, fun j hj => by omega⟩, rfl⟩ (fun i s hi ⟨e1, e2, e3⟩ => ?_) (fun s ⟨e1, e2, e3⟩ => ?_)
  · obtain ⟨k, num, sy⟩ := s
    simp only at e1 e2 e3
    subst e1 e3
    have hk := idx_mk (s := keepL l) (i := i) (by rw [keepL_len]; exact hi)
    have hl := rkL_le l i
    have en : idx num (i : Int) = some (num[i]'(by rw [e2.len]; exact hi)) := by rw [idx_nat, List.getElem?_eq_getElem]
    unfold synthesisref11_Trim_l3
    simp only [keepL_ref, lt_len hi, cond_true, hk, en, Option.bind_some]
    cases hb : mk (keepL l) i with
    | true =>
      simp only [cond_true, idx_nat, List.getElem?_eq_getElem hi, Option.bind_some, app_eq (b := 24) (xs := symsL l i) (ys := [l.symbols[i]]) (by rw [symsL_len]; simp; omega), Int.toNat_natCast, symsL_len]
      exact ev_some ⟨w64s i (by omega), e2.set hi, (symsL_yes hi hb).symm⟩
    | false =>
      simp only [cond_false, Option.bind_some, Int.toNat_natCast, symsL_len]
      exact ev_some ⟨w64s i (by omega), e2.set hi, (symsL_no hb).symm⟩
  · obtain ⟨k, num, sy⟩ := s
    simp only at e1 e2 e3
    subst e1 e3
    exact ev_out (b := (num, symsL l l.symbols.length)) (by simp only [synthesisref11_Trim_l3, lt_len', cond_false]) ⟨e2, rfl⟩
theorem trim_args {l : La} {num : List Int} {sy : List Sy} (h : NumOk l l.symbols.length num) {r : Ru} (hr : GoodR l r) (hk : ∀ a ∈ r.args, mk (keepL l) a.toNat = true) : loopN (grammar_Trim_l1 (num, sy) r) fuel (0, []) = some (newR l r).args ∧ loopN (synthesisref11_Trim_l1 (num, sy) r) fuel (0, []) = some (newR l r).args := by
  have hf := hr.few
  have hstep : ∀ i (hi : i < r.args.length), idx num r.args[i] = some (rkL l r.args[i].toNat : Int) := fun i hi => by
    have hm := List.getElem_mem hi
    exact idx_num h (hr.args _ hm).1 (hr.args _ hm).2 (hk _ hm)
  have h1 : loopN (grammar_Trim_l1 (num, sy) r) fuel (0, []) = some (newR l r).args := by
    refine (ev_loop (Q := (· = (newR l r).args)) r.args.length (fun i s => s = ((i : Int), (newR l r).args.take i)) (by omega) (by simp) (fun i s hi e => ?_) (fun s e => ?_)).eq
    · subst e
      have hi' : i < (newR l r).args.length := by simp [newR]; exact hi
      have hx : (newR l r).args[i] = (rkL l r.args[i].toNat : Int) := by simp [newR]
      refine ev_go (s := (((i + 1 : Nat) : Int), (newR l r).args.take (i + 1))) ?_ rfl
      simp only [grammar_Trim_l1, lt_len hi, cond_true, idx_nat, List.getElem?_eq_getElem hi, Option.bind_some, hstep i hi, app_eq (b := 8) (xs := (newR l r).args.take i) (ys := [(rkL l r.args[i].toNat : Int)]) (by rw [List.length_take]; simp; omega), w64s i (by omega), List.take_succ_eq_append_getElem hi', hx]
    · subst e
      exact ev_out (b := (newR l r).args.take r.args.length) (by simp only [grammar_Trim_l1, lt_len', cond_false]) (by rw [List.take_of_length_le]; simp [newR])
  exact ⟨h1, h1⟩
theorem all_both {r : Ru} {l : La} (hg : GoodL l) (hr : GoodR l r) : synthesisref11_all r (prodL l) = some (allB r (prodL l)) ∧ grammar_complete_1_h r (prodL l) = some (allB r (prodL l)) := by
  obtain ⟨a1, _, a3⟩ := all_scan (r := r) (s := prodL l) (by have := hr.few; omega) (fun a ha => by rw [prodL_len]; exact hr.args a ha)
  exact ⟨a1, a3⟩
theorem ru_app {l : La} {n : Nat} (hn : n ≤ 96) (x : Ru) : app 120 (rulsL l n) [x] = some (rulsL l n ++ [x]) := app_eq (by have := rulsL_len l n; simp; omega)
theorem ix_app {l : La} {n : Nat} (hn : n ≤ 96) (x : Int) : app 8 (idxL l n) [x] = some (idxL l n ++ [x]) := app_eq (by have := idxL_len l n; simp; omega)
theorem rd_eq {l : La} {i : Nat} (hi : i < l.rules.length) : l.rules.getD i ruD = l.rules[i] := by simp [List.getD_eq_getElem?_getD, hi]
theorem trim_l2 {l : La} (hg : GoodL l) (hm : ∀ r ∈ l.rules, depV r.const ≤ 1000000 ∧ wideV 1000 r.const) {num : List Int} (h : NumOk l l.symbols.length num) (sy : List Sy) : loopN (grammar_Trim_l2 l (prodL l) (keepL l) (num, sy)) fuel (0, [], []) = some (idxL l l.rules.length, rulsL l l.rules.length) ∧ loopN (synthesisref11_Trim_l2 l (prodL l) (refReach (fun r => allB r (prodL l)) 0 l) (num, sy)) fuel (0, [], []) = some (idxL l l.rules.length, rulsL l l.rules.length) := by
  have h96 := hg.rules
  constructor
  · refine (ev_loop (s0 := ((0 : Int), ([] : List Int), ([] : List Ru))) (Q := (· = (idxL l l.rules.length, rulsL l l.rules.length))) l.rules.length (fun i s => s = ((i : Int), idxL l i, rulsL l i)) (by omega) rfl (fun i s hi e => ?_) (fun s e => ?_)).eq
    · subst e
      have hr := List.getElem_mem hi
      have gr := hg.good _ hr
      have e1 := idx_keep gr.sym0 gr.sym1
      have e2 := (all_both hg gr).2
      have hkr : keepR l i = (mk (keepL l) l.rules[i].symbol.toNat && allB l.rules[i] (prodL l)) := by unfold keepR; rw [rd_eq hi]
      unfold grammar_Trim_l2
      simp only [lt_len hi, cond_true, idx_nat, List.getElem?_eq_getElem hi, Option.bind_some, e1]
      cases hb : mk (keepL l) l.rules[i].symbol.toNat with
      | false =>
        have hn : keepR l i = false := by rw [hkr, hb]; rfl
        simp only [Bool.not_false, cond_true, Option.bind_some, Sum.elim_inr]
        exact ev_some (by simp only [Sum.elim_inl]; rw [idxL_no hn, rulsL_no hn, w64s i (by omega)])
      | true =>
        simp only [Bool.not_true, cond_false, e2, Option.bind_some]
        cases hc : allB l.rules[i] (prodL l) with
        | false =>
          have hn : keepR l i = false := by rw [hkr, hb, hc]; rfl
          simp only [Bool.not_false, cond_true, Option.bind_some, Sum.elim_inr]
          exact ev_some (by simp only [Sum.elim_inl]; rw [idxL_no hn, rulsL_no hn, w64s i (by omega)])
        | true =>
          have hn : keepR l i = true := by rw [hkr, hb, hc]; rfl
          have e3 := idx_num h gr.sym0 gr.sym1 hb
          have e4 := (trim_args (sy := sy) h gr (keep_closed hg hr hb hc)).1
          have e5 := copied_eq fuel l.rules[i].const (Nat.le_trans (hm _ hr).1 (Nat.le_of_lt (lt_fuel (by omega)))) (hm _ hr).2
          simp only [Bool.not_true, cond_false, Option.bind_some, e3, e4, e5, ru_app (l := l) (n := i) (by omega), ix_app (l := l) (n := i) (by omega), Sum.elim_inl]
          exact ev_some (by simp only [Sum.elim_inl]; rw [idxL_yes hn, rulsL_yes hi hn, w64s i (by omega)]; rfl)
    · subst e
      exact ev_out (b := (idxL l l.rules.length, rulsL l l.rules.length)) (by simp only [grammar_Trim_l2, lt_len', cond_false]) rfl
  · refine (ev_loop (s0 := ((0 : Int), ([] : List Int), ([] : List Ru))) (Q := (· = (idxL l l.rules.length, rulsL l l.rules.length))) l.rules.length (fun i s => s = ((i : Int), idxL l i, rulsL l i)) (by omega) rfl (fun i s hi e => ?_) (fun s e => ?_)).eq
    · subst e
      have hr := List.getElem_mem hi
      have gr := hg.good _ hr
      have e1 := idx_keep gr.sym0 gr.sym1
      have e2 := (all_both hg gr).1
      have hkr : keepR l i = (mk (keepL l) l.rules[i].symbol.toNat && allB l.rules[i] (prodL l)) := by unfold keepR; rw [rd_eq hi]
      unfold synthesisref11_Trim_l2
      simp only [keepL_ref, lt_len hi, cond_true, idx_nat, List.getElem?_eq_getElem hi, Option.bind_some, e1]
      cases hb : mk (keepL l) l.rules[i].symbol.toNat with
      | false =>
        have hn : keepR l i = false := by rw [hkr, hb]; rfl
        simp only [Bool.not_false, cond_true, Option.bind_some, Sum.elim_inr]
        exact ev_some (by simp only [Sum.elim_inl]; rw [idxL_no hn, rulsL_no hn, w64s i (by omega)])
      | true =>
        simp only [Bool.not_true, cond_false, e2, Option.bind_some]
        cases hc : allB l.rules[i] (prodL l) with
        | false =>
          have hn : keepR l i = false := by rw [hkr, hb, hc]; rfl
          simp only [Bool.not_false, cond_true, Option.bind_some, Sum.elim_inr]
          exact ev_some (by simp only [Sum.elim_inl]; rw [idxL_no hn, rulsL_no hn, w64s i (by omega)])
        | true =>
          have hn : keepR l i = true := by rw [hkr, hb, hc]; rfl
          have e3 := idx_num h gr.sym0 gr.sym1 hb
          have e4 := (trim_args (sy := sy) h gr (keep_closed hg hr hb hc)).2
          simp only [Bool.not_true, cond_false, Option.bind_some, e3, e4, ru_app (l := l) (n := i) (by omega), ix_app (l := l) (n := i) (by omega), Sum.elim_inl]
          exact ev_some (by simp only [Sum.elim_inl]; rw [idxL_yes hn, rulsL_yes hi hn, w64s i (by omega)]; rfl)
    · subst e
      exact ev_out (b := (idxL l l.rules.length, rulsL l l.rules.length)) (by simp only [synthesisref11_Trim_l2, lt_len', cond_false]) rfl
def laD : La := ⟨⟨#[]⟩, [], [], []⟩
/-- what Trim returns for a valid language -/
def trimR (l : La) : La × List Int × Int := if mk (prodL l) 0 = true then (trimL l, idxL l l.rules.length, 0) else (laD, [], 12)
theorem app_nil8 {xs : List Int} (h : xs.length ≤ 1000) : app 8 [] xs = some xs := by rw [app_eq (by simp; omega)]; rfl
theorem trim_good {l : La} (hg : GoodL l) (hc : grammar_Check l = some 0) (hc' : synthesisref11_Check l = some 0) (hm : ∀ r ∈ l.rules, depV r.const ≤ 1000000 ∧ wideV 1000 r.const) : grammar_Trim l = some (trimR l) ∧ synthesisref11_Trim l = some (trimR l) := by
  have h1 := hg.sym1
  have h16 := hg.sym16
  have hi := hg.inputs
  obtain ⟨p1, p2⟩ := productive_eq hg
  have e0 : idx (prodL l) 0 = some (mk (prodL l) 0) := idx_mk (i := 0) (by rw [prodL_len]; omega)
  have hmk : mkL 8 (0 : Int) (l.symbols.length : Int) = some (List.replicate l.symbols.length 0) := mkL_eq 8 0 l.symbols.length (by omega)
  have hr1 : grammar_reach_h2 l 0 true (prodL l) = some (keepL l) := (prog_reach hg (fr := 0) (by omega) true).2 (prodL l) (prodL_len l)
  have hr2 : synthesisref11_reach_h2 l 0 (prodL l) = some (refReach (fun r => allB r (prodL l)) 0 l) := (ref_reach hg 0).2 (prodL l) (prodL_ne hg) (prodL_len l)
  have e3 : idx (refReach (fun r => allB r (prodL l)) 0 l) 0 = some (mk (refReach (fun r => allB r (prodL l)) 0 l) 0) := idx_mk (i := 0) (by rw [refReach_len]; omega)
  obtain ⟨⟨num, sy⟩, a1, a2, a3⟩ := trim_l3 hg
  obtain ⟨⟨num', sy'⟩, b1, b2, b3⟩ := rtrim_l3 hg
  simp only at a2 a3 b2 b3
  subst a3 b3
  have c1 := (trim_l2 hg hm a2 (symsL l l.symbols.length)).1
  have c2 := (trim_l2 hg hm b2 (symsL l l.symbols.length)).2
  unfold trimR
  constructor
  · unfold grammar_Trim
    simp only [hc, Option.bind_some, bne_self_eq_false, cond_false, p1, e0]
    cases hb : mk (prodL l) 0 with
    | false => rfl
    | true => simp only [Bool.not_true, cond_false, complete_eq hg, Option.bind_some, hr1, app_nil8 (xs := l.inputs) (by omega), keepL_len, hmk, a1, c1, if_true]; rfl
  · unfold synthesisref11_Trim
    simp only [hc', Option.bind_some, bne_self_eq_false, cond_false, p2, e0]
    cases hb : mk (prodL l) 0 with
    | false => rfl
    | true => simp only [Bool.not_true, cond_false, Option.bind_some, hr2, e3, app_nil8 (xs := l.inputs) (by omega), hmk, b1, c2, if_true]; rfl
theorem trim_bad {l : La} {c : Int} (hc : grammar_Check l = some c) (hc' : synthesisref11_Check l = some c) (h : c ≠ 0) : grammar_Trim l = some (laD, [], c) ∧ synthesisref11_Trim l = some (laD, [], c) := by
  have hb : (c != 0) = true := by simp [h]
  constructor
  · simp only [grammar_Trim, hc, Option.bind_some, hb, cond_true]; rfl
  · simp only [synthesisref11_Trim, hc', Option.bind_some, hb, cond_true]; rfl
theorem SmallL.fine {l : La} (h : SmallL l) : ∀ r ∈ l.rules, depV r.const ≤ 1000000 ∧ wideV 1000 r.const := fun r hr => by
  obtain ⟨a1, a2, a3, a4⟩ := h.2.2.2.2.2 r hr
  exact ⟨by omega, wide_mono (by omega) _ a4⟩
theorem laD_mod : ModL laD := ⟨by simp [laD], by simp [laD], by simp [laD], fun r hr => by simp [laD] at hr⟩
theorem trimL_mod {l : La} (hg : GoodL l) : ModL (trimL l) := by
  refine ⟨by have := hg.inputs; show l.inputs.length ≤ _; omega, ?_, ?_, fun r hr => ?_⟩
  · have := rkL_le l l.symbols.length; have := hg.sym16; show (symsL l l.symbols.length).length ≤ _; rw [symsL_len]; omega
  · have := rulsL_len l l.rules.length; have := hg.rules; show (rulsL l l.rules.length).length ≤ _; omega
  · obtain ⟨i, hi, rfl⟩ := List.mem_map.1 (show r ∈ rulsL l l.rules.length from hr)
    have hi := (mem_selN.1 hi).1
    rw [rd_eq hi]
    have gr := hg.good _ (List.getElem_mem hi)
    exact ⟨by have := gr.few; show (List.map _ _).length ≤ _; rw [List.length_map]; omega, gr.fine⟩
theorem idxL_len' (l : La) : (idxL l l.rules.length).length ≤ l.rules.length := idxL_len l _
theorem law_GrammarTrims (a0 : La) (h0 : wideL a0) : synthesislaw11_GrammarTrims_h a0 = some true := by
  obtain ⟨b, hb, hb2⟩ := smallL_some h0
  unfold synthesislaw11_GrammarTrims_h
  rw [hb, awake11]
  cases b with
  | false => rfl
  | true =>
    have hs := hb2 rfl
    obtain ⟨c, c1, c2, c3⟩ := lang_u a0 h0
    have key : ∃ x : La × List Int × Int, grammar_Trim a0 = some x ∧ synthesisref11_Trim a0 = some x ∧ ModL x.1 ∧ x.2.1.length ≤ 1000 := by
      by_cases hc : c = 0
      · subst hc
        obtain ⟨t1, t2⟩ := trim_good (c3 rfl) c1 c2 hs.fine
        refine ⟨_, t1, t2, ?_, ?_⟩
        · unfold trimR; split
          · exact trimL_mod (c3 rfl)
          · exact laD_mod
        · unfold trimR; split
          · have := idxL_len' a0; have := (c3 rfl).rules; show (idxL _ _).length ≤ _; omega
          · simp
      · obtain ⟨t1, t2⟩ := trim_bad c1 c2 hc
        exact ⟨_, t1, t2, laD_mod, by simp⟩
    obtain ⟨x, x1, x2, x3, x4⟩ := key
    obtain ⟨u, u1, u2⟩ := same_ref x3 x3
    obtain rfl : u = true := u2.2 rfl
    simp only [Bool.not_true, cond_false, Option.bind_some, x1, x2, u1, cond_true, SameInts_self (l := x.2.1) (by omega), beq_self_eq_true]
end Go.Proofs.YtfhmljjkhjifeaaGreatDoor
