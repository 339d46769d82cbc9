/- The order of terms by cost is a total order; WeightOrders. -/
import Derived.Test.YtpcfkflhnkfjjaaWb
import Derived.Test.YtpcfkflhnkfjjaaEv
set_option linter.unusedVariables false
set_option linter.unusedSimpArgs false
set_option maxRecDepth 100000
namespace Go.Proofs.Ytpcfkflhnkfjjaa
open Go Go.RowKit

mutual
/-- a term is known by its rules and arities in preorder -/
theorem pre_inj : ∀ (s t : Tm) (xs ys us vs : List Int), s.pre Tm.rule ++ xs = t.pre Tm.rule ++ ys → s.pre Tm.nargs ++ us = t.pre Tm.nargs ++ vs → s = t ∧ xs = ys ∧ us = vs
  | .mk r l, .mk r' l', xs, ys, us, vs, h1, h2 => by
    simp only [Tm.pre, List.cons_append, List.cons.injEq] at h1 h2
    have hr : r = r' := h1.1
    have hl : l.length = l'.length := by have := h2.1; simp only [Tm.nargs, Tm.args] at this; omega
    obtain ⟨e1, e2, e3⟩ := preL_inj l l' hl xs ys us vs h1.2 h2.2
    exact ⟨by rw [hr, e1], e2, e3⟩
theorem preL_inj : ∀ (l l' : List Tm), l.length = l'.length → ∀ (xs ys us vs : List Int), Tm.preL Tm.rule l ++ xs = Tm.preL Tm.rule l' ++ ys → Tm.preL Tm.nargs l ++ us = Tm.preL Tm.nargs l' ++ vs → l = l' ∧ xs = ys ∧ us = vs
  | [], [], _, xs, ys, us, vs, h1, h2 => ⟨rfl, by simpa [Tm.preL] using h1, by simpa [Tm.preL] using h2⟩
  | [], _ :: _, h, _, _, _, _, _, _ => by simp at h
  | _ :: _, [], h, _, _, _, _, _, _ => by simp at h
  | t :: l, t' :: l', h, xs, ys, us, vs, h1, h2 => by
    simp only [Tm.preL, List.append_assoc] at h1 h2
    obtain ⟨e1, e2, e3⟩ := pre_inj t t' _ _ _ _ h1 h2
    obtain ⟨e4, e5, e6⟩ := preL_inj l l' (by simpa using h) xs ys us vs e2 e3
    exact ⟨by rw [e1, e4], e5, e6⟩
end
/-- a comparison that is a total order -/
structure Ord3 {α : Type} (E : α → α → Prop) (c : α → α → Int) : Prop where
  anti : ∀ x y, E x y → c y x = -c x y
  trans : ∀ x y z, E x y → E y z → E x z → c x y ≤ 0 → c y z ≤ 0 → c x z ≤ 0
def lex {α : Type} (c d : α → α → Int) (x y : α) : Int := if c x y ≠ 0 then c x y else d x y
theorem Ord3.lex {α : Type} {E : α → α → Prop} {c d : α → α → Int} (hE : ∀ x y, E x y → E y x) (hc : Ord3 E c) (hd : Ord3 (fun x y => E x y ∧ c x y = 0) d) : Ord3 E (lex c d) := by
  have z : ∀ x y, E x y → (c y x = 0 ↔ c x y = 0) := fun x y e => by rw [hc.anti x y e]; omega
  refine ⟨fun x y e => ?_, fun x y z e1 e2 e3 h1 h2 => ?_⟩
  · unfold Go.Proofs.Ytpcfkflhnkfjjaa.lex
    by_cases h : c x y = 0
    · rw [if_neg (by rw [(z x y e).2 h]; decide), if_neg (by rw [h]; decide)]
      exact hd.anti x y ⟨e, h⟩
    · rw [if_pos (fun h' => h ((z x y e).1 h')), if_pos h]
      exact hc.anti x y e
  · unfold Go.Proofs.Ytpcfkflhnkfjjaa.lex at h1 h2 ⊢
    have k1 : c x y ≤ 0 := by split at h1 <;> omega
    have k2 : c y z ≤ 0 := by split at h2 <;> omega
    have k3 := hc.trans x y z e1 e2 e3 k1 k2
    by_cases h : c x z = 0
    · have a1 := hc.anti x y e1
      have a2 := hc.anti y z e2
      have a3 := hc.anti x z e3
      have b1 := hc.trans y z x e2 (hE _ _ e3) (hE _ _ e1) k2 (by omega)
      have b2 := hc.trans z x y (hE _ _ e3) e1 (hE _ _ e2) (by omega) k1
      have c1 : c x y = 0 := by omega
      have c2 : c y z = 0 := by omega
      rw [if_neg (by rw [c1]; decide)] at h1
      rw [if_neg (by rw [c2]; decide)] at h2
      rw [if_neg (by rw [h]; decide)]
      exact hd.trans x y z ⟨e1, c1⟩ ⟨e2, c2⟩ ⟨e3, h⟩ h1 h2
    · rw [if_pos h]; exact k3
def cmpZ {α : Type} (f : α → Int) (x y : α) : Int := if f x < f y then -1 else if f y < f x then 1 else 0
theorem cmpZ_ord {α : Type} {E : α → α → Prop} (f : α → Int) : Ord3 E (cmpZ f) := by
  refine ⟨fun x y _ => ?_, fun x y z _ _ _ h1 h2 => ?_⟩
  · unfold cmpZ; split <;> split <;> omega
  · unfold cmpZ at *
    split at h1
    · split at h2
      · rw [if_pos (by omega)]; decide
      · split at h2
        · omega
        · rw [if_pos (by omega)]; decide
    · split at h1
      · omega
      · split at h2
        · rw [if_pos (by omega)]; decide
        · split at h2
          · omega
          · rw [if_neg (by omega), if_neg (by omega)]; decide
theorem lexC_anti : ∀ xs ys : List Int, xs.length = ys.length → lexC ys xs = -lexC xs ys
  | [], [], _ => rfl
  | [], _ :: _, h => by simp at h
  | _ :: _, [], h => by simp at h
  | x :: xs, y :: ys, h => by
    have ih := lexC_anti xs ys (by simpa using h)
    simp only [lexC]
    rcases Int.lt_trichotomy x y with h1 | h1 | h1
    · rw [if_neg (by omega), if_pos h1, if_pos h1]; rfl
    · rw [if_neg (by omega), if_neg (by omega), if_neg (by omega), if_neg (by omega), ih]
    · rw [if_pos h1, if_neg (by omega), if_pos h1]
theorem lexC_trans : ∀ xs ys zs : List Int, xs.length = ys.length → ys.length = zs.length → lexC xs ys ≤ 0 → lexC ys zs ≤ 0 → lexC xs zs ≤ 0
  | [], _, _, _, _, _, _ => by simp [lexC]
  | _ :: _, [], _, h, _, _, _ => by simp at h
  | _ :: _, _ :: _, [], _, h, _, _ => by simp at h
  | x :: xs, y :: ys, z :: zs, h, g, h1, h2 => by
    have ih := lexC_trans xs ys zs (by simpa using h) (by simpa using g)
    simp only [lexC] at h1 h2 ⊢
    split at h1
    · split at h2
      · rw [if_pos (by omega)]; decide
      · split at h2
        · omega
        · rw [if_pos (by omega)]; decide
    · split at h1
      · omega
      · split at h2
        · rw [if_pos (by omega)]; decide
        · split at h2
          · omega
          · rw [if_neg (by omega), if_neg (by omega)]; exact ih h1 h2
theorem lexC_eq : ∀ xs ys : List Int, xs.length = ys.length → lexC xs ys = 0 → xs = ys
  | [], [], _, _ => rfl
  | [], _ :: _, h, _ => by simp at h
  | _ :: _, [], h, _ => by simp at h
  | x :: xs, y :: ys, h, h1 => by
    simp only [lexC] at h1
    split at h1
    · omega
    · split at h1
      · omega
      · rw [lexC_eq xs ys (by simpa using h) h1, show x = y by omega]
theorem lexC_self : ∀ xs : List Int, lexC xs xs = 0
  | [] => rfl
  | x :: xs => by simp only [lexC, Int.lt_irrefl, if_false]; exact lexC_self xs
theorem cmpT_lex (a b : Tm) : cmpT a b = lex (cmpZ fun t : Tm => (t.size : Int)) (lex (fun a b => lexC a.rules b.rules) (fun a b => lexC a.arities b.arities)) a b := by
  unfold cmpT lex cmpZ
  by_cases h1 : a.size < b.size
  · rw [if_pos h1, if_pos (show (a.size : Int) < (b.size : Int) by omega), if_pos (by decide)]
  · rw [if_neg h1, if_neg (show ¬ (a.size : Int) < (b.size : Int) by omega)]
    by_cases h2 : b.size < a.size
    · rw [if_pos h2, if_pos (show (b.size : Int) < (a.size : Int) by omega), if_pos (by decide)]
    · rw [if_neg h2, if_neg (show ¬ (b.size : Int) < (a.size : Int) by omega), if_neg (show ¬ ((0 : Int) ≠ 0) by decide)]
theorem cmpZ_zero {α : Type} {f : α → Int} {x y : α} : cmpZ f x y = 0 ↔ f x = f y := by
  unfold cmpZ
  split
  · omega
  · split <;> omega
theorem cmpT_ord : Ord3 (fun _ _ => True) cmpT := by
  have : cmpT = lex (cmpZ fun t : Tm => (t.size : Int)) (lex (fun a b => lexC a.rules b.rules) (fun a b => lexC a.arities b.arities)) := by funext a b; exact cmpT_lex a b
  rw [this]
  have hsz : ∀ {a b : Tm}, cmpZ (fun t : Tm => (t.size : Int)) a b = 0 → a.size = b.size := fun h => by have := cmpZ_zero.1 h; omega
  refine Ord3.lex (fun _ _ _ => trivial) (cmpZ_ord _) (Ord3.lex (fun x y h => ⟨trivial, by have := hsz h.2; exact cmpZ_zero.2 (by omega)⟩) ⟨fun x y h => ?_, fun x y z h1 h2 _ => ?_⟩ ⟨fun x y h => ?_, fun x y z h1 h2 _ => ?_⟩)
  · exact lexC_anti _ _ (by rw [Tm.rules_length, Tm.rules_length]; exact hsz h.2)
  · exact lexC_trans _ _ _ (by rw [Tm.rules_length, Tm.rules_length]; exact hsz h1.2) (by rw [Tm.rules_length, Tm.rules_length]; exact hsz h2.2)
  · exact lexC_anti _ _ (by rw [Tm.arities_length, Tm.arities_length]; exact hsz h.1.2)
  · exact lexC_trans _ _ _ (by rw [Tm.arities_length, Tm.arities_length]; exact hsz h1.1.2) (by rw [Tm.arities_length, Tm.arities_length]; exact hsz h2.1.2)
theorem cmpT_eq0 {s t : Tm} : cmpT s t = 0 ↔ s = t := by
  constructor
  · intro h
    unfold cmpT at h
    split at h
    · omega
    · split at h
      · omega
      · have hs : s.size = t.size := by omega
        split at h
        · rename_i h0; exact absurd h h0
        · rename_i h0
          have e1 := lexC_eq s.rules t.rules (by rw [Tm.rules_length, Tm.rules_length]; exact hs) (by simpa using h0)
          have e2 := lexC_eq s.arities t.arities (by rw [Tm.arities_length, Tm.arities_length]; exact hs) h
          exact (pre_inj s t [] [] [] [] (by simpa [Tm.rules] using e1) (by simpa [Tm.arities] using e2)).1
  · rintro rfl
    unfold cmpT
    simp [lexC_self]
theorem cmpT_vals (s t : Tm) : -1 ≤ cmpT s t ∧ cmpT s t ≤ 1 := by
  have lx : ∀ xs ys : List Int, -1 ≤ lexC xs ys ∧ lexC xs ys ≤ 1 := fun xs => by
    induction xs with
    | nil => intro ys; simp [lexC]
    | cons x xs ih =>
      intro ys
      cases ys with
      | nil => simp [lexC]
      | cons y ys =>
        simp only [lexC]
        split
        · decide
        · split
          · decide
          · exact ih ys
  unfold cmpT
  split
  · decide
  · split
    · decide
    · split
      · exact lx _ _
      · exact lx _ _
/-- terms that have a cost -/
def costOk (w : List Int) (t : Tm) : Prop := t.rules.all (rOk w) = true
theorem cost2 {w : List Int} {t : Tm} : (costC w t.rules).2 = 0 ↔ costOk w t := by
  unfold costC costOk
  split <;> simp_all
theorem cmpW_lex {w : List Int} {a b : Tm} (ha : costOk w a) (hb : costOk w b) : cmpW w a b = lex (cmpZ fun t : Tm => (costC w t.rules).1) cmpT a b := by
  unfold cmpW lex cmpZ
  rw [if_pos ⟨cost2.2 ha, cost2.2 hb⟩]
  by_cases h1 : (costC w a.rules).1 < (costC w b.rules).1
  · rw [if_pos h1, if_pos h1, if_pos (by decide)]
  · rw [if_neg h1, if_neg h1]
    by_cases h2 : (costC w b.rules).1 < (costC w a.rules).1
    · rw [if_pos h2, if_pos h2, if_pos (by decide)]
    · rw [if_neg h2, if_neg h2, if_neg (by decide)]
theorem cmpW_ord (w : List Int) : Ord3 (fun _ _ => True) (lex (cmpZ fun t : Tm => (costC w t.rules).1) cmpT) :=
  Ord3.lex (fun _ _ _ => trivial) (cmpZ_ord _) ⟨fun x y _ => cmpT_ord.anti x y trivial, fun x y z _ _ _ => cmpT_ord.trans x y z trivial trivial trivial⟩
/-- the reference: the lists of the arguments are joined -/
theorem join_foldU (g : Tm → Int) (r : Tm → Option (List Int)) : ∀ (xs : List Tm) (acc : List Int), acc.length + Tm.sizeL xs ≤ 8000000 → (∀ x ∈ xs, r x = some (x.pre g)) → xs.foldlM (fun s x => Option.bind (r x) fun v => app 8 s v) acc = some (acc ++ Tm.preL g xs)
  | [], acc, _, _ => by simp [Tm.preL]
  | x :: xs, acc, hl, h => by
    have hs : Tm.sizeL (x :: xs) = x.size + Tm.sizeL xs := rfl
    rw [List.foldlM_cons, h x (List.mem_cons_self ..), Option.bind_some, app_eq (by rw [Tm.pre_length]; omega)]
    have := join_foldU g r xs (acc ++ x.pre g) (by rw [List.length_append, Tm.pre_length]; omega) fun y hy => h y (List.mem_cons_of_mem _ hy)
    show List.foldlM _ (acc ++ x.pre g) xs = _
    rw [this, List.append_assoc]
    rfl
theorem rules_refU : ∀ (n : Nat) (t : Tm), t.size ≤ n → t.size ≤ 2000000 → synthesisref13_Rules n t = some t.rules
  | 0, t, h, _ => by have := Tm.size_pos t; omega
  | n + 1, t, h, hl => by
    show synthesisref13_Rules_b (synthesisref13_Rules n) t = _
    have hal := args_len t
    have hsa := sizeT_args (t := t)
    unfold synthesisref13_Rules_b
    rw [loop_acc (step := synthesisref13_Rules_l1 t (synthesisref13_Rules n)) t.args (fun s x => Option.bind (synthesisref13_Rules n x) fun v => app 8 s v) (fun i s => (i, s)) (by omega) (fun i x s hx => by
      have hi := get_lt hx
      simp only [synthesisref13_Rules_l1, lt_len hi, cond_true, idx_nat, hx, Option.bind_some, w64_succ' hi (show t.args.length ≤ 9223372036854775807 by omega)]
      cases synthesisref13_Rules n x with
      | none => rfl
      | some v => simp only [Option.bind_some]; cases app 8 s v <;> rfl) (fun s => by simp only [synthesisref13_Rules_l1, lt_len', cond_false])]
    rw [join_foldU Tm.rule _ t.args _ (by rw [List.length_singleton]; omega) fun x hx => rules_refU n x (by have := args_size hx; omega) (by have := args_size hx; omega)]
    show some _ = some (t.pre Tm.rule)
    rw [pre_mk]
    rfl
theorem cost_refU (w : List Int) (hw : w.length ≤ 9223372036854775807) (t : Tm) (hl : t.size ≤ 2000000) : synthesisref38_Cost w t = some (costC w t.rules) := by
  unfold synthesisref38_Cost
  rw [rules_refU fuel t (Nat.le_of_lt (lt_fuel (by omega))) hl, Option.bind_some]
  have hlen : t.rules.length ≤ 2000000 := by rw [Tm.rules_length]; exact hl
  rw [loop_run (step := synthesisref38_Cost_l1 w t.rules) t.rules (fun (s : Int) x => (bif rOk w x then some (.inl (w64 (s + rW w x))) else some (.inr ((0 : Int), (1 : Int))) : Option (Int ⊕ (Int × Int)))) (fun s i => (s, i)) id (by omega) (fun i x s hx => by
    have hi := get_lt hx
    have hg : (Option.bind (idx t.rules (i : Int)) fun v3 => (bif decide (v3 < 0) then some true else Option.bind (idx t.rules (i : Int)) fun v4 => (bif decide ((w.length : Int) ≤ v4) then some true else Option.bind (idx t.rules (i : Int)) fun v5 => Option.bind (idx w v5) fun v6 => (bif decide (v6 < 0) then some true else Option.bind (idx t.rules (i : Int)) fun v7 => Option.bind (idx w v7) fun v8 => some (decide (1000 < v8))))) : Option Bool) = some (!rOk w x) := by
      rw [idx_nat, hx]
      simp only [Option.bind_some]
      unfold rOk
      by_cases h0 : x < 0
      · rw [decide_eq_true h0, decide_eq_false (show ¬ 0 ≤ x by omega)]; rfl
      by_cases h1 : (w.length : Int) ≤ x
      · rw [decide_eq_false h0, decide_eq_true h1, decide_eq_false (show ¬ x < (w.length : Int) by omega), decide_eq_true (show 0 ≤ x by omega)]; rfl
      rw [decide_eq_false h0, decide_eq_false h1, decide_eq_true (show x < (w.length : Int) by omega), decide_eq_true (show 0 ≤ x by omega)]
      have hi : idx w x = some (rW w x) := by
        unfold idx rW
        rw [if_pos (by omega), List.getElem?_eq_getElem (by omega)]
        rfl
      simp only [cond_false, hi, Option.bind_some, Bool.true_and, Bool.not_not]
      unfold badW
      cases decide (rW w x < 0) <;> rfl
    unfold synthesisref38_Cost_l1
    simp only
    rw [lt_len hi, cond_true, hg, Option.bind_some, idx_nat, hx]
    cases hr : rOk w x with
    | false => rfl
    | true =>
      obtain ⟨h1, _⟩ := rW_idx hr
      simp only [Bool.not_true, cond_false, Option.bind_some, h1, cond_true, w64_succ' hi (show t.rules.length ≤ 9223372036854775807 by omega)]
      rfl) (fun s => by simp only [synthesisref38_Cost_l1, lt_len', cond_false]; rfl)]
  have run : ∀ (rs : List Int) (s : Int), 0 ≤ s → s + 1000 * (rs.length : Int) ≤ 4000000000 → runL (fun (s : Int) x => (bif rOk w x then some (.inl (w64 (s + rW w x))) else some (.inr ((0 : Int), (1 : Int))) : Option (Int ⊕ (Int × Int)))) rs s = some (if rs.all (rOk w) = true then .inl (s + sumW w rs) else .inr (0, 1)) := by
    intro rs
    induction rs with
    | nil => intro s _ _; simp [runL, sumW]
    | cons r rs ih =>
      intro s h0 h1
      rw [runL, List.all_cons]
      cases hr : rOk w r with
      | false => simp
      | true =>
        obtain ⟨_, _, _, g0, g1⟩ := rW_idx hr
        rw [List.length_cons] at h1
        simp only [cond_true, Option.bind_some, Sum.elim_inl, Bool.true_and]
        rw [w64_eq (by omega) (by omega), ih (s + rW w r) (by omega) (by omega)]
        have : sumW w (r :: rs) = rW w r + sumW w rs := by simp [sumW]
        rw [this, Int.add_assoc]
  rw [run t.rules 0 (by omega) (by omega)]
  unfold costC
  cases t.rules.all (rOk w) with
  | true => simp
  | false => rfl
theorem law_WeightOrders (w : List Int) (l : List Tm) (hw : w.length ≤ 9223372036854775807) (hsz : ∀ t ∈ l, t.size ≤ 2000000) : synthesislaw38_WeightOrders w l = some true := by
  unfold synthesislaw38_WeightOrders
  rw [awake38]
  by_cases h30 : (30 : Int) < (w.length : Int)
  · rw [decide_eq_true h30]; rfl
  rw [decide_eq_false h30]
  simp only [cond_false, Option.bind_some]
  cases hl : ((l.length : Int) != 3) with
  | true => rfl
  | false =>
    have hl : l.length = 3 := by rw [bne_eq_false_iff_eq] at hl; omega
    obtain ⟨x, y, z, rfl⟩ : ∃ x y z, l = [x, y, z] := by
      match l, hl with
      | [x, y, z], _ => exact ⟨x, y, z, rfl⟩
    simp only [cond_false]
    have loop : Ev (loopN (synthesislaw38_WeightOrders_l1 w [x, y, z]) fuel 0) fun r => r = .inr true ∨ (r = .inl () ∧ ∀ t ∈ [x, y, z], costOk w t ∧ t.size ≤ 30) := by
      refine ev_loop 3 (fun i s => s = (i : Int) ∧ ∀ j (h : j < [x, y, z].length), j < i → costOk w [x, y, z][j] ∧ [x, y, z][j].size ≤ 30) (by omega) ⟨rfl, fun j _ h => by omega⟩ (fun i s hi ⟨e, h⟩ => ?_) (fun s ⟨e, h⟩ => ?_)
      · subst e
        have hi' : i < [x, y, z].length := hi
        generalize hT : [x, y, z] = T at *
        unfold synthesislaw38_WeightOrders_l1
        rw [decide_eq_true (show (i : Int) < 3 by omega), cond_true, idx_nat, List.getElem?_eq_getElem hi']
        simp only [Option.bind_some, awake38]
        have hsz := hsz _ (List.getElem_mem hi')
        rw [cost_refU w hw _ hsz, Option.bind_some]
        by_cases hc : costOk w T[i]
        · have hb : ((costC w T[i].rules).2 != 0) = false := by rw [cost2.2 hc]; rfl
          have hwi : synthesisref13_Within T[i] 30 = some (decide (T[i].size ≤ 30)) := within_eq T[i] 30 (by omega)
          simp only [hb, cond_false, hwi, Option.bind_some]
          by_cases h3 : T[i].size ≤ 30
          · rw [decide_eq_true h3]
            refine ev_go (s := ((i + 1 : Nat) : Int)) (by simp only [Bool.not_true, cond_false]; rw [w64_succ (by omega)]) ⟨rfl, fun j hj hji => ?_⟩
            by_cases e : j = i
            · subst e; exact ⟨hc, h3⟩
            · exact h j hj (by omega)
          · rw [decide_eq_false h3]
            exact ev_leave (b := .inr true) rfl (.inl rfl)
        · have hb : ((costC w T[i].rules).2 != 0) = true := by rw [bne_iff_ne]; exact fun h => hc (cost2.1 h)
          simp only [hb, cond_true, Option.bind_some]
          exact ev_leave (b := .inr true) rfl (.inl rfl)
      · subst e
        refine ev_out (b := .inl ()) rfl (.inr ⟨rfl, fun t ht => ?_⟩)
        obtain ⟨j, hj, rfl⟩ := List.mem_iff_getElem.1 ht
        exact h j hj hj
    obtain ⟨r, hr, h⟩ := loop
    rw [hr, Option.bind_some]
    rcases h with rfl | ⟨rfl, h⟩
    · rfl
    obtain ⟨x1, x2⟩ := h x (by simp)
    obtain ⟨y1, y2⟩ := h y (by simp)
    obtain ⟨z1, z2⟩ := h z (by simp)
    have O := cmpW_ord w
    have e0 : idx [x, y, z] 0 = some x := rfl
    have e1 : idx [x, y, z] 1 = some y := rfl
    have e2 : idx [x, y, z] 2 = some z := rfl
    have f1 := wcmp_prog w hw x y (by omega) (by omega)
    have f2 := wcmp_prog w hw y z (by omega) (by omega)
    have f3 := wcmp_prog w hw x z (by omega) (by omega)
    have f4 := wcmp_prog w hw y x (by omega) (by omega)
    rw [cmpW_lex x1 y1] at f1
    rw [cmpW_lex y1 z1] at f2
    rw [cmpW_lex x1 z1] at f3
    rw [cmpW_lex y1 x1] at f4
    have f5 := cmp_ref x y (by omega) (by omega)
    simp only [Sum.elim_inl, e0, e1, e2, f1, f2, f3, f4, f5, Option.bind_some]
    have a1 := O.anti x y trivial
    have a2 := O.anti y z trivial
    have a3 := O.anti x z trivial
    have t1 := O.trans x y z trivial trivial trivial
    have t2 := O.trans z y x trivial trivial trivial
    have zero : lex (cmpZ fun t : Tm => (costC w t.rules).1) cmpT x y = 0 ↔ cmpT x y = 0 := by
      unfold lex
      split
      · rename_i hne
        refine ⟨fun h => absurd h hne, fun h => ?_⟩
        rw [cmpT_eq0] at h
        subst h
        exact absurd (cmpZ_zero.2 rfl) hne
      · exact Iff.rfl
    have bd : ∀ a b : Tm, -1 ≤ lex (cmpZ fun t : Tm => (costC w t.rules).1) cmpT a b ∧ lex (cmpZ fun t : Tm => (costC w t.rules).1) cmpT a b ≤ 1 := fun a b => by
      unfold lex
      split
      · unfold cmpZ; split
        · decide
        · split <;> decide
      · exact cmpT_vals a b
    have b1 := bd x y
    have b2 := bd y z
    have b3 := bd x z
    rw [a1]
    rw [a2, a1] at t2
    rw [a3] at t2
    generalize lex (cmpZ fun t : Tm => (costC w t.rules).1) cmpT x y = A at *
    generalize lex (cmpZ fun t : Tm => (costC w t.rules).1) cmpT y z = B at *
    generalize lex (cmpZ fun t : Tm => (costC w t.rules).1) cmpT x z = C at *
    have hw64 : w64 (0 - A) = -A := by rw [w64_eq (by omega) (by omega)]; omega
    have hbne : (-A != w64 (0 - A)) = false := by rw [hw64]; simp
    have hz : (!((A == 0) == (cmpT x y == 0))) = false := by
      have : (A == 0) = (cmpT x y == 0) := Bool.eq_iff_iff.2 (by rw [beq_iff_eq, beq_iff_eq]; exact zero)
      rw [this]; simp
    rw [hbne]
    simp only [cond_false, hz, Option.bind_some]
    by_cases p1 : 0 < A <;> by_cases p2 : A < 0 <;> by_cases p3 : 0 < B <;> by_cases p4 : B < 0 <;> by_cases p5 : C ≤ 0 <;> by_cases p6 : 0 ≤ C <;> first | omega | simp [p1, p2, p3, p4, p5, p6]
end Go.Proofs.Ytpcfkflhnkfjjaa
