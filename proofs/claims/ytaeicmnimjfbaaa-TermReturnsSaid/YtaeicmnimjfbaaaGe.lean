/- Small languages; terms, checked by both texts. -/
import Derived.Test.YtaeicmnimjfbaaaGa
set_option linter.unusedVariables false
set_option linter.unusedSimpArgs false
namespace Go.Proofs.Ytaeicmnimjfbaaa
open Go Go.RowKit

/-- a loop over places, with a state of which something is known -/
theorem loop_inv {α β : Type} {step : α × Int → Option ((α × Int) ⊕ β)} (n : Nat) (Inv : Nat → α → Prop) (Q : β → Prop) (hs : ∀ i a, i < n → Inv i a → (∃ a', step (a, (i : Int)) = some (.inl (a', ((i + 1 : Nat) : Int))) ∧ Inv (i + 1) a') ∨ ∃ b, step (a, (i : Int)) = some (.inr b) ∧ Q b)
    (he : ∀ a, Inv n a → ∃ b, step (a, (n : Int)) = some (.inr b) ∧ Q b) : ∀ (k i : Nat) (a : α), i ≤ n → n - i < k → Inv i a → ∃ r, loopN step k (a, (i : Int)) = some r ∧ Q r
  | 0, i, a, _, h, _ => by omega
  | k + 1, i, a, hi, hk, ha => by
    rw [loopN]
    by_cases h : i = n
    · subst h
      obtain ⟨b, h1, h2⟩ := he a ha
      rw [h1]; exact ⟨b, rfl, h2⟩
    · rcases hs i a (by omega) ha with ⟨a', h1, h2⟩ | ⟨b, h1, h2⟩
      · rw [h1]
        exact loop_inv n Inv Q hs he k (i + 1) a' (by omega) (by omega) h2
      · rw [h1]; exact ⟨b, rfl, h2⟩
theorem loop_inv0 {α β : Type} {step : α × Int → Option ((α × Int) ⊕ β)} (n : Nat) (hn : n < 18446744073709551616) (Inv : Nat → α → Prop) (Q : β → Prop) (hs : ∀ i a, i < n → Inv i a → (∃ a', step (a, (i : Int)) = some (.inl (a', ((i + 1 : Nat) : Int))) ∧ Inv (i + 1) a') ∨ ∃ b, step (a, (i : Int)) = some (.inr b) ∧ Q b)
    (he : ∀ a, Inv n a → ∃ b, step (a, (n : Int)) = some (.inr b) ∧ Q b) (a : α) (h0 : Inv 0 a) : ∃ r, loopN step fuel (a, 0) = some r ∧ Q r := by
  have := loop_inv n Inv Q hs he fuel 0 a (Nat.zero_le _) (lt_fuel (by omega)) h0
  simpa using this

/-! values: Small -/
theorem count_total : ∀ (n : Nat) (l : List Va) (m : Int), depVs l < n → l.length ≤ 9223372036854775807 → wideVs 9223372036854775807 l → ∃ c, synthesisref01_Count n l m = some c
  | 0, l, m, h, _, _ => by omega
  | n + 1, l, m, hd, hl, hw => by
    show ∃ c, synthesisref01_Count_b (synthesisref01_Count n) l m = some c
    unfold synthesisref01_Count_b
    obtain ⟨r, hr, _⟩ := loop_inv0 (step := synthesisref01_Count_l1 l m (synthesisref01_Count n)) l.length (by omega) (fun _ _ => True) (fun _ => True) (fun i a hi _ => by
      have e1 : l[i]? = some l[i] := List.getElem?_eq_getElem hi
      have b1 : decide ((i : Int) < (l.length : Int)) = true := decide_eq_true (by omega)
      simp only [synthesisref01_Count_l1, b1, cond_true, Option.bind_some]
      cases decide (a ≤ m) with
      | false => exact .inr ⟨_, rfl, trivial⟩
      | true =>
        have hx := List.getElem_mem hi
        have hwx := wideVs_mem hw hx
        have hdx := depVs_mem hx
        have hdi : depVs l[i].items + 1 = depV l[i] := by cases l[i]; rfl
        have hwi : l[i].items.length ≤ 9223372036854775807 ∧ wideVs 9223372036854775807 l[i].items := by
          revert hwx; cases l[i]; exact id
        obtain ⟨c, hc⟩ := count_total n l[i].items (w64 (m - a)) (by omega) hwi.1 hwi.2
        simp only [cond_true, idx_nat, e1, Option.bind_some, hc, w64_succ (n := i) (by omega)]
        exact .inl ⟨_, rfl, trivial⟩) (fun a _ => by
      have b1 : decide ((l.length : Int) < (l.length : Int)) = false := decide_eq_false (by omega)
      simp only [synthesisref01_Count_l1, b1, cond_false, Option.bind_some]
      exact ⟨_, rfl, trivial⟩) 0 trivial
    rw [hr]
    exact ⟨r, rfl⟩
theorem count_acc : ∀ (n : Nat) (l : List Va) (m : Nat) (c : Int), depVs l ≤ 100 → m ≤ 90 → depVs l < n → l.length ≤ 9223372036854775807 → wideVs 9223372036854775807 l → synthesisref01_Count n l (m : Int) = some c →
    0 ≤ c ∧ c ≤ (m : Int) + (depVs l : Int) ∧ (c ≤ (m : Int) → l.length ≤ 90 ∧ ∀ x ∈ l, wideV 1152921504606846976 x)
  | 0, l, m, c, _, _, h, _, _, _ => by omega
  | n + 1, l, m, c, h100, hm, hd, hl, hw, hc => by
    have hc : synthesisref01_Count_b (synthesisref01_Count n) l (m : Int) = some c := hc
    unfold synthesisref01_Count_b at hc
    obtain ⟨r, hr, hQ⟩ := loop_inv0 (step := synthesisref01_Count_l1 l (m : Int) (synthesisref01_Count n)) l.length (by omega) (fun i a => (i : Int) ≤ a ∧ a ≤ (m : Int) + (depVs l : Int) ∧ (a ≤ (m : Int) → ∀ x ∈ l.take i, wideV 1152921504606846976 x))
      (fun r => 0 ≤ r ∧ r ≤ (m : Int) + (depVs l : Int) ∧ (r ≤ (m : Int) → l.length ≤ 90 ∧ ∀ x ∈ l, wideV 1152921504606846976 x)) (fun i a hi ⟨i1, i2, i3⟩ => by
      have e1 : l[i]? = some l[i] := List.getElem?_eq_getElem hi
      have b1 : decide ((i : Int) < (l.length : Int)) = true := decide_eq_true (by omega)
      simp only [synthesisref01_Count_l1, b1, cond_true, Option.bind_some]
      by_cases ha : a ≤ (m : Int)
      · have hx := List.getElem_mem hi
        have hwx := wideVs_mem hw hx
        have hdx := depVs_mem hx
        have hdi : depVs l[i].items + 1 = depV l[i] := by cases l[i]; rfl
        have hwi : l[i].items.length ≤ 9223372036854775807 ∧ wideVs 9223372036854775807 l[i].items := by
          revert hwx; cases l[i]; exact id
        have hsub : w64 ((m : Int) - a) = ((m - a.toNat : Nat) : Int) := by rw [w64_eq (by omega) (by omega)]; omega
        obtain ⟨c', hc'⟩ := count_total n l[i].items (((m - a.toNat : Nat) : Int)) (by omega) hwi.1 hwi.2
        obtain ⟨k1, k2, k3⟩ := count_acc n l[i].items (m - a.toNat) c' (by omega) (by omega) (by omega) hwi.1 hwi.2 hc'
        rw [decide_eq_true ha]
        simp only [cond_true, idx_nat, e1, Option.bind_some, hsub, hc', w64_succ (n := i) (by omega)]
        refine .inl ⟨_, rfl, ?_, ?_, ?_⟩
        · rw [w64_eq (n := 1 + c') (by omega) (by omega), w64_eq (by omega) (by omega)]; omega
        · rw [w64_eq (n := 1 + c') (by omega) (by omega), w64_eq (by omega) (by omega)]; omega
        · rw [w64_eq (n := 1 + c') (by omega) (by omega), w64_eq (by omega) (by omega)]
          intro hle x hxm
          rw [List.take_add_one, e1, List.mem_append] at hxm
          rcases hxm with hxm | hxm
          · exact i3 ha x hxm
          · simp at hxm
            subst hxm
            obtain ⟨q1, q2⟩ := k3 (by omega)
            have : ∀ (v : Va), v.items.length ≤ 90 → (∀ y ∈ v.items, wideV 1152921504606846976 y) → wideV 1152921504606846976 v := fun v hv1 hv2 => by
              cases v with
              | mk t n s l =>
                refine ⟨Nat.le_trans hv1 (by omega), ?_⟩
                have : ∀ l : List Va, (∀ y ∈ l, wideV 1152921504606846976 y) → wideVs 1152921504606846976 l := fun l => by
                  induction l with
                  | nil => exact fun _ => trivial
                  | cons y l ih => exact fun h => ⟨h y (List.mem_cons_self ..), ih fun z hz => h z (List.mem_cons_of_mem _ hz)⟩
                exact this l hv2
            exact this _ q1 q2
      · rw [decide_eq_false ha]
        exact .inr ⟨_, rfl, by omega, i2, fun h => absurd h ha⟩) (fun a ⟨i1, i2, i3⟩ => by
      have b1 : decide ((l.length : Int) < (l.length : Int)) = false := decide_eq_false (by omega)
      simp only [synthesisref01_Count_l1, b1, cond_false, Option.bind_some]
      refine ⟨_, rfl, by omega, i2, fun h => ⟨by omega, ?_⟩⟩
      have := i3 h
      rw [List.take_length] at this
      exact this) 0 ⟨by omega, by omega, fun _ x hx => by simp at hx⟩
    rw [hr] at hc
    injection hc with hc
    subst hc
    exact hQ
theorem shallow_spec : ∀ (n : Nat) (x : Va) (k : Nat), k ≤ 8 → k < n → wideV 9223372036854775807 x → ∃ b, synthesisref01_shallow n x (k : Int) = some b ∧ (b = true → depV x ≤ k ∧ shortV x)
  | 0, x, k, _, h, _ => by omega
  | n + 1, x, k, hk, hn, hw => by
    show ∃ b, synthesisref01_shallow_b (synthesisref01_shallow n) x (k : Int) = some b ∧ _
    unfold synthesisref01_shallow_b
    by_cases h0 : k = 0
    · subst h0
      exact ⟨false, rfl, fun h => by cases h⟩
    · have c0 : ((k : Int) == 0) = false := by rw [beq_eq_false_iff_ne]; omega
      rw [c0]
      simp only [cond_false, Option.bind_some]
      by_cases hs : (100 : Int) < (x.text.size : Int)
      · rw [decide_eq_true hs]
        exact ⟨false, rfl, fun h => by cases h⟩
      · rw [decide_eq_false hs]
        simp only [cond_false]
        obtain ⟨r, _, h1, _, h2⟩ := loop_two (step := synthesisref01_shallow_l1 x (k : Int) (synthesisref01_shallow n)) (step' := synthesisref01_shallow_l1 x (k : Int) (synthesisref01_shallow n)) x.items.length (by have := (wide_items hw).1; omega) (fun i => (i : Int)) (fun i => (i : Int)) (fun r _ => r = .inl () ∨ r = .inr false) (fun i hi => by
          have e1 : x.items[i]? = some x.items[i] := List.getElem?_eq_getElem hi
          have b1 : decide ((i : Int) < (x.items.length : Int)) = true := decide_eq_true (by omega)
          have hsub : w64 ((k : Int) - 1) = ((k - 1 : Nat) : Int) := by rw [w64_eq (by omega) (by omega)]; omega
          obtain ⟨b, hb, _⟩ := shallow_spec n x.items[i] (k - 1) (by omega) (by omega) ((wide_items hw).2 _ (List.getElem_mem hi))
          simp only [synthesisref01_shallow_l1, b1, cond_true, idx_nat, e1, Option.bind_some, hsub, hb, w64_succ (n := i) (by have := (wide_items hw).1; omega)]
          cases b with
          | true => exact .inl ⟨rfl, rfl⟩
          | false => exact .inr ⟨_, _, rfl, rfl, .inr rfl⟩) (by
          have b1 : decide ((x.items.length : Int) < (x.items.length : Int)) = false := decide_eq_false (by omega)
          simp only [synthesisref01_shallow_l1, b1, cond_false]
          exact ⟨_, _, rfl, rfl, .inl rfl⟩)
        have h1' : loopN (synthesisref01_shallow_l1 x (k : Int) (synthesisref01_shallow n)) fuel 0 = some r := by simpa using h1
        rw [h1']
        rcases h2 with rfl | rfl
        · refine ⟨true, rfl, fun _ => ?_⟩
          have hall := loop_all (step := synthesisref01_shallow_l1 x (k : Int) (synthesisref01_shallow n)) x.items.length (fun i => (i : Int)) (.inl ()) (fun i hi => by
            have e1 : x.items[i]? = some x.items[i] := List.getElem?_eq_getElem hi
            have b1 : decide ((i : Int) < (x.items.length : Int)) = true := decide_eq_true (by omega)
            have hsub : w64 ((k : Int) - 1) = ((k - 1 : Nat) : Int) := by rw [w64_eq (by omega) (by omega)]; omega
            obtain ⟨b, hb, _⟩ := shallow_spec n x.items[i] (k - 1) (by omega) (by omega) ((wide_items hw).2 _ (List.getElem_mem hi))
            simp only [synthesisref01_shallow_l1, b1, cond_true, idx_nat, e1, Option.bind_some, hsub, hb, w64_succ (n := i) (by have := (wide_items hw).1; omega)]
            cases b with
            | true => exact .inl rfl
            | false => exact .inr ⟨_, rfl, fun h => by cases h⟩) fuel 0 h1
          have hchild : ∀ y ∈ x.items, depV y ≤ k - 1 ∧ shortV y := fun y hy => by
            obtain ⟨i, hi, rfl⟩ := List.mem_iff_getElem.1 hy
            have e1 : x.items[i]? = some x.items[i] := List.getElem?_eq_getElem hi
            have b1 : decide ((i : Int) < (x.items.length : Int)) = true := decide_eq_true (by omega)
            have hsub : w64 ((k : Int) - 1) = ((k - 1 : Nat) : Int) := by rw [w64_eq (by omega) (by omega)]; omega
            obtain ⟨b, hb, hb2⟩ := shallow_spec n x.items[i] (k - 1) (by omega) (by omega) ((wide_items hw).2 _ (List.getElem_mem hi))
            have hst := hall i (Nat.zero_le _) hi
            simp only [synthesisref01_shallow_l1, b1, cond_true, idx_nat, e1, Option.bind_some, hsub, hb, w64_succ (n := i) (by have := (wide_items hw).1; omega)] at hst
            cases b with
            | true => exact hb2 rfl
            | false => cases hst
          cases x with
          | mk t m s l =>
            have hd : ∀ l : List Va, (∀ y ∈ l, depV y ≤ k - 1) → depVs l ≤ k - 1 := fun l => by
              induction l with
              | nil => exact fun _ => Nat.zero_le _
              | cons y l ih => exact fun h => Nat.max_le.2 ⟨h y (List.mem_cons_self ..), ih fun z hz => h z (List.mem_cons_of_mem _ hz)⟩
            have hsv : ∀ l : List Va, (∀ y ∈ l, shortV y) → shortVs l := fun l => by
              induction l with
              | nil => exact fun _ => trivial
              | cons y l ih => exact fun h => ⟨h y (List.mem_cons_self ..), ih fun z hz => h z (List.mem_cons_of_mem _ hz)⟩
            refine ⟨?_, ?_, hsv l fun y hy => (hchild y hy).2⟩
            · have := hd l fun y hy => (hchild y hy).1
              show depVs l + 1 ≤ k
              omega
            · have hs' : ¬ (100 : Int) < (s.size : Int) := hs
              omega
        · exact ⟨false, rfl, fun h => by cases h⟩
theorem small_spec (x : Va) (hw : wideV 9223372036854775807 x) : ∃ b, synthesisref01_Small x = some b ∧ (b = true → okV x ∧ shortV x) := by
  unfold synthesisref01_Small
  have hw1 : wideVs 9223372036854775807 [x] := ⟨hw, trivial⟩
  obtain ⟨c, hc⟩ := count_total (fuel + depVs [x]) [x] 90 (by have := fuel_succ; omega) (by simp) hw1
  obtain ⟨b, hb, hb2⟩ := shallow_spec fuel x 8 (by omega) (lt_fuel (by omega)) hw
  have hb' : synthesisref01_shallow fuel x 8 = some b := hb
  rw [hc]
  simp only [Option.bind_some]
  by_cases h90 : c ≤ 90
  · rw [decide_eq_true h90]
    simp only [cond_true, hb', Option.bind_some]
    refine ⟨b, rfl, fun h => ?_⟩
    obtain ⟨h1, h2⟩ := hb2 h
    have hd1 : depVs [x] = depV x := by show Nat.max (depV x) 0 = depV x; exact Nat.max_eq_left (Nat.zero_le _)
    obtain ⟨_, _, k3⟩ := count_acc (fuel + depVs [x]) [x] 90 c (by omega) (by omega) (by have := fuel_succ; omega) (by simp) hw1 hc
    obtain ⟨_, k4⟩ := k3 h90
    exact ⟨⟨by omega, k4 x (by simp)⟩, h2⟩
  · rw [decide_eq_false h90]
    exact ⟨false, rfl, fun h => by cases h⟩
end Go.Proofs.Ytaeicmnimjfbaaa
/- Terms, checked by both texts; the law. -/
set_option linter.unusedVariables false
set_option linter.unusedSimpArgs false
namespace Go.Proofs.Ytaeicmnimjfbaaa
open Go Go.RowKit

/-- what is left of a budget -/
def leftT (m : Nat) (s : Nat) : Int := if s ≤ m then (m : Int) - (s : Int) else -1
theorem sizeL_take {l : List Tm} {i : Nat} (h : i < l.length) : Tm.sizeL (l.take (i + 1)) = Tm.sizeL (l.take i) + l[i].size := by
  rw [List.take_succ_eq_append_getElem h, Tm.sizeL_snoc]
theorem sizeL_take_le (l : List Tm) (i : Nat) : i ≤ l.length → i ≤ Tm.sizeL (l.take i) ∧ Tm.sizeL (l.take i) ≤ Tm.sizeL l := by
  intro hi
  induction i with
  | zero => exact ⟨Nat.zero_le _, by simp [Tm.sizeL]⟩
  | succ i ih =>
    have h1 := ih (by omega)
    have h2 := sizeL_take (l := l) (i := i) (by omega)
    have h3 := Tm.size_pos l[i]
    refine ⟨by omega, ?_⟩
    have : Tm.sizeL l = Tm.sizeL (l.take (i + 1)) + Tm.sizeL (l.drop (i + 1)) := by
      have gen : ∀ a b : List Tm, Tm.sizeL (a ++ b) = Tm.sizeL a + Tm.sizeL b := fun a b => by
        induction a with
        | nil => simp [Tm.sizeL]
        | cons x a ih => simp only [List.cons_append, Tm.sizeL, ih]; omega
      rw [← gen, List.take_append_drop]
    omega
theorem budget_eq : ∀ (n : Nat) (t : Tm) (m : Nat), m ≤ 10000 → m < n → synthesisref13_left n t (m : Int) = some (leftT m t.size) ∧ term_within n t (m : Int) = some (leftT m t.size)
  | 0, t, m, _, h => by omega
  | n + 1, t, m, hm, hn => by
    show synthesisref13_left_b (synthesisref13_left n) t (m : Int) = _ ∧ term_within_b (term_within n) t (m : Int) = _
    obtain ⟨r0, l⟩ := t
    have hsz : (Tm.mk r0 l).size = Tm.sizeL l + 1 := rfl
    have hstart : w64 ((m : Int) - 1) = leftT m (1 + Tm.sizeL (l.take 0)) := by
      rw [w64_eq (by omega) (by omega)]
      simp only [List.take_zero, Tm.sizeL, leftT]
      split <;> omega
    obtain ⟨r, r', h1, h2, h3, h4⟩ := loop_two (step := term_within_l1 (Tm.mk r0 l) (term_within n)) (step' := synthesisref13_left_l1 (Tm.mk r0 l) (synthesisref13_left n)) (min l.length m) (by omega)
      (fun i => (leftT m (1 + Tm.sizeL (l.take i)), (i : Int))) (fun i => (leftT m (1 + Tm.sizeL (l.take i)), (i : Int))) (fun r r' => Sum.elim id id r = leftT m (Tm.sizeL l + 1) ∧ r' = leftT m (Tm.sizeL l + 1)) (fun i hi => by
      have hi1 : i < l.length := by omega
      have e1 : (Tm.mk r0 l).args[i]? = some l[i] := List.getElem?_eq_getElem hi1
      have b1 : decide ((i : Int) < ((Tm.mk r0 l).args.length : Int)) = true := decide_eq_true (by show (i : Int) < (l.length : Int); omega)
      have hle := sizeL_take_le l i (by omega)
      simp only [term_within_l1, synthesisref13_left_l1, b1, cond_true, Option.bind_some, idx_nat, e1]
      by_cases hp : 1 + Tm.sizeL (l.take i) ≤ m
      · have hv : leftT m (1 + Tm.sizeL (l.take i)) = ((m - (1 + Tm.sizeL (l.take i)) : Nat) : Int) := by unfold leftT; rw [if_pos hp]; omega
        obtain ⟨q1, q2⟩ := budget_eq n l[i] (m - (1 + Tm.sizeL (l.take i))) (by omega) (by omega)
        have hnext : leftT (m - (1 + Tm.sizeL (l.take i))) l[i].size = leftT m (1 + Tm.sizeL (l.take (i + 1))) := by
          rw [sizeL_take hi1]
          unfold leftT
          split <;> split <;> omega
        rw [hv, decide_eq_true (show (0 : Int) ≤ ((m - (1 + Tm.sizeL (l.take i)) : Nat) : Int) by omega), decide_eq_false (show ¬ ((m - (1 + Tm.sizeL (l.take i)) : Nat) : Int) < 0 by omega)]
        simp only [cond_true, cond_false, q1, q2, Option.bind_some, hnext, w64_succ (n := i) (by omega)]
        first | exact .inl ⟨rfl, rfl⟩ | exact .inl ⟨trivial, trivial⟩
      · have hv : leftT m (1 + Tm.sizeL (l.take i)) = -1 := by unfold leftT; rw [if_neg hp]
        have hf : leftT m (Tm.sizeL l + 1) = -1 := by unfold leftT; rw [if_neg (by omega)]
        rw [hv, hf]
        exact .inr ⟨_, _, rfl, rfl, rfl, rfl⟩) (by
      have hle := sizeL_take_le l (min l.length m) (by omega)
      by_cases hlm : l.length ≤ m
      · have hmin : min l.length m = l.length := by omega
        have b1 : decide ((l.length : Int) < ((Tm.mk r0 l).args.length : Int)) = false := decide_eq_false (by show ¬ (l.length : Int) < (l.length : Int); omega)
        have hf : leftT m (1 + Tm.sizeL l) = leftT m (Tm.sizeL l + 1) := by rw [Nat.add_comm]
        simp only [hmin, term_within_l1, synthesisref13_left_l1, b1, cond_false, Option.bind_some, List.take_length, hf]
        exact ⟨_, _, rfl, rfl, rfl, rfl⟩
      · have hmin : min l.length m = m := by omega
        rw [hmin] at hle
        have b1 : decide ((m : Int) < ((Tm.mk r0 l).args.length : Int)) = true := decide_eq_true (by show (m : Int) < (l.length : Int); omega)
        have hi1 : m < l.length := by omega
        have e1 : (Tm.mk r0 l).args[m]? = some l[m] := List.getElem?_eq_getElem hi1
        have hv : leftT m (1 + Tm.sizeL (l.take m)) = -1 := by unfold leftT; rw [if_neg (by omega)]
        have hf : leftT m (Tm.sizeL l + 1) = -1 := by unfold leftT; rw [if_neg (by omega)]
        simp only [hmin, term_within_l1, synthesisref13_left_l1, b1, cond_true, Option.bind_some, idx_nat, e1, hv, hf]
        exact ⟨_, _, rfl, rfl, rfl, rfl⟩)
    have h1' : loopN (term_within_l1 (Tm.mk r0 l) (term_within n)) fuel (w64 ((m : Int) - 1), 0) = some r := by rw [hstart]; simpa using h1
    have h2' : loopN (synthesisref13_left_l1 (Tm.mk r0 l) (synthesisref13_left n)) fuel (w64 ((m : Int) - 1), 0) = some r' := by rw [hstart]; simpa using h2
    unfold synthesisref13_left_b term_within_b
    rw [h1', h2', hsz, ← h4]
    refine ⟨rfl, ?_⟩
    rw [h4, ← h3]
    cases r <;> rfl
theorem sizeT_args {t : Tm} : Tm.sizeL t.args + 1 = t.size := by cases t; rfl
theorem len_le_sizeL (l : List Tm) : l.length ≤ Tm.sizeL l := by
  have := (sizeL_take_le l l.length (Nat.le_refl _)).1
  rw [List.take_length] at this
  exact this
theorem depthL_take {l : List Tm} {i : Nat} (h : i < l.length) : Tm.depthL (l.take (i + 1)) = max (Tm.depthL (l.take i)) l[i].depth := by
  rw [List.take_succ_eq_append_getElem h, Tm.depthL_snoc]
theorem depth_le_size (t : Tm) : t.depth ≤ t.size := by
  refine Tm.ind (P := fun t => t.depth ≤ t.size) (fun r l ih => ?_) t
  show Tm.depthL l + 1 ≤ Tm.sizeL l + 1
  have : ∀ l : List Tm, (∀ t ∈ l, t.depth ≤ t.size) → Tm.depthL l ≤ Tm.sizeL l := fun l => by
    induction l with
    | nil => exact fun _ => Nat.le_refl _
    | cons x l ih => 
      intro h
      have h1 := h x (List.mem_cons_self ..)
      have h2 := ih fun t ht => h t (List.mem_cons_of_mem _ ht)
      show max x.depth (Tm.depthL l) ≤ x.size + Tm.sizeL l
      omega
  have := this l ih
  omega
theorem depth_eq : ∀ (n : Nat) (t : Tm), t.size ≤ 1000 → t.size ≤ n → synthesisref13_Depth n t = some (t.depth : Int)
  | 0, t, _, h => by have := Tm.size_pos t; omega
  | n + 1, t, ht, hn => by
    show synthesisref13_Depth_b (synthesisref13_Depth n) t = _
    obtain ⟨r0, l⟩ := t
    have hsz : (Tm.mk r0 l).size = Tm.sizeL l + 1 := rfl
    have hlen := len_le_sizeL l
    have hl := loop_end (step := synthesisref13_Depth_l1 (Tm.mk r0 l) (synthesisref13_Depth n)) l.length (by omega) (fun i => ((Tm.depthL (l.take i) : Int), (i : Int))) (Tm.depthL l : Int) (fun i hi => by
      have e1 : (Tm.mk r0 l).args[i]? = some l[i] := List.getElem?_eq_getElem hi
      have b1 : decide ((i : Int) < ((Tm.mk r0 l).args.length : Int)) = true := decide_eq_true (by show (i : Int) < (l.length : Int); omega)
      have hs := Tm.sizeL_mem (List.getElem_mem hi)
      have q := depth_eq n l[i] (by omega) (by omega)
      have hmax : imax (Tm.depthL (l.take i) : Int) (l[i].depth : Int) = (Tm.depthL (l.take (i + 1)) : Int) := by
        rw [depthL_take hi]
        unfold imax
        split <;> omega
      simp only [synthesisref13_Depth_l1, b1, cond_true, idx_nat, e1, Option.bind_some, q, hmax, w64_succ (n := i) (by omega)]) (by
      have b1 : decide ((l.length : Int) < ((Tm.mk r0 l).args.length : Int)) = false := decide_eq_false (by show ¬ (l.length : Int) < (l.length : Int); omega)
      simp only [synthesisref13_Depth_l1, b1, cond_false, List.take_length])
    have hl' : loopN (synthesisref13_Depth_l1 (Tm.mk r0 l) (synthesisref13_Depth n)) fuel (0, 0) = some (Tm.depthL l : Int) := by simpa [Tm.depthL] using hl
    unfold synthesisref13_Depth_b
    rw [hl', Option.bind_some]
    have hd := depth_le_size (Tm.mk r0 l)
    have hd2 : (Tm.mk r0 l).depth = Tm.depthL l + 1 := rfl
    rw [w64_succ (by omega), hd2]
theorem shallowT_eq : ∀ (n : Nat) (t : Tm) (k : Nat), k ≤ 1000 → t.size ≤ 1000 → t.size ≤ n → term_shallow n t (k : Int) = some (decide (t.depth ≤ k))
  | 0, t, k, _, _, h => by have := Tm.size_pos t; omega
  | n + 1, t, k, hk, ht, hn => by
    show term_shallow_b (term_shallow n) t (k : Int) = _
    obtain ⟨r0, l⟩ := t
    have hsz : (Tm.mk r0 l).size = Tm.sizeL l + 1 := rfl
    have hd2 : (Tm.mk r0 l).depth = Tm.depthL l + 1 := rfl
    have hlen := len_le_sizeL l
    unfold term_shallow_b
    by_cases h0 : k = 0
    · subst h0
      rw [decide_eq_false (show ¬ (Tm.mk r0 l).depth ≤ 0 by omega)]
      rfl
    · have c0 : ((k : Int) == 0) = false := by rw [beq_eq_false_iff_ne]; omega
      rw [c0]
      have hl := loop_fuel (step := term_shallow_l1 (Tm.mk r0 l) (k : Int) (term_shallow n)) l.length (by omega) (fun i => (i : Int)) (fun i => if (l.drop i).all (fun t => decide (t.depth ≤ k - 1)) = true then .inl () else .inr false) (fun i hi => by
        have e1 : (Tm.mk r0 l).args[i]? = some l[i] := List.getElem?_eq_getElem hi
        have b1 : decide ((i : Int) < ((Tm.mk r0 l).args.length : Int)) = true := decide_eq_true (by show (i : Int) < (l.length : Int); omega)
        have hs := Tm.sizeL_mem (List.getElem_mem hi)
        have hsub : w64 ((k : Int) - 1) = ((k - 1 : Nat) : Int) := by rw [w64_eq (by omega) (by omega)]; omega
        have q := shallowT_eq n l[i] (k - 1) (by omega) (by omega) (by omega)
        have hd : l.drop i = l[i] :: l.drop (i + 1) := List.drop_eq_getElem_cons hi
        simp only [term_shallow_l1, b1, cond_true, idx_nat, e1, Option.bind_some, hsub, q, hd, List.all_cons, w64_succ (n := i) (by omega)]
        cases decide (l[i].depth ≤ k - 1) with
        | true => exact .inl ⟨rfl, by simp⟩
        | false => exact .inr rfl) (by
        have b1 : decide ((l.length : Int) < ((Tm.mk r0 l).args.length : Int)) = false := decide_eq_false (by show ¬ (l.length : Int) < (l.length : Int); omega)
        simp only [term_shallow_l1, b1, cond_false, List.drop_length, List.all_nil, if_true])
      have hl' : loopN (term_shallow_l1 (Tm.mk r0 l) (k : Int) (term_shallow n)) fuel 0 = some (if l.all (fun t => decide (t.depth ≤ k - 1)) = true then .inl () else .inr false) := by simpa using hl
      have hall : l.all (fun t => decide (t.depth ≤ k - 1)) = decide ((Tm.mk r0 l).depth ≤ k) := by
        have gen : ∀ l : List Tm, l.all (fun t => decide (t.depth ≤ k - 1)) = decide (Tm.depthL l ≤ k - 1) := fun l => by
          induction l with
          | nil => simp [Tm.depthL]
          | cons x l ih =>
            rw [List.all_cons, ih, ← Bool.decide_and]
            exact decide_eq_decide.2 (by show _ ↔ max x.depth (Tm.depthL l) ≤ k - 1; omega)
        rw [gen]
        exact decide_eq_decide.2 (by omega)
      simp only [cond_false]
      rw [hl', hall, Option.bind_some]
      cases decide ((Tm.mk r0 l).depth ≤ k) <;> rfl
theorem derived_both : ∀ (n : Nat) (l : La) (s : Int) (t : Tm), t.size ≤ 1000 → t.size ≤ n → (∀ x ∈ l.rules, x.kind ≠ 3 → x.args.length = 0) → ∃ c, term_derived n l s t = some c ∧ synthesisref13_fits n l s t = some c
  | 0, l, s, t, _, h, _ => by have := Tm.size_pos t; omega
  | n + 1, l, s, t, ht, hn, hr => by
    show ∃ c, term_derived_b (term_derived n) l s t = some c ∧ synthesisref13_fits_b (synthesisref13_fits n) l s t = some c
    obtain ⟨r0, ts⟩ := t
    have hsz : (Tm.mk r0 ts).size = Tm.sizeL ts + 1 := rfl
    have hlen := len_le_sizeL ts
    unfold term_derived_b synthesisref13_fits_b
    have hrr : (Tm.mk r0 ts).rule = r0 := rfl
    have haa : (Tm.mk r0 ts).args = ts := rfl
    simp only [hrr, haa]
    by_cases h0 : r0 < 0
    · rw [decide_eq_true h0]; exact ⟨1, rfl, rfl⟩
    by_cases h1 : (l.rules.length : Int) ≤ r0
    · rw [decide_eq_false h0, decide_eq_true h1]; exact ⟨1, rfl, rfl⟩
    rw [decide_eq_false h0, decide_eq_false h1]
    obtain ⟨x, hx, hxm⟩ := idx_int (xs := l.rules) (i := r0) (by omega) (by omega)
    simp only [cond_false, Option.bind_some, hx]
    cases x.symbol != s with
    | true => exact ⟨3, rfl, rfl⟩
    | false =>
      have har : synthesisref13_Arity x = some (x.args.length : Int) := by
        unfold synthesisref13_Arity
        by_cases hk : x.kind = 3
        · rw [show (x.kind != 3) = false by rw [bne_eq_false_iff_eq]; exact hk]; rfl
        · rw [show (x.kind != 3) = true by rw [bne_iff_ne]; exact hk, hr x hxm hk]; rfl
      simp only [cond_false, har, Option.bind_some]
      by_cases hl : (ts.length : Int) = (x.args.length : Int)
      · rw [show ((ts.length : Int) != (x.args.length : Int)) = false by rw [bne_eq_false_iff_eq]; exact hl]
        obtain ⟨r, h1, h2⟩ := loop_same (step := term_derived_l1 l (Tm.mk r0 ts) (term_derived n) x) (step' := synthesisref13_fits_l1 l (Tm.mk r0 ts) (synthesisref13_fits n) x) ts.length (by omega) (fun i => (i : Int)) (fun i hi => by
          have e1 : ts[i]? = some ts[i] := List.getElem?_eq_getElem hi
          have hi2 : i < x.args.length := by omega
          have e2 : x.args[i]? = some x.args[i] := List.getElem?_eq_getElem hi2
          have b1 : decide ((i : Int) < (ts.length : Int)) = true := decide_eq_true (by omega)
          have hs := Tm.sizeL_mem (List.getElem_mem hi)
          obtain ⟨c, c1, c2⟩ := derived_both n l x.args[i] ts[i] (by omega) (by omega) hr
          simp only [term_derived_l1, synthesisref13_fits_l1, haa, b1, cond_true, idx_nat, e1, e2, Option.bind_some, c1, c2, w64_succ (n := i) (by omega)]
          cases c != 0 with
          | true => exact .inr ⟨_, rfl, rfl⟩
          | false => exact .inl ⟨rfl, rfl⟩) (.inl ()) (by
          have b1 : decide ((ts.length : Int) < (ts.length : Int)) = false := decide_eq_false (by omega)
          simp only [term_derived_l1, haa, b1, cond_false]) (by
          have b1 : decide ((ts.length : Int) < (ts.length : Int)) = false := decide_eq_false (by omega)
          simp only [synthesisref13_fits_l1, haa, b1, cond_false])
        have h1' : loopN (term_derived_l1 l (Tm.mk r0 ts) (term_derived n) x) fuel 0 = some r := by simpa using h1
        have h2' : loopN (synthesisref13_fits_l1 l (Tm.mk r0 ts) (synthesisref13_fits n) x) fuel 0 = some r := by simpa using h2
        simp only [cond_false, h1', h2', Option.bind_some]
        cases r <;> exact ⟨_, rfl, rfl⟩
      · rw [show ((ts.length : Int) != (x.args.length : Int)) = true by rw [bne_iff_ne]; exact hl]
        exact ⟨4, rfl, rfl⟩
end Go.Proofs.Ytaeicmnimjfbaaa
/- The law TermChecks. -/
set_option linter.unusedVariables false
set_option linter.unusedSimpArgs false
namespace Go.Proofs.Ytaeicmnimjfbaaa
open Go Go.RowKit

/-- languages as they come in -/
def inLa (l : La) : Prop := ∀ r ∈ l.rules, wideV 9223372036854775807 r.const
theorem few_spec (l : La) (hw : inLa l) : ∃ b, synthesisref13_Few l = some b ∧ (b = true → fineL l) := by
  unfold synthesisref13_Few
  by_cases h1 : 40 < (l.name.size : Int)
  · rw [decide_eq_true h1]; exact ⟨false, rfl, fun h => by cases h⟩
  by_cases h2 : 6 < (l.inputs.length : Int)
  · rw [decide_eq_false h1, decide_eq_true h2]; exact ⟨false, rfl, fun h => by cases h⟩
  by_cases h3 : 18 < (l.symbols.length : Int)
  · rw [decide_eq_false h1, decide_eq_false h2, decide_eq_true h3]; exact ⟨false, rfl, fun h => by cases h⟩
  by_cases h4 : 30 < (l.rules.length : Int)
  · rw [decide_eq_false h1, decide_eq_false h2, decide_eq_false h3, decide_eq_true h4]; exact ⟨false, rfl, fun h => by cases h⟩
  rw [decide_eq_false h1, decide_eq_false h2, decide_eq_false h3, decide_eq_false h4]
  simp only [cond_false, Option.bind_some]
  have hst : ∀ i (hi : i < l.symbols.length), (l.symbols[i].name.size ≤ 40 ∧ synthesisref13_Few_l2 l (i : Int) = some (.inl ((i + 1 : Nat) : Int))) ∨ synthesisref13_Few_l2 l (i : Int) = some (.inr (.inr false)) := fun i hi => by
    have e1 : l.symbols[i]? = some l.symbols[i] := List.getElem?_eq_getElem hi
    have b1 : decide ((i : Int) < (l.symbols.length : Int)) = true := decide_eq_true (by omega)
    simp only [synthesisref13_Few_l2, b1, cond_true, idx_nat, e1, Option.bind_some, w64_succ (n := i) (by omega)]
    by_cases h : 40 < (l.symbols[i].name.size : Int)
    · rw [decide_eq_true h]; exact .inr rfl
    · rw [decide_eq_false h]; exact .inl ⟨by omega, rfl⟩
  have hse : synthesisref13_Few_l2 l (l.symbols.length : Int) = some (.inr (.inl ())) := by
    have b1 : decide ((l.symbols.length : Int) < (l.symbols.length : Int)) = false := decide_eq_false (by omega)
    simp only [synthesisref13_Few_l2, b1, cond_false]
  obtain ⟨r, _, k1, _, k2⟩ := loop_two (step := synthesisref13_Few_l2 l) (step' := synthesisref13_Few_l2 l) l.symbols.length (by omega) (fun i => (i : Int)) (fun i => (i : Int)) (fun r _ => r = .inl () ∨ r = .inr false) (fun i hi => by
    rcases hst i hi with ⟨_, h⟩ | h
    · exact .inl ⟨h, h⟩
    · exact .inr ⟨_, _, h, h, .inr rfl⟩) ⟨_, _, hse, hse, .inl rfl⟩
  have k1' : loopN (synthesisref13_Few_l2 l) fuel 0 = some r := by simpa using k1
  rw [k1']
  rcases k2 with rfl | rfl
  rotate_left
  · exact ⟨false, rfl, fun h => by cases h⟩
  simp only [Option.bind_some, Sum.elim_inl]
  have hsym : ∀ x ∈ l.symbols, x.name.size ≤ 1000 := fun x hx => by
    obtain ⟨i, hi, rfl⟩ := List.mem_iff_getElem.1 hx
    have := loop_all (step := synthesisref13_Few_l2 l) l.symbols.length (fun i => (i : Int)) (.inl ()) (fun i hi => by
      rcases hst i hi with ⟨_, h⟩ | h
      · exact .inl h
      · exact .inr ⟨_, h, fun h => by cases h⟩) fuel 0 k1 i (Nat.zero_le _) hi
    rcases hst i hi with ⟨h, _⟩ | h
    · omega
    · rw [h] at this; cases this
  have hrt : ∀ i (hi : i < l.rules.length), (fineR l.rules[i] ∧ synthesisref13_Few_l1 l (i : Int) = some (.inl ((i + 1 : Nat) : Int))) ∨ synthesisref13_Few_l1 l (i : Int) = some (.inr (.inr false)) := fun i hi => by
    have e1 : l.rules[i]? = some l.rules[i] := List.getElem?_eq_getElem hi
    have b1 : decide ((i : Int) < (l.rules.length : Int)) = true := decide_eq_true (by omega)
    obtain ⟨b, hb, hb2⟩ := small_spec l.rules[i].const (hw _ (List.getElem_mem hi))
    simp only [synthesisref13_Few_l1, b1, cond_true, idx_nat, e1, Option.bind_some, hb, w64_succ (n := i) (by omega)]
    cases b with
    | false => exact .inr rfl
    | true =>
      by_cases h : 40 < (l.rules[i].op.size : Int)
      · rw [decide_eq_true h]; exact .inr rfl
      · rw [decide_eq_false h]
        by_cases h' : 6 < (l.rules[i].args.length : Int)
        · rw [decide_eq_true h']; exact .inr rfl
        · rw [decide_eq_false h']
          exact .inl ⟨⟨by omega, hb2 rfl⟩, rfl⟩
  have hre : synthesisref13_Few_l1 l (l.rules.length : Int) = some (.inr (.inl ())) := by
    have b1 : decide ((l.rules.length : Int) < (l.rules.length : Int)) = false := decide_eq_false (by omega)
    simp only [synthesisref13_Few_l1, b1, cond_false]
  obtain ⟨r, _, j1, _, j2⟩ := loop_two (step := synthesisref13_Few_l1 l) (step' := synthesisref13_Few_l1 l) l.rules.length (by omega) (fun i => (i : Int)) (fun i => (i : Int)) (fun r _ => r = .inl () ∨ r = .inr false) (fun i hi => by
    rcases hrt i hi with ⟨_, h⟩ | h
    · exact .inl ⟨h, h⟩
    · exact .inr ⟨_, _, h, h, .inr rfl⟩) ⟨_, _, hre, hre, .inl rfl⟩
  have j1' : loopN (synthesisref13_Few_l1 l) fuel 0 = some r := by simpa using j1
  rw [j1']
  rcases j2 with rfl | rfl
  · refine ⟨true, rfl, fun _ => ⟨by omega, by omega, by omega, by omega, hsym, fun x hx => ?_⟩⟩
    obtain ⟨i, hi, rfl⟩ := List.mem_iff_getElem.1 hx
    have := loop_all (step := synthesisref13_Few_l1 l) l.rules.length (fun i => (i : Int)) (.inl ()) (fun i hi => by
      rcases hrt i hi with ⟨_, h⟩ | h
      · exact .inl h
      · exact .inr ⟨_, h, fun h => by cases h⟩) fuel 0 j1 i (Nat.zero_le _) hi
    rcases hrt i hi with ⟨h, _⟩ | h
    · exact h
    · rw [h] at this; cases this
  · exact ⟨false, rfl, fun h => by cases h⟩
theorem within_eq (t : Tm) (m : Nat) (hm : m ≤ 10000) : synthesisref13_Within t (m : Int) = some (decide (t.size ≤ m)) := by
  unfold synthesisref13_Within
  rw [(budget_eq fuel t m hm (lt_fuel (by omega))).1, Option.bind_some]
  refine congrArg some (decide_eq_decide.2 ?_)
  unfold leftT
  split <;> omega
theorem small13 (t : Tm) : synthesislaw13_small [t] = some (decide (t.size ≤ 40)) := by
  unfold synthesislaw13_small
  have hw : synthesisref13_Within t 40 = some (decide (t.size ≤ 40)) := within_eq t 40 (by omega)
  have h0 : synthesislaw13_small_l1 [t] 0 = bif !(decide (t.size ≤ 40)) then some (.inr (.inr false)) else some (.inl 1) := by
    have b1 : decide ((0 : Int) < (([t] : List Tm).length : Int)) = true := rfl
    have e1 : idx [t] 0 = some t := rfl
    simp only [synthesislaw13_small_l1, b1, cond_true, e1, Option.bind_some, hw]
    rfl
  have h1 : synthesislaw13_small_l1 [t] 1 = some (.inr (.inl ())) := by
    have b1 : decide ((1 : Int) < (([t] : List Tm).length : Int)) = false := rfl
    simp only [synthesislaw13_small_l1, b1, cond_false]
  have hl : loopN (synthesislaw13_small_l1 [t]) fuel 0 = some (bif decide (t.size ≤ 40) then .inl () else .inr false) := by
    rw [fuel_succ, loopN, h0]
    cases decide (t.size ≤ 40) with
    | false => rfl
    | true =>
      show loopN (synthesislaw13_small_l1 [t]) (18446744073709551614 + 1) 1 = _
      rw [loopN, h1]
      rfl
  rw [hl]
  cases decide (t.size ≤ 40) <;> rfl
set_option maxRecDepth 100000 in
theorem alive13 : synthesislaw13_alive = some true := by kernel_rfl
theorem check_both (l : La) (s : Int) (t : Tm) (hl : fineL l) (ht : t.size ≤ 40) : ∃ c, term_Check l s t = some c ∧ synthesisref13_Check l s t = some c := by
  obtain ⟨c, c1, c2, c3⟩ := lang_both l hl
  unfold term_Check synthesisref13_Check
  rw [c1, c2]
  simp only [Option.bind_some]
  by_cases hc : c = 0
  · subst hc
    have hz : ((0 : Int) != 0) = false := rfl
    rw [hz]
    simp only [cond_false]
    by_cases s0 : s < 0
    · rw [decide_eq_true s0]; exact ⟨1, rfl, rfl⟩
    by_cases s1 : (l.symbols.length : Int) ≤ s
    · rw [decide_eq_false s0, decide_eq_true s1]; exact ⟨1, rfl, rfl⟩
    have hb : term_within fuel t 4096 = some (leftT 4096 t.size) := (budget_eq fuel t 4096 (by omega) (lt_fuel (by omega))).2
    have hw : synthesisref13_Within t 4096 = some (decide (t.size ≤ 4096)) := within_eq t 4096 (by omega)
    have hs : term_shallow fuel t 32 = some (decide (t.depth ≤ 32)) := shallowT_eq fuel t 32 (by omega) (by omega) (Nat.le_of_lt (lt_fuel (by omega)))
    have hd := depth_eq fuel t (by omega) (Nat.le_of_lt (lt_fuel (by omega)))
    have hneg : decide (leftT 4096 t.size < 0) = false := decide_eq_false (by unfold leftT; split <;> omega)
    rw [decide_eq_false s0, decide_eq_false s1]
    simp only [cond_false, Option.bind_some, hb, hw, hs, hd, hneg, decide_eq_true (show t.size ≤ 4096 by omega), Bool.not_true]
    have hde : (!(decide (t.depth ≤ 32))) = decide ((32 : Int) < (t.depth : Int)) := by
      rw [← decide_not]
      exact decide_eq_decide.2 (by omega)
    rw [hde]
    cases decide ((32 : Int) < (t.depth : Int)) with
    | true => exact ⟨2, rfl, rfl⟩
    | false =>
      obtain ⟨d, d1, d2⟩ := derived_both fuel l s t (by omega) (Nat.le_of_lt (lt_fuel (by omega))) (c3 rfl)
      simp only [cond_false, d1, d2, Option.bind_some]
      exact ⟨d, rfl, rfl⟩
  · rw [show (c != 0) = true by rw [bne_iff_ne]; exact hc]
    exact ⟨c, rfl, rfl⟩
theorem law_TermChecks (l : La) (s : Int) (t : Tm) (hl : inLa l) (hs : InI64 s) (ht : True) : synthesislaw13_TermChecks l s t = some true := by
  obtain ⟨b, hb, hb2⟩ := few_spec l hl
  unfold synthesislaw13_TermChecks
  rw [hb]
  simp only [Option.bind_some]
  cases b with
  | false => simp only [Bool.not_false, cond_true, alive13, Option.bind_some]
  | true =>
    simp only [Bool.not_true, cond_false, small13, Option.bind_some]
    by_cases h40 : t.size ≤ 40
    · obtain ⟨c, c1, c2⟩ := check_both l s t (hb2 rfl) h40
      simp only [decide_eq_true h40, Bool.not_true, cond_false, c1, c2, Option.bind_some, beq_self_eq_true, cond_true, alive13]
    · simp only [decide_eq_false h40, Bool.not_false, cond_true, alive13, Option.bind_some]
end Go.Proofs.Ytaeicmnimjfbaaa
