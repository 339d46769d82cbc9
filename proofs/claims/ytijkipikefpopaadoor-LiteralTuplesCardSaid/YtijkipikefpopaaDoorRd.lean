/- LiteralParses, LiteralFaults. -/
import Derived.Test.YtijkipikefpopaaDoorRb
set_option linter.unusedVariables false
set_option linter.unusedSimpArgs false
set_option maxRecDepth 10000
namespace Go.Proofs.YtijkipikefpopaaDoor
open Go Go.RowKit

def qQ {α : Type} (x : Option α × Nat) (r : α × Int × Bool) : Prop := r.2.1 = (x.2 : Int) ∧ r.2.2 = x.1.isSome ∧ ∀ u, x.1 = some u → r.1 = u
theorem rsep_eq {s : ByteArray} (hs : s.size ≤ 4000000) {j : Nat} (hj : j ≤ s.size) : synthesisref02_word s (j : Int) (⟨#[44, 32]⟩ : ByteArray) = some ((((wordP [44, 32]).ev s j).2 : Int), ((wordP [44, 32]).ev s j).1.isSome) := rword_eq hs (by decide) (by decide) hj
theorem rlist_loop {s : ByteArray} (hs : s.size ≤ 4000000) {r61 : ByteArray → Int → Int → Int → Option (Va × Int × Bool)} {a2 e : Int} {least most : Nat} (hm : most ≤ 16) {elem : List Va → Pr Va} (hg : ∀ l, (elem l).good false) (Inv : List Va → Prop)
    (hi : ∀ acc i v j, Inv acc → (elem acc).ev s i = (some v, j) → Inv (acc ++ [v]))
    (hel : ∀ i acc, i ≤ s.size → Inv acc → ∃ r, r61 s (i : Int) a2 (colsOf acc : Int) = some r ∧ qQ ((elem acc).ev s i) r) :
    ∀ k acc i n, acc.length + k = most → Inv acc → i ≤ s.size → k < n → ∃ r, loopN (synthesisref02_list_l1 s a2 (least : Int) (most : Int) e r61) n ((i : Int), acc) = some r ∧ qQ ((listP e least elem k acc).ev s i) r := by
  intro k
  induction k with
  | zero =>
    intro acc i n hk hI hi' hn
    obtain ⟨n, rfl⟩ : ∃ m, n = m + 1 := ⟨n - 1, by omega⟩
    have e4 : (bif (atI s i == e) then (some (decide ((least : Int) ≤ (List.length acc : Int)))) else (some (false)) : Option Bool) = some (decide (atI s i = e ∧ least ≤ acc.length)) := by
      by_cases h : atI s i = e
      · rw [show (atI s i == e) = true by simpa using h, cond_true]; congr 1; simp [h]
      · rw [show (atI s i == e) = false by simpa using h, cond_false, decide_eq_false (fun h' => h h'.1)]
    have e3 : ((acc.length : Int) == (most : Int)) = true := by simp; omega
    unfold listP
    simp only [Pr.ev]
    by_cases hc : atI s i = e ∧ least ≤ acc.length
    · rw [if_pos hc]
      refine ⟨(acc, ((i + 1 : Nat) : Int), true), lp_out ?_, rfl, rfl, fun u h => by cases h; rfl⟩
      simp only [synthesisref02_list_l1, at_eq, Option.bind_some, e4, decide_eq_true hc, cond_true, w64s i (by omega)]
    · rw [if_neg hc]
      refine ⟨([], (i : Int), false), lp_out ?_, rfl, rfl, fun u h => by cases h⟩
      simp only [synthesisref02_list_l1, at_eq, Option.bind_some, e4, decide_eq_false hc, cond_false, e3, cond_true]
  | succ k ih =>
    intro acc i n hk hI hi' hn
    obtain ⟨n, rfl⟩ : ∃ m, n = m + 1 := ⟨n - 1, by omega⟩
    have e4 : (bif (atI s i == e) then (some (decide ((least : Int) ≤ (List.length acc : Int)))) else (some (false)) : Option Bool) = some (decide (atI s i = e ∧ least ≤ acc.length)) := by
      by_cases h : atI s i = e
      · rw [show (atI s i == e) = true by simpa using h, cond_true]; congr 1; simp [h]
      · rw [show (atI s i == e) = false by simpa using h, cond_false, decide_eq_false (fun h' => h h'.1)]
    have e3 : ((acc.length : Int) == (most : Int)) = false := by simp; omega
    unfold listP
    simp only [Pr.ev]
    by_cases hc : atI s i = e ∧ least ≤ acc.length
    · rw [if_pos hc]
      refine ⟨(acc, ((i + 1 : Nat) : Int), true), lp_out ?_, rfl, rfl, fun u h => by cases h; rfl⟩
      simp only [synthesisref02_list_l1, at_eq, Option.bind_some, e4, decide_eq_true hc, cond_true, w64s i (by omega)]
    · rw [if_neg hc]
      -- behind the separator
      have key : ∀ j : Nat, j ≤ s.size → (Option.bind ((bif (decide (0 < (List.length acc : Int))) then (Option.bind (idx acc 0) fun v8 => (some ((List.length v8.items : Int)))) else (some (0))) : Option ((Int))) fun (v10 : (Int)) => (Option.bind (r61 s (j : Int) a2 v10) fun v11 => (bif (!v11.2.2) then (some (.inr (([] : List Va), v11.2.1, false))) else (Option.bind (app 56 acc ([v11.1] : List (Va))) fun v12 => (some (.inl (v11.2.1, v12))))))) =
          synthesisref02_list_l1 s a2 (least : Int) (most : Int) e r61 ((i : Int), acc) → ∃ r, loopN (synthesisref02_list_l1 s a2 (least : Int) (most : Int) e r61) (n + 1) ((i : Int), acc) = some r ∧ qQ (((elem acc).bind fun v => listP e least elem k (acc ++ [v])).ev s j) r := by
        intro j hj hst
        obtain ⟨r, hr, q1, q2, q3⟩ := hel j acc hj hI
        have hcols : (bif (decide (0 < (List.length acc : Int))) then (Option.bind (idx acc 0) fun v8 => (some ((List.length v8.items : Int)))) else (some (0)) : Option Int) = some (colsOf acc : Int) := by
          cases acc with
          | nil => rfl
          | cons r l => rw [show decide (0 < ((r :: l).length : Int)) = true from decide_eq_true (by simp)]; rfl
        rw [hcols, Option.bind_some, hr, Option.bind_some, q1, q2] at hst
        rw [ev_bind]
        have hle := ev_le' (s := s) (hg acc) hj
        rcases hx : (elem acc).ev s j with ⟨_ | v, j'⟩
        · rw [hx] at hst
          exact ⟨([], (j' : Int), false), lp_out (by rw [← hst]; rfl), rfl, rfl, fun u h => by cases h⟩
        · rw [hx] at hst q3 hle
          rw [q3 v rfl, app_eq (b := 56) (xs := acc) (ys := [v]) (by simp; omega)] at hst
          rw [lp_go hst.symm]
          exact ih (acc ++ [v]) j' n (by simp; omega) (hi acc j v j' hI hx) hle.2 (by omega)
      cases acc with
      | nil =>
        rw [if_pos (show ([] : List Va).length = 0 from rfl)]
        refine key i hi' ?_
        simp only [synthesisref02_list_l1, at_eq, Option.bind_some, e4, decide_eq_false hc, cond_false, e3]
        rfl
      | cons r l =>
        rw [if_neg (by simp), ev_bind]
        have d0 : decide (0 < ((r :: l).length : Int)) = true := decide_eq_true (by simp)
        have hle2 := ev_le' (s := s) (wordP_good (w := [44, 32]) (by decide)) hi'
        have hw := rsep_eq hs hi'
        rcases hy : (wordP [44, 32]).ev s i with ⟨_ | u, j⟩
        · rw [hy] at hw
          refine ⟨([], (j : Int), false), lp_out ?_, rfl, rfl, fun u h => by cases h⟩
          simp only [synthesisref02_list_l1, at_eq, Option.bind_some, e4, decide_eq_false hc, cond_false, e3, d0, cond_true, hw, Option.isSome_none, Bool.not_false, Sum.elim_inr]
        · rw [hy] at hw hle2
          refine key j hle2.2 ?_
          simp only [synthesisref02_list_l1, at_eq, Option.bind_some, e4, decide_eq_false hc, cond_false, e3, d0, cond_true, hw, Option.isSome_some, Bool.not_true, Sum.elim_inl]
theorem el2_eq {s : ByteArray} (hs : s.size ≤ 4000000) (n : Nat) (c : Int) {i : Nat} (hi : i ≤ s.size) : ∃ r, synthesisref02_element (n + 1) s (i : Int) 2 c = some r ∧ qQ (intE.ev s i) r := by
  obtain ⟨v, h1, h2⟩ := integer_eq hs hi
  refine ⟨(v, ((numP.ev s i).2 : Int), (numP.ev s i).1.isSome), ?_, ?_⟩
  · show synthesisref02_element_b (synthesisref02_element n) (synthesisref02_list n) s (i : Int) 2 c = _
    simp only [synthesisref02_element_b, h1, show ((2 : Int) == 2) = true from rfl, cond_true, Option.bind_some]
  · rw [intE_ev]
    refine ⟨rfl, by cases (numP.ev s i).1 <;> rfl, fun u h => ?_⟩
    obtain ⟨m, hm, rfl⟩ := Option.map_eq_some_iff.1 h
    exact h2 m hm
theorem el3_eq {s : ByteArray} (hs : s.size ≤ 4000000) (n : Nat) (c : Int) {i : Nat} (hi : i ≤ s.size) : ∃ r, synthesisref02_element (n + 1) s (i : Int) 3 c = some r ∧ qQ (textE.ev s i) r := by
  have h1 : synthesisref02_quoted s (i : Int) 0 64 false = some (qOut ((textP 0 64).ev s i)) := quoted_eq (least := 0) (most := 64) hs (by decide) hi
  refine ⟨(Va.mk 3 0 (qOut ((textP 0 64).ev s i)).1 [], (((textP 0 64).ev s i).2 : Int), ((textP 0 64).ev s i).1.isSome), ?_, ?_⟩
  · show synthesisref02_element_b (synthesisref02_element n) (synthesisref02_list n) s (i : Int) 3 c = _
    simp only [synthesisref02_element_b, h1, show ((3 : Int) == 2) = false from rfl, show ((3 : Int) == 3) = true from rfl, cond_true, cond_false, Option.bind_some, qOut]
  · rw [textE_ev]
    refine ⟨rfl, by cases ((textP 0 64).ev s i).1 <;> rfl, fun u h => ?_⟩
    obtain ⟨m, hm, rfl⟩ := Option.map_eq_some_iff.1 h
    simp only [qOut, hm, Option.elim_some]
theorem li2_eq {s : ByteArray} (hs : s.size ≤ 4000000) (n : Nat) {i : Nat} (hi : i ≤ s.size) : ∃ r, synthesisref02_list (n + 2) s (i : Int) 2 0 16 93 = some r ∧ qQ ((listP 93 0 (fun _ => intE) 16 []).ev s i) r := by
  obtain ⟨r, h1, h2⟩ := rlist_loop hs (r61 := synthesisref02_element (n + 1)) (a2 := 2) (e := 93) (least := 0) (most := 16) (by omega) (elem := fun _ => intE) (fun _ => intE_good) (fun _ => True) (fun _ _ _ _ _ _ => trivial) (fun i acc hi _ => el2_eq hs n _ hi) 16 [] i fuel rfl trivial hi (lt_fuel (by omega))
  have h1' : loopN (synthesisref02_list_l1 s 2 0 16 93 (synthesisref02_element (n + 1))) fuel ((i : Int), []) = some r := h1
  refine ⟨r, ?_, h2⟩
  show synthesisref02_list_b (synthesisref02_element (n + 1)) (synthesisref02_list (n + 1)) s (i : Int) 2 0 16 93 = _
  simp only [synthesisref02_list_b, h1', Option.bind_some]
theorem li3_eq {s : ByteArray} (hs : s.size ≤ 4000000) (n least most : Nat) (hm : most ≤ 16) {i : Nat} (hi : i ≤ s.size) : ∃ r, synthesisref02_list (n + 2) s (i : Int) 3 (least : Int) (most : Int) 125 = some r ∧ qQ ((listP 125 least (fun _ => textE) most []).ev s i) r := by
  obtain ⟨r, h1, h2⟩ := rlist_loop hs (r61 := synthesisref02_element (n + 1)) (a2 := 3) (e := 125) (least := least) (most := most) hm (elem := fun _ => textE) (fun _ => textE_good) (fun _ => True) (fun _ _ _ _ _ _ => trivial) (fun i acc hi _ => el3_eq hs n _ hi) most [] i fuel (by simp) trivial hi (lt_fuel (by omega))
  refine ⟨r, ?_, h2⟩
  show synthesisref02_list_b (synthesisref02_element (n + 1)) (synthesisref02_list (n + 1)) s (i : Int) 3 (least : Int) (most : Int) 125 = _
  simp only [synthesisref02_list_b, h1, Option.bind_some]
theorem el6_eq' {s : ByteArray} (hs : s.size ≤ 4000000) (n : Nat) (c : Int) (least most : Nat) (hm : most ≤ 16) {i : Nat} (hi : i ≤ s.size)
    (hc : (Option.bind ((bif (c == 0) then (some (1, 8)) else (some (0, 16))) : Option ((Int) × (Int))) fun (v5 : (Int) × (Int)) => ((bif (decide (0 < c)) then (some (c, c)) else (some (v5.1, v5.2))) : Option ((Int) × (Int)))) = some ((least : Int), (most : Int))) :
    ∃ r, synthesisref02_element (n + 3) s (i : Int) 6 c = some r ∧ qQ ((rowG least most).ev s i) r := by
  have hdef : synthesisref02_element (n + 3) s (i : Int) 6 c = synthesisref02_element_b (synthesisref02_element (n + 2)) (synthesisref02_list (n + 2)) s (i : Int) 6 c := rfl
  rw [hdef]
  unfold rowG
  simp only [Pr.ev]
  by_cases h : atI s i = 123
  · rw [if_pos h]
    have hi' : i + 1 ≤ s.size := at_in (by omega)
    obtain ⟨r, h1, q1, q2, q3⟩ := li3_eq hs n least most hm hi'
    simp only [Pr.ev, ev_bind]
    refine ⟨(Va.mk 6 0 ⟨#[]⟩ r.1, r.2.1, r.2.2), ?_, ?_⟩
    · obtain ⟨p, hp1, hp2⟩ : ∃ p, (bif (c == 0) then (some (1, 8)) else (some (0, 16)) : Option ((Int) × (Int))) = some p ∧ (bif (decide (0 < c)) then (some (c, c)) else (some (p.1, p.2)) : Option ((Int) × (Int))) = some ((least : Int), (most : Int)) := by
        cases hz : (c == 0) with
        | true => rw [hz] at hc; exact ⟨_, rfl, hc⟩
        | false => rw [hz] at hc; exact ⟨_, rfl, hc⟩
      have e1 : (atI s i != 123) = false := by rw [h]; rfl
      simp only [synthesisref02_element_b, at_eq, show ((6 : Int) == 2) = false from rfl, show ((6 : Int) == 3) = false from rfl, cond_false, Option.bind_some, e1, hp1, hp2, w64s i (by omega), h1]
    · generalize (listP 125 least (fun _ => textE) most []).ev s (i + 1) = y at q1 q2 q3 ⊢
      obtain ⟨_ | l, j⟩ := y
      · exact ⟨q1, q2, fun u h => by cases h⟩
      · exact ⟨q1, q2, fun u h => by cases h; show Va.mk 6 0 ⟨#[]⟩ r.1 = _; rw [q3 l rfl]⟩
  · rw [if_neg h]
    have e1 : (atI s i != 123) = true := by simpa using h
    refine ⟨(Va.mk 0 0 ⟨#[]⟩ [], (i : Int), false), ?_, rfl, rfl, fun u h => by cases h⟩
    · simp only [synthesisref02_element_b, at_eq, show ((6 : Int) == 2) = false from rfl, show ((6 : Int) == 3) = false from rfl, cond_false, Option.bind_some, e1, cond_true]
theorem el6_eq {s : ByteArray} (hs : s.size ≤ 4000000) (n : Nat) {acc : List Va} (hI : InvR acc) {i : Nat} (hi : i ≤ s.size) : ∃ r, synthesisref02_element (n + 3) s (i : Int) 6 (colsOf acc : Int) = some r ∧ qQ ((rowE acc).ev s i) r := by
  cases acc with
  | nil => exact el6_eq' hs n _ 1 8 (by omega) hi rfl
  | cons r l =>
    have := hI r (List.mem_cons_self ..)
    refine el6_eq' hs n _ r.items.length r.items.length (by omega) hi ?_
    rw [show colsOf (r :: l) = r.items.length from rfl, show ((r.items.length : Int) == 0) = false by simp; intro h; rw [h] at this; simp at this, show decide (0 < (r.items.length : Int)) = true from decide_eq_true (by omega)]
    rfl
theorem li6_eq {s : ByteArray} (hs : s.size ≤ 4000000) (n : Nat) {i : Nat} (hi : i ≤ s.size) : ∃ r, synthesisref02_list (n + 4) s (i : Int) 6 0 8 62 = some r ∧ qQ ((listP 62 0 rowE 8 []).ev s i) r := by
  obtain ⟨r, h1, h2⟩ := rlist_loop hs (r61 := synthesisref02_element (n + 3)) (a2 := 6) (e := 62) (least := 0) (most := 8) (by omega) (elem := rowE) rowE_good InvS (fun acc i v j h he => (InvS_app h he).1) (fun i acc hi hI => el6_eq hs n hI.1 hi) 8 [] i fuel rfl ⟨fun r h => (by cases h), fun r h => (by cases h)⟩ hi (lt_fuel (by omega))
  have h1' : loopN (synthesisref02_list_l1 s 6 0 8 62 (synthesisref02_element (n + 3))) fuel ((i : Int), []) = some r := h1
  refine ⟨r, ?_, h2⟩
  show synthesisref02_list_b (synthesisref02_element (n + 3)) (synthesisref02_list (n + 3)) s (i : Int) 6 0 8 62 = _
  simp only [synthesisref02_list_b, h1', Option.bind_some]
theorem fuel4 : ∃ n, fuel = n + 4 := ⟨18446744073709551612, rfl⟩
theorem map_ev {α β : Type} (s : ByteArray) (f : α → β) (p : Pr α) (i : Nat) : (p.bind fun a => .done (f a)).ev s i = ((p.ev s i).1.map f, (p.ev s i).2) := by
  rw [ev_bind]
  rcases p.ev s i with ⟨_ | a, j⟩ <;> rfl
theorem one_eq {s : ByteArray} (hs : s.size ≤ 4000000) {i : Nat} (hi : i ≤ s.size) : ∃ r, synthesisref02_one s (i : Int) = some r ∧ qQ (oneP.ev s i) r := by
  obtain ⟨n, hn⟩ := fuel4
  unfold oneP synthesisref02_one
  rw [hn, at_eq, Option.bind_some]
  simp only [Pr.ev]
  by_cases h1 : atI s i = 116
  · rw [if_pos h1, show (atI s i == 116) = true by rw [h1]; rfl, cond_true, map_ev, rword_eq hs (w := ⟨#[116, 114, 117, 101]⟩) (by decide) (by decide) hi, show wl (⟨#[116, 114, 117, 101]⟩ : ByteArray) = [116, 114, 117, 101] from rfl]
    exact ⟨_, rfl, rfl, by cases ((wordP [116, 114, 117, 101]).ev s i).1 <;> rfl, fun u h => by obtain ⟨a, _, rfl⟩ := Option.map_eq_some_iff.1 h; rfl⟩
  rw [if_neg h1, show (atI s i == 116) = false by simpa using h1, cond_false]
  by_cases h1 : atI s i = 102
  · rw [if_pos h1, show (atI s i == 102) = true by rw [h1]; rfl, cond_true, map_ev, rword_eq hs (w := ⟨#[102, 97, 108, 115, 101]⟩) (by decide) (by decide) hi, show wl (⟨#[102, 97, 108, 115, 101]⟩ : ByteArray) = [102, 97, 108, 115, 101] from rfl]
    exact ⟨_, rfl, rfl, by cases ((wordP [102, 97, 108, 115, 101]).ev s i).1 <;> rfl, fun u h => by obtain ⟨a, _, rfl⟩ := Option.map_eq_some_iff.1 h; rfl⟩
  rw [if_neg h1, show (atI s i == 102) = false by simpa using h1, cond_false]
  by_cases h1 : atI s i = 34
  · rw [if_pos h1, show (atI s i == 34) = true by rw [h1]; rfl, cond_true]
    obtain ⟨r, hr, hq⟩ := el3_eq hs (n + 3) 0 hi
    exact ⟨r, by rw [hr]; rfl, hq⟩
  rw [if_neg h1, show (atI s i == 34) = false by simpa using h1, cond_false]
  by_cases h1 : atI s i = 114
  · have hi' : i + 1 ≤ s.size := at_in (by omega)
    have hq : synthesisref02_quoted s ((i + 1 : Nat) : Int) 1 40 false = some (qOut ((textP 1 40).ev s (i + 1))) := quoted_eq (least := 1) (most := 40) hs (by decide) hi'
    rw [if_pos h1, show (atI s i == 114) = true by rw [h1]; rfl, cond_true, w64s i (by omega), hq]
    simp only [Pr.ev, map_ev]
    refine ⟨_, rfl, rfl, ?_, fun u h => ?_⟩
    · show ((textP 1 40).ev s (i + 1)).1.isSome = _
      cases ((textP 1 40).ev s (i + 1)).1 <;> rfl
    · obtain ⟨m, hm, rfl⟩ := Option.map_eq_some_iff.1 h
      simp only [qOut, hm, Option.elim_some]
  rw [if_neg h1, show (atI s i == 114) = false by simpa using h1, cond_false]
  by_cases h1 : atI s i = 91
  · have hi' : i + 1 ≤ s.size := at_in (by omega)
    obtain ⟨r, hr, q1, q2, q3⟩ := li2_eq hs (n + 2) hi'
    rw [if_pos h1, show (atI s i == 91) = true by rw [h1]; rfl, cond_true, w64s i (by omega), hr]
    simp only [Pr.ev, map_ev]
    refine ⟨_, rfl, q1, ?_, fun u h => ?_⟩
    · show r.2.2 = _
      rw [q2]
      cases ((listP 93 0 (fun _ => intE) 16 []).ev s (i + 1)).1 <;> rfl
    · obtain ⟨m, hm, rfl⟩ := Option.map_eq_some_iff.1 h
      show Va.mk 5 0 ⟨#[]⟩ r.1 = _
      rw [q3 m hm]
  rw [if_neg h1, show (atI s i == 91) = false by simpa using h1, cond_false]
  by_cases h1 : atI s i = 123
  · have hi' : i + 1 ≤ s.size := at_in (by omega)
    obtain ⟨r, hr, hq⟩ := el6_eq' hs (n + 1) (-1) 0 16 (by omega) hi rfl
    rw [if_pos h1, show (atI s i == 123) = true by rw [h1]; rfl, cond_true, hr]
    refine ⟨r, rfl, ?_⟩
    unfold rowG at hq
    simp only [Pr.ev] at hq ⊢
    rw [if_pos h1] at hq
    exact hq
  rw [if_neg h1, show (atI s i == 123) = false by simpa using h1, cond_false]
  by_cases h1 : atI s i = 60
  · have hi' : i + 1 ≤ s.size := at_in (by omega)
    obtain ⟨r, hr, q1, q2, q3⟩ := li6_eq hs n hi'
    rw [if_pos h1, show (atI s i == 60) = true by rw [h1]; rfl, cond_true, w64s i (by omega), hr]
    simp only [Pr.ev, map_ev]
    refine ⟨_, rfl, q1, ?_, fun u h => ?_⟩
    · show r.2.2 = _
      rw [q2]
      cases ((listP 62 0 rowE 8 []).ev s (i + 1)).1 <;> rfl
    · obtain ⟨m, hm, rfl⟩ := Option.map_eq_some_iff.1 h
      show Va.mk 7 0 ⟨#[]⟩ r.1 = _
      rw [q3 m hm]
  rw [if_neg h1, show (atI s i == 60) = false by simpa using h1, cond_false, Option.bind_some]
  obtain ⟨v, hv, hm⟩ := integer_eq hs hi
  by_cases h2 : atI s i = 48
  · have hi' : i + 1 ≤ s.size := at_in (by omega)
    rw [if_pos h2, show (atI s i != 48) = false by rw [h2]; rfl, cond_false, w64s i (by omega), at_eq, Option.bind_some]
    simp only [Pr.ev]
    by_cases h3 : atI s (i + 1) = 120
    · have hi2 : i + 2 ≤ s.size := at_in (i := i + 1) (by omega)
      have ew2 : w64 ((i : Int) + 2) = ((i + 2 : Nat) : Int) := w64_eq (by omega) (by omega)
      have ew3 : w64 ((i : Int) + 3) = ((i + 3 : Nat) : Int) := w64_eq (by omega) (by omega)
      have ew4 : w64 ((i : Int) + 4) = ((i + 4 : Nat) : Int) := w64_eq (by omega) (by omega)
      rw [if_pos h3, show (atI s (i + 1) != 120) = false by rw [h3]; rfl]
      simp only [Option.bind_some, cond_false, ew2, ew3, ew4, at_eq, (hex_eq s (i + 2)).2, (hex_eq s (i + 3)).2, Pr.ev, map_ev]
      unfold bitsP
      simp only [Pr.ev, show i + 1 + 1 = i + 2 from rfl]
      by_cases h4 : hexV (atI s (i + 2)) < 0
      · rw [if_pos h4, decide_eq_true h4]
        exact ⟨_, rfl, rfl, rfl, fun u h => by cases h⟩
      · rw [if_neg h4, decide_eq_false h4]
        simp only [Pr.ev, cond_false, show i + 2 + 1 = i + 3 from rfl]
        by_cases h5 : hexV (atI s (i + 3)) < 0
        · rw [if_pos h5, decide_eq_true h5]
          exact ⟨_, rfl, rfl, rfl, fun u h => by cases h⟩
        · rw [if_neg h5, decide_eq_false h5]
          have x2 : hexV (atI s (i + 2)) ≤ 15 := by unfold hexV; split <;> (try split) <;> omega
          have x3 : hexV (atI s (i + 3)) ≤ 15 := by unfold hexV; split <;> (try split) <;> omega
          have w1 : w64 (hexV (atI s (i + 2)) * 16) = hexV (atI s (i + 2)) * 16 := w64_eq (by omega) (by omega)
          have w2 : w64 (hexV (atI s (i + 2)) * 16 + hexV (atI s (i + 3))) = hexV (atI s (i + 2)) * 16 + hexV (atI s (i + 3)) := w64_eq (by omega) (by omega)
          rw [w1, w2]
          exact ⟨_, rfl, rfl, rfl, fun u h => by cases h; rfl⟩
    · rw [if_neg h3, show (atI s (i + 1) != 120) = true by simpa using h3, Option.bind_some, cond_true, hv]
      have hx : numP.ev s i = (some 0, i + 1) := by
        unfold numP unsP
        simp only [Pr.ev, h2]
        rw [if_neg (by decide)]
        simp only [Pr.ev, h2]
        rw [if_neg (by simp)]
        simp only [Pr.ev, ev_bind, show (48 : Int) - 48 = 0 from rfl, digits0]
        rfl
      rw [hx] at hm ⊢
      exact ⟨_, rfl, rfl, rfl, fun u h => by cases h; exact hm 0 rfl⟩
  · rw [if_neg h2, show (atI s i != 48) = true by simpa using h2, cond_true, Option.bind_some, cond_true, hv]
    rw [intE_ev]
    refine ⟨_, rfl, rfl, ?_, fun u h => ?_⟩
    · show (numP.ev s i).1.isSome = _
      cases (numP.ev s i).1 <;> rfl
    · obtain ⟨m, hm', rfl⟩ := Option.map_eq_some_iff.1 h
      exact hm m hm'
/-! the program's values -/
def vQ (x : Option Va × Nat) (b : Bool × Int × Int × Int × ByteArray × List Va) : Prop := b.1 = x.1.isSome ∧ b.2.1 = (x.2 : Int) ∧ ∀ u, x.1 = some u → Va.mk b.2.2.1 b.2.2.2.1 b.2.2.2.2.1 b.2.2.2.2.2 = u
theorem ext_list (s : ByteArray) (a b : Nat) : (s.extract a b).data.toList = (s.data.toList.take b).drop a := by
  simp [ByteArray.data_extract, Array.toList_extract, List.drop_take]
theorem two_iff (c : UInt8) : ((⟨#[48, c]⟩ : ByteArray).toList == (⟨#[48, 120]⟩ : ByteArray).toList) = decide ((c.toNat : Int) = 120) := by
  by_cases h : c = 120
  · subst h; rw [decide_eq_true (by rfl)]; simp
  · rw [decide_eq_false, beq_eq_false_iff_ne]
    · intro h'
      have h2 := bytesList_inj h'
      injection h2 with h3
      have h4 := congrArg Array.toList h3
      simp at h4
      exact h h4
    · intro h'
      apply h
      apply UInt8.toNat.inj
      show c.toNat = 120
      omega
theorem prefix_eq {s : ByteArray} (hs : s.size ≤ 4000000) {i : Nat} (hi : i < s.size) (h48 : atI s i = 48) : ∃ r, cutS s (i : Int) (s.size : Int) = some r ∧ strings_HasPrefix r (⟨#[48, 120]⟩ : ByteArray) = some (decide (atI s (i + 1) = 120)) := by
  have hd : (s.extract i s.size).data.toList = s.data.toList.drop i := by
    rw [ext_list, List.take_of_length_le (by rw [← size_list]; exact Nat.le_refl _)]
  generalize hr : s.extract i s.size = r at hd
  refine ⟨r, by unfold cutS; rw [if_pos ⟨by omega, by omega, by omega⟩, ← hr]; rfl, ?_⟩
  have hsz : r.size = s.size - i := by rw [size_list, hd, List.length_drop, ← size_list]
  have h2sz : (⟨#[48, 120]⟩ : ByteArray).size = 2 := rfl
  unfold strings_HasPrefix internal_stringslite_HasPrefix
  rw [h2sz]
  by_cases h2 : i + 2 ≤ s.size
  · have d1 : decide (((2 : Nat) : Int) ≤ (r.size : Int)) = true := decide_eq_true (by omega)
    obtain ⟨b1, b2, b3⟩ := at_lt hi
    obtain ⟨c1, c2, c3⟩ := at_lt (s := s) (i := i + 1) (by omega)
    generalize s.data.toList[i]'(by rw [← size_list]; exact hi) = x at b2 b3
    generalize s.data.toList[i + 1]'(by rw [← size_list]; omega) = y at c2 c3
    have hx : x = 48 := UInt8.toNat.inj (by show x.toNat = 48; omega)
    have hc : cutS r 0 ((2 : Nat) : Int) = some ⟨#[48, y]⟩ := by
      unfold cutS
      rw [if_pos ⟨by omega, by omega, by omega⟩]
      congr 1
      apply ba_ext
      rw [show ((0 : Int).toNat) = 0 from rfl, show (((2 : Nat) : Int).toNat) = 2 from rfl, ext_list, hd, b2, c2, hx]
      rfl
    rw [d1, cond_true, hc, Option.bind_some, two_iff, Option.bind_some, Option.bind_some, c3]
  · have d1 : decide (((2 : Nat) : Int) ≤ (r.size : Int)) = false := decide_eq_false (by omega)
    rw [d1, cond_false, Option.bind_some, Option.bind_some, decide_eq_false]
    rw [at_ge (by omega)]
    decide
theorem value_eq {s : ByteArray} (hs : s.size ≤ 4000000) {i : Nat} (hi : i ≤ s.size) : ∃ b, literal_reader_value_h ⟨s, (i : Int)⟩ = some b ∧ vQ (oneP.ev s i) b := by
  unfold oneP literal_reader_value_h
  rw [peek_eq, Option.bind_some]
  simp only [Pr.ev]
  by_cases h1 : atI s i = 116
  · rw [if_pos h1, show (atI s i == 116) = true by rw [h1]; rfl, cond_true, map_ev, word_eq hs (w := ⟨#[116, 114, 117, 101]⟩) (by decide) (by decide) hi, show wl (⟨#[116, 114, 117, 101]⟩ : ByteArray) = [116, 114, 117, 101] from rfl]
    exact ⟨_, rfl, by cases ((wordP [116, 114, 117, 101]).ev s i).1 <;> rfl, rfl, fun u h => by obtain ⟨a, _, rfl⟩ := Option.map_eq_some_iff.1 h; rfl⟩
  rw [if_neg h1, show (atI s i == 116) = false by simpa using h1, cond_false]
  by_cases h1 : atI s i = 102
  · rw [if_pos h1, show (atI s i == 102) = true by rw [h1]; rfl, cond_true, map_ev, word_eq hs (w := ⟨#[102, 97, 108, 115, 101]⟩) (by decide) (by decide) hi, show wl (⟨#[102, 97, 108, 115, 101]⟩ : ByteArray) = [102, 97, 108, 115, 101] from rfl]
    exact ⟨_, rfl, by cases ((wordP [102, 97, 108, 115, 101]).ev s i).1 <;> rfl, rfl, fun u h => by obtain ⟨a, _, rfl⟩ := Option.map_eq_some_iff.1 h; rfl⟩
  rw [if_neg h1, show (atI s i == 102) = false by simpa using h1, cond_false]
  by_cases h1 : atI s i = 34
  · have hq : literal_reader_text_h ⟨s, (i : Int)⟩ 0 64 = some (tOut ((textP 0 64).ev s i)) := text_eq (least := 0) (most := 64) hs (by decide) hi
    rw [if_pos h1, show (atI s i == 34) = true by rw [h1]; rfl, cond_true, hq, textE_ev]
    refine ⟨_, rfl, by show ((textP 0 64).ev s i).1.isSome = _; cases ((textP 0 64).ev s i).1 <;> rfl, rfl, fun u h => ?_⟩
    obtain ⟨m, hm, rfl⟩ := Option.map_eq_some_iff.1 h
    simp only [tOut, hm, Option.elim_some]
  rw [if_neg h1, show (atI s i == 34) = false by simpa using h1, cond_false]
  by_cases h1 : atI s i = 114
  · have hi' : i + 1 ≤ s.size := at_in (by omega)
    have hq : literal_reader_text_h ⟨s, ((i + 1 : Nat) : Int)⟩ 1 40 = some (tOut ((textP 1 40).ev s (i + 1))) := text_eq (least := 1) (most := 40) hs (by decide) hi'
    rw [if_pos h1, show (atI s i == 114) = true by rw [h1]; rfl, cond_true, w64s i (by omega), hq]
    simp only [Pr.ev, map_ev]
    refine ⟨_, rfl, by show ((textP 1 40).ev s (i + 1)).1.isSome = _; cases ((textP 1 40).ev s (i + 1)).1 <;> rfl, rfl, fun u h => ?_⟩
    obtain ⟨m, hm, rfl⟩ := Option.map_eq_some_iff.1 h
    simp only [tOut, hm, Option.elim_some]
  rw [if_neg h1, show (atI s i == 114) = false by simpa using h1, cond_false]
  by_cases h1 : atI s i = 91
  · obtain ⟨r, hr, q1, q2, q3⟩ := list_eq hs hi h1
    rw [if_pos h1, show (atI s i == 91) = true by rw [h1]; rfl, cond_true, hr]
    simp only [Pr.ev, map_ev]
    refine ⟨_, rfl, ?_, q2, fun u h => ?_⟩
    · show r.2.1 = _
      rw [q1]
      cases ((listP 93 0 (fun _ => intE) 16 []).ev s (i + 1)).1 <;> rfl
    · obtain ⟨m, hm, rfl⟩ := Option.map_eq_some_iff.1 h
      show Va.mk 5 0 ⟨#[]⟩ r.1 = _
      rw [q3 m hm]
  rw [if_neg h1, show (atI s i == 91) = false by simpa using h1, cond_false]
  by_cases h1 : atI s i = 123
  · obtain ⟨r, hr, q1, q2, q3⟩ := list2_eq hs hi h1
    rw [if_pos h1, show (atI s i == 123) = true by rw [h1]; rfl, cond_true, hr]
    simp only [Pr.ev, map_ev]
    refine ⟨_, rfl, ?_, q2, fun u h => ?_⟩
    · show r.2.1 = _
      rw [q1]
      cases ((listP 125 0 (fun _ => textE) 16 []).ev s (i + 1)).1 <;> rfl
    · obtain ⟨m, hm, rfl⟩ := Option.map_eq_some_iff.1 h
      show Va.mk 6 0 ⟨#[]⟩ r.1 = _
      rw [q3 m hm]
  rw [if_neg h1, show (atI s i == 123) = false by simpa using h1, cond_false]
  by_cases h1 : atI s i = 60
  · obtain ⟨r, hr, q1, q2, q3⟩ := list3_eq hs hi h1
    rw [if_pos h1, show (atI s i == 60) = true by rw [h1]; rfl, cond_true, literal_reader_rows_h, Option.bind_some, hr]
    simp only [Pr.ev, map_ev]
    refine ⟨_, rfl, ?_, q2, fun u h => ?_⟩
    · show r.2.1 = _
      rw [q1]
      cases ((listP 62 0 rowE 8 []).ev s (i + 1)).1 <;> rfl
    · obtain ⟨m, hm, rfl⟩ := Option.map_eq_some_iff.1 h
      show Va.mk 7 0 ⟨#[]⟩ r.1 = _
      rw [q3 m hm]
  rw [if_neg h1, show (atI s i == 60) = false by simpa using h1, cond_false]
  have hv := number_eq hs hi
  by_cases h2 : atI s i = 48
  · have hi' : i + 1 ≤ s.size := at_in (by omega)
    obtain ⟨r, hr, hp⟩ := prefix_eq hs hi' h2
    rw [if_pos h2, show (atI s i == 48) = true by rw [h2]; rfl, cond_true, hr, Option.bind_some, hp, Option.bind_some]
    simp only [Pr.ev]
    by_cases h3 : atI s (i + 1) = 120
    · have hi2 : i + 2 ≤ s.size := at_in (i := i + 1) (by omega)
      rw [if_pos h3, decide_eq_true h3, bits_eq hs hi2]
      simp only [Pr.ev, map_ev, show i + 1 + 1 = i + 2 from rfl]
      refine ⟨_, rfl, by show (bitsP.ev s (i + 2)).1.isSome = _; cases (bitsP.ev s (i + 2)).1 <;> rfl, rfl, fun u h => ?_⟩
      obtain ⟨m, hm, rfl⟩ := Option.map_eq_some_iff.1 h
      simp only [hm, Option.elim_some, Option.getD_some]
    · rw [if_neg h3, decide_eq_false h3, cond_false, Option.bind_some, Sum.elim_inl, hv]
      have hx : numP.ev s i = (some 0, i + 1) := by
        unfold numP unsP
        simp only [Pr.ev, h2]
        rw [if_neg (by decide)]
        simp only [Pr.ev, h2]
        rw [if_neg (by simp)]
        simp only [Pr.ev, ev_bind, show (48 : Int) - 48 = 0 from rfl, digits0]
        rfl
      rw [hx]
      exact ⟨_, rfl, rfl, rfl, fun u h => by cases h; rfl⟩
  · rw [if_neg h2, show (atI s i == 48) = false by simpa using h2, cond_false, Option.bind_some, Sum.elim_inl, hv, intE_ev]
    refine ⟨_, rfl, by show (numP.ev s i).1.isSome = _; cases (numP.ev s i).1 <;> rfl, rfl, fun u h => ?_⟩
    obtain ⟨m, hm', rfl⟩ := Option.map_eq_some_iff.1 h
    simp only [nOut, hm', Option.getD_some]
/-! the law -/
theorem leaf_ok {v : Va} (h : leafV v) : depV v ≤ 1 ∧ wideV 9223372036854775807 v := by
  obtain ⟨t, n, s, l⟩ := v
  obtain rfl : l = [] := h.1
  exact ⟨depV_le fun y hy => (by cases hy), by simp [wideV, wideVs]⟩
theorem wide_of {v : Va} (h1 : v.items.length ≤ 9223372036854775807) (h2 : ∀ x ∈ v.items, wideV 9223372036854775807 x) : wideV 9223372036854775807 v := by
  obtain ⟨t, n, s, l⟩ := v
  have gen : ∀ l : List Va, (∀ x ∈ l, wideV 9223372036854775807 x) → wideVs 9223372036854775807 l := fun l => by
    induction l with
    | nil => exact fun _ => trivial
    | cons y l ih => exact fun h => ⟨h y (List.mem_cons_self ..), ih fun z hz => h z (List.mem_cons_of_mem _ hz)⟩
  exact ⟨h1, gen l h2⟩
theorem lst_ok {v : Va} (h : lstV v) : depV v ≤ 2 ∧ wideV 9223372036854775807 v := ⟨depV_le fun y hy => (leaf_ok (h.2.2 y hy)).1, wide_of (by have := h.1; omega) fun x hx => (leaf_ok (h.2.2 x hx)).2⟩
theorem okV_one : oneP.all okV := by
  have lf : ∀ v, leafV v → okV v := fun v h => ⟨by have := (leaf_ok h).1; omega, (leaf_ok h).2⟩
  have ls : ∀ v, lstV v → okV v := fun v h => ⟨by have := (lst_ok h).1; omega, (lst_ok h).2⟩
  have leaf0 : ∀ t n, okV (Va.mk t n ⟨#[]⟩ []) := fun t n => lf _ ⟨rfl, Nat.zero_le _⟩
  have lists : ∀ (t e : Int) (elem : List Va → Pr Va), (∀ acc, (elem acc).all leafV) → ((listP e 0 elem 16 []).bind fun l => .done (Va.mk t 0 ⟨#[]⟩ l)).all okV := fun t e elem hel => by
    refine all_bind (fun l hl => ?_) _ (list_all (P := leafV) (I := fun l => ∀ x ∈ l, leafV x) (fun acc v ha hv x hx => ?_) (fun _ _ => hel _) 16 [] (by simp))
    · show okV _
      exact ls _ ⟨by have := hl.2.2; simp at this; show l.length ≤ 16; omega, Nat.zero_le _, hl.1⟩
    · rcases List.mem_append.1 hx with hx | hx
      · exact ha x hx
      · rw [List.mem_singleton.1 hx]; exact hv
  unfold oneP
  intro c
  dsimp only
  repeat' split
  · exact all_bind (P := fun _ => True) (Q := okV) (fun _ _ => by show okV _; exact leaf0 _ _) _ (all_true _)
  · exact all_bind (P := fun _ => True) (Q := okV) (fun _ _ => by show okV _; exact leaf0 _ _) _ (all_true _)
  · exact all_mono lf _ textE_all
  · exact all_bind (P := fun l => 1 ≤ l.length ∧ l.length ≤ 40) (Q := okV) (fun l hl => by show okV _; exact lf _ ⟨rfl, by rw [show (Va.mk 8 0 (toBA l) []).text = toBA l from rfl, toBA_size]; omega⟩) _ (text_all 1 40)
  · exact lists 5 93 _ fun _ => intE_all
  · exact lists 6 125 _ fun _ => textE_all
  · refine all_bind (fun l hl => ?_) _ (list_all (P := fun v => lstV v ∧ 1 ≤ v.items.length ∧ v.items.length ≤ 8) (I := fun l => InvR l ∧ ∀ x ∈ l, lstV x) (fun acc v ha hv => ⟨InvR_app ha.1 hv.2, fun x hx => ?_⟩) (fun acc h => rowE_all h.1) 8 [] ⟨fun r h => (by cases h), fun r h => (by cases h)⟩)
    · show okV _
      refine ⟨by have := depV_le (x := Va.mk 7 0 ⟨#[]⟩ l) (k := 2) fun y hy => (lst_ok (hl.1.2 y hy)).1; omega, wide_of (by have := hl.2.2; simp at this; show l.length ≤ _; omega) fun x hx => (lst_ok (hl.1.2 x hx)).2⟩
    · rcases List.mem_append.1 hx with hx | hx
      · exact ha.2 x hx
      · rw [List.mem_singleton.1 hx]; exact hv.1
  · intro d
    dsimp only
    split
    · exact all_bind (P := fun _ => True) (Q := okV) (fun _ _ => by show okV _; exact leaf0 _ _) _ (all_true _)
    · exact leaf0 _ _
  · exact all_mono lf _ intE_all
theorem awake02 : synthesislaw02_awake_h = some true := by kernel_rfl
end Go.Proofs.YtijkipikefpopaaDoor
set_option linter.unusedVariables false
set_option linter.unusedSimpArgs false
set_option maxRecDepth 10000
namespace Go.Proofs.YtijkipikefpopaaDoor
open Go Go.RowKit

theorem Equal_self {v : Va} (h : okV v) : synthesisref01_Equal v v = some true := by rw [ref_Equal_eq h h, eqV_self]
end Go.Proofs.YtijkipikefpopaaDoor
