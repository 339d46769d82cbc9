/- LiteralBack. -/
import Derived.Test.YtijkipikefpopaaDoorRj
import Derived.Test.YtijkipikefpopaaDoorRk
set_option linter.unusedVariables false
set_option linter.unusedSimpArgs false
set_option maxRecDepth 100000
namespace Go.Proofs.YtijkipikefpopaaDoor
open Go Go.RowKit

theorem parse_show {x : Va} (h : valOk x) : literal_Parse (mkB (showV x)) = some (x, 0, 0) ∧ okV x := by
  have hl := (okW_val h 0 0).2.2
  have he := show_ev h
  have hp : prV (mkB (showV x)) = (x, 0, 0) := by
    rcases prV_eq (mkB (showV x)) with ⟨v, hv, hp⟩ | ⟨hp, hv⟩
    · rw [he] at hv
      cases hv
      exact hp
    · rw [he] at hv
      rcases hv with hv | hv
      · cases hv
      · exact absurd hv (Nat.lt_irrefl _)
  refine ⟨by rw [Parse_eq (by rw [mkB_size]; omega), hp], ?_⟩
  have := prV_ok (mkB (showV x))
  rw [hp] at this
  exact this
theorem show_inj {x y : Va} (hx : valOk x) (hy : valOk y) (h : showV x = showV y) : x = y := by
  have h1 := (parse_show hx).1
  have h2 := (parse_show hy).1
  rw [h, h2] at h1
  cases h1
  rfl
theorem toList_mk {a b : List UInt8} : ((mkB a).toList == (mkB b).toList) = decide (a = b) := by
  by_cases h : a = b
  · rw [h, decide_eq_true rfl]; simp
  · rw [decide_eq_false h, beq_eq_false_iff_ne]
    intro h'
    have := congrArg (fun s : ByteArray => s.data.toList) (bytesList_inj h')
    simp only [mkB_data] at this
    exact h this
theorem allE_run (s : ByteArray) : ∀ (k : Nat) (acc : List Va) (i : Nat), i ≤ s.size → allL k acc (s.data.toList.drop i) = ((allE s k acc i).1, s.data.toList.drop (allE s k acc i).2)
  | 0, acc, i, _ => by unfold allL allE; rfl
  | k + 1, acc, i, hi => by
    have he := ev_run s oneP i
    have hle := ev_le' (s := s) oneP_good hi
    unfold allL allE
    rw [he]
    rcases hx : oneP.ev s i with ⟨_ | v, j⟩
    · rfl
    · rw [hx] at hle
      have hj : j ≤ s.size := hle.2
      show (if s.data.toList.drop j = [] then (some (acc ++ [v]), []) else _) = ((restE s k (acc ++ [v]) j).1, s.data.toList.drop (restE s k (acc ++ [v]) j).2)
      unfold restE
      have hd : s.data.toList.drop j = [] ↔ j = s.size := by
        rw [List.drop_eq_nil_iff, ← size_list]
        omega
      by_cases h : j = s.size
      · rw [if_pos (hd.2 h), if_pos h, hd.2 h]
      · rw [if_neg (fun h' => h (hd.1 h')), if_neg h]
        have hw := ev_run s (wordP [44, 32]) j
        have hle2 := ev_le' (s := s) (wordP_good (w := [44, 32]) (by decide)) hj
        rw [hw]
        rcases hy : (wordP [44, 32]).ev s j with ⟨_ | u, j'⟩
        · rfl
        · rw [hy] at hle2
          exact allE_run s k (acc ++ [v]) j' hle2.2
theorem seps_two (l : List Va) : 2 * l.length ≤ (sepsB showV l).length := by
  induction l with
  | nil => exact Nat.zero_le _
  | cons v l ih =>
    rw [seps_cons]
    simp only [List.length_append, List.length_cons, List.length_nil]
    omega
theorem parseAll_show {v : Va} {l : List Va} (hl : l.length ≤ 1000) (hb : (joinB ((v :: l).map showV)).length ≤ 4000000) (h : ∀ x ∈ v :: l, valOk x) (hne : joinB ((v :: l).map showV) ≠ []) : literal_ParseAll (mkB (joinB ((v :: l).map showV))) = some (v :: l, 0, 0) := by
  have hsz := mkB_size (joinB ((v :: l).map showV))
  rw [ParseAll_eq (by omega), if_neg (by rw [hsz]; exact fun h0 => hne (List.eq_nil_of_length_eq_zero h0))]
  have hr := allE_run (mkB (joinB ((v :: l).map showV))) ((mkB (joinB ((v :: l).map showV))).size + 1) [] 0 (Nat.zero_le _)
  rw [List.drop_zero, mkB_data] at hr
  have h2 := seps_two l
  have hjl : (sepsB showV l).length ≤ (joinB ((v :: l).map showV)).length := by rw [joinB_cons, List.length_append]; omega
  have ha := all_run ((mkB (joinB ((v :: l).map showV))).size + 1) [] l v (by omega) h
  rw [← joinB_cons showV l v] at ha
  rw [ha] at hr
  have h1 := congrArg Prod.fst hr
  simp only [List.nil_append] at h1
  generalize allE (mkB (joinB ((v :: l).map showV))) ((mkB (joinB ((v :: l).map showV))).size + 1) [] 0 = y at h1
  obtain ⟨y1, y2⟩ := y
  simp only at h1
  subst h1
  rfl
theorem unquote_quote {s : ByteArray} (hs : s.size ≤ 1000) : literal_Unquote (mkB (quoteB s.data.toList)) = some (s, 0, 0) := by
  have hl := quoteB_len s.data.toList
  rw [← size_list] at hl
  have hsz := mkB_size (quoteB s.data.toList)
  rw [Unquote_eq (by omega)]
  have e0 : atI (mkB (quoteB s.data.toList)) 0 = 34 := by
    unfold atI
    rw [List.drop_zero, mkB_data]
    rfl
  have hd : (mkB (quoteB s.data.toList)).data.toList.drop 1 = s.data.toList.flatMap escB ++ (34 :: []) := by rw [mkB_data]; rfl
  have hlen : s.data.toList.length < (mkB (quoteB s.data.toList)).size + 1 := by
    rw [hsz]
    have gen : ∀ l : List UInt8, l.length ≤ (l.flatMap escB).length := fun l => by
      induction l with
      | nil => exact Nat.le_refl _
      | cons c l ih =>
        rw [List.flatMap_cons, List.length_append, List.length_cons]
        have : 1 ≤ (escB c).length := by unfold escB; split <;> (try split) <;> simp
        omega
    have := gen s.data.toList
    unfold quoteB
    simp only [List.length_cons, List.length_append, List.length_nil]
    omega
  have hr := unq_run [] s.data.toList ((mkB (quoteB s.data.toList)).size + 1) [] hlen
  have he := ev_run (mkB (quoteB s.data.toList)) (unqP ((mkB (quoteB s.data.toList)).size + 1) []) 1
  rw [hd, hr] at he
  have h1 := congrArg Prod.fst he
  have h2 := congrArg Prod.snd he
  simp only [List.nil_append] at h1 h2
  unfold unqT
  simp only [Pr.ev]
  rw [if_pos e0]
  simp only [Pr.ev]
  generalize (unqP ((mkB (quoteB s.data.toList)).size + 1) []).ev (mkB (quoteB s.data.toList)) (0 + 1) = y at h1 h2
  obtain ⟨y1, y2⟩ := y
  simp only at h1 h2
  subst h1
  unfold uOut
  simp only
  rw [if_neg]
  · rw [toBA_map]
  · have := List.drop_eq_nil_iff.1 h2.symm
    rw [← size_list] at this
    omega
theorem law_LiteralBack (a0 : List Va) (a1 : ByteArray) (h0 : a0.length ≤ 9223372036854775807 ∧ ∀ x ∈ a0, inV x) (h1 : a1.size ≤ 9223372036854775807) : synthesislaw02_LiteralBack_h a0 a1 = some true := by
  obtain ⟨b, hb, hb30⟩ := smalls_some h0.2 h0.1
  unfold synthesislaw02_LiteralBack_h
  rw [hb, awake02, Option.bind_some]
  cases b with
  | false => rfl
  | true =>
    have h30 := hb30 rfl
    by_cases g1 : (a0.length : Int) < 2
    · rw [decide_eq_true g1]; rfl
    by_cases g2 : (1000 : Int) < (a1.size : Int)
    · rw [decide_eq_false g1, decide_eq_true g2]; rfl
    obtain ⟨v, w, l, rfl⟩ : ∃ v w l, a0 = v :: w :: l := by
      match a0 with
      | [] => exact absurd (by decide) g1
      | [_] => exact absurd (by simp) g1
      | v :: w :: l => exact ⟨v, w, l, rfl⟩
    have hv := h0.2 v (List.mem_cons_self ..)
    have hw := h0.2 w (List.mem_cons_of_mem _ (List.mem_cons_self ..))
    have i0 : idx (v :: w :: l) 0 = some v := rfl
    have i1 : idx (v :: w :: l) 1 = some w := rfl
    -- the first part
    have part1 : ∃ p q : ByteArray × Int, literal_Print_h v = some p ∧ literal_Print_h w = some q ∧ (Option.bind ((bif (p.2 == 0) then (Option.bind (literal_Parse (p.1)) fun v9 => (Option.bind ((bif (v9.2.2 != 0) then (some (true)) else (Option.bind (synthesisref01_Equal (v9.1) v) fun v10 => (bif (!v10) then (some (true)) else (bif (q.2 == 0) then (Option.bind (synthesisref01_Equal v w) fun v11 => (some ((!((p.1.toList == q.1.toList) == v11))))) else (some (false)))))) : Option ((Bool))) fun (v13 : (Bool)) => (bif v13 then (some (.inr ())) else (some (.inl ()))))) else (some (.inl ()))) : Option (((Unit) ⊕ (Unit)))) some) = some (.inl ()) := by
      rcases Print_eq hv with ⟨c, hc, e1, _⟩ | ⟨e1, _, ov⟩
      · have : (c == 0) = false := by simpa using hc
        rcases Print_eq hw with ⟨d, _, f1, _⟩ | ⟨f1, _, _⟩
        · exact ⟨_, _, e1, f1, by simp only [this, cond_false, Option.bind_some]⟩
        · exact ⟨_, _, e1, f1, by simp only [this, cond_false, Option.bind_some]⟩
      · obtain ⟨pv, kv⟩ := parse_show ov
        have ev : synthesisref01_Equal v v = some true := Equal_self kv
        rcases Print_eq hw with ⟨d, hd, f1, _⟩ | ⟨f1, _, ow⟩
        · have : (d == 0) = false := by simpa using hd
          exact ⟨_, _, e1, f1, by simp only [beq_self_eq_true, cond_true, pv, Option.bind_some, bne_self_eq_false, cond_false, ev, Bool.not_true, this]⟩
        · obtain ⟨pw, kw⟩ := parse_show ow
          have hq : decide (showV v = showV w) = eqV v w := by
            cases h : eqV v w with
            | true => rw [eqV_iff.1 h, decide_eq_true rfl]
            | false => exact decide_eq_false fun h' => by rw [show_inj ov ow h', eqV_self] at h; cases h
          exact ⟨_, _, e1, f1, by simp only [beq_self_eq_true, cond_true, pv, Option.bind_some, bne_self_eq_false, cond_false, ev, Bool.not_true, ref_Equal_eq kv kw, toList_mk, hq]⟩
    obtain ⟨p, q, e1, e2, e3⟩ := part1
    have part2 : ∃ p : ByteArray × Int, literal_PrintAll_h (v :: w :: l) = some p ∧ (Option.bind ((bif (p.2 == 0) then (Option.bind (literal_ParseAll (p.1)) fun v17 => (Option.bind ((bif (v17.2.2 != 0) then (some (true)) else (Option.bind (synthesislaw02_same (v17.1) (v :: w :: l)) fun v18 => (some ((!v18))))) : Option ((Bool))) fun (v20 : (Bool)) => (bif v20 then (some (.inr ())) else (some (.inl ()))))) else (some (.inl ()))) : Option (((Unit) ⊕ (Unit)))) some) = some (.inl ()) := by
      rcases PrintAll_eq (l := v :: w :: l) (by omega) h0.2 with ⟨c, hc, f1, _⟩ | ⟨f1, _, hok⟩
      · have : (c == 0) = false := by simpa using hc
        exact ⟨_, f1, by simp only [this, cond_false, Option.bind_some]⟩
      · have hall : ∀ x ∈ v :: w :: l, valOk x := fun x hx => (hok x hx).1
        obtain ⟨_, _, hbl⟩ := written (l := v :: w :: l) (by omega) hall
        have hbm : (v :: w :: l).length * 60002 ≤ 30 * 60002 := Nat.mul_le_mul_right _ h30
        have hne : joinB ((v :: w :: l).map showV) ≠ [] := by
          rw [joinB_cons, seps_cons]
          intro h
          have := congrArg List.length h
          simp only [List.length_append, List.length_cons, List.length_nil] at this
          omega
        have hp := parseAll_show (v := v) (l := w :: l) (by simp only [List.length_cons] at h30 ⊢; omega) (by omega) hall hne
        have hs := same_self (l := v :: w :: l) (by omega) fun x hx => (parse_show (hall x hx)).2
        exact ⟨_, f1, by simp only [beq_self_eq_true, cond_true, hp, Option.bind_some, bne_self_eq_false, cond_false, hs, Bool.not_true]⟩
    obtain ⟨p2, e4, e5⟩ := part2
    have ob : ∀ {α : Type} (o : Option α), Option.bind o some = o := fun o => by cases o <;> rfl
    rw [ob] at e3 e5
    have hq := Quote_eq (s := a1) (by omega)
    have hu := unquote_quote (s := a1) (by omega)
    rw [decide_eq_false g1, decide_eq_false g2]
    simp only [Bool.not_true, cond_false, Option.bind_some, i0, i1, e1, e2, e3, Sum.elim_inl, e4, e5, hq, hu, beq_self_eq_true, cond_true]
end Go.Proofs.YtijkipikefpopaaDoor
