/- LiteralParses, LiteralFaults. -/
import Derived.Test.YtijkipikefpopaaDoorRb
set_option linter.unusedVariables false
set_option linter.unusedSimpArgs false
set_option maxRecDepth 10000
namespace Go.Proofs.YtijkipikefpopaaDoor
open Go Go.RowKit

theorem map_ev {α β : Type} (s : ByteArray) (f : α → β) (p : Pr α) (i : Nat) : (p.bind fun a => .done (f a)).ev s i = ((p.ev s i).1.map f, (p.ev s i).2) := by
  rw [ev_bind]
  rcases p.ev s i with ⟨_ | a, j⟩ <;> rfl
/-! the program's values -/
def vQ (x : Option Va × Nat) (b : Bool × Int × Int × Int × ByteArray × List Va) : Prop := b.1 = x.1.isSome ∧ b.2.1 = (x.2 : Int) ∧ ∀ u, x.1 = some u → Va.mk b.2.2.1 b.2.2.2.1 b.2.2.2.2.1 b.2.2.2.2.2 = u
theorem ext_list (s : ByteArray) (a b : Nat) : (s.extract a b).data.toList = (s.data.toList.take b).drop a := by
  simp [ByteArray.data_extract, Array.toList_extract, List.drop_take]
theorem two_iff (c : UInt8) : ((⟨#[48, c]⟩ : ByteArray).toList == (⟨#[48, 120]⟩ : ByteArray).toList) = decide ((c.toNat : Int) = 120) := by
  by_cases h : c = 120
  · subst h; rw [decide_eq_true (by rfl)]; simp
  · rw [decide_eq_false, beq_eq_false_iff_ne]
    · intro h'
      have h2 := bytesList_inj h'
      injection h2 with h3
      have h4 := congrArg Array.toList h3
      simp at h4
      exact h h4
    · intro h'
      apply h
      apply UInt8.toNat.inj
      show c.toNat = 120
      omega
theorem prefix_eq {s : ByteArray} (hs : s.size ≤ 4000000) {i : Nat} (hi : i < s.size) (h48 : atI s i = 48) : ∃ r, cutS s (i : Int) (s.size : Int) = some r ∧ strings_HasPrefix r (⟨#[48, 120]⟩ : ByteArray) = some (decide (atI s (i + 1) = 120)) := by
  have hd : (s.extract i s.size).data.toList = s.data.toList.drop i := by
    rw [ext_list, List.take_of_length_le (by rw [← size_list]; exact Nat.le_refl _)]
  generalize hr : s.extract i s.size = r at hd
  refine ⟨r, by unfold cutS; rw [if_pos ⟨by omega, by omega, by omega⟩, ← hr]; rfl, ?_⟩
  have hsz : r.size = s.size - i := by rw [size_list, hd, List.length_drop, ← size_list]
  have h2sz : (⟨#[48, 120]⟩ : ByteArray).size = 2 := rfl
  unfold strings_HasPrefix internal_stringslite_HasPrefix
  rw [h2sz]
  by_cases h2 : i + 2 ≤ s.size
  · have d1 : decide (((2 : Nat) : Int) ≤ (r.size : Int)) = true := decide_eq_true (by omega)
    obtain ⟨b1, b2, b3⟩ := at_lt hi
    obtain ⟨c1, c2, c3⟩ := at_lt (s := s) (i := i + 1) (by omega)
    generalize s.data.toList[i]'(by rw [← size_list]; exact hi) = x at b2 b3
    generalize s.data.toList[i + 1]'(by rw [← size_list]; omega) = y at c2 c3
    have hx : x = 48 := UInt8.toNat.inj (by show x.toNat = 48; omega)
    have hc : cutS r 0 ((2 : Nat) : Int) = some ⟨#[48, y]⟩ := by
      unfold cutS
      rw [if_pos ⟨by omega, by omega, by omega⟩]
      congr 1
      apply ba_ext
      rw [show ((0 : Int).toNat) = 0 from rfl, show (((2 : Nat) : Int).toNat) = 2 from rfl, ext_list, hd, b2, c2, hx]
      rfl
    rw [d1, cond_true, hc, Option.bind_some, two_iff, Option.bind_some, Option.bind_some, c3]
  · have d1 : decide (((2 : Nat) : Int) ≤ (r.size : Int)) = false := decide_eq_false (by omega)
    rw [d1, cond_false, Option.bind_some, Option.bind_some, decide_eq_false]
    rw [at_ge (by omega)]
    decide
theorem value_eq {s : ByteArray} (hs : s.size ≤ 4000000) {i : Nat} (hi : i ≤ s.size) : ∃ b, literal_reader_value_h ⟨s, (i : Int)⟩ = some b ∧ vQ (oneP.ev s i) b := by
  unfold oneP literal_reader_value_h
  rw [peek_eq, Option.bind_some]
  simp only [Pr.ev]
  by_cases h1 : atI s i = 116
  · rw [if_pos h1, show (atI s i == 116) = true by rw [h1]; rfl, cond_true, map_ev, word_eq hs (w := ⟨#[116, 114, 117, 101]⟩) (by decide) (by decide) hi, show wl (⟨#[116, 114, 117, 101]⟩ : ByteArray) = [116, 114, 117, 101] from rfl]
    exact ⟨_, rfl, by cases ((wordP [116, 114, 117, 101]).ev s i).1 <;> rfl, rfl, fun u h => by obtain ⟨a, _, rfl⟩ := Option.map_eq_some_iff.1 h; rfl⟩
  rw [if_neg h1, show (atI s i == 116) = false by simpa using h1, cond_false]
  by_cases h1 : atI s i = 102
  · rw [if_pos h1, show (atI s i == 102) = true by rw [h1]; rfl, cond_true, map_ev, word_eq hs (w := ⟨#[102, 97, 108, 115, 101]⟩) (by decide) (by decide) hi, show wl (⟨#[102, 97, 108, 115, 101]⟩ : ByteArray) = [102, 97, 108, 115, 101] from rfl]
    exact ⟨_, rfl, by cases ((wordP [102, 97, 108, 115, 101]).ev s i).1 <;> rfl, rfl, fun u h => by obtain ⟨a, _, rfl⟩ := Option.map_eq_some_iff.1 h; rfl⟩
  rw [if_neg h1, show (atI s i == 102) = false by simpa using h1, cond_false]
  by_cases h1 : atI s i = 34
  · have hq : literal_reader_text_h ⟨s, (i : Int)⟩ 0 64 = some (tOut ((textP 0 64).ev s i)) := text_eq (least := 0) (most := 64) hs (by decide) hi
    rw [if_pos h1, show (atI s i == 34) = true by rw [h1]; rfl, cond_true, hq, textE_ev]
    refine ⟨_, rfl, by show ((textP 0 64).ev s i).1.isSome = _; cases ((textP 0 64).ev s i).1 <;> rfl, rfl, fun u h => ?_⟩
    obtain ⟨m, hm, rfl⟩ := Option.map_eq_some_iff.1 h
    simp only [tOut, hm, Option.elim_some]
  rw [if_neg h1, show (atI s i == 34) = false by simpa using h1, cond_false]
  by_cases h1 : atI s i = 114
  · have hi' : i + 1 ≤ s.size := at_in (by omega)
    have hq : literal_reader_text_h ⟨s, ((i + 1 : Nat) : Int)⟩ 1 40 = some (tOut ((textP 1 40).ev s (i + 1))) := text_eq (least := 1) (most := 40) hs (by decide) hi'
    rw [if_pos h1, show (atI s i == 114) = true by rw [h1]; rfl, cond_true, w64s i (by omega), hq]
    simp only [Pr.ev, map_ev]
    refine ⟨_, rfl, by show ((textP 1 40).ev s (i + 1)).1.isSome = _; cases ((textP 1 40).ev s (i + 1)).1 <;> rfl, rfl, fun u h => ?_⟩
    obtain ⟨m, hm, rfl⟩ := Option.map_eq_some_iff.1 h
    simp only [tOut, hm, Option.elim_some]
  rw [if_neg h1, show (atI s i == 114) = false by simpa using h1, cond_false]
  by_cases h1 : atI s i = 91
  · obtain ⟨r, hr, q1, q2, q3⟩ := list_eq hs hi h1
    rw [if_pos h1, show (atI s i == 91) = true by rw [h1]; rfl, cond_true, hr]
    simp only [Pr.ev, map_ev]
    refine ⟨_, rfl, ?_, q2, fun u h => ?_⟩
    · show r.2.1 = _
      rw [q1]
      cases ((listP 93 0 (fun _ => intE) 16 []).ev s (i + 1)).1 <;> rfl
    · obtain ⟨m, hm, rfl⟩ := Option.map_eq_some_iff.1 h
      show Va.mk 5 0 ⟨#[]⟩ r.1 = _
      rw [q3 m hm]
  rw [if_neg h1, show (atI s i == 91) = false by simpa using h1, cond_false]
  by_cases h1 : atI s i = 123
  · obtain ⟨r, hr, q1, q2, q3⟩ := list2_eq hs hi h1
    rw [if_pos h1, show (atI s i == 123) = true by rw [h1]; rfl, cond_true, hr]
    simp only [Pr.ev, map_ev]
    refine ⟨_, rfl, ?_, q2, fun u h => ?_⟩
    · show r.2.1 = _
      rw [q1]
      cases ((listP 125 0 (fun _ => textE) 16 []).ev s (i + 1)).1 <;> rfl
    · obtain ⟨m, hm, rfl⟩ := Option.map_eq_some_iff.1 h
      show Va.mk 6 0 ⟨#[]⟩ r.1 = _
      rw [q3 m hm]
  rw [if_neg h1, show (atI s i == 123) = false by simpa using h1, cond_false]
  by_cases h1 : atI s i = 60
  · obtain ⟨r, hr, q1, q2, q3⟩ := list3_eq hs hi h1
    rw [if_pos h1, show (atI s i == 60) = true by rw [h1]; rfl, cond_true, literal_reader_rows_h, Option.bind_some, hr]
    simp only [Pr.ev, map_ev]
    refine ⟨_, rfl, ?_, q2, fun u h => ?_⟩
    · show r.2.1 = _
      rw [q1]
      cases ((listP 62 0 rowE 8 []).ev s (i + 1)).1 <;> rfl
    · obtain ⟨m, hm, rfl⟩ := Option.map_eq_some_iff.1 h
      show Va.mk 7 0 ⟨#[]⟩ r.1 = _
      rw [q3 m hm]
  rw [if_neg h1, show (atI s i == 60) = false by simpa using h1, cond_false]
  have hv := number_eq hs hi
  by_cases h2 : atI s i = 48
  · have hi' : i + 1 ≤ s.size := at_in (by omega)
    obtain ⟨r, hr, hp⟩ := prefix_eq hs hi' h2
    rw [if_pos h2, show (atI s i == 48) = true by rw [h2]; rfl, cond_true, hr, Option.bind_some, hp, Option.bind_some]
    simp only [Pr.ev]
    by_cases h3 : atI s (i + 1) = 120
    · have hi2 : i + 2 ≤ s.size := at_in (i := i + 1) (by omega)
      rw [if_pos h3, decide_eq_true h3, bits_eq hs hi2]
      simp only [Pr.ev, map_ev, show i + 1 + 1 = i + 2 from rfl]
      refine ⟨_, rfl, by show (bitsP.ev s (i + 2)).1.isSome = _; cases (bitsP.ev s (i + 2)).1 <;> rfl, rfl, fun u h => ?_⟩
      obtain ⟨m, hm, rfl⟩ := Option.map_eq_some_iff.1 h
      simp only [hm, Option.elim_some, Option.getD_some]
    · rw [if_neg h3, decide_eq_false h3, cond_false, Option.bind_some, Sum.elim_inl, hv]
      have hx : numP.ev s i = (some 0, i + 1) := by
        unfold numP unsP
        simp only [Pr.ev, h2]
        rw [if_neg (by decide)]
        simp only [Pr.ev, h2]
        rw [if_neg (by simp)]
        simp only [Pr.ev, ev_bind, show (48 : Int) - 48 = 0 from rfl, digits0]
        rfl
      rw [hx]
      exact ⟨_, rfl, rfl, rfl, fun u h => by cases h; rfl⟩
  · rw [if_neg h2, show (atI s i == 48) = false by simpa using h2, cond_false, Option.bind_some, Sum.elim_inl, hv, intE_ev]
    refine ⟨_, rfl, by show (numP.ev s i).1.isSome = _; cases (numP.ev s i).1 <;> rfl, rfl, fun u h => ?_⟩
    obtain ⟨m, hm', rfl⟩ := Option.map_eq_some_iff.1 h
    simp only [nOut, hm', Option.getD_some]
/-! the law -/
def prV (s : ByteArray) : Va × Int × Int := match oneP.ev s 0 with
  | (some v, j) => if j < s.size then (Va.mk 0 0 ⟨#[]⟩ [], (j : Int), 8) else (v, 0, 0)
  | (none, j) => (Va.mk 0 0 ⟨#[]⟩ [], (j : Int), 8)
theorem Parse_eq {s : ByteArray} (hs : s.size ≤ 4000000) : literal_Parse s = some (prV s) := by
  obtain ⟨b, hb, q1, q2, q3⟩ := value_eq hs (Nat.zero_le s.size)
  have hb' : literal_reader_value_h ⟨s, 0⟩ = some b := hb
  unfold literal_Parse prV
  rw [hb', Option.bind_some, q1, q2]
  generalize oneP.ev s 0 = x at q1 q2 q3 ⊢
  obtain ⟨_ | v, j⟩ := x
  · rfl
  · simp only [Option.isSome_some, Bool.not_true, cond_false, Option.bind_some]
    by_cases h : j < s.size
    · rw [if_pos h, lt_len h]; rfl
    · rw [if_neg h, decide_eq_false (show ¬ ((j : Int) < (s.size : Int)) by omega), cond_false, q3 v rfl]
theorem leaf_ok {v : Va} (h : leafV v) : depV v ≤ 1 ∧ wideV 9223372036854775807 v := by
  obtain ⟨t, n, s, l⟩ := v
  obtain rfl : l = [] := h.1
  exact ⟨depV_le fun y hy => (by cases hy), by simp [wideV, wideVs]⟩
theorem wide_of {v : Va} (h1 : v.items.length ≤ 9223372036854775807) (h2 : ∀ x ∈ v.items, wideV 9223372036854775807 x) : wideV 9223372036854775807 v := by
  obtain ⟨t, n, s, l⟩ := v
  have gen : ∀ l : List Va, (∀ x ∈ l, wideV 9223372036854775807 x) → wideVs 9223372036854775807 l := fun l => by
    induction l with
    | nil => exact fun _ => trivial
    | cons y l ih => exact fun h => ⟨h y (List.mem_cons_self ..), ih fun z hz => h z (List.mem_cons_of_mem _ hz)⟩
  exact ⟨h1, gen l h2⟩
theorem lst_ok {v : Va} (h : lstV v) : depV v ≤ 2 ∧ wideV 9223372036854775807 v := ⟨depV_le fun y hy => (leaf_ok (h.2.2 y hy)).1, wide_of (by have := h.1; omega) fun x hx => (leaf_ok (h.2.2 x hx)).2⟩
theorem okV_one : oneP.all okV := by
  have lf : ∀ v, leafV v → okV v := fun v h => ⟨by have := (leaf_ok h).1; omega, (leaf_ok h).2⟩
  have ls : ∀ v, lstV v → okV v := fun v h => ⟨by have := (lst_ok h).1; omega, (lst_ok h).2⟩
  have leaf0 : ∀ t n, okV (Va.mk t n ⟨#[]⟩ []) := fun t n => lf _ ⟨rfl, Nat.zero_le _⟩
  have lists : ∀ (t e : Int) (elem : List Va → Pr Va), (∀ acc, (elem acc).all leafV) → ((listP e 0 elem 16 []).bind fun l => .done (Va.mk t 0 ⟨#[]⟩ l)).all okV := fun t e elem hel => by
    refine all_bind (fun l hl => ?_) _ (list_all (P := leafV) (I := fun l => ∀ x ∈ l, leafV x) (fun acc v ha hv x hx => ?_) (fun _ _ => hel _) 16 [] (by simp))
    · show okV _
      exact ls _ ⟨by have := hl.2.2; simp at this; show l.length ≤ 16; omega, Nat.zero_le _, hl.1⟩
    · rcases List.mem_append.1 hx with hx | hx
      · exact ha x hx
      · rw [List.mem_singleton.1 hx]; exact hv
  unfold oneP
  intro c
  dsimp only
  repeat' split
  · exact all_bind (P := fun _ => True) (Q := okV) (fun _ _ => by show okV _; exact leaf0 _ _) _ (all_true _)
  · exact all_bind (P := fun _ => True) (Q := okV) (fun _ _ => by show okV _; exact leaf0 _ _) _ (all_true _)
  · exact all_mono lf _ textE_all
  · exact all_bind (P := fun l => 1 ≤ l.length ∧ l.length ≤ 40) (Q := okV) (fun l hl => by show okV _; exact lf _ ⟨rfl, by rw [show (Va.mk 8 0 (toBA l) []).text = toBA l from rfl, toBA_size]; omega⟩) _ (text_all 1 40)
  · exact lists 5 93 _ fun _ => intE_all
  · exact lists 6 125 _ fun _ => textE_all
  · refine all_bind (fun l hl => ?_) _ (list_all (P := fun v => lstV v ∧ 1 ≤ v.items.length ∧ v.items.length ≤ 8) (I := fun l => InvR l ∧ ∀ x ∈ l, lstV x) (fun acc v ha hv => ⟨InvR_app ha.1 hv.2, fun x hx => ?_⟩) (fun acc h => rowE_all h.1) 8 [] ⟨fun r h => (by cases h), fun r h => (by cases h)⟩)
    · show okV _
      refine ⟨by have := depV_le (x := Va.mk 7 0 ⟨#[]⟩ l) (k := 2) fun y hy => (lst_ok (hl.1.2 y hy)).1; omega, wide_of (by have := hl.2.2; simp at this; show l.length ≤ _; omega) fun x hx => (lst_ok (hl.1.2 x hx)).2⟩
    · rcases List.mem_append.1 hx with hx | hx
      · exact ha.2 x hx
      · rw [List.mem_singleton.1 hx]; exact hv.1
  · intro d
    dsimp only
    split
    · exact all_bind (P := fun _ => True) (Q := okV) (fun _ _ => by show okV _; exact leaf0 _ _) _ (all_true _)
    · exact leaf0 _ _
  · exact all_mono lf _ intE_all
theorem prV_ok (s : ByteArray) : okV (prV s).1 := by
  have z : okV (Va.mk 0 0 ⟨#[]⟩ []) := ⟨by have := depV_le (x := Va.mk 0 0 ⟨#[]⟩ []) (k := 0) fun y hy => (by cases hy); omega, by simp [wideV, wideVs]⟩
  have := all_ev (s := s) (a := (prV s).1) oneP 0 okV_one
  unfold prV at this ⊢
  rcases hx : oneP.ev s 0 with ⟨_ | v, j⟩
  · exact z
  · rw [hx] at this
    simp only
    split
    · exact z
    · simp only at this
      rename_i h
      rw [if_neg h] at this
      exact this rfl
theorem awake02 : synthesislaw02_awake_h = some true := by kernel_rfl
end Go.Proofs.YtijkipikefpopaaDoor
set_option linter.unusedVariables false
set_option linter.unusedSimpArgs false
set_option maxRecDepth 10000
namespace Go.Proofs.YtijkipikefpopaaDoor
open Go Go.RowKit

theorem Equal_self {v : Va} (h : okV v) : synthesisref01_Equal v v = some true := by rw [ref_Equal_eq h h, eqV_self]
theorem one_le (s : ByteArray) : (oneP.ev s 0).2 ≤ s.size := (ev_le' oneP_good (Nat.zero_le _)).2
theorem prV_eq (s : ByteArray) : (∃ v, oneP.ev s 0 = (some v, s.size) ∧ prV s = (v, 0, 0)) ∨ (prV s = (Va.mk 0 0 ⟨#[]⟩ [], ((oneP.ev s 0).2 : Int), 8) ∧ ((oneP.ev s 0).1 = none ∨ (oneP.ev s 0).2 < s.size)) := by
  have hle := one_le s
  unfold prV
  rcases hx : oneP.ev s 0 with ⟨_ | v, j⟩
  · exact .inr ⟨rfl, .inl rfl⟩
  · rw [hx] at hle
    simp only at hle ⊢
    by_cases h : j < s.size
    · rw [if_pos h]; exact .inr ⟨rfl, .inr h⟩
    · rw [if_neg h]
      obtain rfl : j = s.size := by omega
      exact .inl ⟨v, rfl, rfl⟩
end Go.Proofs.YtijkipikefpopaaDoor
