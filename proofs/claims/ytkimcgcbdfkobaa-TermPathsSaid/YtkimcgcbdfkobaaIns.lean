/- Sorted lists of terms. -/
import Derived.Test.YtkimcgcbdfkobaaOrd
set_option linter.unusedVariables false
set_option linter.unusedSimpArgs false
namespace Go.Proofs.Ytkimcgcbdfkobaa
open Go Go.RowKit

def Srt (l : List Tm) : Prop := l.Pairwise fun a b => cmpT a b = -1
/-- where a term belongs -/
def pos (l : List Tm) (t : Tm) : Nat := (l.takeWhile fun x => cmpT x t == -1).length
def found (l : List Tm) (t : Tm) : Bool := match l[pos l t]? with | some x => cmpT x t == 0 | none => false
/-- a term put into a sorted list, unless it is there -/
def ins (l : List Tm) (t : Tm) : List Tm := if found l t then l else l.take (pos l t) ++ t :: l.drop (pos l t)

theorem pos_le (l : List Tm) (t : Tm) : pos l t ≤ l.length := by
  unfold pos
  induction l with
  | nil => simp
  | cons x l ih => simp only [List.takeWhile_cons]; split <;> simp <;> omega
theorem pos_lt : ∀ (l : List Tm) (t : Tm) (i : Nat) (h : i < l.length), i < pos l t → cmpT l[i] t = -1
  | x :: l, t, i, h, hi => by
    unfold pos at hi
    simp only [List.takeWhile_cons] at hi
    split at hi
    · rename_i hx
      cases i with
      | zero => simpa using hx
      | succ i => exact pos_lt l t i (by simpa using h) (by simpa [pos] using hi)
    · simp at hi
theorem pos_at : ∀ (l : List Tm) (t : Tm) (h : pos l t < l.length), cmpT l[pos l t] t ≠ -1
  | [], _, h => by simp at h
  | x :: l, t, h => by
    by_cases hx : (cmpT x t == -1) = true
    · have hp : pos (x :: l) t = pos l t + 1 := by simp [pos, List.takeWhile_cons, hx]
      have := pos_at l t (by rw [hp] at h; simpa using h)
      simp only [hp, List.getElem_cons_succ]
      exact this
    · have hp : pos (x :: l) t = 0 := by simp [pos, List.takeWhile_cons, hx]
      simp only [hp, List.getElem_cons_zero]
      simpa using hx
theorem pos_char {l : List Tm} {t : Tm} {k : Nat} (hk : k ≤ l.length) (h1 : ∀ i (h : i < l.length), i < k → cmpT l[i] t = -1) (h2 : ∀ h : k < l.length, cmpT l[k] t ≠ -1) : pos l t = k := by
  rcases Nat.lt_trichotomy (pos l t) k with h | h | h
  · exact absurd (h1 _ (by omega) h) (pos_at l t (by omega))
  · exact h
  · have := pos_le l t
    exact absurd (pos_lt l t k (by omega) h) (h2 (by omega))
theorem srt_get {l : List Tm} (h : Srt l) {i j : Nat} (hi : i < l.length) (hj : j < l.length) (hij : i < j) : cmpT l[i] l[j] = -1 := List.pairwise_iff_getElem.1 h i j hi hj hij
theorem found_eq {l : List Tm} {t : Tm} : found l t = true ↔ ∃ h : pos l t < l.length, cmpT l[pos l t] t = 0 := by
  unfold found
  by_cases h : pos l t < l.length
  · rw [List.getElem?_eq_getElem h]; simp [h]
  · rw [List.getElem?_eq_none (by omega)]; simp [h]
theorem ins_found {l : List Tm} {t : Tm} (h : found l t = true) : ins l t = l := if_pos h
theorem ins_new {l : List Tm} {t : Tm} (h : found l t = false) : ins l t = l.take (pos l t) ++ t :: l.drop (pos l t) := by unfold ins; rw [if_neg (by rw [h]; exact Bool.false_ne_true)]
theorem ins_mem {l : List Tm} {t x : Tm} : x ∈ ins l t ↔ x = t ∨ x ∈ l := by
  by_cases h : found l t = true
  · rw [ins_found h]
    obtain ⟨hl, h0⟩ := found_eq.1 h
    have := cmpT_eq0 h0
    constructor
    · exact .inr
    · rintro (rfl | h')
      · rw [← this]; exact List.getElem_mem hl
      · exact h'
  · rw [ins_new (by simpa using h)]
    have : x ∈ l ↔ x ∈ l.take (pos l t) ∨ x ∈ l.drop (pos l t) := by rw [← List.mem_append, List.take_append_drop]
    rw [List.mem_append, List.mem_cons, this]
    constructor
    · rintro (h | h | h)
      · exact .inr (.inl h)
      · exact .inl h
      · exact .inr (.inr h)
    · rintro (h | h | h)
      · exact .inr (.inl h)
      · exact .inl h
      · exact .inr (.inr h)
theorem ins_len (l : List Tm) (t : Tm) : (ins l t).length ≤ l.length + 1 := by
  unfold ins
  have := pos_le l t
  split <;> simp <;> omega
theorem ins_ne (l : List Tm) (t : Tm) : ins l t ≠ [] := by
  intro h
  have : t ∈ ins l t := ins_mem.2 (.inl rfl)
  rw [h] at this
  cases this
/-- in a sorted list, what comes later is not less -/
theorem srt_ge {l : List Tm} {t : Tm} (h : Srt l) {i : Nat} (hi : i < l.length) (hp : pos l t ≤ i) : cmpT l[i] t ≠ -1 := by
  intro h1
  have h0 := pos_at l t (by omega)
  rcases Nat.lt_or_ge (pos l t) i with h' | h'
  · exact h0 (cmpT_trans _ _ _ (srt_get h (by omega) hi h') h1)
  · have : pos l t = i := by omega
    simp only [this] at h0
    exact h0 h1
theorem srt_gt {l : List Tm} {t : Tm} (h : Srt l) (hf : found l t = false) {i : Nat} (hi : i < l.length) (hp : pos l t ≤ i) : cmpT t l[i] = -1 := by
  have h1 := srt_ge h hi hp
  have h2 : cmpT l[i] t ≠ 0 := by
    intro h0
    rcases Nat.lt_or_ge (pos l t) i with h' | h'
    · have e := cmpT_eq0 h0
      have := srt_get h (by omega) hi h'
      rw [e] at this
      exact pos_at l t (by omega) this
    · have he : pos l t = i := by omega
      have : found l t = true := found_eq.2 ⟨by omega, by simp only [he]; exact h0⟩
      rw [hf] at this
      cases this
  have := cmpT_vals l[i] t
  have := cmpT_anti l[i] t
  omega
theorem ins_srt {l : List Tm} (h : Srt l) (t : Tm) : Srt (ins l t) := by
  by_cases hf : found l t = true
  · rw [ins_found hf]; exact h
  · have hf' : found l t = false := by simpa using hf
    rw [ins_new hf']
    unfold Srt
    rw [List.pairwise_append, List.pairwise_cons]
    refine ⟨List.Pairwise.sublist (List.take_sublist _ _) h, ⟨fun x hx => ?_, List.Pairwise.sublist (List.drop_sublist _ _) h⟩, fun a ha b hb => ?_⟩
    · obtain ⟨i, hi, rfl⟩ := List.mem_iff_getElem.1 hx
      rw [List.getElem_drop]
      exact srt_gt h hf' _ (by omega)
    · have hat : cmpT a t = -1 := by
        obtain ⟨i, hi, rfl⟩ := List.mem_iff_getElem.1 ha
        rw [List.getElem_take]
        simp at hi
        exact pos_lt l t i (by omega) (by omega)
      rcases List.mem_cons.1 hb with rfl | hb
      · exact hat
      · obtain ⟨i, hi, rfl⟩ := List.mem_iff_getElem.1 hb
        rw [List.getElem_drop]
        exact cmpT_trans _ _ _ hat (srt_gt h hf' _ (by omega))

/-- two sorted lists with the same elements are one -/
theorem srt_uniq : ∀ {a b : List Tm}, Srt a → Srt b → (∀ x, x ∈ a ↔ x ∈ b) → a = b
  | [], [], _, _, _ => rfl
  | [], y :: _, _, _, h => absurd ((h y).2 (by simp)) (by simp)
  | x :: _, [], _, _, h => absurd ((h x).1 (by simp)) (by simp)
  | x :: a, y :: b, ha, hb, h => by
    have ha' := List.pairwise_cons.1 ha
    have hb' := List.pairwise_cons.1 hb
    have hxy : x = y := by
      rcases List.mem_cons.1 ((h x).1 (by simp)) with h1 | h1
      · exact h1
      · rcases List.mem_cons.1 ((h y).2 (by simp)) with h2 | h2
        · exact h2.symm
        · have e1 := ha'.1 y h2
          have e2 := hb'.1 x h1
          have := cmpT_anti x y
          omega
    subst hxy
    congr 1
    refine srt_uniq ha'.2 hb'.2 fun z => ⟨fun hz => ?_, fun hz => ?_⟩
    · rcases List.mem_cons.1 ((h z).1 (by simp [hz])) with h1 | h1
      · have := ha'.1 z hz; rw [h1, cmpT_self] at this; omega
      · exact h1
    · rcases List.mem_cons.1 ((h z).2 (by simp [hz])) with h1 | h1
      · have := hb'.1 z hz; rw [h1, cmpT_self] at this; omega
      · exact h1

mutual
/-- all subterms -/
def subs : Tm → List Tm
  | .mk r l => .mk r l :: subsL l
def subsL : List Tm → List Tm
  | [] => []
  | t :: l => subs t ++ subsL l
end
mutual
/-- as the program does -/
def sub (out : List Tm) : Tm → List Tm
  | .mk r l => ins (subL out l) (.mk r l)
def subL (out : List Tm) : List Tm → List Tm
  | [] => out
  | t :: l => subL (sub out t) l
end
mutual
/-- as the reference does -/
def refS : Tm → List Tm
  | .mk r l => ins (refL [] l) (.mk r l)
def refL (out : List Tm) : List Tm → List Tm
  | [] => out
  | t :: l => refL ((refS t).foldl ins out) l
end
theorem subL_snoc (out : List Tm) (l : List Tm) (t : Tm) : subL out (l ++ [t]) = sub (subL out l) t := by
  induction l generalizing out with
  | nil => simp [subL]
  | cons x l ih => simp [subL, ih]
theorem refL_snoc (out : List Tm) (l : List Tm) (t : Tm) : refL out (l ++ [t]) = (refS t).foldl ins (refL out l) := by
  induction l generalizing out with
  | nil => simp [refL]
  | cons x l ih => simp [refL, ih]
theorem fold_srt : ∀ (l out : List Tm), Srt out → Srt (l.foldl ins out)
  | [], out, h => h
  | t :: l, out, h => fold_srt l _ (ins_srt h t)
theorem fold_mem {x : Tm} : ∀ (l out : List Tm), x ∈ l.foldl ins out ↔ x ∈ out ∨ x ∈ l
  | [], out => by simp
  | t :: l, out => by
    rw [List.foldl_cons, fold_mem l, ins_mem, List.mem_cons]
    constructor
    · rintro ((h | h) | h)
      · exact .inr (.inl h)
      · exact .inl h
      · exact .inr (.inr h)
    · rintro (h | h | h)
      · exact .inl (.inr h)
      · exact .inl (.inl h)
      · exact .inr h
theorem fold_len : ∀ (l out : List Tm), (l.foldl ins out).length ≤ out.length + l.length
  | [], out => by simp
  | t :: l, out => by
    have := fold_len l (ins out t)
    have := ins_len out t
    simp only [List.foldl_cons, List.length_cons]
    omega
mutual
theorem sub_srt : ∀ (t : Tm) (out : List Tm), Srt out → Srt (sub out t)
  | .mk r l, out, h => by rw [sub]; exact ins_srt (subL_srt l out h) _
theorem subL_srt : ∀ (l : List Tm) (out : List Tm), Srt out → Srt (subL out l)
  | [], out, h => by rw [subL]; exact h
  | t :: l, out, h => by rw [subL]; exact subL_srt l _ (sub_srt t out h)
end
mutual
theorem sub_mem {x : Tm} : ∀ (t : Tm) (out : List Tm), x ∈ sub out t ↔ x ∈ out ∨ x ∈ subs t
  | .mk r l, out => by
    rw [sub, ins_mem, subL_mem l out, subs, List.mem_cons]
    constructor
    · rintro (h | h | h)
      · exact .inr (.inl h)
      · exact .inl h
      · exact .inr (.inr h)
    · rintro (h | h | h)
      · exact .inr (.inl h)
      · exact .inl h
      · exact .inr (.inr h)
theorem subL_mem {x : Tm} : ∀ (l : List Tm) (out : List Tm), x ∈ subL out l ↔ x ∈ out ∨ x ∈ subsL l
  | [], out => by rw [subL, subsL]; simp
  | t :: l, out => by rw [subL, subL_mem l, sub_mem t, subsL, List.mem_append, or_assoc]
end
mutual
theorem sub_len : ∀ (t : Tm) (out : List Tm), (sub out t).length ≤ out.length + t.size
  | .mk r l, out => by
    rw [sub, Tm.size]
    have := ins_len (subL out l) (.mk r l)
    have := subL_len l out
    omega
theorem subL_len : ∀ (l : List Tm) (out : List Tm), (subL out l).length ≤ out.length + Tm.sizeL l
  | [], out => by rw [subL]; omega
  | t :: l, out => by
    rw [subL, Tm.sizeL]
    have := subL_len l (sub out t)
    have := sub_len t out
    omega
end
theorem refL_srt (l : List Tm) : ∀ out, Srt out → Srt (refL out l) := by
  induction l with
  | nil => intro out h; rw [refL]; exact h
  | cons t l ih => intro out h; rw [refL]; exact ih _ (fold_srt _ _ h)
theorem refS_srt (t : Tm) : Srt (refS t) := by
  obtain ⟨r, l⟩ := t
  rw [refS]
  exact ins_srt (refL_srt l [] List.Pairwise.nil) _
mutual
theorem refS_mem {x : Tm} : ∀ (t : Tm), x ∈ refS t ↔ x ∈ subs t
  | .mk r l => by
    rw [refS, ins_mem, refL_mem l [], subs, List.mem_cons]
    simp
theorem refL_mem {x : Tm} : ∀ (l : List Tm) (out : List Tm), x ∈ refL out l ↔ x ∈ out ∨ x ∈ subsL l
  | [], out => by rw [refL, subsL]; simp
  | t :: l, out => by rw [refL, refL_mem l, fold_mem, refS_mem t, subsL, List.mem_append, or_assoc]
end
mutual
theorem refS_len : ∀ (t : Tm), (refS t).length ≤ t.size
  | .mk r l => by
    rw [refS, Tm.size]
    have := ins_len (refL [] l) (.mk r l)
    have := refL_len l []
    simp at this
    omega
theorem refL_len : ∀ (l : List Tm) (out : List Tm), (refL out l).length ≤ out.length + Tm.sizeL l
  | [], out => by rw [refL]; omega
  | t :: l, out => by
    rw [refL, Tm.sizeL]
    have := refL_len l ((refS t).foldl ins out)
    have := fold_len (refS t) out
    have := refS_len t
    omega
end
mutual
theorem subs_size {x : Tm} : ∀ (t : Tm), x ∈ subs t → x.size ≤ t.size
  | .mk r l, h => by
    rw [subs, List.mem_cons] at h
    rcases h with rfl | h
    · exact Nat.le_refl _
    · have := subsL_size l h
      rw [Tm.size]; omega
theorem subsL_size {x : Tm} : ∀ (l : List Tm), x ∈ subsL l → x.size ≤ Tm.sizeL l
  | [], h => by rw [subsL] at h; cases h
  | t :: l, h => by
    rw [subsL, List.mem_append] at h
    rw [Tm.sizeL]
    rcases h with h | h
    · have := subs_size t h; omega
    · have := subsL_size l h; omega
end
theorem subs_self (t : Tm) : t ∈ subs t := by cases t; rw [subs]; simp
/-- the two ways agree -/
theorem refS_sub (t : Tm) : refS t = sub [] t :=
  srt_uniq (refS_srt t) (sub_srt t [] List.Pairwise.nil) fun x => by rw [refS_mem, sub_mem]; simp
theorem sub_ne (t : Tm) : 0 < (sub [] t).length := List.length_pos_of_mem ((sub_mem t []).2 (.inr (subs_self t)))
/-- the last is the term -/
theorem sub_last (t : Tm) : (sub [] t)[(sub [] t).length - 1]'(by have := sub_ne t; omega) = t := by
  have hs := sub_srt t [] List.Pairwise.nil
  obtain ⟨i, hi, he⟩ := List.mem_iff_getElem.1 ((sub_mem (x := t) t []).2 (.inr (subs_self t)))
  have hn := sub_ne t
  by_cases hl : i = (sub [] t).length - 1
  · simp only [← hl]; exact he
  · exfalso
    have h1 := srt_get hs hi (show (sub [] t).length - 1 < (sub [] t).length by omega) (by omega)
    have h2 := (sub_mem (x := (sub [] t)[(sub [] t).length - 1]'(by omega)) t []).1 (List.getElem_mem _)
    simp at h2
    have h3 := subs_size t h2
    rw [he] at h1
    -- what is in the term and not smaller is the term
    obtain ⟨r, l⟩ := t
    rw [subs, List.mem_cons] at h2
    rcases h2 with h2 | h2
    · rw [h2, cmpT_self] at h1; omega
    · have h4 := subsL_size l h2
      have h5 := (cmpT_eq _ (Tm.mk r l)).1 (show ((sub [] (Tm.mk r l))[(sub [] (Tm.mk r l)).length - 1]'(by omega)).size < (Tm.mk r l).size by rw [Tm.size]; omega)
      have := cmpT_anti (Tm.mk r l) ((sub [] (Tm.mk r l))[(sub [] (Tm.mk r l)).length - 1]'(by omega))
      omega
end Go.Proofs.Ytkimcgcbdfkobaa
