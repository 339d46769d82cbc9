/- What the program reads and what the reference reads is what one reader reads: words, texts, numbers. -/
import Derived.Test.YtijkipikefpopaaDoorPr
import Derived.Test.YtijkipikefpopaaDoorVr
set_option linter.unusedVariables false
set_option linter.unusedSimpArgs false
set_option maxRecDepth 10000
namespace Go.Proofs.YtijkipikefpopaaDoor
open Go Go.RowKit

def atI (s : ByteArray) (i : Nat) : Int := hd (s.data.toList.drop i)
theorem at_lt {s : ByteArray} {i : Nat} (h : i < s.size) : byt s (i : Int) = some (atI s i) ∧ s.data.toList.drop i = (s.data.toList[i]'(by rw [← size_list]; exact h)) :: s.data.toList.drop (i + 1) ∧ atI s i = ((s.data.toList[i]'(by rw [← size_list]; exact h)).toNat : Int) := by
  have h' : i < s.data.toList.length := by rw [← size_list]; exact h
  have d := List.drop_eq_getElem_cons h'
  refine ⟨?_, d, ?_⟩
  · rw [byt_list, List.getElem?_eq_getElem h', atI, d]; rfl
  · rw [atI, d]; rfl
theorem at_ge {s : ByteArray} {i : Nat} (h : s.size ≤ i) : atI s i = 0 := by rw [atI, List.drop_eq_nil_of_le (by rw [← size_list]; exact h)]; rfl
theorem at_range (s : ByteArray) (i : Nat) : 0 ≤ atI s i ∧ atI s i ≤ 255 := by
  by_cases h : i < s.size
  · rw [(at_lt h).2.2]
    have := (s.data.toList[i]'(by rw [← size_list]; exact h)).toNat_lt
    omega
  · rw [at_ge (by omega)]; decide
theorem at_in {s : ByteArray} {i : Nat} (h : atI s i ≠ 0) : i < s.size := by
  by_cases h' : i < s.size
  · exact h'
  · exact absurd (at_ge (by omega)) h
/-- reading, the place kept -/
def Pr.ev {α : Type} (s : ByteArray) : Pr α → Nat → Option α × Nat
  | .done a, i => (some a, i)
  | .fail, i => (none, i)
  | .peek k, i => (k (atI s i)).ev s i
  | .adv p, i => p.ev s (i + 1)
theorem ev_run {α : Type} (s : ByteArray) : ∀ (p : Pr α) (i : Nat), p.run (s.data.toList.drop i) = ((p.ev s i).1, s.data.toList.drop (p.ev s i).2)
  | .done a, i => rfl
  | .fail, i => rfl
  | .peek k, i => ev_run s (k (atI s i)) i
  | .adv p, i => by
    have := ev_run s p (i + 1)
    rw [Pr.run, Pr.ev, ← this, List.tail_drop]
theorem ev_bind {α β : Type} (s : ByteArray) (f : α → Pr β) : ∀ (p : Pr α) (i : Nat), (p.bind f).ev s i = match p.ev s i with
    | (some a, j) => (f a).ev s j
    | (none, j) => (none, j)
  | .done a, i => rfl
  | .fail, i => rfl
  | .peek k, i => ev_bind s f (k (atI s i)) i
  | .adv p, i => ev_bind s f p (i + 1)
theorem ev_le {α : Type} {s : ByteArray} : ∀ (p : Pr α) (b : Bool) (i : Nat), p.good b → (b = true → i < s.size) → i ≤ s.size → i ≤ (p.ev s i).2 ∧ (p.ev s i).2 ≤ s.size
  | .done a, b, i, _, _, h => ⟨Nat.le_refl _, h⟩
  | .fail, b, i, _, _, h => ⟨Nat.le_refl _, h⟩
  | .peek k, b, i, hg, hb, h => by
    show i ≤ ((k (atI s i)).ev s i).2 ∧ ((k (atI s i)).ev s i).2 ≤ s.size
    by_cases h0 : atI s i = 0
    · rw [h0]; exact ev_le (k 0) false i hg.1 (fun h => by cases h) h
    · exact ev_le (k _) true i (hg.2 _ h0) (fun _ => at_in h0) h
  | .adv p, b, i, hg, hb, h => by
    have := ev_le p false (i + 1) hg.2 (fun h => by cases h) (hb hg.1)
    exact ⟨by show i ≤ (p.ev s (i + 1)).2; omega, this.2⟩
theorem ev_le' {α : Type} {s : ByteArray} {p : Pr α} {i : Nat} (hg : p.good false) (h : i ≤ s.size) : i ≤ (p.ev s i).2 ∧ (p.ev s i).2 ≤ s.size := ev_le p false i hg (fun h => by cases h) h
/-- what is read holds this -/
def Pr.all {α : Type} (P : α → Prop) : Pr α → Prop
  | .done a => P a
  | .fail => True
  | .peek k => ∀ c, (k c).all P
  | .adv p => p.all P
theorem all_bind {α β : Type} {P : α → Prop} {Q : β → Prop} {f : α → Pr β} (hf : ∀ a, P a → (f a).all Q) : ∀ p : Pr α, p.all P → (p.bind f).all Q
  | .done a, h => hf a h
  | .fail, _ => trivial
  | .peek k, h => fun c => all_bind hf (k c) (h c)
  | .adv p, h => all_bind hf p h
theorem all_mono {α : Type} {P Q : α → Prop} (hf : ∀ a, P a → Q a) : ∀ p : Pr α, p.all P → p.all Q
  | .done a, h => hf a h
  | .fail, _ => trivial
  | .peek k, h => fun c => all_mono hf (k c) (h c)
  | .adv p, h => all_mono hf p h
theorem all_true {α : Type} : ∀ p : Pr α, p.all fun _ => True
  | .done a => trivial
  | .fail => trivial
  | .peek k => fun c => all_true (k c)
  | .adv p => all_true p
theorem all_ev {α : Type} {P : α → Prop} {s : ByteArray} {a : α} : ∀ (p : Pr α) (i : Nat), p.all P → (p.ev s i).1 = some a → P a
  | .done b, i, h, e => by cases e; exact h
  | .fail, i, h, e => by cases e
  | .peek k, i, h, e => all_ev (k (atI s i)) i (h _) e
  | .adv p, i, h, e => all_ev p (i + 1) h e

theorem w64n (n : Nat) (h : n ≤ 4000000000) : w64 (n : Int) = n := w64_eq (by omega) (by omega)
theorem w64s (n : Nat) (h : n ≤ 4000000000) : w64 ((n : Int) + 1) = ((n + 1 : Nat) : Int) := w64_succ (by omega)
theorem peek_eq (s : ByteArray) (i : Nat) : literal_reader_peek_h ⟨s, (i : Int)⟩ = some (atI s i) := by
  unfold literal_reader_peek_h
  by_cases h : i < s.size
  · simp only [lt_len h, cond_true, (at_lt h).1, Option.bind_some]
  · have : decide ((i : Int) < (s.size : Int)) = false := decide_eq_false (by omega)
    simp only [this, cond_false, at_ge (Nat.le_of_not_lt h)]
theorem at_eq (s : ByteArray) (i : Nat) : synthesisref02_at s (i : Int) = some (atI s i) := by
  unfold synthesisref02_at
  by_cases h : i < s.size
  · simp only [lt_len h, cond_true, (at_lt h).1, Option.bind_some]
  · have : decide ((i : Int) < (s.size : Int)) = false := decide_eq_false (by omega)
    simp only [this, cond_false, at_ge (Nat.le_of_not_lt h)]
theorem lp_go {σ β : Type} {st : σ → Option (σ ⊕ β)} {s s' : σ} {n : Nat} (h : st s = some (.inl s')) : loopN st (n + 1) s = loopN st n s' := by rw [loopN, h]
theorem lp_out {σ β : Type} {st : σ → Option (σ ⊕ β)} {s : σ} {b : β} {n : Nat} (h : st s = some (.inr b)) : loopN st (n + 1) s = some b := by rw [loopN, h]

/-! words -/
def wl (w : ByteArray) : List Int := w.data.toList.map fun c => (c.toNat : Int)
theorem wl_len (w : ByteArray) : (wl w).length = w.size := by unfold wl; rw [List.length_map, size_list]
theorem wl_step {w : ByteArray} {m : Nat} {c : Int} {l : List Int} (h : (wl w).drop m = c :: l) : m < w.size ∧ atI w m = c ∧ (wl w).drop (m + 1) = l := by
  have hm : m < w.size := by
    rw [← wl_len]
    by_cases h' : m < (wl w).length
    · exact h'
    · rw [List.drop_eq_nil_of_le (by omega)] at h; cases h
  obtain ⟨b1, b2, b3⟩ := at_lt hm
  have : (wl w).drop m = atI w m :: (wl w).drop (m + 1) := by
    unfold wl
    rw [← List.map_drop, b2, List.map_cons, List.map_drop, b3]
  rw [this] at h
  exact ⟨hm, (List.cons.inj h).1, (List.cons.inj h).2⟩
theorem word_loop (s w : ByteArray) (i0 : Int) (hs : s.size ≤ 1000000) (hw : w.size ≤ 1000000) : ∀ (l : List Int) (m i n : Nat), (wl w).drop m = l → (∀ x ∈ l, x ≠ 0) → i ≤ s.size → l.length < n →
    loopN (literal_reader_word_h_l1 ⟨s, i0⟩ w) n ((m : Int), (i : Int)) = some (((wordP l).ev s i).1.elim (.inr (((wordP l).ev s i).2 : Int)) fun _ => .inl (((wordP l).ev s i).2 : Int))
  | [], m, i, n + 1, hl, h0, hi, _ => by
    have hm : w.size ≤ m := by rw [← wl_len]; exact List.drop_eq_nil_iff.1 hl
    refine lp_out ?_
    have : decide ((m : Int) < (w.size : Int)) = false := decide_eq_false (by omega)
    simp only [literal_reader_word_h_l1, this, cond_false]
    rfl
  | c :: l, m, i, n + 1, hl, h0, hi, hn => by
    obtain ⟨hm, hc, hl'⟩ := wl_step hl
    have b1 := (at_lt hm).1
    have hc0 : c ≠ 0 := h0 _ (List.mem_cons_self ..)
    simp only [wordP, Pr.ev]
    by_cases h : i < s.size
    · have e1 : decide ((s.size : Int) ≤ (i : Int)) = false := decide_eq_false (by omega)
      by_cases he : atI s i = c
      · rw [if_pos he]
        simp only [Pr.ev]
        rw [← word_loop s w i0 hs hw l (m + 1) (i + 1) n hl' (fun x hx => h0 x (List.mem_cons_of_mem _ hx)) (by omega) (by simpa using hn)]
        refine lp_go ?_
        have e2 : (atI s i != c) = false := by rw [he]; simp
        simp only [literal_reader_word_h_l1, lt_len hm, cond_true, e1, cond_false, (at_lt h).1, b1, hc, Option.bind_some, e2, w64s m (by omega), w64s i (by omega)]
      · rw [if_neg he]
        refine lp_out ?_
        have e2 : (atI s i != c) = true := by simpa using he
        simp only [literal_reader_word_h_l1, lt_len hm, cond_true, e1, cond_false, (at_lt h).1, b1, hc, Option.bind_some, e2]
        rfl
    · have e1 : decide ((s.size : Int) ≤ (i : Int)) = true := decide_eq_true (by omega)
      rw [if_neg (by rw [at_ge (by omega)]; exact fun h => hc0 h.symm)]
      refine lp_out ?_
      simp only [literal_reader_word_h_l1, lt_len hm, cond_true, e1, Option.bind_some]
      rfl
theorem word_eq {s w : ByteArray} (hs : s.size ≤ 1000000) (hw : w.size ≤ 1000000) (h0 : ∀ x ∈ wl w, x ≠ 0) {i : Nat} (hi : i ≤ s.size) :
    literal_reader_word_h ⟨s, (i : Int)⟩ w = some (((wordP (wl w)).ev s i).1.isSome, (((wordP (wl w)).ev s i).2 : Int)) := by
  unfold literal_reader_word_h
  have := word_loop s w i hs hw _ 0 i fuel rfl (by simpa using h0) hi (by rw [List.drop_zero, wl_len]; exact lt_fuel (by omega))
  rw [List.drop_zero] at this
  rw [show ((0 : Int), (⟨s, (i : Int)⟩ : S_literal_reader).f_at) = (((0 : Nat) : Int), (i : Int)) from rfl, this, Option.bind_some]
  cases ((wordP (wl w)).ev s i).1 <;> rfl
/-! texts -/
theorem toBA_data (xs : List Int) : (toBA xs).data.toList = xs.map fun n => UInt8.ofNat n.toNat := by
  have key : ∀ (xs : List Int) (r : ByteArray), (xs.foldl (fun r n => r.push (UInt8.ofNat n.toNat)) r).data.toList = r.data.toList ++ xs.map fun n => UInt8.ofNat n.toNat := by
    intro xs
    induction xs with
    | nil => intro r; simp
    | cons x xs ih => intro r; rw [List.foldl_cons, ih]; simp [ByteArray.push]
  unfold toBA
  rw [key]
  rfl
theorem toBA_size (xs : List Int) : (toBA xs).size = xs.length := by rw [size_list, toBA_data, List.length_map]
theorem ba_ext {a b : ByteArray} (h : a.data.toList = b.data.toList) : a = b := by
  cases a; cases b; congr 1; exact Array.toList_inj.1 h
theorem i32_byte (s : ByteArray) (i : Nat) : IntKind.i32.wrap (atI s i) = atI s i := by
  have := at_range s i
  simp [IntKind.wrap, IntKind.signed, IntKind.bits, IntKind.min, IntKind.max]
  omega
theorem plain_eq (c : Int) : literal_plain c = some (plainI c) := by
  unfold literal_plain plainI
  cases decide (32 ≤ c) <;> cases decide (c ≤ 126) <;> rfl
def tOut (x : Option (List Int) × Nat) : ByteArray × Bool × Int := (x.1.elim ⟨#[]⟩ toBA, x.1.isSome, (x.2 : Int))
theorem text_loop (s : ByteArray) (i0 : Int) (least most : Nat) (hs : s.size ≤ 1000000) (hm : most ≤ 4000000) : ∀ (k : Nat) (acc : List Int) (i n : Nat), acc.length + k = most → i ≤ s.size → k < n →
    ∃ b, loopN (literal_reader_text_h_l1 ⟨s, i0⟩ (least : Int) (most : Int)) n ((i : Int), acc) = some b ∧ Sum.elim (fun j => ((⟨#[]⟩ : ByteArray), false, j)) id b = tOut ((bodyP least k acc).ev s i) := by
  intro k
  induction k with
  | zero =>
    intro acc i n hk hi hn
    obtain ⟨n, rfl⟩ : ∃ m, n = m + 1 := ⟨n - 1, by omega⟩
    by_cases h : i < s.size
    · have e3 : ((acc.length : Int) == (most : Int)) = true := by simp; omega
      unfold bodyP
      simp only [Pr.ev]
      by_cases hq : atI s i = 34 ∧ least ≤ acc.length
      · rw [if_pos hq]
        refine ⟨_, lp_out (b := .inr (toBA acc, true, ((i + 1 : Nat) : Int))) ?_, rfl⟩
        have e1 : (atI s i == 34) = true := by rw [hq.1]; rfl
        have e2 : decide ((least : Int) ≤ (acc.length : Int)) = true := decide_eq_true (by omega)
        simp only [literal_reader_text_h_l1, lt_len h, cond_true, (at_lt h).1, Option.bind_some, e1, strings_Builder_Len_h, strings_Builder_String_h, e2, w64s i (by omega), Sum.elim_inr]
      · rw [if_neg hq]
        refine ⟨_, lp_out (b := .inr (⟨#[]⟩, false, (i : Int))) ?_, rfl⟩
        by_cases h34 : atI s i = 34
        · have e1 : (atI s i == 34) = true := by rw [h34]; rfl
          have e2 : decide ((least : Int) ≤ (acc.length : Int)) = false := decide_eq_false (by omega)
          simp only [literal_reader_text_h_l1, lt_len h, cond_true, (at_lt h).1, Option.bind_some, e1, strings_Builder_Len_h, strings_Builder_String_h, e2, cond_false, Sum.elim_inr]
        · have e1 : (atI s i == 34) = false := by simpa using h34
          simp only [literal_reader_text_h_l1, lt_len h, cond_true, (at_lt h).1, Option.bind_some, e1, strings_Builder_Len_h, strings_Builder_String_h, e3, cond_false, Sum.elim_inr]
    · have e1 : decide ((i : Int) < (s.size : Int)) = false := decide_eq_false (by omega)
      refine ⟨_, lp_out (b := .inl (i : Int)) (by simp only [literal_reader_text_h_l1, e1, cond_false]), ?_⟩
      unfold bodyP
      simp only [Pr.ev, at_ge (Nat.le_of_not_lt h)]
      rw [if_neg (by omega)]
      rfl
  | succ k ih =>
    intro acc i n hk hi hn
    obtain ⟨n, rfl⟩ : ∃ m, n = m + 1 := ⟨n - 1, by omega⟩
    by_cases h : i < s.size
    · have e3 : ((acc.length : Int) == (most : Int)) = false := by simp; omega
      unfold bodyP
      simp only [Pr.ev]
      by_cases hq : atI s i = 34 ∧ least ≤ acc.length
      · rw [if_pos hq]
        refine ⟨_, lp_out (b := .inr (toBA acc, true, ((i + 1 : Nat) : Int))) ?_, rfl⟩
        have e1 : (atI s i == 34) = true := by rw [hq.1]; rfl
        have e2 : decide ((least : Int) ≤ (acc.length : Int)) = true := decide_eq_true (by omega)
        simp only [literal_reader_text_h_l1, lt_len h, cond_true, (at_lt h).1, Option.bind_some, e1, strings_Builder_Len_h, strings_Builder_String_h, e2, w64s i (by omega), Sum.elim_inr]
      · rw [if_neg hq]
        by_cases hb : atI s i = 34 ∨ atI s i < 32 ∨ 126 < atI s i
        · rw [if_pos hb]
          refine ⟨_, lp_out (b := .inr (⟨#[]⟩, false, (i : Int))) ?_, rfl⟩
          by_cases h34 : atI s i = 34
          · have e1 : (atI s i == 34) = true := by rw [h34]; rfl
            have e2 : decide ((least : Int) ≤ (acc.length : Int)) = false := decide_eq_false (by omega)
            simp only [literal_reader_text_h_l1, lt_len h, cond_true, (at_lt h).1, Option.bind_some, e1, strings_Builder_Len_h, strings_Builder_String_h, e2, cond_false, Sum.elim_inr]
          · have e1 : (atI s i == 34) = false := by simpa using h34
            have e4 : plainI (atI s i) = false := by
              unfold plainI
              rw [Bool.and_eq_false_iff, decide_eq_false_iff_not, decide_eq_false_iff_not]
              omega
            simp only [literal_reader_text_h_l1, lt_len h, cond_true, (at_lt h).1, Option.bind_some, e1, strings_Builder_Len_h, strings_Builder_String_h, e3, cond_false, Sum.elim_inr, i32_byte, plain_eq, e4, Bool.not_false]
        · rw [if_neg hb]
          have e1 : (atI s i == 34) = false := by simp; omega
          have e4 : plainI (atI s i) = true := by
            unfold plainI
            rw [Bool.and_eq_true, decide_eq_true_eq, decide_eq_true_eq]
            omega
          by_cases h92 : atI s i = 92
          · rw [if_pos h92]
            have e5 : (atI s i == 92) = true := by rw [h92]; rfl
            simp only [Pr.ev]
            by_cases hd : atI s (i + 1) = 34 ∨ atI s (i + 1) = 92
            · rw [if_pos hd]
              have e6 : (bif (atI s (i + 1) != 34) then (some (atI s (i + 1) != 92)) else (some false) : Option Bool) = some false := by rcases hd with hd | hd <;> rw [hd] <;> rfl
              have hi' : i + 1 < s.size := at_in (by omega)
              simp only [Pr.ev]
              obtain ⟨b, hb1, hb2⟩ := ih (acc ++ [atI s (i + 1)]) (i + 1 + 1) n (by simp; omega) (by omega) (by omega)
              refine ⟨b, ?_, hb2⟩
              rw [← hb1]
              refine lp_go ?_
              simp only [literal_reader_text_h_l1, lt_len h, cond_true, (at_lt h).1, Option.bind_some, e1, strings_Builder_Len_h, e3, cond_false, i32_byte, plain_eq, e4, Bool.not_true, e5, w64s i (by omega), peek_eq, e6, Sum.elim_inl, strings_Builder_WriteByte_h, strings_Builder_copyCheck_h,
                app_eq (b := 1) (xs := acc) (ys := [atI s (i + 1)]) (by simp; omega), w64s (i + 1) (by omega)]
            · rw [if_neg hd]
              refine ⟨_, lp_out (b := .inr (⟨#[]⟩, false, ((i + 1 : Nat) : Int))) ?_, rfl⟩
              have e6 : (bif (atI s (i + 1) != 34) then (some (atI s (i + 1) != 92)) else (some false) : Option Bool) = some true := by
                have a1 : (atI s (i + 1) != 34) = true := by simp; omega
                have a2 : (atI s (i + 1) != 92) = true := by simp; omega
                rw [a1, a2]; rfl
              simp only [literal_reader_text_h_l1, lt_len h, cond_true, (at_lt h).1, Option.bind_some, e1, strings_Builder_Len_h, e3, cond_false, i32_byte, plain_eq, e4, Bool.not_true, e5, w64s i (by omega), peek_eq, e6, Sum.elim_inr]
          · rw [if_neg h92]
            have e5 : (atI s i == 92) = false := by simpa using h92
            simp only [Pr.ev]
            obtain ⟨b, hb1, hb2⟩ := ih (acc ++ [atI s i]) (i + 1) n (by simp; omega) (by omega) (by omega)
            refine ⟨b, ?_, hb2⟩
            rw [← hb1]
            refine lp_go ?_
            simp only [literal_reader_text_h_l1, lt_len h, cond_true, (at_lt h).1, Option.bind_some, e1, strings_Builder_Len_h, e3, cond_false, i32_byte, plain_eq, e4, Bool.not_true, e5, Sum.elim_inl, strings_Builder_WriteByte_h, strings_Builder_copyCheck_h,
              app_eq (b := 1) (xs := acc) (ys := [atI s i]) (by simp; omega), w64s i (by omega)]
    · have e1 : decide ((i : Int) < (s.size : Int)) = false := decide_eq_false (by omega)
      refine ⟨_, lp_out (b := .inl (i : Int)) (by simp only [literal_reader_text_h_l1, e1, cond_false]), ?_⟩
      unfold bodyP
      simp only [Pr.ev, at_ge (Nat.le_of_not_lt h)]
      rw [if_neg (by omega), if_pos (by omega)]
      rfl
theorem text_eq {s : ByteArray} {least most : Nat} (hs : s.size ≤ 1000000) (hm : most ≤ 4000000) {i : Nat} (hi : i ≤ s.size) :
    literal_reader_text_h ⟨s, (i : Int)⟩ (least : Int) (most : Int) = some (tOut ((textP least most).ev s i)) := by
  unfold literal_reader_text_h
  rw [word_eq hs (by decide) (by decide) hi]
  rw [show wl (⟨#[34]⟩ : ByteArray) = [34] from rfl]
  simp only [wordP, textP, Pr.ev, Option.bind_some]
  by_cases h : atI s i = 34
  · rw [if_pos h, if_pos h]
    simp only [Pr.ev]
    obtain ⟨b, hb1, hb2⟩ := text_loop s i least most hs hm most [] (i + 1) fuel (by simp) (at_in (by omega)) (lt_fuel (by omega))
    have hb1' : loopN (literal_reader_text_h_l1 ⟨s, (i : Int)⟩ (least : Int) (most : Int)) fuel (((i + 1 : Nat) : Int), ([] : List Int)) = some b := hb1
    simp only [Option.isSome_some, Bool.not_true, cond_false, hb1', Option.bind_some, ← hb2]
    cases b <;> rfl
  · rw [if_neg h, if_neg h]
    rfl
/-! numbers -/
theorem wu8_byte {n : Int} (h0 : 0 ≤ n) (h1 : n ≤ 255) : w64 (wu8 n) = n := by
  have e : wu8 n = n := by
    simp [wu8, IntKind.wrap, IntKind.signed, IntKind.bits, IntKind.min, IntKind.max]
    omega
  rw [e]; exact w64_eq (by omega) (by omega)
theorem digits_loop (s : ByteArray) (i0 : Int) (hs : s.size ≤ 1000000) : ∀ (f : Nat) (m : Int) (i n : Nat), f ≤ 7 → 0 < m → m ≤ 1000000 → (10 : Int) ^ (7 - f) ≤ m → i ≤ s.size → f < n →
    loopN (literal_reader_number_h_l1 ⟨s, i0⟩) n (m, atI s i, (i : Int)) = some (((digitsP f m).ev s i).1.getD 0, (((digitsP f m).ev s i).2 : Int)) ∧ 0 < ((digitsP f m).ev s i).1.getD 0 ∧ ((digitsP f m).ev s i).1.isSome = true ∧ ((digitsP f m).ev s i).1.getD 0 ≤ 1000000 ∧
    loopN (synthesisref02_integer_l1 s) n ((i : Int), m) = some ((((digitsP f m).ev s i).2 : Int), ((digitsP f m).ev s i).1.getD 0) := by
  intro f
  induction f with
  | zero => intro m i n _ h0 h1 h2; exact absurd h2 (by simp; omega)
  | succ f ih =>
    intro m i n hf h0 h1 h2 hi hn
    obtain ⟨n, rfl⟩ : ∃ m, n = m + 1 := ⟨n - 1, by omega⟩
    have hr := at_range s i
    unfold digitsP
    rw [if_neg (by omega)]
    simp only [Pr.ev]
    have ew : atI s i - 48 ≤ 255 := by omega
    by_cases hc : 48 ≤ atI s i ∧ atI s i ≤ 57 ∧ m * 10 + (atI s i - 48) ≤ 1000000
    · rw [if_pos hc]
      simp only [Pr.ev]
      have hf1 : 1 ≤ f := by
        rcases Nat.eq_zero_or_pos f with rfl | h
        · exfalso
          have : (10 : Int) ^ (7 - (0 + 1)) = 1000000 := by decide
          omega
        · exact h
      have hp : (10 : Int) ^ (7 - f) = 10 ^ (7 - (f + 1)) * 10 := by rw [← Int.pow_succ]; congr 1; omega
      obtain ⟨k1, k2, k3, k4, k5⟩ := ih (m * 10 + (atI s i - 48)) (i + 1) n (by omega) (by omega) (by omega) (by rw [hp]; omega) (at_in (by omega)) (by omega)
      have w1 := wu8_byte (n := atI s i - 48) (by omega) (by omega)
      have w2 : w64 (10 * m) = 10 * m := w64_eq (by omega) (by omega)
      have w2' : w64 (m * 10) = m * 10 := w64_eq (by omega) (by omega)
      have w3 : w64 (10 * m + (atI s i - 48)) = m * 10 + (atI s i - 48) := by rw [Int.mul_comm 10 m]; exact w64_eq (by omega) (by omega)
      have w3' : w64 (m * 10 + (atI s i - 48)) = m * 10 + (atI s i - 48) := w64_eq (by omega) (by omega)
      have d1 : decide (48 ≤ atI s i) = true := decide_eq_true hc.1
      have d2 : decide (atI s i ≤ 57) = true := decide_eq_true hc.2.1
      have d3 : decide (m * 10 + (atI s i - 48) ≤ 1000000) = true := decide_eq_true hc.2.2
      have d4 : decide (0 < m) = true := decide_eq_true h0
      refine ⟨?_, k2, k3, k4, ?_⟩
      · rw [← k1]
        refine lp_go ?_
        simp only [literal_reader_number_h_l1, d1, d2, d3, d4, w1, w2, w3, cond_true, Option.bind_some, w64s i (by omega), peek_eq]
      · rw [← k5]
        refine lp_go ?_
        simp only [synthesisref02_integer_l1, at_eq, d1, d2, d3, d4, w1, w2', w3', cond_true, Option.bind_some, w64s i (by omega)]
    · rw [if_neg hc]
      refine ⟨lp_out ?_, h0, rfl, h1, lp_out ?_⟩
      all_goals
        have d4 : decide (0 < m) = true := decide_eq_true h0
        by_cases c1 : 48 ≤ atI s i
        · by_cases c2 : atI s i ≤ 57
          · have w1 := wu8_byte (n := atI s i - 48) (by omega) (by omega)
            have w2 : w64 (10 * m) = 10 * m := w64_eq (by omega) (by omega)
            have w2' : w64 (m * 10) = m * 10 := w64_eq (by omega) (by omega)
            have w3 : w64 (10 * m + (atI s i - 48)) = m * 10 + (atI s i - 48) := by rw [Int.mul_comm 10 m]; exact w64_eq (by omega) (by omega)
            have w3' : w64 (m * 10 + (atI s i - 48)) = m * 10 + (atI s i - 48) := w64_eq (by omega) (by omega)
            have d1 : decide (48 ≤ atI s i) = true := decide_eq_true c1
            have d2 : decide (atI s i ≤ 57) = true := decide_eq_true c2
            have d3 : decide (m * 10 + (atI s i - 48) ≤ 1000000) = false := decide_eq_false (by omega)
            simp only [literal_reader_number_h_l1, synthesisref02_integer_l1, at_eq, d1, d2, d3, d4, w1, w2, w2', w3, w3', cond_true, cond_false, Option.bind_some]
            rfl
          · have d1 : decide (48 ≤ atI s i) = true := decide_eq_true c1
            have d2 : decide (atI s i ≤ 57) = false := decide_eq_false c2
            simp only [literal_reader_number_h_l1, synthesisref02_integer_l1, at_eq, d1, d2, d4, cond_true, cond_false, Option.bind_some]
            rfl
        · have d1 : decide (48 ≤ atI s i) = false := decide_eq_false c1
          simp only [literal_reader_number_h_l1, synthesisref02_integer_l1, at_eq, d1, d4, cond_true, cond_false, Option.bind_some]
          rfl
/-- what is read of a number -/
def nOut (x : Option Int × Nat) : Bool × Int × Int := (x.1.isSome, (x.2 : Int), x.1.getD 0)
theorem digits0 (s : ByteArray) (f i : Nat) : (digitsP f 0).ev s i = (some 0, i) := by
  cases f with
  | zero => rfl
  | succ f => unfold digitsP; rw [if_pos (by omega)]; rfl
theorem number_eq {s : ByteArray} (hs : s.size ≤ 1000000) {i : Nat} (hi : i ≤ s.size) : literal_reader_number_h ⟨s, (i : Int)⟩ = some (nOut (numP.ev s i)) := by
  have key : ∀ (neg : Bool) (sg : Int) (j : Nat), j ≤ s.size → sg = (if neg = true then -1 else 1) → ¬ (neg = false ∧ atI s j = 48) →
      (Option.bind (loopN (literal_reader_number_h_l1 ⟨s, (i : Int)⟩) fuel (0, atI s j, (j : Int))) fun (v13 : Int × Int) => (some ((decide (0 < v13.1)), v13.2, (w64 (sg * v13.1))) : Option (Bool × Int × Int))) = some (nOut ((unsP neg).ev s j)) := by
    intro neg sg j hj hsg hne
    have hr := at_range s j
    obtain ⟨n, hn⟩ : ∃ n, fuel = n + 1 := ⟨_, fuel_succ⟩
    have hn9 : 9 < n := by have := lt_fuel (n := 10) (by omega); omega
    unfold unsP
    simp only [Pr.ev]
    by_cases hb : atI s j < 48 ∨ 57 < atI s j ∨ (neg = true ∧ atI s j = 48)
    · rw [if_pos hb]
      have : loopN (literal_reader_number_h_l1 ⟨s, (i : Int)⟩) fuel (0, atI s j, (j : Int)) = some (0, (j : Int)) := by
        rw [hn]
        refine lp_out ?_
        rcases hb with hb | hb | hb
        · have d1 : decide (48 ≤ atI s j) = false := decide_eq_false (by omega)
          simp only [literal_reader_number_h_l1, d1, cond_false, Option.bind_some]
        · have d1 : decide (48 ≤ atI s j) = true := decide_eq_true (by omega)
          have d2 : decide (atI s j ≤ 57) = false := decide_eq_false (by omega)
          simp only [literal_reader_number_h_l1, d1, d2, cond_true, cond_false, Option.bind_some]
        · have d1 : decide (48 ≤ atI s j) = true := decide_eq_true (by omega)
          have d2 : decide (atI s j ≤ 57) = true := decide_eq_true (by omega)
          have d3 : decide (48 < atI s j) = false := decide_eq_false (by omega)
          simp only [literal_reader_number_h_l1, d1, d2, d3, show decide ((0 : Int) < 0) = false from rfl, cond_true, cond_false, Option.bind_some]
      rw [this, Option.bind_some, show w64 (sg * 0) = 0 by rw [Int.mul_zero]; rfl]
      rfl
    · rw [if_neg hb]
      have g1 : 48 ≤ atI s j := Int.not_lt.1 fun h => hb (.inl h)
      have g2 : atI s j ≤ 57 := Int.not_lt.1 fun h => hb (.inr (.inl h))
      have g3 : atI s j ≠ 48 := fun h => by
        cases hn : neg with
        | true => exact hb (.inr (.inr ⟨hn, h⟩))
        | false => exact hne ⟨hn, h⟩
      have h48 : 48 < atI s j := by omega
      simp only [Pr.ev, ev_bind]
      obtain ⟨k1, k2, k3, k4, k5⟩ := digits_loop s i hs 7 (atI s j - 48) (j + 1) n (by omega) (by omega) (by omega) (by simp; omega) (at_in (by omega)) (by omega)
      have w1 := wu8_byte (n := atI s j - 48) (by omega) (by omega)
      have : loopN (literal_reader_number_h_l1 ⟨s, (i : Int)⟩) fuel (0, atI s j, (j : Int)) = some (((digitsP 7 (atI s j - 48)).ev s (j + 1)).1.getD 0, (((digitsP 7 (atI s j - 48)).ev s (j + 1)).2 : Int)) := by
        rw [hn, ← k1]
        refine lp_go ?_
        have d1 : decide (48 ≤ atI s j) = true := decide_eq_true (by omega)
        have d2 : decide (atI s j ≤ 57) = true := decide_eq_true (by omega)
        have d3 : decide (48 < atI s j) = true := decide_eq_true (by omega)
        have d5 : decide (atI s j - 48 ≤ 1000000) = true := decide_eq_true (by omega)
        have w2 : w64 (10 * 0) = 0 := rfl
        have w3 : w64 (0 + (atI s j - 48)) = atI s j - 48 := by rw [Int.zero_add]; exact w64_eq (by omega) (by omega)
        simp only [literal_reader_number_h_l1, d1, d2, d3, d5, w1, w2, w3, show decide ((0 : Int) < 0) = false from rfl, cond_true, cond_false, Option.bind_some, w64s j (by omega), peek_eq]
      rw [this, Option.bind_some]
      generalize (digitsP 7 (atI s j - 48)).ev s (j + 1) = x at k2 k3 k4 ⊢
      obtain ⟨_ | m, j'⟩ := x
      · cases k3
      · simp only [Option.getD_some] at k2 k4 ⊢
        rw [decide_eq_true k2]
        have : w64 (sg * m) = if neg = true then -m else m := by
          rw [hsg]
          cases neg with
          | true => simp only [if_true]; rw [show (-1 : Int) * m = -m by omega]; exact w64_eq (by omega) (by omega)
          | false => simp only [Bool.false_eq_true, if_false]; rw [Int.one_mul]; exact w64_eq (by omega) (by omega)
        rw [this]
        rfl
  unfold literal_reader_number_h numP
  simp only [Pr.ev, peek_eq, Option.bind_some]
  by_cases h45 : atI s i = 45
  · have e1 : (atI s i == 45) = true := by rw [h45]; rfl
    rw [if_pos h45]
    simp only [Pr.ev]
    rw [← key true (-1) (i + 1) (at_in (by omega)) rfl (fun h => by cases h.1)]
    simp only [e1, cond_true, Option.bind_some, w64s i (by omega), show ((-1 : Int) == 1) = false from rfl, cond_false, peek_eq]
  · have e1 : (atI s i == 45) = false := by simpa using h45
    rw [if_neg h45]
    by_cases h48 : atI s i = 48
    · have e2 : (atI s i == 48) = true := by rw [h48]; rfl
      simp only [e1, e2, cond_true, cond_false, Option.bind_some, show ((1 : Int) == 1) = true from rfl, peek_eq, w64s i (by omega)]
      unfold unsP
      simp only [Pr.ev, h48]
      rw [if_neg (by simp)]
      simp only [Pr.ev, ev_bind, show (48 : Int) - 48 = 0 from rfl, digits0]
      rfl
    · have e2 : (atI s i == 48) = false := by simpa using h48
      rw [← key false 1 i hi rfl (fun h => h48 h.2)]
      simp only [e1, e2, cond_true, cond_false, Option.bind_some, show ((1 : Int) == 1) = true from rfl, peek_eq]
/-! two hexadecimal digits -/
theorem hex_eq (s : ByteArray) (i : Nat) : literal_hex (atI s i) = some (hexV (atI s i)) ∧ synthesisref02_digit (atI s i) = some (hexV (atI s i)) := by
  have hr := at_range s i
  have key : ∀ n : Fin 256, literal_hex ((n.val : Nat) : Int) = some (hexV ((n.val : Nat) : Int)) ∧ synthesisref02_digit ((n.val : Nat) : Int) = some (hexV ((n.val : Nat) : Int)) := by decide
  have := key ⟨(atI s i).toNat, by omega⟩
  rwa [show (((atI s i).toNat : Nat) : Int) = atI s i by omega] at this
end Go.Proofs.YtijkipikefpopaaDoor
