/- What the program reads and what the reference reads is what one reader reads: words, texts, numbers. -/
import Derived.Test.YtijkipikefpopaaDoorPr
import Derived.Test.YtijkipikefpopaaDoorVr
set_option linter.unusedVariables false
set_option linter.unusedSimpArgs false
set_option maxRecDepth 10000
namespace Go.Proofs.YtijkipikefpopaaDoor
open Go Go.RowKit

def atI (s : ByteArray) (i : Nat) : Int := hd (s.data.toList.drop i)
theorem at_lt {s : ByteArray} {i : Nat} (h : i < s.size) : byt s (i : Int) = some (atI s i) ∧ s.data.toList.drop i = (s.data.toList[i]'(by rw [← size_list]; exact h)) :: s.data.toList.drop (i + 1) ∧ atI s i = ((s.data.toList[i]'(by rw [← size_list]; exact h)).toNat : Int) := by
  have h' : i < s.data.toList.length := by rw [← size_list]; exact h
  have d := List.drop_eq_getElem_cons h'
  refine ⟨?_, d, ?_⟩
  · rw [byt_list, List.getElem?_eq_getElem h', atI, d]; rfl
  · rw [atI, d]; rfl
theorem at_ge {s : ByteArray} {i : Nat} (h : s.size ≤ i) : atI s i = 0 := by rw [atI, List.drop_eq_nil_of_le (by rw [← size_list]; exact h)]; rfl
theorem at_range (s : ByteArray) (i : Nat) : 0 ≤ atI s i ∧ atI s i ≤ 255 := by
  by_cases h : i < s.size
  · rw [(at_lt h).2.2]
    have := (s.data.toList[i]'(by rw [← size_list]; exact h)).toNat_lt
    omega
  · rw [at_ge (by omega)]; decide
theorem at_in {s : ByteArray} {i : Nat} (h : atI s i ≠ 0) : i < s.size := by
  by_cases h' : i < s.size
  · exact h'
  · exact absurd (at_ge (by omega)) h
/-- reading, the place kept -/
def Pr.ev {α : Type} (s : ByteArray) : Pr α → Nat → Option α × Nat
  | .done a, i => (some a, i)
  | .fail, i => (none, i)
  | .peek k, i => (k (atI s i)).ev s i
  | .adv p, i => p.ev s (i + 1)
theorem ev_bind {α β : Type} (s : ByteArray) (f : α → Pr β) : ∀ (p : Pr α) (i : Nat), (p.bind f).ev s i = match p.ev s i with
    | (some a, j) => (f a).ev s j
    | (none, j) => (none, j)
  | .done a, i => rfl
  | .fail, i => rfl
  | .peek k, i => ev_bind s f (k (atI s i)) i
  | .adv p, i => ev_bind s f p (i + 1)
theorem ev_le {α : Type} {s : ByteArray} : ∀ (p : Pr α) (b : Bool) (i : Nat), p.good b → (b = true → i < s.size) → i ≤ s.size → i ≤ (p.ev s i).2 ∧ (p.ev s i).2 ≤ s.size
  | .done a, b, i, _, _, h => ⟨Nat.le_refl _, h⟩
  | .fail, b, i, _, _, h => ⟨Nat.le_refl _, h⟩
  | .peek k, b, i, hg, hb, h => by
    show i ≤ ((k (atI s i)).ev s i).2 ∧ ((k (atI s i)).ev s i).2 ≤ s.size
    by_cases h0 : atI s i = 0
    · rw [h0]; exact ev_le (k 0) false i hg.1 (fun h => by cases h) h
    · exact ev_le (k _) true i (hg.2 _ h0) (fun _ => at_in h0) h
  | .adv p, b, i, hg, hb, h => by
    have := ev_le p false (i + 1) hg.2 (fun h => by cases h) (hb hg.1)
    exact ⟨by show i ≤ (p.ev s (i + 1)).2; omega, this.2⟩
theorem ev_le' {α : Type} {s : ByteArray} {p : Pr α} {i : Nat} (hg : p.good false) (h : i ≤ s.size) : i ≤ (p.ev s i).2 ∧ (p.ev s i).2 ≤ s.size := ev_le p false i hg (fun h => by cases h) h
/-- what is read holds this -/
def Pr.all {α : Type} (P : α → Prop) : Pr α → Prop
  | .done a => P a
  | .fail => True
  | .peek k => ∀ c, (k c).all P
  | .adv p => p.all P
theorem w64n (n : Nat) (h : n ≤ 4000000000) : w64 (n : Int) = n := w64_eq (by omega) (by omega)
theorem w64s (n : Nat) (h : n ≤ 4000000000) : w64 ((n : Int) + 1) = ((n + 1 : Nat) : Int) := w64_succ (by omega)
theorem peek_eq (s : ByteArray) (i : Nat) : literal_reader_peek_h ⟨s, (i : Int)⟩ = some (atI s i) := by
  unfold literal_reader_peek_h
  by_cases h : i < s.size
  · simp only [lt_len h, cond_true, (at_lt h).1, Option.bind_some]
  · have : decide ((i : Int) < (s.size : Int)) = false := decide_eq_false (by omega)
    simp only [this, cond_false, at_ge (Nat.le_of_not_lt h)]
theorem at_eq (s : ByteArray) (i : Nat) : synthesisref02_at s (i : Int) = some (atI s i) := by
  unfold synthesisref02_at
  by_cases h : i < s.size
  · simp only [lt_len h, cond_true, (at_lt h).1, Option.bind_some]
  · have : decide ((i : Int) < (s.size : Int)) = false := decide_eq_false (by omega)
    simp only [this, cond_false, at_ge (Nat.le_of_not_lt h)]
theorem lp_go {σ β : Type} {st : σ → Option (σ ⊕ β)} {s s' : σ} {n : Nat} (h : st s = some (.inl s')) : loopN st (n + 1) s = loopN st n s' := by rw [loopN, h]
theorem lp_out {σ β : Type} {st : σ → Option (σ ⊕ β)} {s : σ} {b : β} {n : Nat} (h : st s = some (.inr b)) : loopN st (n + 1) s = some b := by rw [loopN, h]

/-! words -/
def wl (w : ByteArray) : List Int := w.data.toList.map fun c => (c.toNat : Int)
theorem wl_len (w : ByteArray) : (wl w).length = w.size := by unfold wl; rw [List.length_map, size_list]
theorem wl_step {w : ByteArray} {m : Nat} {c : Int} {l : List Int} (h : (wl w).drop m = c :: l) : m < w.size ∧ atI w m = c ∧ (wl w).drop (m + 1) = l := by
  have hm : m < w.size := by
    rw [← wl_len]
    by_cases h' : m < (wl w).length
    · exact h'
    · rw [List.drop_eq_nil_of_le (by omega)] at h; cases h
  obtain ⟨b1, b2, b3⟩ := at_lt hm
  have : (wl w).drop m = atI w m :: (wl w).drop (m + 1) := by
    unfold wl
    rw [← List.map_drop, b2, List.map_cons, List.map_drop, b3]
  rw [this] at h
  exact ⟨hm, (List.cons.inj h).1, (List.cons.inj h).2⟩
theorem word_loop (s w : ByteArray) (i0 : Int) (hs : s.size ≤ 1000000) (hw : w.size ≤ 1000000) : ∀ (l : List Int) (m i n : Nat), (wl w).drop m = l → (∀ x ∈ l, x ≠ 0) → i ≤ s.size → l.length < n →
    loopN (literal_reader_word_h_l1 ⟨s, i0⟩ w) n ((m : Int), (i : Int)) = some (((wordP l).ev s i).1.elim (.inr (((wordP l).ev s i).2 : Int)) fun _ => .inl (((wordP l).ev s i).2 : Int))
  | [], m, i, n + 1, hl, h0, hi, _ => by
    have hm : w.size ≤ m := by rw [← wl_len]; exact List.drop_eq_nil_iff.1 hl
    refine lp_out ?_
    have : decide ((m : Int) < (w.size : Int)) = false := decide_eq_false (by omega)
    simp only [literal_reader_word_h_l1, this, cond_false]
    rfl
  | c :: l, m, i, n + 1, hl, h0, hi, hn => by
    obtain ⟨hm, hc, hl'⟩ := wl_step hl
    have b1 := (at_lt hm).1
    have hc0 : c ≠ 0 := h0 _ (List.mem_cons_self ..)
    simp only [wordP, Pr.ev]
    by_cases h : i < s.size
    · have e1 : decide ((s.size : Int) ≤ (i : Int)) = false := decide_eq_false (by omega)
      by_cases he : atI s i = c
      · rw [if_pos he]
        simp only [Pr.ev]
        rw [← word_loop s w i0 hs hw l (m + 1) (i + 1) n hl' (fun x hx => h0 x (List.mem_cons_of_mem _ hx)) (by omega) (by simpa using hn)]
        refine lp_go ?_
        have e2 : (atI s i != c) = false := by rw [he]; simp
        simp only [literal_reader_word_h_l1, lt_len hm, cond_true, e1, cond_false, (at_lt h).1, b1, hc, Option.bind_some, e2, w64s m (by omega), w64s i (by omega)]
      · rw [if_neg he]
        refine lp_out ?_
        have e2 : (atI s i != c) = true := by simpa using he
        simp only [literal_reader_word_h_l1, lt_len hm, cond_true, e1, cond_false, (at_lt h).1, b1, hc, Option.bind_some, e2]
        rfl
    · have e1 : decide ((s.size : Int) ≤ (i : Int)) = true := decide_eq_true (by omega)
      rw [if_neg (by rw [at_ge (by omega)]; exact fun h => hc0 h.symm)]
      refine lp_out ?_
      simp only [literal_reader_word_h_l1, lt_len hm, cond_true, e1, Option.bind_some]
      rfl
theorem word_eq {s w : ByteArray} (hs : s.size ≤ 1000000) (hw : w.size ≤ 1000000) (h0 : ∀ x ∈ wl w, x ≠ 0) {i : Nat} (hi : i ≤ s.size) :
    literal_reader_word_h ⟨s, (i : Int)⟩ w = some (((wordP (wl w)).ev s i).1.isSome, (((wordP (wl w)).ev s i).2 : Int)) := by
  unfold literal_reader_word_h
  have := word_loop s w i hs hw _ 0 i fuel rfl (by simpa using h0) hi (by rw [List.drop_zero, wl_len]; exact lt_fuel (by omega))
  rw [List.drop_zero] at this
  rw [show ((0 : Int), (⟨s, (i : Int)⟩ : S_literal_reader).f_at) = (((0 : Nat) : Int), (i : Int)) from rfl, this, Option.bind_some]
  cases ((wordP (wl w)).ev s i).1 <;> rfl
/-! texts -/
theorem toBA_data (xs : List Int) : (toBA xs).data.toList = xs.map fun n => UInt8.ofNat n.toNat := by
  have key : ∀ (xs : List Int) (r : ByteArray), (xs.foldl (fun r n => r.push (UInt8.ofNat n.toNat)) r).data.toList = r.data.toList ++ xs.map fun n => UInt8.ofNat n.toNat := by
    intro xs
    induction xs with
    | nil => intro r; simp
    | cons x xs ih => intro r; rw [List.foldl_cons, ih]; simp [ByteArray.push]
  unfold toBA
  rw [key]
  rfl
theorem toBA_size (xs : List Int) : (toBA xs).size = xs.length := by rw [size_list, toBA_data, List.length_map]
theorem ba_ext {a b : ByteArray} (h : a.data.toList = b.data.toList) : a = b := by
  cases a; cases b; congr 1; exact Array.toList_inj.1 h
theorem toBA_append (xs ys : List Int) : toBA xs ++ toBA ys = toBA (xs ++ ys) := by
  apply ba_ext
  rw [toBA_data, List.map_append, ← toBA_data, ← toBA_data]
  simp [ByteArray.data_append]
theorem cut_one {s : ByteArray} {i : Nat} (h : i < s.size) : cutS s (i : Int) ((i + 1 : Nat) : Int) = some (toBA [atI s i]) := by
  unfold cutS
  rw [if_pos ⟨by omega, by omega, by omega⟩]
  congr 1
  apply ba_ext
  rw [toBA_data, (at_lt h).2.2]
  have e : (s.extract (i : Int).toNat ((i + 1 : Nat) : Int).toNat).data.toList = (s.data.toList.take (i + 1)).drop i := by
    simp [ByteArray.data_extract, Array.toList_extract, List.drop_take]
  rw [e, List.drop_take, (at_lt h).2.1]
  simp
theorem i32_byte (s : ByteArray) (i : Nat) : IntKind.i32.wrap (atI s i) = atI s i := by
  have := at_range s i
  simp [IntKind.wrap, IntKind.signed, IntKind.bits, IntKind.min, IntKind.max]
  omega
theorem plain_eq (c : Int) : literal_plain c = some (plainI c) := by
  unfold literal_plain plainI
  cases decide (32 ≤ c) <;> cases decide (c ≤ 126) <;> rfl
/-- the reference's -/
def qOut (x : Option (List Int) × Nat) : ByteArray × Int × Bool := (x.1.elim ⟨#[]⟩ toBA, (x.2 : Int), x.1.isSome)
/-! numbers -/
/-! two hexadecimal digits -/
theorem hex_eq (s : ByteArray) (i : Nat) : literal_hex (atI s i) = some (hexV (atI s i)) ∧ synthesisref02_digit (atI s i) = some (hexV (atI s i)) := by
  have hr := at_range s i
  have key : ∀ n : Fin 256, literal_hex ((n.val : Nat) : Int) = some (hexV ((n.val : Nat) : Int)) ∧ synthesisref02_digit ((n.val : Nat) : Int) = some (hexV ((n.val : Nat) : Int)) := by decide
  have := key ⟨(atI s i).toNat, by omega⟩
  rwa [show (((atI s i).toNat : Nat) : Int) = atI s i by omega] at this
end Go.Proofs.YtijkipikefpopaaDoor
