/- Words for memory: a slice that reads as a list of things, whatever they are; a row of the call's own that does; how they are kept. -/
import Derived.Test.YtpcfkflhnkfjjaaRel
import Derived.Maps.AppendAt
import Derived.Deep.AppendLies
set_option linter.unusedVariables false
set_option linter.unusedSimpArgs false
namespace Go.Proofs.Ytpcfkflhnkfjjaa
open Go Go.RowKit

def InI64 (n : Int) : Prop := -9223372036854775808 ≤ n ∧ n ≤ 9223372036854775807

/-- the cells lie from offset o of block b on -/
def At (w : World) (b o : Nat) (cs : List Value) : Prop := ∀ j u, cs[j]? = some u → w.cell? ⟨b, o + j, none⟩ = some u

/-- the blocks of S that are there are as they were -/
def Same (S : Nat → Prop) (w w' : World) : Prop := ∀ b, S b → b < w.heap.size → w'.heap[b]? = w.heap[b]?

/-- a goal at which the walk stops -/
def Hold (p : Prop) : Prop := p
theorem Hold.stop {p : Prop} (h : Hold p) : p := h
theorem Hold.go {p : Prop} (h : p) : Hold p := h

abbrev Grow (w w' : World) : Prop := Below w.heap.size w w'

theorem Below.step {a b c : World} (h : Grow a b) (k : Grow b c) : Grow a c := Below.trans h (k.mono h.size)
theorem grow_alloc (w : World) (o : Obj) : Grow w (w.alloc o) := (Below.refl _ _).alloc (Nat.le_refl _) _
theorem grow_drew (w : World) : Grow w w.drew := (Below.refl _ _).drew
theorem grow_refl (w : World) : Grow w w := Below.refl _ _
theorem int_eq {k : IntKind} {a b : Int} (h : a = b) : Value.int k a = Value.int k b := by rw [h]
theorem ret_int {k : IntKind} {a b : Int} (h : a = b) : Ending.returned (.int k a) = .returned (.int k b) := by rw [h]

section
variable {T : Type} {S S' : Nat → Prop} {w w' w'' : World} {b o : Nat} {cs : List Value}

theorem cell_lt {w : World} {a : Addr} {u : Value} (h : w.cell? a = some u) : a.block < w.heap.size := by
  rcases Nat.lt_or_ge a.block w.heap.size with h' | h'
  · exact h'
  · simp [World.cell?, Array.getElem?_eq_none h'] at h

theorem Same.of_grow (h : Grow w w') : Same S w w' := fun b _ hb => h.block b hb
theorem Same.of_below {B : Nat} (h : Below B w w') (hS : ∀ b, S b → b < B) : Same S w w' := fun b hb _ => h.block b (hS b hb)
theorem Same.of_grown {row : Option Nat} (h : w.grownBy w' row) (hS : ∀ b, S b → some b ≠ row) : Same S w w' := fun b hb hl => h.block b hl (hS b hb)
theorem Same.set {a : Addr} (u : Value) (hS : ¬ S a.block) : Same S w (w.setCell a u) := fun b hb _ => Below.heap_setCell _ _ _ _ (fun e => hS (e ▸ hb))
theorem Same.trans (h : Same S w w') (hs : w.heap.size ≤ w'.heap.size) (k : Same S w' w'') : Same S w w'' :=
  fun b hb hl => (k b hb (by omega)).trans (h b hb hl)

theorem At.keep (h : At w b o cs) (hS : S b) (hk : Same S w w') : At w' b o cs := fun j u hu => by
  have h1 := h j u hu
  rw [World.cell?_of_block (w := w)]
  · exact h1
  · exact hk b hS (cell_lt h1)

/-- the slice v reads as the list xs, each element of so many cells -/
def RepSl (S : Nat → Prop) (w : World) (size : Nat) (R : List Value → T → Prop) (v : Value) (xs : List T) : Prop :=
  ∃ A cap, v = .slice A xs.length cap ∧ xs.length ≤ cap ∧ cap ≤ 9223372036854775807 ∧
    ∀ (i : Nat) (x : T), xs[i]? = some x → ∃ b o cs, A = some ⟨b, o, none⟩ ∧ S b ∧ At w b (o + i * size) cs ∧ cs.length = size ∧ R cs x

theorem RepSl.keep {size : Nat} {R R' : List Value → T → Prop} {v : Value} {xs : List T} (h : RepSl S w size R v xs) (hk : Same S w w') (hR : ∀ cs x, x ∈ xs → R cs x → R' cs x) : RepSl S w' size R' v xs := by
  obtain ⟨A, cap, hv, h1, h2, h3⟩ := h
  refine ⟨A, cap, hv, h1, h2, fun i x hx => ?_⟩
  obtain ⟨b, o, cs, hA, hS, hat, hl, hr⟩ := h3 i x hx
  exact ⟨b, o, cs, hA, hS, hat.keep hS hk, hl, hR cs x (List.mem_of_getElem? hx) hr⟩
theorem RepSl.mono {size : Nat} {R R' : List Value → T → Prop} {v : Value} {xs : List T} (h : RepSl S w size R v xs) (hS : ∀ b, S b → S' b) (hR : ∀ cs x, x ∈ xs → R cs x → R' cs x) : RepSl S' w size R' v xs := by
  obtain ⟨A, cap, hv, h1, h2, h3⟩ := h
  refine ⟨A, cap, hv, h1, h2, fun i x hx => ?_⟩
  obtain ⟨b, o, cs, hA, hb, hat, hl, hr⟩ := h3 i x hx
  exact ⟨b, o, cs, hA, hS b hb, hat, hl, hR cs x (List.mem_of_getElem? hx) hr⟩
/-- what is there lies below the heap's end -/
theorem RepSl.bound {size : Nat} {R : List Value → T → Prop} {v : Value} {xs : List T} (hs : 0 < size) (h : RepSl S w size R v xs) : RepSl (fun b => S b ∧ b < w.heap.size) w size R v xs := by
  obtain ⟨A, cap, hv, h1, h2, h3⟩ := h
  refine ⟨A, cap, hv, h1, h2, fun i x hx => ?_⟩
  obtain ⟨b, o, cs, hA, hb, hat, hl, hr⟩ := h3 i x hx
  refine ⟨b, o, cs, hA, ⟨hb, ?_⟩, hat, hl, hr⟩
  exact cell_lt (hat 0 cs[0] (List.getElem?_eq_getElem (by omega)))
theorem RepSl.nil {size cap : Nat} {R : List Value → T → Prop} {A : Option Addr} (hc : cap ≤ 9223372036854775807) : RepSl S w size R (.slice A 0 cap) [] :=
  ⟨A, cap, rfl, by simp, hc, fun i x h => by simp at h⟩

def Any : Nat → Prop := fun _ => True
def No : Nat → Prop := fun _ => False
/-- from block B on -/
def From (B : Nat) : Nat → Prop := fun b => B ≤ b
def Lt (B : Nat) : Nat → Prop := fun b => b < B
theorem From.mono {B B' : Nat} (h : B' ≤ B) : ∀ b, From B b → From B' b := fun b hb => Nat.le_trans h hb

/-- a result in new memory, of which so much is known -/
def RetR (Rp : (Nat → Prop) → World → Value → Prop) (w : World) (e : Ending) (w' : World) : Prop := ∃ v, e = .returned v ∧ Rp (From w.heap.size) w' v ∧ Grow w w'
theorem rel_fresh {P : Program} {f : FuncId} {args : Array Value} {w : World} {Rp : (Nat → Prop) → World → Value → Prop} {B : Nat} {hG : ∀ v w w', Rp (From B) w v → Below w.heap.size w w' → Rp (From B) w' v}
    (hm : ∀ {S S' : Nat → Prop} {w v}, Rp S w v → (∀ b, S b → S' b) → Rp S' w v) (hB : B ≤ w.heap.size) (h : Calls P f args w (RetR Rp w)) : Calls P f args w (RetBy (StepOk (.rel (fun v w => Rp (From B) w v) hG) w)) :=
  h.mono fun e w' ⟨v, he, hr, hb⟩ => ⟨v, he, hb, hm hr (From.mono hB)⟩

/-- numbers -/
def IntR (cs : List Value) (n : Int) : Prop := cs = [.int .i64 n] ∧ InI64 n
def Ints (S : Nat → Prop) (w : World) (v : Value) (ns : List Int) : Prop := RepSl S w 1 IntR v ns
theorem Ints.keep {v : Value} {ns : List Int} (h : Ints S w v ns) (hk : Same S w w') : Ints S w' v ns := RepSl.keep h hk fun _ _ _ h => h
theorem Ints.mono {v : Value} {ns : List Int} (h : Ints S w v ns) (hS : ∀ b, S b → S' b) : Ints S' w v ns := RepSl.mono h hS fun _ _ _ h => h
theorem Ints.bound {v : Value} {ns : List Int} (h : Ints S w v ns) : Ints (fun b => S b ∧ b < w.heap.size) w v ns := RepSl.bound (by omega) h
theorem Ints.form {v : Value} {ns : List Int} (h : Ints S w v ns) : ∃ A cap, v = .slice A ns.length cap ∧ ns.length ≤ cap ∧ cap ≤ 9223372036854775807 ∧
    ∀ i (hi : i < ns.length), InI64 ns[i] ∧ ∃ b o, A = some ⟨b, o, none⟩ ∧ S b ∧ w.cell? ⟨b, o + i, none⟩ = some (.int .i64 ns[i]) := by
  obtain ⟨A, cap, hv, h1, h2, h3⟩ := h
  refine ⟨A, cap, hv, h1, h2, fun i hi => ?_⟩
  obtain ⟨b, o, cs, hA, hb, hat, hl, hcs, hr⟩ := h3 i _ (List.getElem?_eq_getElem hi)
  refine ⟨hr, b, o, hA, hb, ?_⟩
  have := hat 0 (.int .i64 ns[i]) (by rw [hcs]; rfl)
  simpa using this

/-- a literal: a new block, element behind element -/
theorem flat_at {size : Nat} : ∀ (css : List (List Value)), (∀ cs ∈ css, cs.length = size) → ∀ (i : Nat) (cs : List Value), css[i]? = some cs → ∀ (j : Nat) (u : Value), cs[j]? = some u → css.flatten[i * size + j]? = some u
  | [], _, i, cs, h, _, _, _ => by simp at h
  | c :: css, hl, 0, cs, h, j, u, hj => by
    simp at h
    subst h
    have : j < c.length := (List.getElem?_eq_some_iff.1 hj).1
    simp only [List.flatten_cons, Nat.zero_mul, Nat.zero_add]
    rw [List.getElem?_append_left this]
    exact hj
  | c :: css, hl, i + 1, cs, h, j, u, hj => by
    have hc := hl c (by simp)
    simp only [List.flatten_cons]
    rw [List.getElem?_append_right (by rw [hc, Nat.add_mul]; omega), hc, show (i + 1) * size + j - size = i * size + j by rw [Nat.add_mul]; omega]
    exact flat_at css (fun x hx => hl x (by simp [hx])) i cs (by simpa using h) j u hj
theorem sl_lit {size : Nat} {R : List Value → T → Prop} {g : Nat} {cur : Array Value} {e : TypeId} {fr : Nat × Nat} (css : List (List Value)) (xs : List T) (hb : w.heap[g]? = some (.cells cur e fr)) (hcur : cur.toList = css.flatten) (hS : S g)
    (hl : ∀ cs ∈ css, cs.length = size) (hn : css.length = xs.length) (hm : xs.length ≤ 9223372036854775807) (hr : ∀ (i : Nat) (cs : List Value) (x : T), css[i]? = some cs → xs[i]? = some x → R cs x) : RepSl S w size R (.slice (some ⟨g, 0, none⟩) xs.length xs.length) xs := by
  refine ⟨_, _, rfl, Nat.le_refl _, hm, fun i x hx => ?_⟩
  have hi : i < css.length := by rw [hn]; exact (List.getElem?_eq_some_iff.1 hx).1
  have hcs : css[i]? = some css[i] := List.getElem?_eq_getElem hi
  refine ⟨g, 0, css[i], rfl, hS, fun j u hu => ?_, hl _ (List.getElem_mem hi), hr i _ x hcs hx⟩
  have := flat_at css hl i _ hcs j u hu
  simp only [World.cell?, hb]
  rw [← hcur] at this
  simpa [Nat.add_comm] using this

/-- a slice of the call's own (its row from block lo on) that reads as xs; what its elements lead to lies in D, beside the row -/
def Own (D : Nat → Prop) (lo : Nat) (e : TypeId) (size : Nat) (R : (Nat → Prop) → World → List Value → T → Prop) (w : World) (v : Value) (xs : List T) : Prop :=
  ∃ cs : List Value, w.ownsRow lo e size v xs.length cs ∧
    ∀ (i : Nat) (x : T), xs[i]? = some x → R (fun b => D b ∧ v.ownBlock ≠ some b) w ((cs.drop (i * size)).take size) x

/-- what a way of reading an element must bear -/
structure Kept (size : Nat) (R : (Nat → Prop) → World → List Value → T → Prop) : Prop where
  pos : 0 < size
  keep : ∀ {S w w' cs x}, R S w cs x → Same S w w' → R S w' cs x
  mono : ∀ {S S' : Nat → Prop} {w cs x}, R S w cs x → (∀ b, S b → S' b) → R S' w cs x
  bound : ∀ {S w cs x}, R S w cs x → R (fun b => S b ∧ b < w.heap.size) w cs x
  len : ∀ {S w cs x}, R S w cs x → cs.length = size
  one : ∀ {S w cs x}, R S w cs x → ∀ u ∈ cs, u.oneCell' = true

theorem keptInt : Kept 1 (fun _ _ cs (n : Int) => IntR cs n) :=
  ⟨by omega, fun h _ => h, fun h _ => h, fun h => h, fun h => by rw [h.1]; rfl, fun h u hu => by rw [h.1] at hu; simp at hu; subst hu; rfl⟩

variable {D : Nat → Prop} {lo : Nat} {e : TypeId} {size : Nat} {R : (Nat → Prop) → World → List Value → T → Prop} {v : Value} {xs : List T}

theorem Own.nil : Own D lo e size R w (.slice none 0 0) [] := ⟨[], World.ownsRow_nil _ _ _ _, fun i x h => by simp at h⟩

theorem Own.keep (K : Kept size R) (h : Own D lo e size R w v xs) (hk : Same (fun b => lo ≤ b ∨ D b) w w') : Own D lo e size R w' v xs := by
  obtain ⟨cs, ho, hx⟩ := h
  refine ⟨cs, ?_, fun i x hi => K.keep (hx i x hi) fun b hb hl => hk b (.inr hb.1) hl⟩
  obtain ⟨h1, h2⟩ := ho
  refine ⟨h1, h2.imp id ?_⟩
  rintro ⟨g, cap, cur, hv, hg, hh, r⟩
  have hlt : g < w.heap.size := by
    rcases Nat.lt_or_ge g w.heap.size with h' | h'
    · exact h'
    · simp [Array.getElem?_eq_none h'] at hh
  exact ⟨g, cap, cur, hv, hg, by rw [hk g (.inl hg) hlt]; exact hh, r⟩
theorem Own.grow (K : Kept size R) (h : Own D lo e size R w v xs) (hk : Grow w w') : Own D lo e size R w' v xs := h.keep K (Same.of_grow hk)
theorem Own.set (K : Kept size R) (h : Own D lo e size R w v xs) {a : Addr} (ha : a.block < lo) (hD : ¬ D a.block) (u : Value) : Own D lo e size R (w.setCell a u) v xs :=
  h.keep K (Same.set u (by rintro (h | h); omega; exact hD h))
theorem Own.weaken (K : Kept size R) {D' : Nat → Prop} {lo' : Nat} (h : Own D lo e size R w v xs) (hl : lo' ≤ lo) (hD : ∀ b, D b → D' b) : Own D' lo' e size R w v xs := by
  obtain ⟨cs, ho, hx⟩ := h
  refine ⟨cs, ⟨ho.1, ho.2.imp id ?_⟩, fun i x hi => K.mono (hx i x hi) fun b hb => ⟨hD b hb.1, hb.2⟩⟩
  rintro ⟨g, cap, cur, hv, hg, r⟩
  exact ⟨g, cap, cur, hv, by omega, r⟩

/-- it is a slice that reads as xs -/
theorem Own.rep (K : Kept size R) (h : Own D lo e size R w v xs) : RepSl (fun b => lo ≤ b) w size (R D w) v xs := by
  obtain ⟨cs, ho, hx⟩ := h
  have hcells := fun g hg => ho.cells (g := g) hg
  obtain ⟨h1, h2⟩ := ho
  rcases h2 with ⟨rfl, h0⟩ | ⟨g, cap, cur, rfl, hg, hh, hnc, hcm, _⟩
  · have : xs = [] := List.eq_nil_of_length_eq_zero h0
    subst this
    exact RepSl.nil (by omega)
  · refine ⟨some ⟨g, 0, none⟩, cap, rfl, hnc, by unfold maxLen at hcm; exact hcm, fun i x hi => ?_⟩
    have hr := hx i x hi
    refine ⟨g, 0, _, rfl, hg, ?_, K.len hr, K.mono hr fun b hb => hb.1⟩
    intro j u hu
    rw [List.getElem?_take] at hu
    split at hu
    · rw [List.getElem?_drop] at hu
      have := hcells g rfl _ u hu
      rw [show 0 + i * size + j = i * size + j by omega]
      simp only [Addr.add] at this
      split at this
      · rename_i h0; rw [h0]; exact this
      · simpa using this
    · cases hu

theorem Own.form (h : Own D lo e size R w v xs) : (v = .slice none 0 0 ∧ xs = []) ∨ ∃ g cap, v = .slice (some ⟨g, 0, none⟩) xs.length cap ∧ lo ≤ g ∧ g < w.heap.size ∧ xs.length ≤ cap ∧ cap ≤ 9223372036854775807 := by
  obtain ⟨cs, ⟨_, h2⟩, _⟩ := h
  rcases h2 with ⟨rfl, h0⟩ | ⟨g, cap, cur, rfl, hg, hh, hnc, hcm, _⟩
  · exact .inl ⟨rfl, List.eq_nil_of_length_eq_zero h0⟩
  · refine .inr ⟨g, cap, rfl, hg, ?_, hnc, by unfold maxLen at hcm; exact hcm⟩
    rcases Nat.lt_or_ge g w.heap.size with h' | h'
    · exact h'
    · simp [Array.getElem?_eq_none h'] at hh
theorem Own.block (h : Own D lo e size R w v xs) : ∀ g, v.ownBlock = some g → lo ≤ g ∧ g < w.heap.size := by
  intro g hg
  rcases h.form with ⟨rfl, _⟩ | ⟨g', cap, rfl, h1, h2, _⟩
  · cases hg
  · simp only [Value.ownBlock, Option.some.injEq] at hg
    subst hg
    exact ⟨h1, h2⟩

/-- the cells of a row of elements, one behind the other -/
theorem flat_of {b : Nat} {Q : List Value → T → Prop} : ∀ (ys : List T) (o : Nat), (∀ (i : Nat) (y : T), ys[i]? = some y → ∃ cs, At w b (o + i * size) cs ∧ cs.length = size ∧ Q cs y) →
    ∃ news : List Value, news.length = ys.length * size ∧ At w b o news ∧ ∀ (i : Nat) (y : T), ys[i]? = some y → Q ((news.drop (i * size)).take size) y
  | [], o, _ => ⟨[], by simp, fun j u h => by simp at h, fun i y h => by simp at h⟩
  | y :: ys, o, h => by
    obtain ⟨cs, hat, hl, hq⟩ := h 0 y rfl
    obtain ⟨news, hn, hnat, hnq⟩ := flat_of (b := b) (Q := Q) ys (o + size) fun i z hz => by
      have := h (i + 1) z (by simpa using hz)
      rwa [show o + (i + 1) * size = o + size + i * size by rw [Nat.add_mul]; omega] at this
    refine ⟨cs ++ news, by simp [hl, hn, Nat.add_mul]; omega, fun j u hu => ?_, fun i z hz => ?_⟩
    · by_cases hj : j < size
      · rw [List.getElem?_append_left (by omega)] at hu
        have := hat j u hu
        simpa using this
      · rw [List.getElem?_append_right (by omega), hl] at hu
        have := hnat _ u hu
        rwa [show o + size + (j - size) = o + j by omega] at this
    · cases i with
      | zero =>
        simp at hz
        subst hz
        simp only [Nat.zero_mul, List.drop_zero]
        rw [List.take_append_of_le_length (by omega), List.take_of_length_le (by omega)]
        exact hq
      | succ i =>
        have := hnq i z (by simpa using hz)
        rw [show (i + 1) * size = cs.length + i * size by rw [hl, Nat.add_mul]; omega, ← List.drop_drop, List.drop_left]
        exact this

/-- the element type of a slice type -/
def Elt (P : Program) (t e : TypeId) (size bytes : Nat) : Prop :=
  P.underlying t = some (.slice e) ∧ ∃ i z, P.info? e = some i ∧ i.zero = some z ∧ i.size = size ∧ i.bytes = bytes ∧ z.cells.size = size

theorem run_append_of_nil {P : Program} (lo : Nat) (t ty e : TypeId) (i : TypeInfo) (size : Nat) (ht : P.underlying t = some (.slice e)) (hi : P.info? e = some i)
    (v : Value) (n : Nat) (xs : List Value) (hown : w.ownsRow lo e size v n xs) (c : Nat) : (Builtin.append_ #[t, t] ty #[v, .slice none 0 c]).run P w = .ok v w := by
  rcases hown.2 with ⟨rfl, rfl⟩ | ⟨g, cap, cur, rfl, _, _, hnc, _⟩
  · simp [Builtin.append_, run_underlying ht, sizeOf, typeInfo, hi, Builtin.lenOf, Builtin.firstCells]
  · simp [Builtin.append_, run_underlying ht, sizeOf, typeInfo, hi, Builtin.lenOf, Builtin.firstCells, hnc, storeCells]

/-- append, whatever the source: it reads as ys -/
theorem run_append_Own {P : Program} {bytes : Nat} {t ty : TypeId} (E : Elt P t e size bytes) (K : Kept size R) (h : Own D lo e size R w v xs) {S : Nat → Prop} {s : Value} {ys : List T}
    (hs : RepSl S w size (R (fun b => D b ∧ v.ownBlock ≠ some b) w) s ys) (hbytes : (xs.length + ys.length) * bytes ≤ 140737488355328) (h63 : xs.length + ys.length ≤ 9223372036854775807) (hlo : lo ≤ w.heap.size) :
    ∃ v' w', (Builtin.append_ #[t, t] ty #[v, s]).run P w = .ok v' w' ∧ Own D lo e size R w' v' (xs ++ ys) ∧ w.grownBy w' v.ownBlock ∧
      (v'.ownBlock = v.ownBlock ∨ v'.ownBlock = some w.heap.size) := by
  obtain ⟨ht, i, z, hi, hz, hsize, hby, hzs⟩ := E
  obtain ⟨A, cap, rfl, hc1, hc2, hel⟩ := hs
  obtain ⟨cs, ho, hx⟩ := h
  -- the cells of the source
  have hsrc : ∃ (b o : Nat) (news : List Value), (ys ≠ [] → A = some ⟨b, o, none⟩) ∧ news.length = ys.length * size ∧ At w b o news ∧
      ∀ (i : Nat) (y : T), ys[i]? = some y → R (fun b => D b ∧ v.ownBlock ≠ some b) w ((news.drop (i * size)).take size) y := by
    cases ys with
    | nil => exact ⟨0, 0, [], by simp, by simp, fun j u h => by simp at h, fun i y h => by simp at h⟩
    | cons y ys =>
      obtain ⟨b, o, _, hA, _⟩ := hel 0 y rfl
      obtain ⟨news, h1, h2, h3⟩ := flat_of (b := b) (w := w) (size := size) (Q := R (fun b => D b ∧ v.ownBlock ≠ some b) w) (y :: ys) o fun i z hz => by
        obtain ⟨b', o', cs, hA', _, hat, hl, hr⟩ := hel i z hz
        rw [hA] at hA'
        injection hA' with hA'
        injection hA' with e1 e2
        subst e1 e2
        exact ⟨cs, hat, hl, hr⟩
      exact ⟨b, o, news, fun _ => hA, h1, h2, h3⟩
  obtain ⟨b, o, news, hA, hlen, hat, hq⟩ := hsrc
  have h1 : ∀ u ∈ news, u.oneCell' = true := by
    intro u hu
    obtain ⟨j, hj, rfl⟩ := List.mem_iff_getElem.1 hu
    have hpos := K.pos
    have hjy : j / size < ys.length := by
      rw [Nat.div_lt_iff_lt_mul hpos]; omega
    have hr := hq (j / size) _ (List.getElem?_eq_getElem hjy)
    refine K.one hr _ ?_
    rw [List.mem_iff_getElem?]
    refine ⟨j % size, ?_⟩
    rw [List.getElem?_take, if_pos (Nat.mod_lt _ hpos), List.getElem?_drop, show j / size * size + j % size = j by rw [Nat.mul_comm]; exact Nat.div_add_mod j size]
    exact List.getElem?_eq_getElem hj
  have both : ∀ v' w', w'.ownsRow lo e size v' (xs.length + ys.length) (cs ++ news) → w.grownBy w' v.ownBlock → (v'.ownBlock = v.ownBlock ∨ v'.ownBlock = some w.heap.size) → Own D lo e size R w' v' (xs ++ ys) := by
    intro v' w' ho' hg hb
    refine ⟨cs ++ news, by rw [List.length_append]; exact ho', fun j x hj => ?_⟩
    have hcl := ho.1
    -- what an element leads to is none of the new row's
    have lift : ∀ c, R (fun b => D b ∧ v.ownBlock ≠ some b) w c x → R (fun b => D b ∧ v'.ownBlock ≠ some b) w' c x := fun c hr =>
      K.mono (K.keep (K.bound hr) (Same.of_grown hg fun b hb => fun e => hb.1.2 e.symm)) fun b hb' => ⟨hb'.1.1, fun hv => by
        rcases hb with hb | hb
        · exact hb'.1.2 (by rw [← hb]; exact hv)
        · rw [hb] at hv; injection hv with hv; have := hb'.2; omega⟩
    by_cases hjx : j < xs.length
    · rw [List.getElem?_append_left hjx] at hj
      have hr := hx j x hj
      have hle : (j + 1) * size ≤ xs.length * size := Nat.mul_le_mul_right _ hjx
      rw [Nat.add_mul] at hle
      rw [List.drop_append_of_le_length (by omega), List.take_append_of_le_length (by rw [List.length_drop]; omega)]
      exact lift _ hr
    · rw [List.getElem?_append_right (by omega)] at hj
      have hr := hq _ x hj
      have : (cs ++ news).drop (j * size) = news.drop ((j - xs.length) * size) := by
        rw [show j * size = cs.length + (j - xs.length) * size by rw [hcl, ← Nat.add_mul]; congr 1; omega, ← List.drop_drop, List.drop_left]
      rw [this]
      exact lift _ hr
  by_cases hy : ys = []
  · subst hy
    have hn0 : news = [] := List.eq_nil_of_length_eq_zero (by simpa using hlen)
    subst hn0
    cases A with
    | none =>
      refine ⟨v, w, run_append_of_nil lo t ty e i size ht hi v _ cs ho cap, ?_, World.grownBy.refl w _, .inl rfl⟩
      have := both v w (by simpa using ho) (World.grownBy.refl w _) (.inl rfl)
      exact this
    | some ad =>
      obtain ⟨v', w', hr, h2, h3, _, h5⟩ := run_append_own_at (P := P) w lo t ty e i z size bytes ht hi hz hsize hby hzs K.pos v _ cs ho ad 0 cap [] (by simp) (fun j u h => by simp at h) (by simp) (by unfold maxLen; simp at h63; omega) hbytes hlo
      exact ⟨v', w', hr, both v' w' (by simpa using h2) h3 h5, h3, h5⟩
  · obtain rfl := hA hy
    obtain ⟨v', w', hr, h2, h3, _, h5⟩ := run_append_own_at (P := P) w lo t ty e i z size bytes ht hi hz hsize hby hzs K.pos v _ cs ho ⟨b, o, none⟩ ys.length cap news hlen
      (fun j u h => by
        have := hat j u h
        simp only [Addr.add]
        split
        · rename_i h0; subst h0; simpa using this
        · exact this) h1 (by unfold maxLen; omega) hbytes hlo
    exact ⟨v', w', hr, both v' w' h2 h3 h5, h3, h5⟩

theorem wpList_append_Own {P : Program} {bytes : Nat} {t : TypeId} {ops : Array Oper} {rest : List Oper} {o : Oper} {a : Act} {Q : Exit → Act → World → Prop} (E : Elt P t e size bytes) (K : Kept size R) (hgd : o.guard = none) (p q : Operand)
    (ho : o.op = .call { callee := .builtin .append, args := #[p, q], argTypes := #[t, t] }) {s : Value} {ys : List T} (hp : a.eval p = v) (hq : a.eval q = s)
    (h : Own D lo e size R w v xs) {S : Nat → Prop} (hs : RepSl S w size (R (fun b => D b ∧ v.ownBlock ≠ some b) w) s ys) (hbytes : (xs.length + ys.length) * bytes ≤ 140737488355328) (h63 : xs.length + ys.length ≤ 9223372036854775807) (hlo : lo ≤ w.heap.size)
    (hnext : ∀ v' w', Own D lo e size R w' v' (xs ++ ys) → w.grownBy w' v.ownBlock → (v'.ownBlock = v.ownBlock ∨ v'.ownBlock = some w.heap.size) → wpList P ops Q rest (a.put o.dst v') w') :
    wpList P ops Q (o :: rest) a w := by
  refine wpList_plain hgd fun K' hK => ?_
  obtain ⟨v', w', hr, h2, h3, h4⟩ := run_append_Own (ty := o.type) E K h hs hbytes h63 hlo
  unfold Oper.wp execOp
  simp only [ho, resolve, invoke, builtin, Sem.run_bind, Sem.run_pure, Result.andThen_ok, List.map_toArray, List.map_cons, List.map_nil, hp, hq, hr]
  exact hK _ _ (hnext v' w' h2 h3 h4)

end
end Go.Proofs.Ytpcfkflhnkfjjaa
