import Derived.Test.YtaimpcnpifoidaaGreatDoorRel
import Derived.Maps.AppendAt
import Derived.Deep.AppendLies
set_option linter.unusedVariables false
set_option linter.unusedSimpArgs false
namespace Go.Proofs.YtaimpcnpifoidaaGreatDoor
open Go Go.RowKit
def kdm (n : Int) : Prop := -9223372036854775808 ≤ n ∧ n ≤ 9223372036854775807
def At (w : World) (b o : Nat) (cs : List Value) : Prop := ∀ j u, cs[j]? = some u → w.cell? ⟨b, o + j, none⟩ = some u
def Same (S : Nat → Prop) (w w' : World) : Prop := ∀ b, S b → b < w.heap.size → w'.heap[b]? = w.heap[b]?
def Hold (p : Prop) : Prop := p
theorem Hold.go {p : Prop} (h : p) : Hold p := h
abbrev Grow (w w' : World) : Prop := Below w.heap.size w w'
theorem Below.step {a b c : World} (h : Grow a b) (k : Grow b c) : Grow a c := Below.trans h (k.mono h.size)
theorem kcp (w : World) (o : Obj) : Grow w (w.alloc o) := (Below.refl _ _).alloc (Nat.le_refl _) _
theorem kah (w : World) : Grow w w := Below.refl _ _
section
variable {T : Type} {S S' : Nat → Prop} {w w' w'' : World} {b o : Nat} {cs : List Value}
theorem kmr {w : World} {a : Addr} {u : Value} (h : w.cell? a = some u) : a.block < w.heap.size := by
 rcases Nat.lt_or_ge a.block w.heap.size with h' | h'
 ·exact h'
 ·simp [World.cell?, Array.getElem?_eq_none h'] at h
theorem Same.of_grow (h : Grow w w') : Same S w w' := fun b _ hb => h.block b hb
theorem Same.set {a : Addr} (u : Value) (hS : ¬ S a.block) : Same S w (w.setCell a u) := fun b hb _ => Below.heap_setCell _ _ _ _ (fun e => hS (e ▸ hb))
theorem Same.trans (h : Same S w w') (hs : w.heap.size ≤ w'.heap.size) (k : Same S w' w'') : Same S w w'' :=
 fun b hb hl => (k b hb (by omega)).trans (h b hb hl)
theorem At.keep (h : At w b o cs) (hS : S b) (hk : Same S w w') : At w' b o cs := fun j u hu => by
 have h1 := h j u hu
 rw [World.cell?_of_block (w := w)]
 ·exact h1
 ·exact hk b hS (kmr h1)
def RepSl (S : Nat → Prop) (w : World) (size : Nat) (R : List Value → T → Prop) (v : Value) (xs : List T) : Prop :=
 ∃ A cap, v = .slice A xs.length cap ∧ xs.length ≤ cap ∧ cap ≤ 9223372036854775807 ∧
  ∀ (i : Nat) (x : T), xs[i]? = some x → ∃ b o cs, A = some ⟨b, o, none⟩ ∧ S b ∧ At w b (o + i * size) cs ∧ cs.length = size ∧ R cs x
theorem RepSl.keep {size : Nat} {R R' : List Value → T → Prop} {v : Value} {xs : List T} (h : RepSl S w size R v xs) (hk : Same S w w') (hR : ∀ cs x, x ∈ xs → R cs x → R' cs x) : RepSl S w' size R' v xs := by
 obtain ⟨A, cap, hv, h1, h2, h3⟩ := h
 refine ⟨A, cap, hv, h1, h2, fun i x hx => ?_⟩
 obtain ⟨b, o, cs, hA, hS, hat, hl, hr⟩ := h3 i x hx
 exact ⟨b, o, cs, hA, hS, hat.keep hS hk, hl, hR cs x (List.mem_of_getElem? hx) hr⟩
theorem RepSl.mono {size : Nat} {R R' : List Value → T → Prop} {v : Value} {xs : List T} (h : RepSl S w size R v xs) (hS : ∀ b, S b → S' b) (hR : ∀ cs x, x ∈ xs → R cs x → R' cs x) : RepSl S' w size R' v xs := by
 obtain ⟨A, cap, hv, h1, h2, h3⟩ := h
 refine ⟨A, cap, hv, h1, h2, fun i x hx => ?_⟩
 obtain ⟨b, o, cs, hA, hb, hat, hl, hr⟩ := h3 i x hx
 exact ⟨b, o, cs, hA, hS b hb, hat, hl, hR cs x (List.mem_of_getElem? hx) hr⟩
theorem RepSl.bound {size : Nat} {R : List Value → T → Prop} {v : Value} {xs : List T} (hs : 0 < size) (h : RepSl S w size R v xs) : RepSl (fun b => S b ∧ b < w.heap.size) w size R v xs := by
 obtain ⟨A, cap, hv, h1, h2, h3⟩ := h
 refine ⟨A, cap, hv, h1, h2, fun i x hx => ?_⟩
 obtain ⟨b, o, cs, hA, hb, hat, hl, hr⟩ := h3 i x hx
 refine ⟨b, o, cs, hA, ⟨hb, ?_⟩, hat, hl, hr⟩
 exact kmr (hat 0 cs[0] (List.getElem?_eq_getElem (by omega)))
theorem RepSl.nil {size cap : Nat} {R : List Value → T → Prop} {A : Option Addr} (hc : cap ≤ 9223372036854775807) : RepSl S w size R (.slice A 0 cap) [] :=
 ⟨A, cap, rfl, by simp, hc, fun i x h => by simp at h⟩
def Any : Nat → Prop := fun _ => True
def From (B : Nat) : Nat → Prop := fun b => B ≤ b
theorem From.mono {B B' : Nat} (h : B' ≤ B) : ∀ b, From B b → From B' b := fun b hb => Nat.le_trans h hb
def IntR (cs : List Value) (n : Int) : Prop := cs = [.int .i64 n] ∧ kdm n
def Ints (S : Nat → Prop) (w : World) (v : Value) (ns : List Int) : Prop := RepSl S w 1 IntR v ns
theorem Ints.keep {v : Value} {ns : List Int} (h : Ints S w v ns) (hk : Same S w w') : Ints S w' v ns := RepSl.keep h hk fun _ _ _ h => h
theorem Ints.mono {v : Value} {ns : List Int} (h : Ints S w v ns) (hS : ∀ b, S b → S' b) : Ints S' w v ns := RepSl.mono h hS fun _ _ _ h => h
theorem Ints.bound {v : Value} {ns : List Int} (h : Ints S w v ns) : Ints (fun b => S b ∧ b < w.heap.size) w v ns := RepSl.bound (by omega) h
theorem Ints.form {v : Value} {ns : List Int} (h : Ints S w v ns) : ∃ A cap, v = .slice A ns.length cap ∧ ns.length ≤ cap ∧ cap ≤ 9223372036854775807 ∧
  ∀ i (hi : i < ns.length), kdm ns[i] ∧ ∃ b o, A = some ⟨b, o, none⟩ ∧ S b ∧ w.cell? ⟨b, o + i, none⟩ = some (.int .i64 ns[i]) := by
 obtain ⟨A, cap, hv, h1, h2, h3⟩ := h
 refine ⟨A, cap, hv, h1, h2, fun i hi => ?_⟩
 obtain ⟨b, o, cs, hA, hb, hat, hl, hcs, hr⟩ := h3 i _ (List.getElem?_eq_getElem hi)
 refine ⟨hr, b, o, hA, hb, ?_⟩
 have := hat 0 (.int .i64 ns[i]) (by rw [hcs]; rfl)
 simpa using this
def Own (D : Nat → Prop) (lo : Nat) (e : TypeId) (size : Nat) (R : (Nat → Prop) → World → List Value → T → Prop) (w : World) (v : Value) (xs : List T) : Prop :=
 ∃ cs : List Value, w.ownsRow lo e size v xs.length cs ∧
  ∀ (i : Nat) (x : T), xs[i]? = some x → R (fun b => D b ∧ v.ownBlock ≠ some b) w ((cs.drop (i * size)).take size) x
structure Kept (size : Nat) (R : (Nat → Prop) → World → List Value → T → Prop) : Prop where
 pos : 0 < size
 keep : ∀ {S w w' cs x}, R S w cs x → Same S w w' → R S w' cs x
 mono : ∀ {S S' : Nat → Prop} {w cs x}, R S w cs x → (∀ b, S b → S' b) → R S' w cs x
 bound : ∀ {S w cs x}, R S w cs x → R (fun b => S b ∧ b < w.heap.size) w cs x
 len : ∀ {S w cs x}, R S w cs x → cs.length = size
 one : ∀ {S w cs x}, R S w cs x → ∀ u ∈ cs, u.oneCell' = true
variable {D : Nat → Prop} {lo : Nat} {e : TypeId} {size : Nat} {R : (Nat → Prop) → World → List Value → T → Prop} {v : Value} {xs : List T}
theorem Own.nil : Own D lo e size R w (.slice none 0 0) [] := ⟨[], World.ownsRow_nil _ _ _ _, fun i x h => by simp at h⟩
theorem Own.keep (K : Kept size R) (h : Own D lo e size R w v xs) (hk : Same (fun b => lo ≤ b ∨ D b) w w') : Own D lo e size R w' v xs := by
 obtain ⟨cs, ho, hx⟩ := h
 refine ⟨cs, ?_, fun i x hi => K.keep (hx i x hi) fun b hb hl => hk b (.inr hb.1) hl⟩
 obtain ⟨h1, h2⟩ := ho
 refine ⟨h1, h2.imp id ?_⟩
 rintro ⟨g, cap, cur, hv, hg, hh, r⟩
 have hlt : g < w.heap.size := by
  rcases Nat.lt_or_ge g w.heap.size with h' | h'
  ·exact h'
  ·simp [Array.getElem?_eq_none h'] at hh
 exact ⟨g, cap, cur, hv, hg, by rw [hk g (.inl hg) hlt]; exact hh, r⟩
theorem Own.grow (K : Kept size R) (h : Own D lo e size R w v xs) (hk : Grow w w') : Own D lo e size R w' v xs := h.keep K (Same.of_grow hk)
theorem Own.set (K : Kept size R) (h : Own D lo e size R w v xs) {a : Addr} (ha : a.block < lo) (hD : ¬ D a.block) (u : Value) : Own D lo e size R (w.setCell a u) v xs :=
 h.keep K (Same.set u (by rintro (h | h); omega; exact hD h))
theorem Own.form (h : Own D lo e size R w v xs) : (v = .slice none 0 0 ∧ xs = []) ∨ ∃ g cap, v = .slice (some ⟨g, 0, none⟩) xs.length cap ∧ lo ≤ g ∧ g < w.heap.size ∧ xs.length ≤ cap ∧ cap ≤ 9223372036854775807 := by
 obtain ⟨cs, ⟨_, h2⟩, _⟩ := h
 rcases h2 with ⟨rfl, h0⟩ | ⟨g, cap, cur, rfl, hg, hh, hnc, hcm, _⟩
 ·exact .inl ⟨rfl, List.eq_nil_of_length_eq_zero h0⟩
 ·refine .inr ⟨g, cap, rfl, hg, ?_, hnc, by unfold maxLen at hcm; exact hcm⟩
  rcases Nat.lt_or_ge g w.heap.size with h' | h'
  ·exact h'
  ·simp [Array.getElem?_eq_none h'] at hh
theorem Own.block (h : Own D lo e size R w v xs) : ∀ g, v.ownBlock = some g → lo ≤ g ∧ g < w.heap.size := by
 intro g hg
 rcases h.form with ⟨rfl, _⟩ | ⟨g', cap, rfl, h1, h2, _⟩
 ·cases hg
 ·simp only [Value.ownBlock, Option.some.injEq] at hg
  subst hg
  exact ⟨h1, h2⟩
theorem k2g {b : Nat} {Q : List Value → T → Prop} : ∀ (ys : List T) (o : Nat), (∀ (i : Nat) (y : T), ys[i]? = some y → ∃ cs, At w b (o + i * size) cs ∧ cs.length = size ∧ Q cs y) →
  ∃ news : List Value, news.length = ys.length * size ∧ At w b o news ∧ ∀ (i : Nat) (y : T), ys[i]? = some y → Q ((news.drop (i * size)).take size) y
 | [], o, _ => ⟨[], by simp, fun j u h => by simp at h, fun i y h => by simp at h⟩
 | y :: ys, o, h => by
  obtain ⟨cs, hat, hl, hq⟩ := h 0 y rfl
  obtain ⟨news, hn, hnat, hnq⟩ := k2g (b := b) (Q := Q) ys (o + size) fun i z hz => by
   have := h (i + 1) z (by simpa using hz)
   rwa [show o + (i + 1) * size = o + size + i * size by rw [Nat.add_mul]; omega] at this
  refine ⟨cs ++ news, by simp [hl, hn, Nat.add_mul]; omega, fun j u hu => ?_, fun i z hz => ?_⟩
  ·by_cases hj : j < size
   ·rw [List.getElem?_append_left (by omega)] at hu
    have := hat j u hu
    simpa using this
   ·rw [List.getElem?_append_right (by omega), hl] at hu
    have := hnat _ u hu
    rwa [show o + size + (j - size) = o + j by omega] at this
  ·cases i with
   | zero =>
    simp at hz
    subst hz
    simp only [Nat.zero_mul, List.drop_zero]
    rw [List.take_append_of_le_length (by omega), List.take_of_length_le (by omega)]
    exact hq
   | succ i =>
    have := hnq i z (by simpa using hz)
    rw [show (i + 1) * size = cs.length + i * size by rw [hl, Nat.add_mul]; omega, ← List.drop_drop, List.drop_left]
    exact this
theorem kuj {P : Program} (lo : Nat) (t ty e : TypeId) (i : TypeInfo) (size : Nat) (ht : P.underlying t = some (.slice e)) (hi : P.info? e = some i)
  (v : Value) (n : Nat) (xs : List Value) (hown : w.ownsRow lo e size v n xs) (c : Nat) : (Builtin.append_ #[t, t] ty #[v, .slice none 0 c]).run P w = .ok v w := by
 rcases hown.2 with ⟨rfl, rfl⟩ | ⟨g, cap, cur, rfl, _, _, hnc, _⟩
 ·simp [Builtin.append_, run_underlying ht, sizeOf, typeInfo, hi, Builtin.lenOf, Builtin.firstCells]
 ·simp [Builtin.append_, run_underlying ht, sizeOf, typeInfo, hi, Builtin.lenOf, Builtin.firstCells, hnc, storeCells]
end
end Go.Proofs.YtaimpcnpifoidaaGreatDoor
