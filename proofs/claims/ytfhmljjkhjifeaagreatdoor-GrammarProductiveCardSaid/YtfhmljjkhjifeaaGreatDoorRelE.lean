/- Regions that draw their order, in whose head one operation may change some blocks: as XRel, with one operation (number e) that may touch the blocks of M. -/
import Derived.Test.YtfhmljjkhjifeaaGreatDoorRel
set_option linter.unusedVariables false
set_option linter.unusedSimpArgs false
namespace Go.Proofs.YtfhmljjkhjifeaaGreatDoor
namespace RE
open Go Go.RowKit

/-- w' is w, with new blocks and with changes in the blocks of M -/
structure Tr (M : Nat → Prop) (w w' : World) : Prop where
  os : w'.os = w.os
  tape : w'.tape = w.tape
  output : w'.output = w.output
  size : w.heap.size ≤ w'.heap.size
  block : ∀ b, b < w.heap.size → ¬ M b → w'.heap[b]? = w.heap[b]?
theorem Tr.refl {M : Nat → Prop} {w : World} : Tr M w w := ⟨rfl, rfl, rfl, Nat.le_refl _, fun _ _ _ => rfl⟩
theorem Tr.trans {M : Nat → Prop} {a b c : World} (h : Tr M a b) (k : Tr M b c) : Tr M a c :=
  ⟨k.os.trans h.os, k.tape.trans h.tape, k.output.trans h.output, Nat.le_trans h.size k.size, fun i hi hm => (k.block i (Nat.lt_of_lt_of_le hi h.size) hm).trans (h.block i hi hm)⟩
theorem Tr.of_grow {M : Nat → Prop} {w w' : World} (h : Below w.heap.size w w') : Tr M w w' := ⟨h.os, h.tape, h.output, h.size, fun b hb _ => h.block b hb⟩
/-- what is known of an operation's value: it is this one, or it has a property that growth keeps -/
inductive Gd (M : Nat → Prop) where
  | det (c : Value)
  | rel (G : Value → World → Prop) (h : ∀ v w w', G v w → Tr M w w' → G v w')
  | relE (G : Value → World → Prop) (h : ∀ v w w', G v w → Below w.heap.size w w' → G v w')
def Gd.isE {M : Nat → Prop} : Gd M → Bool
  | .relE _ _ => true
  | _ => false

def Gd.holds {M : Nat → Prop} : Gd M → Value → World → Prop
  | .det c, v, _ => v = c
  | .rel G _, v, w => G v w
  | .relE G _, v, w => G v w
def Gd.val {M : Nat → Prop} : Gd M → Value → Value
  | .det c, _ => c
  | .rel _ _, v => v
  | .relE _ _, v => v

theorem Gd.keep {M : Nat → Prop} {g : Gd M} {v : Value} {w w' : World} (h : g.holds v w) (hb : Tr M w w') (hn : g.isE = true → Below w.heap.size w w') : g.holds v w' := by
  cases g with
  | det c => exact h
  | rel G hG => exact hG v w w' h hb
  | relE G hG => exact hG v w w' h (hn rfl)

section
variable {P : Program}
variable {M : Nat → Prop} {e : Nat} {D : World → Prop} {gs : List (Gd M)} {l : List Oper} {xs : Nat → Value} {a0 : Act}

/-- the state of a region whose head is under way -/
structure HeadSt {M : Nat → Prop} (e : Nat) (D : World → Prop) (gs : List (Gd M)) (l : List Oper) (C : World → Prop) (a0 : Act) (listed : Array Bool) (a : Act) (w : World) : Prop where
  inC : C w
  inD : listed.getD e false = false → D w
  defers : a.defers = a0.defers
  size : a.tmps.size = a0.tmps.size
  lsize : listed.size = l.length
  closed : ∀ k o, listed.getD k false = true → l[k]? = some o → ∀ e ∈ o.after, Region.binds .any e = true → listed.getD e.on false = true
  vals : ∃ xs : Nat → Value, ∀ j g, gs[j]? = some g → listed.getD j false = true → g.holds (xs j) w ∧ ∀ o d, l[j]? = some o → o.dst = some d → a.tmps[d]? = some (xs j)
  rest : ∀ t, (∀ j o, listed.getD j false = true → l[j]? = some o → o.dst ≠ some t) → a.tmps[t]? = a0.tmps[t]?

end
end RE
end Go.Proofs.YtfhmljjkhjifeaaGreatDoor
