import Derived.Test.YtaimpcnpifoidaaGreatDoorDrz
set_option linter.unusedVariables false
set_option linter.unusedSimpArgs false
namespace Go.Proofs.YtaimpcnpifoidaaGreatDoor
open Go Go.RowKit
abbrev Ent := Bool × Nat × AObj
def hpD (x : Nat → Option Ent) (p : Nat → Bool) : Nat → List (Nat × AObj)
 | 0 => []
 | k + 1 => match x k with
  | some q => bif p k then q.2 :: hpD x p k else hpD x p k
  | none => hpD x p k
def idD (x : Nat → Option Ent) (p : Nat → Bool) : Nat → List Nat
 | 0 => []
 | k + 1 => match x k with
  | some q => bif p k && q.1 then q.2.1 :: idD x p k else idD x p k
  | none => idD x p k
def kvy (l : List Oper) (n : Nat) (ai : List Nat) (st : St) (i : Nat) (o : Oper) (fs : List (Nat × Option Nat × AV)) : St :=
 { st with tmps := hadd fs (kk4 o) (km7 l i n ++ st.tmps), ids := ai }
def k91 (P : Program) (o : Oper) (c : AV) (id : Nat) (ob : AObj) : Prop := ∀ st' : St, st'.ids.contains id = false → kcr P o st' c ((id, ob) :: st'.heap) (id :: st'.ids)
def k9z (P : Program) (v : St) (o : Oper) (c : AV) (id : Nat) (ob : AObj) : Prop := ∀ (hp' : List (Nat × AObj)) (ids' : List Nat), kab hp' id = kab v.heap id → kcr P o { v with heap := hp', ids := ids' } c ((id, ob) :: hp') ids'
def befB (l : List Oper) (i id : Nat) (es : List (Nat × Nat)) : Bool := es.all fun e => !(e.2 == id) || anc l i e.1
def kvn (P : Program) (os : Array Oper) (n : Nat) (ai : List Nat) (Q : Exit → St → Prop) (st : St) : Nat → Nat → List Oper → List (Nat × Option Nat × AV) → List (Nat × AObj) → List Nat → List (Nat × Nat) → Prop
 | 0, _, l, fs, hp, nid, _ => awpL P os l { st with tmps := hadd fs (fun _ => true) st.tmps, heap := hp ++ st.heap, ids := nid ++ st.ids } Q
 | k + 1, i, o :: l, fs, hp, nid, es =>
  (∃ c, k2p P os (kvy os.toList n ai st i o fs) o c ∧ okA st.ids c = true ∧ kvn P os n ai Q st k (i + 1) l ((i, o.dst, c) :: fs) hp nid es) ∨
  (∃ c id ob, kc3 os (kvy os.toList n ai st i o fs) o = some true ∧ k91 P o c id ob ∧ (st.ids.contains id || (st.heap.any fun q => q.1 == id) || (es.any fun q => q.2 == id) || !ai.contains id) = false ∧ kvn P os n ai Q st k (i + 1) l ((i, o.dst, c) :: fs) ((id, ob) :: hp) (id :: nid) ((i, id) :: es)) ∨
  (∃ c id ob, kc3 os (kvy os.toList n ai st i o fs) o = some true ∧ k9z P { kvy os.toList n ai st i o fs with heap := hp ++ st.heap } o c id ob ∧ (st.heap.any fun q => q.1 == id) = false ∧ befB os.toList i id es = true ∧ kvn P os n ai Q st k (i + 1) l ((i, o.dst, c) :: fs) ((id, ob) :: hp) nid ((i, id) :: es))
 | _ + 1, _, [], _, _, _, _ => False
section
variable {P : Program} {F S0 : Nat → Prop} {N0 : Nat} {w w' : World} {S S' : Nat → Prop} {ψ ψ' : Env} {Q : Exit → St → Prop} {st : St} {os : Array Oper} {n : Nat} {ai : List Nat}
def stY (l : List Oper) (n : Nat) (st : St) (c : Nat → AV) (x : Nat → Option Ent) (listed : Array Bool) : St :=
 { st with tmps := kjl (fsOf l c n) (fun j => listed.getD j false) st.tmps, heap := hpD x (fun j => listed.getD j false) n ++ st.heap, ids := idD x (fun j => listed.getD j false) n ++ st.ids }
structure DSY (F S0 : Nat → Prop) (N0 : Nat) (w0 : World) (l : List Oper) (n : Nat) (st : St) (c : Nat → AV) (x : Nat → Option Ent) (listed : Array Bool) (a : Act) (w : World) : Prop where
 inv : ∃ ψ S, Sim F S0 N0 (stY l n st c x listed) ψ S a w
 fr : Fr F w0 w
 lsize : listed.size = l.length
 closed : ∀ k o, listed.getD k false = true → l[k]? = some o → ∀ e ∈ o.after, Region.binds .any e = true → listed.getD e.on false = true
end
end Go.Proofs.YtaimpcnpifoidaaGreatDoor
