/- A machine that runs code over abstract states, and the rules for the places where it stops. -/
import Derived.Test.YtfhmljjkhjifeaaGreatDoorDra
import Derived.Test.YtfhmljjkhjifeaaGreatDoorOpr
set_option linter.unusedVariables false
set_option linter.unusedSimpArgs false
namespace Go.Proofs.YtfhmljjkhjifeaaGreatDoor
open Go Go.RowKit

/-- what is told of the program's types -/
class Tab (P : Program) where
  T : List (TypeId × TD)
  ok : TOk P T
  mixed : P.follows .mixedOrders = true

abbrev FsT := List (Nat × Option Nat × AV)
/-- a region that draws its order: operations, how many in the head, the chain, the objects that change, all numbers of objects -/
structure Zn where
  os : Array Oper
  n : Nat
  es : List Nat
  ch : List Nat
  ai : List Nat
inductive Foc where
  | code (c : Code)
  | ops (os : Array Oper) (l : List Oper)
  | drz (z : Zn) (k i : Nat) (l : List Oper) (fs : FsT) (hp : List (Nat × AObj)) (ids : List Nat) (pn : Option Nat)
  | dry (z : Zn) (k i : Nat) (l : List Oper) (fs : FsT) (hp : List (Nat × AObj)) (nid : List Nat) (es : List (Nat × Nat))
  | fin (e : Exit)
  | bad
inductive Frm where
  | seq (c : Code)
  | block (id : Nat)
structure Cfg where
  foc : Foc
  ks : List Frm
  st : St

/-- more operations that change nothing -/
def kindT (T : List (TypeId × TD)) (t : TypeId) : Option TK := match lookT T t with
  | some d => some d.kind
  | none => none
def convX (T : List (TypeId × TD)) (sr t : TypeId) (x : AV) : Option AV := match kindT T sr, kindT T t, x with
  | some _, some (.int k), .fz (.atom (.int _ n)) => some (.fz (.atom (.int k (k.wrap n))))
  | some .str, some .str, .fz (.atom (.string s)) => some (.fz (.atom (.string s)))
  | _, _, _ => none
def nstepX (T : List (TypeId × TD)) (o : Oper) (st : St) : Option AV := match nstep T o st with
  | some c => some c
  | none => match o.op with
    | .convert sr t x => convX T sr t (st.eval x)
    | .call c => match c.callee, c.args.toList with
      | .builtin .min, [x, y] => match st.eval x, st.eval y with
        | .fz (.atom (.int k m)), .fz (.atom (.int _ n)) => some (.fz (.atom (.int k (imin m n))))
        | _, _ => none
      | .builtin .max, [x, y] => match st.eval x, st.eval y with
        | .fz (.atom (.int k m)), .fz (.atom (.int _ n)) => some (.fz (.atom (.int k (imax m n))))
        | _, _ => none
      | _, _ => none
    | .makeInterface t x => match kindT T t with
      | some .ifc => none
      | some _ => match toV (st.eval x) with
        | some v => some (.fz (.atom (.iface t v)))
        | none => none
      | none => none
    | .typeAssert x _ t true => match kindT T t, st.eval x with
      | some .ifc, _ => none
      | some _, .fz (.atom (.iface t' v)) => bif Nat.beq t' t then (match ofV v with
        | some y => some (.fz (.tup [y, .atom (.bool true)]))
        | none => none) else none
      | _, _ => none
    | .binOp op t x (.const .nilIface) _ => match kindT T t, st.eval x, op with
      | some .ifc, .fz (.atom (.iface _ _)), .eql => some (.fz (.atom (.bool false)))
      | some .ifc, .fz (.atom (.iface _ _)), .neq => some (.fz (.atom (.bool true)))
      | some .ifc, .fz (.atom .nilIface), .eql => some (.fz (.atom (.bool true)))
      | some .ifc, .fz (.atom .nilIface), .neq => some (.fz (.atom (.bool false)))
      | _, _, _ => none
    | _ => none
theorem kindT_some {T : List (TypeId × TD)} {t : TypeId} {k : TK} (h : kindT T t = some k) : ∃ d, lookT T t = some d ∧ d.kind = k := by
  unfold kindT at h
  split at h
  · rename_i d hd; injection h with h; exact ⟨d, hd, h⟩
  · cases h
theorem array_two {α : Type} {xs : Array α} {x y : α} (h : xs.toList = [x, y]) : xs = #[x, y] := by
  apply Array.ext'; simpa using h
theorem nstepX_ok {P : Program} {T : List (TypeId × TD)} (hT : TOk P T) {o : Oper} {st : St} {c : AV} (h : nstepX T o st = some c) : NStep P o st c := by
  unfold nstepX at h
  split at h
  · rename_i c' hc; injection h with h; subst h; exact nstep_ok hT hc
  · split at h
    · rename_i sr t x ho
      unfold convX at h
      split at h
      · rename_i ks k k' n h1 h2 h3
        injection h with h; subst h
        obtain ⟨ds, hs, _⟩ := kindT_some h1
        obtain ⟨d, hd, hk⟩ := kindT_some h2
        exact s_conv hT ho hs hd hk h3
      · rename_i s h1 h2 h3
        injection h with h; subst h
        obtain ⟨ds, hs, hks⟩ := kindT_some h1
        obtain ⟨d, hd, hk⟩ := kindT_some h2
        exact s_convS hT ho hs hks hd hk h3
      · cases h
    · rename_i c' ho
      obtain ⟨cc, as, ts⟩ := c'
      split at h
      · rename_i x y h1 h2
        simp only at h1 h2
        rw [h1, array_two h2] at ho
        split at h
        · rename_i k m k' n hx hy
          injection h with h; subst h
          exact s_min ho hx hy
        · cases h
      · rename_i x y h1 h2
        simp only at h1 h2
        rw [h1, array_two h2] at ho
        split at h
        · rename_i k m k' n hx hy
          injection h with h; subst h
          exact s_max ho hx hy
        · cases h
      · cases h
    · rename_i tt x ho
      split at h
      · cases h
      · rename_i kk hne hk
        obtain ⟨d, hd, hkd⟩ := kindT_some hk
        split at h
        · rename_i v hv
          injection h with h; subst h
          exact n_mkif ho (hT.get hd) (fun hi => hne (by rw [hi] at hkd; exact hkd.symm)) hv
        · cases h
      · cases h
    · rename_i x xt tt ho
      split at h
      · cases h
      · rename_i kk t' v hne hk hx
        obtain ⟨d, hd, hkd⟩ := kindT_some hk
        cases hb : Nat.beq t' tt with
        | false => rw [hb] at h; cases h
        | true =>
          rw [hb] at h
          obtain rfl := Nat.eq_of_beq_eq_true hb
          try simp only [cond_true] at h
          split at h
          · rename_i y hy
            injection h with h; subst h
            exact n_tassert ho (hT.get hd) (fun hi => hne (by rw [hi] at hkd; exact hkd.symm)) hx hy
          · cases h
      · cases h
    · rename_i op tt x yt ho
      split at h
      · rename_i s z hk hx
        obtain ⟨d, hd, hkd⟩ := kindT_some hk
        injection h with h; subst h
        exact n_ifcnil false false ho (hT.get hd) hkd hx (.inl ⟨rfl, _, _, rfl⟩)
      · rename_i s z hk hx
        obtain ⟨d, hd, hkd⟩ := kindT_some hk
        injection h with h; subst h
        exact n_ifcnil true false ho (hT.get hd) hkd hx (.inl ⟨rfl, _, _, rfl⟩)
      · rename_i hk hx
        obtain ⟨d, hd, hkd⟩ := kindT_some hk
        injection h with h; subst h
        exact n_ifcnil false true ho (hT.get hd) hkd hx (.inr ⟨rfl, rfl⟩)
      · rename_i hk hx
        obtain ⟨d, hd, hkd⟩ := kindT_some hk
        injection h with h; subst h
        exact n_ifcnil true true ho (hT.get hd) hkd hx (.inr ⟨rfl, rfl⟩)
      · cases h
    · cases h

/-- where an end leads -/
def unwN : List Frm → St → Cfg
  | [], st => ⟨.fin .normal, [], st⟩
  | .seq y :: ks, st => ⟨.code y, ks, st⟩
  | .block _ :: ks, st => unwN ks st
def unwX (id : Nat) : List Frm → St → Cfg
  | [], st => ⟨.fin (.exit id), [], st⟩
  | .seq _ :: ks, st => unwX id ks st
  | .block i :: ks, st => bif Nat.beq id i then unwN ks st else unwX id ks st
def unw : Exit → List Frm → St → Cfg
  | .normal, ks, st => unwN ks st
  | .exit i, ks, st => unwX i ks st
  | .ret, _, st => ⟨.fin .ret, [], st⟩
  | .panic cs, _, st => ⟨.fin (.panic cs), [], st⟩
  | _, _, st => ⟨.bad, [], st⟩

def stepO (T : List (TypeId × TD)) (os : Array Oper) (o : Oper) (l : List Oper) (ks : List Frm) (st : St) : Cfg := match guardA os st o, dstOk st o with
  | some true, true => match xstep T o st with
    | some (c, h, i) => ⟨.ops os l, ks, ({ st with heap := h, ids := i } : St).put o.dst c⟩
    | none => match nstepX T o st with
      | some c => ⟨.ops os l, ks, st.put o.dst c⟩
      | none => ⟨.bad, ks, st⟩
  | some false, true => ⟨.ops os l, ks, st.put o.dst (.fz (.tup []))⟩
  | _, _ => ⟨.bad, ks, st⟩
/-- the value of an operation that changes nothing -/
def headV (T : List (TypeId × TD)) (os : Array Oper) (st : St) (o : Oper) : Option AV := match guardA os st o with
  | some true => nstepX T o st
  | some false => some (.fz (.tup []))
  | none => none
def stepC : Code → List Frm → St → Cfg
  | .skip, ks, st => unwN ks st
  | .exit i, ks, st => unwX i ks st
  | .ret, _, st => ⟨.fin .ret, [], st⟩
  | .seq x y, ks, st => ⟨.code x, .seq y :: ks, st⟩
  | .block id c, ks, st => ⟨.code c, .block id :: ks, st⟩
  | .cond c x y, ks, st => match st.eval c with
    | .fz (.atom (.bool b)) => ⟨.code (bif b then x else y), ks, st⟩
    | _ => ⟨.bad, ks, st⟩
  | .region _ os false, ks, st => ⟨.ops os os.toList, ks, st⟩
  | _, ks, st => ⟨.bad, ks, st⟩
def zview (z : Zn) (st : St) (i : Nat) (o : Oper) (fs : FsT) (hp : List (Nat × AObj)) (ids : List Nat) : St := viewZ z.os.toList z.n z.es z.ch z.ai st i o fs hp ids
def keyIn (ch : List Nat) : List (Nat × AObj) → Bool
  | (k, _) :: _ => ch.contains k
  | [] => true
def idsOk (ai ids ids' : List Nat) : Bool := ids'.all ai.contains && ids.all ids'.contains
def deadB (z : Zn) (i : Nat) : Option Nat → Bool
  | some e => anc z.os.toList i e
  | none => false
def stepZ (T : List (TypeId × TD)) (z : Zn) (k i : Nat) (o : Oper) (l : List Oper) (fs : FsT) (hp : List (Nat × AObj)) (ids : List Nat) (pn : Option Nat) (ks : List Frm) (st : St) : Cfg :=
  bif deadB z i pn then ⟨.drz z k (i + 1) l ((i, o.dst, .any) :: fs) hp ids pn, ks, st⟩ else
  bif z.es.contains i then (match guardA z.os (zview z st i o fs hp ids) o, xstep T o (zview z st i o fs hp ids), pn with
    | some false, _, none => bif idsOk z.ai ids ids then ⟨.drz z k (i + 1) l ((i, o.dst, .fz (.tup [])) :: fs) hp ids none, ks, st⟩ else ⟨.bad, ks, st⟩
    | some true, some (c, h', i'), none => bif Nat.beq (zview z st i o fs hp ids).heap.length hp.length && (phB z.os.toList z.es i && (keyIn z.ch h' && idsOk z.ai ids i')) then ⟨.drz z k (i + 1) l ((i, o.dst, c) :: fs) h' i' none, ks, st⟩ else ⟨.bad, ks, st⟩
    | _, _, _ => ⟨.bad, ks, st⟩)
  else (match headV T z.os (zview z st i o fs hp ids) o with
    | some c => bif phB z.os.toList z.es i || okA st.ids c then ⟨.drz z k (i + 1) l ((i, o.dst, c) :: fs) hp ids pn, ks, st⟩ else ⟨.bad, ks, st⟩
    | none => ⟨.bad, ks, st⟩)
def yview (z : Zn) (st : St) (i : Nat) (o : Oper) (fs : FsT) : St := viewY z.os.toList z.n z.ai st i o fs
def allocT (T : List (TypeId × TD)) (o : Oper) : Option (TypeId × List AV) := match o.op with
  | .alloc e => match lookT T e with
    | some d => match zeroA d with
      | some cells => some (e, cells)
      | none => none
    | none => none
  | _ => none
def storeT (T : List (TypeId × TD)) (v : St) (o : Oper) : Option (Nat × AObj) := match o.op with
  | .store t x y => match storeX T v t x y with
    | some (_, q :: _, _) => some q
    | _ => none
  | _ => none
def madeOk (z : Zn) (st : St) (es : List (Nat × Nat)) (id : Nat) : Bool := !(st.ids.contains id || (st.heap.any fun q => q.1 == id) || (es.any fun q => q.2 == id) || !z.ai.contains id)
def stepY (T : List (TypeId × TD)) (z : Zn) (k i : Nat) (o : Oper) (l : List Oper) (fs : FsT) (hp : List (Nat × AObj)) (nid : List Nat) (es : List (Nat × Nat)) (ks : List Frm) (st : St) : Cfg :=
  match headV T z.os (yview z st i o fs) o with
  | some c => bif okA st.ids c then ⟨.dry z k (i + 1) l ((i, o.dst, c) :: fs) hp nid es, ks, st⟩ else ⟨.bad, ks, st⟩
  | none => match guardA z.os (yview z st i o fs) o, allocT T o with
    | some true, some (e, cells) => bif madeOk z st es (fresh (nid ++ st.ids)) then ⟨.dry z k (i + 1) l ((i, o.dst, .ref (fresh (nid ++ st.ids)) 0 0) :: fs) ((fresh (nid ++ st.ids), .box e cells) :: hp) (fresh (nid ++ st.ids) :: nid) ((i, fresh (nid ++ st.ids)) :: es), ks, st⟩ else ⟨.bad, ks, st⟩
    | some true, none => match storeT T { yview z st i o fs with heap := hp ++ st.heap } o with
      | some q => bif !(st.heap.any fun r => r.1 == q.1) && befB z.os.toList i q.1 es then ⟨.dry z k (i + 1) l ((i, o.dst, .any) :: fs) (q :: hp) nid ((i, q.1) :: es), ks, st⟩ else ⟨.bad, ks, st⟩
      | none => ⟨.bad, ks, st⟩
    | _, _ => ⟨.bad, ks, st⟩
def cstep (T : List (TypeId × TD)) (g : Cfg) : Cfg := match g with
  | ⟨.code c, ks, st⟩ => stepC c ks st
  | ⟨.ops _ [], ks, st⟩ => unwN ks st
  | ⟨.ops os (o :: l), ks, st⟩ => stepO T os o l ks st
  | ⟨.drz z 0 _ l fs hp ids none, ks, st⟩ => ⟨.ops z.os l, ks, { st with tmps := hadd fs (fun _ => true) st.tmps, heap := hp, ids := ids }⟩
  | ⟨.drz z (k + 1) i (o :: l) fs hp ids pn, ks, st⟩ => stepZ T z k i o l fs hp ids pn ks st
  | ⟨.dry z 0 _ l fs hp nid _, ks, st⟩ => ⟨.ops z.os l, ks, { st with tmps := hadd fs (fun _ => true) st.tmps, heap := hp ++ st.heap, ids := nid ++ st.ids }⟩
  | ⟨.dry z (k + 1) i (o :: l) fs hp nid es, ks, st⟩ => stepY T z k i o l fs hp nid es ks st
  | ⟨_, ks, st⟩ => ⟨.bad, ks, st⟩
def crunT (T : List (TypeId × TD)) (k : Nat) (g : Cfg) : Cfg := Nat.rec g (fun _ r => cstep T r) k
def crun (P : Program) [t : Tab P] (k : Nat) (g : Cfg) : Cfg := crunT t.T k g

/-- what a configuration promises -/
def postK (P : Program) : List Frm → (Exit → St → Prop) → Exit → St → Prop
  | [], Q => Q
  | .seq y :: ks, Q => thenA (fun st => awp P y st (postK P ks Q)) (postK P ks Q)
  | .block id :: ks, Q => blockA id (postK P ks Q)
def FW (P : Program) (foc : Foc) (st : St) (Q : Exit → St → Prop) : Prop := match foc with
  | .code c => awp P c st Q
  | .ops os l => awpL P os l st Q
  | .drz z k i l fs hp ids pn => headZ P z.os z.n z.es z.ch z.ai Q st k i l fs hp ids pn
  | .dry z k i l fs hp nid es => headY P z.os z.n z.ai Q st k i l fs hp nid es
  | .fin e => Q e st
  | .bad => False
def W (P : Program) (g : Cfg) (Q : Exit → St → Prop) : Prop := FW P g.foc g.st (postK P g.ks Q)

section
variable {P : Program} {T : List (TypeId × TD)} {Q : Exit → St → Prop} {st : St} {ks : List Frm}

theorem unwN_ok : ∀ {ks : List Frm}, W P (unwN ks st) Q → postK P ks Q .normal st
  | [], h => h
  | .seq _ :: _, h => h
  | .block id :: ks, h => show blockA id (postK P ks Q) .normal st from unwN_ok (ks := ks) h
theorem unwX_ok {i : Nat} : ∀ {ks : List Frm}, W P (unwX i ks st) Q → postK P ks Q (.exit i) st
  | [], h => h
  | .seq _ :: ks, h => unwX_ok (ks := ks) h
  | .block id :: ks, h => by
    show (if i = id then postK P ks Q .normal st else postK P ks Q (.exit i) st)
    simp only [unwX] at h
    by_cases hi : i = id
    · subst hi
      rw [if_pos rfl]
      simp only [Nat.beq_refl, cond_true] at h
      exact unwN_ok h
    · rw [if_neg hi]
      rw [Nat.beq_eq_false hi] at h
      exact unwX_ok h
theorem unwR_ok {ks : List Frm} : Q .ret st → postK P ks Q .ret st := by
  induction ks with
  | nil => exact id
  | cons k ks ih => cases k <;> exact ih
theorem unwP_ok {cs} {ks : List Frm} : Q (.panic cs) st → postK P ks Q (.panic cs) st := by
  induction ks with
  | nil => exact id
  | cons k ks ih => cases k <;> exact ih
theorem unw_ok {e : Exit} {ks : List Frm} (h : W P (unw e ks st) Q) : postK P ks Q e st := by
  cases e with
  | normal => exact unwN_ok h
  | exit i => exact unwX_ok h
  | ret => exact unwR_ok h
  | panic cs => exact unwP_ok h
  | _ => exact h.elim

theorem headV_ok (hT : TOk P T) {os : Array Oper} {o : Oper} {c : AV} (h : headV T os st o = some c) : (guardA os st o = some true ∧ NStep P o st c) ∨ (guardA os st o = some false ∧ c = .fz (.tup [])) := by
  unfold headV at h
  split at h
  · rename_i hg; exact .inl ⟨hg, nstepX_ok hT h⟩
  · rename_i hg; injection h with h; exact .inr ⟨hg, h.symm⟩
  · cases h
theorem stepO_ok (hT : TOk P T) {os : Array Oper} {o : Oper} {l : List Oper} (h : W P (stepO T os o l ks st) Q) : awpL P os (o :: l) st (postK P ks Q) := by
  unfold stepO at h
  split at h
  · rename_i hg hd
    split at h
    · rename_i c h' i hx
      exact l_step (xstep_ok hT hx) hg (dst_of hd) h
    · split at h
      · rename_i c hx
        exact l_step (nstepX_ok hT hx).step hg (dst_of hd) h
      · exact h.elim
  · rename_i hg hd
    exact l_skip hg (dst_of hd) h
  · exact h.elim
theorem stepC_ok {c : Code} (h : W P (stepC c ks st) Q) : awp P c st (postK P ks Q) := by
  unfold stepC at h
  split at h
  · exact awp_skip (unwN_ok h)
  · exact awp_exit (unwX_ok h)
  · exact awp_ret (unwR_ok h)
  · exact awp_seq h
  · exact awp_block h
  · split at h
    · rename_i hb
      exact awp_cond hb h
    · exact h.elim
  · exact awp_region h
  · exact h.elim
theorem xstep_form {o : Oper} {c : AV} {h : List (Nat × AObj)} {i : List Nat} (hx : xstep T o st = some (c, h, i)) : h = st.heap ∨ ∃ id ob, h = (id, ob) :: st.heap := by
  unfold xstep at hx
  have hbox : ∀ {e : TypeId} {cells : List AV}, boxX e st cells = some (c, h, i) → h = st.heap ∨ ∃ id ob, h = (id, ob) :: st.heap := fun {e cells} hx => by
    unfold boxX at hx
    cases hb : (cells.all AV.single && !st.ids.contains (Go.Proofs.YtfhmljjkhjifeaaGreatDoor.fresh st.ids)) with
    | false => rw [hb] at hx; cases hx
    | true => rw [hb] at hx; simp only [cond_true, Option.some.injEq, Prod.mk.injEq] at hx; exact .inr ⟨_, _, hx.2.1.symm⟩
  split at hx
  · exact hbox hx
  · split at hx
    · split at hx
      · exact hbox hx
      · cases hx
    · cases hx
  · unfold storeX at hx
    split at hx
    · split at hx
      · rename_i e cells hob
        generalize (Nat.beq _ 0 && _) = b at hx
        cases b with
        | false => cases hx
        | true => simp only [cond_true, Option.some.injEq, Prod.mk.injEq] at hx; exact .inr ⟨_, _, hx.2.1.symm⟩
      · cases hx
    · cases hx
  · refine .inl ?_
    generalize nstep T o st = c0 at hx
    cases c0 with
    | none => cases hx
    | some x => simp only [nres, Option.some.injEq, Prod.mk.injEq] at hx; exact hx.2.1.symm
theorem idsOk_ok {ai ids ids' : List Nat} (h : idsOk ai ids ids' = true) : (∀ id, id ∈ ids' → id ∈ ai) ∧ ∀ id, id ∈ ids → id ∈ ids' := by
  unfold idsOk at h
  simp only [Bool.and_eq_true] at h
  exact ⟨fun id hi => by simpa using List.all_eq_true.1 h.1 id hi, fun id hi => by simpa using List.all_eq_true.1 h.2 id hi⟩
theorem stepZ_ok (hT : TOk P T) {z : Zn} {k i : Nat} {o : Oper} {l : List Oper} {fs : FsT} {hp : List (Nat × AObj)} {ids : List Nat} {pn : Option Nat} (h : W P (stepZ T z k i o l fs hp ids pn ks st) Q) : headZ P z.os z.n z.es z.ch z.ai (postK P ks Q) st (k + 1) i (o :: l) fs hp ids pn := by
  unfold stepZ at h
  cases hd : deadB z i pn with
  | true =>
    rw [hd] at h
    cases pn with
    | none => cases hd
    | some e => exact .inl ⟨e, rfl, hd, h⟩
  | false =>
    rw [hd] at h
    simp only [cond_false] at h
    cases he : z.es.contains i with
    | true =>
      rw [he] at h
      simp only [cond_true] at h
      split at h
      · rename_i hg
        cases hb : idsOk z.ai ids ids with
        | false => rw [hb] at h; exact h.elim
        | true =>
          rw [hb] at h
          exact .inr (.inr (.inl ⟨he, rfl, _, hp, ids, ⟨.inr ⟨hg, rfl, rfl, rfl⟩, .inr ⟨fun _ _ _ h => h, idsOk_ok hb⟩⟩, h⟩))
      · rename_i c h' i' hg hx
        generalize hb : (Nat.beq (zview z st i o fs hp ids).heap.length hp.length && (phB z.os.toList z.es i && (keyIn z.ch h' && idsOk z.ai ids i'))) = b at h
        cases b with
        | false => exact h.elim
        | true =>
          simp only [Bool.and_eq_true] at hb
          obtain ⟨_, b2, b3, b4⟩ := hb
          refine .inr (.inr (.inl ⟨he, rfl, c, h', i', ⟨.inl ⟨hg, xstep_ok hT hx⟩, .inr ⟨?_, idsOk_ok b4⟩⟩, h⟩))
          have hv : (zview z st i o fs hp ids).heap = hp := by show (bif phB z.os.toList z.es i then hp else _) = hp; rw [b2]; rfl
          rcases xstep_form hx with hf | ⟨id, ob, hf⟩
          · rw [hf, hv]; exact fun _ _ _ h => h
          · rw [hf, hv]
            rw [hf] at b3
            intro id' hid ob' ho
            rw [lookO_cons, if_neg]
            · exact ho
            · rintro rfl; exact hid (by simpa [keyIn] using b3)
      · exact h.elim
    | false =>
      rw [he] at h
      simp only [cond_false] at h
      split at h
      · rename_i c hc
        cases hk : (phB z.os.toList z.es i || okA st.ids c) with
        | false => rw [hk] at h; exact h.elim
        | true => rw [hk] at h; exact .inr (.inl ⟨he, c, headV_ok hT hc, hk, h⟩)
      · exact h.elim
theorem allocT_ok (hT : TOk P T) {o : Oper} {e : TypeId} {cells : List AV} (h : allocT T o = some (e, cells)) (id : Nat) : AFact P o (.ref id 0 0) id (.box e cells) := by
  unfold allocT at h
  split at h
  · rename_i e' ho
    split at h
    · rename_i d hd
      split at h
      · rename_i cells' hz
        simp only [Option.some.injEq, Prod.mk.injEq] at h
        obtain ⟨rfl, rfl⟩ := h
        exact fun st' hid => e_alloc ho (hT.get hd) hz hid
      · cases h
    · cases h
  · cases h
theorem storeT_ok (hT : TOk P T) {v : St} {o : Oper} {q : Nat × AObj} (h : storeT T v o = some q) : SFact P v o .any q.1 q.2 := by
  unfold storeT at h
  split at h
  · rename_i t x y ho
    unfold storeX at h
    cases hd : lookT T t with
    | none => rw [hd] at h; cases h
    | some d =>
      rw [hd] at h
      generalize hx : v.eval x = ex at h
      cases ex with
      | ref id n off =>
        simp only at h
        cases hob : lookO v.heap id with
        | none => rw [hob] at h; cases h
        | some ob =>
          rw [hob] at h
          cases ob with
          | box e cells =>
            simp only at h
            cases hb : (Nat.beq n 0 && (Nat.beq (v.eval y).cells.length d.size && ((v.eval y).cells.all AV.single && Nat.ble (off + (v.eval y).cells.length) cells.length))) with
            | false => rw [hb] at h; cases h
            | true =>
              rw [hb] at h
              simp only [cond_true, Option.some.injEq] at h
              subst h
              simp only [Bool.and_eq_true] at hb
              obtain ⟨b1, b2, b3, b4⟩ := hb
              obtain rfl := Nat.eq_of_beq_eq_true b1
              exact fun hp' ids' hl => e_store (st := { v with heap := hp', ids := ids' }) ho (hT.get hd) hx (by rw [← hob]; exact hl) rfl (Nat.eq_of_beq_eq_true b2) b3 (Nat.le_of_ble_eq_true b4)
          | _ => cases h
      | _ => cases h
  · cases h
theorem stepY_ok (hT : TOk P T) {z : Zn} {k i : Nat} {o : Oper} {l : List Oper} {fs : FsT} {hp : List (Nat × AObj)} {nid : List Nat} {es : List (Nat × Nat)} (h : W P (stepY T z k i o l fs hp nid es ks st) Q) : headY P z.os z.n z.ai (postK P ks Q) st (k + 1) i (o :: l) fs hp nid es := by
  unfold stepY at h
  split at h
  · rename_i c hc
    cases hk : okA st.ids c with
    | false => rw [hk] at h; exact h.elim
    | true => rw [hk] at h; exact .inl ⟨c, headV_ok hT hc, hk, h⟩
  · split at h
    · rename_i e cells hg ha
      cases hk : madeOk z st es (Go.Proofs.YtfhmljjkhjifeaaGreatDoor.fresh (nid ++ st.ids)) with
      | false => rw [hk] at h; exact h.elim
      | true =>
        rw [hk] at h
        have hk' := hk
        unfold madeOk at hk'
        rw [Bool.not_eq_true'] at hk'
        exact .inr (.inl ⟨_, _, _, hg, allocT_ok hT ha _, hk', h⟩)
    · rename_i hg _
      split at h
      · rename_i q hq
        cases hk : (!(st.heap.any fun r => r.1 == q.1) && befB z.os.toList i q.1 es) with
        | false => rw [hk] at h; exact h.elim
        | true =>
          rw [hk] at h
          rw [Bool.and_eq_true, Bool.not_eq_true'] at hk
          exact .inr (.inr ⟨_, _, _, hg, storeT_ok hT hq, hk.1, hk.2, h⟩)
      · exact h.elim
    · exact h.elim
theorem cstep_ok (hT : TOk P T) {g : Cfg} (h : W P (cstep T g) Q) : W P g Q := by
  unfold cstep at h
  split at h
  · exact stepC_ok h
  · exact l_nil (unwN_ok h)
  · exact stepO_ok hT h
  · exact h
  · exact stepZ_ok hT h
  · exact h
  · exact stepY_ok hT h
  · exact h.elim
theorem crun_ok [t : Tab P] {k : Nat} {g : Cfg} (h : W P (crun P k g) Q) : W P g Q := by
  unfold crun at h
  induction k with
  | zero => exact h
  | succ k ih => exact ih (cstep_ok t.ok h)

/-! the places where the machine stops -/
variable [t : Tab P] {g : Cfg} {β : Type} {r : β}

/-- a state that says less -/
def isCode (g : Cfg) : Bool := match g.foc with
  | .code _ => true
  | .ops _ _ => true
  | _ => false
def isCode0 (g : Cfg) : Bool := match g.foc with
  | .code _ => true
  | _ => false
def stOf (g : Cfg) : St := g.st
def setSt (g : Cfg) (st : St) : Cfg := ⟨g.foc, g.ks, st⟩
theorem wle (k : Nat) {st' : St} (hl : LeSt (stOf (crun P k g)) st') (hc : isCode (crun P k g) = true) (h : W P (setSt (crun P k g) st') Q) : W P g Q := by
  refine crun_ok (k := k) ?_
  generalize crun P k g = g' at *
  obtain ⟨foc, ks, st⟩ := g'
  cases foc with
  | code c => exact awp_le hl h
  | ops os l => exact l_le hl h
  | _ => cases hc

/-- conditions -/
def condB (g : Cfg) : Option Bool := match g.foc with
  | .code (.cond c _ _) => match g.st.eval c with
    | .fz (.atom (.bool b)) => some b
    | _ => none
  | _ => none
def brc (b : Bool) (g : Cfg) : Cfg := match g.foc with
  | .code (.cond _ x y) => ⟨.code (bif b then x else y), g.ks, g.st⟩
  | _ => ⟨.bad, g.ks, g.st⟩
theorem cd (k : Nat) {b : Bool} {X Y : Option β} (h : (bif b then X else Y) = some r) (hc : condB (crun P k g) = some b) (h1 : X = some r → W P (brc true (crun P k g)) Q) (h2 : Y = some r → W P (brc false (crun P k g)) Q) : W P g Q := by
  refine crun_ok (k := k) ?_
  generalize crun P k g = g' at *
  obtain ⟨foc, ks, st⟩ := g'
  have key : W P (brc b ⟨foc, ks, st⟩) Q := by
    cases b with
    | true => exact h1 h
    | false => exact h2 h
  unfold condB at hc
  simp only at hc
  split at hc
  · rename_i c x y
    split at hc
    · rename_i b' hb
      injection hc with hc
      subst hc
      exact awp_cond hb key
    · cases hc
  · cases hc

/-- a guard of an operation -/
def setT (t : Nat) (v : AV) : List (Nat × AV) → List (Nat × AV)
  | [] => []
  | (k, x) :: l => bif Nat.beq k t then (k, v) :: l else (k, x) :: setT t v l
def setF (j : Nat) (v : AV) : FsT → FsT
  | [] => []
  | (k, d, x) :: l => bif Nat.beq k j then (k, d, v) :: l else (k, d, x) :: setF j v l
def getF (j : Nat) : FsT → Option AV
  | [] => none
  | (k, d, x) :: l => bif Nat.beq k j then some x else getF j l
def boolA : AV → Option Bool
  | .fz (.atom (.bool b)) => some b
  | _ => none
def guardB (g : Cfg) : Option Bool := match g.foc with
  | .ops os (o :: _) => match o.guard with
    | some (j, _) => match (os[j]?).bind (·.dst) with
      | some t => boolA (g.st.get t)
      | none => none
    | none => none
  | .drz _ _ _ (o :: _) fs _ _ _ => match o.guard with
    | some (j, _) => match getF j fs with
      | some v => boolA v
      | none => none
    | none => none
  | _ => none
def setG (b : Bool) (g : Cfg) : Cfg := match g.foc with
  | .ops os (o :: l) => match o.guard with
    | some (j, _) => match (os[j]?).bind (·.dst) with
      | some t => ⟨.ops os (o :: l), g.ks, { g.st with tmps := setT t (.fz (.atom (.bool b))) g.st.tmps }⟩
      | none => g
    | none => g
  | .drz z k i (o :: l) fs hp ids pn => match o.guard with
    | some (j, _) => ⟨.drz z k i (o :: l) (setF j (.fz (.atom (.bool b))) fs) hp ids pn, g.ks, g.st⟩
    | none => g
  | _ => g
theorem setT_eq {t : Nat} {b : Bool} : ∀ {l : List (Nat × AV)}, boolA (look .any l t) = some b → setT t (.fz (.atom (.bool b))) l = l
  | [], _ => rfl
  | (k, x) :: l, h => by
    simp only [setT, look] at h ⊢
    cases hk : Nat.beq k t with
    | true =>
      rw [hk] at h
      simp only [cond_true] at h ⊢
      unfold boolA at h
      split at h
      · injection h with h; rw [h]
      · cases h
    | false => rw [hk] at h; simp only [cond_false] at h ⊢; rw [setT_eq h]
theorem setF_eq {j : Nat} {b : Bool} : ∀ {l : FsT} {v : AV}, getF j l = some v → boolA v = some b → setF j (.fz (.atom (.bool b))) l = l
  | [], _, h, _ => rfl
  | (k, d, x) :: l, v, h, hb => by
    simp only [setF, getF] at h ⊢
    cases hk : Nat.beq k j with
    | true =>
      rw [hk] at h
      simp only [cond_true, Option.some.injEq] at h ⊢
      subst h
      unfold boolA at hb
      split at hb
      · injection hb with hb; rw [hb]
      · cases hb
    | false => rw [hk] at h; simp only [cond_false] at h ⊢; rw [setF_eq h hb]
theorem setG_eq {b : Bool} (h : guardB g = some b) : setG b g = g := by
  obtain ⟨foc, ks, st⟩ := g
  unfold guardB at h
  unfold setG
  cases foc with
  | ops os l =>
    cases l with
    | nil => rfl
    | cons o l =>
      try dsimp only at h ⊢
      split at h
      · rename_i j w hg
        split at h
        · rename_i t ht
          try simp only [ht]
          rw [setT_eq h]
        · cases h
      · cases h
  | drz z k i l fs hp ids pn =>
    cases l with
    | nil => rfl
    | cons o l =>
      try dsimp only at h ⊢
      split at h
      · rename_i j w hg
        split at h
        · rename_i v hv
          try dsimp only
          rw [setF_eq hv h]
        · cases h
      · cases h
  | _ => rfl
theorem gd (k : Nat) {b : Bool} {X Y : Option β} (h : (bif b then X else Y) = some r) (hc : guardB (crun P k g) = some b) (h1 : X = some r → W P (setG true (crun P k g)) Q) (h2 : Y = some r → W P (setG false (crun P k g)) Q) : W P g Q := by
  refine crun_ok (k := k) ?_
  rw [← setG_eq hc]
  cases b with
  | true => exact h1 h
  | false => exact h2 h

/-- the operation in front, and the state that it sees -/
def viewOf (g : Cfg) : Option (Oper × St) := match g.foc with
  | .ops os (o :: _) => match guardA os g.st o, dstOk g.st o with
    | some true, true => some (o, g.st)
    | _, _ => none
  | .drz z (_ + 1) i (o :: _) fs hp ids pn => match guardA z.os (zview z g.st i o fs hp ids) o with
    | some true => bif z.es.contains i || deadB z i pn then none else some (o, zview z g.st i o fs hp ids)
    | _ => none
  | .dry z (_ + 1) i (o :: _) fs _ _ _ => match guardA z.os (yview z g.st i o fs) o with
    | some true => some (o, yview z g.st i o fs)
    | _ => none
  | _ => none
def viewO (g : Cfg) : Oper := match g.foc with
  | .ops _ (o :: _) => o
  | .drz _ _ _ (o :: _) _ _ _ _ => o
  | .dry _ _ _ (o :: _) _ _ _ _ => o
  | _ => default
def viewS (g : Cfg) : St := match viewOf g with
  | some p => p.2
  | none => g.st
def rsm (c : AV) (g : Cfg) : Cfg := match g.foc with
  | .ops os (o :: l) => ⟨.ops os l, g.ks, g.st.put o.dst c⟩
  | .drz z (k + 1) i (o :: l) fs hp ids pn => bif phB z.os.toList z.es i || okA g.st.ids c then ⟨.drz z k (i + 1) l ((i, o.dst, c) :: fs) hp ids pn, g.ks, g.st⟩ else ⟨.bad, g.ks, g.st⟩
  | .dry z (k + 1) i (o :: l) fs hp nid es => bif okA g.st.ids c then ⟨.dry z k (i + 1) l ((i, o.dst, c) :: fs) hp nid es, g.ks, g.st⟩ else ⟨.bad, g.ks, g.st⟩
  | _ => ⟨.bad, g.ks, g.st⟩
end
section
variable {P : Program} {T : List (TypeId × TD)} {Q : Exit → St → Prop} {st : St} {ks : List Frm} {g : Cfg} {β : Type} {r : β}
theorem rsm_ok {o : Oper} {v : St} {c : AV} (hv : viewOf g = some (o, v)) (hn : NStep P o v c) (h : W P (rsm c g) Q) : W P g Q := by
  obtain ⟨foc, ks, st⟩ := g
  unfold viewOf at hv
  simp only at hv
  split at hv
  · split at hv
    · rename_i hg hd
      simp only [Option.some.injEq, Prod.mk.injEq] at hv
      obtain ⟨rfl, rfl⟩ := hv
      exact l_step hn.step hg (dst_of hd) h
    · cases hv
  · rename_i z k i o' l fs hp ids pn
    split at hv
    · rename_i hg
      generalize hb : (z.es.contains i || deadB z i pn) = b at hv
      cases b with
      | true => cases hv
      | false =>
        rw [Bool.or_eq_false_iff] at hb
        simp only [cond_false, Option.some.injEq, Prod.mk.injEq] at hv
        obtain ⟨rfl, rfl⟩ := hv
        simp only [rsm] at h
        cases hk : (phB z.os.toList z.es i || okA st.ids c) with
        | false => rw [hk] at h; exact h.elim
        | true => rw [hk] at h; exact .inr (.inl ⟨hb.1, c, .inl ⟨hg, hn⟩, hk, h⟩)
    · cases hv
  · rename_i z k i o' l fs hp nid es
    split at hv
    · rename_i hg
      simp only [Option.some.injEq, Prod.mk.injEq] at hv
      obtain ⟨rfl, rfl⟩ := hv
      simp only [rsm] at h
      cases hk : okA st.ids c with
      | false => rw [hk] at h; exact h.elim
      | true => rw [hk] at h; exact .inl ⟨c, .inl ⟨hg, hn⟩, hk, h⟩
    · cases hv
  · cases hv
end
section
variable {P : Program} {T : List (TypeId × TD)} {Q : Exit → St → Prop} {st : St} {ks : List Frm} [t : Tab P] {g : Cfg} {β : Type} {r : β}
def mokV (g : Cfg) : Bool := (viewOf g).isSome
theorem viewO_eq {o : Oper} {v : St} (h : viewOf g = some (o, v)) : viewO g = o ∧ viewS g = v := by
  refine ⟨?_, by unfold viewS; rw [h]⟩
  obtain ⟨foc, ks, st⟩ := g
  unfold viewOf at h
  unfold viewO
  simp only at h ⊢
  split at h
  · split at h
    · simp only [Option.some.injEq, Prod.mk.injEq] at h; exact h.1
    · cases h
  · rename_i z k i o' l fs hp ids pn
    split at h
    · generalize (z.es.contains i || _) = b at h
      cases b with
      | true => cases h
      | false => simp only [cond_false, Option.some.injEq, Prod.mk.injEq] at h; exact h.1
    · cases h
  · split at h
    · simp only [Option.some.injEq, Prod.mk.injEq] at h; exact h.1
    · cases h
  · cases h
/-- a rule for an operation that changes nothing -/
theorem nst (k : Nat) {c : AV} (hn : NStep P (viewO (crun P k g)) (viewS (crun P k g)) c) (hv : mokV (crun P k g) = true) (h : W P (rsm c (crun P k g)) Q) : W P g Q := by
  refine crun_ok (k := k) ?_
  unfold mokV at hv
  obtain ⟨⟨o, v⟩, hv⟩ := Option.isSome_iff_exists.1 hv
  obtain ⟨e1, e2⟩ := viewO_eq hv
  rw [e1, e2] at hn
  exact rsm_ok hv hn h
/-- a rule for an operation that changes objects -/
def okP (g : Cfg) : Bool := match g.foc with
  | .ops os (o :: _) => match guardA os g.st o, dstOk g.st o with
    | some true, true => true
    | _, _ => false
  | _ => false
def rsmA (c : AV) (h : List (Nat × AObj)) (i : List Nat) (g : Cfg) : Cfg := match g.foc with
  | .ops os (o :: l) => ⟨.ops os l, g.ks, ({ g.st with heap := h, ids := i } : St).put o.dst c⟩
  | _ => ⟨.bad, g.ks, g.st⟩
theorem sst (k : Nat) {c : AV} {h : List (Nat × AObj)} {i : List Nat} (hn : StepA P (viewO (crun P k g)) (stOf (crun P k g)) c h i) (hv : okP (crun P k g) = true) (hw : W P (rsmA c h i (crun P k g)) Q) : W P g Q := by
  refine crun_ok (k := k) ?_
  generalize crun P k g = g' at *
  obtain ⟨foc, ks, st⟩ := g'
  unfold okP at hv
  simp only at hv
  split at hv
  · split at hv
    · rename_i hg hd
      exact l_step hn hg (dst_of hd) hw
    · cases hv
  · cases hv

/-- regions that draw their order -/
def dzOk (n : Nat) (es ai : List Nat) (g : Cfg) : Bool := match g.foc with
  | .code (.region _ os true) => relB os.toList n g.st.n && (chainB os.toList n es && g.st.ids.all ai.contains)
  | _ => false
def dzOf (n : Nat) (es ch ai : List Nat) (g : Cfg) : Cfg := match g.foc with
  | .code (.region _ os true) => ⟨.drz ⟨os, n, es, ch, ai⟩ n 0 os.toList [] g.st.heap g.st.ids none, g.ks, g.st⟩
  | _ => ⟨.bad, g.ks, g.st⟩
theorem dz (k n : Nat) (es ch ai : List Nat) (hc : dzOk n es ai (crun P k g) = true) (hw : W P (dzOf n es ch ai (crun P k g)) Q) : W P g Q := by
  refine crun_ok (k := k) ?_
  generalize crun P k g = g' at *
  obtain ⟨foc, ks, st⟩ := g'
  unfold dzOk at hc
  simp only at hc
  split at hc
  · rename_i id os
    simp only [Bool.and_eq_true] at hc
    obtain ⟨l⟩ := os
    exact awp_drz t.mixed hc.1 hc.2.1 hc.2.2 hw
  · cases hc
/-- without a chain -/
def idsOf (g : Cfg) : List Nat := g.st.ids
theorem dw (k n : Nat) (hc : dzOk n [] (idsOf (crun P k g)) (crun P k g) = true) (hw : W P (dzOf n [] [] (idsOf (crun P k g)) (crun P k g)) Q) : W P g Q := dz k n [] [] _ hc hw
/-- a rule for an operation of the chain -/
def okZ (g : Cfg) : Bool := match g.foc with
  | .drz z (_ + 1) i (o :: _) fs hp ids none => z.es.contains i && (match guardA z.os (zview z g.st i o fs hp ids) o with | some true => true | _ => false)
  | _ => false
def viewZs (g : Cfg) : St := match g.foc with
  | .drz z _ i (o :: _) fs hp ids _ => zview z g.st i o fs hp ids
  | _ => g.st
def offZ (g : Cfg) (h : List (Nat × AObj)) : List (Option AObj) := match g.foc with
  | .drz z _ _ _ _ hp _ _ => (keysL z.ch hp).map (lookO h)
  | _ => []
def hpZ (g : Cfg) : List (Nat × AObj) := match g.foc with
  | .drz _ _ _ _ _ hp _ _ => hp
  | _ => []
def idsZ (i' : List Nat) (g : Cfg) : Bool := match g.foc with
  | .drz z _ _ _ _ _ ids _ => idsOk z.ai ids i'
  | _ => false
def rsmZ (c : AV) (h' : List (Nat × AObj)) (i' : List Nat) (g : Cfg) : Cfg := match g.foc with
  | .drz z (k + 1) i (o :: l) fs _ _ _ => ⟨.drz z k (i + 1) l ((i, o.dst, c) :: fs) h' i' none, g.ks, g.st⟩
  | _ => ⟨.bad, g.ks, g.st⟩
theorem zst (k : Nat) {c : AV} {h' : List (Nat × AObj)} {i' : List Nat} (hn : StepA P (viewO (crun P k g)) (viewZs (crun P k g)) c h' i') (hv : okZ (crun P k g) = true) (hi : idsZ i' (crun P k g) = true) (hk : offZ (crun P k g) h' = offZ (crun P k g) (hpZ (crun P k g))) (hw : W P (rsmZ c h' i' (crun P k g)) Q) : W P g Q := by
  refine crun_ok (k := k) ?_
  generalize crun P k g = g' at *
  obtain ⟨foc, ks, st⟩ := g'
  unfold okZ at hv
  simp only at hv
  split at hv
  · rename_i z k i o l fs hp ids
    simp only [Bool.and_eq_true] at hv
    obtain ⟨h1, h2⟩ := hv
    split at h2
    · rename_i hg
      exact .inr (.inr (.inl ⟨h1, rfl, c, h', i', ⟨.inl ⟨hg, hn⟩, .inr ⟨keepCh hk, idsOk_ok hi⟩⟩, hw⟩))
    · cases h2
  · cases hv
/-- joins: code up to d frames of the rest -/
def mpre (g : Cfg) : Cfg := ⟨g.foc, [], g.st⟩
def ksOf (g : Cfg) : List Frm := g.ks
end
section
variable {P : Program} {T : List (TypeId × TD)} {Q : Exit → St → Prop} {st : St} {ks : List Frm} {g : Cfg} {β : Type} {r : β}
theorem l_weaken {os : Array Oper} {l : List Oper} (h : awpL P os l st fun e st' => ∃ st2, LeSt st' st2 ∧ Q e st2) : awpL P os l st Q := fun F S0 N0 ψ S a w hs =>
  wpList_mono (fun e a' w' ⟨st', ψ', S', ⟨st2, h0, h1⟩, h2, h3⟩ => by
    obtain ⟨ψ2, S2, h4⟩ := h0 F S0 N0 ψ' S' a' w' h2
    exact ⟨st2, ψ2, S2, h1, h4, h3⟩) _ _ _ (h F S0 N0 ψ S a w hs)
theorem awpL_mono {os : Array Oper} {l : List Oper} {Q' : Exit → St → Prop} (h : awpL P os l st Q) (hq : ∀ e st, Q e st → Q' e st) : awpL P os l st Q' := fun F S0 N0 ψ S a w hs =>
  wpList_mono (fun e a' w' ⟨st', ψ', S', h1, h2⟩ => ⟨st', ψ', S', hq _ _ h1, h2⟩) _ _ _ (h F S0 N0 ψ S a w hs)
end
section
variable {P : Program} {T : List (TypeId × TD)} {Q : Exit → St → Prop} {st : St} {ks : List Frm} [t : Tab P] {g : Cfg} {β : Type} {r : β}
/-- says less later: allowed within code -/
def WeakQ (Q : Exit → St → Prop) : Exit → St → Prop := fun e st' => ∃ st2, LeSt st' st2 ∧ Q e st2
end
section
variable {P : Program} {T : List (TypeId × TD)} {Q : Exit → St → Prop} {st : St} {ks : List Frm} {g : Cfg} {β : Type} {r : β}
end
section
variable {P : Program} {T : List (TypeId × TD)} {Q : Exit → St → Prop} {st : St} {ks : List Frm} [t : Tab P] {g : Cfg} {β : Type} {r : β}
theorem jn (k : Nat) (Qa : Exit → St → Prop) (hc : isCode (crun P k g) = true) (ha : W P (mpre (crun P k g)) Qa) (hb : ∀ e st', Qa e st' → ∃ st2, LeSt st' st2 ∧ W P (unw e (ksOf (crun P k g)) st2) Q) : W P g Q := by
  refine crun_ok (k := k) ?_
  generalize crun P k g = g' at *
  obtain ⟨foc, ks, st⟩ := g'
  have hq : ∀ e st', Qa e st' → WeakQ (postK P ks Q) e st' := fun e st' h => let ⟨st2, h1, h2⟩ := hb e st' h; ⟨st2, h1, unw_ok h2⟩
  cases foc with
  | code c => exact awp_weaken (awp_mono (show awp P c st Qa from ha) hq)
  | ops os l => exact l_weaken (awpL_mono (show awpL P os l st Qa from ha) hq)
  | _ => cases hc
/-- a join with one end -/
theorem jn1 {α : Type} {E : Option α} {K : α → Option β} (k : Nat) (e : Exit) (J : α → St) (h : Option.bind E K = some r) (hc : isCode (crun P k g) = true) (ha : ∀ v, E = some v → W P (mpre (crun P k g)) fun e' st => e' = e ∧ LeSt st (J v))
    (hb : ∀ v, K v = some r → W P (unw e (ksOf (crun P k g)) (J v)) Q) : W P g Q := by
  obtain ⟨v, h1, h2⟩ := Option.bind_eq_some_iff.1 h
  refine jn k _ hc (ha v h1) ?_
  rintro _ st' ⟨rfl, hl⟩
  exact ⟨_, hl, hb v h2⟩
theorem jnQ {α : Type} {E : Option α} {K : α → Option β} (k : Nat) (Qa : α → Exit → St → Prop) (h : Option.bind E K = some r) (hc : isCode (crun P k g) = true) (ha : ∀ v, E = some v → W P (mpre (crun P k g)) (Qa v))
    (hb : ∀ v, K v = some r → ∀ e st', Qa v e st' → ∃ st2, LeSt st' st2 ∧ W P (unw e (ksOf (crun P k g)) st2) Q) : W P g Q := by
  obtain ⟨v, h1, h2⟩ := Option.bind_eq_some_iff.1 h
  exact jn k _ hc (ha v h1) (hb v h2)

/-- the shapes that a state wants -/
def autoF : FV → C0
  | .lst s _ _ => .sl s
  | _ => .keep
def auto0 : AV → C0
  | .fz x => autoF x
  | _ => .keep
def auto1 : AV → C1
  | .fz (.agg xs) => .ag (xs.map autoF)
  | .agg xs => .ag (xs.map auto0)
  | x => .one (auto0 x)
def autoT (st : St) : List (Nat × C1) := st.tmps.map fun p => (p.1, auto1 p.2)
def autoO : AObj → List C0
  | .box _ cs => cs.map auto0
  | _ => []
def autoH (st : St) : List (Nat × List C0) := st.heap.map fun p => (p.1, autoO p.2)
def coA (st J : St) : Option St := coSt st J.ids (autoT J) (autoH J)
theorem le_a {st J : St} (h : coA st J = some J) : LeSt st J := le_co h
def finIs : Foc → Exit → Bool
  | .fin .normal, .normal => true
  | .fin .ret, .ret => true
  | .fin (.exit i), .exit j => Nat.beq i j
  | _, _ => false
theorem finIs_eq {foc : Foc} {e : Exit} (h : finIs foc e = true) : foc = .fin e ∧ (e = .normal ∨ e = .ret ∨ ∃ i, e = .exit i) := by
  unfold finIs at h
  split at h
  · exact ⟨rfl, .inl rfl⟩
  · exact ⟨rfl, .inr (.inl rfl)⟩
  · rename_i i j; rw [Nat.eq_of_beq_eq_true h]; exact ⟨rfl, .inr (.inr ⟨_, rfl⟩)⟩
  · cases h
def jok (g : Cfg) (e : Exit) (J : St) : Option St := bif finIs g.foc e then coA g.st J else none
end
section
variable {P : Program} {T : List (TypeId × TD)} {Q : Exit → St → Prop} {st : St} {ks : List Frm} {g : Cfg} {β : Type} {r : β}
end
section
variable {P : Program} {T : List (TypeId × TD)} {Q : Exit → St → Prop} {st : St} {ks : List Frm} [t : Tab P] {g : Cfg} {β : Type} {r : β}
/-- the end of a part -/
def nilK (g : Cfg) : Bool := match g.ks with
  | [] => true
  | _ => false
theorem lj (k : Nat) {e : Exit} {J : St} (hc : (bif nilK (crun P k g) then jok (crun P k g) e J else none) = some J) : W P g fun e' st => e' = e ∧ LeSt st J := by
  refine crun_ok (k := k) ?_
  generalize crun P k g = g' at *
  obtain ⟨foc, ks, st⟩ := g'
  cases ks with
  | cons => cases hc
  | nil =>
    simp only [nilK, jok, cond_true] at hc
    cases hf : finIs foc e with
    | false => rw [hf] at hc; cases hc
    | true =>
      rw [hf] at hc
      obtain ⟨rfl, _⟩ := finIs_eq hf
      exact ⟨rfl, le_a hc⟩
theorem lo (k : Nat) {e : Exit} {J : St} (hc : (bif nilK (crun P k g) && !finIs (crun P k g).foc .normal then jok (crun P k g) e J else none) = some J) : W P g fun e' st => (e' ≠ .normal ∧ e' ≠ .outgrown) ∧ (e' = e ∧ LeSt st J) := by
  refine crun_ok (k := k) ?_
  generalize crun P k g = g' at *
  obtain ⟨foc, ks, st⟩ := g'
  cases ks with
  | cons => cases hc
  | nil =>
    simp only [nilK, jok, Bool.true_and] at hc
    cases hn : finIs foc .normal with
    | true => rw [hn] at hc; cases hc
    | false =>
      rw [hn] at hc
      cases hf : finIs foc e with
      | false => rw [hf] at hc; cases hc
      | true =>
        rw [hf] at hc
        obtain ⟨rfl, he⟩ := finIs_eq hf
        refine ⟨⟨fun h => ?_, fun h => ?_⟩, rfl, le_a hc⟩
        · subst h; cases hn
        · rcases he with rfl | rfl | ⟨i, rfl⟩ <;> cases h
/-- the end of a function -/
def isRet : Foc → Bool
  | .fin .normal => true
  | .fin .ret => true
  | _ => false
def isRetR : Foc → Bool
  | .fin .ret => true
  | _ => false
def rokq (T : List (TypeId × TD)) (g : Cfg) (rs : List ResultVar) (cs : List C1) : Option FV := bif nilK g && isRet g.foc then retX T g.st rs cs else none
def rokr (T : List (TypeId × TD)) (g : Cfg) (rs : List ResultVar) (cs : List C1) : Option FV := bif isRetR g.foc then retX T g.st rs cs else none
theorem lq (k : Nat) {rs : List ResultVar} {cs : List C1} {y : FV} (hc : rokq t.T (crun P k g) rs cs = some y) : W P g (retQ t.T rs cs y) := by
  refine crun_ok (k := k) ?_
  generalize crun P k g = g' at *
  obtain ⟨foc, ks, st⟩ := g'
  unfold rokq at hc
  cases ks with
  | cons => cases hc
  | nil =>
    simp only [nilK, Bool.true_and] at hc
    cases hf : isRet foc with
    | false => rw [hf] at hc; cases hc
    | true =>
      rw [hf] at hc
      unfold isRet at hf
      split at hf
      · exact hc
      · exact hc
      · cases hf
theorem lr (k : Nat) {rs : List ResultVar} {cs : List C1} {y : FV} (hc : rokr t.T (crun P k g) rs cs = some y) : W P g fun e st => e = .ret ∧ retX t.T st rs cs = some y := by
  refine crun_ok (k := k) ?_
  generalize crun P k g = g' at *
  obtain ⟨foc, ks, st⟩ := g'
  unfold rokr at hc
  cases hf : isRetR foc with
  | false => simp only [hf] at hc; cases hc
  | true =>
    simp only [hf] at hc
    unfold isRetR at hf
    split at hf
    · exact unwR_ok (Q := fun e st => e = .ret ∧ retX t.T st rs cs = some y) ⟨rfl, hc⟩
    · cases hf
theorem lor (k : Nat) {rs : List ResultVar} {cs : List C1} {y : FV} (hc : rokr t.T (crun P k g) rs cs = some y) : W P g fun e st => (e ≠ .normal ∧ e ≠ .outgrown) ∧ (e = .ret ∧ retX t.T st rs cs = some y) := by
  refine crun_ok (k := k) ?_
  generalize crun P k g = g' at *
  obtain ⟨foc, ks, st⟩ := g'
  unfold rokr at hc
  cases hf : isRetR foc with
  | false => simp only [hf] at hc; cases hc
  | true =>
    simp only [hf] at hc
    unfold isRetR at hf
    split at hf
    · exact unwR_ok (Q := fun e st => (e ≠ .normal ∧ e ≠ .outgrown) ∧ (e = .ret ∧ retX t.T st rs cs = some y)) ⟨⟨(fun h => nomatch h), (fun h => nomatch h)⟩, rfl, hc⟩
    · cases hf
/-- behind a part that has ended the function -/
theorem lv {rs : List ResultVar} {cs : List C1} {y : FV} {st : St} {ks : List Frm} (h : retX t.T st rs cs = some y) : W P (unw .ret ks st) (retQ t.T rs cs y) := h
theorem lvr {rs : List ResultVar} {cs : List C1} {y : FV} {st : St} {ks : List Frm} (h : retX t.T st rs cs = some y) : W P (unw .ret ks st) fun e st => e = .ret ∧ retX t.T st rs cs = some y := ⟨rfl, h⟩
theorem lvo {rs : List ResultVar} {cs : List C1} {y : FV} {st : St} {ks : List Frm} (h : retX t.T st rs cs = some y) : W P (unw .ret ks st) fun e st => (e ≠ .normal ∧ e ≠ .outgrown) ∧ (e = .ret ∧ retX t.T st rs cs = some y) := ⟨⟨fun h => (nomatch h), fun h => (nomatch h)⟩, rfl, h⟩
end
section
variable {P : Program} {T : List (TypeId × TD)} {Q : Exit → St → Prop} {st : St} {ks : List Frm} {g : Cfg} {β : Type} {r : β}
end
section
variable {P : Program} {T : List (TypeId × TD)} {Q : Exit → St → Prop} {st : St} {ks : List Frm} [t : Tab P] {g : Cfg} {β : Type} {r : β}
/-- loops -/
def bodyOf (g : Cfg) : Cfg := match g.foc with
  | .code (.loop c) => ⟨.code c, [], g.st⟩
  | _ => ⟨.bad, [], g.st⟩
def isLoop (g : Cfg) : Bool := match g.foc with
  | .code (.loop _) => true
  | _ => false
theorem lpx {σ α : Type} {step : σ → Option (σ ⊕ α)} {n : Nat} {s0 : σ} {K : α → Option β} (k : Nat) (H : σ → St) (Qb : α → Exit → St → Prop) (h : Option.bind (loopN step n s0) K = some r) (hc : isLoop (crun P k g) = true) (h0 : LeSt (stOf (crun P k g)) (H s0))
    (hb : ∀ s r', step s = some r' → W P (setSt (bodyOf (crun P k g)) (H s)) (Sum.elim (fun s' e st => e = .normal ∧ LeSt st (H s')) (fun v e st => (e ≠ .normal ∧ e ≠ .outgrown) ∧ Qb v e st) r'))
    (ha : ∀ v, K v = some r → ∀ e st', Qb v e st' → ∃ st2, LeSt st' st2 ∧ W P (unw e (ksOf (crun P k g)) st2) Q) : W P g Q := by
  refine crun_ok (k := k) ?_
  generalize crun P k g = g' at *
  obtain ⟨foc, ks, st⟩ := g'
  obtain ⟨v, h1, h2⟩ := Option.bind_eq_some_iff.1 h
  unfold isLoop at hc
  simp only at hc
  split at hc
  · rename_i c
    refine awp_join (awp_loopS (P := P) (body := c) (st := st) H (Qb := Qb) h1 h0 fun s r' hs => ?_) fun e st' hq => ?_
    · have := hb s r' hs
      cases r' with
      | inl s' => exact this
      | inr b => exact this
    · obtain ⟨st2, e1, e2⟩ := ha v h2 e st' hq
      exact ⟨st2, e1, unw_ok e2⟩
  · cases hc
theorem lp1 {σ α : Type} {step : σ → Option (σ ⊕ α)} {n : Nat} {s0 : σ} {K : α → Option β} (k : Nat) (H : σ → St) (e : Exit) (J : α → St) (h : Option.bind (loopN step n s0) K = some r) (hc : isLoop (crun P k g) = true) (h0 : coA (stOf (crun P k g)) (H s0) = some (H s0))
    (hb : ∀ s r', step s = some r' → W P (setSt (bodyOf (crun P k g)) (H s)) (Sum.elim (fun s' e st => e = .normal ∧ LeSt st (H s')) (fun v e' st => (e' ≠ .normal ∧ e' ≠ .outgrown) ∧ (e' = e ∧ LeSt st (J v))) r'))
    (ha : ∀ v, K v = some r → W P (unw e (ksOf (crun P k g)) (J v)) Q) : W P g Q := by
  refine lpx k H _ h hc (le_a h0) hb fun v hv e' st' hq => ?_
  obtain ⟨rfl, hl⟩ := hq
  exact ⟨_, hl, ha v hv⟩

/-- functions over data -/
theorem opc (k : Nat) {id : Nat} {e : TypeId} {cells : List AV} (hob : lookO (stOf (crun P k g)).heap id = some (.box e (.opt id :: cells))) (hc : isCode0 (crun P k g) = true)
    (h1 : W P (setSt (crun P k g) { stOf (crun P k g) with heap := (id, .box e (.fz (.atom (.pointer none)) :: cells)) :: (stOf (crun P k g)).heap }) Q)
    (h2 : W P (setSt (crun P k g) { stOf (crun P k g) with heap := (id, .box e (.ref id 0 0 :: cells)) :: (stOf (crun P k g)).heap }) Q) : W P g Q := by
  refine crun_ok (k := k) ?_
  generalize crun P k g = g' at *
  obtain ⟨foc, ks, st⟩ := g'
  cases foc with
  | code c => exact awp_optcases hob h1 h2
  | _ => cases hc
/-- calls in place -/
def codeOf (fn : Func) : Code := fn.body.getD .skip
theorem codeOf_eq {fn : Func} (h : fn.body.isSome = true) : fn.body = some (codeOf fn) := by
  unfold codeOf
  cases hb : fn.body with
  | none => rw [hb] at h; cases h
  | some c => rfl
def inlW (P : Program) (os : Array Oper) (l : List Oper) (ks : List Frm) (dst : Option Nat) (n : Nat) (D : List Deferred) (gi : Nat) (cs : List Value) (keep : List (Nat × AV)) (rs : List ResultVar) (Q : Exit → St → Prop) : Exit → St → Prop := inlQ P os l dst n D gi cs keep rs (postK P ks Q)
def inlF (g : Cfg) : Option (FuncId × List AV) := match g.foc with
  | .ops os (o :: _) => match guardA os g.st o, dstOk g.st o with
    | some true, true => match o.op with
      | .call c => match c.callee with
        | .value x => match g.st.eval x with
          | .fn f cap => some (f, c.args.toList.map g.st.eval ++ cap)
          | _ => none
        | _ => none
      | _ => none
    | _, _ => none
  | _ => none
def opsOf (g : Cfg) : Array Oper := match g.foc with
  | .ops os _ => os
  | _ => #[]
def tailOf (g : Cfg) : List Oper := match g.foc with
  | .ops _ (_ :: l) => l
  | _ => []
def dstOf (g : Cfg) : Option Nat := match g.foc with
  | .ops _ (o :: _) => o.dst
  | _ => none
theorem inl (k : Nat) {f : FuncId} {fn : Func} {n gi : Nat} {ys : List AV} (hf : P.funcs[f]? = some fn) (hb : fn.body.isSome = true) (hn : (fn.name == "runtime.NumGoroutine") = false) (hnt : fn.ntmps = n) (hle : Nat.ble ys.length n = true) (hgi : (stOf (crun P k g)).ids.contains gi = false)
    (hc : inlF (crun P k g) = some (f, ys))
    (h : ∀ cs, W P ⟨.code (codeOf fn), [], { n := n, tmps := argT 0 ys, heap := (gi, .gho cs ((stOf (crun P k g)).tmps.map fun p => (stOf (crun P k g)).get p.1)) :: (stOf (crun P k g)).heap, ids := gi :: (stOf (crun P k g)).ids }⟩
      (inlW P (opsOf (crun P k g)) (tailOf (crun P k g)) (ksOf (crun P k g)) (dstOf (crun P k g)) (stOf (crun P k g)).n (stOf (crun P k g)).dfr gi cs (stOf (crun P k g)).tmps fn.results.toList Q)) : W P g Q := by
  refine crun_ok (k := k) ?_
  generalize crun P k g = g' at *
  obtain ⟨foc, ks, st⟩ := g'
  unfold inlF at hc
  simp only at hc
  split at hc
  · split at hc
    · rename_i hg hd
      split at hc
      · rename_i c' ho
        split at hc
        · rename_i x hx
          split at hc
          · rename_i f' cap hv
            simp only [Option.some.injEq, Prod.mk.injEq] at hc
            obtain ⟨rfl, rfl⟩ := hc
            obtain ⟨cc, as1, ts⟩ := c'
            simp only at hx
            subst hx
            exact l_inline ho hv hg (dst_of hd) hf (codeOf_eq hb) hn hnt rfl hle hgi h
          · cases hc
        · cases hc
      · cases hc
    · cases hc
  · cases hc
/-- functions over objects -/
theorem hcx {f : FuncId} {fn : Func} {args : List AV} {pre : List (Nat × AObj)} {ids : List Nat} {E : HEnd} {post : List (Nat × AObj)} {ids' : List Nat} {gi : Nat} (hf : P.funcs[f]? = some fn) (hb : fn.body.isSome = true) (hn : (fn.name == "runtime.NumGoroutine") = false)
    (hle : Nat.ble args.length fn.ntmps = true) (hg : ids.contains gi = false) (hg' : ids'.contains gi = false) (hp' : (post.all fun p => okO ids' p.2) = true) (hE : E.ok ids' = true) (hk : (post.all fun p => ids'.contains p.1) = true)
    (h : ∀ ψ0 S1 w0, W P ⟨.code (codeOf fn), [], { n := fn.ntmps, tmps := argT 0 args, heap := (gi, .was ψ0 ids S1 w0) :: pre, ids := gi :: ids }⟩ (hQ t.T fn.results.toList gi ids E post ids' ψ0 S1 w0)) : HCall P f args pre ids E post ids' :=
  hcall_introQ t.ok hf (codeOf_eq hb) hn hle hg hg' hp' hE hk h
theorem lh (k : Nat) {rs : List ResultVar} {gi : Nat} {ids ids' : List Nat} {res : AV} {post : List (Nat × AObj)} {ψ0 : Env} {S1 : Nat → Prop} {w0 : World} (st2 : St) (hl : LeSt (stOf (crun P k g)) st2) (hh : st2.heap = (gi, .was ψ0 ids S1 w0) :: post) (hi : st2.ids = gi :: ids')
    (hc : (nilK (crun P k g) && isRet (crun P k g).foc) = true) (hr : retA t.T st2 rs = some res) : W P g (hQ t.T rs gi ids (.ret res) post ids' ψ0 S1 w0) := by
  refine crun_ok (k := k) ?_
  generalize crun P k g = g' at *
  obtain ⟨foc, ks, st⟩ := g'
  simp only [Bool.and_eq_true] at hc
  cases ks with
  | cons => cases hc.1
  | nil =>
    have hf : isRet foc = true := hc.2
    unfold isRet at hf
    split at hf
    · exact hQ_ret hl hh hi (.inl rfl) hr
    · exact hQ_ret hl hh hi (.inr rfl) hr
    · cases hf
theorem pcl {f : FuncId} {fn : Func} {args : List FV} {y : FV} (cs : List C1) (hf : P.funcs[f]? = some fn) (hb : fn.body.isSome = true) (hn : (fn.name == "runtime.NumGoroutine") = false) (hle : Nat.ble args.length fn.ntmps = true)
    (h : W P ⟨.code (codeOf fn), [], { n := fn.ntmps, tmps := entryT 0 args, heap := [], ids := [] }⟩ (retQ t.T fn.results.toList cs y)) : PCall P f args y := pcall_intro t.ok cs hf (codeOf_eq hb) hn hle h
def stepF {γ : Type} (f : Oper → St → Option γ) (g : Cfg) : Option γ := bif okP g then f (viewO g) (stOf g) else none
theorem stepF_ok {γ : Type} {f : Oper → St → Option γ} {z : γ} {g : Cfg} (h : stepF f g = some z) : okP g = true ∧ f (viewO g) (stOf g) = some z := by
  unfold stepF at h
  cases hk : okP g with
  | false => rw [hk] at h; cases h
  | true => rw [hk] at h; exact ⟨rfl, h⟩

end
attribute [irreducible] W
end Go.Proofs.YtfhmljjkhjifeaaGreatDoor
