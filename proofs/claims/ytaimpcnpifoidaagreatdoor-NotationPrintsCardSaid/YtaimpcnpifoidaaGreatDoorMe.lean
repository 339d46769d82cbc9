import Derived.Test.YtaimpcnpifoidaaGreatDoorOpg
import Derived.WideKeyRuns
import Derived.LaidEql
import Derived.Scope
set_option linter.unusedVariables false
set_option linter.unusedSimpArgs false
namespace Go.Proofs.YtaimpcnpifoidaaGreatDoor
open Go Go.RowKit
def kua (id : Nat) : AV → List (Nat × Nat)
 | .ref k m off => bif Nat.beq k id then [(m, off)] else []
 | _ => []
def k3z (id : Nat) : AV → List (Nat × Nat)
 | .agg cs => cs.flatMap (kua id)
 | .fn _ cs => cs.flatMap (kua id)
 | y => kua id y
def kyv (id : Nat) : AV → List (Nat × Nat)
 | .tup cs => cs.flatMap (k3z id)
 | y => k3z id y
def k3v (id : Nat) : AObj → List (Nat × Nat)
 | .box _ cs => cs.flatMap (kua id)
 | _ => []
def fbx (xs : List FV) : Nat → FV
 | 0 => .bx xs
 | o + 1 => .fp (xs.drop (o + 1))
def frb1 (id : Nat) (xs : List FV) : AV → AV
 | .ref k m off => bif Nat.beq k id then .fz (fbx xs off) else .ref k m off
 | y => y
def frbG (id : Nat) (xs : List FV) : AV → AV
 | .agg cs => aggA (cs.map (frb1 id xs))
 | .fn f cs => .fn f (cs.map (frb1 id xs))
 | y => frb1 id xs y
def frbT (id : Nat) (xs : List FV) : AV → AV
 | .tup cs => tupA (cs.map (frbG id xs))
 | y => frbG id xs y
def frbO (id : Nat) (xs : List FV) : AObj → AObj
 | .box e cs => .box e (cs.map (frb1 id xs))
 | y => y
def k54 (id : Nat) (st : St) : List (Nat × Nat) := st.tmps.flatMap (fun p => kyv id p.2) ++ (kcf id st.heap).flatMap (fun p => k3v id p.2)
def frbSt (id : Nat) (xs : List FV) (st : St) : St := { dfr := st.dfr, n := st.n, tmps := st.tmps.map (fun p => (p.1, frbT id xs p.2)), heap := (kcf id st.heap).map (fun p => (p.1, frbO id xs p.2)), ids := st.ids }
def kt6 (n : Nat) (p : Nat × Nat) : Bool := Nat.beq p.1 0 && Nat.blt p.2 n
section
variable {F S0 : Nat → Prop} {N0 : Nat} {w : World} {S : Nat → Prop} {ψ : Env} {K : Nat → Prop} {id : Nat} {xs : List FV} {st : St}
theorem kqu (hx : ∀ v off, off < xs.length → RV ψ K S w v (.ref id 0 off) → RF S w v (fbx xs off)) {v : Value} {y : AV} (h : RV ψ K S w v y) (hr : ∀ m ∈ kua id y, kt6 xs.length m = true) : RV ψ K S w v (frb1 id xs y) := by
 cases y with
 | ref k m off =>
  simp only [frb1]
  cases hb : Nat.beq k id with
  | false => exact h
  | true =>
   have hk := Nat.eq_of_beq_eq_true hb
   subst hk
   have hm := hr (m, off) (by simp [kua])
   unfold kt6 at hm
   rw [Bool.and_eq_true] at hm
   obtain rfl := Nat.eq_of_beq_eq_true hm.1
   exact .fz (hx v off (by simpa [Nat.blt_eq] using hm.2) h)
 | _ => exact h
theorem kul {y : AV} (h : y.single = true) : (frb1 id xs y).single = true := by
 cases y with
 | ref k m off =>
  simp only [frb1]
  cases Nat.beq k id with
  | false => exact h
  | true => cases off <;> rfl
 | _ => exact h
theorem kwz (hx : ∀ v off, off < xs.length → RV ψ K S w v (.ref id 0 off) → RF S w v (fbx xs off)) {v : Value} {y : AV} (h : RV ψ K S w v y) (hr : ∀ m ∈ k3z id y, kt6 xs.length m = true) : RV ψ K S w v (frbG id xs y) := by
 cases y with
 | agg cs =>
  cases h with
  | agg h h1 hr' =>
   refine RV.aggA (by simpa using h) (fun y hy => ?_) (klo (R := fun _ _ => True) hr' fun v y hy hv => kqu hx hv fun m hm => hr m ?_)
   ·simp only [List.mem_map] at hy
    obtain ⟨z, hz, rfl⟩ := hy
    exact kul (h1 z hz)
   ·exact List.mem_flatMap.2 ⟨y, hy, hm⟩
 | fn f cs =>
  cases h with
  | fn h hr' => exact .fn (by simpa using h) (klo (R := fun _ _ => True) hr' fun v y hy hv => kqu hx hv fun m hm => hr m (List.mem_flatMap.2 ⟨y, hy, hm⟩))
 | ref k m off => exact kqu hx h hr
 | _ => exact h
theorem kab9 (hx : ∀ v off, off < xs.length → RV ψ K S w v (.ref id 0 off) → RF S w v (fbx xs off)) {v : Value} {y : AV} (h : RV ψ K S w v y) (hr : ∀ m ∈ kyv id y, kt6 xs.length m = true) : RV ψ K S w v (frbT id xs y) := by
 cases y with
 | tup cs =>
  cases h with
  | tup h hr' => exact RV.tupA (by simpa using h) (klo (R := fun _ _ => True) hr' fun v y hy hv => kwz hx hv fun m hm => hr m (List.mem_flatMap.2 ⟨y, hy, hm⟩))
 | agg cs => exact kwz hx h hr
 | fn f cs => exact kwz hx h hr
 | ref k m off => exact kqu hx h hr
 | _ => exact h
theorem k80 (l : List (Nat × AV)) (t : Nat) : look .any (l.map fun p => (p.1, frbT id xs p.2)) t = frbT id xs (look .any l t) ∧ ∀ m ∈ kyv id (look .any l t), m ∈ l.flatMap (fun p => kyv id p.2) := by
 induction l with
 | nil => exact ⟨rfl, fun m hm => by cases hm⟩
 | cons p l ih =>
  obtain ⟨k, v⟩ := p
  simp only [List.map_cons, kcj, List.flatMap_cons, List.mem_append]
  by_cases h : k = t
  ·simp only [if_pos h]
   exact ⟨trivial, fun m hm => .inl hm⟩
  ·simp only [if_neg h]
   exact ⟨ih.1, fun m hm => .inr (ih.2 m hm)⟩
theorem kth (l : List (Nat × AObj)) (t : Nat) : kab (l.map fun p => (p.1, frbO id xs p.2)) t = (kab l t).map (frbO id xs) ∧ ∀ o, kab l t = some o → ∀ m ∈ k3v id o, m ∈ l.flatMap (fun p => k3v id p.2) := by
 induction l with
 | nil => exact ⟨rfl, fun o h => by cases h⟩
 | cons p l ih =>
  obtain ⟨k, v⟩ := p
  simp only [List.map_cons, kag, List.flatMap_cons, List.mem_append]
  by_cases h : k = t
  ·simp only [if_pos h]
   exact ⟨rfl, fun o ho m hm => by injection ho with ho; subst ho; exact .inl hm⟩
  ·simp only [if_neg h]
   exact ⟨ih.1, fun o ho m hm => .inr (ih.2 o ho m hm)⟩
theorem k0w {heap : List (Nat × AObj)} {ids : List Nat} {e : TypeId} (h : Core F S0 N0 heap ids ψ S w) (ho : kab heap id = some (.box e (xs.map .fz))) (h0 : 0 < xs.length) :
  Core F S0 N0 (kcf id heap) ids ψ (fun b => S b ∨ kbo (ψ.val id) = some b) w ∧ ψ.len id = 0 ∧ ∃ b, kbo (ψ.val id) = some b ∧ ∀ off, off < xs.length → RF (fun b => S b ∨ kbo (ψ.val id) = some b) w (.pointer (some ⟨b, off, none⟩)) (fbx xs off) := by
 obtain ⟨hid, hob, hfr⟩ := h.obj id _ ho
 have hob' := hob
 obtain ⟨g0, b, cs, g2, g3, g4, g5, g6⟩ := hob
 refine ⟨⟨fun k ob hk => ?_, fun k k' o o' b hk hk' hne hb hb' => ?_, fun b hb => ?_, fun b hb => ?_, h.n0, h.fr⟩, g0, b, by rw [g2]; rfl, fun off hoff => ?_⟩
 ·obtain ⟨hne, hk⟩ := kdp id hk
  obtain ⟨h1, h2, h3⟩ := h.obj k ob hk
  refine ⟨h1, h2.keep Ext.refl (fun _ h => h) (fun b hb => .inl hb) (fun _ _ _ => rfl) ⟨rfl, rfl⟩ (fun _ _ => rfl), fun b hb => ⟨fun hs => ?_, (h3 b hb).2⟩⟩
  rcases hs with hs | hs
  ·exact (h3 b hb).1 hs
  ·exact h.inj k id ob _ b hk ho hne hb (.of hs)
 ·obtain ⟨_, hk⟩ := kdp id hk
  obtain ⟨_, hk'⟩ := kdp id hk'
  exact h.inj k k' o o' b hk hk' hne hb hb'
 ·rcases hb with hb | hb
  ·exact h.lt b hb
  ·exact hob'.lt (.of hb)
 ·rcases hb with hb | hb
  ·exact h.s0 b hb
  ·exact (hfr b (.of hb)).2.2
 ·have base : RF (fun b => S b ∨ kbo (ψ.val id) = some b) w (.pointer (some ⟨b, 0, none⟩)) (.fp xs) := by
   refine .fp cs.toList (.inr (by rw [g2]; rfl)) (fun j u hu => ?_) (by simpa using g4) h0 (fun x hx => ?_) fun i v x hv hx => ?_
   ·simp only [World.cell?, g3, Nat.zero_add]
    simpa using hu
   ·exact g5 (.fz x) (List.mem_map_of_mem hx)
   ·have := g6 i v (.fz x) (by simpa using hv) (by simp [hx])
    exact this.inv.mono fun _ h => .inl h
  have base0 : RF (fun b => S b ∨ kbo (ψ.val id) = some b) w (.pointer (some ⟨b, 0, none⟩)) (.bx xs) := by
   refine .bx cs (.inr (by rw [g2]; rfl)) g3 (by simpa using g4) h0 (fun x hx => g5 (.fz x) (List.mem_map_of_mem hx)) fun i v x hv hx => ?_
   have := g6 i v (.fz x) hv (by simp [hx])
   exact this.inv.mono fun _ h => .inl h
  cases off with
  | zero => exact base0
  | succ off =>
   show RF _ w _ (.fp (xs.drop (off + 1)))
   have := k1x (off := off + 1) (ys := xs.drop (off + 1)) (zs := []) base (by simp) (by rw [List.length_drop]; omega)
   simpa using this
theorem ks6 (id : Nat) {e : TypeId} {xs : List FV} {cells : List AV} (hob : kab st.heap id = some (.box e cells) := by kernel_rfl) (hc : cells = xs.map .fz := by kernel_rfl) (h0 : Nat.blt 0 xs.length = true := by kernel_rfl) (hrow : (k54 id st).all (kt6 xs.length) = true := by kernel_rfl) : LeSt st (frbSt id xs st) := by
 subst hc
 intro F S0 N0 ψ S a w hs
 obtain ⟨c1, c2, b, c3, c4⟩ := k0w hs.core hob (by simpa [Nat.blt_eq] using h0)
 have hall : ∀ m ∈ k54 id st, kt6 xs.length m = true := fun m hm => List.all_eq_true.1 hrow m hm
 have hx : ∀ v off, off < xs.length → RV ψ (· ∈ st.ids) (fun b => S b ∨ kbo (ψ.val id) = some b) w v (.ref id 0 off) → RF (fun b => S b ∨ kbo (ψ.val id) = some b) w v (fbx xs off) := by
  intro v off hoff hv
  cases hv with
  | ref hK hn' h1 hv =>
   obtain ⟨b', hb', rfl⟩ := hv c2.symm
   rw [c3] at hb'
   obtain rfl := Option.some.inj hb'
   exact c4 off hoff
 refine ⟨ψ, _, hs.defers, hs.size, fun t => ?_, ⟨fun i o ho => ?_, fun i i' o o' b ho ho' hne hb => ?_, c1.lt, c1.s0, c1.n0, c1.fr⟩⟩
 ·obtain ⟨l1, l2⟩ := k80 (id := id) (xs := xs) st.tmps t
  show RV ψ (· ∈ st.ids) _ w (a.tmps.getD t undef) (look .any (st.tmps.map fun p => (p.1, frbT id xs p.2)) t)
  rw [l1]
  refine kab9 hx ((hs.tmps t).mono (fun _ h => h) fun _ h => .inl h) fun m hm => hall m ?_
  exact List.mem_append.2 (.inl (l2 m hm))
 ·obtain ⟨l1, l2⟩ := kth (id := id) (xs := xs) (kcf id st.heap) i
  have ho' : kab ((kcf id st.heap).map fun p => (p.1, frbO id xs p.2)) i = some o := ho
  rw [l1, Option.map_eq_some_iff] at ho'
  obtain ⟨o', h1, rfl⟩ := ho'
  obtain ⟨k1, k2, k7⟩ := c1.obj i o' h1
  refine ⟨k1, ?_, k7⟩
  cases o' with
  | box e2 cells =>
   obtain ⟨g0, b, cs, g2, g3, g4, g5, g6⟩ := k2
   refine ⟨g0, b, cs, g2, g3, by simpa using g4, fun y hy => ?_, klo (R := fun _ _ => True) g6 fun v y hy hv => kqu hx hv fun m hm => hall m ?_⟩
   ·simp only [List.mem_map] at hy
    obtain ⟨z, hz, rfl⟩ := hy
    exact kul (g5 z hz)
   ·exact List.mem_append.2 (.inr (l2 _ h1 m (List.mem_flatMap.2 ⟨y, hy, hm⟩)))
  | _ => exact k2
 ·obtain ⟨l1, _⟩ := kth (id := id) (xs := xs) (kcf id st.heap) i
  obtain ⟨l2, _⟩ := kth (id := id) (xs := xs) (kcf id st.heap) i'
  have ho1 : kab ((kcf id st.heap).map fun p => (p.1, frbO id xs p.2)) i = some o := ho
  have ho2 : kab ((kcf id st.heap).map fun p => (p.1, frbO id xs p.2)) i' = some o' := ho'
  rw [l1, Option.map_eq_some_iff] at ho1
  rw [l2, Option.map_eq_some_iff] at ho2
  obtain ⟨u, hu, _⟩ := ho1
  obtain ⟨u', hu', _⟩ := ho2
  exact c1.inj i i' u u' b hu hu' hne hb
end
theorem k7l {α : Type} {enc : α → FV} {xs : List α} {v : α} {i : Int} {P : Program} {T : List (TypeId × TD)} {o : Oper} {st : St} {t e eb : TypeId} {x y : Operand} {n id off : Nat} {d de : TD} {cells : List AV} {k : IntKind} (h : idx xs i = some v) (hT : TOk P T) (ho : o.op = .indexAddr t x y := by kernel_rfl) (hd : kat T t = some d := by kernel_rfl) (hk : d.kind = .arr n e := by kernel_rfl) (hde : kat T e = some de := by kernel_rfl) (h1 : de.size = 1 := by kernel_rfl) (hx : st.eval x = .ref id 0 off := by kernel_rfl) (hob : kab st.heap id = some (.box eb cells) := by kernel_rfl) (hn : xs.length = n := by kernel_rfl) (hc : Nat.ble (off + n) cells.length = true := by kernel_rfl) (hy : st.eval y = .fz (.atom (.int k i)) := by kernel_rfl) : NStep P o st (.ref id 0 (off + i.toNat)) := by
 obtain ⟨h0, hi⟩ := ksm h
 have hlt := (List.getElem?_eq_some_iff.1 hi).1
 have hc := Nat.le_of_ble_eq_true hc
 refine k9t hT ho ?_
 unfold arrX
 rw [hd]
 simp only [hk, hde, hy]
 rw [decide_eq_true h0, decide_eq_true (show i < (n : Int) by omega), hx]
 simp only [Bool.and_self, cond_true, h1, Nat.mul_one, klz, hob]
 simp
theorem k40 {α : Type} {enc : α → FV} {xs : List α} {v : α} {i : Int} {P : Program} {T : List (TypeId × TD)} {o : Oper} {st : St} {t eb : TypeId} {x : Operand} {id off : Nat} {d : TD} {cells : List AV} (h : idx xs i = some v) (hT : TOk P T) (ho : o.op = .load t x := by kernel_rfl) (hd : kat T t = some d := by kernel_rfl) (hk : d.kind.agg = false := by kernel_rfl) (hx : st.eval x = .ref id 0 (off + i.toNat) := by kernel_rfl) (hob : kab st.heap id = some (.box eb cells) := by kernel_rfl) (hc : (cells.drop off).take xs.length = xs.map fun x => .fz (enc x) := by kernel_rfl) : NStep P o st (.fz (enc v)) := by
 obtain ⟨h0, hi⟩ := ksm h
 have hlt := (List.getElem?_eq_some_iff.1 hi).1
 refine k5c ho (hT.get hd) (xs := cells.drop (off + i.toNat)) (by rw [hx]; simp only [kkc, hob]; rfl) ?_
 unfold kqa
 rw [hk, cond_false, List.head?_drop]
 have := congrArg (fun l => l[i.toNat]?) hc
 simp only [List.getElem?_take, hlt, if_true, List.getElem?_drop, List.getElem?_map, hi, Option.map_some] at this
 exact this
theorem RF.bx_fp {S : Nat → Prop} {w : World} {v : Value} {xs : List FV} (h : RF S w v (.bx xs)) (hp : 0 < xs.length) : ∃ b, v = .pointer (some ⟨b, 0, none⟩) ∧ RF S w (.pointer (some ⟨b, 0, none⟩)) (.fp xs) := by
 cases h with
 | @bx b e _ cs hS ha hl h0 h1 hr =>
  refine ⟨b, rfl, .fp cs.toList hS (fun j u hu => ?_) (by simpa using hl) h0 h1 fun i v x hv hx => hr i v x (by simpa using hv) hx⟩
  simp only [World.cell?, ha, Nat.zero_add]
  simpa using hu
 | bn => cases hp
inductive Ex where
 | nil
 | mk (kind input : Int) (value : Va) (op : ByteArray) (args : List Ex)
namespace Ex
def kind : Ex → Int | nil => 0 | mk k _ _ _ _ => k
def input : Ex → Int | nil => 0 | mk _ i _ _ _ => i
def value : Ex → Va | nil => Va.mk 0 0 ⟨#[]⟩ [] | mk _ _ v _ _ => v
def op : Ex → ByteArray | nil => ⟨#[]⟩ | mk _ _ _ o _ => o
def args : Ex → List Ex | nil => [] | mk _ _ _ _ a => a
end Ex
mutual
def exC : Ex → List FV
 | .nil => []
 | .mk k i v o a => [eI k, eI i, eI v.type, eI v.num, eS v.text, eL 4 eVaR v.items, eS o, .lst 1 a.length (exCs a)]
def exCs : List Ex → List FV
 | [] => []
 | x :: l => .bx (exC x) :: exCs l
end
def eExR (x : Ex) : FV := .bx (exC x)
theorem kwy : ∀ l : List Ex, exCs l = l.map eExR
 | [] => by simp [exCs]
 | x :: l => by simp [exCs, kwy l, eExR]
def unEx : Ex → Option Ex
 | .nil => none
 | .mk k i v o a => some (.mk k i v o a)
theorem kaas {x c : Ex} (h : unEx x = some c) : c = x ∧ eExR x = .bx [eI c.kind, eI c.input, eI c.value.type, eI c.value.num, eS c.value.text, eL 4 eVaR c.value.items, eS c.op, eL 1 eExR c.args] := by
 cases x with
 | nil => cases h
 | mk k i v o a =>
  injection h with h
  subst h
  exact ⟨rfl, by simp [eExR, exC, kwy, eL, Ex.kind, Ex.input, Ex.value, Ex.op, Ex.args]⟩
theorem kl3 (k i : Int) (v : Va) (o : ByteArray) (a : List Ex) : eExR (.mk k i v o a) = .bx [eI k, eI i, eI v.type, eI v.num, eS v.text, eL 4 eVaR v.items, eS o, eL 1 eExR a] := by simp [eExR, exC, kwy, eL]
theorem kxa : eExR .nil = .bx [] := by simp [eExR, exC]
theorem k36 (x : Ex) : (eExR x).cells = [eExR x] := rfl
theorem k7i (x : Ex) : (eExR x).cells.length = 1 := rfl
def nExR : En Ex := ⟨eExR, 1, fun x => [eExR x], fun _ => rfl, fun _ => rfl⟩
theorem kte {P : Program} {o : Oper} {st : St} {x : Operand} {e c : Ex} (h : unEx e = some c) (ho : o.op = .nilCheck x := by kernel_rfl) (hx : st.eval x = .fz (eExR e) := by kernel_rfl) : NStep P o st (.fz (.fp [eI c.kind, eI c.input, eI c.value.type, eI c.value.num, eS c.value.text, eL 4 eVaR c.value.items, eS c.op, eL 1 eExR c.args])) := by
 obtain ⟨_, h2⟩ := kaas h
 rw [h2] at hx
 intro ψ S a w ht hO
 have hv := Sim.eval_tmps ht x
 rw [hx] at hv
 obtain ⟨b, e1, e2⟩ := hv.inv.bx_fp (by simp)
 refine kai (w' := w) (v := .pointer (some ⟨b, 0, none⟩)) ?_ ⟨kah _, .fz (e2.mono fun _ h => .inl h)⟩
 simp [execOp, ho, e1]
end Go.Proofs.YtaimpcnpifoidaaGreatDoor
set_option linter.unusedVariables false
set_option linter.unusedSimpArgs false
namespace Go.Proofs.YtaimpcnpifoidaaGreatDoor
open Go Go.RowKit
def KeyV (w : World) (v : Value) : Prop := ∃ p n, v = .agg #[.pointer p, .int .i64 n] ∧ (p = none ∨ ∃ b cs e, p = some ⟨b, 0, none⟩ ∧ w.heap[b]? = some (.cells cs e (0, 0)))
structure KeyT (P : Program) (kt : TypeId) : Prop where
 ex : ∃ (tp te ti : TypeId) (n0 n1 : String) (f0 f1 : Field) (j : TypeInfo), P.underlying kt = some (.struct #[f0, f1]) ∧ f0.name = n0 ∧ f1.name = n1 ∧ n0 ≠ "_" ∧ n1 ≠ "_" ∧ f0.type = tp ∧ f1.type = ti ∧ f0.offset = 0 ∧ f1.offset = 1 ∧
  P.stoodInHeld kt = false ∧ P.underlying tp = some (.pointer te) ∧ P.info? te = some j ∧ j.size ≠ 0 ∧ P.underlying ti = some (.int .i64)
section
variable {P : Program} {w : World} {kt : TypeId}
theorem k5v (d : Nat) {tp te : TypeId} {j : TypeInfo} (h1 : P.underlying tp = some (.pointer te)) (h2 : P.info? te = some j) (h3 : j.size ≠ 0) {p q : Option Addr}
  (hp : p = none ∨ ∃ b cs e, p = some ⟨b, 0, none⟩ ∧ w.heap[b]? = some (.cells cs e (0, 0))) (hq : q = none ∨ ∃ b cs e, q = some ⟨b, 0, none⟩ ∧ w.heap[b]? = some (.cells cs e (0, 0))) :
  ∃ r : Bool, (Op.equalIn (d + 1) tp (.pointer p) (.pointer q)).run P w = .ok r w ∧ (r = true ↔ p = q) := by
 rcases hp with rfl | ⟨b, cs, e, rfl, hb⟩
 ·refine ⟨q.isNone, by simp [Op.equalIn, run_underlying h1], ?_⟩
  cases q <;> simp
 ·rcases hq with rfl | ⟨b', cs', e', rfl, hb'⟩
  ·exact ⟨false, by simp [Op.equalIn, run_underlying h1], by simp⟩
  ·by_cases he : b = b'
   ·subst he
    exact ⟨true, by simp [Op.equalIn, run_underlying h1, sizeOf, typeInfo, h2, h3, run_sameAddr_same], by simp⟩
   ·have hne : (⟨b, 0, none⟩ : Addr) ≠ ⟨b', 0, none⟩ := fun h => he (by injection h)
    exact ⟨false, by simp [Op.equalIn, run_underlying h1, sizeOf, typeInfo, h2, h3, run_sameAddr_other w hne hb hb'], by simp [he]⟩
theorem k5m (ht : KeyT P kt) {x y : Value} (hx : KeyV w x) (hy : KeyV w y) : ∃ r : Bool, (Op.equal kt x y).run P w = .ok r w ∧ (r = true ↔ x = y) := by
 obtain ⟨tp, te, ti, n0, n1, f0, f1, j, h1, rfl, rfl, h4, h5, rfl, rfl, h8, h9, h10, h11, h12, h13, h14⟩ := ht.ex
 obtain ⟨p, n, rfl, hp⟩ := hx
 obtain ⟨q, m, rfl, hq⟩ := hy
 obtain ⟨r, e1, e2⟩ := k5v (P := P) (w := w) 9998 h11 h12 h13 hp hq
 have p1 : ∀ u v : Value, (part f0.type #[u, v] f0.offset).run P w = .ok u w := fun u v => by simp [part, isAgg, run_underlying h11, h8]
 have p2 : ∀ u v : Value, (part f1.type #[u, v] f1.offset).run P w = .ok v w := fun u v => by simp [part, isAgg, run_underlying h14, h9]
 refine ⟨r && (n == m), ?_, ?_⟩
 ·have key : ∀ dd : Nat, (Op.equalIn (dd + 1) f0.type (.pointer p) (.pointer q)).run P w = .ok r w → (Op.equalIn (dd + 1 + 1) kt (.agg #[.pointer p, .int .i64 n]) (.agg #[.pointer q, .int .i64 m])).run P w = .ok (r && (n == m)) w := by
   intro dd e1
   have e3 : (Op.equalIn (dd + 1) f1.type (.int .i64 n) (.int .i64 m)).run P w = .ok (n == m) w := by simp [Op.equalIn, run_underlying h14]
   rw [Op.equalIn]
   simp only [Sem.run_bind, run_underlying h1, Result.andThen_ok]
   cases r with
   | false => simp [h10, h4, p1, e1]
   | true => cases hnm : (n == m) <;> simp [h10, h4, h5, p1, p2, e1, e3, hnm]
  exact key 9998 e1
 ·rw [Bool.and_eq_true, e2]
  simp only [beq_iff_eq]
  constructor
  ·rintro ⟨rfl, rfl⟩; rfl
  ·intro h
   simp only [Value.agg.injEq, Array.mk.injEq, List.cons.injEq, Value.pointer.injEq, Value.int.injEq, true_and, and_true] at h
   exact h
theorem ku7 (ht : KeyT P kt) {k : Value} (hk : KeyV w k) : ∀ (es : List MapEntry) (i : Nat), (∀ e ∈ es, KeyV w e.key) →
  ((Instr.findAsking kt k es i).run P w = .ok none w ∧ ∀ e ∈ es, e.key ≠ k) ∨
  ∃ l1 e l2, es = l1 ++ e :: l2 ∧ (∀ x ∈ l1, x.key ≠ k) ∧ e.key = k ∧ (Instr.findAsking kt k es i).run P w = .ok (some (i + l1.length, e.val)) w
 | [], i, _ => .inl ⟨by simp [Instr.findAsking], by simp⟩
 | e :: es, i, h => by
  obtain ⟨r, e1, e2⟩ := k5m ht hk (h e (by simp))
  cases r with
  | true => exact .inr ⟨[], e, es, rfl, by simp, (e2.1 rfl).symm, by simp [Instr.findAsking, e1]⟩
  | false =>
   have hne : e.key ≠ k := fun hh => by cases e2.2 hh.symm
   rcases ku7 ht hk es (i + 1) fun x hx => h x (by simp [hx]) with ⟨f1, f2⟩ | ⟨l1, y, l2, f1, f2, f3, f4⟩
   ·exact .inl ⟨by simp [Instr.findAsking, e1, f1], fun x hx => by
     rcases List.mem_cons.1 hx with rfl | hx
     ·exact hne
     ·exact f2 x hx⟩
   ·refine .inr ⟨e :: l1, y, l2, by rw [f1]; rfl, fun x hx => ?_, f3, ?_⟩
    ·rcases List.mem_cons.1 hx with rfl | hx
     ·exact hne
     ·exact f2 x hx
    ·simp [Instr.findAsking, e1, f4, Nat.add_assoc, Nat.add_comm 1]
theorem KeyT.wide (ht : KeyT P kt) : (match P.underlying kt with | some (.array _ _) | some (.struct _) => true | _ => false) = true := by
 obtain ⟨tp, te, ti, n0, n1, f0, f1, j, h1, _⟩ := ht.ex
 rw [h1]
theorem KeyT.check (ht : KeyT P kt) {k : Value} (hk : KeyV w k) (em : Bool) : (Instr.checkKey em 10000 kt k).run P w = .ok () w := by
 obtain ⟨tp, te, ti, n0, n1, f0, f1, j, h1, rfl, rfl, h4, h5, rfl, rfl, h8, h9, h10, h11, h12, h13, h14⟩ := ht.ex
 obtain ⟨p, n, rfl, hp⟩ := hk
 have p1 : ∀ u v : Value, (part f0.type #[u, v] f0.offset).run P w = .ok u w := fun u v => by simp [part, isAgg, run_underlying h11, h8]
 have p2 : ∀ u v : Value, (part f1.type #[u, v] f1.offset).run P w = .ok v w := fun u v => by simp [part, isAgg, run_underlying h14, h9]
 have key : ∀ dd : Nat, (Instr.checkKey em (dd + 1 + 1) kt (.agg #[.pointer p, .int .i64 n])).run P w = .ok () w := by
  intro dd
  have e1 : (Instr.checkKey em (dd + 1) f0.type (.pointer p)).run P w = .ok () w := by simp [Instr.checkKey, run_underlying h11]
  have e2 : (Instr.checkKey em (dd + 1) f1.type (.int .i64 n)).run P w = .ok () w := by simp [Instr.checkKey, run_underlying h14]
  rw [Instr.checkKey]
  simp [run_underlying h1, h4, h5, p1, p2, e1, e2]
 exact key 9998
theorem KeyV.bits {k : Value} (hk : KeyV w k) : (Instr.keyThatStays k k).run P w = .ok k w := by
 obtain ⟨p, n, rfl, _⟩ := hk
 have hs : Instr.sameBits 10000 (.agg #[.pointer p, .int .i64 n]) (.agg #[.pointer p, .int .i64 n]) = true := by
  show Instr.sameBits (9999 + 1) _ _ = true
  simp [Instr.sameBits]
 simp [Instr.keyThatStays, hs]
end
theorem RF.ex_key {S : Nat → Prop} {w : World} {v : Value} {x : Ex} (h : RF S w v (eExR x)) : ∃ p, v = .pointer p ∧ (p = none ∨ ∃ b cs e, p = some ⟨b, 0, none⟩ ∧ w.heap[b]? = some (.cells cs e (0, 0))) := by
 cases x with
 | nil =>
  rw [kxa] at h
  cases h with
  | bx cs hS ha hl h0 h1 hr => cases h0
  | bn => exact ⟨none, rfl, .inl rfl⟩
 | mk k i v' o a =>
  rw [kl3] at h
  cases h with
  | @bx b e _ cs hS ha hl h0 h1 hr => exact ⟨_, rfl, .inr ⟨b, cs, e, rfl, ha⟩⟩
theorem RF.key2 {S : Nat → Prop} {w : World} {v : Value} {x y : FV} (h : RF S w v (.agg [x, y])) : ∃ a b, v = .agg #[a, b] ∧ RF S w a x ∧ RF S w b y := by
 cases h with
 | @agg cs _ hl h1 hr =>
  obtain ⟨l⟩ := cs
  match l, hl with
  | [a, b], _ => exact ⟨a, b, rfl, hr 0 a x rfl rfl, hr 1 b y rfl rfl⟩
def KeyX (Φ : FV → FV → Prop) : Prop := ∀ kx vx, Φ kx vx → ∃ x s, kx = .agg [eExR x, eI s]
theorem KeyX.key {Φ : FV → FV → Prop} (hΦ : KeyX Φ) {S : Nat → Prop} {w : World} {v : Value} {kx vx : FV} (h : Φ kx vx) (hr : RF S w v kx) : KeyV w v := by
 obtain ⟨x, s, rfl⟩ := hΦ _ _ h
 obtain ⟨a, b, rfl, ha, hb⟩ := hr.key2
 obtain ⟨p, rfl, hp⟩ := ha.ex_key
 obtain rfl := hb.atom_eq
 exact ⟨p, s, rfl, hp⟩
def UqC (S : Nat → Prop) (w : World) {α : Type} (n : Nat) (enc : α → FV) (x : α) : Prop := ∀ (vs : List Value) (y : α), vs.length = n → (∀ (j : Nat) (v : Value) (c : FV), vs[j]? = some v → (enc x).cells[j]? = some c → RF S w v c) →
 (∀ (j : Nat) (v : Value) (c : FV), vs[j]? = some v → (enc y).cells[j]? = some c → RF S w v c) → x = y
section
variable {S : Nat → Prop} {w : World}
theorem k1f {α : Type} {n : Nat} {enc : α → FV} (hn : 0 < n) (hl : ∀ x, (enc x).cells.length = n) {v : Value} : ∀ {xs ys : List α}, (∀ x ∈ xs, UqC S w n enc x) → RF S w v (eL n enc xs) → RF S w v (eL n enc ys) → xs = ys := by
 intro xs ys h h1 h2
 unfold eL at h1 h2
 cases h1 with
 | @lst A cap _ _ _ css e1 hc hm hs ha hl1 hr =>
  generalize hv : Value.slice A xs.length cap = v2 at h2
  cases h2 with
  | @lst A2 cap2 _ _ _ css2 e2 hc2 hm2 hs2 ha2 hl2 hr2 =>
   simp only [Value.slice.injEq] at hv
   obtain ⟨rfl, e3, rfl⟩ := hv
   simp only [List.length_map] at e1 e2
   apply List.ext_getElem?
   intro i
   have hlen : xs.length = ys.length := by omega
   by_cases hi : i < xs.length
   ·have hx : xs[i]? = some (xs[i]) := List.getElem?_eq_getElem hi
    have hy : ys[i]? = some (ys[i]'(by omega)) := List.getElem?_eq_getElem (by omega)
    rw [hx, hy]
    have gx : (xs.map enc)[i]? = some (enc xs[i]) := by simp [hx]
    have gy : (ys.map enc)[i]? = some (enc (ys[i]'(by omega))) := by simp [hy]
    obtain ⟨b, o, q1, q2, q3⟩ := ha i _ gx
    obtain ⟨b', o', r1, r2, r3⟩ := ha2 i _ gy
    rw [q1] at r1
    obtain ⟨rfl, rfl⟩ : b = b' ∧ o = o' := by
     have := Option.some.inj r1
     exact ⟨by injection this, by injection this⟩
    have hcc : css i = css2 i := by
     apply List.ext_getElem?
     intro j
     have k1 := (hl1 i _ gx).1
     have k2 := (hl2 i _ gy).1
     by_cases hj : j < n
     ·have t1 := q3 j _ (List.getElem?_eq_getElem (by omega))
      have t2 := r3 j _ (List.getElem?_eq_getElem (by omega))
      rw [List.getElem?_eq_getElem (by omega), List.getElem?_eq_getElem (by omega), ← t1, ← t2]
     ·rw [List.getElem?_eq_none (by omega), List.getElem?_eq_none (by omega)]
    rw [h xs[i] (List.getElem_mem hi) (css i) (ys[i]'(by omega)) (hl1 i _ gx).1 (fun j v c hv hc => hr i _ j v c gx hv hc) (fun j v c hv hc => hr2 i _ j v c gy (by rw [← hcc]; exact hv) hc)]
   ·rw [List.getElem?_eq_none (by omega), List.getElem?_eq_none (by omega)]
mutual
theorem k9l : ∀ x : Va, UqC S w 4 eVaR x
 | .mk t n s l, vs, y, hn, h1, h2 => by
  rw [kwl] at h1 h2
  match vs, hn with
  | [a, b, c, d], _ =>
   cases y with
   | mk t' n' s' l' =>
    have u1 := (h1 0 a _ rfl rfl).atom_eq.symm.trans (h2 0 a _ rfl rfl).atom_eq
    have u2 := (h1 1 b _ rfl rfl).atom_eq.symm.trans (h2 1 b _ rfl rfl).atom_eq
    have u3 := (h1 2 c _ rfl rfl).atom_eq.symm.trans (h2 2 c _ rfl rfl).atom_eq
    have u4 : l = l' := k1f (by decide) kzh (k6s l) (h1 3 d _ rfl rfl) (h2 3 d _ rfl rfl)
    injection u1 with _ u1
    injection u2 with _ u2
    injection u3 with u3
    simp only [Va.type, Va.num, Va.text] at u1 u2 u3
    subst u1 u2 u3 u4
    rfl
theorem k6s : ∀ (l : List Va) (x : Va), x ∈ l → UqC S w 4 eVaR x
 | [], x, h => by cases h
 | y :: l, x, h => by
  rcases List.mem_cons.1 h with h | h
  ·rw [h]; exact k9l y
  ·exact k6s l x h
end
mutual
theorem k9u : ∀ (x y : Ex) (v : Value), RF S w v (eExR x) → RF S w v (eExR y) → x = y
 | .nil, y, v, h1, h2 => by
  rw [kxa] at h1
  cases y with
  | nil => rfl
  | mk k i v o a =>
   rw [kl3] at h2
   cases h1 with
   | bx cs hS ha hl h0 hh hr => cases h0
   | bn => cases h2
 | .mk k i v o a, y, u, h1, h2 => by
  rw [kl3] at h1
  cases y with
  | nil =>
   rw [kxa] at h2
   cases h1 with
   | bx cs hS ha hl h0 hh hr =>
    cases h2 with
    | bx cs2 hS2 ha2 hl2 h02 hh2 hr2 => cases h02
  | mk k' i' v' o' a' =>
   rw [kl3] at h2
   cases h1 with
   | @bx b e _ cs hS ha hl h0 hh hr =>
    cases h2 with
    | @bx _ e2 _ cs2 hS2 ha2 hl2 h02 hh2 hr2 =>
     rw [ha] at ha2
     simp only [Option.some.injEq, Obj.cells.injEq, and_true] at ha2
     obtain ⟨rfl, rfl⟩ := ha2
     obtain ⟨l⟩ := cs
     match l, hl with
     | [c0, c1, c2, c3, c4, c5, c6, c7], _ =>
      have u0 := (hr 0 c0 _ rfl rfl).atom_eq.symm.trans (hr2 0 c0 _ rfl rfl).atom_eq
      have u1 := (hr 1 c1 _ rfl rfl).atom_eq.symm.trans (hr2 1 c1 _ rfl rfl).atom_eq
      have u6 := (hr 6 c6 _ rfl rfl).atom_eq.symm.trans (hr2 6 c6 _ rfl rfl).atom_eq
      have uv : v = v' := k9l v [c2, c3, c4, c5] v' rfl (fun j x c hx hc => by
        rw [kkk] at hc
        match j with
        | 0 => exact hr 2 x c hx hc
        | 1 => exact hr 3 x c hx hc
        | 2 => exact hr 4 x c hx hc
        | 3 => exact hr 5 x c hx hc
        | j + 4 => simp at hx) (fun j x c hx hc => by
        rw [kkk] at hc
        match j with
        | 0 => exact hr2 2 x c hx hc
        | 1 => exact hr2 3 x c hx hc
        | 2 => exact hr2 4 x c hx hc
        | 3 => exact hr2 5 x c hx hc
        | j + 4 => simp at hx)
      have ua : a = a' := k1f (by decide) k7i (k5y a) (hr 7 c7 _ rfl rfl) (hr2 7 c7 _ rfl rfl)
      injection u0 with _ u0
      injection u1 with _ u1
      injection u6 with u6
      subst u0 u1 u6 uv ua
      rfl
theorem k5y : ∀ (l : List Ex) (x : Ex), x ∈ l → UqC S w 1 eExR x
 | [], x, h => by cases h
 | y :: l, x, h => by
  rcases List.mem_cons.1 h with h | h
  ·rw [h]
   intro vs z hn h1 h2
   rw [k36] at h1 h2
   match vs, hn with
   | [a], _ => exact k9u y z a (h1 0 a _ rfl rfl) (h2 0 a _ rfl rfl)
  ·exact k5y l x h
end
theorem kadb {x y : Ex} {s t : Int} {v : Value} (h1 : RF S w v (.agg [eExR x, eI s])) (h2 : RF S w v (.agg [eExR y, eI t])) : x = y ∧ s = t := by
 obtain ⟨a, b, rfl, ha, hb⟩ := h1.key2
 obtain ⟨a', b', e, ha', hb'⟩ := h2.key2
 simp only [Value.agg.injEq, Array.mk.injEq, List.cons.injEq, and_true] at e
 obtain ⟨rfl, rfl⟩ := e
 refine ⟨k9u x y _ ha ha', ?_⟩
 have := hb.atom_eq.symm.trans hb'.atom_eq
 injection this
end
def kcv (Ψ : Ex → Int → FV → Prop) : FV → FV → Prop := fun kx vx => ∃ x s, kx = .agg [eExR x, eI s] ∧ Ψ x s vx
theorem krl (Ψ : Ex → Int → FV → Prop) : KeyX (kcv Ψ) := fun kx vx ⟨x, s, h, _⟩ => ⟨x, s, h⟩
section
variable {P : Program} {F S0 : Nat → Prop} {N0 : Nat} {w w' : World} {S S' : Nat → Prop} {ψ : Env} {K : Nat → Prop} {T : List (TypeId × TD)} {o : Oper} {a : Act} {st : St} {t : TypeId} {d : TD} {id gi : Nat} {kt et : TypeId} {Φ : FV → FV → Prop}
theorem Core.re {heap : List (Nat × AObj)} {ids : List Nat} {ob ob' : AObj} (h : Core F S0 N0 heap ids ψ S w) (ho : kab heap id = some ob) (hn : ObR ψ (· ∈ ids) S w id ob') : Core F S0 N0 ((id, ob') :: heap) ids ψ S w := by
 have up : ∀ {i o}, kab ((id, ob') :: heap) i = some o → ∃ o', kab heap i = some o' := fun {i o} h => by
  rw [kag] at h
  split at h
  ·rename_i he; exact ⟨_, he ▸ ho⟩
  ·exact ⟨_, h⟩
 refine ⟨fun k o hk => ?_, fun k k' o o' b hk hk' hne hb => ?_, h.lt, h.s0, h.n0, h.fr⟩
 ·rw [kag] at hk
  split at hk
  ·rename_i he
   subst he
   injection hk with hk
   subst hk
   obtain ⟨h1, _, h3⟩ := h.obj _ _ ho
   exact ⟨h1, hn, h3⟩
  ·exact h.obj k o hk
 ·obtain ⟨o1, k1⟩ := up hk
  obtain ⟨o2, k2⟩ := up hk'
  exact h.inj k k' o1 o2 b k1 k2 hne hb
theorem k2i {v : Value} (h0 : ψ.len id = 0) (hv : RV ψ K S w v (.mp id)) : v = ψ.val id := by
 cases hv with
 | mp hK h1 hv => exact hv h0.symm
theorem k4a (Φ : FV → FV → Prop) (ho : o.op = .makeMap t none := by kernel_rfl) (hid : st.ids.contains id = false := by kernel_rfl) : kcr P o st (.mp id) ((id, .memo Φ none) :: st.heap) (id :: st.ids) := by
 have hid : id ∉ st.ids := by simpa using hid
 intro F S0 N0 ψ S a w hs'
 have hcore := hs'.core
 refine kai (w' := w.alloc (.map #[] 0)) (v := .map (some w.heap.size)) ?_ ⟨ψ.set id 0 (.map (some w.heap.size)), S, ?_, ?_, kmo _ hcore.fr, kdq hid _ _, fun _ h => List.mem_cons_of_mem _ h, fun _ h => h, Same.of_grow (kcp _ _)⟩
 ·simp [execOp, ho, Instr.makeMap]
 ·exact hcore.add (kcp _ _) hid (fun b hb => by simp [kbo] at hb; omega) ⟨kd7 _ _, w.heap.size, _, _, kbb _ _, heap_alloc_new w _, fun e he => by simp at he, trivial⟩
 ·exact .mp (List.mem_cons_self ..) rfl fun _ => by rw [kbb]
theorem k55 {r : Option FV} {p : Option Addr} {s : Int} {X : Ex} {zv : Value} {zx : FV} {x y : Operand} (hΦ : KeyX Φ) (ho : o.op = .lookup t x y true) (hu : P.underlying t = some (.map kt et)) (hkt : KeyT P kt) (inf : TypeInfo) (hi1 : P.info? et = some inf) (hi2 : inf.zero = some zv) (hz : ∀ S w, RF S w zv zx)
  (hx : st.eval x = .mp id := by kernel_rfl) (hob : kab st.heap id = some (.memo Φ (some (.agg #[.pointer p, .int .i64 s], r))) := by kernel_rfl) (hy : st.eval y = .fz (.agg [.atom (.pointer p), eI s]) := by kernel_rfl) (hg : kab st.heap gi = some (.gho [.pointer p] [.fz (eExR X)]) := by kernel_rfl) : NStep P o st (.fz (.tup [r.getD zx, .atom (.bool r.isSome)])) := by
 intro ψ S a w ht hO
 have hv := Sim.eval_tmps ht x
 rw [hx] at hv
 obtain ⟨h0, b, es, clock, hval, hb, hm, hh⟩ := hO id _ hob
 have hpv := k2i h0 hv
 have hya := Sim.eval_tmps ht y
 rw [hy] at hya
 obtain ⟨k1, k2, hke, hk1, hk2⟩ := hya.inv.key2
 obtain rfl := hk1.atom_eq
 obtain rfl := hk2.atom_eq
 obtain ⟨_, _, _, g3⟩ := hO gi _ hg
 obtain ⟨p', e1, e2⟩ := (g3 0 _ _ rfl rfl).inv.ex_key
 injection e1 with e1
 subst e1
 have hkv : KeyV w (.agg #[.pointer p, .int .i64 s]) := ⟨p, s, rfl, e2⟩
 have hall : ∀ e ∈ es.toList, KeyV w e.key := fun e he => by
  obtain ⟨kx, vx, q1, q2, _⟩ := hm e he
  exact hΦ.key q1 q2
 have hz1 : (zeroValue et).run P w = .ok zv w := by simp [zeroValue, typeInfo, hi1, hi2]
 have hck := hkt.check (w := w) hkv es.isEmpty
 have two : ∀ {v : Value} {x : FV} {ok : Bool}, RF S w v x → RF S w (.tuple #[v, .bool ok]) (.tup [x, .atom (.bool ok)]) := fun {v x ok} h => .tup rfl fun i u y hu hy => by
  match i with
  | 0 => simp at hu hy; subst hu hy; exact h
  | 1 => simp at hu hy; subst hu hy; exact .atom rfl
  | i + 2 => simp at hu
 have hfk := run_findKey_eq (w := w) hkt.wide (.agg #[.pointer p, .int .i64 s]) es.toList
 rcases ku7 hkt hkv es.toList 0 hall with ⟨f1, f2⟩ | ⟨l1, e, l2, f1, f2, f3, f4⟩
 ·rw [f1] at hfk
  have hr : r = none := by
   cases r with
   | none => rfl
   | some vx =>
    obtain ⟨l1, e, l2, q1, q2, q3, q4⟩ := hh
    exact absurd q3 (f2 e (by rw [q1]; simp))
  subst hr
  refine kai (w' := w) (v := .tuple #[zv, .bool false]) ?_ ⟨kah _, .fz ((two (hz S w)).mono fun _ h => .inl h)⟩
  simp [execOp, ho, hke, hpv, hval, Instr.lookup, run_underlying hu, MapKept.run_getObj_map hb, hck, hfk, hz1]
 ·rw [f4] at hfk
  have hr : ∃ vx, r = some vx ∧ RF S w e.val vx := by
   cases r with
   | none => exact absurd f3 (hh e (by rw [f1]; simp))
   | some vx =>
    obtain ⟨m1, e', m2, q1, q2, q3, q4⟩ := hh
    have key : ∀ (l1 m1 : List MapEntry) (e e' : MapEntry) (l2 m2 : List MapEntry), l1 ++ e :: l2 = m1 ++ e' :: m2 → (∀ x ∈ l1, x.key ≠ .agg #[.pointer p, .int .i64 s]) → (∀ x ∈ m1, x.key ≠ .agg #[.pointer p, .int .i64 s]) → e.key = .agg #[.pointer p, .int .i64 s] → e'.key = .agg #[.pointer p, .int .i64 s] → e = e' := by
     intro l1
     induction l1 with
     | nil =>
      intro m1 e e' l2 m2 h1 h2 h3 h4 h5
      cases m1 with
      | nil => simp at h1; exact h1.1
      | cons c m1 => simp at h1; exact absurd (h1.1 ▸ h4) (h3 c (by simp))
     | cons c l1 ih =>
      intro m1 e e' l2 m2 h1 h2 h3 h4 h5
      cases m1 with
      | nil => simp at h1; exact absurd (h1.1 ▸ h5) (h2 c (by simp))
      | cons c' m1 =>
       simp only [List.cons_append, List.cons.injEq] at h1
       exact ih m1 e e' l2 m2 h1.2 (fun x hx => h2 x (by simp [hx])) (fun x hx => h3 x (by simp [hx])) h4 h5
    obtain rfl := key l1 m1 e e' l2 m2 (by rw [← f1, q1]) f2 q2 f3 q3
    exact ⟨vx, rfl, q4⟩
  obtain ⟨vx, rfl, hr⟩ := hr
  refine kai (w' := w) (v := .tuple #[e.val, .bool true]) ?_ ⟨kah _, .fz ((two hr).mono fun _ h => .inl h)⟩
  simp [execOp, ho, hke, hpv, hval, Instr.lookup, run_underlying hu, MapKept.run_getObj_map hb, hck, hfk]
theorem k6l {hi : Option (Value × Option FV)} {p : Option Addr} {s : Int} {X : Ex} {vx : FV} {x y v : Operand} (hP : Φ (.agg [eExR X, eI s]) vx) (hΦ : KeyX Φ) (ho : o.op = .mapUpdate t x y v) (hu : P.underlying t = some (.map kt et)) (hkt : KeyT P kt)
  (hx : st.eval x = .mp id := by kernel_rfl) (hob : kab st.heap id = some (.memo Φ hi) := by kernel_rfl) (hy : st.eval y = .fz (.agg [.atom (.pointer p), eI s]) := by kernel_rfl) (hg : kab st.heap gi = some (.gho [.pointer p] [.fz (eExR X)]) := by kernel_rfl) (hv : st.eval v = .fz vx := by kernel_rfl) : kcr P o st .any ((id, .memo Φ none) :: st.heap) st.ids := by
 intro F S0 N0 ψ S a w hs'
 have hcore := hs'.core
 obtain ⟨hid, ⟨h0, b, es, clock, hval, hb, hm, hh⟩, hfr⟩ := hcore.obj id _ hob
 have hxv := hs'.eval x
 rw [hx] at hxv
 have hpv := k2i h0 hxv
 have hya := hs'.eval y
 rw [hy] at hya
 obtain ⟨k1, k2, hke, hk1, hk2⟩ := hya.inv.key2
 obtain rfl := hk1.atom_eq
 obtain rfl := hk2.atom_eq
 have hvv := hs'.eval v
 rw [hv] at hvv
 have hvv := hvv.inv
 obtain ⟨_, ⟨_, _, _, g3⟩, _⟩ := hcore.obj gi _ hg
 have g4 := (g3 0 _ _ rfl rfl).inv
 obtain ⟨p', e1, e2⟩ := g4.ex_key
 injection e1 with e1
 subst e1
 have hkv : KeyV w (.agg #[.pointer p, .int .i64 s]) := ⟨p, s, rfl, e2⟩
 have hkr : RF S w (.agg #[.pointer p, .int .i64 s]) (.agg [eExR X, eI s]) := .agg rfl (fun x hx => by
   simp only [List.mem_cons, List.not_mem_nil, or_false] at hx
   rcases hx with rfl | rfl
   ·rfl
   ·rfl) fun i u y hu hy => by
  match i with
  | 0 => simp at hu hy; subst hu hy; exact g4
  | 1 => simp at hu hy; subst hu hy; exact .atom rfl
  | i + 2 => simp at hu
 have hall : ∀ e ∈ es.toList, KeyV w e.key := fun e he => by
  obtain ⟨kx, vx, q1, q2, _⟩ := hm e he
  exact hΦ.key q1 q2
 have hck := hkt.check (w := w) hkv false
 have hset : ψ.set id 0 (ψ.val id) = ψ := by
  unfold Env.set
  congr 1
  ·funext i; split
   ·rename_i h; rw [h, h0]
   ·rfl
  ·funext i; split
   ·rename_i h; rw [h]
   ·rfl
 have main : ∀ (es' : Array MapEntry) (clock' : Nat), (∀ e ∈ es'.toList, ∃ kx vx, Φ kx vx ∧ RF S w e.key kx ∧ RF S w e.val vx) →
   (execOp a.eval o).run P w = .ok .skip { w with heap := w.heap.setIfInBounds b (.map es' clock') } →
   kf8 P o a w fun v w' => ∃ ψ' S', Core F S0 N0 ((id, .memo Φ none) :: st.heap) st.ids ψ' S' w' ∧ RV ψ' (· ∈ st.ids) S' w' v .any ∧ Fr F w w' ∧ Ext (· ∈ st.ids) ψ ψ' ∧ (∀ id, id ∈ st.ids → id ∈ st.ids) ∧ (∀ b, S b → S' b) ∧ Same S w w' := by
  intro es' clock' hr' hrun
  obtain ⟨g1, g2⟩ := MapKept.heap_set (o' := .map es' clock') hb
  have hszw : ({ w with heap := w.heap.setIfInBounds b (.map es' clock') } : World).heap.size = w.heap.size := by simp
  have hoth : ∀ k, k < w.heap.size → ¬ Blk (ψ.val id) k → ({ w with heap := w.heap.setIfInBounds b (.map es' clock') } : World).heap[k]? = w.heap[k]? := fun k _ hk => g2 k fun e => hk (.of (by rw [hval, e]; rfl))
  have hk : Same S w { w with heap := w.heap.setIfInBounds b (.map es' clock') } := fun k hk hl => hoth k hl fun e => (hfr k e).1 hk
  obtain ⟨c1, c2, c3⟩ := hcore.upd (n := 0) (v := ψ.val id) (w' := { w with heap := w.heap.setIfInBounds b (.map es' clock') }) (ob' := .memo Φ none) hob (by omega) hoth (.inr ⟨h0, rfl⟩) (fun b hb => .inl hb) (by
   rw [hset]
   refine ⟨h0, b, es', clock', hval, g1, fun e he => ?_, trivial⟩
   obtain ⟨kx, vx, q1, q2, q3⟩ := hr' e he
   exact ⟨kx, vx, q1, q2.keep hk, q3.keep hk⟩)
  rw [hset] at c1
  exact kr1 hrun ⟨ψ, S, c1, .any, ⟨rfl, rfl, rfl, by omega, c3⟩, Ext.refl, fun _ h => h, fun _ h => h, c2⟩
 have hfk := run_findKey_eq (w := w) hkt.wide (.agg #[.pointer p, .int .i64 s]) es.toList
 rcases ku7 hkt hkv es.toList 0 hall with ⟨f1, f2⟩ | ⟨l1, e, l2, f1, f2, f3, f4⟩
 ·rw [f1] at hfk
  refine main (es.push { key := .agg #[.pointer p, .int .i64 s], val := a.eval v, born := clock }) (clock + 1) (fun e he => ?_) ?_
  ·simp only [Array.toList_push, List.mem_append, List.mem_singleton] at he
   rcases he with he | rfl
   ·exact hm e he
   ·exact ⟨_, _, hP, hkr, hvv⟩
  ·simp [execOp, ho, hke, hpv, hval, Instr.mapUpdate, run_underlying hu, MapKept.run_getObj_map hb, hck, hfk, MapKept.run_setObj_map _ hb]
 ·rw [f4] at hfk
  have hsz : l1.length < es.size := by rw [← Array.length_toList, f1]; simp
  have hei : es[l1.length]? = some e := by
   rw [← Array.getElem?_toList, f1]
   simp
  have hkeep := hkv.bits (P := P)
  refine main (es.modify l1.length fun e => { e with key := .agg #[.pointer p, .int .i64 s], val := a.eval v }) clock (fun e' he => ?_) ?_
  ·obtain ⟨i, hi, rfl⟩ := List.mem_iff_getElem.1 he
   simp only [Array.toList_modify, List.getElem_modify] at *
   split
   ·exact ⟨_, _, hP, hkr, hvv⟩
   ·exact hm _ (List.getElem_mem _)
  ·have hke2 : (((es[l1.length]?).map (·.key)).getD (.agg #[.pointer p, .int .i64 s])) = .agg #[.pointer p, .int .i64 s] := by rw [hei]; exact f3
   simp only [Nat.zero_add] at hfk
   simp [execOp, ho, hke, hpv, hval, Instr.mapUpdate, run_underlying hu, MapKept.run_getObj_map hb, hck, hfk, MapKept.run_setObj_map _ hb, hei, f3, hkeep]
def k31 (id b7 gi : Nat) (e : TypeId) (Φ : FV → FV → Prop) (kp : FV) (s : Int) (p : Option Addr) (r : Option FV) (st : St) : St :=
 { n := st.n, tmps := st.tmps, heap := (gi, .gho [.pointer p] [.fz kp]) :: (b7, .box e [.fz (.atom (.pointer p)), .fz (eI s)]) :: (id, .memo Φ (some (.agg #[.pointer p, .int .i64 s], r))) :: st.heap, ids := gi :: st.ids, dfr := st.dfr }
theorem k4w {Ψ : Ex → Int → FV → Prop} {hi : Option (Value × Option FV)} {b7 : Nat} {e : TypeId} {X : Ex} {s : Int} (hob : kab st.heap id = some (.memo (kcv Ψ) hi)) (hbx : kab st.heap b7 = some (.box e [.fz (eExR X), .fz (eI s)])) (hne : Nat.beq id b7 = false) (hgi : st.ids.contains gi = false)
  (hs : Sim F S0 N0 st ψ S a w) : ∃ (p : Option Addr) (r : Option FV), (∀ vx, r = some vx → Ψ X s vx) ∧ ∃ ψ' S', Sim F S0 N0 (k31 id b7 gi e (kcv Ψ) (eExR X) s p r st) ψ' S' a w := by
 have hgi : gi ∉ st.ids := by simpa using hgi
 have hcore := hs.core
 obtain ⟨hid, ⟨h0, b, es, clock, hval, hb, hm, hh⟩, hfr⟩ := hcore.obj id _ hob
 obtain ⟨hid7, ⟨z0, b', cs, z1, z2, z3, z4, z5⟩, hfr7⟩ := hcore.obj b7 _ hbx
 obtain ⟨l⟩ := cs
 match l, z3 with
 | [u, v], _ =>
  have q1 := (z5 0 u _ rfl rfl).inv
  obtain ⟨p, rfl, hp⟩ := q1.ex_key
  have q2 := (z5 1 v _ rfl rfl).inv
  obtain rfl := q2.atom_eq
  have hkr : RF S w (.agg #[.pointer p, .int .i64 s]) (.agg [eExR X, eI s]) := .agg rfl (fun x hx => by
    simp only [List.mem_cons, List.not_mem_nil, or_false] at hx
    rcases hx with rfl | rfl
    ·rfl
    ·rfl) fun i u y hu hy => by
   match i with
   | 0 => simp at hu hy; subst hu hy; exact q1
   | 1 => simp at hu hy; subst hu hy; exact .atom rfl
   | i + 2 => simp at hu
  have hfind : ∃ r : Option FV, (∀ vx, r = some vx → Ψ X s vx) ∧ k4l S w (some (.agg #[.pointer p, .int .i64 s], r)) es.toList := by
   clear hh hb
   have : ∀ l : List MapEntry, (∀ e ∈ l, e ∈ es.toList) → ∃ r : Option FV, (∀ vx, r = some vx → Ψ X s vx) ∧ k4l S w (some (.agg #[.pointer p, .int .i64 s], r)) l := by
    intro l
    induction l with
    | nil => exact fun _ => ⟨none, fun _ h => (by cases h), fun e he => (by cases he)⟩
    | cons c l ih =>
     intro hsub
     by_cases hc : c.key = .agg #[.pointer p, .int .i64 s]
     ·obtain ⟨kx, vx, t1, t2, t3⟩ := hm c (hsub c (by simp))
      obtain ⟨x', s', rfl, t1⟩ := t1
      rw [hc] at t2
      obtain ⟨rfl, rfl⟩ := kadb hkr t2
      exact ⟨some vx, fun v hv => by injection hv with hv; subst hv; exact t1, [], c, l, rfl, fun x hx => (by cases hx), hc, t3⟩
     ·obtain ⟨r, r1, r2⟩ := ih fun e he => hsub e (by simp [he])
      refine ⟨r, r1, ?_⟩
      cases r with
      | none =>
       intro e he
       rcases List.mem_cons.1 he with rfl | he
       ·exact hc
       ·exact r2 e he
      | some vx =>
       obtain ⟨l1, e', l2, y1, y2, y3, y4⟩ := r2
       refine ⟨c :: l1, e', l2, by rw [y1]; rfl, ?_, y3, y4⟩
       intro x hx
       rcases List.mem_cons.1 hx with rfl | hx
       ·exact hc
       ·exact y2 x hx
   exact this es.toList fun _ h => h
  obtain ⟨r, r1, r2⟩ := hfind
  refine ⟨p, r, r1, ?_⟩
  have c1 := hcore.re (ob' := .memo (kcv Ψ) (some (.agg #[.pointer p, .int .i64 s], r))) hob ⟨h0, b, es, clock, hval, hb, hm, r2⟩
  have hbx' : kab ((id, AObj.memo (kcv Ψ) (some (.agg #[.pointer p, .int .i64 s], r))) :: st.heap) b7 = some (.box e [.fz (eExR X), .fz (eI s)]) := by
   rw [kag, if_neg (fun h => by rw [h, Nat.beq_refl] at hne; cases hne)]
   exact hbx
  have c2 := c1.re (ob' := .box e [.fz (.atom (.pointer p)), .fz (eI s)]) hbx' ⟨z0, b', _, z1, z2, rfl, fun x hx => by
    simp only [List.mem_cons, List.not_mem_nil, or_false] at hx
    rcases hx with rfl | rfl <;> rfl, fun i v x hv hx => by
   match i with
   | 0 => simp at hv hx; subst hv hx; exact .fz (.atom rfl)
   | 1 => simp at hv hx; subst hv hx; exact .fz (.atom rfl)
   | i + 2 => simp at hv⟩
  have hext := kdq (ψ := ψ) hgi 0 (.nilFunc)
  refine ⟨ψ.set gi 0 .nilFunc, S, hs.defers, hs.size, fun t => (hs.tmps t).keep hext (fun _ h => List.mem_cons_of_mem _ h) (fun _ h => h) (fun _ _ _ => rfl), ?_⟩
  exact c2.add (n := 0) (v := .nilFunc) (w' := w) (ob := .gho [.pointer p] [.fz (eExR X)]) (kah _) hgi (fun b hb => by cases hb) ⟨kd7 _ _, by rw [kbb]; rfl, by rw [kbb]; rfl, fun i v x hv hx => by
   match i with
   | 0 => simp at hv hx; subst hv hx; exact .fz q1
   | i + 1 => simp at hv⟩
theorem wmemo [tb : Tab P] (k : Nat) {Ψ : Ex → Int → FV → Prop} {g : Cfg} {Q : Exit → St → Prop} {hi : Option (Value × Option FV)} {b7 : Nat} {e : TypeId} {X : Ex} {s : Int} (id gi : Nat) (hit : ∀ p vx, Ψ X s vx → W P (kqc (crun P k g) (k31 id b7 gi e (kcv Ψ) (eExR X) s p (some vx) (stOf (crun P k g)))) Q) (miss : ∀ p, W P (kqc (crun P k g) (k31 id b7 gi e (kcv Ψ) (eExR X) s p none (stOf (crun P k g)))) Q) (hob : kab (stOf (crun P k g)).heap id = some (.memo (kcv Ψ) hi) := by kernel_rfl) (hbx : kab (stOf (crun P k g)).heap b7 = some (.box e [.fz (eExR X), .fz (eI s)]) := by kernel_rfl) (hne : Nat.beq id b7 = false := by kernel_rfl) (hgi : (stOf (crun P k g)).ids.contains gi = false := by kernel_rfl) (hc : k2f (crun P k g) = true := by kernel_rfl) : W P g Q := by
 refine kb1 (k := k) ?_
 generalize crun P k g = g' at *
 obtain ⟨foc, ks, st⟩ := g'
 cases foc with
 | code c =>
  have unf : ∀ st', W P ⟨.code c, ks, st'⟩ Q = awp P c st' (kg6 P ks Q) := fun st' => by unfold W; rfl
  simp only [kqc, stOf] at hit miss hob hbx hgi ⊢
  rw [unf]
  simp only [unf] at hit miss
  intro F S0 N0 ψ S a w hs
  obtain ⟨p, r, h1, ψ', S', h2⟩ := k4w hob hbx hne hgi hs
  cases r with
  | none => exact miss p F S0 N0 ψ' S' a w h2
  | some vx => exact hit p vx (h1 vx rfl) F S0 N0 ψ' S' a w h2
 | _ => cases hc
end
theorem RF.zeroA {S : Nat → Prop} {w : World} {cs : Array Value} {xs : List FV} (h : xs = cs.toList.map .atom) (h1 : cs.toList.all (·.oneCell') = true) : RF S w (.agg cs) (.agg xs) := by
 subst h
 refine .agg (by simp) ?_ ?_
 ·intro x hx
  simp only [List.mem_map] at hx
  obtain ⟨v, hv, rfl⟩ := hx
  exact List.all_eq_true.1 h1 v hv
 ·intro i v x hv hx
  simp only [List.getElem?_map, Option.map_eq_some_iff, Array.getElem?_toList] at hx
  obtain ⟨u, hu, rfl⟩ := hx
  rw [hv] at hu
  injection hu with hu
  subst hu
  exact .atom (List.all_eq_true.1 h1 v (by
   rw [Array.mem_toList_iff]
   exact Array.mem_of_getElem? hv))
def isSc : Code → Bool
 | .seq _ (.scope _) => true
 | _ => false
def scA : Code → Code
 | .seq a (.scope _) => a
 | _ => .skip
def scB : Code → Code
 | .seq _ (.scope b) => b
 | _ => .skip
theorem k5k {P : Program} {c : Code} {st : St} {Q : Exit → St → Prop} (hq : ∀ l st, ¬ Q (.goto l) st) (h : awp P c st Q) : awp P (.scope c) st Q := fun F S0 N0 ψ S a w hs => by
 refine wp_scope_straight (wp_mono (h F S0 N0 ψ S a w hs) fun e a' w' hp => ?_)
 cases e with
 | goto l =>
  obtain ⟨st', _, _, h1, _⟩ := hp
  exact absurd h1 (hq l st')
 | _ => exact hp
theorem kaal {T : List (TypeId × TD)} {rs : List ResultVar} {g : Nat} {ids : List Nat} {E : HEnd} {post : List (Nat × AObj)} {ids' : List Nat} {ψ0 : Env} {S1 : Nat → Prop} {w0 : World} {l : Nat} {st : St} : ¬ hQ T rs g ids E post ids' ψ0 S1 w0 (.goto l) st := by
 rintro ⟨st2, _, _, _, h⟩
 cases E with
 | ret res => rcases h.1 with h | h <;> cases h
 | pan v => cases h.2
theorem hcxS {P : Program} [t : Tab P] {f : FuncId} {fn : Func} {args : List AV} {pre : List (Nat × AObj)} {ids : List Nat} {E : HEnd} {post : List (Nat × AObj)} {ids' : List Nat} {gi : Nat} (hf : P.funcs[f]? = some fn) (h : ∀ ψ0 S1 w0, W P ⟨.code (scA (kj7 fn)), [.seq (scB (kj7 fn))], { n := fn.ntmps, tmps := argT 0 args, heap := (gi, .was ψ0 ids S1 w0) :: pre, ids := gi :: ids }⟩ (hQ t.T fn.results.toList gi ids E post ids' ψ0 S1 w0)) (hb : fn.body.isSome = true := by kernel_rfl) (hn : (fn.name == "runtime.NumGoroutine") = false := by kernel_rfl) (hle : Nat.ble args.length fn.ntmps = true := by kernel_rfl) (hg : ids.contains gi = false := by kernel_rfl) (hg' : ids'.contains gi = false := by kernel_rfl) (hp' : (post.all fun p => okO ids' p.2) = true := by kernel_rfl) (hE : E.ok ids' = true := by kernel_rfl) (hk : (post.all fun p => ids'.contains p.1) = true := by kernel_rfl) (hs : isSc (kj7 fn) = true := by kernel_rfl) : kap P f args pre ids E post ids' := by
 refine ktl t.ok hf (knj hb) hn hle hg hg' hp' hE hk fun ψ0 S1 w0 => ?_
 have h0 := h ψ0 S1 w0
 generalize kj7 fn = c at hs h0 ⊢
 unfold isSc at hs
 split at hs
 ·rename_i a b
  refine k1n (ksg (show awp P a _ _ from by unfold W at h0; exact h0) fun e st he => ?_)
  cases e with
  | normal => exact k5k (fun l st => kaal) he
  | outgrown => exact he
  | _ => exact he
 ·cases hs
def OLe {α : Type} (o o' : Option α) : Prop := ∀ r, o = some r → o' = some r
theorem OLe.refl {α : Type} {o : Option α} : OLe o o := fun _ h => h
theorem OLe.bind {α β : Type} {o o' : Option α} {k k' : α → Option β} (h : OLe o o') (hk : ∀ x, OLe (k x) (k' x)) : OLe (Option.bind o k) (Option.bind o' k') := fun r hr => by
 obtain ⟨x, h1, h2⟩ := Option.bind_eq_some_iff.1 hr
 exact Option.bind_eq_some_iff.2 ⟨x, h x h1, hk x r h2⟩
theorem OLe.ite {α : Type} {b : Bool} {x x' y y' : Option α} (h : OLe x x') (h' : OLe y y') : OLe (bif b then x else y) (bif b then x' else y') := by cases b <;> assumption
theorem OLe.sum {α β γ : Type} {f f' : α → Option γ} {g g' : β → Option γ} {v : α ⊕ β} (h : ∀ x, OLe (f x) (f' x)) (h' : ∀ x, OLe (g x) (g' x)) : OLe (Sum.elim f g v) (Sum.elim f' g' v) := by
 cases v with
 | inl x => exact h x
 | inr x => exact h' x
theorem OLe.loop {σ β : Type} {f g : σ → Option (σ ⊕ β)} (h : ∀ s, OLe (f s) (g s)) : ∀ (n : Nat) (s : σ), OLe (kaa f n s) (kaa g n s)
 | 0, s => OLe.refl
 | n + 1, s => fun r hr => by
  simp only [kaa] at hr ⊢
  cases hf : f s with
  | none => rw [hf] at hr; cases hr
  | some v =>
   rw [hf] at hr
   rw [h s v hf]
   cases v with
   | inl s' => exact OLe.loop h n s' r hr
   | inr b => exact hr
end Go.Proofs.YtaimpcnpifoidaaGreatDoor
