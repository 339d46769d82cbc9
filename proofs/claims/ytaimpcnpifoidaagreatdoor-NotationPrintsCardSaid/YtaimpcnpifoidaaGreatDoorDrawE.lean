import Derived.Test.YtaimpcnpifoidaaGreatDoorRel
import Derived.Test.YtaimpcnpifoidaaGreatDoorOpy
import Derived.Lib.Bytealg
set_option linter.unusedVariables false
set_option linter.unusedSimpArgs false
namespace Go.Proofs.YtaimpcnpifoidaaGreatDoor
namespace RE
open Go Go.RowKit
structure Tr (M : Nat → Prop) (w w' : World) : Prop where
 os : w'.os = w.os
 tape : w'.tape = w.tape
 output : w'.output = w.output
 size : w.heap.size ≤ w'.heap.size
 block : ∀ b, b < w.heap.size → ¬ M b → w'.heap[b]? = w.heap[b]?
theorem Tr.refl {M : Nat → Prop} {w : World} : Tr M w w := ⟨rfl, rfl, rfl, Nat.le_refl _, fun _ _ _ => rfl⟩
theorem Tr.trans {M : Nat → Prop} {a b c : World} (h : Tr M a b) (k : Tr M b c) : Tr M a c :=
 ⟨k.os.trans h.os, k.tape.trans h.tape, k.output.trans h.output, Nat.le_trans h.size k.size, fun i hi hm => (k.block i (Nat.lt_of_lt_of_le hi h.size) hm).trans (h.block i hi hm)⟩
theorem Tr.of_grow {M : Nat → Prop} {w w' : World} (h : Below w.heap.size w w') : Tr M w w' := ⟨h.os, h.tape, h.output, h.size, fun b hb _ => h.block b hb⟩
inductive Gd (M : Nat → Prop) where
 | det (c : Value)
 | rel (G : Value → World → Prop) (h : ∀ v w w', G v w → Tr M w w' → G v w')
 | relE (G : Value → World → Prop) (h : ∀ v w w', G v w → Below w.heap.size w w' → G v w')
def Gd.isE {M : Nat → Prop} : Gd M → Bool
 | .relE _ _ => true
 | _ => false
def Gd.holds {M : Nat → Prop} : Gd M → Value → World → Prop
 | .det c, v, _ => v = c
 | .rel G _, v, w => G v w
 | .relE G _, v, w => G v w
def Gd.val {M : Nat → Prop} : Gd M → Value → Value
 | .det c, _ => c
 | .rel _ _, v => v
 | .relE _ _, v => v
theorem Gd.keep {M : Nat → Prop} {g : Gd M} {v : Value} {w w' : World} (h : g.holds v w) (hb : Tr M w w') (hn : g.isE = true → Below w.heap.size w w') : g.holds v w' := by
 cases g with
 | det c => exact h
 | rel G hG => exact hG v w w' h hb
 | relE G hG => exact hG v w w' h (hn rfl)
section
variable {P : Program}
variable {M : Nat → Prop} {e : Nat} {D : World → Prop} {gs : List (Gd M)} {l : List Oper} {xs : Nat → Value} {a0 : Act}
structure kact {M : Nat → Prop} (e : Nat) (D : World → Prop) (gs : List (Gd M)) (l : List Oper) (C : World → Prop) (a0 : Act) (listed : Array Bool) (a : Act) (w : World) : Prop where
 inC : C w
 inD : listed.getD e false = false → D w
 defers : a.defers = a0.defers
 size : a.tmps.size = a0.tmps.size
 lsize : listed.size = l.length
 closed : ∀ k o, listed.getD k false = true → l[k]? = some o → ∀ e ∈ o.after, Region.binds .any e = true → listed.getD e.on false = true
 vals : ∃ xs : Nat → Value, ∀ j g, gs[j]? = some g → listed.getD j false = true → g.holds (xs j) w ∧ ∀ o d, l[j]? = some o → o.dst = some d → a.tmps[d]? = some (xs j)
 rest : ∀ t, (∀ j o, listed.getD j false = true → l[j]? = some o → o.dst ≠ some t) → a.tmps[t]? = a0.tmps[t]?
end
end RE
end Go.Proofs.YtaimpcnpifoidaaGreatDoor
set_option linter.unusedVariables false
set_option linter.unusedSimpArgs false
namespace Go.Proofs.YtaimpcnpifoidaaGreatDoor
open Go Go.RowKit
def kyu (g : Nat → AV → AV) (base : List (Nat × AV)) : List (Nat × Option Nat × AV) → List (Nat × AV)
 | [] => base
 | (j, some d, c) :: l => (d, g j c) :: kyu g base l
 | (_, none, _) :: l => kyu g base l
def km3 (P : Program) (o : Oper) (st : St) (m : Nat) (om : AObj) (c : AV) (om' : AObj) : Prop :=
 ∀ F S0 N0 ψ S a w, (∀ t, RV ψ (· ∈ st.ids) S w (a.tmps.getD t undef) (st.get t)) → Core F S0 N0 [(m, om)] st.ids ψ S w → kf8 P o a w fun v w' => ∃ n u, Core F S0 N0 [(m, om')] st.ids (ψ.set m n u) S w' ∧ RV (ψ.set m n u) (· ∈ st.ids) S w' v c ∧ Fr F w w' ∧
  (ψ.len m < n ∨ (ψ.len m = n ∧ u = ψ.val m)) ∧ (∀ b, Blk u b → Blk (ψ.val m) b ∨ w.heap.size ≤ b)
section
variable {P : Program} {F S0 : Nat → Prop} {N0 : Nat} {w w' : World} {S S' : Nat → Prop} {ψ ψ' : Env} {K K' : Nat → Prop} {o : Oper} {a : Act} {st : St} {T : List (TypeId × TD)} {t : TypeId} {d : TD}
def GnE (ψ : Env) (ids : List Nat) (SN : Nat → Prop) (c : AV) (v : Value) (w : World) : Prop := RV ψ (· ∈ ids) SN w v c
def GeE (F S0 : Nat → Prop) (N0 : Nat) (ψ : Env) (ids : List Nat) (S SN : Nat → Prop) (z : Nat) (m : Nat) (om' : AObj) (c : AV) (v : Value) (w : World) : Prop :=
 ∃ n u S'', Core F S0 N0 [(m, om')] ids (ψ.set m n u) S'' w ∧ RV (ψ.set m n u) (· ∈ ids) S'' w v c ∧ (ψ.len m < n ∨ (ψ.len m = n ∧ u = ψ.val m)) ∧ (∀ b, Blk u b → Blk (ψ.val m) b ∨ z ≤ b) ∧ (∀ b, S b → S'' b) ∧ (∀ b, S'' b → SN b)
theorem Core.grow0 {heap : List (Nat × AObj)} {ids : List Nat} (h : Core F S0 N0 heap ids ψ S w) (hg : Below w.heap.size w w') : Core F S0 N0 heap ids ψ S w' := by
 have hk : Same S w w' := fun b _ hl => hg.block b hl
 refine ⟨fun id o ho => ?_, h.inj, fun b hb => Nat.lt_of_lt_of_le (h.lt b hb) hg.size, h.s0, Nat.le_trans h.n0 hg.size, fun b hb => Nat.lt_of_lt_of_le (h.fr b hb) hg.size⟩
 obtain ⟨h1, h2, h3⟩ := h.obj id o ho
 exact ⟨h1, h2.keep Ext.refl (fun _ h => h) (fun _ h => h) hk ⟨rfl, rfl⟩ fun b hb => hg.block b (h2.lt hb), h3⟩
theorem GeE.keep {ids : List Nat} {SN : Nat → Prop} {z m : Nat} {om' : AObj} {c : AV} {v : Value} (h : GeE F S0 N0 ψ ids S SN z m om' c v w) (hg : Below w.heap.size w w') : GeE F S0 N0 ψ ids S SN z m om' c v w' := by
 obtain ⟨n, u, S'', h1, h2, h3⟩ := h
 exact ⟨n, u, S'', h1.grow0 hg, h2.keep Ext.refl (fun _ h => h) (fun _ h => h) (fun b _ hl => hg.block b hl), h3⟩
def HInvE (ψ : Env) (ids : List Nat) (SN : Nat → Prop) (C : World → Prop) (e : Nat) (ce : AV) (ve : Value) (i : Nat) (a0 a : Act) (fs : List (Nat × Option Nat × AV)) (facts : Nat → World → Prop) (base : List (Nat × AV)) : Prop :=
 ∀ (p : Nat → Bool) (g : Nat → AV → AV) (R : Value → AV → Prop) (w : World), C w → (∀ j, p j = true → j ≠ e → facts j w) → (∀ j c v, j ≠ e → p j = true → GnE ψ ids SN c v w → R v (g j c)) → (∀ j c v, p j = false → R v (g j c)) →
  (e < i → p e = true → R ve (g e ce)) → (∀ t, R (a0.tmps.getD t undef) (look .any base t)) → ∀ t, R (a.tmps.getD t undef) (look .any (kyu g base fs) t)
theorem HInvE.put {ids : List Nat} {SN : Nat → Prop} {C : World → Prop} {e : Nat} {ce : AV} {ve : Value} {i : Nat} {a0 a : Act} {fs : List (Nat × Option Nat × AV)} {facts facts' : Nat → World → Prop} {base : List (Nat × AV)} {n : Nat} {c : AV} {v : Value}
  (h : HInvE ψ ids SN C e ce ve i a0 a fs facts base) (hsz : a.tmps.size = n) (hod : ∀ t, o.dst = some t → t < n) (hf : ∀ j w, j ≠ e → facts' j w → facts j w) {ce' : AV} {ve' : Value}
  (hi : i ≠ e → ce' = ce ∧ ve' = ve ∧ ∀ w, facts' i w → GnE ψ ids SN c v w) (hi' : i = e → ce' = c ∧ ve' = v) : HInvE ψ ids SN C e ce' ve' (i + 1) a0 (a.put o.dst v) ((i, o.dst, c) :: fs) facts' base := by
 intro p g R w hC hp h1 h2 h3 hb t
 have old := h p g R w hC (fun j hj hne => hf j w hne (hp j hj hne)) h1 h2 (fun hlt hpe => by
  obtain ⟨e1, e2, _⟩ := hi (by omega)
  have := h3 (by omega) hpe
  rw [e1, e2] at this
  exact this) hb t
 rw [ko3 hsz hod]
 cases hdd : o.dst with
 | none => rw [if_neg (by simp)]; exact old
 | some d =>
  simp only [kyu, kcj]
  by_cases hdt : d = t
  ·subst hdt
   rw [if_pos rfl, if_pos rfl]
   cases hpi : p i with
   | false => exact h2 i c v hpi
   | true =>
    by_cases hie : i = e
    ·obtain ⟨e1, e2⟩ := hi' hie
     have := h3 (by omega) (hie ▸ hpi)
     rw [e1, e2, ← hie] at this
     exact this
    ·exact h1 i c v hie hpi ((hi hie).2.2 w (hp i hpi hie))
  ·rw [if_neg (by simpa using hdt), if_neg hdt]
   exact old
def k6y (st : St) (id n : Nat) : List Nat → Prop
 | [] => True
 | t :: ts => st.get t = .row id n ∧ k6y st id n ts
def kyw (x : AV) (base : List (Nat × AV)) : List Nat → List (Nat × AV)
 | [] => base
 | t :: ts => (t, x) :: kyw x base ts
theorem km0 {id n : Nat} {e : TypeId} {size : Nat} {xs : List FV} (ts : List Nat) (hx : k6y st id n ts) (hob : kab st.heap id = some (.frow e size xs)) (hn : n = xs.length) :
  LeSt st { st with tmps := kyw (.fz (.lst size n xs)) st.tmps ts, heap := kcf id st.heap } := by
 subst hn
 intro F S0 N0 ψ S a w hs
 obtain ⟨c1, c2⟩ := km2 hs.core hob
 have hold : ∀ k, RV ψ (· ∈ st.ids) (fun b => S b ∨ kbo (ψ.val id) = some b) w (a.tmps.getD k undef) (st.get k) := fun k => (hs.tmps k).mono (fun _ h => h) fun _ h => .inl h
 have h0 := (hs.core.obj id _ hob).2.1.1
 refine ⟨ψ, _, hs.defers, hs.size, fun k => ?_, c1⟩
 show RV ψ (· ∈ st.ids) _ w (a.tmps.getD k undef) (look .any (kyw (.fz (.lst size xs.length xs)) st.tmps ts) k)
 induction ts with
 | nil => exact hold k
 | cons t ts ih =>
  simp only [kyw, kcj]
  split
  ·rename_i hk
   subst hk
   have hv := hold t
   rw [hx.1] at hv
   refine .fz ?_
   generalize a.tmps.getD t undef = u at hv
   cases hv with
   | row hK hn' h1 hv => rw [hv (by rw [h0])]; exact c2
  ·exact ih hx.2
theorem k8o {st' : St} {ids : List Nat} {ts : List (Nat × C1)} {c : AV} (h : coSt st ids ts [] = some st') (hn : NStep P o st' c) : NStep P o st c := by
 unfold coSt at h
 cases hi : ids.all st.ids.contains with
 | false => rw [hi] at h; simp at h
 | true =>
  cases h1 : krc st ids ts with
  | none => rw [hi, h1] at h; simp at h
  | some r =>
   rw [hi, h1] at h
   simp only [kq8, Option.some.injEq] at h
   subst h
   have hin : ∀ id, id ∈ ids → id ∈ st.ids := fun id hid => by simpa using List.all_eq_true.1 hi id hid
   intro ψ S a w ht hob
   refine kru ?_ (hn ψ S a w (fun t => ?_) (fun id ob ho => by cases ho))
   ·rintro v w' ⟨k1, k2⟩
    exact ⟨k1, k2.mono hin fun _ h => h⟩
   ·show RV ψ (· ∈ ids) S w _ (look .any r t)
    rcases krp t h1 with h' | ⟨c', h', hok⟩
    ·rw [h']; exact .any
    ·rw [h']
     rw [h'] at *
     exact (kq9 (ht t)).sub1 hok
theorem kt1 {e : TypeId} {size : Nat} {xs : List FV} {v : Value} {cs : List Value} (hsz : 0 < size) (hown : w.ownsRow 0 e size v xs.length cs) (hel : ElR size xs) (hr : RowR S w size xs cs) : RF (fun b => S b ∨ kbo v = some b) w v (.lst size xs.length xs) := by
 rcases hown.2 with ⟨hv, hx0⟩ | ⟨g, cap, cur, hv, _, hh, hnc, hcm, hcs, htk⟩
 ·have : xs = [] := List.eq_nil_of_length_eq_zero hx0
  subst this
  rw [hv]
  exact .lst (A := none) (cap := 0) (xs := []) (fun _ => []) rfl (Nat.le_refl _) (by omega) hsz (fun i x hx => by simp at hx) (fun i x hx => by simp at hx) (fun i x j v y hx => by simp at hx)
 ·rw [hv]
  have hlen : ∀ i x, xs[i]? = some x → (i + 1) * size ≤ cs.length := fun i x hx => by
   rw [hown.1]; exact Nat.mul_le_mul_right _ (List.getElem?_eq_some_iff.1 hx).1
  refine .lst (fun i => (cs.drop (i * size)).take size) rfl hnc (by unfold maxLen at hcm; exact hcm) hsz (fun i x hx => ⟨g, 0, rfl, .inr (by rfl), fun j u hu => ?_⟩) (fun i x hx => ?_) fun i x j v y hx hv' hy => ?_
  ·rw [List.getElem?_take] at hu
   split at hu
   ·rw [List.getElem?_drop, ← htk, List.getElem?_take] at hu
    split at hu
    ·simp only [World.cell?, hh, Nat.zero_add]
     simpa using hu
    ·cases hu
   ·cases hu
  ·have := hlen i x hx
   rw [Nat.add_mul] at this
   exact ⟨by rw [List.length_take, List.length_drop]; omega, hel x (List.mem_of_getElem? hx)⟩
  ·rw [List.getElem?_take] at hv'
   split at hv'
   ·rw [List.getElem?_drop] at hv'
    exact (hr i x j v y hx hv' hy).mono fun _ h => .inl h
   ·cases hv'
theorem k5e {f : FuncId} {fn : Func} {ts : Array TypeId} {X Y : Operand} {s : ByteArray} {c : Int} (ho : o.op = .call { callee := .value (.func f), args := #[X, Y], argTypes := ts }) (hf : P.funcs[f]? = some fn)
  (hname : (fn.name == "runtime.NumGoroutine") = false := by kernel_rfl) (hb : fn.body.isNone = true := by kernel_rfl) (hn : Extern.findNext fn = none := by kernel_rfl) (he : Extern.find fn = some Extern.BytealgIndexByte.indexByte := by kernel_rfl) (hx : st.eval X = .fz (eS s) := by kernel_rfl) (hy : st.eval Y = .fz (eU8 c) := by kernel_rfl) : NStep P o st (.fz (eI (Lib.indexByte s.data.toList c.toNat.toUInt8))) := by
 intro ψ S a w ht hO
 have h1 := Sim.eval_tmps ht X
 rw [hx] at h1
 have h1 := h1.atom
 have h2 := Sim.eval_tmps ht Y
 rw [hy] at h2
 have h2 := h2.atom
 refine kai (w' := w) (v := .int .i64 (Lib.indexByte s.data.toList c.toNat.toUInt8)) ?_ ⟨kah _, .fz (.atom rfl)⟩
 have h0 : a.eval (.func f) = .func (.func f) #[] #[] := rfl
 simp [execOp, ho, resolve, h0, Deferred.ofValue, invoke, run_callFunc_extern hf hname hb hn he, h1, h2, Lib.run_indexByteString]
end
end Go.Proofs.YtaimpcnpifoidaaGreatDoor
