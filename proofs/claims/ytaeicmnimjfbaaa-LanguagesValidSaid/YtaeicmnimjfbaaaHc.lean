/- Calls of functions that are lent objects: contracts over the objects that a call reaches, and how a caller uses them. -/
import Derived.Test.YtaeicmnimjfbaaaDrawE
set_option linter.unusedVariables false
set_option linter.unusedSimpArgs false
namespace Go.Proofs.Ytaeicmnimjfbaaa
open Go Go.RowKit

/-- other numbers for the objects -/
def rn : List (Nat × Nat) → Nat → Nat
  | [], i => i
  | (k, j) :: l, i => bif Nat.beq k i then j else rn l i
mutual
def renA (r : List (Nat × Nat)) : AV → AV
  | .fz x => .fz x
  | .agg cs => .agg (renAs r cs)
  | .tup vs => .tup (renAs r vs)
  | .ref id n off => .ref (rn r id) n off
  | .row id n => .row (rn r id) n
  | .lim a b c => .lim a b c
  | .mp id => .mp (rn r id)
  | .opt id => .opt (rn r id)
  | .sdp id n => .sdp (rn r id) n
  | .fn f cap => .fn f (renAs r cap)
  | .any => .any
def renAs (r : List (Nat × Nat)) : List AV → List AV
  | [] => []
  | x :: l => renA r x :: renAs r l
end
mutual
def okA (ids : List Nat) : AV → Bool
  | .fz _ => true
  | .agg cs => okAs ids cs
  | .tup vs => okAs ids vs
  | .ref id _ _ => ids.contains id
  | .row id _ => ids.contains id
  | .lim _ _ _ => true
  | .mp id => ids.contains id
  | .opt id => ids.contains id
  | .sdp id _ => ids.contains id
  | .fn _ cap => okAs ids cap
  | .any => true
def okAs (ids : List Nat) : List AV → Bool
  | [] => true
  | x :: l => okA ids x && okAs ids l
end
def renO (r : List (Nat × Nat)) : AObj → AObj
  | .box e cs => .box e (renAs r cs)
  | .frow e s xs => .frow e s xs
  | .smap kv => .smap kv
  | .gho cs vs => .gho cs vs
  | .was a b c d => .was a b c d
def okO (ids : List Nat) : AObj → Bool
  | .box _ cs => okAs ids cs
  | .frow _ _ _ => true
  | .smap _ => true
  | _ => false
theorem renAs_eq (r : List (Nat × Nat)) : ∀ l, renAs r l = l.map (renA r)
  | [] => rfl
  | x :: l => by simp [renAs, renAs_eq r l]
theorem okAs_eq (ids : List Nat) : ∀ l, okAs ids l = l.all (okA ids)
  | [] => rfl
  | x :: l => by simp [okAs, okAs_eq ids l]
theorem renA_single (r : List (Nat × Nat)) (x : AV) : (renA r x).single = x.single := by cases x <;> rfl

section
variable {P : Program} {F S0 : Nat → Prop} {N0 : Nat} {w w' : World} {S S' : Nat → Prop} {ψ ψ' : Env} {K K' : Nat → Prop} {T : List (TypeId × TD)} {o : Oper} {a : Act} {st : St} {t : TypeId} {d : TD} {ids : List Nat}

theorem RV.ren {r : List (Nat × Nat)} {v : Value} {x : AV} (h : RV ψ K S w v x) (hr : ∀ i, K i → K' (rn r i) ∧ ψ'.len (rn r i) = ψ.len i ∧ ψ'.val (rn r i) = ψ.val i) : RV ψ' K' S w v (renA r x) := by
  induction h with
  | fz h => exact .fz h
  | agg h h1 _ ih =>
    simp only [renA, renAs_eq]
    refine .agg (by simpa using h) (fun x hx => ?_) fun i v x hv hx => ?_
    · obtain ⟨y, hy, rfl⟩ := List.mem_map.1 hx
      rw [renA_single]; exact h1 y hy
    · simp only [List.getElem?_map, Option.map_eq_some_iff] at hx
      obtain ⟨y, hy, rfl⟩ := hx
      exact ih i v y hv hy
  | tup h _ ih =>
    simp only [renA, renAs_eq]
    refine .tup (by simpa using h) fun i v x hv hx => ?_
    simp only [List.getElem?_map, Option.map_eq_some_iff] at hx
    obtain ⟨y, hy, rfl⟩ := hx
    exact ih i v y hv hy
  | @ref id n off v hk hn h1 hv =>
    obtain ⟨e1, e2, e3⟩ := hr id hk
    exact .ref e1 (by omega) h1 fun h => by rw [e3]; exact hv (by omega)
  | @row id n v hk hn h1 hv =>
    obtain ⟨e1, e2, e3⟩ := hr id hk
    exact .row e1 (by omega) h1 fun h => by rw [e3]; exact hv (by omega)
  | lim h => exact .lim h
  | @mp id v hk h1 hv =>
    obtain ⟨e1, e2, e3⟩ := hr id hk
    exact .mp e1 h1 fun h => by rw [e3]; exact hv (by omega)
  | fn h _ ih =>
    simp only [renA, renAs_eq]
    refine .fn (by simpa using h) fun i v x hv hx => ?_
    simp only [List.getElem?_map, Option.map_eq_some_iff] at hx
    obtain ⟨y, hy, rfl⟩ := hx
    exact ih i v y hv hy
  | @opt id v hk h1 hv =>
    obtain ⟨e1, e2, e3⟩ := hr id hk
    exact .opt e1 h1 fun h => by rw [e3]; exact hv (by omega)
  | @sdp id n v hk hn h1 hv =>
    obtain ⟨e1, e2, e3⟩ := hr id hk
    exact .sdp e1 (by omega) h1 fun h => by rw [e3]; exact hv (by omega)
  | any => exact .any
theorem RV.subA {v : Value} {x : AV} (h : RV ψ K S w v x) (ho : okA ids x = true) : RV ψ (· ∈ ids) S w v x := by
  induction h with
  | fz h => exact .fz h
  | agg h h1 _ ih =>
    rw [okA, okAs_eq] at ho
    exact .agg h h1 fun i v x hv hx => ih i v x hv hx (List.all_eq_true.1 ho x (List.mem_of_getElem? hx))
  | tup h _ ih =>
    rw [okA, okAs_eq] at ho
    exact .tup h fun i v x hv hx => ih i v x hv hx (List.all_eq_true.1 ho x (List.mem_of_getElem? hx))
  | ref hK hn h1 hv => exact .ref (by simpa [okA] using ho) hn h1 hv
  | row hK hn h1 hv => exact .row (by simpa [okA] using ho) hn h1 hv
  | lim h => exact .lim h
  | mp hK h1 hv => exact .mp (by simpa [okA] using ho) h1 hv
  | fn h _ ih =>
    rw [okA, okAs_eq] at ho
    exact .fn h fun i v x hv hx => ih i v x hv hx (List.all_eq_true.1 ho x (List.mem_of_getElem? hx))
  | opt hK h1 hv => exact .opt (by simpa [okA] using ho) h1 hv
  | sdp hK hn h1 hv => exact .sdp (by simpa [okA] using ho) hn h1 hv
  | any => exact .any
theorem ObR.subA {id : Nat} {ob : AObj} (h : ObR ψ K S w id ob) (ho : okO ids ob = true) : ObR ψ (· ∈ ids) S w id ob := by
  cases ob with
  | box e cells =>
    obtain ⟨k0, b, cs, k1, k2, k3, k4, k5⟩ := h
    rw [okO, okAs_eq] at ho
    exact ⟨k0, b, cs, k1, k2, k3, k4, fun i v x hv hx => (k5 i v x hv hx).subA (List.all_eq_true.1 ho x (List.mem_of_getElem? hx))⟩
  | frow e s xs => exact h
  | smap kv => exact h
  | gho cs vs => cases ho
  | was a b c d => cases ho
theorem ObR.ren {r : List (Nat × Nat)} {id : Nat} {ob : AObj} (h : ObR ψ K S w id ob) (hr : ∀ i, K i → K' (rn r i) ∧ ψ'.len (rn r i) = ψ.len i ∧ ψ'.val (rn r i) = ψ.val i) (hid : K id)
    (ho : okO ids ob = true) : ObR ψ' K' S w (rn r id) (renO r ob) := by
  obtain ⟨e1, e2, e3⟩ := hr id hid
  cases ob with
  | box e cells =>
    obtain ⟨k0, b, cs, k1, k2, k3, k4, k5⟩ := h
    simp only [renO, renAs_eq]
    refine ⟨by omega, b, cs, by rw [e3, k1], k2, by simpa using k3, fun x hx => ?_, fun i v x hv hx => ?_⟩
    · obtain ⟨y, hy, rfl⟩ := List.mem_map.1 hx
      rw [renA_single]; exact k4 y hy
    · simp only [List.getElem?_map, Option.map_eq_some_iff] at hx
      obtain ⟨y, hy, rfl⟩ := hx
      exact (k5 i v y hv hy).ren hr
  | frow e s xs =>
    obtain ⟨k0, k1, cs, k2, k3⟩ := h
    exact ⟨by omega, k1, cs, by rw [e3]; exact k2, k3⟩
  | smap kv =>
    obtain ⟨k0, b, es, cl, k1, k2⟩ := h
    exact ⟨by omega, b, es, cl, by rw [e3, k1], k2⟩
  | gho cs vs => cases ho
  | was a b c d => cases ho

/-- how a call ends -/
inductive HEnd where
  | ret (res : AV)
  | pan (v : Value)
def HEnd.ok (ids : List Nat) : HEnd → Bool
  | .ret x => okA ids x
  | .pan _ => true
def HEnd.ren (r : List (Nat × Nat)) : HEnd → HEnd
  | .ret x => .ret (renA r x)
  | .pan v => .pan v
def HEnd.is (e : Ending) (ψ : Env) (K : Nat → Prop) (S : Nat → Prop) (w : World) : HEnd → Prop
  | .ret res => ∃ v, e = .returned v ∧ RV ψ K S w v res
  | .pan v => e = .panicked [{ v := v, recovered := false }]
def HCall (P : Program) (f : FuncId) (args : List AV) (pre : List (Nat × AObj)) (ids : List Nat) (E : HEnd) (post : List (Nat × AObj)) (ids' : List Nat) : Prop :=
  (∃ fn, P.funcs[f]? = some fn ∧ fn.body.isNone = false ∧ (fn.name == "runtime.NumGoroutine") = false) ∧
  ∀ (F S0 : Nat → Prop) (N0 : Nat) (ψ : Env) (S : Nat → Prop) (w : World) (vs : Array Value), vs.size = args.length → (∀ (i : Nat) (v : Value) (x : AV), vs[i]? = some v → args[i]? = some x → RV ψ (· ∈ ids) S w v x) → Core F S0 N0 pre ids ψ S w →
    Calls P f vs w fun e w' => ∃ ψ' S', E.is e ψ' (· ∈ ids') S' w' ∧ Core F S0 N0 post ids' ψ' S' w' ∧ Fr F w w' ∧ Ext (· ∈ ids) ψ ψ' ∧ (∀ i, i ∈ ids → i ∈ ids') ∧ (∀ b, S b → S' b) ∧ Same S w w'

/-- results as abstract values -/
def resA (T : List (TypeId × TD)) (st : St) : ResultVar → Option AV
  | .tmp t => some (st.get t)
  | .cell x t => match lookT T t, cellsAt st (st.get x) with
    | some d, some xs => loadX d xs
    | _, _ => none
def ressA (T : List (TypeId × TD)) (st : St) : List ResultVar → Option (List AV)
  | [] => some []
  | r :: rs => match resA T st r, ressA T st rs with
    | some y, some ys => some (y :: ys)
    | _, _ => none
def retA0 (T : List (TypeId × TD)) (st : St) (rs : List ResultVar) : Option AV := match ressA T st rs with
  | some [y] => some y
  | some ys => some (tupA ys)
  | none => none
def retA (T : List (TypeId × TD)) (st : St) (rs : List ResultVar) : Option AV := match st.dfr with
  | [] => retA0 T st rs
  | _ => none
theorem retA_dfr {T : List (TypeId × TD)} {st : St} {rs : List ResultVar} {y : AV} (h : retA T st rs = some y) : st.dfr = [] ∧ retA0 T st rs = some y := by
  unfold retA  at h
  split at h
  · rename_i hd; exact ⟨hd, h⟩
  · cases h
/-- what a body leaves -/
def hpost (T : List (TypeId × TD)) (rs : List ResultVar) (g : Nat) (ids : List Nat) (E : HEnd) (post : List (Nat × AObj)) (ids' : List Nat) (ψ0 : Env) (S1 : Nat → Prop) (w0 : World) (e : Exit) (st : St) : Prop :=
  st.heap = (g, .was ψ0 ids S1 w0) :: post ∧ st.ids = g :: ids' ∧ (match E with
    | .ret res => (e = .normal ∨ e = .ret) ∧ retA T st rs = some res
    | .pan v => st.dfr = [] ∧ e = .panic [{ v := v, recovered := false }])
theorem ressA_ok (hT : TOk P T) (hs : Sim F S0 N0 st ψ S a w) : ∀ {rs : List ResultVar} {ys : List AV}, ressA T st rs = some ys →
    ∃ vs : List Value, (rs.mapM (resOne a.tmps)).run P w = .ok vs w ∧ vs.length = ys.length ∧ ∀ (i : Nat) (v : Value) (y : AV), vs[i]? = some v → ys[i]? = some y → RV ψ (· ∈ st.ids) S w v y
  | [], ys, h => by simp only [ressA, Option.some.injEq] at h; subst h; exact ⟨[], by simp, rfl, fun i v y h => by simp at h⟩
  | r :: rs, ys, h => by
    simp only [ressA] at h
    split at h
    · rename_i y ys' h1 h2
      injection h with h
      subst h
      obtain ⟨vs, k1, k2, k3⟩ := ressA_ok hT hs h2
      have key : ∃ v, (resOne a.tmps r).run P w = .ok v w ∧ RV ψ (· ∈ st.ids) S w v y := by
        unfold resA at h1
        split at h1
        · rename_i t
          injection h1 with h1
          subst h1
          exact ⟨_, rfl, hs.tmps t⟩
        · rename_i x t
          split at h1
          · rename_i d xs hd hx
            obtain ⟨ad, u, e1, e2, e3⟩ := load_ok (hT.get hd) (hs.tmps x) (fun id o ho => (hs.core.obj id o ho).2.1) hx h1
            refine ⟨u, ?_, e3⟩
            simp only [resOne, e1, asAddr, Sem.run_bind, Sem.run_pure, Result.andThen_ok, e2]
          · cases h1
      obtain ⟨v, e1, e2⟩ := key
      refine ⟨v :: vs, ?_, by simp [k2], fun i v' y' hv hy => ?_⟩
      · rw [List.mapM_cons]
        simp only [Sem.run_bind, e1, Result.andThen_ok, k1, Sem.run_pure]
      · cases i with
        | zero => simp at hv hy; subst hv hy; exact e2
        | succ i => exact k3 i v' y' (by simpa using hv) (by simpa using hy)
    · cases h
theorem retA_ok (hT : TOk P T) (hs : Sim F S0 N0 st ψ S a w) {fn : Func} {y : AV} (h : retA T st fn.results.toList = some y) : ∃ v, (results fn a.tmps).run P w = .ok v w ∧ RV ψ (· ∈ st.ids) S w v y := by
  replace h := (retA_dfr h).2
  unfold retA0 at h
  have key : ∀ ys, ressA T st fn.results.toList = some ys → ∃ vs : List Value, (results fn a.tmps).run P w = .ok (if h : vs.length = 1 then vs[0] else .tuple vs.toArray) w ∧ vs.length = ys.length ∧ ∀ (i : Nat) (v : Value) (y : AV), vs[i]? = some v → ys[i]? = some y → RV ψ (· ∈ st.ids) S w v y := fun ys hy => by
    obtain ⟨vs, k1, k2, k3⟩ := ressA_ok hT hs hy
    refine ⟨vs, ?_, k2, k3⟩
    unfold results
    rw [Array.mapM_eq_mapM_toList]
    have hg : ∀ (g : ResultVar → Sem Value), (∀ x, g x = resOne a.tmps x) → (fn.results.toList.mapM g).run P w = .ok vs w := fun g hg => by rw [show g = resOne a.tmps from funext hg]; exact k1
    simp only [Sem.run_bind, Sem.run_map]
    rw [hg _ fun x => by cases x <;> rfl]
    simp only [Result.andThen_ok, Sem.run_pure]
    simp
  split at h
  · rename_i z hz
    injection h with h
    subst h
    obtain ⟨vs, k1, k2, k3⟩ := key _ hz
    have hl : vs.length = 1 := by simpa using k2
    rw [dif_pos hl] at k1
    exact ⟨_, k1, k3 0 _ _ (List.getElem?_eq_getElem (by omega)) rfl⟩
  · rename_i ys hne hy
    injection h with h
    subst h
    obtain ⟨vs, k1, k2, k3⟩ := key _ hy
    have hl : ¬ vs.length = 1 := fun hl => by
      rw [k2] at hl
      obtain ⟨z, rfl⟩ := List.length_eq_one_iff.1 hl
      exact hne z rfl
    rw [dif_neg hl] at k1
    exact ⟨_, k1, RV.tupA (by simpa using k2) fun i v x hv hx => k3 i v x (by simpa using hv) hx⟩
  · cases h
theorem hcall_intro (hT : TOk P T) {f : FuncId} {fn : Func} {c : Code} {args : List AV} {pre : List (Nat × AObj)} {E : HEnd} {post : List (Nat × AObj)} {ids' : List Nat} {g : Nat} (hf : P.funcs[f]? = some fn) (hb : fn.body = some c) (hn : (fn.name == "runtime.NumGoroutine") = false)
    (hle : Nat.ble args.length fn.ntmps = true) (hg : ids.contains g = false)
    (h : ∀ ψ0 S1 w0, awp P c { n := fn.ntmps, tmps := argT 0 args, heap := (g, .was ψ0 ids S1 w0) :: pre, ids := g :: ids } (hpost T fn.results.toList g ids E post ids' ψ0 S1 w0)) (hg' : ids'.contains g = false) (hp' : (post.all fun p => okO ids' p.2) = true) (hE : E.ok ids' = true)
    (hk : (post.all fun p => ids'.contains p.1) = true) : HCall P f args pre ids E post ids' := by
  have hle := Nat.le_of_ble_eq_true hle
  have hg : g ∉ ids := by simpa using hg
  have hg' : g ∉ ids' := by simpa using hg'
  refine ⟨⟨fn, hf, by rw [hb]; rfl, hn⟩, fun F S0 N0 ψ S w vs hs hr hc => calls_of_wp hf hb ?_⟩
  have hcore := hc.add (n := 0) (v := .nilFunc) (w' := w) (ob := .was ψ ids S w) (grow_refl _) hg (fun b hb => by cases hb)
    ⟨set_len _ _, by rw [set_val]; rfl, ext_new hg _ _, fun i hi => List.mem_cons_of_mem _ hi, fun b hb => hb, fun _ _ _ => rfl⟩
  have hsim : Sim F S0 N0 { n := fn.ntmps, tmps := argT 0 args, heap := (g, .was ψ ids S w) :: pre, ids := g :: ids } (ψ.set g 0 .nilFunc) S
      { tmps := vs ++ Array.replicate (fn.ntmps - vs.size) undef, defers := [] } w := by
    refine ⟨rfl, by simp; omega, fun t => ?_, hcore⟩
    show RV _ _ _ w _ (look .any (argT 0 args) t)
    rcases argT_get args 0 t with h | ⟨x, _, h1, h2⟩
    · rw [h]; exact .any
    · rw [h2]
      have h1 : args[t]? = some x := by simpa using h1
      have hlt : t < vs.size := by rw [hs]; exact (List.getElem?_eq_some_iff.1 h1).1
      have : (vs ++ Array.replicate (fn.ntmps - vs.size) undef).getD t undef = vs[t] := by
        rw [Array.getD_eq_getD_getElem?, Array.getElem?_append_left hlt]
        simp [hlt]
      rw [this]
      exact (hr t _ x (by simp [hlt]) h1).keep (ext_new hg _ _) (fun _ h => List.mem_cons_of_mem _ h) (fun _ h => h) (fun _ _ _ => rfl)
  refine wp_mono (h _ _ _ F S0 N0 _ S _ w hsim) ?_
  rintro e a' w' ⟨st', ψ', S', ⟨hh, hi, hq⟩, h2, h3⟩
  have hgo : lookO st'.heap g = some (.was ψ ids S w) := by rw [hh, lookO_cons, if_pos rfl]
  obtain ⟨_, ⟨_, _, k1, k2, k3, k4⟩, _⟩ := h2.core.obj g _ hgo
  have hids : ∀ i, i ∈ ids → i ∈ ids' := fun i hii => by
    have := k2 i hii
    rw [hi] at this
    rcases List.mem_cons.1 this with rfl | h
    · exact absurd hii hg
    · exact h
  have hpost : ∀ i ob, lookO post i = some ob → i ∈ ids' ∧ okO ids' ob = true := fun i ob ho => by
    have hm : ∀ {l : List (Nat × AObj)}, lookO l i = some ob → (i, ob) ∈ l := fun {l} => by
      induction l with
      | nil => intro h; cases h
      | cons p l ih =>
        intro h
        obtain ⟨k, v⟩ := p
        rw [lookO_cons] at h
        split at h
        · rename_i hk; subst hk; injection h with h; subst h; exact List.mem_cons_self ..
        · exact List.mem_cons_of_mem _ (ih h)
    have hm := hm ho
    exact ⟨by simpa using List.all_eq_true.1 hk _ hm, by simpa using List.all_eq_true.1 hp' _ hm⟩
  have hl : ∀ i ob, lookO post i = some ob → lookO st'.heap i = some ob := fun i ob ho => by
    have hne : g ≠ i := fun e => hg' (e ▸ (hpost i ob ho).1)
    rw [hh, lookO_cons, if_neg hne]; exact ho
  have hcore' : Core F S0 N0 post ids' ψ' S' w' := by
    refine ⟨fun i ob ho => ?_, fun i i' ob ob' b ho ho' => h2.core.inj i i' ob ob' b (hl i ob ho) (hl i' ob' ho'), h2.core.lt, h2.core.s0, h2.core.n0, h2.core.fr⟩
    obtain ⟨_, m2, m3⟩ := h2.core.obj i ob (hl i ob ho)
    exact ⟨(hpost i ob ho).1, m2.subA (hpost i ob ho).2, m3⟩
  cases E with
  | ret res =>
    obtain ⟨he, hres⟩ := hq
    have fin : a'.defers = [] ∧ ∃ v, (results fn a'.tmps).run P w' = .ok v w' ∧ ∃ ψ'' S'', HEnd.is (.returned v) ψ'' (· ∈ ids') S'' w' (.ret res) ∧ Core F S0 N0 post ids' ψ'' S'' w' ∧ Fr F w w' ∧ Ext (· ∈ ids) ψ ψ'' ∧ (∀ i, i ∈ ids → i ∈ ids') ∧ (∀ b, S b → S'' b) ∧ Same S w w' := by
      obtain ⟨v, e1, e2⟩ := retA_ok hT h2 hres
      exact ⟨h2.defers.trans (retA_dfr hres).1, v, e1, ψ', S', ⟨v, rfl, e2.subA hE⟩, hcore', h3, k1, hids, k3, k4⟩
    rcases he with rfl | rfl <;> exact fin
  | pan v =>
    obtain ⟨hd, rfl⟩ := hq
    exact ⟨h2.defers.trans hd, ψ', S', rfl, hcore', h3, k1, hids, k3, k4⟩
end
end Go.Proofs.Ytaeicmnimjfbaaa
