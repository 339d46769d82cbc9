/- More operations: structs held against each other, conversions, literals and texts as rows of the call's own. -/
import Derived.Test.YtaeicmnimjfbaaaHd
import Derived.Laws.StructEq
import Derived.Laws.BytesString
import Derived.Lib.ConvBytes
import Derived.Deep.AppendSrc
set_option linter.unusedVariables false
set_option linter.unusedSimpArgs false
namespace Go.Proofs.Ytaeicmnimjfbaaa
open Go Go.RowKit

/-- structs of plain fields held against each other -/
def eqF (T : List (TypeId × TD)) : List (TypeId × Nat) → List FV → List FV → Option Bool
  | [], _, _ => some true
  | (ft, off) :: fs, xs, ys => match lookT T ft, xs[off]?, ys[off]?, eqF T fs xs ys with
    | some d, some (.atom u), some (.atom v), some r => match d.kind, u, v with
      | .str, .string a, .string b => some (a.toList == b.toList && r)
      | .int k, .int k1 a, .int k2 b => if k1 = k2 then some ((a == b) && r) else none
      | .bool, .bool a, .bool b => some ((a == b) && r)
      | _, _, _ => none
    | _, _, _, _ => none
/-- bytes as a text -/
def toBA (xs : List Int) : ByteArray := xs.foldl (fun r n => r.push (UInt8.ofNat n.toNat)) ByteArray.empty
def ofBA (s : ByteArray) : List Int := s.data.toList.map fun b => (b.toNat : Int)
def appS (xs : List Int) (s : ByteArray) : Option (List Int) := if xs.length + s.size ≤ 140737488355328 then some (xs ++ ofBA s) else none

section
variable {P : Program} {F S0 : Nat → Prop} {N0 : Nat} {w w' : World} {S S' : Nat → Prop} {ψ : Env} {K : Nat → Prop} {T : List (TypeId × TD)} {o : Oper} {a : Act} {st : St} {t : TypeId} {d : TD} {id : Nat}

theorem run_part1 {ft off : Nat} {cs : Array Value} {v : Value} {df : TD} (hd : TdOk P ft df) (hk : df.kind.agg = false) (h : cs[off]? = some v) : (part ft cs off).run P w = .ok v w := by
  simp [part, hd.isAgg, hk, h]
theorem eqF_ok (hT : TOk P T) {cs1 cs2 : Array Value} {xs ys : List FV} (h1 : ∀ (i : Nat) (v : Value) (x : FV), cs1[i]? = some v → xs[i]? = some x → RF S w v x) (h2 : ∀ (i : Nat) (v : Value) (x : FV), cs2[i]? = some v → ys[i]? = some x → RF S w v x)
    (l1 : cs1.size = xs.length) (l2 : cs2.size = ys.length) : ∀ {gs : List Field} {r : Bool}, (gs.all fun f => f.name != "_") = true → eqF T (gs.map fun f => (f.type, f.offset)) xs ys = some r → (Op.eqFields 9999 cs1 cs2 gs).run P w = .ok r w
  | [], r, _, h => by simp only [List.map_nil, eqF, Option.some.injEq] at h; subst h; rfl
  | f :: gs, r, hn, h => by
    simp only [List.all_cons, Bool.and_eq_true, bne_iff_ne, ne_eq] at hn
    simp only [List.map_cons, eqF] at h
    split at h
    · rename_i d u v r' hd hu hv hr
      have ih := eqF_ok hT h1 h2 l1 l2 hn.2 hr
      have hu' : cs1[f.offset]? = some u := by
        have hlt : f.offset < cs1.size := by rw [l1]; exact (List.getElem?_eq_some_iff.1 hu).1
        rw [Array.getElem?_eq_getElem hlt, (h1 f.offset _ _ (Array.getElem?_eq_getElem hlt) hu).atom_eq]
      have hv' : cs2[f.offset]? = some v := by
        have hlt : f.offset < cs2.size := by rw [l2]; exact (List.getElem?_eq_some_iff.1 hv).1
        rw [Array.getElem?_eq_getElem hlt, (h2 f.offset _ _ (Array.getElem?_eq_getElem hlt) hv).atom_eq]
      have hT' := hT.get hd
      obtain ⟨_, e, he1, he2⟩ := hT'
      have key : ∀ b : Bool, d.kind.agg = false → (Op.equalIn 9999 f.type u v).run P w = .ok b w → (Op.eqFields 9999 cs1 cs2 (f :: gs)).run P w = .ok (b && r') w := fun b hagg hb => by
        simp only [Op.eqFields, hn.1, not_false_eq_true, if_true, ne_eq, Sem.run_bind, run_part1 (hT.get hd) hagg hu', run_part1 (hT.get hd) hagg hv', Result.andThen_ok, hb]
        cases b
        · rfl
        · simpa using ih
      split at h
      · rename_i a b hk
        injection h with h
        subst h
        rw [hk] at he2
        cases e <;> simp only [kindOk] at he2
        exact key _ (by rw [hk]; rfl) (run_equalIn_string w 9998 _ a b he1)
      · rename_i k k1 a k2 b hk
        split at h
        · rename_i hkk
          subst hkk
          injection h with h
          subst h
          rw [hk] at he2
          cases e <;> simp only [kindOk] at he2
          exact key _ (by rw [hk]; rfl) (run_equalIn_int w 9998 _ _ _ a b he1)
        · cases h
      · rename_i a b hk
        injection h with h
        subst h
        rw [hk] at he2
        cases e <;> simp only [kindOk] at he2
        exact key _ (by rw [hk]; rfl) (run_equalIn_bool' w 9998 _ a b he1)
      · cases h
    · cases h
theorem n_structeq {x y : Operand} {yt : TypeId} {fs : List (TypeId × Nat)} {xs ys : List FV} {r : Bool} (neg : Bool) (hT : TOk P T) (ho : o.op = .binOp (if neg then .neq else .eql) t x y yt) (hd : lookT T t = some d) (hk : d.kind = .st fs) (hn : ((P.fieldsOf t).toList.all fun f => f.name != "_") = true)
    (hp : P.stoodInHeld t = false) (hm : P.eqGuardType P.depth t = false) (hx : st.eval x = .fz (.agg xs)) (hy : st.eval y = .fz (.agg ys)) (he : eqF T fs xs ys = some r) : NStep P o st (.fz (.atom (.bool (bif neg then !r else r)))) := by
  intro ψ S a w ht hO
  have v1 := Sim.eval_tmps ht x
  rw [hx] at v1
  have v2 := Sim.eval_tmps ht y
  rw [hy] at v2
  have v1 := v1.inv
  have v2 := v2.inv
  obtain ⟨_, e, he1, he2⟩ := hT.get hd
  rw [hk] at he2
  cases e <;> simp only [kindOk] at he2
  rename_i gs
  have hf : P.fieldsOf t = gs := by simp [Program.fieldsOf, he1]
  rw [hf] at hn
  refine relAt_ok (w' := w) (v := .bool (bif neg then !r else r)) ?_ ⟨grow_refl _, .fz (.atom rfl)⟩
  generalize hu1 : a.eval x = u1 at v1
  generalize hu2 : a.eval y = u2 at v2
  cases v1 with
  | agg l1 s1 r1 =>
    cases v2 with
    | agg l2 s2 r2 =>
      rename_i cs1 cs2
      rw [← he2] at he
      have hq := eqF_ok (w := w) hT r1 r2 l1 l2 hn he
      have hq' : (Op.equalIn 10000 t (.agg cs1) (.agg cs2)).run P w = .ok r w := by
        rw [show (10000 : Nat) = 9999 + 1 from rfl, run_equalIn_agg w 9999 t cs1 cs2 (by rw [hf]; exact he1) hp, hf]
        exact hq
      cases neg
      · simp [execOp, ho, hu1, hu2, run_eqGuard_agg w _ t x y cs1 cs2 hm, run_eql_struct, hq']
      · simp [execOp, ho, hu1, hu2, run_eqGuard_agg w _ t x y cs1 cs2 hm, run_neq_struct, hq']
theorem s_conv {sr : TypeId} {x : Operand} {k k' : IntKind} {n : Int} {ds : TD} (hT : TOk P T) (ho : o.op = .convert sr t x) (hs : lookT T sr = some ds) (hd : lookT T t = some d) (hk : d.kind = .int k) (hx : st.eval x = .fz (.atom (.int k' n))) : NStep P o st (.fz (.atom (.int k (k.wrap n)))) := by
  obtain ⟨_, e, h1, _⟩ := hT.get hs
  obtain ⟨_, e', h2, h3⟩ := hT.get hd
  rw [hk] at h3
  cases e' <;> simp only [kindOk] at h3
  subst h3
  exact n_conv (ds := ds) ho ⟨_, h1⟩ h2 hx
theorem s_convS {sr : TypeId} {x : Operand} {s : ByteArray} {ds : TD} (hT : TOk P T) (ho : o.op = .convert sr t x) (hs : lookT T sr = some ds) (hks : ds.kind = .str) (hd : lookT T t = some d) (hk : d.kind = .str) (hx : st.eval x = .fz (.atom (.string s))) : NStep P o st (.fz (.atom (.string s))) := by
  intro ψ S a w ht hO
  have h1 := Sim.eval_tmps ht x
  rw [hx] at h1
  refine relAt_ok (w' := w) (v := .string s) ?_ ⟨grow_refl _, .fz (.atom rfl)⟩
  simp [execOp, ho, h1.atom, convert, run_underlying ((hT.get hs).str hks), run_underlying ((hT.get hd).str hk)]
theorem eU8_inv {v : Value} {n : Int} (h : RF S w v (eU8 n)) : v = .int .u8 n := h.atom_eq
/-- a text of a list of bytes -/
theorem s_b2s {sr e : TypeId} {x : Operand} {xs : List Int} {ds de : TD} (hT : TOk P T) (ho : o.op = .convert sr t x) (hs : lookT T sr = some ds) (hks : ds.kind = .slice e) (he : lookT T e = some de) (hke : de.kind = .int .u8) (hd : lookT T t = some d) (hk : d.kind = .str)
    (hx : listOf (st.eval x) = some (xs.map eU8)) : NStep P o st (.fz (eS (toBA xs))) := by
  intro ψ S a w ht hO
  obtain ⟨A, cap, size, n, hnx, hv, hR⟩ := listOf_ok (Sim.eval_tmps ht x) hx
  obtain ⟨A', cap', css, hv', hnn, hc, hm, hsz, ha, hl, hr⟩ := hR.lst_inv
  have hA : A' = A ∧ cap' = cap := by
    rw [hv] at hv'
    injection hv' with h1 h2 h3
    exact ⟨h1.symm, h3.symm⟩
  obtain ⟨rfl, rfl⟩ := hA
  obtain ⟨_, e', h1, h2⟩ := hT.get he
  rw [hke] at h2
  cases e' <;> simp only [kindOk] at h2
  subst h2
  refine relAt_ok (w' := w) (v := .string (toBA xs)) ?_ ⟨grow_refl _, .fz (.atom rfl)⟩
  have hrun : (Conv.bytesToString (.slice A' n cap')).run P w = .ok (.string (toBA xs)) w := by
    cases A' with
    | none =>
      have hx0 : xs = [] := by
        cases xs with
        | nil => rfl
        | cons x xs => obtain ⟨b, o, h, _⟩ := ha 0 (eU8 x) rfl; cases h
      subst hx0
      rfl
    | some ad =>
      refine run_bytesToString w ad n cap' xs ?_
      have := run_loadCells_list (P := P) w ad (xs.map (Value.int .u8)) fun j v hj => by
        simp only [List.getElem?_map, Option.map_eq_some_iff] at hj
        obtain ⟨m, hm', rfl⟩ := hj
        have hxj : (xs.map eU8)[j]? = some (eU8 m) := by rw [List.getElem?_map, hm']; rfl
        obtain ⟨b, off, hA, _, hat⟩ := ha j _ hxj
        injection hA with hA
        subst hA
        obtain ⟨l1, l2, l3⟩ := hl j _ hxj
        have hs1 : size = 1 := by rw [← l2]; rfl
        subst hs1
        have hc0 : (css j)[0]? = some ((css j)[0]'(by omega)) := List.getElem?_eq_getElem _
        have := hr j _ 0 _ (eU8 m) hxj hc0 rfl
        rw [eU8_inv this] at hc0
        have hcell := hat 0 _ hc0
        rw [addr_add]
        simpa using hcell
      have hlen : (xs.map (Value.int .u8)).length = n := by rw [hnx]; simp
      rw [hlen] at this
      exact this
  simp only [execOp, ho, hv, Sem.run_bind]
  rw [run_convert_bytes_string w sr t e A' n cap' ((hT.get hs).slice hks) h1 ((hT.get hd).str hk), hrun]
  rfl
/-- a literal as a row of the call's own -/
theorem e_litrow {n : Nat} {parts : Array (Nat × Operand)} {e : TypeId} {de : TD} {xs : List FV} (ho : o.op = .buildSlice t n parts) (hd : TdOk P t d) (hk : d.kind = .slice e) (hde : TdOk P e de) (hsz : 0 < de.size) (hn : xs.length = n) (hb : n * de.size ≤ 16777216)
    (hp : partsF de.size 0 (evalParts st parts) = some xs) (hid : st.ids.contains id = false) : StepA P o st (.row id n) ((id, .frow e de.size xs) :: st.heap) (id :: st.ids) := by
  have hid : id ∉ st.ids := by simpa using hid
  subst hn
  intro F S0 N0 ψ S a w hs'
  have ht := hs'.tmps
  obtain ⟨e1, e2⟩ := evalParts_ok ht parts
  obtain ⟨p1, p2⟩ := partsF_ok hp
  obtain ⟨vs, hvs⟩ : ∃ vs : List Value, vs = parts.toList.map (fun p => a.eval p.2) := ⟨_, rfl⟩
  have hlen : parts.toList.length = xs.length := by
    have : (evalParts st parts).length = xs.length := by rw [p1]; simp
    simpa [evalParts] using this
  have hvl : vs.length = xs.length := by rw [hvs]; simp at hlen ⊢; exact hlen
  have helt : ∀ (i : Nat) (x : FV), xs[i]? = some x → ∃ v p, vs[i]? = some v ∧ parts.toList[i]? = some p ∧ p.1 = i ∧ RF S w v x := fun i x hx => by
    have hi : i < parts.toList.length := by rw [hlen]; exact (List.getElem?_eq_some_iff.1 hx).1
    have hq : (evalParts st parts)[i]? = some (i, .fz x) := by rw [p1]; simp [hx]
    have hpi : parts.toList[i]? = some parts.toList[i] := List.getElem?_eq_getElem hi
    have hp' : (parts.map fun (i, x) => (i, a.eval x)).toList[i]? = some (parts.toList[i].1, a.eval parts.toList[i].2) := by simp [hpi]
    obtain ⟨r1, r2⟩ := e2 i _ _ hp' hq
    exact ⟨a.eval parts.toList[i].2, parts.toList[i], by rw [hvs, List.getElem?_map, hpi]; rfl, hpi, r1, r2.inv⟩
  have hpz : (parts.map fun (i, x) => (i, a.eval x)).toList = (vs.zipIdx 0).map (fun x => (x.2, x.1)) := by
    apply List.ext_getElem?
    intro i
    by_cases hi : i < xs.length
    · obtain ⟨v, p, h1, h2, h3, _⟩ := helt i xs[i] (List.getElem?_eq_getElem hi)
      have : v = a.eval p.2 := by rw [hvs, List.getElem?_map, h2] at h1; simpa using h1.symm
      simp only [Array.toList_map, List.getElem?_map, List.getElem?_zipIdx, h1, h2, Option.map_some, Nat.zero_add]
      rw [this, h3]
    · rw [List.getElem?_eq_none (by simp at hlen ⊢; omega), List.getElem?_eq_none (by simp [hvl]; omega)]
  have hcells : ∀ v ∈ vs, v.cells.size = de.size := fun v hv => by
    obtain ⟨i, hi, rfl⟩ := List.mem_iff_getElem.1 hv
    obtain ⟨v, p, h1, _, _, h4⟩ := helt i xs[i] (List.getElem?_eq_getElem (by omega))
    rw [List.getElem?_eq_getElem hi] at h1
    injection h1 with h1
    rw [h1, (h4.cells (p2 _ (List.getElem_mem _)).2).1, (p2 _ (List.getElem_mem _)).1]
  obtain ⟨z, hz1, hz2⟩ := hde.zero (P := P) (w := w)
  obtain ⟨cells, hcl⟩ : ∃ cells : Array Value, cells = (vs.flatMap fun v => v.cells.toList).toArray := ⟨_, rfl⟩
  have hrow : (Instr.buildSlice t xs.length (parts.map fun (i, x) => (i, a.eval x))).run P w = .ok (.slice (some ⟨w.heap.size, 0, none⟩) xs.length xs.length) (w.alloc (.cells cells e)) := by
    have hb' : ¬ xs.length * de.size > 2 ^ 24 := by omega
    have hfill : ∀ c0 : Array Value, xs.length * de.size = c0.size → Instr.fill (fun i => some (i * de.size, de.size)) c0 (parts.map fun (i, x) => (i, a.eval x)).toList = some cells := fun c0 hc0 => by
      rw [hpz, Great.fill_whole hsz vs c0 hcells (by rw [hvl]; exact hc0), hcl]
    unfold Instr.buildSlice
    rw [Sem.run_bind, run_underlying (hd.slice hk), Result.andThen_ok]
    simp only [Sem.run_bind, hde.size, Result.andThen_ok, if_neg hb']
    by_cases h0 : xs.length * de.size = 0
    · simp only [if_pos h0, Sem.run_bind, Sem.run_pure, Result.andThen_ok]
      rw [hfill]
      · rfl
      · simp
    · simp only [if_neg h0, Sem.run_bind, hz1, Result.andThen_ok, Sem.run_pure]
      rw [hfill]
      · rfl
      · simp
  have hcl2 : cells.toList.length = xs.length * de.size := by
    rw [hcl]
    have : ∀ l : List Value, (∀ v ∈ l, v.cells.size = de.size) → (l.flatMap fun v => v.cells.toList).length = l.length * de.size := fun l => by
      induction l with
      | nil => intro _; simp
      | cons v l ih =>
        intro h
        rw [List.flatMap_cons, List.length_append, ih fun u hu => h u (List.mem_cons_of_mem _ hu), Array.length_toList, h v (List.mem_cons_self ..), List.length_cons, Nat.succ_mul, Nat.add_comm]
    simpa [hvl] using this vs hcells
  have hcore := hs'.core
  have hgr : Grow w (w.alloc (.cells cells e)) := grow_alloc _ _
  refine relAt_ok (w' := w.alloc (.cells cells e)) (v := .slice (some ⟨w.heap.size, 0, none⟩) xs.length xs.length) ?_ ⟨ψ.set id xs.length (.slice (some ⟨w.heap.size, 0, none⟩) xs.length xs.length), S, ?_, ?_, alloc_fr _ hcore.fr, ext_new hid _ _, fun _ h => List.mem_cons_of_mem _ h, fun _ h => h, Same.of_grow hgr⟩
  · have hrow' := hrow
    simp only [execOp, ho, Sem.run_bind]
    rw [show (parts.map fun (i, x) => (i, a.eval x)) = parts.map (fun x => (x.1, a.eval x.2)) from rfl] at hrow'
    simp [hrow']
  · refine hcore.add hgr hid (fun b hb => by simp [blkOf] at hb; omega) ⟨set_len _ _, hsz, cells.toList, ?_, fun x hx => p2 x hx, fun i x j v y hx hv hy => ?_⟩
    · rw [set_val]
      refine ⟨hcl2, .inr ⟨w.heap.size, xs.length, cells, rfl, Nat.zero_le _, heap_alloc_new w _, Nat.le_refl _, ?_, by simpa using hcl2, ?_⟩⟩
      · have : xs.length * 1 ≤ xs.length * de.size := Nat.mul_le_mul_left _ hsz
        unfold maxLen
        omega
      · rw [← hcl2, List.take_length]
    · obtain ⟨u, p, h1, _, _, h4⟩ := helt i x hx
      have hj : j < de.size := by
        have := (List.getElem?_eq_some_iff.1 hy).1
        rw [(p2 x (List.mem_of_getElem? hx)).1] at this
        exact this
      have hfl := Great.flat_get hsz vs hcells (i * de.size + j)
      rw [show (i * de.size + j) / de.size = i by rw [Nat.mul_comm, Nat.mul_add_div hsz, Nat.div_eq_of_lt hj]; omega, show (i * de.size + j) % de.size = j by rw [Nat.mul_comm, Nat.mul_add_mod, Nat.mod_eq_of_lt hj], h1] at hfl
      simp only [Option.bind_some] at hfl
      rw [hcl] at hv
      simp only [] at hv
      rw [hfl] at hv
      have := (h4.cells (p2 x (List.mem_of_getElem? hx)).2).2.1 j v y (by simpa using hv) hy
      exact this.keep (Same.of_grow hgr)
  · exact .row (List.mem_cons_self ..) (by rw [set_len]; exact Nat.le_refl _) rfl fun _ => (set_val _ _).symm
theorem s_litrow {α : Type} {enc : α → FV} {n : Nat} {parts : Array (Nat × Operand)} {e : TypeId} {de : TD} {xs : List α} (hT : TOk P T) (ho : o.op = .buildSlice t n parts) (hd : lookT T t = some d) (hk : d.kind = .slice e) (hde : lookT T e = some de) (hz : Nat.ble 1 de.size = true) (hn : xs.length = n) (hb : Nat.ble (n * de.size) 16777216 = true)
    (hp : partsF de.size 0 (evalParts st parts) = some (xs.map enc)) (hid : st.ids.contains id = false) : StepA P o st (.row id xs.length) ((id, .frow e de.size (xs.map enc)) :: st.heap) (id :: st.ids) := by
  have := e_litrow (id := id) ho (hT.get hd) hk (hT.get hde) (Nat.le_of_ble_eq_true hz) (by simpa using hn) (Nat.le_of_ble_eq_true hb) hp hid
  rw [← hn] at this
  exact this
end
end Go.Proofs.Ytaeicmnimjfbaaa
