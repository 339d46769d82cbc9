/- More operations: structs held against each other, conversions, literals and texts as rows of the call's own. -/
import Derived.Test.YtpcfkflhnkfjjaaHd
import Derived.Laws.StructEq
import Derived.Laws.BytesString
import Derived.Lib.ConvBytes
import Derived.Deep.AppendSrc
import Derived.Lib.Builder
import Derived.Lib.AppendStr
import Derived.Lib.UnsafeStr
set_option linter.unusedVariables false
set_option linter.unusedSimpArgs false
namespace Go.Proofs.Ytpcfkflhnkfjjaa
open Go Go.RowKit

section
variable {P : Program} {F S0 : Nat → Prop} {N0 : Nat} {w w' : World} {S S' : Nat → Prop} {ψ : Env} {K : Nat → Prop} {T : List (TypeId × TD)} {o : Oper} {a : Act} {st : St} {t : TypeId} {d : TD} {id : Nat}

theorem s_conv {sr : TypeId} {x : Operand} {k k' : IntKind} {n : Int} {ds : TD} (hT : TOk P T) (ho : o.op = .convert sr t x) (hs : lookT T sr = some ds) (hd : lookT T t = some d) (hk : d.kind = .int k) (hx : st.eval x = .fz (.atom (.int k' n))) : NStep P o st (.fz (.atom (.int k (k.wrap n)))) := by
  obtain ⟨_, e, h1, _⟩ := hT.get hs
  obtain ⟨_, e', h2, h3⟩ := hT.get hd
  rw [hk] at h3
  cases e' <;> simp only [kindOk] at h3
  subst h3
  exact n_conv (ds := ds) ho ⟨_, h1⟩ h2 hx
theorem s_convS {sr : TypeId} {x : Operand} {s : ByteArray} {ds : TD} (hT : TOk P T) (ho : o.op = .convert sr t x) (hs : lookT T sr = some ds) (hks : ds.kind = .str) (hd : lookT T t = some d) (hk : d.kind = .str) (hx : st.eval x = .fz (.atom (.string s))) : NStep P o st (.fz (.atom (.string s))) := by
  intro ψ S a w ht hO
  have h1 := Sim.eval_tmps ht x
  rw [hx] at h1
  refine relAt_ok (w' := w) (v := .string s) ?_ ⟨grow_refl _, .fz (.atom rfl)⟩
  simp [execOp, ho, h1.atom, convert, run_underlying ((hT.get hs).str hks), run_underlying ((hT.get hd).str hk)]
/-- a literal as a row of the call's own -/
theorem e_litrow {n : Nat} {parts : Array (Nat × Operand)} {e : TypeId} {de : TD} {xs : List FV} (ho : o.op = .buildSlice t n parts) (hd : TdOk P t d) (hk : d.kind = .slice e) (hde : TdOk P e de) (hsz : 0 < de.size) (hn : xs.length = n) (hb : n * de.size ≤ 16777216)
    (hp : partsF de.size 0 (evalParts st parts) = some xs) (hid : st.ids.contains id = false) : StepA P o st (.row id n) ((id, .frow e de.size xs) :: st.heap) (id :: st.ids) := by
  have hid : id ∉ st.ids := by simpa using hid
  subst hn
  intro F S0 N0 ψ S a w hs'
  have ht := hs'.tmps
  obtain ⟨e1, e2⟩ := evalParts_ok ht parts
  obtain ⟨p1, p2⟩ := partsF_ok hp
  obtain ⟨vs, hvs⟩ : ∃ vs : List Value, vs = parts.toList.map (fun p => a.eval p.2) := ⟨_, rfl⟩
  have hlen : parts.toList.length = xs.length := by
    have : (evalParts st parts).length = xs.length := by rw [p1]; simp
    simpa [evalParts] using this
  have hvl : vs.length = xs.length := by rw [hvs]; simp at hlen ⊢; exact hlen
  have helt : ∀ (i : Nat) (x : FV), xs[i]? = some x → ∃ v p, vs[i]? = some v ∧ parts.toList[i]? = some p ∧ p.1 = i ∧ RF S w v x := fun i x hx => by
    have hi : i < parts.toList.length := by rw [hlen]; exact (List.getElem?_eq_some_iff.1 hx).1
    have hq : (evalParts st parts)[i]? = some (i, .fz x) := by rw [p1]; simp [hx]
    have hpi : parts.toList[i]? = some parts.toList[i] := List.getElem?_eq_getElem hi
    have hp' : (parts.map fun (i, x) => (i, a.eval x)).toList[i]? = some (parts.toList[i].1, a.eval parts.toList[i].2) := by simp [hpi]
    obtain ⟨r1, r2⟩ := e2 i _ _ hp' hq
    exact ⟨a.eval parts.toList[i].2, parts.toList[i], by rw [hvs, List.getElem?_map, hpi]; rfl, hpi, r1, r2.inv⟩
  have hpz : (parts.map fun (i, x) => (i, a.eval x)).toList = (vs.zipIdx 0).map (fun x => (x.2, x.1)) := by
    apply List.ext_getElem?
    intro i
    by_cases hi : i < xs.length
    · obtain ⟨v, p, h1, h2, h3, _⟩ := helt i xs[i] (List.getElem?_eq_getElem hi)
      have : v = a.eval p.2 := by rw [hvs, List.getElem?_map, h2] at h1; simpa using h1.symm
      simp only [Array.toList_map, List.getElem?_map, List.getElem?_zipIdx, h1, h2, Option.map_some, Nat.zero_add]
      rw [this, h3]
    · rw [List.getElem?_eq_none (by simp at hlen ⊢; omega), List.getElem?_eq_none (by simp [hvl]; omega)]
  have hcells : ∀ v ∈ vs, v.cells.size = de.size := fun v hv => by
    obtain ⟨i, hi, rfl⟩ := List.mem_iff_getElem.1 hv
    obtain ⟨v, p, h1, _, _, h4⟩ := helt i xs[i] (List.getElem?_eq_getElem (by omega))
    rw [List.getElem?_eq_getElem hi] at h1
    injection h1 with h1
    rw [h1, (h4.cells (p2 _ (List.getElem_mem _)).2).1, (p2 _ (List.getElem_mem _)).1]
  obtain ⟨z, hz1, hz2⟩ := hde.zero (P := P) (w := w)
  obtain ⟨cells, hcl⟩ : ∃ cells : Array Value, cells = (vs.flatMap fun v => v.cells.toList).toArray := ⟨_, rfl⟩
  have hrow : (Instr.buildSlice t xs.length (parts.map fun (i, x) => (i, a.eval x))).run P w = .ok (.slice (some ⟨w.heap.size, 0, none⟩) xs.length xs.length) (w.alloc (.cells cells e)) := by
    have hb' : ¬ xs.length * de.size > 2 ^ 24 := by omega
    have hfill : ∀ c0 : Array Value, xs.length * de.size = c0.size → Instr.fill (fun i => some (i * de.size, de.size)) c0 (parts.map fun (i, x) => (i, a.eval x)).toList = some cells := fun c0 hc0 => by
      rw [hpz, Great.fill_whole hsz vs c0 hcells (by rw [hvl]; exact hc0), hcl]
    unfold Instr.buildSlice
    rw [Sem.run_bind, run_underlying (hd.slice hk), Result.andThen_ok]
    simp only [Sem.run_bind, hde.size, Result.andThen_ok, if_neg hb']
    by_cases h0 : xs.length * de.size = 0
    · simp only [if_pos h0, Sem.run_bind, Sem.run_pure, Result.andThen_ok]
      rw [hfill]
      · rfl
      · simp
    · simp only [if_neg h0, Sem.run_bind, hz1, Result.andThen_ok, Sem.run_pure]
      rw [hfill]
      · rfl
      · simp
  have hcl2 : cells.toList.length = xs.length * de.size := by
    rw [hcl]
    have : ∀ l : List Value, (∀ v ∈ l, v.cells.size = de.size) → (l.flatMap fun v => v.cells.toList).length = l.length * de.size := fun l => by
      induction l with
      | nil => intro _; simp
      | cons v l ih =>
        intro h
        rw [List.flatMap_cons, List.length_append, ih fun u hu => h u (List.mem_cons_of_mem _ hu), Array.length_toList, h v (List.mem_cons_self ..), List.length_cons, Nat.succ_mul, Nat.add_comm]
    simpa [hvl] using this vs hcells
  have hcore := hs'.core
  have hgr : Grow w (w.alloc (.cells cells e)) := grow_alloc _ _
  refine relAt_ok (w' := w.alloc (.cells cells e)) (v := .slice (some ⟨w.heap.size, 0, none⟩) xs.length xs.length) ?_ ⟨ψ.set id xs.length (.slice (some ⟨w.heap.size, 0, none⟩) xs.length xs.length), S, ?_, ?_, alloc_fr _ hcore.fr, ext_new hid _ _, fun _ h => List.mem_cons_of_mem _ h, fun _ h => h, Same.of_grow hgr⟩
  · have hrow' := hrow
    simp only [execOp, ho, Sem.run_bind]
    rw [show (parts.map fun (i, x) => (i, a.eval x)) = parts.map (fun x => (x.1, a.eval x.2)) from rfl] at hrow'
    simp [hrow']
  · refine hcore.add hgr hid (fun b hb => by simp [blkOf] at hb; omega) ⟨set_len _ _, hsz, cells.toList, ?_, fun x hx => p2 x hx, fun i x j v y hx hv hy => ?_⟩
    · rw [set_val]
      refine ⟨hcl2, .inr ⟨w.heap.size, xs.length, cells, rfl, Nat.zero_le _, heap_alloc_new w _, Nat.le_refl _, ?_, by simpa using hcl2, ?_⟩⟩
      · have : xs.length * 1 ≤ xs.length * de.size := Nat.mul_le_mul_left _ hsz
        unfold maxLen
        omega
      · rw [← hcl2, List.take_length]
    · obtain ⟨u, p, h1, _, _, h4⟩ := helt i x hx
      have hj : j < de.size := by
        have := (List.getElem?_eq_some_iff.1 hy).1
        rw [(p2 x (List.mem_of_getElem? hx)).1] at this
        exact this
      have hfl := Great.flat_get hsz vs hcells (i * de.size + j)
      rw [show (i * de.size + j) / de.size = i by rw [Nat.mul_comm, Nat.mul_add_div hsz, Nat.div_eq_of_lt hj]; omega, show (i * de.size + j) % de.size = j by rw [Nat.mul_comm, Nat.mul_add_mod, Nat.mod_eq_of_lt hj], h1] at hfl
      simp only [Option.bind_some] at hfl
      rw [hcl] at hv
      simp only [] at hv
      rw [hfl] at hv
      have := (h4.cells (p2 x (List.mem_of_getElem? hx)).2).2.1 j v y (by simpa using hv) hy
      exact this.keep (Same.of_grow hgr)
  · exact .row (List.mem_cons_self ..) (by rw [set_len]; exact Nat.le_refl _) rfl fun _ => (set_val _ _).symm
theorem s_litrow {α : Type} {enc : α → FV} {n : Nat} {parts : Array (Nat × Operand)} {e : TypeId} {de : TD} {xs : List α} (hT : TOk P T) (ho : o.op = .buildSlice t n parts) (hd : lookT T t = some d) (hk : d.kind = .slice e) (hde : lookT T e = some de) (hz : Nat.ble 1 de.size = true) (hn : xs.length = n) (hb : Nat.ble (n * de.size) 16777216 = true)
    (hp : partsF de.size 0 (evalParts st parts) = some (xs.map enc)) (hid : st.ids.contains id = false) : StepA P o st (.row id xs.length) ((id, .frow e de.size (xs.map enc)) :: st.heap) (id :: st.ids) := by
  have := e_litrow (id := id) ho (hT.get hd) hk (hT.get hde) (Nat.le_of_ble_eq_true hz) (by simpa using hn) (Nat.le_of_ble_eq_true hb) hp hid
  rw [← hn] at this
  exact this
end
end Go.Proofs.Ytpcfkflhnkfjjaa
/- Builders: addresses held against each other, texts appended to a row of bytes, the text of a row of bytes. -/
set_option linter.unusedVariables false
set_option linter.unusedSimpArgs false
namespace Go.Proofs.Ytpcfkflhnkfjjaa
open Go Go.RowKit

section
variable {P : Program} {F S0 : Nat → Prop} {N0 : Nat} {w w' : World} {S S' : Nat → Prop} {ψ : Env} {K : Nat → Prop} {T : List (TypeId × TD)} {o : Oper} {a : Act} {st : St} {t : TypeId} {d : TD} {id : Nat}

theorem n_len_row {x : Operand} {e e2 : TypeId} {size n : Nat} {xs : List FV} (hT : TOk P T) (ho : o.op = .call { callee := .builtin .len, args := #[x], argTypes := #[t] }) (hd : lookT T t = some d) (hk : d.kind = .slice e2) (hx : st.eval x = .row id n) (hob : lookO st.heap id = some (.frow e size xs)) (hn0 : n = xs.length) :
    NStep P o st (.fz (.atom (.int .i64 n))) := by
  intro ψ S a w htm hO
  have h0 := Sim.eval_tmps htm x
  rw [hx] at h0
  obtain ⟨k0, hsz, cs, hown, _⟩ := hO id _ hob
  have hv : ∃ A cap, a.eval x = .slice A n cap := by
    generalize a.eval x = u at h0
    cases h0 with
    | row hK hn h1 hv =>
      obtain rfl := hv (by rw [k0, hn0])
      rcases hown.2 with ⟨hval, hn0'⟩ | ⟨g, cap, cur, hval, _⟩
      · exact ⟨none, 0, by rw [hval, hn0, hn0']⟩
      · exact ⟨some ⟨g, 0, none⟩, cap, by rw [hval, hn0]⟩
  obtain ⟨A, cap, hv⟩ := hv
  refine relAt_ok (w' := w) (v := .int .i64 n) ?_ ⟨grow_refl _, .fz (.atom rfl)⟩
  simp [execOp, ho, resolve, invoke, builtin, Builtin.len_, run_underlying ((hT.get hd).slice hk), hv, goInt]
/-- the cells of a list that is only read -/
theorem lst_cells {s : Value} {size m : Nat} {zs : List FV} (hs : RF S w s (.lst size m zs)) : ∃ A cap news, s = .slice A m cap ∧ m = zs.length ∧ m ≤ cap ∧ cap ≤ 9223372036854775807 ∧ news.length = zs.length * size ∧ (∀ u ∈ news, u.oneCell' = true) ∧ RowR S w size zs news ∧ ElR size zs ∧
    ((A = none ∧ zs = []) ∨ (zs = [] ∧ ∃ ad, A = some ad) ∨ ∃ ad, A = some ad ∧ ∀ j u, news[j]? = some u → w.cell? (ad.add j) = some u) := by
  obtain ⟨A, cap, css, rfl, rfl, hc, hm, hz, ha, hl, hr⟩ := hs.lst_inv
  have hel : ElR size zs := fun x hx => by
    obtain ⟨i, hi, rfl⟩ := List.mem_iff_getElem.1 hx
    exact (hl i _ (List.getElem?_eq_getElem hi)).2
  by_cases hz0 : zs = []
  · subst hz0
    refine ⟨A, cap, [], rfl, rfl, hc, hm, by simp, (fun u h => by cases h), (fun i x j v y h => by simp at h), hel, ?_⟩
    cases A with
    | none => exact .inl ⟨rfl, rfl⟩
    | some ad => exact .inr (.inl ⟨rfl, ad, rfl⟩)
  · obtain ⟨y0, ys, rfl⟩ : ∃ y0 ys, zs = y0 :: ys := by
      cases zs with
      | nil => exact absurd rfl hz0
      | cons y ys => exact ⟨y, ys, rfl⟩
    obtain ⟨b, off, rfl, _, _⟩ := ha 0 y0 rfl
    obtain ⟨news, hn, hat, hq⟩ := flat_of (b := b) (w := w) (size := size) (Q := fun c y => (∀ j v z, c[j]? = some v → y.cells[j]? = some z → RF S w v z) ∧ (∀ u ∈ c, u.oneCell' = true)) (y0 :: ys) off fun i y hy => by
      obtain ⟨b', o', hA, _, hat⟩ := ha i y hy
      injection hA with hA
      injection hA with e1 e2
      subst e1 e2
      obtain ⟨l1, l2, l3⟩ := hl i y hy
      refine ⟨css i, hat, l1, fun j v z hv hz => hr i y j v z hy hv hz, fun u hu => ?_⟩
      obtain ⟨j, hj, rfl⟩ := List.mem_iff_getElem.1 hu
      have hj' : j < y.cells.length := by omega
      exact (hr i y j _ _ hy (List.getElem?_eq_getElem hj) (List.getElem?_eq_getElem hj')).one (l3 _ (List.getElem_mem hj'))
    refine ⟨some ⟨b, off, none⟩, cap, news, rfl, rfl, hc, hm, hn, fun u hu => ?_, fun i x j v y hx hv hy => ?_, hel, .inr (.inr ⟨_, rfl, fun j u h => by rw [addr_add]; exact hat j u h⟩)⟩
    · obtain ⟨j, hj, rfl⟩ := List.mem_iff_getElem.1 hu
      have hjy : j / size < (y0 :: ys).length := by rw [Nat.div_lt_iff_lt_mul hz]; omega
      refine (hq (j / size) _ (List.getElem?_eq_getElem hjy)).2 _ ?_
      rw [List.mem_iff_getElem?]
      refine ⟨j % size, ?_⟩
      rw [List.getElem?_take, if_pos (Nat.mod_lt _ hz), List.getElem?_drop, show j / size * size + j % size = j by rw [Nat.mul_comm]; exact Nat.div_add_mod j size]
      exact List.getElem?_eq_getElem hj
    · have hj : j < size := by
        have := (List.getElem?_eq_some_iff.1 hy).1
        rw [(hel x (List.mem_of_getElem? hx)).1] at this
        exact this
      refine (hq i x hx).1 j v y ?_ hy
      rw [List.getElem?_take, if_pos hj, List.getElem?_drop]
      exact hv
end
def fI (x : Int) : AV := .fz (eI x)
def fB (x : Bool) : AV := .fz (eB x)
def fS (x : ByteArray) : AV := .fz (eS x)
end Go.Proofs.Ytpcfkflhnkfjjaa
