/- Rows that grow: append, make; states that say less. -/
import Derived.Test.YtaeicmnimjfbaaaOpw
set_option linter.unusedVariables false
set_option linter.unusedSimpArgs false
namespace Go.Proofs.Ytaeicmnimjfbaaa
open Go Go.RowKit

section
variable {P : Program} {F S0 : Nat → Prop} {N0 : Nat} {w w' : World} {S S' : Nat → Prop} {ψ : Env} {K : Nat → Prop} {T : List (TypeId × TD)} {o : Oper} {a : Act} {st : St} {t : TypeId} {d : TD} {heap : List (Nat × AObj)} {ids : List Nat} {id : Nat}

/-- the cells of a row stand for its elements -/
def RowR (S : Nat → Prop) (w : World) (size : Nat) (xs : List FV) (cs : List Value) : Prop :=
  ∀ (i : Nat) (x : FV) (j : Nat) (v : Value) (y : FV), xs[i]? = some x → cs[i * size + j]? = some v → x.cells[j]? = some y → RF S w v y
def ElR (size : Nat) (xs : List FV) : Prop := ∀ x ∈ xs, x.cells.length = size ∧ ∀ y ∈ x.cells, y.single = true

theorem RowR.append {size : Nat} {xs ys : List FV} {cs news : List Value} (hs : 0 < size) (h : RowR S w size xs cs) (k : RowR S w size ys news) (hl : cs.length = xs.length * size) (hx : ElR size xs) : RowR S w size (xs ++ ys) (cs ++ news) := by
  intro i x j v y hi hv hy
  by_cases hlt : i < xs.length
  · rw [List.getElem?_append_left hlt] at hi
    have hj : j < size := by
      have := (List.getElem?_eq_some_iff.1 hy).1
      rw [(hx x (List.mem_of_getElem? hi)).1] at this
      exact this
    have : (i + 1) * size ≤ xs.length * size := Nat.mul_le_mul_right _ hlt
    rw [Nat.add_mul] at this
    rw [List.getElem?_append_left (by omega)] at hv
    exact h i x j v y hi hv hy
  · rw [List.getElem?_append_right (by omega)] at hi
    have : xs.length * size ≤ i * size := Nat.mul_le_mul_right _ (by omega)
    rw [List.getElem?_append_right (by omega), hl, show i * size + j - xs.length * size = (i - xs.length) * size + j by rw [Nat.sub_mul]; omega] at hv
    exact k _ x j v y hi hv hy
theorem RowR.keep {size : Nat} {xs : List FV} {cs : List Value} (h : RowR S w size xs cs) (hk : Same S w w') : RowR S w' size xs cs := fun i x j v y h1 h2 h3 => (h i x j v y h1 h2 h3).keep hk

/-- append, of what is only read -/
theorem run_app {e : TypeId} {de : TD} {t ty : TypeId} (ht : P.underlying t = some (.slice e)) (hde : TdOk P e de) (hz : 0 < de.size) (hzl : de.zero.length = de.size) {v s : Value} {n m : Nat} {cs : List Value} {zs : List FV} (hown : w.ownsRow 0 e de.size v n cs) (hs : RF S w s (.lst de.size m zs))
    (h63 : n + zs.length ≤ 9223372036854775807) (hbytes : (n + zs.length) * de.bytes ≤ 140737488355328) :
    ∃ v' w' news, (Builtin.append_ #[t, t] ty #[v, s]).run P w = .ok v' w' ∧ w'.ownsRow 0 e de.size v' (n + zs.length) (cs ++ news) ∧ w.grownBy w' v.ownBlock ∧ (v'.ownBlock = v.ownBlock ∨ v'.ownBlock = some w.heap.size) ∧ news.length = zs.length * de.size ∧
      RowR S w de.size zs news ∧ ElR de.size zs ∧ (zs = [] → v' = v) := by
  obtain ⟨A, cap, css, rfl, rfl, hc, hm, _, ha, hl, hr⟩ := hs.lst_inv
  have hel : ElR de.size zs := fun x hx => by
    obtain ⟨i, hi, rfl⟩ := List.mem_iff_getElem.1 hx
    exact (hl i _ (List.getElem?_eq_getElem hi)).2
  obtain ⟨⟨i, z, hi, hsz, hby, hzz, hzc⟩, _⟩ := hde
  have hzs : z.cells.size = de.size := by rw [← Array.length_toList, hzc, hzl]
  by_cases hz0 : zs = []
  · subst hz0
    cases A with
    | none => exact ⟨v, w, [], run_append_of_nil 0 t ty e i de.size ht hi v n cs hown cap, by simpa using hown, World.grownBy.refl w _, .inl rfl, by simp, (fun i x j v y h => by simp at h), hel, fun _ => rfl⟩
    | some ad =>
      obtain ⟨v', w', hrun, h2, h3, h4, h5⟩ := run_append_own_at (P := P) w 0 t ty e i z de.size de.bytes ht hi hzz hsz hby hzs hz v n cs hown ad 0 cap [] (by simp) (fun j u h => by simp at h) (by simp) (by unfold maxLen; simp at h63; omega) (by simpa using hbytes) (by omega)
      have hvv : v' = v := by
        have hn : (Builtin.append_ #[t, t] ty #[v, .slice (some ad) 0 cap]).run P w = .ok v w := by
          rcases hown.2 with ⟨rfl, rfl⟩ | ⟨g, cap', cur, rfl, _, _, hnc, _⟩
          · simp [Builtin.append_, run_underlying ht, sizeOf, typeInfo, hi, Builtin.lenOf, Builtin.firstCells, loadCells, loadCellsFrom]
          · simp [Builtin.append_, run_underlying ht, sizeOf, typeInfo, hi, Builtin.lenOf, Builtin.firstCells, hnc, storeCells, loadCells, loadCellsFrom]
        rw [hn] at hrun
        injection hrun with h1 h2
        exact h1.symm
      exact ⟨v', w', [], hrun, by simpa using h2, h3, h5, by simp, (fun i x j v y h => by simp at h), hel, fun _ => hvv⟩
  · obtain ⟨y0, ys, rfl⟩ : ∃ y0 ys, zs = y0 :: ys := by
      cases zs with
      | nil => exact absurd rfl hz0
      | cons y ys => exact ⟨y, ys, rfl⟩
    obtain ⟨b, off, rfl, _, _⟩ := ha 0 y0 rfl
    obtain ⟨news, hn, hat, hq⟩ := flat_of (b := b) (w := w) (size := de.size) (Q := fun c y => (∀ j v z, c[j]? = some v → y.cells[j]? = some z → RF S w v z) ∧ (∀ u ∈ c, u.oneCell' = true)) (y0 :: ys) off fun i y hy => by
      obtain ⟨b', o', hA, _, hat⟩ := ha i y hy
      injection hA with hA
      injection hA with e1 e2
      subst e1 e2
      obtain ⟨l1, l2, l3⟩ := hl i y hy
      refine ⟨css i, hat, l1, fun j v z hv hz => hr i y j v z hy hv hz, fun u hu => ?_⟩
      obtain ⟨j, hj, rfl⟩ := List.mem_iff_getElem.1 hu
      have hj' : j < y.cells.length := by omega
      exact (hr i y j _ _ hy (List.getElem?_eq_getElem hj) (List.getElem?_eq_getElem hj')).one (l3 _ (List.getElem_mem hj'))
    have h1 : ∀ u ∈ news, u.oneCell' = true := by
      intro u hu
      obtain ⟨j, hj, rfl⟩ := List.mem_iff_getElem.1 hu
      have hjy : j / de.size < (y0 :: ys).length := by rw [Nat.div_lt_iff_lt_mul hz]; omega
      refine (hq (j / de.size) _ (List.getElem?_eq_getElem hjy)).2 _ ?_
      rw [List.mem_iff_getElem?]
      refine ⟨j % de.size, ?_⟩
      rw [List.getElem?_take, if_pos (Nat.mod_lt _ hz), List.getElem?_drop, show j / de.size * de.size + j % de.size = j by rw [Nat.mul_comm]; exact Nat.div_add_mod j de.size]
      exact List.getElem?_eq_getElem hj
    obtain ⟨v', w', hrun, h2, h3, h4, h5⟩ := run_append_own_at (P := P) w 0 t ty e i z de.size de.bytes ht hi hzz hsz hby hzs hz v n cs hown ⟨b, off, none⟩ (y0 :: ys).length cap news hn
      (fun j u h => by rw [addr_add]; exact hat j u h) h1 (by unfold maxLen; omega) hbytes (by omega)
    refine ⟨v', w', news, hrun, h2, h3, h5, hn, fun i x j v y hx hv hy => ?_, hel, fun h => by cases h⟩
    have hj : j < de.size := by
      have := (List.getElem?_eq_some_iff.1 hy).1
      rw [(hel x (List.mem_of_getElem? hx)).1] at this
      exact this
    refine (hq i x hx).1 j v y ?_ hy
    rw [List.getElem?_take, if_pos hj, List.getElem?_drop]
    exact hv

theorem blk_own {v : Value} {e : TypeId} {size n : Nat} {cs : List Value} (h : w.ownsRow 0 e size v n cs) : blkOf v = v.ownBlock := by
  rcases h.2 with ⟨rfl, _⟩ | ⟨g, cap, cur, rfl, _⟩ <;> rfl
theorem own_one {v : Value} {e : TypeId} {size n : Nat} {cs : List Value} (h : w.ownsRow 0 e size v n cs) : v.oneCell' = true := by
  rcases h.2 with ⟨rfl, _⟩ | ⟨g, cap, cur, rfl, _⟩ <;> rfl
/-- append to a row of the call's own -/
theorem e_append {x y : Operand} {e : TypeId} {de : TD} {n m : Nat} {xs zs : List FV} (ho : o.op = .call { callee := .builtin .append, args := #[x, y], argTypes := #[t, t] }) (hd : TdOk P t d) (hk : d.kind = .slice e) (hde : TdOk P e de) (hz : 0 < de.size) (hzl : de.zero.length = de.size)
    (hx : st.eval x = .row id n) (hob : lookO st.heap id = some (.frow e de.size xs)) (hn : n = xs.length) (hy : st.eval y = .fz (.lst de.size m zs) ∨ st.eval y = .lim de.size m zs) (hlen : (xs.length + zs.length) * (de.bytes + 1) ≤ 140737488355328) :
    StepA P o st (.row id (xs ++ zs).length) ((id, .frow e de.size (xs ++ zs)) :: st.heap) st.ids := by
  subst hn
  intro F S0 N0 ψ S a w hs'
  have hcore := hs'.core
  obtain ⟨hid, ⟨h0, hsz, cs, hown, hel, hr⟩, hfr⟩ := hcore.obj id _ hob
  have hv := hs'.eval x
  rw [hx] at hv
  have hvx : a.eval x = ψ.val id := by
    generalize a.eval x = u at hv
    cases hv with
    | row hK hn h1 hv => exact hv h0.symm
  have hvy : RF S w (a.eval y) (.lst de.size m zs) := by
    have hv := hs'.eval y
    rcases hy with hy | hy
    · rw [hy] at hv; exact hv.inv
    · rw [hy] at hv
      generalize a.eval y = u at hv
      cases hv with
      | lim h => exact h
  have hlen' := hlen
  rw [Nat.mul_add, Nat.mul_one] at hlen'
  obtain ⟨v', w', news, hrun, hown', hgrow, hob', hnl, hnr, hnel, hnil⟩ := run_app (ty := o.type) (hd.slice hk) hde hz hzl hown hvy (by omega) (by omega)
  have hlx : (xs ++ zs).length = xs.length + zs.length := List.length_append
  have hx2 : ψ.len id < (xs ++ zs).length ∨ (ψ.len id = (xs ++ zs).length ∧ v' = ψ.val id) := by
    by_cases h0' : zs = []
    · refine .inr ⟨by rw [h0, h0']; simp, hnil h0'⟩
    · have : 0 < zs.length := List.length_pos_iff.2 h0'
      exact .inl (by omega)
  have hoth : ∀ k, k < w.heap.size → blkOf (ψ.val id) ≠ some k → w'.heap[k]? = w.heap[k]? := fun k hk hne => hgrow.block k hk fun e => hne (by rw [blk_own hown, e])
  have hk2 : Same S w w' := fun k hk hl => hoth k hl fun e => (hfr k e).1 hk
  obtain ⟨c1, c2, c3⟩ := hcore.upd (n := (xs ++ zs).length) (v := v') (w' := w') (ob' := .frow e de.size (xs ++ zs)) hob hgrow.size hoth hx2 (fun b hb => by
      rw [blk_own hown'] at hb
      rw [blk_own hown]
      rcases hob' with h | h
      · exact .inl (h ▸ hb)
      · rw [h] at hb; injection hb with hb; exact .inr (by omega))
    ⟨set_len _ _, hsz, cs ++ news, by rw [set_val, hlx]; exact hown', fun z hz => (List.mem_append.1 hz).elim (hel z) (hnel z), (RowR.append hsz (fun i x j v y h1 h2 h3 => hr i x j v y h1 h2 h3) hnr hown.1 hel).keep hk2⟩
  refine relAt_ok (w' := w') (v := v') ?_ ⟨_, S, c1, .row hid (by rw [set_len]; exact Nat.le_refl _) (own_one hown') (fun _ => (set_val _ _).symm), ⟨hgrow.os, hgrow.tape, hgrow.output, hgrow.size, c3⟩, ext_upd hx2, fun _ h => h, fun _ h => h, c2⟩
  simp only [execOp, ho, resolve, invoke, builtin, Sem.run_bind, Sem.run_pure, Result.andThen_ok, List.map_toArray, List.map_cons, List.map_nil, hvx, hrun]

/-- nil is a row of none -/
theorem le_nilrow {e : TypeId} {size t : Nat} (hz : 0 < size) (hx : st.get t = .fz (.atom (.slice none 0 0))) (hid : st.ids.contains id = false) :
    LeSt st { st with tmps := (t, .row id 0) :: st.tmps, heap := (id, .frow e size []) :: st.heap, ids := id :: st.ids } := by
  have hid : id ∉ st.ids := by simpa using hid
  intro F S0 N0 ψ S a w hs
  have hadd := hs.core.add (n := 0) (v := .slice none 0 0) (w' := w) (ob := .frow e size []) (grow_refl _) hid (fun b hb => by cases hb) ⟨set_len _ _, hz, [], by rw [set_val]; exact ⟨by simp, .inl ⟨rfl, rfl⟩⟩, (fun x hx => by cases hx), fun i x j v y h => by simp at h⟩
  refine ⟨ψ.set id 0 (.slice none 0 0), S, hs.defers, hs.size, fun k => ?_, hadd⟩
  simp only [St.get, look_cons]
  split
  · rename_i hk
    subst hk
    have := hs.tmps t
    rw [hx] at this
    rw [this.atom]
    exact .row (List.mem_cons_self ..) (Nat.zero_le _) rfl fun _ => (set_val _ _).symm
  · exact (hs.tmps k).keep (ext_new hid _ _) (fun _ h => List.mem_cons_of_mem _ h) (fun _ h => h) (fun _ _ _ => rfl)
end
end Go.Proofs.Ytaeicmnimjfbaaa
