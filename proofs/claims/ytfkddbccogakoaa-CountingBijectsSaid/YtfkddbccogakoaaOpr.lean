/- Windows of an own row; copies into an own row. -/
import Derived.Test.YtfkddbccogakoaaOpo
import Derived.Laws.CopyRow
import Derived.Laws.IdiomCopy
set_option linter.unusedVariables false
set_option linter.unusedSimpArgs false
namespace Go.Proofs.Ytfkddbccogakoaa
open Go Go.RowKit

section
variable {P : Program} {F S0 : Nat → Prop} {N0 : Nat} {w w' : World} {S S' : Nat → Prop} {ψ : Env} {K : Nat → Prop} {T : List (TypeId × TD)} {o : Oper} {a : Act} {st : St} {t : TypeId} {d : TD} {id : Nat}
end
end Go.Proofs.Ytfkddbccogakoaa
/- Rows of rows of the call's own: made, read, written, given up as data; data that is lent for one call; other numbers for objects. -/
set_option linter.unusedVariables false
set_option linter.unusedSimpArgs false
namespace Go.Proofs.Ytfkddbccogakoaa
open Go Go.RowKit

/-- a row of rows as data -/
def tabF (rows : List (List Value)) : FV := .lst 1 rows.length (rows.map fun r => .lst 1 r.length (r.map .atom))
/-- data without memory -/
def atomF : FV → Bool
  | .atom _ => true
  | .tup vs => vs.all fun x => match x with
    | .atom _ => true
    | _ => false
  | _ => false

section
variable {P : Program} {F S0 : Nat → Prop} {N0 : Nat} {w w' : World} {S S' : Nat → Prop} {ψ ψ' : Env} {K : Nat → Prop} {T : List (TypeId × TD)} {o : Oper} {a : Act} {st : St} {t : TypeId} {d : TD} {id : Nat} {ids : List Nat} {heap : List (Nat × AObj)}

end
end Go.Proofs.Ytfkddbccogakoaa
/- Rows of rows of the call's own: written, given up as data; data that is lent for one call; other numbers for objects. -/
set_option linter.unusedVariables false
set_option linter.unusedSimpArgs false
namespace Go.Proofs.Ytfkddbccogakoaa
open Go Go.RowKit

section
variable {P : Program} {F S0 : Nat → Prop} {N0 : Nat} {w w' : World} {S S' : Nat → Prop} {ψ ψ' : Env} {K : Nat → Prop} {T : List (TypeId × TD)} {o : Oper} {a : Act} {st : St} {t : TypeId} {d : TD} {id : Nat} {ids : List Nat} {heap : List (Nat × AObj)}

end
end Go.Proofs.Ytfkddbccogakoaa
/- Rows of rows given up as data; data that is lent for one call; other numbers for objects; make with room; what a map has, and whether. -/
set_option linter.unusedVariables false
set_option linter.unusedSimpArgs false
namespace Go.Proofs.Ytfkddbccogakoaa
open Go Go.RowKit

section
variable {P : Program} {F S0 : Nat → Prop} {N0 : Nat} {w w' : World} {S S' : Nat → Prop} {ψ ψ' : Env} {K : Nat → Prop} {T : List (TypeId × TD)} {o : Oper} {a : Act} {st : St} {t : TypeId} {d : TD} {id : Nat} {ids : List Nat} {heap : List (Nat × AObj)}

theorem atoms_el (r : List Value) (h : ∀ u ∈ r, u.oneCell' = true) : ElR 1 (r.map .atom) := fun x hx => by
  obtain ⟨u, hu, rfl⟩ := List.mem_map.1 hx
  exact ⟨rfl, fun y hy => by simp [FV.cells] at hy; subst hy; exact h u hu⟩
theorem atoms_row (r : List Value) (h : ∀ u ∈ r, u.oneCell' = true) : RowR S w 1 (r.map .atom) r := fun i x j v y hx hv hy => by
  rw [List.getElem?_map, Option.map_eq_some_iff] at hx
  obtain ⟨u, hu, rfl⟩ := hx
  have hj : j = 0 := by
    have := (List.getElem?_eq_some_iff.1 hy).1
    simp [FV.cells] at this
    exact this
  subst hj
  simp [FV.cells] at hy
  subst hy
  rw [Nat.mul_one, Nat.add_zero, hu] at hv
  cases hv
  exact .atom (h _ (List.mem_of_getElem? hu))
theorem tab_data {g : Nat} {ov : Value} {eo ei : TypeId} {rows : List (List Value)} (h : ObR ψ K S w id (.tab g ov eo ei rows)) : RF (fun b => S b ∨ Blk (ψ.val id) b) w ov (tabF rows) := by
  obtain ⟨hg, vs, hval, hvl, hown, hin, hdis⟩ := h
  have hB : ∀ u b, u ∈ ov :: vs → blkOf u = some b → Blk (ψ.val id) b := fun u b hu hb => by
    rw [hval]; exact .inr ⟨u, by simpa [inTup] using hu, hb⟩
  have hlen : rows.length = (rows.map fun r : List Value => FV.lst 1 r.length (r.map .atom)).length := by simp
  have hinner : ∀ (j : Nat) (v : Value) (r : List Value), vs[j]? = some v → rows[j]? = some r → RF (fun b => S b ∨ Blk (ψ.val id) b) w v (.lst 1 r.length (r.map .atom)) := fun j v r hv hr => by
    obtain ⟨k1, k2⟩ := hin j v r hv hr
    have := own_lst (S := S) (xs := r.map .atom) (by omega) (by simpa using k1) (atoms_el r k2) (atoms_row r k2)
    rw [List.length_map] at this
    exact this.mono fun b hb => hb.imp _root_.id fun h => hB v b (List.mem_cons_of_mem _ (List.mem_of_getElem? hv)) h
  have hel : ElR 1 (rows.map fun r : List Value => FV.lst 1 r.length (r.map .atom)) := fun x hx => by
    obtain ⟨r, hr, rfl⟩ := List.mem_map.1 hx
    exact ⟨rfl, fun y hy => by simp [FV.cells] at hy; subst hy; rfl⟩
  have := own_lst (S := fun b => S b ∨ Blk (ψ.val id) b) (xs := rows.map fun r : List Value => FV.lst 1 r.length (r.map .atom)) (by omega) (by rw [← hlen]; exact hown) hel (fun i x j v y hx hv hy => by
    rw [List.getElem?_map, Option.map_eq_some_iff] at hx
    obtain ⟨r, hr, rfl⟩ := hx
    have hj : j = 0 := by
      have := (List.getElem?_eq_some_iff.1 hy).1
      simp [FV.cells] at this
      exact this
    subst hj
    simp [FV.cells] at hy
    subst hy
    rw [Nat.mul_one, Nat.add_zero] at hv
    exact hinner i v r hv hr)
  rw [← hlen] at this
  exact this.mono fun b hb => hb.elim _root_.id fun h => .inr (hB ov b (List.mem_cons_self ..) h)
/-- data that is lent for one call: slot, what it holds -/
inductive LendI where
  | row (t id n : Nat) (e : TypeId) (size : Nat) (xs : List FV)
  | tab (t id g : Nat) (ov : Value) (eo ei : TypeId) (rows : List (List Value)) (x : FV)
  | inn (t id g : Nat) (ov : Value) (eo ei : TypeId) (rows : List (List Value)) (i : Nat) (x : FV)
def LendI.ok (st : St) : LendI → Prop
  | .row t id n e size xs => st.get t = .row id n ∧ lookO st.heap id = some (.frow e size xs) ∧ n = xs.length
  | .tab t id g ov eo ei rows x => st.get t = .fz (.atom ov) ∧ lookO st.heap id = some (.tab g ov eo ei rows) ∧ x = tabF rows
  | .inn t id g ov eo ei rows i x => st.get t = .irow id g (i + 1) ∧ lookO st.heap id = some (.tab g ov eo ei rows) ∧ ∃ r, rows[i]? = some r ∧ x = .lst 1 r.length (r.map .atom)
def LendI.slot : LendI → Nat × AV
  | .row t _ n _ size xs => (t, .fz (.lst size n xs))
  | .tab t _ _ _ _ _ _ x => (t, .fz x)
  | .inn t _ _ _ _ _ _ _ x => (t, .fz x)
def lendS (ls : List LendI) (st : St) : St := { st with tmps := ls.map LendI.slot ++ st.tmps }
theorem row_data {e : TypeId} {size : Nat} {xs : List FV} (h : ObR ψ K S w id (.frow e size xs)) : RF (fun b => S b ∨ Blk (ψ.val id) b) w (ψ.val id) (.lst size xs.length xs) := by
  obtain ⟨h0, hsz, cs, hown, hel, hr⟩ := h
  exact (own_lst hsz hown hel hr).mono fun b hb => hb.imp _root_.id .of
theorem lend_get {SB : Nat → Prop} : ∀ (ls : List LendI), (∀ l ∈ ls, l.ok st) → (∀ t, RV ψ (· ∈ st.ids) S w (a.tmps.getD t undef) (st.get t)) → (∀ id ob, lookO st.heap id = some ob → ObR ψ (· ∈ st.ids) S w id ob) → (∀ id ob, lookO st.heap id = some ob → ∀ b, (S b ∨ Blk (ψ.val id) b) → SB b) → (∀ b, S b → SB b) →
    ∀ t, RV ψ (· ∈ st.ids) SB w (a.tmps.getD t undef) (look .any (ls.map LendI.slot ++ st.tmps) t)
  | [], _, ht, _, _, hS, t => (ht t).mono (fun _ h => h) hS
  | l :: ls, hl, ht, hO, hsub, hS, t => by
    have hl1 := hl l (List.mem_cons_self ..)
    have hl2 := lend_get ls (fun k hk => hl k (List.mem_cons_of_mem _ hk)) ht hO hsub hS t
    cases l with
    | row t' id n e size xs =>
      obtain ⟨q1, q2, rfl⟩ := hl1
      show RV ψ (· ∈ st.ids) SB w _ (look .any ((t', AV.fz (.lst size xs.length xs)) :: (ls.map LendI.slot ++ st.tmps)) t)
      rw [look_cons]
      split
      · rename_i he
        subst he
        have hv := ht t'
        rw [q1] at hv
        have hob := hO id _ q2
        refine .fz ?_
        generalize a.tmps.getD t' undef = u at hv
        cases hv with
        | row hK hn' h1 hv =>
          rw [hv hob.1.symm]
          exact (row_data hob).mono (hsub id _ q2)
      · exact hl2
    | tab t' id g ov eo ei rows x =>
      obtain ⟨q1, q2, rfl⟩ := hl1
      show RV ψ (· ∈ st.ids) SB w _ (look .any ((t', AV.fz (tabF rows)) :: (ls.map LendI.slot ++ st.tmps)) t)
      rw [look_cons]
      split
      · rename_i he
        subst he
        have hv := ht t'
        rw [q1] at hv
        rw [hv.atom]
        exact .fz ((tab_data (hO id _ q2)).mono (hsub id _ q2))
      · exact hl2
    | inn t' id g ov eo ei rows i x =>
      obtain ⟨q1, q2, r, q3, rfl⟩ := hl1
      show RV ψ (· ∈ st.ids) SB w _ (look .any ((t', AV.fz (.lst 1 r.length (r.map .atom))) :: (ls.map LendI.slot ++ st.tmps)) t)
      rw [look_cons]
      split
      · rename_i he
        subst he
        have hv := ht t'
        rw [q1] at hv
        obtain ⟨hg, vs, hval, hvl, hown, hin, hdis⟩ := hO id _ q2
        have hlt : i < vs.length := by rw [hvl]; exact (List.getElem?_eq_some_iff.1 q3).1
        obtain ⟨k1, k2⟩ := hin i vs[i] r (List.getElem?_eq_getElem hlt) q3
        refine .fz ?_
        have hd := own_lst (S := S) (xs := r.map .atom) (by omega) (by simpa using k1) (atoms_el r k2) (atoms_row r k2)
        rw [List.length_map] at hd
        have hd := hd.mono fun b hb => hsub id _ q2 b (hb.imp _root_.id fun hb => by rw [hval]; exact .inr ⟨vs[i], by simp only [inTup]; exact List.mem_cons_of_mem _ (List.getElem_mem hlt), hb⟩)
        generalize a.tmps.getD t' undef = u at hv
        cases hv with
        | irow hK hn' h1 hv =>
          have := hv hg.symm
          rw [hval] at this
          simp only [inTup, List.getElem?_cons_succ] at this
          rw [List.getElem?_eq_getElem hlt] at this
          cases this
          exact hd
      · exact hl2
theorem n_lend (ls : List LendI) {c : FV} (hl : ∀ l ∈ ls, l.ok st) (hn : NStep P o (lendS ls st) (.fz c)) (hc : atomF c = true) : NStep P o st (.fz c) := by
  intro ψ S a w ht hO
  let SB : Nat → Prop := fun b => S b ∨ ∃ id ob, lookO st.heap id = some ob ∧ Blk (ψ.val id) b
  have hsub : ∀ id ob, lookO st.heap id = some ob → ∀ b, (S b ∨ Blk (ψ.val id) b) → SB b := fun id ob h b hb => hb.imp _root_.id fun hb => ⟨id, ob, h, hb⟩
  refine relAt_mono ?_ (hn ψ SB a w (fun t => ?_) fun id ob ho => ?_)
  · rintro v w' ⟨hg, hv⟩
    refine ⟨hg, .fz ?_⟩
    have hv := hv.inv
    cases c with
    | atom u => cases hv with | atom h => exact .atom h
    | tup vs =>
      cases hv with
      | tup h hr =>
        refine .tup h fun i v x hv hx => ?_
        have hx' := List.all_eq_true.1 hc x (List.mem_of_getElem? hx)
        have := hr i v x hv hx
        cases x with
        | atom u => cases this with | atom h => exact .atom h
        | _ => cases hx'
    | _ => cases hc
  · exact lend_get ls hl (fun t => ht t) hO hsub (fun b h => .inl h) t
  · exact (hO id ob ho).keep Ext.refl (fun _ h => h) (fun b hb => .inl hb) (fun _ _ _ => rfl) ⟨rfl, rfl⟩ fun _ _ => rfl

/-- what a map has, and whether -/
theorem n_lookup2 {α : Type} {enc : α → FV} {m : List (ByteArray × α)} {s : ByteArray} {z : α} {x y : Operand} {kt et : TypeId} {kd : TD} (zv : Value) (ho : o.op = .lookup t x y true) (hT : TOk P T) (hd : lookT T t = some d) (hk : d.kind = .map kt et) (hkd : lookT T kt = some kd) (hks : kd.kind = .str) (inf : TypeInfo) (hi1 : P.info? et = some inf) (hi2 : inf.zero = some zv) (hze : enc z = .atom zv) (hzo : zv.oneCell' = true)
    (hx : st.eval x = .mp id) (hob : lookO st.heap id = some (.smap (m.map fun p => (p.1, enc p.2)))) (hy : st.eval y = .fz (.atom (.string s))) : NStep P o st (.fz (.tup [enc (mget m s z), .atom (.bool (mhas m s))])) := by
  intro ψ S a w ht hO
  have hd := hT.get hd
  have hkd := hT.get hkd
  have hv := Sim.eval_tmps ht x
  rw [hx] at hv
  have hb' := hO id _ hob
  have hpv := mp_val hb' hv
  obtain ⟨h0, b, es, clock, hval, hb, hsz, hr⟩ := hb'
  have hya := Sim.eval_tmps ht y
  rw [hy] at hya
  have hya := hya.atom
  have hz1 : (zeroValue et).run P w = .ok zv w := by simp [zeroValue, typeInfo, hi1, hi2]
  have hck := MapKept.run_checkKey (w := w) (hkd.str hks) (k := .string s) trivial es.isEmpty 9999
  have two : ∀ {v : Value} {x : FV} {ok : Bool}, RF (fun b => S b ∨ w.heap.size ≤ b) w v x → RF (fun b => S b ∨ w.heap.size ≤ b) w (.tuple #[v, .bool ok]) (.tup [x, .atom (.bool ok)]) := fun {v x ok} h => .tup rfl fun i u y hu hy => by
    match i with
    | 0 => simp at hu hy; subst hu hy; exact h
    | 1 => simp at hu hy; subst hu hy; exact .atom rfl
    | i + 2 => simp at hu
  rcases findNow_str s (R := fun v x => RF S w v x) es.toList (m.map fun p => (p.1, enc p.2)) 0 (by simpa using hsz) (fun j e p he hp => hr j e p (by simpa using he) hp) with ⟨f1, f2⟩ | ⟨j, v, x', f1, f2, f3⟩
  · have hf := MapKept.run_findKey (w := w) (hkd.str hks) f1
    have hh : mhas m s = false := by rw [← mhas_map enc]; unfold mhas; rw [f2]; rfl
    refine relAt_ok (w' := w) (v := .tuple #[zv, .bool false]) ?_ ⟨grow_refl _, .fz ?_⟩
    · simp [execOp, ho, hya, hpv, hval, Instr.lookup, run_underlying (hd.mp hk), MapKept.run_getObj_map hb, hck, hf, hz1]
    · rw [hh]
      refine two ?_
      rw [← mget_map enc]
      unfold mget
      rw [f2]
      simp only
      rw [hze]
      exact .atom hzo
  · have hf := MapKept.run_findKey (w := w) (hkd.str hks) f1
    have hh : mhas m s = true := by rw [← mhas_map enc]; unfold mhas; rw [f2]; rfl
    refine relAt_ok (w' := w) (v := .tuple #[v, .bool true]) ?_ ⟨grow_refl _, .fz ?_⟩
    · simp [execOp, ho, hya, hpv, hval, Instr.lookup, run_underlying (hd.mp hk), MapKept.run_getObj_map hb, hck, hf]
    · rw [hh]
      refine two ?_
      rw [← mget_map enc]
      unfold mget
      rw [f2]
      exact f3.mono fun _ h => .inl h

/-- a row of none with room is made -/
def mkC (bytes : Nat) (c : Int) : Option Unit := if 0 ≤ c ∧ (bytes : Int) * c ≤ 281474976710656 ∧ c ≤ 9223372036854775807 then some () else none
theorem mkC_some {bytes : Nat} {c : Int} {u : Unit} (h : mkC bytes c = some u) : 0 ≤ c ∧ (bytes : Int) * c ≤ 281474976710656 ∧ c ≤ 9223372036854775807 := by
  unfold mkC at h
  split at h
  · assumption
  · cases h
theorem s_makeC {bytes : Nat} {c : Int} {u : Unit} {X Y : Operand} {e : TypeId} {de : TD} {k k' : IntKind} (h : mkC bytes c = some u) (ho : o.op = .makeSlice t X Y) (hT : TOk P T) (hd : lookT T t = some d) (hk : d.kind = .slice e) (hde : lookT T e = some de)
    (hz1 : de.size = 1) (hby : de.bytes = bytes) (hx : st.eval X = .fz (.atom (.int k 0))) (hy : st.eval Y = .fz (.atom (.int k' c))) (hid : st.ids.contains id = false) :
    StepA P o st (.row id 0) ((id, .frow e 1 []) :: st.heap) (id :: st.ids) := by
  have hid : id ∉ st.ids := by simpa using hid
  obtain ⟨h0, hb, h63⟩ := mkC_some h
  have hd := hT.get hd
  have hde := hT.get hde
  subst hby
  intro F S0 N0 ψ S a w hs'
  have hxa := hs'.eval X
  rw [hx] at hxa
  have hxa := hxa.atom
  have hya := hs'.eval Y
  rw [hy] at hya
  have hya := hya.atom
  obtain ⟨⟨i, z', hi, hsz, hbs, hz', hzc'⟩, _⟩ := hde
  have hcore := hs'.core
  have hr := run_make (P := P) w t e i z' (hd.slice hk) hi hz' k k' 0 c (Int.le_refl _) h0 (by rw [hbs]; exact hb) h63
  rw [hsz, hz1, Nat.mul_one] at hr
  have hgr : Grow w (w.alloc (.cells (madeCells z'.cells c.toNat) e)) := grow_alloc _ _
  refine relAt_ok (w' := w.alloc (.cells (madeCells z'.cells c.toNat) e)) (v := .slice (some ⟨w.heap.size, 0, none⟩) 0 c.toNat) ?_ ⟨ψ.set id 0 (.slice (some ⟨w.heap.size, 0, none⟩) 0 c.toNat), S, ?_, ?_, alloc_fr _ hcore.fr, ext_new hid _ _, fun _ h => List.mem_cons_of_mem _ h, fun _ h => h, Same.of_grow hgr⟩
  · simp [execOp, ho, hxa, hya, hr]
  · refine hcore.add hgr hid (fun b hb => by simp [blkOf] at hb; omega) ⟨by rw [set_len]; simp, by omega, [], ?_, fun x hx => (by cases hx), fun i x j v y hx hv hy => by simp at hx⟩
    rw [set_val]
    refine ⟨by simp, .inr ⟨w.heap.size, c.toNat, madeCells z'.cells c.toNat, rfl, Nat.zero_le _, heap_alloc_new w _, Nat.zero_le _, by unfold maxLen; omega, by rw [size_madeCells, Nat.mul_one], by simp⟩⟩
  · exact .row (List.mem_cons_self ..) (by rw [set_len]; exact Nat.le_refl _) rfl fun _ => by rw [set_val]

theorem lend_row {t id n : Nat} {e : TypeId} {size : Nat} {xs : List FV} (h1 : st.get t = .row id n) (h2 : lookO st.heap id = some (.frow e size xs)) (h3 : n = xs.length) : LendI.ok st (.row t id n e size xs) := ⟨h1, h2, h3⟩
theorem lend_nil : ∀ l ∈ ([] : List LendI), l.ok st := fun l h => by cases h
theorem lend_cons {l : LendI} {ls : List LendI} (h : l.ok st) (hs : ∀ k ∈ ls, k.ok st) : ∀ k ∈ l :: ls, k.ok st := fun k hk => by
  rcases List.mem_cons.1 hk with rfl | hk
  · exact h
  · exact hs k hk
/-- a slice with its room told -/
def cut3 {α : Type} (xs : List α) (l h m : Int) : Option (List α) := if 0 ≤ l ∧ l ≤ h ∧ h ≤ m ∧ m ≤ xs.length then some ((xs.take h.toNat).drop l.toNat) else none
theorem RF.take3 {A : Option Addr} {cap n size : Nat} {xs : List FV} (h : RF S w (.slice A n cap) (.lst size n xs)) (lo hi m : Nat) (h1 : lo ≤ hi) (h2 : hi ≤ n) (h3 : hi ≤ m) (h4 : m ≤ cap) : RF S w (.slice (if m = lo then A else A.map (·.add (lo * size))) (hi - lo) (m - lo)) (.lst size (hi - lo) ((xs.take hi).drop lo)) := by
  obtain ⟨A0, cap0, css, hv, hn, hc, hm, hs, ha, hl, hr⟩ := h.lst_inv
  injection hv with e1 _ e3
  subst e1 e3
  have hlen : (xs.take hi).length = hi := by rw [List.length_take]; omega
  have get : ∀ (i : Nat) (x : FV), ((xs.take hi).drop lo)[i]? = some x → xs[lo + i]? = some x := fun i x hx => by
    rw [List.getElem?_drop, List.getElem?_take] at hx
    split at hx
    · exact hx
    · cases hx
  refine .lst (fun i => css (lo + i)) (by rw [List.length_drop, hlen]) (by omega) (by omega) hs (fun i x hx => ?_) (fun i x hx => hl _ x (get i x hx)) fun i x j v y hx hv hy => hr _ x j v y (get i x hx) hv hy
  obtain ⟨b, o, hA, hS, hat⟩ := ha _ x (get i x hx)
  have hlt := (List.getElem?_eq_some_iff.1 hx).1
  rw [List.length_drop, hlen] at hlt
  refine ⟨b, o + lo * size, ?_, hS, by rw [Nat.add_assoc, ← Nat.add_mul]; exact hat⟩
  rw [if_neg (by omega), hA]
  simp only [Option.map_some, addr_add]
theorem s_cut3 {α : Type} {enc : α → FV} {x y m : Operand} {lo : Option Operand} {l : Option Int} {h k : Int} {xs r : List α} {size : Nat} {e : TypeId} {de : TD} {k1 k2 : IntKind} (hc : cut3 xs (l.getD 0) h k = some r) (hT : TOk P T) (ho : o.op = .slice t x lo (some y) (some m)) (hd : lookT T t = some d) (hk : d.kind = .slice e) (hde : lookT T e = some de) (hsz : de.size = size)
    (hx : st.eval x = .fz (eL size enc xs)) (hl : boundV st lo = some l) (hh : st.eval y = .fz (.atom (.int k1 h))) (hm : st.eval m = .fz (.atom (.int k2 k))) : NStep P o st (.fz (eL size enc r)) := by
  intro ψ S a w ht hO
  have h1 := Sim.eval_tmps ht x
  rw [hx] at h1
  have bl := boundV_ok ht hl
  have hya := Sim.eval_tmps ht y
  rw [hh] at hya
  have hya := hya.atom
  have hma := Sim.eval_tmps ht m
  rw [hm] at hma
  have hma := hma.atom
  unfold cut3 at hc
  split at hc
  · rename_i hb
    injection hc with hc
    subst hc
    have h1 := h1.inv
    obtain ⟨A, cap, css, hv, hn, hcc, hmm, hs, ha, hl', hr⟩ := h1.lst_inv
    rw [hv] at h1
    have hr' := h1.take3 (l.getD 0).toNat h.toNat k.toNat (by omega) (by omega) (by omega) (by omega)
    refine relAt_ok (w' := w) (v := .slice (if k.toNat = (l.getD 0).toNat then A else A.map (·.add ((l.getD 0).toNat * size))) (h.toNat - (l.getD 0).toNat) (k.toNat - (l.getD 0).toNat)) ?_ ⟨grow_refl _, (RV.fz ?_).here⟩
    · have hu := (hT.get hd).slice hk
      have e1 : (Instr.sliceBounds true xs.length cap (lo.map a.eval) ((some y).map a.eval) ((some m).map a.eval)).run P w = .ok ((l.getD 0).toNat, h.toNat, k.toNat) w := by
        unfold Instr.sliceBounds
        have q1 : 0 ≤ k := by omega
        have q2 : k ≤ (cap : Int) := by omega
        have q3 : 0 ≤ h := by omega
        have q4 : h ≤ (k.toNat : Int) := by omega
        rcases bl with ⟨rfl, rfl⟩ | ⟨y', k', n', rfl, rfl, hy'⟩
        · simp [Instr.sliceBound, hya, hma, asIntOf, q1, q2, q3, q4]
          intro hc; exfalso; omega
        · simp only [Option.getD_some] at hb ⊢
          have q5 : n' ≤ (h.toNat : Int) := by omega
          simp [Instr.sliceBound, hya, hma, hy', asIntOf, q1, q2, q3, q4, q5, hb.1]
          rw [if_pos (by omega), if_pos (by omega)]
      have hss : (sizeOf e).run P w = .ok size w := by rw [(hT.get hde).size, hsz]
      simp only [Option.map_some] at e1
      simp [execOp, ho, Instr.sliceAt, Instr.slice, run_underlying hu, hv, e1, hss]
    · have : ((xs.take h.toNat).drop (l.getD 0).toNat).length = h.toNat - (l.getD 0).toNat := by
        rw [List.length_drop, List.length_take]; omega
      unfold eL
      rw [this, List.map_drop, List.map_take]
      exact hr'
  · cases hc
end
end Go.Proofs.Ytfkddbccogakoaa
