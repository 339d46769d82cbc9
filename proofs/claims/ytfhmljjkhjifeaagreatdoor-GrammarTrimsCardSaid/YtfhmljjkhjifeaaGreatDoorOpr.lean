/- Windows of an own row; copies into an own row. -/
import Derived.Test.YtfhmljjkhjifeaaGreatDoorOpo
import Derived.Laws.CopyRow
import Derived.Laws.IdiomCopy
set_option linter.unusedVariables false
set_option linter.unusedSimpArgs false
namespace Go.Proofs.YtfhmljjkhjifeaaGreatDoor
open Go Go.RowKit

section
variable {P : Program} {F S0 : Nat → Prop} {N0 : Nat} {w w' : World} {S S' : Nat → Prop} {ψ : Env} {K : Nat → Prop} {T : List (TypeId × TD)} {o : Oper} {a : Act} {st : St} {t : TypeId} {d : TD} {id : Nat}
end
end Go.Proofs.YtfhmljjkhjifeaaGreatDoor
/- Rows of rows of the call's own: made, read, written, given up as data; data that is lent for one call; other numbers for objects. -/
set_option linter.unusedVariables false
set_option linter.unusedSimpArgs false
namespace Go.Proofs.YtfhmljjkhjifeaaGreatDoor
open Go Go.RowKit

/-- a row of rows as data -/
def tabF (rows : List (List Value)) : FV := .lst 1 rows.length (rows.map fun r => .lst 1 r.length (r.map .atom))
/-- data without memory -/
def atomF : FV → Bool
  | .atom _ => true
  | .tup vs => vs.all fun x => match x with
    | .atom _ => true
    | _ => false
  | _ => false

section
variable {P : Program} {F S0 : Nat → Prop} {N0 : Nat} {w w' : World} {S S' : Nat → Prop} {ψ ψ' : Env} {K : Nat → Prop} {T : List (TypeId × TD)} {o : Oper} {a : Act} {st : St} {t : TypeId} {d : TD} {id : Nat} {ids : List Nat} {heap : List (Nat × AObj)}

end
end Go.Proofs.YtfhmljjkhjifeaaGreatDoor
/- Rows of rows of the call's own: written, given up as data; data that is lent for one call; other numbers for objects. -/
set_option linter.unusedVariables false
set_option linter.unusedSimpArgs false
namespace Go.Proofs.YtfhmljjkhjifeaaGreatDoor
open Go Go.RowKit

section
variable {P : Program} {F S0 : Nat → Prop} {N0 : Nat} {w w' : World} {S S' : Nat → Prop} {ψ ψ' : Env} {K : Nat → Prop} {T : List (TypeId × TD)} {o : Oper} {a : Act} {st : St} {t : TypeId} {d : TD} {id : Nat} {ids : List Nat} {heap : List (Nat × AObj)}

end
end Go.Proofs.YtfhmljjkhjifeaaGreatDoor
/- Rows of rows given up as data; data that is lent for one call; other numbers for objects; make with room; what a map has, and whether. -/
set_option linter.unusedVariables false
set_option linter.unusedSimpArgs false
namespace Go.Proofs.YtfhmljjkhjifeaaGreatDoor
open Go Go.RowKit

section
variable {P : Program} {F S0 : Nat → Prop} {N0 : Nat} {w w' : World} {S S' : Nat → Prop} {ψ ψ' : Env} {K : Nat → Prop} {T : List (TypeId × TD)} {o : Oper} {a : Act} {st : St} {t : TypeId} {d : TD} {id : Nat} {ids : List Nat} {heap : List (Nat × AObj)}

theorem atoms_el (r : List Value) (h : ∀ u ∈ r, u.oneCell' = true) : ElR 1 (r.map .atom) := fun x hx => by
  obtain ⟨u, hu, rfl⟩ := List.mem_map.1 hx
  exact ⟨rfl, fun y hy => by simp [FV.cells] at hy; subst hy; exact h u hu⟩
theorem atoms_row (r : List Value) (h : ∀ u ∈ r, u.oneCell' = true) : RowR S w 1 (r.map .atom) r := fun i x j v y hx hv hy => by
  rw [List.getElem?_map, Option.map_eq_some_iff] at hx
  obtain ⟨u, hu, rfl⟩ := hx
  have hj : j = 0 := by
    have := (List.getElem?_eq_some_iff.1 hy).1
    simp [FV.cells] at this
    exact this
  subst hj
  simp [FV.cells] at hy
  subst hy
  rw [Nat.mul_one, Nat.add_zero, hu] at hv
  cases hv
  exact .atom (h _ (List.mem_of_getElem? hu))
theorem tab_data {g : Nat} {ov : Value} {eo ei : TypeId} {rows : List (List Value)} (h : ObR ψ K S w id (.tab g ov eo ei rows)) : RF (fun b => S b ∨ Blk (ψ.val id) b) w ov (tabF rows) := by
  obtain ⟨hg, vs, hval, hvl, hown, hin, hdis⟩ := h
  have hB : ∀ u b, u ∈ ov :: vs → blkOf u = some b → Blk (ψ.val id) b := fun u b hu hb => by
    rw [hval]; exact .inr ⟨u, by simpa [inTup] using hu, hb⟩
  have hlen : rows.length = (rows.map fun r : List Value => FV.lst 1 r.length (r.map .atom)).length := by simp
  have hinner : ∀ (j : Nat) (v : Value) (r : List Value), vs[j]? = some v → rows[j]? = some r → RF (fun b => S b ∨ Blk (ψ.val id) b) w v (.lst 1 r.length (r.map .atom)) := fun j v r hv hr => by
    obtain ⟨k1, k2⟩ := hin j v r hv hr
    have := own_lst (S := S) (xs := r.map .atom) (by omega) (by simpa using k1) (atoms_el r k2) (atoms_row r k2)
    rw [List.length_map] at this
    exact this.mono fun b hb => hb.imp _root_.id fun h => hB v b (List.mem_cons_of_mem _ (List.mem_of_getElem? hv)) h
  have hel : ElR 1 (rows.map fun r : List Value => FV.lst 1 r.length (r.map .atom)) := fun x hx => by
    obtain ⟨r, hr, rfl⟩ := List.mem_map.1 hx
    exact ⟨rfl, fun y hy => by simp [FV.cells] at hy; subst hy; rfl⟩
  have := own_lst (S := fun b => S b ∨ Blk (ψ.val id) b) (xs := rows.map fun r : List Value => FV.lst 1 r.length (r.map .atom)) (by omega) (by rw [← hlen]; exact hown) hel (fun i x j v y hx hv hy => by
    rw [List.getElem?_map, Option.map_eq_some_iff] at hx
    obtain ⟨r, hr, rfl⟩ := hx
    have hj : j = 0 := by
      have := (List.getElem?_eq_some_iff.1 hy).1
      simp [FV.cells] at this
      exact this
    subst hj
    simp [FV.cells] at hy
    subst hy
    rw [Nat.mul_one, Nat.add_zero] at hv
    exact hinner i v r hv hr)
  rw [← hlen] at this
  exact this.mono fun b hb => hb.elim _root_.id fun h => .inr (hB ov b (List.mem_cons_self ..) h)
/-- data that is lent for one call: slot, what it holds -/
inductive LendI where
  | row (t id n : Nat) (e : TypeId) (size : Nat) (xs : List FV)
  | tab (t id g : Nat) (ov : Value) (eo ei : TypeId) (rows : List (List Value)) (x : FV)
  | inn (t id g : Nat) (ov : Value) (eo ei : TypeId) (rows : List (List Value)) (i : Nat) (x : FV)
def LendI.ok (st : St) : LendI → Prop
  | .row t id n e size xs => st.get t = .row id n ∧ lookO st.heap id = some (.frow e size xs) ∧ n = xs.length
  | .tab t id g ov eo ei rows x => st.get t = .fz (.atom ov) ∧ lookO st.heap id = some (.tab g ov eo ei rows) ∧ x = tabF rows
  | .inn t id g ov eo ei rows i x => st.get t = .irow id g (i + 1) ∧ lookO st.heap id = some (.tab g ov eo ei rows) ∧ ∃ r, rows[i]? = some r ∧ x = .lst 1 r.length (r.map .atom)
def LendI.slot : LendI → Nat × AV
  | .row t _ n _ size xs => (t, .fz (.lst size n xs))
  | .tab t _ _ _ _ _ _ x => (t, .fz x)
  | .inn t _ _ _ _ _ _ _ x => (t, .fz x)
def lendS (ls : List LendI) (st : St) : St := { st with tmps := ls.map LendI.slot ++ st.tmps }
theorem row_data {e : TypeId} {size : Nat} {xs : List FV} (h : ObR ψ K S w id (.frow e size xs)) : RF (fun b => S b ∨ Blk (ψ.val id) b) w (ψ.val id) (.lst size xs.length xs) := by
  obtain ⟨h0, hsz, cs, hown, hel, hr⟩ := h
  exact (own_lst hsz hown hel hr).mono fun b hb => hb.imp _root_.id .of
theorem lend_get {SB : Nat → Prop} : ∀ (ls : List LendI), (∀ l ∈ ls, l.ok st) → (∀ t, RV ψ (· ∈ st.ids) S w (a.tmps.getD t undef) (st.get t)) → (∀ id ob, lookO st.heap id = some ob → ObR ψ (· ∈ st.ids) S w id ob) → (∀ id ob, lookO st.heap id = some ob → ∀ b, (S b ∨ Blk (ψ.val id) b) → SB b) → (∀ b, S b → SB b) →
    ∀ t, RV ψ (· ∈ st.ids) SB w (a.tmps.getD t undef) (look .any (ls.map LendI.slot ++ st.tmps) t)
  | [], _, ht, _, _, hS, t => (ht t).mono (fun _ h => h) hS
  | l :: ls, hl, ht, hO, hsub, hS, t => by
    have hl1 := hl l (List.mem_cons_self ..)
    have hl2 := lend_get ls (fun k hk => hl k (List.mem_cons_of_mem _ hk)) ht hO hsub hS t
    cases l with
    | row t' id n e size xs =>
      obtain ⟨q1, q2, rfl⟩ := hl1
      show RV ψ (· ∈ st.ids) SB w _ (look .any ((t', AV.fz (.lst size xs.length xs)) :: (ls.map LendI.slot ++ st.tmps)) t)
      rw [look_cons]
      split
      · rename_i he
        subst he
        have hv := ht t'
        rw [q1] at hv
        have hob := hO id _ q2
        refine .fz ?_
        generalize a.tmps.getD t' undef = u at hv
        cases hv with
        | row hK hn' h1 hv =>
          rw [hv hob.1.symm]
          exact (row_data hob).mono (hsub id _ q2)
      · exact hl2
    | tab t' id g ov eo ei rows x =>
      obtain ⟨q1, q2, rfl⟩ := hl1
      show RV ψ (· ∈ st.ids) SB w _ (look .any ((t', AV.fz (tabF rows)) :: (ls.map LendI.slot ++ st.tmps)) t)
      rw [look_cons]
      split
      · rename_i he
        subst he
        have hv := ht t'
        rw [q1] at hv
        rw [hv.atom]
        exact .fz ((tab_data (hO id _ q2)).mono (hsub id _ q2))
      · exact hl2
    | inn t' id g ov eo ei rows i x =>
      obtain ⟨q1, q2, r, q3, rfl⟩ := hl1
      show RV ψ (· ∈ st.ids) SB w _ (look .any ((t', AV.fz (.lst 1 r.length (r.map .atom))) :: (ls.map LendI.slot ++ st.tmps)) t)
      rw [look_cons]
      split
      · rename_i he
        subst he
        have hv := ht t'
        rw [q1] at hv
        obtain ⟨hg, vs, hval, hvl, hown, hin, hdis⟩ := hO id _ q2
        have hlt : i < vs.length := by rw [hvl]; exact (List.getElem?_eq_some_iff.1 q3).1
        obtain ⟨k1, k2⟩ := hin i vs[i] r (List.getElem?_eq_getElem hlt) q3
        refine .fz ?_
        have hd := own_lst (S := S) (xs := r.map .atom) (by omega) (by simpa using k1) (atoms_el r k2) (atoms_row r k2)
        rw [List.length_map] at hd
        have hd := hd.mono fun b hb => hsub id _ q2 b (hb.imp _root_.id fun hb => by rw [hval]; exact .inr ⟨vs[i], by simp only [inTup]; exact List.mem_cons_of_mem _ (List.getElem_mem hlt), hb⟩)
        generalize a.tmps.getD t' undef = u at hv
        cases hv with
        | irow hK hn' h1 hv =>
          have := hv hg.symm
          rw [hval] at this
          simp only [inTup, List.getElem?_cons_succ] at this
          rw [List.getElem?_eq_getElem hlt] at this
          cases this
          exact hd
      · exact hl2
theorem n_lend (ls : List LendI) {c : FV} (hl : ∀ l ∈ ls, l.ok st) (hn : NStep P o (lendS ls st) (.fz c)) (hc : atomF c = true) : NStep P o st (.fz c) := by
  intro ψ S a w ht hO
  let SB : Nat → Prop := fun b => S b ∨ ∃ id ob, lookO st.heap id = some ob ∧ Blk (ψ.val id) b
  have hsub : ∀ id ob, lookO st.heap id = some ob → ∀ b, (S b ∨ Blk (ψ.val id) b) → SB b := fun id ob h b hb => hb.imp _root_.id fun hb => ⟨id, ob, h, hb⟩
  refine relAt_mono ?_ (hn ψ SB a w (fun t => ?_) fun id ob ho => ?_)
  · rintro v w' ⟨hg, hv⟩
    refine ⟨hg, .fz ?_⟩
    have hv := hv.inv
    cases c with
    | atom u => cases hv with | atom h => exact .atom h
    | tup vs =>
      cases hv with
      | tup h hr =>
        refine .tup h fun i v x hv hx => ?_
        have hx' := List.all_eq_true.1 hc x (List.mem_of_getElem? hx)
        have := hr i v x hv hx
        cases x with
        | atom u => cases this with | atom h => exact .atom h
        | _ => cases hx'
    | _ => cases hc
  · exact lend_get ls hl (fun t => ht t) hO hsub (fun b h => .inl h) t
  · exact (hO id ob ho).keep Ext.refl (fun _ h => h) (fun b hb => .inl hb) (fun _ _ _ => rfl) ⟨rfl, rfl⟩ fun _ _ => rfl

theorem lend_row {t id n : Nat} {e : TypeId} {size : Nat} {xs : List FV} (h1 : st.get t = .row id n) (h2 : lookO st.heap id = some (.frow e size xs)) (h3 : n = xs.length) : LendI.ok st (.row t id n e size xs) := ⟨h1, h2, h3⟩
theorem lend_nil : ∀ l ∈ ([] : List LendI), l.ok st := fun l h => by cases h
theorem lend_cons {l : LendI} {ls : List LendI} (h : l.ok st) (hs : ∀ k ∈ ls, k.ok st) : ∀ k ∈ l :: ls, k.ok st := fun k hk => by
  rcases List.mem_cons.1 hk with rfl | hk
  · exact h
  · exact hs k hk
end
end Go.Proofs.YtfhmljjkhjifeaaGreatDoor
