/- Operations that put structures and slices together. -/
import Derived.Test.YtaeicmnimjfbaaaOpt
import Derived.Great.FillDense
set_option linter.unusedVariables false
set_option linter.unusedSimpArgs false
namespace Go.Proofs.Ytaeicmnimjfbaaa
open Go Go.RowKit

def spliceA {α : Type} (cells : List α) (off : Nat) (xs : List α) : List α := cells.take off ++ (xs ++ cells.drop (off + xs.length))
def fillA (place : Nat → Option (Nat × Nat)) (cells : List AV) : List (Nat × AV) → Option (List AV)
  | [] => some cells
  | (i, x) :: rest => match place i with
    | none => none
    | some (off, size) => bif Nat.beq x.cells.length size && (Nat.ble (off + size) cells.length && x.cells.all AV.single) then fillA place (spliceA cells off x.cells) rest else none
def zeroA (d : TD) : Option (List AV) := bif d.zero.all (·.oneCell') then some (d.zero.map fun v => .fz (.atom v)) else none

section
variable {P : Program} {w w' : World} {S S' : Nat → Prop} {ψ : Env} {K : Nat → Prop} {T : List (TypeId × TD)} {o : Oper} {a : Act} {st : St} {t : TypeId} {d : TD}

def PW (ψ : Env) (K : Nat → Prop) (S : Nat → Prop) (w : World) (cs : Array Value) (xs : List AV) : Prop :=
  cs.size = xs.length ∧ ∀ (i : Nat) (v : Value) (x : AV), cs[i]? = some v → xs[i]? = some x → RV ψ K S w v x

theorem spliceA_get {α : Type} (cells : List α) (off : Nat) (xs : List α) (h : off + xs.length ≤ cells.length) (k : Nat) : (spliceA cells off xs)[k]? = if off ≤ k ∧ k < off + xs.length then xs[k - off]? else cells[k]? := by
  unfold spliceA
  by_cases h1 : k < off
  · rw [List.getElem?_append_left (by rw [List.length_take]; omega), List.getElem?_take, if_pos h1, if_neg (by omega)]
  · rw [List.getElem?_append_right (by rw [List.length_take]; omega), List.length_take, Nat.min_eq_left (by omega)]
    by_cases h2 : k < off + xs.length
    · rw [List.getElem?_append_left (by omega), if_pos (by omega)]
    · rw [List.getElem?_append_right (by omega), List.getElem?_drop, if_neg (by omega)]
      congr 1; omega
theorem spliceA_length {α : Type} (cells : List α) (off : Nat) (xs : List α) (h : off + xs.length ≤ cells.length) : (spliceA cells off xs).length = cells.length := by
  unfold spliceA
  simp only [List.length_append, List.length_take, List.length_drop]; omega

theorem fill_ok (place : Nat → Option (Nat × Nat)) : ∀ (parts : List (Nat × Value)) (as : List (Nat × AV)) (cells : Array Value) (xs rs : List AV), PW ψ K S w cells xs → (∀ x ∈ xs, x.single = true) → parts.length = as.length →
    (∀ (i : Nat) (p : Nat × Value) (q : Nat × AV), parts[i]? = some p → as[i]? = some q → p.1 = q.1 ∧ RV ψ K S w p.2 q.2) → fillA place xs as = some rs →
    ∃ r, Instr.fill place cells parts = some r ∧ PW ψ K S w r rs ∧ ∀ x ∈ rs, x.single = true
  | [], [], cells, xs, rs, hp, h1, _, _, hf => by
    simp only [fillA, Option.some.injEq] at hf
    subst hf
    exact ⟨cells, rfl, hp, h1⟩
  | (i, v) :: parts, (j, x) :: as, cells, xs, rs, hp, h1, hl, hr, hf => by
    obtain ⟨hij, hx⟩ := hr 0 _ _ rfl rfl
    simp only at hij
    subst hij
    simp only [fillA] at hf
    cases hpl : place i with
    | none => rw [hpl] at hf; cases hf
    | some os =>
      obtain ⟨off, size⟩ := os
      rw [hpl] at hf
      simp only at hf
      cases hc : (Nat.beq x.cells.length size && (Nat.ble (off + size) xs.length && x.cells.all AV.single)) with
      | false => rw [hc] at hf; cases hf
      | true =>
        rw [hc] at hf
        simp only [cond_true] at hf
        simp only [Bool.and_eq_true] at hc
        obtain ⟨hc1, hc2, hc3⟩ := hc
        have hc1 := Nat.eq_of_beq_eq_true hc1
        have hc2 := Nat.le_of_ble_eq_true hc2
        have hs : ∀ y ∈ x.cells, y.single = true := List.all_eq_true.1 hc3
        obtain ⟨e1, e2, e3⟩ := RV.cells hx hs
        simp only at e1 e2 e3
        obtain ⟨g1, g2⟩ := Great.foldl_set off v.cells.toList 0 cells
        have hle : off + x.cells.length ≤ xs.length := by omega
        have hpw : PW ψ K S w ((v.cells.toList.zipIdx 0).foldl (fun cs (x : Value × Nat) => cs.setIfInBounds (off + x.2) x.1) cells) (spliceA xs off x.cells) := by
          refine ⟨by rw [g1, spliceA_length _ _ _ hle]; exact hp.1, fun k u y hu hy => ?_⟩
          rw [g2 k] at hu
          rw [spliceA_get _ _ _ hle] at hy
          simp only [Nat.add_zero, Array.length_toList, e1] at hu
          by_cases hk : off ≤ k ∧ k < off + x.cells.length
          · rw [if_pos ⟨hk.1, hk.2, by rw [hp.1]; omega⟩] at hu
            rw [if_pos hk] at hy
            exact e2 _ u y (by simpa using hu) hy
          · rw [if_neg (fun h => hk ⟨h.1, h.2.1⟩)] at hu
            rw [if_neg hk] at hy
            exact hp.2 k u y hu hy
        have h1' : ∀ y ∈ spliceA xs off x.cells, y.single = true := by
          intro y hy
          unfold spliceA at hy
          simp only [List.mem_append] at hy
          rcases hy with hy | hy | hy
          · exact h1 y (List.mem_of_mem_take hy)
          · exact hs y hy
          · exact h1 y (List.mem_of_mem_drop hy)
        obtain ⟨r, hr1, hr2, hr3⟩ := fill_ok place parts as _ _ rs hpw h1' (by simpa using hl) (fun n p q hp hq => hr (n + 1) p q (by simpa using hp) (by simpa using hq)) hf
        refine ⟨r, ?_, hr2, hr3⟩
        unfold Instr.fill
        rw [hpl]
        simp only
        rw [if_neg (by simp [e1, hc1, hp.1]; omega)]
        rw [← hr1]
        congr 1
        rw [← Array.foldl_toList, Array.toList_zipIdx]

theorem run_mapM {α β : Type} {f : α → Sem β} {g : α → β} (w : World) : ∀ (l : List α), (∀ x ∈ l, (f x).run P w = .ok (g x) w) → (l.mapM f).run P w = .ok (l.map g) w
  | [], _ => by simp
  | x :: l, h => by
    rw [List.mapM_cons]
    have h1 := h x (List.mem_cons_self ..)
    have h2 := run_mapM w l fun y hy => h y (List.mem_cons_of_mem _ hy)
    simp [h1, h2]
theorem zero_ok {z : Value} {xs : List AV} (hz : z.cells.toList = d.zero) (h : zeroA d = some xs) : PW ψ K S w z.cells xs ∧ ∀ x ∈ xs, x.single = true := by
  unfold zeroA at h
  cases hb : d.zero.all (·.oneCell') with
  | false => rw [hb] at h; cases h
  | true =>
    rw [hb] at h
    simp only [cond_true, Option.some.injEq] at h
    subst h
    have hall := List.all_eq_true.1 hb
    refine ⟨⟨by rw [List.length_map, ← hz]; simp, fun i v x hv hx => ?_⟩, fun x hx => ?_⟩
    · simp only [List.getElem?_map, Option.map_eq_some_iff] at hx
      obtain ⟨u, hu, rfl⟩ := hx
      rw [← hz, Array.getElem?_toList, hv] at hu
      injection hu with hu
      subst hu
      exact .fz (.atom (hall v (by rw [← hz]; exact Array.mem_toList_iff.2 (Array.mem_of_getElem? hv))))
    · simp only [List.mem_map] at hx
      obtain ⟨v, hv, rfl⟩ := hx
      exact hall v hv

/-- the places of a structure's fields -/
def placesT (T : List (TypeId × TD)) : List (TypeId × Nat) → Option (List (Nat × Nat))
  | [] => some []
  | (ft, off) :: l => match lookT T ft, placesT T l with
    | some d, some r => some ((off, d.size) :: r)
    | _, _ => none
theorem placesT_ok (hT : TOk P T) : ∀ {fs : List (TypeId × Nat)} {ps : List (Nat × Nat)}, placesT T fs = some ps → ps = fs.map (fun f => (f.2, P.cellsOf f.1)) ∧ ∀ f ∈ fs, ∀ w, (sizeOf f.1).run P w = .ok (P.cellsOf f.1) w
  | [], ps, h => by simp [placesT] at h; subst h; exact ⟨rfl, fun f hf => by cases hf⟩
  | (ft, off) :: l, ps, h => by
    simp only [placesT] at h
    split at h
    · rename_i d r hd hr
      injection h with h
      subst h
      obtain ⟨h1, h2⟩ := placesT_ok hT hr
      have hs : P.cellsOf ft = d.size := by unfold Program.cellsOf; rw [(hT.get hd).info]; rfl
      refine ⟨by simp [h1, hs], fun f hf => ?_⟩
      rcases List.mem_cons.1 hf with rfl | hf
      · intro w; rw [(hT.get hd).size]; simp [hs]
      · exact h2 f hf
    · cases h

def evalParts (st : St) (ps : Array (Nat × Operand)) : List (Nat × AV) := ps.toList.map fun p => (p.1, st.eval p.2)
theorem evalParts_ok {ids : List Nat} (h : ∀ t, RV ψ (· ∈ ids) S w (a.tmps.getD t undef) (st.get t)) (ps : Array (Nat × Operand)) :
    (ps.map fun (i, x) => (i, a.eval x)).toList.length = (evalParts st ps).length ∧ ∀ (i : Nat) (p : Nat × Value) (q : Nat × AV), (ps.map fun (i, x) => (i, a.eval x)).toList[i]? = some p → (evalParts st ps)[i]? = some q → p.1 = q.1 ∧ RV ψ (· ∈ ids) S w p.2 q.2 := by
  refine ⟨by simp [evalParts], fun i p q hp hq => ?_⟩
  unfold evalParts at hq
  simp only [Array.toList_map, List.getElem?_map, Option.map_eq_some_iff] at hp hq
  obtain ⟨x, hx, rfl⟩ := hp
  obtain ⟨y, hy, rfl⟩ := hq
  rw [hx] at hy
  injection hy with hy
  subst hy
  exact ⟨rfl, Sim.eval_tmps h x.2⟩

def buildX (T : List (TypeId × TD)) (st : St) (t : TypeId) (parts : Array (Nat × Operand)) : Option AV := match lookT T t with
  | some d => match d.kind, zeroA d with
    | .st fs, some zs => match placesT T fs with
      | some ps => (fillA (fun i : Nat => ps[i]?) zs (evalParts st parts)).map aggA
      | none => none
    | .arr _ e, some zs => match lookT T e with
      | some de => (fillA (fun i : Nat => some (i * de.size, de.size)) zs (evalParts st parts)).map aggA
      | none => none
    | _, _ => none
  | none => none
theorem n_build {parts : Array (Nat × Operand)} {c : AV} (hT : TOk P T) (ho : o.op = .build t parts) (hc : buildX T st t parts = some c) : NStep P o st c := by
  intro ψ S a w ht hO
  unfold buildX at hc
  split at hc
  · rename_i d hd
    have hd := hT.get hd
    split at hc
    · rename_i fs zs hk hz
      split at hc
      · rename_i ps hps
        simp only [Option.map_eq_some_iff] at hc
        obtain ⟨rs, hrs, rfl⟩ := hc
        obtain ⟨gs, hu, hgs⟩ := hd.strct hk
        obtain ⟨hp1, hp2⟩ := placesT_ok hT hps
        obtain ⟨z, hz1, hz2⟩ := hd.zero (w := w)
        obtain ⟨e1, e2⟩ := evalParts_ok ht parts
        obtain ⟨z1, z2⟩ := zero_ok (ψ := ψ) (K := (· ∈ st.ids)) (S := S) (w := w) hz2 hz
        obtain ⟨r, hr1, hr2, hr3⟩ := fill_ok (fun i : Nat => ps[i]?) _ _ _ _ rs z1 z2 e1 e2 hrs
        refine relAt_ok (w' := w) (v := .agg r) ?_ ⟨grow_refl _, (RV.aggA hr2.1 hr3 hr2.2).here⟩
        have hm : (Array.mapM (fun f : Field => Prod.mk f.offset <$> sizeOf f.type) gs).run P w = .ok ps.toArray w := by
          rw [Array.mapM_eq_mapM_toList]
          have := run_mapM (P := P) (f := fun f : Field => Prod.mk f.offset <$> sizeOf f.type) (g := fun f => (f.offset, P.cellsOf f.type)) w gs.toList fun f hf => by
            have := hp2 (f.type, f.offset) (by rw [← hgs]; exact List.mem_map.2 ⟨f, hf, rfl⟩) w
            simp [this]
          simp only [Sem.run_map, this]
          rw [hp1, ← hgs]
          simp
        have hpl : (fun i : Nat => ps.toArray[i]?) = fun i : Nat => ps[i]? := by funext i; simp
        have hmap : (parts.map fun (i, x) => (i, a.eval x)).toList = List.map (fun x => (x.fst, a.eval x.snd)) parts.toList := by simp
        rw [hmap] at hr1
        simp [execOp, ho, Instr.build, hz1, hu, hm, hpl, hr1]
      · cases hc
    · rename_i n e zs hk hz
      split at hc
      · rename_i de hde
        have hde := hT.get hde
        simp only [Option.map_eq_some_iff] at hc
        obtain ⟨rs, hrs, rfl⟩ := hc
        have hu := run_underlying (hd.arr hk) w
        obtain ⟨z, hz1, hz2⟩ := hd.zero (w := w)
        obtain ⟨e1, e2⟩ := evalParts_ok ht parts
        obtain ⟨z1, z2⟩ := zero_ok (ψ := ψ) (K := (· ∈ st.ids)) (S := S) (w := w) hz2 hz
        obtain ⟨r, hr1, hr2, hr3⟩ := fill_ok (fun i : Nat => some (i * de.size, de.size)) _ _ _ _ rs z1 z2 e1 e2 hrs
        refine relAt_ok (w' := w) (v := .agg r) ?_ ⟨grow_refl _, (RV.aggA hr2.1 hr3 hr2.2).here⟩
        have hmap : (parts.map fun (i, x) => (i, a.eval x)).toList = List.map (fun x => (x.fst, a.eval x.snd)) parts.toList := by simp
        rw [hmap] at hr1
        simp [execOp, ho, Instr.build, hz1, hu, hde.size, hr1]
      · cases hc
    · cases hc
  · cases hc
/-- an element of an array behind an address, by a number that the text gives -/
def arrX (T : List (TypeId × TD)) (st : St) (t : TypeId) (x y : Operand) : Option AV := match lookT T t with
  | some d => match d.kind with
    | .arr n e => match lookT T e, st.eval y with
      | some de, .fz (.atom (.int _ i)) => bif decide (0 ≤ i) && decide (i < n) then fieldX st (i.toNat * de.size) (st.eval x) else none
      | _, _ => none
    | _ => none
  | none => none
theorem n_arr {x y : Operand} {c : AV} (hT : TOk P T) (ho : o.op = .indexAddr t x y) (hc : arrX T st t x y = some c) : NStep P o st c := by
  intro ψ S a w ht hO
  unfold arrX at hc
  split at hc
  · rename_i d hd
    split at hc
    · rename_i n e hk
      split at hc
      · rename_i de k i hde hy
        cases hb : decide (0 ≤ i) && decide (i < (n : Int)) with
        | false => rw [hb] at hc; cases hc
        | true =>
          rw [hb] at hc
          simp only [cond_true] at hc
          simp only [Bool.and_eq_true, decide_eq_true_eq] at hb
          have hd := hT.get hd
          have hde := hT.get hde
          obtain ⟨b, off', hv, hr⟩ := fieldX_ok (Sim.eval_tmps ht x) hO hc
          have hy2 := Sim.eval_tmps ht y
          rw [hy] at hy2
          have hya := hy2.atom
          refine relAt_ok (w' := w) ?_ ⟨grow_refl _, hr.here⟩
          simp [execOp, ho, hv, hya, Instr.indexAt, asIntOf, run_underlying (hd.arr hk), Instr.sureAddr, hb.1, hb.2, hde.size, addr_add]
      · cases hc
    · cases hc
  · cases hc
end
end Go.Proofs.Ytaeicmnimjfbaaa
