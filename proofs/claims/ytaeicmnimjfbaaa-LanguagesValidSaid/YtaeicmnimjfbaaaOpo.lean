/- Rows that are made at once: 'make', elements read and written. -/
import Derived.Test.YtaeicmnimjfbaaaOpn
import Derived.Laws.OwnMore
set_option linter.unusedVariables false
set_option linter.unusedSimpArgs false
namespace Go.Proofs.Ytaeicmnimjfbaaa
open Go Go.RowKit

/-- a row of so many zeros, if there is room -/
def mkL {α : Type} (bytes : Nat) (z : α) (n : Int) : Option (List α) := if 0 ≤ n ∧ (bytes : Int) * n ≤ 281474976710656 ∧ n ≤ 9223372036854775807 then some (List.replicate n.toNat z) else none
theorem mkL_some {α : Type} {bytes : Nat} {z : α} {n : Int} {xs : List α} (h : mkL bytes z n = some xs) : xs = List.replicate n.toNat z ∧ 0 ≤ n ∧ (bytes : Int) * n ≤ 281474976710656 ∧ n ≤ 9223372036854775807 := by
  unfold mkL at h
  split at h
  · rename_i hc; injection h with h; exact ⟨h.symm, hc⟩
  · cases h

section
variable {P : Program} {F S0 : Nat → Prop} {N0 : Nat} {w w' : World} {S S' : Nat → Prop} {ψ : Env} {K : Nat → Prop} {T : List (TypeId × TD)} {o : Oper} {a : Act} {st : St} {t : TypeId} {d : TD} {id : Nat}

theorem s_make {α : Type} {enc : α → FV} {bytes : Nat} {z : α} {n : Int} {xs : List α} {X Y : Operand} {e : TypeId} {de : TD} {k k' : IntKind} {zv : Value} (h : mkL bytes z n = some xs) (ho : o.op = .makeSlice t X Y) (hT : TOk P T) (hd : lookT T t = some d) (hk : d.kind = .slice e) (hde : lookT T e = some de)
    (hz1 : de.size = 1) (hz2 : de.zero = [zv]) (hze : enc z = .atom zv) (hzo : zv.oneCell' = true) (hby : de.bytes = bytes) (hx : st.eval X = .fz (.atom (.int k n))) (hy : st.eval Y = .fz (.atom (.int k' n))) (hid : st.ids.contains id = false) :
    StepA P o st (.row id xs.length) ((id, .frow e 1 (xs.map enc)) :: st.heap) (id :: st.ids) := by
  have hid : id ∉ st.ids := by simpa using hid
  obtain ⟨rfl, h0, hb, h63⟩ := mkL_some h
  have hd := hT.get hd
  have hde := hT.get hde
  subst hby
  intro F S0 N0 ψ S a w hs'
  have hxa := hs'.eval X
  rw [hx] at hxa
  have hxa := hxa.atom
  have hya := hs'.eval Y
  rw [hy] at hya
  have hya := hya.atom
  obtain ⟨⟨i, z', hi, hsz, hbs, hz, hzc⟩, _⟩ := hde
  have hcore := hs'.core
  have hcl : z'.cells = #[zv] := by
    apply Array.ext'
    rw [hzc, hz2]
  have hr := run_make (P := P) w t e i z' (hd.slice hk) hi hz k k' n n h0 (Int.le_refl _) (by rw [hbs]; exact hb) h63
  rw [hsz, hz1, hcl, Nat.mul_one] at hr
  have hgr : Grow w (w.alloc (.cells (madeCells #[zv] n.toNat) e)) := grow_alloc _ _
  have hlen : (List.replicate n.toNat z).length = n.toNat := List.length_replicate
  rw [hlen]
  refine relAt_ok (w' := w.alloc (.cells (madeCells #[zv] n.toNat) e)) (v := .slice (some ⟨w.heap.size, 0, none⟩) n.toNat n.toNat) ?_ ⟨ψ.set id n.toNat (.slice (some ⟨w.heap.size, 0, none⟩) n.toNat n.toNat), S, ?_, ?_, alloc_fr _ hcore.fr, ext_new hid _ _, fun _ h => List.mem_cons_of_mem _ h, fun _ h => h, Same.of_grow hgr⟩
  · simp [execOp, ho, hxa, hya, hr]
  · refine hcore.add hgr hid (fun b hb => by simp [blkOf] at hb; omega) ⟨by rw [set_len]; simp, by omega, (madeCells #[zv] n.toNat).toList, ?_, fun x hx => ?_, fun i x j v y hx hv hy => ?_⟩
    · rw [set_val]
      have := World.ownsRow_lit (base := 0) (size := 1) (e := e) w (madeCells #[zv] n.toNat) n.toNat (Nat.zero_le _) (by unfold maxLen; omega) (by rw [size_madeCells, Nat.mul_one])
      simpa using this
    · simp only [List.map_replicate, List.mem_replicate] at hx
      rw [hx.2, hze]
      refine ⟨rfl, fun y hy => ?_⟩
      simp [FV.cells] at hy
      subst hy
      exact hzo
    · have hx' := List.mem_of_getElem? hx
      simp only [List.map_replicate, List.mem_replicate] at hx'
      rw [hx'.2, hze] at hy
      rw [toList_madeCells_one] at hv
      have hv' := List.mem_of_getElem? hv
      rw [List.mem_replicate] at hv'
      rw [hv'.2]
      have hy' := List.mem_of_getElem? hy
      simp [FV.cells] at hy'
      subst hy'
      exact .atom hzo
  · exact .row (List.mem_cons_self ..) (by rw [set_len]; exact Nat.le_refl _) rfl fun _ => by rw [set_val]
theorem owns_some {v : Value} {e : TypeId} {n : Nat} {cs : List Value} (h : w.ownsRow 0 e 1 v n cs) (hn : 0 < n) : ∃ g cap cur, v = .slice (some ⟨g, 0, none⟩) n cap ∧ w.heap[g]? = some (.cells cur e (0, 0)) ∧ n ≤ cap ∧ cap ≤ maxLen ∧ cur.size = cap ∧ cur.toList.take n = cs := by
  rcases h.2 with ⟨_, h0⟩ | ⟨g, cap, cur, hv, _, hg, h1, h2, h3, h4⟩
  · omega
  · exact ⟨g, cap, cur, hv, hg, h1, h2, by simpa using h3, by simpa using h4⟩
/-- the address of an element of a row -/
theorem n_rowAddr {α : Type} {enc : α → FV} {xs : List α} {x : α} {i : Int} {X Y : Operand} {e : TypeId} {de : TD} {k : IntKind} {n : Nat} (h : idx xs i = some x) (hT : TOk P T) (ho : o.op = .indexAddr t X Y) (hd : lookT T t = some d) (hk : d.kind = .slice e) (hde : lookT T e = some de) (hz : de.size = 1)
    (hx : st.eval X = .row id n) (hob : lookO st.heap id = some (.frow e 1 (xs.map enc))) (hn : n = xs.length) (hy : st.eval Y = .fz (.atom (.int k i))) : NStep P o st (.ref id n i.toNat) := by
  intro ψ S a w ht hO
  subst hn
  have hd := hT.get hd
  have hde := hT.get hde
  unfold idx at h
  split at h
  · rename_i h0
    have hlt : i.toNat < xs.length := (List.getElem?_eq_some_iff.1 h).1
    have hxa := Sim.eval_tmps ht X
    rw [hx] at hxa
    have hya := Sim.eval_tmps ht Y
    rw [hy] at hya
    have hya := hya.atom
    obtain ⟨hl, _, cs, hown, _, _⟩ := hO id _ hob
    rw [List.length_map] at hl hown
    obtain ⟨g, cap, cur, hval, hg, _⟩ := owns_some hown (by omega)
    have hK : id ∈ st.ids ∧ a.eval X = ψ.val id := by
      generalize a.eval X = u at hxa
      cases hxa with
      | row hK hn' h1 hv => exact ⟨hK, hv hl.symm⟩
    refine relAt_ok (w' := w) (v := .pointer (some ⟨g, i.toNat, none⟩)) ?_ ⟨grow_refl _, .ref hK.1 (by omega) rfl fun _ => ⟨g, by rw [hval]; rfl, rfl⟩⟩
    have hlt' : i < (xs.length : Int) := by omega
    simp [execOp, ho, hK.2, hval, hya, Instr.indexAt, asIntOf, run_underlying (hd.slice hk), h0, hlt', hde.size, hz, addr_add]
  · cases h
/-- an element of a row is read -/
theorem n_rowLoad {α : Type} {enc : α → FV} {xs : List α} {x : α} {i : Int} {X : Operand} {n : Nat} (h : idx xs i = some x) (hT : TOk P T) (ho : o.op = .load t X) (hd : lookT T t = some d) (hk : d.kind.agg = false) (hx : st.eval X = .ref id n i.toNat) (hob : lookO st.heap id = some (.frow t 1 (xs.map enc))) (hn : n = xs.length) (hce : ∀ y, (enc y).cells = [enc y]) : NStep P o st (.fz (enc x)) := by
  intro ψ S a w ht hO
  subst hn
  have hd := hT.get hd
  unfold idx at h
  split at h
  · rename_i h0
    have hlt : i.toNat < xs.length := (List.getElem?_eq_some_iff.1 h).1
    have hxa := Sim.eval_tmps ht X
    rw [hx] at hxa
    obtain ⟨hl, _, cs, hown, _, hr⟩ := hO id _ hob
    rw [List.length_map] at hl hown
    obtain ⟨g, cap, cur, hval, hg, hc1, hc2, hc3, hc4⟩ := owns_some hown (by omega)
    have hp : a.eval X = .pointer (some ⟨g, i.toNat, none⟩) := by
      generalize a.eval X = u at hxa
      cases hxa with
      | ref hK hn' h1 hv =>
        obtain ⟨b, hb, rfl⟩ := hv hl.symm
        rw [hval] at hb
        simp only [blkOf, Option.some.injEq] at hb
        rw [hb]
    have hci : cs[i.toNat]? = some (cs[i.toNat]'(by rw [hown.1]; omega)) := List.getElem?_eq_getElem _
    have hcell : w.cell? ⟨g, i.toNat, none⟩ = some (cs[i.toNat]'(by rw [hown.1]; omega)) := by
      rw [hval] at hown
      rw [World.ownsRow.cellAt hown i.toNat (by omega), hci]
    refine relAt_ok (w' := w) (v := cs[i.toNat]'(by rw [hown.1]; omega)) ?_ ⟨grow_refl _, .fz ((hr i.toNat (enc x) 0 _ (enc x) (by rw [List.getElem?_map, h]; rfl) (by simp) (by rw [hce]; rfl)).mono fun _ h => .inl h)⟩
    simp [execOp, ho, hp, Instr.loadAt, Instr.sureAddr, loadVar, hd.isAgg, hk, hcell]
  · cases h
/-- an element of a row is written -/
theorem e_rowStore {α : Type} {enc : α → FV} {xs : List α} {x y : α} {i : Int} {X Y : Operand} {n : Nat} (h : idx xs i = some x) (hT : TOk P T) (ho : o.op = .store t X Y) (hd : lookT T t = some d) (hz : d.size = 1) (hx : st.eval X = .ref id n i.toNat) (hob : lookO st.heap id = some (.frow t 1 (xs.map enc))) (hn : n = xs.length) (hy : st.eval Y = .fz (enc y))
    (hat : ∀ y, ∃ u, enc y = .atom u ∧ u.oneCell' = true) : StepA P o st .any ((id, .frow t 1 ((xs.set i.toNat y).map enc)) :: st.heap) st.ids := by
  subst hn
  intro F S0 N0 ψ S a w hs'
  have hd := hT.get hd
  unfold idx at h
  split at h
  · rename_i h0
    have hlt : i.toNat < xs.length := (List.getElem?_eq_some_iff.1 h).1
    have hcore := hs'.core
    obtain ⟨hid, ⟨hl, hsz0, cs, hown, hel, hr⟩, hfr⟩ := hcore.obj id _ hob
    rw [List.length_map] at hl hown
    have hcl : cs.length = xs.length := by rw [hown.1, Nat.mul_one]
    obtain ⟨g, cap, cur, hval, hg, hc1, hc2, hc3, hc4⟩ := owns_some hown (by omega)
    have hxa := hs'.eval X
    rw [hx] at hxa
    have hp : a.eval X = .pointer (some ⟨g, i.toNat, none⟩) := by
      generalize a.eval X = u at hxa
      cases hxa with
      | ref hK hn' h1 hv =>
        obtain ⟨b, hb, rfl⟩ := hv hl.symm
        rw [hval] at hb
        simp only [blkOf, Option.some.injEq] at hb
        rw [hb]
    obtain ⟨u, hu, huo⟩ := hat y
    have hya := hs'.eval Y
    rw [hy, hu] at hya
    have hya := hya.atom
    have huc : u.cells = #[u] := by cases u <;> first | rfl | cases huo
    have hst := run_storeCells_at (P := P) g i.toNat t [u] 0 cur w hg (by simp; omega) (fun v hv => by simp at hv; rw [hv]; exact huo)
    obtain ⟨new, hnew⟩ : ∃ new : Array Value, new = (cur.toList.take (i.toNat + 0) ++ [u] ++ cur.toList.drop (i.toNat + 0 + [u].length)).toArray := ⟨_, rfl⟩
    rw [← hnew] at hst
    have hnl : new.toList = cur.toList.set i.toNat u := by
      rw [hnew, List.set_eq_take_append_cons_drop, if_pos (by simp; omega)]
      simp
    have hns : new.size = cap := by rw [← Array.length_toList, hnl, List.length_set, Array.length_toList, hc3]
    have hoth : ∀ k, k < w.heap.size → blkOf (ψ.val id) ≠ some k → (w.setRow g new).heap[k]? = w.heap[k]? := fun k _ hk => setRow_oth g new k fun e => hk (by rw [hval, e]; rfl)
    have hsz : (w.setRow g new).heap.size = w.heap.size := by simp [World.setRow]
    have hset : ψ.set id xs.length (ψ.val id) = ψ := by
      unfold Env.set
      congr 1
      · funext j; split
        · rename_i hj; rw [hj, hl]
        · rfl
      · funext j; split
        · rename_i hj; rw [hj]
        · rfl
    have hk : Same S w (w.setRow g new) := fun k hk hl => hoth k hl fun e => (hfr k e).1 hk
    obtain ⟨c1, c2, c3⟩ := hcore.upd (n := xs.length) (v := ψ.val id) (w' := w.setRow g new) (ob' := .frow t 1 ((xs.set i.toNat y).map enc)) hob (by omega) hoth (.inr ⟨hl, rfl⟩) (fun b hb => .inl hb) (by
      rw [hset]
      refine ⟨by simp [hl], hsz0, cs.set i.toNat u, ?_, fun z hz' => ?_, fun k z j v q hz' hv hq => ?_⟩
      · rw [List.length_map, List.length_set, hval]
        refine ⟨by rw [List.length_set, hcl, Nat.mul_one], .inr ⟨g, cap, new, rfl, Nat.zero_le _, setRow_same g hg, hc1, hc2, by rw [hns, Nat.mul_one], ?_⟩⟩
        rw [Nat.mul_one, hnl, List.take_set, hc4]
      · obtain ⟨z0, _, rfl⟩ := List.mem_map.1 hz'
        obtain ⟨u0, h1, h2⟩ := hat z0
        rw [h1]
        exact ⟨rfl, fun q hq => by simp [FV.cells] at hq; subst hq; exact h2⟩
      · obtain ⟨z0, hz0, rfl⟩ : ∃ z0, (xs.set i.toNat y)[k]? = some z0 ∧ enc z0 = z := by rw [List.getElem?_map, Option.map_eq_some_iff] at hz'; exact hz'
        obtain ⟨u0, h1, h2⟩ := hat z0
        have hj : j = 0 := by
          rw [h1] at hq
          have := (List.getElem?_eq_some_iff.1 hq).1
          simp [FV.cells] at this
          exact this
        subst hj
        have hq' : q = enc z0 := by rw [h1] at hq ⊢; simp [FV.cells] at hq; exact hq.symm
        subst hq'
        simp only [Nat.mul_one, Nat.add_zero] at hv
        by_cases hik : i.toNat = k
        · subst hik
          rw [List.getElem?_set_self (by omega)] at hv hz0
          injection hv with hv
          injection hz0 with hz0
          subst hv hz0
          rw [hu]
          exact .atom huo
        · rw [List.getElem?_set_ne hik] at hv hz0
          exact (hr k (enc z0) 0 v (enc z0) (by rw [List.getElem?_map, hz0]; rfl) (by simpa using hv) (by rw [h1]; rfl)).keep hk)
    rw [hset] at c1
    refine relAt_skip (w' := w.setRow g new) ?_ ⟨ψ, S, c1, .any, ⟨rfl, rfl, rfl, by omega, c3⟩, Ext.refl, fun _ h => h, fun _ h => h, c2⟩
    simp only [execOp, ho, Instr.storeAt, hp, hya, Instr.sureAddr, storeVar, hd.size, Sem.run_bind, Sem.run_pure, Result.andThen_ok]
    rw [if_neg (by rw [huc, hz]; simp)]
    simp [huc, hst]
  · cases h
end
/-! a row's length, written otherwise -/
def rel1 (id n : Nat) : AV → AV
  | .row k m => bif Nat.beq k id then .row k n else .row k m
  | y => y
def relG (id n : Nat) : AV → AV
  | .agg cs => .agg (cs.map (rel1 id n))
  | .fn f cs => .fn f (cs.map (rel1 id n))
  | y => rel1 id n y
def relT (id n : Nat) : AV → AV
  | .tup cs => .tup (cs.map (relG id n))
  | y => relG id n y
def relO (id n : Nat) : AObj → AObj
  | .box e cs => .box e (cs.map (rel1 id n))
  | y => y
def rowsAll (id : Nat) (st : St) : List Nat := st.tmps.flatMap (fun p => rowsT id p.2) ++ st.heap.flatMap (fun p => rowsO id p.2)
def relSt (id n : Nat) (st : St) : St := { dfr := st.dfr, n := st.n, tmps := st.tmps.map (fun p => (p.1, relT id n p.2)), heap := st.heap.map (fun p => (p.1, relO id n p.2)), ids := st.ids }
theorem rel1_eq {id n : Nat} {y : AV} (h : ∀ m ∈ rows1 id y, m = n) : rel1 id n y = y := by
  cases y with
  | row k m =>
    simp only [rel1]
    cases hb : Nat.beq k id with
    | false => rfl
    | true => rw [h m (by simp [rows1, hb])]; rfl
  | _ => rfl
theorem map_same {α : Type} {f : α → α} {l : List α} (h : ∀ x ∈ l, f x = x) : l.map f = l := by
  rw [List.map_congr_left h]; simp
theorem relG_eq {id n : Nat} {y : AV} (h : ∀ m ∈ rowsG id y, m = n) : relG id n y = y := by
  cases y with
  | agg cs => exact congrArg AV.agg (map_same fun x hx => rel1_eq fun m hm => h m (List.mem_flatMap.2 ⟨x, hx, hm⟩))
  | fn f cs => exact congrArg (AV.fn f) (map_same fun x hx => rel1_eq fun m hm => h m (List.mem_flatMap.2 ⟨x, hx, hm⟩))
  | row k m => exact rel1_eq (y := .row k m) h
  | _ => rfl
theorem relT_eq {id n : Nat} {y : AV} (h : ∀ m ∈ rowsT id y, m = n) : relT id n y = y := by
  cases y with
  | tup cs => exact congrArg AV.tup (map_same fun x hx => relG_eq fun m hm => h m (List.mem_flatMap.2 ⟨x, hx, hm⟩))
  | agg cs => exact relG_eq (y := .agg cs) h
  | fn f cs => exact relG_eq (y := .fn f cs) h
  | row k m => exact relG_eq (y := .row k m) h
  | _ => rfl
theorem relO_eq {id n : Nat} {y : AObj} (h : ∀ m ∈ rowsO id y, m = n) : relO id n y = y := by
  cases y with
  | box e cs => exact congrArg (AObj.box e) (map_same fun x hx => rel1_eq fun m hm => h m (List.mem_flatMap.2 ⟨x, hx, hm⟩))
  | _ => rfl
theorem le_relen {st : St} (id : Nat) {k m n : Nat} (h : rowsAll id st = List.replicate k m) (hmn : m = n) : LeSt st (relSt id n st) := by
  have hall : ∀ x ∈ rowsAll id st, x = n := fun x hx => by rw [h] at hx; rw [(List.mem_replicate.1 hx).2, hmn]
  have : relSt id n st = st := by
    unfold relSt
    have h1 : st.tmps.map (fun p => (p.1, relT id n p.2)) = st.tmps := map_same fun p hp => by
      rw [relT_eq fun m hm => hall m (List.mem_append.2 (.inl (List.mem_flatMap.2 ⟨p, hp, hm⟩)))]
    have h2 : st.heap.map (fun p => (p.1, relO id n p.2)) = st.heap := map_same fun p hp => by
      rw [relO_eq fun m hm => hall m (List.mem_append.2 (.inr (List.mem_flatMap.2 ⟨p, hp, hm⟩)))]
    rw [h1, h2]
  rw [this]
  exact LeSt.refl
end Go.Proofs.Ytaeicmnimjfbaaa
