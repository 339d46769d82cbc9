/- Windows of an own row; copies into an own row. -/
import Derived.Test.YtpcfkflhnkfjjaaOpo
import Derived.Laws.CopyRow
import Derived.Laws.IdiomCopy
set_option linter.unusedVariables false
set_option linter.unusedSimpArgs false
namespace Go.Proofs.Ytpcfkflhnkfjjaa
open Go Go.RowKit

/-- bounds within a row -/
def winOk (l h n : Int) : Option Unit := if 0 ≤ l ∧ l ≤ h ∧ h ≤ n then some () else none
theorem winOk_some {l h n : Int} {u : Unit} (e : winOk l h n = some u) : 0 ≤ l ∧ l ≤ h ∧ h ≤ n := by
  unfold winOk at e
  split at e
  · assumption
  · cases e
/-- a row after a copy of data, of a window of its own -/
def cpL {α : Type} (xs ys : List α) : List α := xs.take 0 ++ (ys.take (min ys.length xs.length) ++ xs.drop (0 + (ys.take (min ys.length xs.length)).length))
def cpW {α : Type} (xs : List α) (lo hi lo2 hi2 : Nat) : List α := xs.take lo ++ ((xs.drop lo2).take (min (hi2 - lo2) (hi - lo)) ++ xs.drop (lo + ((xs.drop lo2).take (min (hi2 - lo2) (hi - lo))).length))
section
variable {P : Program} {F S0 : Nat → Prop} {N0 : Nat} {w w' : World} {S S' : Nat → Prop} {ψ : Env} {K : Nat → Prop} {T : List (TypeId × TD)} {o : Oper} {a : Act} {st : St} {t : TypeId} {d : TD} {id : Nat}
/-- a window of an own row -/
theorem n_win {α : Type} {enc : α → FV} {xs : List α} {x : Operand} {lo hi : Option Operand} {l h : Option Int} {e : TypeId} {de : TD} {n : Nat} {u : Unit} (hc : winOk (l.getD 0) (h.getD xs.length) xs.length = some u) (hT : TOk P T) (ho : o.op = .slice t x lo hi none) (hd : lookT T t = some d) (hk : d.kind = .slice e) (hde : lookT T e = some de) (hsz : de.size = 1)
    (hx : st.eval x = .row id n) (hob : lookO st.heap id = some (.frow e 1 (xs.map enc))) (hn : n = xs.length) (hl : boundV st lo = some l) (hh : boundV st hi = some h) : NStep P o st (.win id n (l.getD 0).toNat (h.getD xs.length).toNat) := by
  intro ψ S a w ht hO
  subst hn
  have hb := winOk_some hc
  have bl := boundV_ok ht hl
  have bh := boundV_ok ht hh
  have hxa := Sim.eval_tmps ht x
  rw [hx] at hxa
  obtain ⟨hlen, _, cs, hown, _, _⟩ := hO id _ hob
  rw [List.length_map] at hlen hown
  have hK : id ∈ st.ids ∧ a.eval x = ψ.val id := by
    generalize a.eval x = u at hxa
    cases hxa with
    | row hK hn' h1 hv => exact ⟨hK, hv hlen.symm⟩
  obtain ⟨A, cap, hval, hcap, hA⟩ : ∃ A cap, ψ.val id = .slice A xs.length cap ∧ xs.length ≤ cap ∧ (0 < xs.length → ∃ g, A = some ⟨g, 0, none⟩) := by
    rcases hown.2 with ⟨hv, h0⟩ | ⟨g, cap, cur, hv, _, hg, h1, h2, h3, h4⟩
    · exact ⟨none, 0, by rw [hv, h0], by omega, fun h => by omega⟩
    · exact ⟨some ⟨g, 0, none⟩, cap, hv, h1, fun _ => ⟨g, rfl⟩⟩
  have hu := (hT.get hd).slice hk
  have e1 : (Instr.sliceBounds true xs.length cap (lo.map a.eval) (hi.map a.eval) none).run P w = .ok ((l.getD 0).toNat, (h.getD xs.length).toNat, cap) w := by
    unfold Instr.sliceBounds
    have hcap : (xs.length : Int) ≤ (cap : Int) := by omega
    rcases bh with ⟨rfl, rfl⟩ | ⟨y, k, n, rfl, rfl, hy⟩
    · rcases bl with ⟨rfl, rfl⟩ | ⟨y', k', n', rfl, rfl, hy'⟩
      · simp
      · simp only [Option.getD_some, Option.getD_none] at hb ⊢
        simp [Instr.sliceBound, hy', asIntOf, hb.1, hb.2.1]
    · rcases bl with ⟨rfl, rfl⟩ | ⟨y', k', n', rfl, rfl, hy'⟩
      · simp only [Option.getD_some, Option.getD_none] at hb ⊢
        have : n ≤ (cap : Int) := by omega
        simp [Instr.sliceBound, hy, asIntOf, hb.2.1, this]
      · simp only [Option.getD_some] at hb ⊢
        have : 0 ≤ n := by omega
        have h3 : n' ≤ (n.toNat : Int) := by omega
        have h4 : n ≤ (cap : Int) := by omega
        simp [Instr.sliceBound, hy, hy', asIntOf, hb.1, this, h3, h4]
        intro hc; exfalso; omega
  have hss : (sizeOf e).run P w = .ok 1 w := by rw [(hT.get hde).size, hsz]
  refine relAt_ok (w' := w) (v := .slice (if cap = (l.getD 0).toNat then A else A.map (·.add ((l.getD 0).toNat * 1))) ((h.getD xs.length).toNat - (l.getD 0).toNat) (cap - (l.getD 0).toNat)) ?_ ⟨grow_refl _, .win hK.1 (by omega) rfl fun _ => ⟨by omega, by omega, _, _, rfl, fun hlt => ?_⟩⟩
  · simp [execOp, ho, Instr.sliceAt, Instr.slice, run_underlying hu, hK.2, hval, e1, hss]
  · obtain ⟨g, rfl⟩ := hA (by omega)
    refine ⟨g, by rw [hval]; rfl, ?_⟩
    rw [if_neg (by omega)]
    simp [addr_add]
/-- cells of an own row are written, one after the other -/
theorem row_put {α : Type} {enc : α → FV} {f : α → Value} {xs zs : List α} {lo cap g : Nat} {e : TypeId} {cur : Array Value} (hcore : Core F S0 N0 st.heap st.ids ψ S w) (hob : lookO st.heap id = some (.frow e 1 (xs.map enc)))
    (hval : ψ.val id = .slice (some ⟨g, 0, none⟩) xs.length cap) (hg : w.heap[g]? = some (.cells cur e (0, 0))) (hc1 : xs.length ≤ cap) (hc2 : cap ≤ maxLen) (hc3 : cur.size = cap) (hcs : cur.toList.take xs.length = xs.map f)
    (hf : ∀ y, enc y = .atom (f y) ∧ (f y).oneCell' = true) (hlo : lo + zs.length ≤ xs.length) :
    Core F S0 N0 ((id, .frow e 1 ((xs.take lo ++ (zs ++ xs.drop (lo + zs.length))).map enc)) :: st.heap) st.ids ψ S (w.setRow g (cur.toList.take lo ++ zs.map f ++ cur.toList.drop (lo + (zs.map f).length)).toArray) ∧
    Same S w (w.setRow g (cur.toList.take lo ++ zs.map f ++ cur.toList.drop (lo + (zs.map f).length)).toArray) ∧ ∀ b, F b → (w.setRow g (cur.toList.take lo ++ zs.map f ++ cur.toList.drop (lo + (zs.map f).length)).toArray).heap[b]? = w.heap[b]? := by
  obtain ⟨hid, ⟨hl, hsz0, cs, hown, hel, hr⟩, hfr⟩ := hcore.obj id _ hob
  rw [List.length_map] at hl hown
  obtain ⟨new, hnew⟩ : ∃ new : Array Value, new = (cur.toList.take lo ++ zs.map f ++ cur.toList.drop (lo + (zs.map f).length)).toArray := ⟨_, rfl⟩
  rw [← hnew]
  have hcl : cur.toList.length = cap := by rw [Array.length_toList, hc3]
  have hns : new.size = cap := by
    rw [hnew]
    simp only [List.size_toArray, List.length_append, List.length_take, List.length_map, List.length_drop, hcl]
    omega
  obtain ⟨ys, hys⟩ : ∃ ys, ys = xs.take lo ++ (zs ++ xs.drop (lo + zs.length)) := ⟨_, rfl⟩
  rw [← hys]
  have hyl : ys.length = xs.length := by rw [hys]; simp only [List.length_append, List.length_take, List.length_drop]; omega
  have hcut : cur.toList = xs.map f ++ cur.toList.drop xs.length := by rw [← hcs, List.take_append_drop]
  have hnl : new.toList.take xs.length = ys.map f := by
    rw [hnew, hys]
    simp only [List.map_append, List.map_take, List.map_drop, List.length_map]
    rw [hcut]
    have e1 : (List.map f xs ++ List.drop xs.length cur.toList).take lo = (xs.map f).take lo := by rw [List.take_append_of_le_length (by rw [List.length_map]; omega)]
    have e2 : (List.map f xs ++ List.drop xs.length cur.toList).drop (lo + zs.length) = (xs.map f).drop (lo + zs.length) ++ List.drop xs.length cur.toList := by rw [List.drop_append_of_le_length (by rw [List.length_map]; omega)]
    rw [e1, e2]
    have e3 : ((xs.map f).take lo ++ zs.map f ++ ((xs.map f).drop (lo + zs.length) ++ List.drop xs.length cur.toList)) = ((xs.map f).take lo ++ (zs.map f ++ (xs.map f).drop (lo + zs.length))) ++ List.drop xs.length cur.toList := by simp only [List.append_assoc]
    rw [e3, List.take_append_of_le_length (by simp only [List.length_append, List.length_take, List.length_map, List.length_drop]; omega), List.take_of_length_le (by simp only [List.length_append, List.length_take, List.length_map, List.length_drop]; omega)]
  have hoth : ∀ k, k < w.heap.size → ¬ Blk (ψ.val id) k → (w.setRow g new).heap[k]? = w.heap[k]? := fun k _ hk => setRow_oth g new k fun e => hk (.of (by rw [hval, e]; rfl))
  have hsz : (w.setRow g new).heap.size = w.heap.size := by simp [World.setRow]
  have hset : ψ.set id xs.length (ψ.val id) = ψ := by
    unfold Env.set
    congr 1
    · funext j; split
      · rename_i hj; rw [hj, hl]
      · rfl
    · funext j; split
      · rename_i hj; rw [hj]
      · rfl
  obtain ⟨c1, c2, c3⟩ := hcore.upd (n := xs.length) (v := ψ.val id) (w' := w.setRow g new) (ob' := .frow e 1 (ys.map enc)) hob (by omega) hoth (.inr ⟨hl, rfl⟩) (fun b hb => .inl hb) (by
    rw [hset]
    refine ⟨by simp [hl, hyl], hsz0, ys.map f, ?_, fun z hz' => ?_, fun k z j v q hz' hv hq => ?_⟩
    · rw [List.length_map, hyl, hval]
      refine ⟨by rw [List.length_map, hyl, Nat.mul_one], .inr ⟨g, cap, new, rfl, Nat.zero_le _, setRow_same g hg, hc1, hc2, by rw [hns, Nat.mul_one], ?_⟩⟩
      rw [Nat.mul_one]
      exact hnl
    · obtain ⟨z0, _, rfl⟩ := List.mem_map.1 hz'
      obtain ⟨h1, h2⟩ := hf z0
      rw [h1]
      exact ⟨rfl, fun q hq => by simp [FV.cells] at hq; subst hq; exact h2⟩
    · obtain ⟨z0, hz0, rfl⟩ : ∃ z0, ys[k]? = some z0 ∧ enc z0 = z := by rw [List.getElem?_map, Option.map_eq_some_iff] at hz'; exact hz'
      obtain ⟨h1, h2⟩ := hf z0
      have hj : j = 0 := by
        rw [h1] at hq
        have := (List.getElem?_eq_some_iff.1 hq).1
        simp [FV.cells] at this
        exact this
      subst hj
      have hq' : q = .atom (f z0) := by rw [h1] at hq; simp [FV.cells] at hq; exact hq.symm
      subst hq'
      simp only [Nat.mul_one, Nat.add_zero, List.getElem?_map, hz0, Option.map_some, Option.some.injEq] at hv
      subst hv
      exact .atom h2)
  rw [hset] at c1
  exact ⟨c1, c2, c3⟩
theorem win_inv {v : Value} {id n lo hi : Nat} (h : RV ψ K S w v (.win id n lo hi)) (hn : n = ψ.len id) : lo ≤ hi ∧ hi ≤ n ∧ ∃ A cap, v = .slice A (hi - lo) cap ∧ (lo < hi → ∃ b, blkOf (ψ.val id) = some b ∧ A = some ⟨b, lo, none⟩) := by
  cases h with
  | win _ _ _ hv => exact hv hn
/-- a window of a row is copied into one of the same row -/
theorem e_copyWin {α : Type} {enc : α → FV} {xs : List α} {X Y : Operand} {t1 t2 e : TypeId} {d1 de : TD} {n lo hi lo2 hi2 : Nat} (hT : TOk P T) (ho : o.op = .call { callee := .builtin .copy, args := #[X, Y], argTypes := #[t1, t2] }) (hd : lookT T t1 = some d1) (hk : d1.kind = .slice e) (hde : lookT T e = some de) (hsz : de.size = 1)
    (hx : st.eval X = .win id n lo hi) (hy : st.eval Y = .win id n lo2 hi2) (hob : lookO st.heap id = some (.frow e 1 (xs.map enc))) (hn : n = xs.length) (hat : ∀ y, ∃ u, enc y = .atom u ∧ u.oneCell' = true) :
    StepA P o st (.fz (.atom (.int .i64 (min (hi2 - lo2) (hi - lo) : Nat)))) ((id, .frow e 1 ((xs.take lo ++ ((xs.drop lo2).take (min (hi2 - lo2) (hi - lo)) ++ xs.drop (lo + ((xs.drop lo2).take (min (hi2 - lo2) (hi - lo))).length))).map enc)) :: st.heap) st.ids := by
  subst hn
  intro F S0 N0 ψ S a w hs'
  have hcore := hs'.core
  obtain ⟨hid, hO, hfr⟩ := hcore.obj id _ hob
  have hO' := hO
  obtain ⟨hl, hsz0, cs, hown, hel, hr⟩ := hO'
  rw [List.length_map] at hl hown
  have hxa := hs'.eval X
  rw [hx] at hxa
  have hya := hs'.eval Y
  rw [hy] at hya
  obtain ⟨x1, x2, A1, cap1, hxv, hA1⟩ := win_inv hxa hl.symm
  obtain ⟨y1, y2, A2, cap2, hyv, hA2⟩ := win_inv hya hl.symm
  have hu : P.underlying t1 = some (.slice e) := (hT.get hd).slice hk
  have hinf : (P.info? e).map (·.size) = some 1 := by
    have := (hT.get hde).info
    rw [hsz] at this
    exact this
  obtain ⟨k, hkk⟩ : ∃ k, k = min (hi2 - lo2) (hi - lo) := ⟨_, rfl⟩
  rw [← hkk]
  have hzl : ((xs.drop lo2).take k).length = k := by rw [List.length_take, List.length_drop]; omega
  by_cases hk0 : k = 0
  · have hrun := run_copy_none (P := P) w t1 t2 o.type e A1 A2 (hi - lo) cap1 (hi2 - lo2) cap2 hu hinf (by show min _ _ = 0; omega)
    have hsame : xs.take lo ++ ((xs.drop lo2).take k ++ xs.drop (lo + ((xs.drop lo2).take k).length)) = xs := by
      rw [hzl, hk0]; simp
    rw [hsame]
    have hset : ψ.set id xs.length (ψ.val id) = ψ := by
      unfold Env.set
      congr 1
      · funext j; split
        · rename_i hj; rw [hj, hl]
        · rfl
      · funext j; split
        · rename_i hj; rw [hj]
        · rfl
    obtain ⟨c1, c2, c3⟩ := hcore.upd (n := xs.length) (v := ψ.val id) (w' := w) (ob' := .frow e 1 (xs.map enc)) hob (Nat.le_refl _) (fun _ _ _ => rfl) (.inr ⟨hl, rfl⟩) (fun b hb => .inl hb) (by rw [hset]; exact hO)
    rw [hset] at c1
    refine relAt_ok (w' := w) (v := .int .i64 ((k : Nat) : Int)) ?_ ⟨ψ, S, c1, .fz (.atom rfl), Fr.refl, Ext.refl, fun _ h => h, fun _ h => h, c2⟩
    rw [hk0]
    simp [execOp, ho, resolve, invoke, builtin, hxv, hyv, hrun, goInt]
  · obtain ⟨b, hb, rfl⟩ := hA1 (by omega)
    obtain ⟨b2, hb2, rfl⟩ := hA2 (by omega)
    obtain ⟨g, cap, cur, hval, hg, hc1, hc2, hc3, hc4⟩ := owns_some hown (by omega)
    have hbg : b = g := by rw [hval] at hb; simp only [blkOf, Option.some.injEq] at hb; exact hb.symm
    have hbg2 : b2 = g := by rw [hval] at hb2; simp only [blkOf, Option.some.injEq] at hb2; exact hb2.symm
    subst hbg hbg2
    obtain ⟨f, hf⟩ : ∃ f : α → Value, ∀ y, enc y = .atom (f y) ∧ (f y).oneCell' = true := ⟨fun y => (hat y).choose, fun y => (hat y).choose_spec⟩
    have hcs : cur.toList.take xs.length = xs.map f := by
      rw [hc4]
      have hcl : cs.length = xs.length := by rw [hown.1, Nat.mul_one]
      apply List.ext_getElem (by rw [hcl, List.length_map])
      intro i h1 h2
      rw [List.length_map] at h2
      have := hr i (enc xs[i]) 0 cs[i] (enc xs[i]) (by rw [List.getElem?_map, List.getElem?_eq_getElem h2]; rfl) (by simp) (by rw [(hf xs[i]).1]; rfl)
      rw [(hf xs[i]).1] at this
      rw [this.atom_eq, List.getElem_map]
    obtain ⟨c1, c2, c3⟩ := row_put (zs := (xs.drop lo2).take k) (lo := lo) hcore hob hval hg hc1 hc2 hc3 hcs hf (by rw [hzl]; omega)
    have hrun := run_copy_row (P := P) w t1 t2 o.type e b2 lo (hi - lo) cap1 ⟨b2, lo2, none⟩ (hi2 - lo2) cap2 cur e (((xs.drop lo2).take k).map f) hu hinf hg (by rw [List.length_map, hzl]; exact hkk) (fun j v hv => by
      rw [List.getElem?_map, List.getElem?_take] at hv
      split at hv
      · rename_i hj
        rw [List.getElem?_drop] at hv
        have hx2 : (xs.map f)[lo2 + j]? = some v := by rw [List.getElem?_map]; exact hv
        rw [← hcs, List.getElem?_take] at hx2
        split at hx2
        · rw [addr_add]
          simp only [World.cell?, hg]
          rw [Array.getElem?_toList] at hx2
          simpa using hx2
        · cases hx2
      · cases hv) (by rw [List.length_map, hzl, hc3]; omega) (fun v hv => by obtain ⟨z, _, rfl⟩ := List.mem_map.1 hv; exact (hf z).2)
    rw [List.length_map, hzl] at hrun
    refine relAt_ok (w' := _) (v := .int .i64 ((k : Nat) : Int)) ?_ ⟨ψ, S, c1, .fz (.atom rfl), ⟨rfl, rfl, rfl, ?_, c3⟩, Ext.refl, fun _ h => h, fun _ h => h, c2⟩
    · rw [List.length_map, hzl]
      simp [execOp, ho, resolve, invoke, builtin, hxv, hyv, hrun, goInt]
    · simp [World.setRow]
/-- data is copied into an own row, from its begin -/
theorem e_copyRow {α : Type} {enc : α → FV} {xs ys : List α} {X Y : Operand} {t1 t2 e : TypeId} {d1 de : TD} {n : Nat} (hT : TOk P T) (ho : o.op = .call { callee := .builtin .copy, args := #[X, Y], argTypes := #[t1, t2] }) (hd : lookT T t1 = some d1) (hk : d1.kind = .slice e) (hde : lookT T e = some de) (hsz : de.size = 1)
    (hx : st.eval X = .row id n) (hy : listOf (st.eval Y) = some (ys.map enc)) (hob : lookO st.heap id = some (.frow e 1 (xs.map enc))) (hn : n = xs.length) (hat : ∀ y, ∃ u, enc y = .atom u ∧ u.oneCell' = true) :
    StepA P o st (.fz (.atom (.int .i64 (min ys.length xs.length : Nat)))) ((id, .frow e 1 ((xs.take 0 ++ (ys.take (min ys.length xs.length) ++ xs.drop (0 + (ys.take (min ys.length xs.length)).length))).map enc)) :: st.heap) st.ids := by
  subst hn
  intro F S0 N0 ψ S a w hs'
  have hcore := hs'.core
  obtain ⟨hid, hO, hfr⟩ := hcore.obj id _ hob
  have hO' := hO
  obtain ⟨hl, hsz0, cs, hown, hel, hr⟩ := hO'
  rw [List.length_map] at hl hown
  have hxa := hs'.eval X
  rw [hx] at hxa
  have hxv : a.eval X = ψ.val id := by
    generalize a.eval X = u at hxa
    cases hxa with
    | row hK hn' h1 hv => exact hv hl.symm
  obtain ⟨_, _, size, m, hm, _, hrf⟩ := listOf_ok (hs'.eval Y) hy
  obtain ⟨A2, cap2, news, hyv, hm2, _, _, hnl, hone, hrow, helr, hadr⟩ := lst_cells hrf
  rw [List.length_map] at hm hm2 hnl
  subst hm
  have hu : P.underlying t1 = some (.slice e) := (hT.get hd).slice hk
  have hinf : (P.info? e).map (·.size) = some 1 := by
    have := (hT.get hde).info
    rw [hsz] at this
    exact this
  obtain ⟨k, hkk⟩ : ∃ k, k = min ys.length xs.length := ⟨_, rfl⟩
  rw [← hkk]
  have hzl : (ys.take k).length = k := by rw [List.length_take]; omega
  by_cases hk0 : k = 0
  · obtain ⟨A1, cap1, hv1⟩ : ∃ A1 cap1, ψ.val id = .slice A1 xs.length cap1 := by
      rcases hown.2 with ⟨hv, h0⟩ | ⟨g, cap, cur, hv, _⟩
      · exact ⟨none, 0, by rw [hv, h0]⟩
      · exact ⟨_, _, hv⟩
    have hrun := run_copy_none (P := P) w t1 t2 o.type e A1 A2 xs.length cap1 ys.length cap2 hu hinf (by show min _ _ = 0; omega)
    have hsame : xs.take 0 ++ (ys.take k ++ xs.drop (0 + (ys.take k).length)) = xs := by
      rw [hzl, hk0]; simp
    rw [hsame]
    have hset : ψ.set id xs.length (ψ.val id) = ψ := by
      unfold Env.set
      congr 1
      · funext j; split
        · rename_i hj; rw [hj, hl]
        · rfl
      · funext j; split
        · rename_i hj; rw [hj]
        · rfl
    obtain ⟨c1, c2, c3⟩ := hcore.upd (n := xs.length) (v := ψ.val id) (w' := w) (ob' := .frow e 1 (xs.map enc)) hob (Nat.le_refl _) (fun _ _ _ => rfl) (.inr ⟨hl, rfl⟩) (fun b hb => .inl hb) (by rw [hset]; exact hO)
    rw [hset] at c1
    refine relAt_ok (w' := w) (v := .int .i64 ((k : Nat) : Int)) ?_ ⟨ψ, S, c1, .fz (.atom rfl), Fr.refl, Ext.refl, fun _ h => h, fun _ h => h, c2⟩
    rw [hk0]
    simp [execOp, ho, resolve, invoke, builtin, hxv, hv1, hyv, hrun, goInt]
  · obtain ⟨g, cap, cur, hval, hg, hc1, hc2, hc3, hc4⟩ := owns_some hown (by omega)
    obtain ⟨f, hf⟩ : ∃ f : α → Value, ∀ y, enc y = .atom (f y) ∧ (f y).oneCell' = true := ⟨fun y => (hat y).choose, fun y => (hat y).choose_spec⟩
    have hs1 : size = 1 := by
      have h0 : 0 < ys.length := by omega
      have := (helr (enc ys[0]) (List.mem_map.2 ⟨_, List.getElem_mem h0, rfl⟩)).1
      rw [(hf ys[0]).1] at this
      exact this.symm
    subst hs1
    have hnews : news = ys.map f := by
      apply List.ext_getElem (by rw [hnl, List.length_map, Nat.mul_one])
      intro i h1 h2
      rw [List.length_map] at h2
      have := hrow i (enc ys[i]) 0 news[i] (enc ys[i]) (by rw [List.getElem?_map, List.getElem?_eq_getElem h2]; rfl) (by simp) (by rw [(hf ys[i]).1]; rfl)
      rw [(hf ys[i]).1] at this
      rw [this.atom_eq, List.getElem_map]
    have hcs : cur.toList.take xs.length = xs.map f := by
      rw [hc4]
      have hcl : cs.length = xs.length := by rw [hown.1, Nat.mul_one]
      apply List.ext_getElem (by rw [hcl, List.length_map])
      intro i h1 h2
      rw [List.length_map] at h2
      have := hr i (enc xs[i]) 0 cs[i] (enc xs[i]) (by rw [List.getElem?_map, List.getElem?_eq_getElem h2]; rfl) (by simp) (by rw [(hf xs[i]).1]; rfl)
      rw [(hf xs[i]).1] at this
      rw [this.atom_eq, List.getElem_map]
    obtain ⟨ad, rfl, hcell⟩ : ∃ ad, A2 = some ad ∧ ∀ j u, news[j]? = some u → w.cell? (ad.add j) = some u := by
      rcases hadr with ⟨_, h⟩ | ⟨h, _⟩ | h
      · have := congrArg List.length h; rw [List.length_map, List.length_nil] at this; omega
      · have := congrArg List.length h; rw [List.length_map, List.length_nil] at this; omega
      · exact h
    obtain ⟨c1, c2, c3⟩ := row_put (zs := ys.take k) (lo := 0) hcore hob hval hg hc1 hc2 hc3 hcs hf (by rw [hzl]; omega)
    have hrun := run_copy_row (P := P) w t1 t2 o.type e g 0 xs.length cap ad ys.length cap2 cur e ((ys.take k).map f) hu hinf hg (by rw [List.length_map, hzl]; exact hkk) (fun j v hv => by
      rw [List.getElem?_map, List.getElem?_take] at hv
      split at hv
      · exact hcell j v (by rw [hnews, List.getElem?_map]; exact hv)
      · cases hv) (by rw [List.length_map, hzl, hc3]; omega) (fun v hv => by obtain ⟨z, _, rfl⟩ := List.mem_map.1 hv; exact (hf z).2)
    rw [List.length_map, hzl] at hrun
    refine relAt_ok (w' := _) (v := .int .i64 ((k : Nat) : Int)) ?_ ⟨ψ, S, c1, .fz (.atom rfl), ⟨rfl, rfl, rfl, ?_, c3⟩, Ext.refl, fun _ h => h, fun _ h => h, c2⟩
    · rw [List.length_map, hzl]
      simp [execOp, ho, resolve, invoke, builtin, hxv, hval, hyv, hrun, goInt]
    · simp [World.setRow]
end
end Go.Proofs.Ytpcfkflhnkfjjaa
/- Rows of rows of the call's own: made, read, written, given up as data; data that is lent for one call; other numbers for objects. -/
set_option linter.unusedVariables false
set_option linter.unusedSimpArgs false
namespace Go.Proofs.Ytpcfkflhnkfjjaa
open Go Go.RowKit

def vI (x : Int) : Value := .int .i64 x
/-- a row of rows as data -/
def tabF (rows : List (List Value)) : FV := .lst 1 rows.length (rows.map fun r => .lst 1 r.length (r.map .atom))
/-- data without memory -/
def atomF : FV → Bool
  | .atom _ => true
  | .tup vs => vs.all fun x => match x with
    | .atom _ => true
    | _ => false
  | _ => false

section
variable {P : Program} {F S0 : Nat → Prop} {N0 : Nat} {w w' : World} {S S' : Nat → Prop} {ψ ψ' : Env} {K : Nat → Prop} {T : List (TypeId × TD)} {o : Oper} {a : Act} {st : St} {t : TypeId} {d : TD} {id : Nat} {ids : List Nat} {heap : List (Nat × AObj)}

/-- a row of rows is made -/
theorem l_tab {ops : Array Oper} {l : List Oper} {Q : Exit → St → Prop} {X Y : Operand} {n : Int} {eo ei : TypeId} {de : TD} {k k' : IntKind} (ho : o.op = .makeSlice t X Y) (hT : TOk P T) (hd : lookT T t = some d) (hk : d.kind = .slice eo) (hde : lookT T eo = some de)
    (hz1 : de.size = 1) (hz2 : de.zero = [.slice none 0 0]) (hx : st.eval X = .fz (.atom (.int k n))) (hy : st.eval Y = .fz (.atom (.int k' n))) (h0 : 0 ≤ n) (hb : (de.bytes : Int) * n ≤ 281474976710656) (h63 : n ≤ 9223372036854775807) (hid : st.ids.contains id = false)
    (hg : guardA ops st o = some true) (hds : ∀ t, o.dst = some t → t < st.n)
    (h : ∀ ov, awpL P ops l (({ st with heap := (id, .tab 0 ov eo ei (List.replicate n.toNat [])) :: st.heap, ids := id :: st.ids } : St).put o.dst (.fz (.atom ov))) Q) : awpL P ops (o :: l) st Q := by
  have hid : id ∉ st.ids := by simpa using hid
  have hd := hT.get hd
  have hde := hT.get hde
  intro F S0 N0 ψ S a w hs
  have hxa := hs.eval X
  rw [hx] at hxa
  have hxa := hxa.atom
  have hya := hs.eval Y
  rw [hy] at hya
  have hya := hya.atom
  obtain ⟨⟨i, z', hi, hsz, hbs, hz, hzc⟩, _⟩ := hde
  have hcore := hs.core
  have hcl : z'.cells = #[.slice none 0 0] := by
    apply Array.ext'
    rw [hzc, hz2]
  have hr := run_make (P := P) w t eo i z' (hd.slice hk) hi hz k k' n n h0 (Int.le_refl _) (by rw [hbs]; exact hb) h63
  rw [hsz, hz1, hcl, Nat.mul_one] at hr
  obtain ⟨w1, hw1⟩ : ∃ w1, w1 = w.alloc (.cells (madeCells #[.slice none 0 0] n.toNat) eo) := ⟨_, rfl⟩
  have hgr : Grow w w1 := hw1 ▸ grow_alloc _ _
  obtain ⟨ov, hov⟩ : ∃ ov : Value, ov = .slice (some ⟨w.heap.size, 0, none⟩) n.toNat n.toNat := ⟨_, rfl⟩
  have hml : (madeCells #[.slice none 0 0] n.toNat).toList = List.replicate n.toNat (.slice none 0 0) := toList_madeCells_one _ _
  obtain ⟨vs, hvs⟩ : ∃ vs : List Value, vs = List.replicate n.toNat (.slice none 0 0) := ⟨_, rfl⟩
  have hown : w1.ownsRow 0 eo 1 ov n.toNat vs := by
    have := World.ownsRow_lit (base := 0) (size := 1) (e := eo) w (madeCells #[.slice none 0 0] n.toNat) n.toNat (Nat.zero_le _) (by unfold maxLen; omega) (by rw [size_madeCells, Nat.mul_one])
    rw [hml, ← hvs, ← hov, ← hw1] at this
    exact this
  have hnil : ∀ (j : Nat) (v : Value), vs[j]? = some v → v = .slice none 0 0 := fun j v hv => by
    have := List.mem_of_getElem? hv
    rw [hvs, List.mem_replicate] at this
    exact this.2
  have hO : ObR (ψ.set id 0 (.tuple (ov :: vs).toArray)) (· ∈ id :: st.ids) S w1 id (.tab 0 ov eo ei (List.replicate n.toNat [])) := by
    refine ⟨set_len _ _, vs, set_val _ _, by rw [hvs]; simp, by simpa using hown, fun j v xs hv hx => ?_, fun i j u v b hu hv hij hbu hbv => ?_⟩
    · rw [hnil j v hv]
      have := List.mem_of_getElem? hx
      rw [List.mem_replicate] at this
      rw [this.2]
      exact ⟨⟨rfl, .inl ⟨rfl, rfl⟩⟩, fun u hu => by cases hu⟩
    · cases i with
      | zero => cases j with
        | zero => exact hij rfl
        | succ j => rw [List.getElem?_cons_succ] at hv; rw [hnil j v hv] at hbv; cases hbv
      | succ i => rw [List.getElem?_cons_succ] at hu; rw [hnil i u hu] at hbu; cases hbu
  have hc := hcore.addB hgr hid (n := 0) (v := .tuple (ov :: vs).toArray) (fun b hb => by
    rcases hb with hb | ⟨u, hu, hb⟩
    · cases hb
    · simp only [inTup] at hu
      rcases List.mem_cons.1 hu with rfl | hu
      · rw [hov] at hb; simp [blkOf] at hb; omega
      · obtain ⟨i, hi, rfl⟩ := List.mem_iff_getElem.1 hu
        rw [hnil i _ (List.getElem?_eq_getElem hi)] at hb; cases hb) hO
  unfold wpList
  rw [wanted_of hs hg]
  refine .inl (wp_of_relAt (R := fun v w' => v = ov ∧ w' = w1) ?_ ?_)
  · rintro v w' ⟨rfl, rfl⟩
    have hput := hs.put (st' := { st with heap := (id, .tab 0 v eo ei (List.replicate n.toNat [])) :: st.heap, ids := id :: st.ids }) (d := o.dst) (v := v) (c := .fz (.atom v)) rfl rfl rfl hc (.fz (.atom (by rw [hov]; rfl))) (ext_new hid _ _) (fun _ h => List.mem_cons_of_mem _ h) (fun _ h => h) (Same.of_grow hgr) hds
    exact wpList_mono (fun e a' w'' k => k.pre (Fr.of_grow hcore.fr hgr)) _ _ _ (h v F S0 N0 _ S _ w' hput)
  · refine relAt_ok (w' := w1) (v := ov) ?_ ⟨rfl, rfl⟩
    rw [hw1, hov]
    simp [execOp, ho, hxa, hya, hr]

theorem tab_len {g : Nat} {ov : Value} {eo ei : TypeId} {rows : List (List Value)} (h : ObR ψ K S w id (.tab g ov eo ei rows)) : ∃ A cap, ov = .slice A rows.length cap := by
  obtain ⟨_, vs, _, _, hown, _⟩ := h
  rcases hown.2 with ⟨hval, hn0⟩ | ⟨g, cap, cur, hval, _⟩
  · exact ⟨none, 0, by rw [hval, hn0]⟩
  · exact ⟨some ⟨g, 0, none⟩, cap, hval⟩
theorem n_tabLen {x : Operand} {e2 : TypeId} {g : Nat} {ov : Value} {eo ei : TypeId} {rows : List (List Value)} {n : Nat} (hT : TOk P T) (ho : o.op = .call { callee := .builtin .len, args := #[x], argTypes := #[t] }) (hd : lookT T t = some d) (hk : d.kind = .slice e2) (hx : st.eval x = .fz (.atom ov)) (hob : lookO st.heap id = some (.tab g ov eo ei rows)) (hn : n = rows.length) :
    NStep P o st (.fz (.atom (.int .i64 n))) := by
  subst hn
  intro ψ S a w htm hO
  have h0 := Sim.eval_tmps htm x
  rw [hx] at h0
  have h0 := h0.atom
  obtain ⟨A, cap, hv⟩ := tab_len (hO id _ hob)
  rw [hv] at h0
  refine relAt_ok (w' := w) (v := .int .i64 rows.length) ?_ ⟨grow_refl _, .fz (.atom rfl)⟩
  simp [execOp, ho, resolve, invoke, builtin, Builtin.len_, run_underlying ((hT.get hd).slice hk), h0, goInt]
/-- the address of a row -/
theorem n_tabAddr {α : Type} {f : α → Value} {rows : List (List α)} {row : List α} {i : Int} {X Y : Operand} {e : TypeId} {de : TD} {k : IntKind} {g : Nat} {ov : Value} {ei : TypeId} (h : idx rows i = some row) (hT : TOk P T) (ho : o.op = .indexAddr t X Y) (hd : lookT T t = some d) (hk : d.kind = .slice e) (hde : lookT T e = some de) (hz : de.size = 1)
    (hx : st.eval X = .fz (.atom ov)) (hob : lookO st.heap id = some (.tab g ov e ei (rows.map (List.map f)))) (hK : st.ids.contains id = true) (hy : st.eval Y = .fz (.atom (.int k i))) : NStep P o st (.iref id g 0 i.toNat) := by
  intro ψ S a w ht hO
  have hd := hT.get hd
  have hde := hT.get hde
  unfold idx at h
  split at h
  · rename_i h0
    have hlt : i.toNat < rows.length := (List.getElem?_eq_some_iff.1 h).1
    have hxa := Sim.eval_tmps ht X
    rw [hx] at hxa
    have hxa := hxa.atom
    have hya := Sim.eval_tmps ht Y
    rw [hy] at hya
    have hya := hya.atom
    obtain ⟨hg, vs, hval, hvl, hown, hin, hdis⟩ := hO id _ hob
    rw [List.length_map] at hvl hown
    obtain ⟨gb, cap, cur, hov, hgb, _⟩ := owns_some hown (by omega)
    refine relAt_ok (w' := w) (v := .pointer (some ⟨gb, i.toNat, none⟩)) ?_ ⟨grow_refl _, .iref (by simpa using hK) (by omega) rfl fun _ => ⟨ov, gb, by rw [hval]; rfl, by rw [hov]; rfl, rfl⟩⟩
    have hlt' : i < (rows.length : Int) := by omega
    simp [execOp, ho, hxa, hov, hya, Instr.indexAt, asIntOf, run_underlying (hd.slice hk), h0, hlt', hde.size, hz, addr_add]
  · cases h
/-- a row is read -/
theorem n_tabLoad {α : Type} {f : α → Value} {rows : List (List α)} {row : List α} {i : Int} {X : Operand} {g : Nat} {ov : Value} {ei : TypeId} (h : idx rows i = some row) (hT : TOk P T) (ho : o.op = .load t X) (hd : lookT T t = some d) (hk : d.kind.agg = false) (hx : st.eval X = .iref id g 0 i.toNat)
    (hob : lookO st.heap id = some (.tab g ov t ei (rows.map (List.map f)))) (hK : st.ids.contains id = true) : NStep P o st (.irow id g (i.toNat + 1)) := by
  intro ψ S a w ht hO
  have hd := hT.get hd
  unfold idx at h
  split at h
  · rename_i h0
    have hlt : i.toNat < rows.length := (List.getElem?_eq_some_iff.1 h).1
    have hxa := Sim.eval_tmps ht X
    rw [hx] at hxa
    obtain ⟨hg, vs, hval, hvl, hown, hin, hdis⟩ := hO id _ hob
    rw [List.length_map] at hvl hown
    obtain ⟨gb, cap, cur, hov, hgb, hc1, hc2, hc3, hc4⟩ := owns_some hown (by omega)
    have hp : a.eval X = .pointer (some ⟨gb, i.toNat, none⟩) := by
      generalize a.eval X = u at hxa
      cases hxa with
      | iref hK hn' h1 hv =>
        obtain ⟨u, b, hu, hb, rfl⟩ := hv hg.symm
        rw [hval] at hu
        simp only [inTup, List.getElem?_cons_zero, Option.some.injEq] at hu
        subst hu
        rw [hov] at hb
        simp only [blkOf, Option.some.injEq] at hb
        rw [hb]
    have hci : vs[i.toNat]? = some (vs[i.toNat]'(by omega)) := List.getElem?_eq_getElem _
    have hcell : w.cell? ⟨gb, i.toNat, none⟩ = some (vs[i.toNat]'(by omega)) := by
      rw [hov] at hown
      rw [World.ownsRow.cellAt hown i.toNat (by omega), hci]
    obtain ⟨k1, _⟩ := hin i.toNat _ (row.map f) hci (by rw [List.getElem?_map, h]; rfl)
    refine relAt_ok (w' := w) (v := vs[i.toNat]'(by omega)) ?_ ⟨grow_refl _, .irow (by simpa using hK) (by omega) (own_one k1) fun _ => by rw [hval]; simp only [inTup, List.getElem?_cons_succ]; exact hci⟩
    simp [execOp, ho, hp, Instr.loadAt, Instr.sureAddr, loadVar, hd.isAgg, hk, hcell]
  · cases h
theorem tin_row {α : Type} {f : α → Value} {rows : List (List α)} {row : List α} {i : Int} {g : Nat} {ov : Value} {eo ei : TypeId} (h : idx rows i = some row) (hO : ObR ψ K S w id (.tab g ov eo ei (rows.map (List.map f)))) :
    ∃ v vs, ψ.len id = g ∧ ψ.val id = .tuple (ov :: vs).toArray ∧ (inTup (ψ.val id))[i.toNat + 1]? = some v ∧ vs[i.toNat]? = some v ∧ w.ownsRow 0 ei 1 v row.length (row.map f) ∧ rows[i.toNat]? = some row ∧ ∀ u ∈ row.map f, u.oneCell' = true := by
  unfold idx at h
  split at h
  · obtain ⟨hg, vs, hval, hvl, hown, hin, hdis⟩ := hO
    have hlt : i.toNat < rows.length := (List.getElem?_eq_some_iff.1 h).1
    have hlv : i.toNat < vs.length := by rw [hvl]; simpa using hlt
    obtain ⟨k1, k2⟩ := hin i.toNat vs[i.toNat] (row.map f) (List.getElem?_eq_getElem hlv) (by rw [List.getElem?_map, h]; rfl)
    rw [List.length_map] at k1
    exact ⟨vs[i.toNat], vs, hg, hval, by rw [hval]; simp only [inTup, List.getElem?_cons_succ]; exact List.getElem?_eq_getElem hlv, List.getElem?_eq_getElem hlv, k1, h, k2⟩
  · cases h
/-- the address of an element of a row -/
theorem n_tinAddr {α : Type} {f : α → Value} {rows : List (List α)} {row : List α} {x : α} {i j : Int} {X Y : Operand} {e : TypeId} {de : TD} {k : IntKind} {g : Nat} {ov : Value} {eo : TypeId} (h : idx rows i = some row) (h2 : idx row j = some x) (hT : TOk P T) (ho : o.op = .indexAddr t X Y) (hd : lookT T t = some d) (hk : d.kind = .slice e) (hde : lookT T e = some de) (hz : de.size = 1)
    (hx : st.eval X = .irow id g (i.toNat + 1)) (hob : lookO st.heap id = some (.tab g ov eo e (rows.map (List.map f)))) (hK : st.ids.contains id = true) (hy : st.eval Y = .fz (.atom (.int k j))) : NStep P o st (.iref id g (i.toNat + 1) j.toNat) := by
  intro ψ S a w ht hO
  have hd := hT.get hd
  have hde := hT.get hde
  obtain ⟨v, vs, hg, hval, hv1, hv2, hown, hr, _⟩ := tin_row h (hO id _ hob)
  unfold idx at h2
  split at h2
  · rename_i h0
    have hlt : j.toNat < row.length := (List.getElem?_eq_some_iff.1 h2).1
    have hxa := Sim.eval_tmps ht X
    rw [hx] at hxa
    have hya := Sim.eval_tmps ht Y
    rw [hy] at hya
    have hya := hya.atom
    obtain ⟨gb, cap, cur, hov, hgb, _⟩ := owns_some hown (by omega)
    have hrow : a.eval X = .slice (some ⟨gb, 0, none⟩) row.length cap := by
      generalize a.eval X = u at hxa
      cases hxa with
      | irow hK hn h1 hv =>
        have := hv hg.symm
        rw [hv1] at this
        rw [← Option.some.inj this, hov]
    refine relAt_ok (w' := w) (v := .pointer (some ⟨gb, j.toNat, none⟩)) ?_ ⟨grow_refl _, .iref (by simpa using hK) (by omega) rfl fun _ => ⟨v, gb, hv1, by rw [hov]; rfl, rfl⟩⟩
    have hlt' : j < (row.length : Int) := by omega
    simp [execOp, ho, hrow, hya, Instr.indexAt, asIntOf, run_underlying (hd.slice hk), h0, hlt', hde.size, hz, addr_add]
  · cases h2
theorem tin_ptr {X : Operand} {g i j b : Nat} {v : Value} (hxa : RV ψ K S w (a.eval X) (.iref id g i j)) (hg : ψ.len id = g) (hv : (inTup (ψ.val id))[i]? = some v) (hb : blkOf v = some b) : a.eval X = .pointer (some ⟨b, j, none⟩) := by
  generalize a.eval X = u at hxa
  cases hxa with
  | iref hK hn h1 hv' =>
    obtain ⟨u, b', hu, hb', rfl⟩ := hv' hg.symm
    rw [hv] at hu
    cases hu
    rw [hb] at hb'
    cases hb'
    rfl
/-- an element is read -/
theorem n_tinLoad {α : Type} {f : α → Value} {rows : List (List α)} {row : List α} {x : α} {i j : Int} {X : Operand} {g : Nat} {ov : Value} {eo : TypeId} (h : idx rows i = some row) (h2 : idx row j = some x) (hT : TOk P T) (ho : o.op = .load t X) (hd : lookT T t = some d) (hk : d.kind.agg = false) (hx : st.eval X = .iref id g (i.toNat + 1) j.toNat)
    (hob : lookO st.heap id = some (.tab g ov eo t (rows.map (List.map f)))) : NStep P o st (.fz (.atom (f x))) := by
  intro ψ S a w ht hO
  have hd := hT.get hd
  obtain ⟨v, vs, hg, hval, hv1, hv2, hown, hr, hone⟩ := tin_row h (hO id _ hob)
  unfold idx at h2
  split at h2
  · rename_i h0
    have hlt : j.toNat < row.length := (List.getElem?_eq_some_iff.1 h2).1
    obtain ⟨gb, cap, cur, hov, hgb, hc1, hc2, hc3, hc4⟩ := owns_some hown (by omega)
    have hxa := Sim.eval_tmps ht X
    rw [hx] at hxa
    have hp := tin_ptr hxa hg hv1 (by rw [hov]; rfl)
    have hcell : w.cell? ⟨gb, j.toNat, none⟩ = some (f x) := by
      rw [hov] at hown
      rw [World.ownsRow.cellAt hown j.toNat (by omega), List.getElem?_map, h2]
      rfl
    refine relAt_ok (w' := w) (v := f x) ?_ ⟨grow_refl _, .fz (.atom (hone _ (List.mem_map_of_mem (List.mem_of_getElem? h2))))⟩
    simp [execOp, ho, hp, Instr.loadAt, Instr.sureAddr, loadVar, hd.isAgg, hk, hcell]
  · cases h2
theorem n_tinNil {X : Operand} {g i j : Nat} {ov : Value} {eo ei : TypeId} {rows : List (List Value)} (ho : o.op = .nilCheck X) (hx : st.eval X = .iref id g i j) (hob : lookO st.heap id = some (.tab g ov eo ei rows)) (hK : st.ids.contains id = true) : NStep P o st (.iref id g i j) := by
  intro ψ S a w ht hO
  obtain ⟨hg, vs, hval, _⟩ := hO id _ hob
  have hxa := Sim.eval_tmps ht X
  rw [hx] at hxa
  obtain ⟨b, u, hu, hub, hp⟩ : ∃ b u, (inTup (ψ.val id))[i]? = some u ∧ blkOf u = some b ∧ a.eval X = .pointer (some ⟨b, j, none⟩) := by
    generalize a.eval X = v at hxa
    cases hxa with
    | iref hK hn h1 hv =>
      obtain ⟨u, b, hu, hb, rfl⟩ := hv hg.symm
      exact ⟨b, u, hu, hb, rfl⟩
  refine relAt_ok (w' := w) (v := .pointer (some ⟨b, j, none⟩)) ?_ ⟨grow_refl _, .iref (by simpa using hK) (by omega) rfl fun _ => ⟨u, b, hu, hub, rfl⟩⟩
  simp [execOp, ho, hp]
end
end Go.Proofs.Ytpcfkflhnkfjjaa
/- Rows of rows of the call's own: written, given up as data; data that is lent for one call; other numbers for objects. -/
set_option linter.unusedVariables false
set_option linter.unusedSimpArgs false
namespace Go.Proofs.Ytpcfkflhnkfjjaa
open Go Go.RowKit

section
variable {P : Program} {F S0 : Nat → Prop} {N0 : Nat} {w w' : World} {S S' : Nat → Prop} {ψ ψ' : Env} {K : Nat → Prop} {T : List (TypeId × TD)} {o : Oper} {a : Act} {st : St} {t : TypeId} {d : TD} {id : Nat} {ids : List Nat} {heap : List (Nat × AObj)}

theorem set_same {n : Nat} (hl : ψ.len id = n) : ψ.set id n (ψ.val id) = ψ := by
  unfold Env.set
  congr 1
  · funext j; split
    · rename_i hj; rw [hj, hl]
    · rfl
  · funext j; split
    · rename_i hj; rw [hj]
    · rfl
/-- one cell of a row is written -/
theorem own_set {e : TypeId} {n cap g j : Nat} {cs : List Value} {cur : Array Value} {u : Value} (hg : w.heap[g]? = some (.cells cur e (0, 0))) (hc1 : n ≤ cap) (hc2 : cap ≤ maxLen) (hc3 : cur.size = cap) (hc4 : cur.toList.take n = cs) (hcl : cs.length = n) (hj : j < n) :
    (w.setRow g (cur.toList.set j u).toArray).ownsRow 0 e 1 (.slice (some ⟨g, 0, none⟩) n cap) n (cs.set j u) :=
  ⟨by rw [List.length_set, hcl, Nat.mul_one], .inr ⟨g, cap, _, rfl, Nat.zero_le _, setRow_same g hg, hc1, hc2, by simp [hc3], by rw [Nat.mul_one, List.take_set, hc4]⟩⟩
theorem run_set1 {e : TypeId} {cur : Array Value} {g j : Nat} {u : Value} (hg : w.heap[g]? = some (.cells cur e (0, 0))) (hj : j < cur.size) (huo : u.oneCell' = true) :
    (storeCells ⟨g, j, none⟩ [u] 0).run P w = .ok () (w.setRow g (cur.toList.set j u).toArray) := by
  have hst := run_storeCells_at (P := P) g j e [u] 0 cur w hg (by simp; omega) (fun v hv => by simp at hv; rw [hv]; exact huo)
  have : (cur.toList.take (j + 0) ++ [u] ++ cur.toList.drop (j + 0 + [u].length)) = cur.toList.set j u := by
    rw [List.set_eq_take_append_cons_drop, if_pos (by simpa using hj)]
    simp
  rw [this] at hst
  exact hst
theorem one_cells {u : Value} (h : u.oneCell' = true) : u.cells = #[u] := by cases u <;> first | rfl | cases h
theorem nodist {vs : List Value} {i j b : Nat} {u v : Value} (h : ∀ (i j : Nat) (u v : Value) (b : Nat), vs[i]? = some u → vs[j]? = some v → i ≠ j → blkOf u = some b → blkOf v ≠ some b) (hi : vs[i]? = some u) (hj : vs[j]? = some v) (hne : i ≠ j) (hb : blkOf u = some b) :
    ∀ k, v.ownBlock = some k → k ≠ b := fun k hk e => h i j u v b hi hj hne hb (by rw [ownBlock_blkOf hk, e])

/-- an element of a row is written -/
theorem e_tinStore {α : Type} {f : α → Value} {rows : List (List α)} {row : List α} {x y : α} {i j : Int} {X Y : Operand} {g : Nat} {ov : Value} {eo : TypeId} (h : idx rows i = some row) (h2 : idx row j = some x) (hT : TOk P T) (ho : o.op = .store t X Y) (hd : lookT T t = some d) (hz : d.size = 1) (hx : st.eval X = .iref id g (i.toNat + 1) j.toNat)
    (hob : lookO st.heap id = some (.tab g ov eo t (rows.map (List.map f)))) (hy : st.eval Y = .fz (.atom (f y))) : StepA P o st .any ((id, .tab g ov eo t ((rows.set i.toNat (row.set j.toNat y)).map (List.map f))) :: st.heap) st.ids := by
  intro F S0 N0 ψ S a w hs'
  have hd := hT.get hd
  have hcore := hs'.core
  obtain ⟨hid, hO, hfr⟩ := hcore.obj id _ hob
  obtain ⟨v, vs, hg, hval, hv1, hv2, hown, hr, hone⟩ := tin_row h hO
  obtain ⟨_, vs', hval', hvl, hownO, hin, hdis⟩ := hO
  obtain rfl : vs' = vs := by rw [hval] at hval'; simpa using hval'.symm
  unfold idx at h2
  split at h2
  · rename_i h0
    have hlt : j.toNat < row.length := (List.getElem?_eq_some_iff.1 h2).1
    obtain ⟨gb, cap, cur, hov, hgb, hc1, hc2, hc3, hc4⟩ := owns_some hown (by omega)
    have hxa := hs'.eval X
    rw [hx] at hxa
    have hbv : blkOf v = some gb := by rw [hov]; rfl
    have hp := tin_ptr hxa hg hv1 hbv
    have hya := hs'.eval Y
    rw [hy] at hya
    have huo : (f y).oneCell' = true := by
      have hyi := hya.inv
      generalize a.eval Y = u at hyi
      cases hyi with | atom h => exact h
    have hya := hya.atom
    have hst := run_set1 (P := P) (u := f y) (j := j.toNat) hgb (by rw [hc3]; omega) huo
    obtain ⟨w', hw'⟩ : ∃ w', w' = w.setRow gb (cur.toList.set j.toNat (f y)).toArray := ⟨_, rfl⟩
    rw [← hw'] at hst
    have hother : ∀ k, k ≠ gb → w'.heap[k]? = w.heap[k]? := fun k hk => by rw [hw']; exact setRow_oth gb _ k hk
    have hsz : w'.heap.size = w.heap.size := by rw [hw']; simp [World.setRow]
    have hB : Blk (ψ.val id) gb := by rw [hval]; exact .inr ⟨v, by simp only [inTup]; exact List.mem_cons_of_mem _ (List.mem_of_getElem? hv2), hbv⟩
    have hoth : ∀ k, k < w.heap.size → ¬ Blk (ψ.val id) k → w'.heap[k]? = w.heap[k]? := fun k _ hk => hother k fun e => hk (e ▸ hB)
    have hset := set_same (ψ := ψ) (id := id) hg
    obtain ⟨c1, c2, c3⟩ := hcore.upd (n := g) (v := ψ.val id) (w' := w') (ob' := .tab g ov eo t ((rows.set i.toNat (row.set j.toNat y)).map (List.map f))) hob (by omega) hoth (.inr ⟨hg, rfl⟩) (fun b hb => .inl hb) (by
      rw [hset]
      refine ⟨hg, vs', hval, by simpa using hvl, ?_, fun k u xs hu hxs => ?_, hdis⟩
      · rw [List.length_map, List.length_set]
        rw [List.length_map] at hownO
        exact ownsRow_keep hownO fun b hb => hother b (nodist hdis (i := i.toNat + 1) (j := 0) (by rw [List.getElem?_cons_succ]; exact hv2) rfl (by omega) hbv b hb)
      · by_cases hk : i.toNat = k
        · subst hk
          rw [hv2] at hu
          cases hu
          have hlr : i.toNat < rows.length := (List.getElem?_eq_some_iff.1 hr).1
          rw [List.getElem?_map, List.getElem?_set_self hlr, Option.map_some] at hxs
          cases hxs
          rw [List.map_set]
          refine ⟨?_, fun u hu => ?_⟩
          · rw [List.length_set, List.length_map, hov, hw']
            exact own_set hgb hc1 hc2 hc3 hc4 (by simp) hlt
          · rcases List.mem_or_eq_of_mem_set hu with hu | rfl
            · exact hone u hu
            · exact huo
        · rw [List.getElem?_map, List.getElem?_set_ne hk, ← List.getElem?_map] at hxs
          obtain ⟨k1, k2⟩ := hin k u xs hu hxs
          exact ⟨ownsRow_keep k1 fun b hb => hother b (nodist hdis (i := i.toNat + 1) (j := k + 1) (by rw [List.getElem?_cons_succ]; exact hv2) (by rw [List.getElem?_cons_succ]; exact hu) (by omega) hbv b hb), k2⟩)
    rw [hset] at c1
    refine relAt_skip (w' := w') ?_ ⟨ψ, S, c1, .any, ⟨by rw [hw']; rfl, by rw [hw']; rfl, by rw [hw']; rfl, by omega, c3⟩, Ext.refl, fun _ h => h, fun _ h => h, c2⟩
    simp only [execOp, ho, Instr.storeAt, hp, hya, Instr.sureAddr, storeVar, hd.size, Sem.run_bind, Sem.run_pure, Result.andThen_ok]
    rw [if_neg (by rw [one_cells huo, hz]; simp)]
    simp [one_cells huo, hst]
  · cases h2

/-- an object that takes another one in -/
theorem Core.upd2 {n id2 : Nat} {v : Value} {ob ob2 ob' : AObj} (h : Core F S0 N0 heap ids ψ S w) (ho : lookO heap id = some ob) (ho2 : lookO heap id2 = some ob2) (hsz : w.heap.size ≤ w'.heap.size) (hoth : ∀ k, k < w.heap.size → ¬ Blk (ψ.val id) k → w'.heap[k]? = w.heap[k]?)
    (hx : ψ.len id < n) (hb : ∀ b, Blk v b → Blk (ψ.val id) b ∨ Blk (ψ.val id2) b) (hO : ObR (ψ.set id n v) (· ∈ ids) S w' id ob') :
    Core F S0 N0 ((id, ob') :: dropO id2 heap) ids (ψ.set id n v) S w' ∧ Same S w w' ∧ ∀ b, F b → w'.heap[b]? = w.heap[b]? := by
  obtain ⟨hid, hob, hfr⟩ := h.obj id ob ho
  obtain ⟨hid2, hob2, hfr2⟩ := h.obj id2 ob2 ho2
  have hk : Same S w w' := fun b hb hl => hoth b hl fun e => (hfr b e).1 hb
  refine ⟨⟨fun i o' ho' => ?_, fun i i' o' o'' b ho1 ho2' hne hb1 hb2 => ?_, fun b hb => Nat.lt_of_lt_of_le (h.lt b hb) hsz, h.s0, Nat.le_trans h.n0 hsz, fun b hb => Nat.lt_of_lt_of_le (h.fr b hb) hsz⟩, hk, fun b hf => hoth b (h.fr b hf) fun e => (hfr b e).2.1 hf⟩
  · rw [lookO_cons] at ho'
    by_cases he : id = i
    · subst he
      rw [if_pos rfl] at ho'
      injection ho' with ho'
      subst ho'
      refine ⟨hid, hO, fun b hb' => ?_⟩
      rw [set_val] at hb'
      rcases hb b hb' with h1 | h1
      · exact hfr b h1
      · exact hfr2 b h1
    · rw [if_neg he] at ho'
      obtain ⟨_, ho'⟩ := dropO_get id2 ho'
      obtain ⟨h1, h2, h3⟩ := h.obj i o' ho'
      have hso := set_other (ψ := ψ) (Ne.symm he) n v
      refine ⟨h1, h2.keep (ext_upd (.inl hx)) (fun _ h => h) (fun _ h => h) hk hso fun b hb' => hoth b (h2.lt hb') fun e => h.inj i id o' ob b ho' ho (Ne.symm he) hb' e, fun b hb' => h3 b (by rw [hso.2] at hb'; exact hb')⟩
  · have key : ∀ {i' o''}, id ≠ i' → lookO (dropO id2 heap) i' = some o'' → ∀ {b}, Blk v b → ¬ Blk ((ψ.set id n v).val i') b := fun {i' o''} he' hl {b} hb1 hb2 => by
      obtain ⟨hn2, hl⟩ := dropO_get id2 hl
      rw [(set_other (ψ := ψ) (Ne.symm he') n v).2] at hb2
      rcases hb b hb1 with h4 | h4
      · exact h.inj id i' ob o'' b ho hl he' h4 hb2
      · exact h.inj id2 i' ob2 o'' b ho2 hl (Ne.symm hn2) h4 hb2
    rw [lookO_cons] at ho1 ho2'
    by_cases he : id = i
    · subst he
      rw [if_neg hne] at ho2'
      rw [set_val] at hb1
      exact key hne ho2' hb1 hb2
    · rw [if_neg he] at ho1
      by_cases he' : id = i'
      · subst he'
        rw [set_val] at hb2
        exact key he ho1 hb2 hb1
      · rw [if_neg he'] at ho2'
        obtain ⟨_, ho1⟩ := dropO_get id2 ho1
        obtain ⟨_, ho2'⟩ := dropO_get id2 ho2'
        rw [(set_other (ψ := ψ) (Ne.symm he) n v).2] at hb1
        rw [(set_other (ψ := ψ) (Ne.symm he') n v).2] at hb2
        exact h.inj i i' o' o'' b ho1 ho2' hne hb1 hb2

/-- a row of the call's own becomes one of a row of rows -/
theorem e_tabStore {α : Type} {f : α → Value} {enc : α → FV} {rows : List (List α)} {row zs : List α} {i : Int} {X Y : Operand} {g id2 n : Nat} {ov : Value} {ei : TypeId} (h : idx rows i = some row) (hT : TOk P T) (ho : o.op = .store t X Y) (hd : lookT T t = some d) (hz : d.size = 1) (hx : st.eval X = .iref id g 0 i.toNat)
    (hob : lookO st.heap id = some (.tab g ov t ei (rows.map (List.map f)))) (hy : st.eval Y = .row id2 n) (hob2 : lookO st.heap id2 = some (.frow ei 1 (zs.map enc))) (hn : n = zs.length) (hf : ∀ y, enc y = .atom (f y) ∧ (f y).oneCell' = true) :
    StepA P o st .any ((id, .tab (g + 1) ov t ei ((rows.set i.toNat zs).map (List.map f))) :: dropO id2 st.heap) st.ids := by
  subst hn
  intro F S0 N0 ψ S a w hs'
  have hd := hT.get hd
  have hcore := hs'.core
  have hne : id ≠ id2 := fun e => by rw [e, hob2] at hob; cases hob
  obtain ⟨hid, ⟨hg, vs, hval, hvl, hown, hin, hdis⟩, hfr⟩ := hcore.obj id _ hob
  obtain ⟨hid2, ⟨hl2, _, cs, hown2, _, hr2⟩, hfr2⟩ := hcore.obj id2 _ hob2
  rw [List.length_map] at hvl hown hl2 hown2
  unfold idx at h
  split at h
  · rename_i h0
    have hlt : i.toNat < rows.length := (List.getElem?_eq_some_iff.1 h).1
    obtain ⟨gb, cap, cur, hov, hgb, hc1, hc2, hc3, hc4⟩ := owns_some hown (by omega)
    have hbv : blkOf ov = some gb := by rw [hov]; rfl
    have hxa := hs'.eval X
    rw [hx] at hxa
    have hp := tin_ptr hxa hg (v := ov) (by rw [hval]; rfl) hbv
    have hya := hs'.eval Y
    rw [hy] at hya
    obtain ⟨u, hu⟩ : ∃ u, u = ψ.val id2 := ⟨_, rfl⟩
    have hyv : a.eval Y = u := by
      rw [hu]
      generalize a.eval Y = u at hya
      cases hya with
      | row hK hn' h1 hv => exact hv hl2.symm
    rw [← hu] at hown2
    have huo : u.oneCell' = true := own_one hown2
    have hcs : cs = zs.map f := by
      have hcl : cs.length = zs.length := by rw [hown2.1, Nat.mul_one]
      apply List.ext_getElem (by rw [hcl, List.length_map])
      intro k h1 h2
      rw [List.length_map] at h2
      have := hr2 k (enc zs[k]) 0 cs[k] (enc zs[k]) (by rw [List.getElem?_map, List.getElem?_eq_getElem h2]; rfl) (by simp) (by rw [(hf zs[k]).1]; rfl)
      rw [(hf zs[k]).1] at this
      rw [this.atom_eq, List.getElem_map]
    have hst := run_set1 (P := P) (u := u) (j := i.toNat) hgb (by rw [hc3]; omega) huo
    obtain ⟨w', hw'⟩ : ∃ w', w' = w.setRow gb (cur.toList.set i.toNat u).toArray := ⟨_, rfl⟩
    rw [← hw'] at hst
    have hother : ∀ k, k ≠ gb → w'.heap[k]? = w.heap[k]? := fun k hk => by rw [hw']; exact setRow_oth gb _ k hk
    have hsz : w'.heap.size = w.heap.size := by rw [hw']; simp [World.setRow]
    have hBm : ∀ u b, u ∈ ov :: vs → blkOf u = some b → Blk (ψ.val id) b := fun u b hu hb => by
      rw [hval]; exact .inr ⟨u, by simpa [inTup] using hu, hb⟩
    have hB : Blk (ψ.val id) gb := hBm ov gb (List.mem_cons_self ..) hbv
    have hoth : ∀ k, k < w.heap.size → ¬ Blk (ψ.val id) k → w'.heap[k]? = w.heap[k]? := fun k _ hk => hother k fun e => hk (e ▸ hB)
    have hBu : ∀ b, blkOf u = some b → Blk (ψ.val id2) b := fun b hb => .of (hu ▸ hb)
    have hub : ∀ v b, v ∈ ov :: vs → blkOf v = some b → blkOf u ≠ some b := fun v b hv hb hb2 => hcore.inj id id2 _ _ b hob hob2 hne (hBm v b hv hb) (hBu b hb2)
    have hvi : i.toNat < vs.length := by omega
    obtain ⟨c1, c2, c3⟩ := hcore.upd2 (n := g + 1) (v := .tuple (ov :: vs.set i.toNat u).toArray) (w' := w') (ob' := .tab (g + 1) ov t ei ((rows.set i.toNat zs).map (List.map f))) hob hob2 (by omega) hoth (by omega) (fun b hb => by
        rcases hb with hb | ⟨v, hv, hb⟩
        · cases hb
        · simp only [inTup] at hv
          rcases List.mem_cons.1 hv with rfl | hv
          · exact .inl (hBm _ b (List.mem_cons_self ..) hb)
          · rcases List.mem_or_eq_of_mem_set hv with hv | rfl
            · exact .inl (hBm v b (List.mem_cons_of_mem _ hv) hb)
            · exact .inr (hBu b hb)) (by
      refine ⟨set_len _ _, vs.set i.toNat u, set_val _ _, by simpa using hvl, ?_, fun k v xs hv hxs => ?_, fun k j v1 v2 b h1 h2 hkj hb1 => ?_⟩
      · rw [List.length_map, List.length_set, hov, hw']
        exact own_set hgb hc1 hc2 hc3 hc4 hvl hlt
      · by_cases hk : i.toNat = k
        · subst hk
          rw [List.getElem?_set_self hvi] at hv
          cases hv
          rw [List.getElem?_map, List.getElem?_set_self hlt, Option.map_some] at hxs
          cases hxs
          rw [List.length_map]
          refine ⟨hcs ▸ ownsRow_keep hown2 fun b hb => hother b fun e => hub ov gb (List.mem_cons_self ..) hbv (by rw [ownBlock_blkOf hb, e]), fun y hy => ?_⟩
          obtain ⟨z, _, rfl⟩ := List.mem_map.1 hy
          exact (hf z).2
        · rw [List.getElem?_set_ne hk] at hv
          rw [List.getElem?_map, List.getElem?_set_ne hk, ← List.getElem?_map] at hxs
          obtain ⟨k1, k2⟩ := hin k v xs hv hxs
          exact ⟨ownsRow_keep k1 fun b hb => hother b (nodist hdis (i := 0) (j := k + 1) rfl (by rw [List.getElem?_cons_succ]; exact hv) (by omega) hbv b hb), k2⟩
      · have sp : ∀ (k : Nat) (v : Value), (ov :: vs.set i.toNat u)[k]? = some v → (k = i.toNat + 1 ∧ v = u) ∨ (k ≠ i.toNat + 1 ∧ (ov :: vs)[k]? = some v) := fun k v hk => by
          cases k with
          | zero => exact .inr ⟨by omega, hk⟩
          | succ k =>
            rw [List.getElem?_cons_succ] at hk ⊢
            by_cases hik : i.toNat = k
            · subst hik
              rw [List.getElem?_set_self hvi] at hk
              cases hk
              exact .inl ⟨rfl, rfl⟩
            · rw [List.getElem?_set_ne hik] at hk
              exact .inr ⟨by omega, hk⟩
        rcases sp k v1 h1 with ⟨e1, d1⟩ | ⟨e1, g1⟩ <;> rcases sp j v2 h2 with ⟨e2, d2⟩ | ⟨e2, g2⟩
        · omega
        · exact fun hb2 => hub v2 b (List.mem_of_getElem? g2) hb2 (d1 ▸ hb1)
        · exact d2 ▸ hub v1 b (List.mem_of_getElem? g1) hb1
        · exact hdis k j v1 v2 b g1 g2 hkj hb1)
    refine relAt_skip (w' := w') ?_ ⟨_, S, c1, .any, ⟨by rw [hw']; rfl, by rw [hw']; rfl, by rw [hw']; rfl, by omega, c3⟩, ext_upd (.inl (by omega)), fun _ h => h, fun _ h => h, c2⟩
    simp only [execOp, ho, Instr.storeAt, hp, hyv, Instr.sureAddr, storeVar, hd.size, Sem.run_bind, Sem.run_pure, Result.andThen_ok]
    rw [if_neg (by rw [one_cells huo, hz]; simp)]
    simp [one_cells huo, hst]
  · cases h
end
end Go.Proofs.Ytpcfkflhnkfjjaa
/- Rows of rows given up as data; data that is lent for one call; other numbers for objects; make with room; what a map has, and whether. -/
set_option linter.unusedVariables false
set_option linter.unusedSimpArgs false
namespace Go.Proofs.Ytpcfkflhnkfjjaa
open Go Go.RowKit

/-- nothing in a state refers to an object -/
def noI (id : Nat) (ids : List Nat) (st : St) : Bool := !ids.contains id && (st.tmps.all (fun p => okA ids p.2) && st.heap.all (fun p => Nat.beq p.1 id || (ids.contains p.1 && (match p.2 with
  | .box _ cs => okAs ids cs
  | .frow _ _ _ => true
  | .smap _ => true
  | .tab _ _ _ _ _ => true
  | .gho _ vs => okAs ids vs
  | .glb _ => true
  | .sit _ _ => true
  | .was _ ids0 _ _ => ids0.all ids.contains))))
section
variable {P : Program} {F S0 : Nat → Prop} {N0 : Nat} {w w' : World} {S S' : Nat → Prop} {ψ ψ' : Env} {K : Nat → Prop} {T : List (TypeId × TD)} {o : Oper} {a : Act} {st : St} {t : TypeId} {d : TD} {id : Nat} {ids : List Nat} {heap : List (Nat × AObj)}

theorem look_mem : ∀ {l : List (Nat × AV)} {t : Nat}, look .any l t = .any ∨ ∃ p ∈ l, look .any l t = p.2
  | [], _ => .inl rfl
  | (k, v) :: l, t => by
    rw [look_cons]
    split
    · exact .inr ⟨(k, v), List.mem_cons_self .., rfl⟩
    · rcases look_mem (l := l) (t := t) with h | ⟨p, hp, h⟩
      · exact .inl h
      · exact .inr ⟨p, List.mem_cons_of_mem _ hp, h⟩
theorem lookO_mem : ∀ {l : List (Nat × AObj)} {t : Nat} {ob : AObj}, lookO l t = some ob → (t, ob) ∈ l
  | [], _, _, h => by cases h
  | (k, v) :: l, t, ob, h => by
    rw [lookO_cons] at h
    split at h
    · rename_i hk; cases hk; cases h; exact List.mem_cons_self ..
    · exact List.mem_cons_of_mem _ (lookO_mem h)
/-- the count of a row of rows begins anew -/
theorem le_tabG (id : Nat) (ids : List Nat) {g : Nat} {ov : Value} {eo ei : TypeId} {rows : List (List Value)} (hob : lookO st.heap id = some (.tab g ov eo ei rows)) (hn : noI id ids st = true) (hi : ids.all st.ids.contains = true) : LeSt st { st with heap := (id, .tab 0 ov eo ei rows) :: dropO id st.heap } := by
  intro F S0 N0 ψ S a w hs
  unfold noI at hn
  simp only [Bool.and_eq_true, Bool.not_eq_true', List.all_eq_true, Bool.or_eq_true] at hn
  obtain ⟨h1, h2, h3⟩ := hn
  have hin : id ∉ ids := by simpa using h1
  have hsub : ∀ i, i ∈ ids → i ∈ st.ids := fun i hi' => by simpa using List.all_eq_true.1 hi i hi'
  have hcore := hs.core
  obtain ⟨hid, ⟨hg, vs, hval, hvl, hown, hinn, hdis⟩, hfr⟩ := hcore.obj id _ hob
  have hext : Ext (· ∈ ids) ψ (ψ.set id 0 (ψ.val id)) := ext_new hin _ _
  have hv : ∀ j, (ψ.set id 0 (ψ.val id)).val j = ψ.val j := fun j => by
    by_cases hj : j = id
    · subst hj; rw [set_val]
    · exact (set_other (ψ := ψ) hj _ _).2
  have keepA : ∀ {v x}, RV ψ (· ∈ st.ids) S w v x → okA ids x = true → RV (ψ.set id 0 (ψ.val id)) (· ∈ st.ids) S w v x := fun {v x} h ho =>
    (h.subA ho).keep hext hsub (fun _ h => h) (fun _ _ _ => rfl)
  refine ⟨ψ.set id 0 (ψ.val id), S, hs.defers, hs.size, fun t => ?_, ⟨fun i ob ho => ?_, fun i i' ob ob' b ho ho' hne hb hb' => ?_, hcore.lt, hcore.s0, hcore.n0, hcore.fr⟩⟩
  · have hk := hs.tmps t
    show RV _ _ S w _ (look .any st.tmps t)
    rcases look_mem (l := st.tmps) (t := t) with h | ⟨p, hp, h⟩
    · rw [h]; exact .any
    · unfold St.get at hk
      rw [h] at hk ⊢
      exact keepA hk (h2 p hp)
  · rw [lookO_cons] at ho
    by_cases he : id = i
    · subst he
      rw [if_pos rfl] at ho
      cases ho
      exact ⟨hid, ⟨set_len _ _, vs, by rw [set_val, hval], hvl, hown, hinn, hdis⟩, fun b hb => hfr b (by rwa [hv] at hb)⟩
    · rw [if_neg he] at ho
      obtain ⟨_, ho⟩ := dropO_get id ho
      obtain ⟨k1, k2, k3⟩ := hcore.obj i ob ho
      have hso := set_other (ψ := ψ) (Ne.symm he) 0 (ψ.val id)
      refine ⟨k1, ?_, fun b hb => k3 b (by rwa [hv] at hb)⟩
      rcases h3 _ (lookO_mem ho) with h | h
      · exact absurd (Nat.eq_of_beq_eq_true h) (Ne.symm he)
      · obtain ⟨hc, h⟩ := h
        cases ob with
        | box e cells =>
          obtain ⟨q0, b, cs, q1, q2, q3, q4, q5⟩ := k2
          simp only [okAs_eq] at h
          exact ⟨by rw [hso.1, q0], b, cs, by rw [hso.2, q1], q2, q3, q4, fun j v x hv hx => keepA (q5 j v x hv hx) (List.all_eq_true.1 h x (List.mem_of_getElem? hx))⟩
        | frow e size xs =>
          obtain ⟨q0, q1, cs, q2, q3, q4⟩ := k2
          exact ⟨by rw [hso.1, q0], q1, cs, by rw [hso.2]; exact q2, q3, q4⟩
        | sit s pos =>
          obtain ⟨q0, b, q1, q2⟩ := k2
          exact ⟨by rw [hso.1, q0], b, by rw [hso.2, q1], q2⟩
        | glb gs =>
          obtain ⟨q0, q1, q2, q3⟩ := k2
          exact ⟨by rw [hso.1, q0], by rw [hso.2, q1], by rw [hso.2, q2], q3⟩
        | smap kv =>
          obtain ⟨q0, b, es, cl, q1, q2⟩ := k2
          exact ⟨by rw [hso.1, q0], b, es, cl, by rw [hso.2, q1], q2⟩
        | tab g ov eo ei rows =>
          obtain ⟨q0, vs, q1, q2⟩ := k2
          exact ⟨by rw [hso.1, q0], vs, by rw [hso.2, q1], q2⟩
        | gho cs vs =>
          obtain ⟨q0, q1, q2, q3⟩ := k2
          simp only [okAs_eq] at h
          exact ⟨by rw [hso.1, q0], by rw [hso.2, q1], by rw [hso.2, q2], fun j v x hv hx => keepA (q3 j v x hv hx) (List.all_eq_true.1 h x (List.mem_of_getElem? hx))⟩
        | was ψ0 ids0 S1 w0 =>
          obtain ⟨q0, q1, q2, q3, q4, q5, q6⟩ := k2
          refine ⟨by rw [hso.1, q0], by rw [hso.2, q1], by rw [hso.2, q2], fun j hj => ?_, q4, q5, q6⟩
          have hj' : j ∈ ids := by simpa using List.all_eq_true.1 h j hj
          have hso' := set_other (ψ := ψ) (i := j) (id := id) (fun e => hin (e ▸ hj')) 0 (ψ.val id)
          rw [hso'.1, hso'.2]
          exact q3 j hj
  · rw [hv] at hb hb'
    have up : ∀ {i ob}, lookO ((id, AObj.tab 0 ov eo ei rows) :: dropO id st.heap) i = some ob → ∃ ob', lookO st.heap i = some ob' := fun {i ob} h => by
      rw [lookO_cons] at h
      split at h
      · rename_i he; exact ⟨_, he ▸ hob⟩
      · exact ⟨_, (dropO_get id h).2⟩
    obtain ⟨o1, g1⟩ := up ho
    obtain ⟨o2, g2⟩ := up ho'
    exact hcore.inj i i' o1 o2 b g1 g2 hne hb hb'

theorem atoms_el (r : List Value) (h : ∀ u ∈ r, u.oneCell' = true) : ElR 1 (r.map .atom) := fun x hx => by
  obtain ⟨u, hu, rfl⟩ := List.mem_map.1 hx
  exact ⟨rfl, fun y hy => by simp [FV.cells] at hy; subst hy; exact h u hu⟩
theorem atoms_row (r : List Value) (h : ∀ u ∈ r, u.oneCell' = true) : RowR S w 1 (r.map .atom) r := fun i x j v y hx hv hy => by
  rw [List.getElem?_map, Option.map_eq_some_iff] at hx
  obtain ⟨u, hu, rfl⟩ := hx
  have hj : j = 0 := by
    have := (List.getElem?_eq_some_iff.1 hy).1
    simp [FV.cells] at this
    exact this
  subst hj
  simp [FV.cells] at hy
  subst hy
  rw [Nat.mul_one, Nat.add_zero, hu] at hv
  cases hv
  exact .atom (h _ (List.mem_of_getElem? hu))
theorem tab_data {g : Nat} {ov : Value} {eo ei : TypeId} {rows : List (List Value)} (h : ObR ψ K S w id (.tab g ov eo ei rows)) : RF (fun b => S b ∨ Blk (ψ.val id) b) w ov (tabF rows) := by
  obtain ⟨hg, vs, hval, hvl, hown, hin, hdis⟩ := h
  have hB : ∀ u b, u ∈ ov :: vs → blkOf u = some b → Blk (ψ.val id) b := fun u b hu hb => by
    rw [hval]; exact .inr ⟨u, by simpa [inTup] using hu, hb⟩
  have hlen : rows.length = (rows.map fun r : List Value => FV.lst 1 r.length (r.map .atom)).length := by simp
  have hinner : ∀ (j : Nat) (v : Value) (r : List Value), vs[j]? = some v → rows[j]? = some r → RF (fun b => S b ∨ Blk (ψ.val id) b) w v (.lst 1 r.length (r.map .atom)) := fun j v r hv hr => by
    obtain ⟨k1, k2⟩ := hin j v r hv hr
    have := own_lst (S := S) (xs := r.map .atom) (by omega) (by simpa using k1) (atoms_el r k2) (atoms_row r k2)
    rw [List.length_map] at this
    exact this.mono fun b hb => hb.imp _root_.id fun h => hB v b (List.mem_cons_of_mem _ (List.mem_of_getElem? hv)) h
  have hel : ElR 1 (rows.map fun r : List Value => FV.lst 1 r.length (r.map .atom)) := fun x hx => by
    obtain ⟨r, hr, rfl⟩ := List.mem_map.1 hx
    exact ⟨rfl, fun y hy => by simp [FV.cells] at hy; subst hy; rfl⟩
  have := own_lst (S := fun b => S b ∨ Blk (ψ.val id) b) (xs := rows.map fun r : List Value => FV.lst 1 r.length (r.map .atom)) (by omega) (by rw [← hlen]; exact hown) hel (fun i x j v y hx hv hy => by
    rw [List.getElem?_map, Option.map_eq_some_iff] at hx
    obtain ⟨r, hr, rfl⟩ := hx
    have hj : j = 0 := by
      have := (List.getElem?_eq_some_iff.1 hy).1
      simp [FV.cells] at this
      exact this
    subst hj
    simp [FV.cells] at hy
    subst hy
    rw [Nat.mul_one, Nat.add_zero] at hv
    exact hinner i v r hv hr)
  rw [← hlen] at this
  exact this.mono fun b hb => hb.elim _root_.id fun h => .inr (hB ov b (List.mem_cons_self ..) h)
/-- data that is lent for one call: slot, what it holds -/
inductive LendI where
  | row (t id n : Nat) (e : TypeId) (size : Nat) (xs : List FV)
  | tab (t id g : Nat) (ov : Value) (eo ei : TypeId) (rows : List (List Value)) (x : FV)
  | inn (t id g : Nat) (ov : Value) (eo ei : TypeId) (rows : List (List Value)) (i : Nat) (x : FV)
def LendI.ok (st : St) : LendI → Prop
  | .row t id n e size xs => st.get t = .row id n ∧ lookO st.heap id = some (.frow e size xs) ∧ n = xs.length
  | .tab t id g ov eo ei rows x => st.get t = .fz (.atom ov) ∧ lookO st.heap id = some (.tab g ov eo ei rows) ∧ x = tabF rows
  | .inn t id g ov eo ei rows i x => st.get t = .irow id g (i + 1) ∧ lookO st.heap id = some (.tab g ov eo ei rows) ∧ ∃ r, rows[i]? = some r ∧ x = .lst 1 r.length (r.map .atom)
def LendI.slot : LendI → Nat × AV
  | .row t _ n _ size xs => (t, .fz (.lst size n xs))
  | .tab t _ _ _ _ _ _ x => (t, .fz x)
  | .inn t _ _ _ _ _ _ _ x => (t, .fz x)
def lendS (ls : List LendI) (st : St) : St := { st with tmps := ls.map LendI.slot ++ st.tmps }
theorem row_data {e : TypeId} {size : Nat} {xs : List FV} (h : ObR ψ K S w id (.frow e size xs)) : RF (fun b => S b ∨ Blk (ψ.val id) b) w (ψ.val id) (.lst size xs.length xs) := by
  obtain ⟨h0, hsz, cs, hown, hel, hr⟩ := h
  exact (own_lst hsz hown hel hr).mono fun b hb => hb.imp _root_.id .of
theorem lend_get {SB : Nat → Prop} : ∀ (ls : List LendI), (∀ l ∈ ls, l.ok st) → (∀ t, RV ψ (· ∈ st.ids) S w (a.tmps.getD t undef) (st.get t)) → (∀ id ob, lookO st.heap id = some ob → ObR ψ (· ∈ st.ids) S w id ob) → (∀ id ob, lookO st.heap id = some ob → ∀ b, (S b ∨ Blk (ψ.val id) b) → SB b) → (∀ b, S b → SB b) →
    ∀ t, RV ψ (· ∈ st.ids) SB w (a.tmps.getD t undef) (look .any (ls.map LendI.slot ++ st.tmps) t)
  | [], _, ht, _, _, hS, t => (ht t).mono (fun _ h => h) hS
  | l :: ls, hl, ht, hO, hsub, hS, t => by
    have hl1 := hl l (List.mem_cons_self ..)
    have hl2 := lend_get ls (fun k hk => hl k (List.mem_cons_of_mem _ hk)) ht hO hsub hS t
    cases l with
    | row t' id n e size xs =>
      obtain ⟨q1, q2, rfl⟩ := hl1
      show RV ψ (· ∈ st.ids) SB w _ (look .any ((t', AV.fz (.lst size xs.length xs)) :: (ls.map LendI.slot ++ st.tmps)) t)
      rw [look_cons]
      split
      · rename_i he
        subst he
        have hv := ht t'
        rw [q1] at hv
        have hob := hO id _ q2
        refine .fz ?_
        generalize a.tmps.getD t' undef = u at hv
        cases hv with
        | row hK hn' h1 hv =>
          rw [hv hob.1.symm]
          exact (row_data hob).mono (hsub id _ q2)
      · exact hl2
    | tab t' id g ov eo ei rows x =>
      obtain ⟨q1, q2, rfl⟩ := hl1
      show RV ψ (· ∈ st.ids) SB w _ (look .any ((t', AV.fz (tabF rows)) :: (ls.map LendI.slot ++ st.tmps)) t)
      rw [look_cons]
      split
      · rename_i he
        subst he
        have hv := ht t'
        rw [q1] at hv
        rw [hv.atom]
        exact .fz ((tab_data (hO id _ q2)).mono (hsub id _ q2))
      · exact hl2
    | inn t' id g ov eo ei rows i x =>
      obtain ⟨q1, q2, r, q3, rfl⟩ := hl1
      show RV ψ (· ∈ st.ids) SB w _ (look .any ((t', AV.fz (.lst 1 r.length (r.map .atom))) :: (ls.map LendI.slot ++ st.tmps)) t)
      rw [look_cons]
      split
      · rename_i he
        subst he
        have hv := ht t'
        rw [q1] at hv
        obtain ⟨hg, vs, hval, hvl, hown, hin, hdis⟩ := hO id _ q2
        have hlt : i < vs.length := by rw [hvl]; exact (List.getElem?_eq_some_iff.1 q3).1
        obtain ⟨k1, k2⟩ := hin i vs[i] r (List.getElem?_eq_getElem hlt) q3
        refine .fz ?_
        have hd := own_lst (S := S) (xs := r.map .atom) (by omega) (by simpa using k1) (atoms_el r k2) (atoms_row r k2)
        rw [List.length_map] at hd
        have hd := hd.mono fun b hb => hsub id _ q2 b (hb.imp _root_.id fun hb => by rw [hval]; exact .inr ⟨vs[i], by simp only [inTup]; exact List.mem_cons_of_mem _ (List.getElem_mem hlt), hb⟩)
        generalize a.tmps.getD t' undef = u at hv
        cases hv with
        | irow hK hn' h1 hv =>
          have := hv hg.symm
          rw [hval] at this
          simp only [inTup, List.getElem?_cons_succ] at this
          rw [List.getElem?_eq_getElem hlt] at this
          cases this
          exact hd
      · exact hl2
theorem n_lend (ls : List LendI) {c : FV} (hl : ∀ l ∈ ls, l.ok st) (hn : NStep P o (lendS ls st) (.fz c)) (hc : atomF c = true) : NStep P o st (.fz c) := by
  intro ψ S a w ht hO
  let SB : Nat → Prop := fun b => S b ∨ ∃ id ob, lookO st.heap id = some ob ∧ Blk (ψ.val id) b
  have hsub : ∀ id ob, lookO st.heap id = some ob → ∀ b, (S b ∨ Blk (ψ.val id) b) → SB b := fun id ob h b hb => hb.imp _root_.id fun hb => ⟨id, ob, h, hb⟩
  refine relAt_mono ?_ (hn ψ SB a w (fun t => ?_) fun id ob ho => ?_)
  · rintro v w' ⟨hg, hv⟩
    refine ⟨hg, .fz ?_⟩
    have hv := hv.inv
    cases c with
    | atom u => cases hv with | atom h => exact .atom h
    | tup vs =>
      cases hv with
      | tup h hr =>
        refine .tup h fun i v x hv hx => ?_
        have hx' := List.all_eq_true.1 hc x (List.mem_of_getElem? hx)
        have := hr i v x hv hx
        cases x with
        | atom u => cases this with | atom h => exact .atom h
        | _ => cases hx'
    | _ => cases hc
  · exact lend_get ls hl (fun t => ht t) hO hsub (fun b h => .inl h) t
  · exact (hO id ob ho).keep Ext.refl (fun _ h => h) (fun b hb => .inl hb) (fun _ _ _ => rfl) ⟨rfl, rfl⟩ fun _ _ => rfl

/-- other numbers for all objects of a state -/
def renX (r : List (Nat × Nat)) : AObj → AObj
  | .gho cs vs => .gho cs (renAs r vs)
  | ob => renO r ob
def renHX (r : List (Nat × Nat)) : List (Nat × AObj) → List (Nat × AObj)
  | [] => []
  | (k, v) :: l => (rn r k, renX r v) :: renHX r l
def renTs (r : List (Nat × Nat)) : List (Nat × AV) → List (Nat × AV)
  | [] => []
  | (k, v) :: l => (k, renA r v) :: renTs r l
def renSt (r : List (Nat × Nat)) (st : St) : St := { n := st.n, tmps := renTs r st.tmps, heap := renHX r st.heap, ids := renI r st.ids, dfr := st.dfr }
def renOk (r : List (Nat × Nat)) (st : St) : Bool := distB (renI r st.ids) && st.heap.all (fun p => match p.2 with
  | .was _ ids0 _ _ => ids0.all (fun i => Nat.beq (rn r i) i && st.ids.contains i)
  | .box _ cs => okAs st.ids cs
  | _ => true)
theorem look_renTs {r : List (Nat × Nat)} : ∀ {l : List (Nat × AV)} {t : Nat}, look .any (renTs r l) t = renA r (look .any l t)
  | [], _ => rfl
  | (k, v) :: l, t => by
    simp only [renTs, look_cons]
    split
    · rfl
    · exact look_renTs
theorem lookO_renHX {r : List (Nat × Nat)} {j : Nat} : ∀ {A : List (Nat × AObj)} {ob : AObj}, lookO (renHX r A) j = some ob → ∃ i o, (i, o) ∈ A ∧ lookO A i = some o ∧ rn r i = j ∧ ob = renX r o
  | [], ob, h => by cases h
  | (k, v) :: A, ob, h => by
    simp only [renHX] at h
    rw [lookO_cons] at h
    by_cases hk : rn r k = j
    · rw [if_pos hk] at h
      cases h
      exact ⟨k, v, List.mem_cons_self .., by rw [lookO_cons, if_pos rfl], hk, rfl⟩
    · rw [if_neg hk] at h
      obtain ⟨i, o, h0, h1, h2, h3⟩ := lookO_renHX h
      exact ⟨i, o, List.mem_cons_of_mem _ h0, by rw [lookO_cons, if_neg (fun e => hk (by rw [e, h2]))]; exact h1, h2, h3⟩
theorem le_ren (r : List (Nat × Nat)) (h : renOk r st = true) : LeSt st (renSt r st) := by
  unfold renOk at h
  simp only [Bool.and_eq_true] at h
  obtain ⟨hd, hall⟩ := h
  have hall := List.all_eq_true.1 hall
  rw [renI_eq] at hd
  have inj := distB_inj hd
  intro F S0 N0 ψ S a w hs
  let ψ' : Env := ⟨fun j => match st.ids.find? (fun k => Nat.beq (rn r k) j) with | some i => ψ.len i | none => 0, fun j => match st.ids.find? (fun k => Nat.beq (rn r k) j) with | some i => ψ.val i | none => .nilFunc⟩
  have hfind : ∀ i, i ∈ st.ids → st.ids.find? (fun k => Nat.beq (rn r k) (rn r i)) = some i := fun i hi => by
    cases h : st.ids.find? (fun k => Nat.beq (rn r k) (rn r i)) with
    | none =>
      rw [List.find?_eq_none] at h
      exact absurd (Nat.beq_refl _) (h i hi)
    | some k =>
      have h1 := List.find?_some h
      rw [inj k i (List.mem_of_find?_eq_some h) hi (Nat.eq_of_beq_eq_true h1)]
  have hr : ∀ i, i ∈ st.ids → rn r i ∈ renI r st.ids ∧ ψ'.len (rn r i) = ψ.len i ∧ ψ'.val (rn r i) = ψ.val i := fun i hi => by
    refine ⟨by rw [renI_eq]; exact List.mem_map_of_mem hi, ?_, ?_⟩
    · show (match st.ids.find? (fun k => Nat.beq (rn r k) (rn r i)) with | some i => ψ.len i | none => 0) = _
      rw [hfind i hi]
    · show (match st.ids.find? (fun k => Nat.beq (rn r k) (rn r i)) with | some i => ψ.val i | none => .nilFunc) = _
      rw [hfind i hi]
  have hcore := hs.core
  refine ⟨ψ', S, hs.defers, hs.size, fun t => ?_, ⟨fun j ob ho => ?_, fun j j' ob ob' b ho ho' hne hb hb' => ?_, hcore.lt, hcore.s0, hcore.n0, hcore.fr⟩⟩
  · show RV ψ' _ S w _ (look .any (renTs r st.tmps) t)
    rw [look_renTs]
    exact (hs.tmps t).ren hr
  · obtain ⟨i, o, hm, h1, rfl, rfl⟩ := lookO_renHX ho
    obtain ⟨k1, k2, k3⟩ := hcore.obj i o h1
    obtain ⟨e1, e2, e3⟩ := hr i k1
    have hq := hall _ hm
    refine ⟨e1, ?_, fun b hb => k3 b (by rwa [e3] at hb)⟩
    cases o with
    | box e cs => exact k2.ren (ids := st.ids) hr k1 hq
    | frow e s xs => exact k2.ren (ids := st.ids) hr k1 rfl
    | smap kv => exact k2.ren (ids := st.ids) hr k1 rfl
    | glb gs => exact k2.ren (ids := st.ids) hr k1 rfl
    | sit s pos => exact k2.ren (ids := st.ids) hr k1 rfl
    | tab g ov eo ei rows => exact k2.ren (ids := st.ids) hr k1 rfl
    | gho cs vs =>
      obtain ⟨q0, q1, q2, q3⟩ := k2
      refine ⟨by omega, by rw [e3, q1], by rw [e3, q2], fun j v x hv hx => ?_⟩
      rw [renAs_eq, List.getElem?_map, Option.map_eq_some_iff] at hx
      obtain ⟨y, hy, rfl⟩ := hx
      exact (q3 j v y hv hy).ren hr
    | was ψ0 ids0 S1 w0 =>
      obtain ⟨q0, q1, q2, q3, q4, q5, q6⟩ := k2
      have hfix : ∀ j, j ∈ ids0 → rn r j = j ∧ j ∈ st.ids := fun j hj => by
        have := List.all_eq_true.1 hq j hj
        simp only [Bool.and_eq_true] at this
        exact ⟨Nat.eq_of_beq_eq_true this.1, by simpa using this.2⟩
      refine ⟨by omega, by rw [e3, q1], by rw [e3, q2], fun j hj => ?_, fun j hj => ?_, q5, q6⟩
      · obtain ⟨f1, f2⟩ := hfix j hj
        obtain ⟨_, g2, g3⟩ := hr j f2
        rw [f1] at g2 g3
        rw [g2, g3]
        exact q3 j hj
      · obtain ⟨f1, f2⟩ := hfix j hj
        exact f1 ▸ (hr j f2).1
  · obtain ⟨i, o, _, h1, rfl, rfl⟩ := lookO_renHX ho
    obtain ⟨i', o', _, h1', rfl, rfl⟩ := lookO_renHX ho'
    rw [(hr i (hcore.obj i o h1).1).2.2] at hb
    rw [(hr i' (hcore.obj i' o' h1').1).2.2] at hb'
    exact hcore.inj i i' o o' b h1 h1' (fun e => hne (by rw [e])) hb hb'

theorem lend_row {t id n : Nat} {e : TypeId} {size : Nat} {xs : List FV} (h1 : st.get t = .row id n) (h2 : lookO st.heap id = some (.frow e size xs)) (h3 : n = xs.length) : LendI.ok st (.row t id n e size xs) := ⟨h1, h2, h3⟩
theorem lend_inn {α : Type} {f : α → Value} {enc : α → FV} {t id g : Nat} {ov : Value} {eo ei : TypeId} {rows : List (List α)} {row : List α} {i : Int} (h1 : st.get t = .irow id g (i.toNat + 1)) (h2 : lookO st.heap id = some (.tab g ov eo ei (rows.map (List.map f)))) (h3 : idx rows i = some row) (h4 : ∀ y, enc y = .atom (f y)) : LendI.ok st (.inn t id g ov eo ei (rows.map (List.map f)) i.toNat (eL 1 enc row)) := by
  refine ⟨h1, h2, row.map f, ?_, ?_⟩
  · unfold idx at h3
    split at h3
    · rw [List.getElem?_map, h3]; rfl
    · cases h3
  · have : enc = fun y => .atom (f y) := funext h4
    subst this
    simp [eL, Function.comp_def]
theorem lend_nil : ∀ l ∈ ([] : List LendI), l.ok st := fun l h => by cases h
theorem lend_cons {l : LendI} {ls : List LendI} (h : l.ok st) (hs : ∀ k ∈ ls, k.ok st) : ∀ k ∈ l :: ls, k.ok st := fun k hk => by
  rcases List.mem_cons.1 hk with rfl | hk
  · exact h
  · exact hs k hk
end
end Go.Proofs.Ytpcfkflhnkfjjaa
