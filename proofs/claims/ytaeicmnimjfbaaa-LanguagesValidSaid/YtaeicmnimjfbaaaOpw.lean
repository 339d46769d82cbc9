/- Operations that make and change objects of the call's own. -/
import Derived.Test.YtaeicmnimjfbaaaOpc
set_option linter.unusedVariables false
set_option linter.unusedSimpArgs false
namespace Go.Proofs.Ytaeicmnimjfbaaa
open Go Go.RowKit

def Env.set (ψ : Env) (id n : Nat) (v : Value) : Env := ⟨fun i => if i = id then n else ψ.len i, fun i => if i = id then v else ψ.val i⟩

section
variable {P : Program} {F S0 : Nat → Prop} {N0 : Nat} {w w' : World} {S S' : Nat → Prop} {ψ : Env} {K : Nat → Prop} {T : List (TypeId × TD)} {o : Oper} {a : Act} {st : St} {t : TypeId} {d : TD} {heap : List (Nat × AObj)} {ids : List Nat} {id : Nat}

theorem set_len (n : Nat) (v : Value) : (ψ.set id n v).len id = n := by simp [Env.set]
theorem set_val (n : Nat) (v : Value) : (ψ.set id n v).val id = v := by simp [Env.set]
theorem set_other {i : Nat} (h : i ≠ id) (n : Nat) (v : Value) : (ψ.set id n v).len i = ψ.len i ∧ (ψ.set id n v).val i = ψ.val i := by simp [Env.set, h]
theorem ext_new (h : id ∉ ids) (n : Nat) (v : Value) : Ext (· ∈ ids) ψ (ψ.set id n v) := fun i hi => by
  have hne : i ≠ id := fun e => h (e ▸ hi)
  obtain ⟨h1, h2⟩ := set_other (ψ := ψ) hne n v
  exact ⟨by omega, fun _ => h2⟩
theorem ext_upd {n : Nat} {v : Value} (h : ψ.len id < n ∨ (ψ.len id = n ∧ v = ψ.val id)) : Ext (· ∈ ids) ψ (ψ.set id n v) := fun i hi => by
  by_cases hne : i = id
  · subst hne
    rw [set_len, set_val]
    rcases h with h | ⟨h1, h2⟩
    · exact ⟨by omega, fun e => by omega⟩
    · exact ⟨by omega, fun _ => h2⟩
  · obtain ⟨h1, h2⟩ := set_other (ψ := ψ) hne n v
    exact ⟨by omega, fun _ => h2⟩

/-- a new object -/
theorem Core.add {n : Nat} {v : Value} {ob : AObj} (h : Core F S0 N0 heap ids ψ S w) (hg : Grow w w') (hid : id ∉ ids) (hb : ∀ b, blkOf v = some b → w.heap.size ≤ b)
    (hO : ObR (ψ.set id n v) (· ∈ id :: ids) S w' id ob) : Core F S0 N0 ((id, ob) :: heap) (id :: ids) (ψ.set id n v) S w' := by
  have hk : Same S w w' := Same.of_grow hg
  have hids : ∀ i, i ∈ ids → i ≠ id := fun i hi e => hid (e ▸ hi)
  refine ⟨fun i o' ho => ?_, fun i i' o' o'' b ho ho' hne hb1 hb2 => ?_, fun b hb => Nat.lt_of_lt_of_le (h.lt b hb) hg.size, h.s0, Nat.le_trans h.n0 hg.size, fun b hb => Nat.lt_of_lt_of_le (h.fr b hb) hg.size⟩
  · rw [lookO_cons] at ho
    by_cases he : id = i
    · subst he
      rw [if_pos rfl] at ho
      injection ho with ho
      subst ho
      refine ⟨List.mem_cons_self .., hO, fun b hb' => ?_⟩
      rw [set_val] at hb'
      have := hb b hb'
      exact ⟨fun hs => by have := h.lt b hs; omega, fun hf => by have := h.fr b hf; omega, .inr (by have := h.n0; omega)⟩
    · rw [if_neg he] at ho
      obtain ⟨h1, h2, h3⟩ := h.obj i o' ho
      have hso := set_other (ψ := ψ) (hids i h1) n v
      refine ⟨List.mem_cons_of_mem _ h1, h2.keep (ext_new hid n v) (fun _ h => List.mem_cons_of_mem _ h) (fun _ h => h) hk hso fun b hb' => hg.block b (h2.lt hb'), fun b hb' => h3 b (by rw [hso.2] at hb'; exact hb')⟩
  · rw [lookO_cons] at ho ho'
    by_cases he : id = i
    · subst he
      by_cases he' : id = i'
      · exact hne he'
      · rw [if_neg he'] at ho'
        obtain ⟨h1, h2, h3⟩ := h.obj i' o'' ho'
        rw [set_val] at hb1
        rw [(set_other (ψ := ψ) (hids i' h1) n v).2] at hb2
        have := hb b hb1
        have := h2.lt hb2
        omega
    · rw [if_neg he] at ho
      obtain ⟨h1, h2, h3⟩ := h.obj i o' ho
      rw [(set_other (ψ := ψ) (hids i h1) n v).2] at hb1
      by_cases he' : id = i'
      · subst he'
        rw [set_val] at hb2
        have := hb b hb2
        have := h2.lt hb1
        omega
      · rw [if_neg he'] at ho'
        obtain ⟨h1', h2', h3'⟩ := h.obj i' o'' ho'
        rw [(set_other (ψ := ψ) (hids i' h1') n v).2] at hb2
        exact h.inj i i' o' o'' b ho ho' hne hb1 hb2

/-- an object that is changed -/
theorem Core.upd {n : Nat} {v : Value} {ob ob' : AObj} (h : Core F S0 N0 heap ids ψ S w) (ho : lookO heap id = some ob) (hsz : w.heap.size ≤ w'.heap.size) (hoth : ∀ k, k < w.heap.size → blkOf (ψ.val id) ≠ some k → w'.heap[k]? = w.heap[k]?)
    (hx : ψ.len id < n ∨ (ψ.len id = n ∧ v = ψ.val id)) (hb : ∀ b, blkOf v = some b → blkOf (ψ.val id) = some b ∨ w.heap.size ≤ b) (hO : ObR (ψ.set id n v) (· ∈ ids) S w' id ob') :
    Core F S0 N0 ((id, ob') :: heap) ids (ψ.set id n v) S w' ∧ Same S w w' ∧ ∀ b, F b → w'.heap[b]? = w.heap[b]? := by
  obtain ⟨hid, hob, hfr⟩ := h.obj id ob ho
  have hk : Same S w w' := fun b hb hl => hoth b hl fun e => (hfr b e).1 hb
  refine ⟨⟨fun i o' ho' => ?_, fun i i' o' o'' b ho1 ho2 hne hb1 hb2 => ?_, fun b hb => Nat.lt_of_lt_of_le (h.lt b hb) hsz, h.s0, Nat.le_trans h.n0 hsz, fun b hb => Nat.lt_of_lt_of_le (h.fr b hb) hsz⟩, hk, fun b hf => hoth b (h.fr b hf) fun e => (hfr b e).2.1 hf⟩
  · rw [lookO_cons] at ho'
    by_cases he : id = i
    · subst he
      rw [if_pos rfl] at ho'
      injection ho' with ho'
      subst ho'
      refine ⟨hid, hO, fun b hb' => ?_⟩
      rw [set_val] at hb'
      rcases hb b hb' with h1 | h1
      · exact hfr b h1
      · exact ⟨fun hs => by have := h.lt b hs; omega, fun hf => by have := h.fr b hf; omega, .inr (by have := h.n0; omega)⟩
    · rw [if_neg he] at ho'
      obtain ⟨h1, h2, h3⟩ := h.obj i o' ho'
      have hso := set_other (ψ := ψ) (Ne.symm he) n v
      refine ⟨h1, h2.keep (ext_upd hx) (fun _ h => h) (fun _ h => h) hk hso fun b hb' => hoth b (h2.lt hb') fun e => h.inj i id o' ob b ho' ho (Ne.symm he) hb' e, fun b hb' => h3 b (by rw [hso.2] at hb'; exact hb')⟩
  · rw [lookO_cons] at ho1 ho2
    by_cases he : id = i
    · subst he
      by_cases he' : id = i'
      · exact hne he'
      · rw [if_neg he'] at ho2
        obtain ⟨h1, h2, h3⟩ := h.obj i' o'' ho2
        rw [set_val] at hb1
        rw [(set_other (ψ := ψ) (Ne.symm he') n v).2] at hb2
        rcases hb b hb1 with h4 | h4
        · exact h.inj id i' ob o'' b ho ho2 hne h4 hb2
        · have := h2.lt hb2; omega
    · rw [if_neg he] at ho1
      obtain ⟨h1, h2, h3⟩ := h.obj i o' ho1
      rw [(set_other (ψ := ψ) (Ne.symm he) n v).2] at hb1
      by_cases he' : id = i'
      · subst he'
        rw [set_val] at hb2
        rcases hb b hb2 with h4 | h4
        · exact h.inj i id o' ob b ho1 ho hne hb1 h4
        · have := h2.lt hb1; omega
      · rw [if_neg he'] at ho2
        obtain ⟨h1', h2', h3'⟩ := h.obj i' o'' ho2
        rw [(set_other (ψ := ψ) (Ne.symm he') n v).2] at hb2
        exact h.inj i i' o' o'' b ho1 ho2 hne hb1 hb2

theorem alloc_fr (ob : Obj) (hF : ∀ b, F b → b < w.heap.size) : Fr F w (w.alloc ob) := Fr.of_grow hF (grow_alloc w ob)

/-- a variable -/
theorem e_box {e : TypeId} {x : Operand} {cells : List AV} (ho : o.op = .box e x) (hx : (st.eval x).cells = cells) (h1 : cells.all AV.single = true) (hid : st.ids.contains id = false) :
    StepA P o st (.ref id 0 0) ((id, .box e cells) :: st.heap) (id :: st.ids) := by
  subst hx
  have hs : ∀ y ∈ (st.eval x).cells, y.single = true := List.all_eq_true.1 h1
  have hid : id ∉ st.ids := by simpa using hid
  intro F S0 N0 ψ S a w hs'
  obtain ⟨e1, e2, e3⟩ := RV.cells (hs'.eval x) hs
  have hcore := hs'.core
  refine relAt_ok (w' := w.alloc (.cells (a.eval x).cells e)) (v := .pointer (some ⟨w.heap.size, 0, none⟩)) ?_ ⟨ψ.set id 0 (.pointer (some ⟨w.heap.size, 0, none⟩)), S, ?_, ?_, alloc_fr _ hcore.fr, ext_new hid _ _, fun _ h => List.mem_cons_of_mem _ h, fun _ h => h, Same.of_grow (grow_alloc _ _)⟩
  · simp [execOp, ho, Instr.box, newVar, newRow]
  · refine hcore.add (grow_alloc _ _) hid (fun b hb => by simp [blkOf] at hb; omega) ⟨set_len _ _, w.heap.size, _, set_val _ _, heap_alloc_new w _, e1, hs, fun i v y hv hy => ?_⟩
    exact (e2 i v y hv hy).keep (ext_new hid _ _) (fun _ h => List.mem_cons_of_mem _ h) (fun _ h => h) (Same.of_grow (grow_alloc _ _))
  · exact .ref (List.mem_cons_self ..) (Nat.zero_le _) rfl fun _ => ⟨w.heap.size, by rw [set_val]; rfl, rfl⟩
theorem e_alloc {e : TypeId} {cells : List AV} (ho : o.op = .alloc e) (hd : TdOk P e d) (hz : zeroA d = some cells) (hid : st.ids.contains id = false) :
    StepA P o st (.ref id 0 0) ((id, .box e cells) :: st.heap) (id :: st.ids) := by
  have hid : id ∉ st.ids := by simpa using hid
  intro F S0 N0 ψ S a w hs'
  obtain ⟨z, hz1, hz2⟩ := hd.zero (P := P) (w := w)
  obtain ⟨z1, z2⟩ := zero_ok (ψ := ψ) (K := (· ∈ st.ids)) (S := S) (w := w) hz2 hz
  have hcore := hs'.core
  refine relAt_ok (w' := w.alloc (.cells z.cells e)) (v := .pointer (some ⟨w.heap.size, 0, none⟩)) ?_ ⟨ψ.set id 0 (.pointer (some ⟨w.heap.size, 0, none⟩)), S, ?_, ?_, alloc_fr _ hcore.fr, ext_new hid _ _, fun _ h => List.mem_cons_of_mem _ h, fun _ h => h, Same.of_grow (grow_alloc _ _)⟩
  · simp [execOp, ho, Instr.alloc, hz1, newVar, newRow]
  · refine hcore.add (grow_alloc _ _) hid (fun b hb => by simp [blkOf] at hb; omega) ⟨set_len _ _, w.heap.size, _, set_val _ _, heap_alloc_new w _, z1.1, z2, fun i v y hv hy => ?_⟩
    exact (z1.2 i v y hv hy).keep (ext_new hid _ _) (fun _ h => List.mem_cons_of_mem _ h) (fun _ h => h) (Same.of_grow (grow_alloc _ _))
  · exact .ref (List.mem_cons_self ..) (Nat.zero_le _) rfl fun _ => ⟨w.heap.size, by rw [set_val]; rfl, rfl⟩

theorem setRow_oth (g : Nat) (cs : Array Value) (k : Nat) (h : k ≠ g) : (w.setRow g cs).heap[k]? = w.heap[k]? := by
  simp only [World.setRow, Array.getElem?_modify]
  rw [if_neg (fun e => h e.symm)]
theorem setRow_same (g : Nat) {cs cs' : Array Value} {e : TypeId} {fr : Nat × Nat} (h : w.heap[g]? = some (.cells cs e fr)) : (w.setRow g cs').heap[g]? = some (.cells cs' e fr) := by
  simp [World.setRow, Array.getElem?_modify, h]
/-- a store into a variable -/
theorem e_store {e : TypeId} {x y : Operand} {off : Nat} {cells ys : List AV} (ho : o.op = .store t x y) (hd : TdOk P t d) (hx : st.eval x = .ref id 0 off) (hob : lookO st.heap id = some (.box e cells)) (hy : (st.eval y).cells = ys) (hl : ys.length = d.size) (h1 : ys.all AV.single = true)
    (hle : off + ys.length ≤ cells.length) : StepA P o st .any ((id, .box e (spliceA cells off ys)) :: st.heap) st.ids := by
  subst hy
  have hs : ∀ z ∈ (st.eval y).cells, z.single = true := List.all_eq_true.1 h1
  intro F S0 N0 ψ S a w hs'
  obtain ⟨e1, e2, e3⟩ := RV.cells (hs'.eval y) hs
  have hcore := hs'.core
  obtain ⟨hid, ⟨h0, b, cs, hval, hb, hcs, hsing, hr⟩, hfr⟩ := hcore.obj id _ hob
  have hv := hs'.eval x
  rw [hx] at hv
  have hpt : a.eval x = .pointer (some ⟨b, off, none⟩) := by
    generalize a.eval x = u at hv
    cases hv with
    | ref hK hn h1 hv =>
      obtain ⟨b', hb', rfl⟩ := hv h0.symm
      rw [hval] at hb'
      simp only [blkOf, Option.some.injEq] at hb'
      rw [hb']
  have hst := run_storeCells_at (P := P) b off e (a.eval y).cells.toList 0 cs w hb (by simp [e1, hcs]; omega) e3
  simp only [Nat.add_zero, Array.length_toList] at hst
  obtain ⟨new, hnew⟩ : ∃ new : Array Value, new = (cs.toList.take off ++ (a.eval y).cells.toList ++ cs.toList.drop (off + (a.eval y).cells.size)).toArray := ⟨_, rfl⟩
  rw [← hnew] at hst
  have hnl : new.toList = spliceA cs.toList off (a.eval y).cells.toList := by rw [hnew]; simp [spliceA, List.append_assoc]
  have hsz : (w.setRow b new).heap.size = w.heap.size := by simp [World.setRow]
  have hoth : ∀ k, k < w.heap.size → blkOf (ψ.val id) ≠ some k → (w.setRow b new).heap[k]? = w.heap[k]? := fun k _ hk => setRow_oth b new k fun e => hk (by rw [hval, e]; rfl)
  have hset : ψ.set id 0 (ψ.val id) = ψ := by
    unfold Env.set
    congr 1
    · funext i; split
      · rename_i h; rw [h, h0]
      · rfl
    · funext i; split
      · rename_i h; rw [h]
      · rfl
  have hk : Same S w (w.setRow b new) := fun k hk hl => hoth k hl fun e => (hfr k e).1 hk
  obtain ⟨c1, c2, c3⟩ := hcore.upd (n := 0) (v := ψ.val id) (w' := w.setRow b new) (ob' := .box e (spliceA cells off (st.eval y).cells)) hob (by omega) hoth (.inr ⟨h0, rfl⟩) (fun b hb => .inl hb) (by
    rw [hset]
    have hle1 : off + (a.eval y).cells.toList.length ≤ cs.toList.length := by simp [e1, hcs]; omega
    refine ⟨h0, b, new, hval, setRow_same b hb, ?_, fun z hz => ?_, fun i v z hv hz => ?_⟩
    · rw [← Array.length_toList, hnl, spliceA_length _ _ _ hle1, spliceA_length _ _ _ hle]; simpa using hcs
    · unfold spliceA at hz
      simp only [List.mem_append] at hz
      rcases hz with hz | hz | hz
      · exact hsing z (List.mem_of_mem_take hz)
      · exact hs z hz
      · exact hsing z (List.mem_of_mem_drop hz)
    · rw [← Array.getElem?_toList, hnl, spliceA_get _ _ _ hle1] at hv
      rw [spliceA_get _ _ _ hle] at hz
      simp only [Array.length_toList, e1] at hv
      split at hv
      · rename_i hi
        rw [if_pos hi] at hz
        exact (e2 _ v z (by simpa using hv) hz).keep Ext.refl (fun _ h => h) (fun _ h => h) hk
      · rename_i hi
        rw [if_neg hi] at hz
        exact (hr _ v z (by simpa using hv) hz).keep Ext.refl (fun _ h => h) (fun _ h => h) hk)
  rw [hset] at c1
  refine relAt_skip (w' := w.setRow b new) ?_ ⟨ψ, S, c1, .any, ⟨rfl, rfl, rfl, by omega, c3⟩, Ext.refl, fun _ h => h, fun _ h => h, c2⟩
  simp only [execOp, ho, Instr.storeAt, hpt, Instr.sureAddr, storeVar, hd.size, Sem.run_bind, Sem.run_pure, Result.andThen_ok]
  rw [if_neg (by rw [e1, hl]; simp)]
  simp [hst]
end
end Go.Proofs.Ytaeicmnimjfbaaa
