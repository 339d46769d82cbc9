/- Typed data as abstract values; the partial operations of typed programs; loops and joins. -/
import Derived.Test.YtaeicmnimjfbaaaDraw
set_option linter.unusedVariables false
set_option linter.unusedSimpArgs false
namespace Go.Proofs.Ytaeicmnimjfbaaa
open Go Go.RowKit

abbrev w64 (n : Int) : Int := IntKind.i64.wrap n
abbrev wu64 (n : Int) : Int := IntKind.u64.wrap n
abbrev wu8 (n : Int) : Int := IntKind.u8.wrap n
def eB (b : Bool) : FV := .atom (.bool b)
def eS (s : ByteArray) : FV := .atom (.string s)
def eI (n : Int) : FV := .atom (.int .i64 n)
def eU8 (n : Int) : FV := .atom (.int .u8 n)
def eU64 (n : Int) : FV := .atom (.int .u64 n)
def eI32 (n : Int) : FV := .atom (.int .i32 n)
def eL {α : Type} (size : Nat) (e : α → FV) (xs : List α) : FV := .lst size xs.length (xs.map e)
theorem len_eB (b : Bool) : (eB b).cells.length = 1 := rfl
theorem len_eS (b : ByteArray) : (eS b).cells.length = 1 := rfl
theorem len_eI (b : Int) : (eI b).cells.length = 1 := rfl
theorem len_eU8 (b : Int) : (eU8 b).cells.length = 1 := rfl
theorem len_eU64 (b : Int) : (eU64 b).cells.length = 1 := rfl
theorem len_eL {α : Type} (size : Nat) (e : α → FV) (xs : List α) : (eL size e xs).cells.length = 1 := rfl

/-- element i, if there is one -/
def idx {α : Type} (xs : List α) (i : Int) : Option α := if 0 ≤ i then xs[i.toNat]? else none
def byt (s : ByteArray) (i : Int) : Option Int := if 0 ≤ i then (s[i.toNat]?).map fun c => (c.toNat : Int) else none
/-- one behind the other, if there is room -/
def app {α : Type} (bytes : Nat) (xs ys : List α) : Option (List α) := if (xs.length + ys.length) * (bytes + 1) ≤ 140737488355328 then some (xs ++ ys) else none
def cat (s u : ByteArray) : Option ByteArray := if s.size + u.size ≤ 9223372036854775807 then some (s ++ u) else none

section
variable {P : Program} {T : List (TypeId × TD)} {o : Oper} {st : St} {t : TypeId} {d : TD}
theorem idx_some {α : Type} {xs : List α} {i : Int} {x : α} (h : idx xs i = some x) : 0 ≤ i ∧ xs[i.toNat]? = some x := by
  unfold idx at h
  split at h
  · exact ⟨by assumption, h⟩
  · cases h
theorem s_index {α : Type} {enc : α → FV} {xs : List α} {i : Int} {x : α} {X Y : Operand} {e : TypeId} {de : TD} {k : IntKind} {cs : List FV} (h : idx xs i = some x) (hT : TOk P T) (ho : o.op = .indexAddr t X Y) (hd : lookT T t = some d) (hk : d.kind = .slice e) (hde : lookT T e = some de)
    (hx : listOf (st.eval X) = some (xs.map enc)) (hlen : ∀ x, (enc x).cells.length = de.size) (hy : st.eval Y = .fz (.atom (.int k i))) (hc : (enc x).cells = cs) : NStep P o st (.fz (.fp cs)) := by
  obtain ⟨h0, h1⟩ := idx_some h
  refine n_index ho (hT.get hd) hk (hT.get hde) hx (fun z hz => ?_) hy h0 (z := enc x) (by rw [List.getElem?_map, h1]; rfl) hc
  obtain ⟨y, _, rfl⟩ := List.mem_map.1 hz
  exact hlen y
theorem s_byte {s : ByteArray} {i c : Int} {X Y : Operand} {k : IntKind} (h : byt s i = some c) (hT : TOk P T) (ho : o.op = .index t X Y) (hd : lookT T t = some d) (hk : d.kind = .str) (hx : st.eval X = .fz (.atom (.string s))) (hy : st.eval Y = .fz (.atom (.int k i))) :
    NStep P o st (.fz (.atom (.int .u8 c))) := by
  unfold byt at h
  split at h
  · rename_i h0
    simp only [Option.map_eq_some_iff] at h
    obtain ⟨b, hb, rfl⟩ := h
    exact n_byte ho (hT.get hd) hk hx hy h0 hb
  · cases h
theorem s_cat {s u r : ByteArray} {X Y : Operand} {yt : TypeId} (h : cat s u = some r) (ho : o.op = .binOp .add t X Y yt) (hx : st.eval X = .fz (.atom (.string s))) (hy : st.eval Y = .fz (.atom (.string u))) : NStep P o st (.fz (.atom (.string r))) := by
  unfold cat at h
  split at h
  · injection h with h
    subst h
    exact n_concat ho hx hy (by assumption)
  · cases h
theorem app_some {α : Type} {bytes : Nat} {xs ys r : List α} (h : app bytes xs ys = some r) : r = xs ++ ys ∧ (xs.length + ys.length) * (bytes + 1) ≤ 140737488355328 := by
  unfold app at h
  split at h
  · injection h with h; exact ⟨h.symm, by assumption⟩
  · cases h
theorem s_append {α : Type} {enc : α → FV} {bytes : Nat} {xs ys r : List α} {X Y : Operand} {e : TypeId} {de : TD} {n m id : Nat} (h : app bytes xs ys = some r) (hT : TOk P T) (ho : o.op = .call { callee := .builtin .append, args := #[X, Y], argTypes := #[t, t] }) (hd : lookT T t = some d) (hk : d.kind = .slice e) (hde : lookT T e = some de)
    (hz : Nat.ble 1 de.size = true) (hzl : de.zero.length = de.size) (hby : de.bytes = bytes) (hx : st.eval X = .row id n) (hob : lookO st.heap id = some (.frow e de.size (xs.map enc))) (hn : n = xs.length) (hy : st.eval Y = .fz (.lst de.size m (ys.map enc)) ∨ st.eval Y = .lim de.size m (ys.map enc)) :
    StepA P o st (.row id r.length) ((id, .frow e de.size (r.map enc)) :: st.heap) st.ids := by
  obtain ⟨rfl, hlen⟩ := app_some h
  subst hby
  have := e_append (P := P) (o := o) (st := st) (t := t) (d := d) (id := id) (xs := xs.map enc) (zs := ys.map enc) ho (hT.get hd) hk (hT.get hde) (Nat.le_of_ble_eq_true hz) hzl hx hob (by rw [hn]; simp) hy (by simpa using hlen)
  rw [← List.map_append, List.length_map] at this
  exact this

theorem le_freeze {t id n : Nat} {e : TypeId} {size : Nat} {xs : List FV} (hx : st.get t = .row id n) (hob : lookO st.heap id = some (.frow e size xs)) (hn : n = xs.length) :
    LeSt st { st with tmps := (t, .fz (.lst size n xs)) :: st.tmps, heap := dropO id st.heap } := by
  subst hn
  intro F S0 N0 ψ S a w hs
  obtain ⟨c1, c2⟩ := core_freeze hs.core hob
  have hold : ∀ k, RV ψ (· ∈ st.ids) (fun b => S b ∨ blkOf (ψ.val id) = some b) w (a.tmps.getD k undef) (st.get k) := fun k => (hs.tmps k).mono (fun _ h => h) fun _ h => .inl h
  refine ⟨ψ, _, hs.defers, hs.size, fun k => ?_, c1⟩
  simp only [St.get, look_cons]
  split
  · rename_i hk
    subst hk
    have hv := hold t
    rw [hx] at hv
    have h0 := (hs.core.obj id _ hob).2.1.1
    refine .fz ?_
    generalize a.tmps.getD t undef = u at hv
    cases hv with
    | row hK hn' h1 hv => rw [hv (by rw [h0])]; exact c2
  · exact hold k
/-- a row in a variable -/
theorem le_freezeCell {id2 id n j : Nat} {e : TypeId} {size : Nat} {xs : List FV} {e2 : TypeId} {cells : List AV} (hob2 : lookO st.heap id2 = some (.box e2 cells)) (hx : cells[j]? = some (.row id n)) (hob : lookO st.heap id = some (.frow e size xs)) (hn : n = xs.length) :
    LeSt st { st with heap := (id2, .box e2 (cells.set j (.fz (.lst size n xs)))) :: dropO id st.heap } := by
  subst hn
  intro F S0 N0 ψ S a w hs
  obtain ⟨c1, c2⟩ := core_freeze hs.core hob
  have hne : id2 ≠ id := fun h => by rw [h, hob] at hob2; cases hob2
  have h2 : lookO (dropO id st.heap) id2 = some (.box e2 cells) := dropO_look hne hob2
  obtain ⟨k1, ⟨k0, b, cs, k2, k3, k4, k5, k6⟩, k7⟩ := c1.obj id2 _ h2
  refine ⟨ψ, _, hs.defers, hs.size, fun k => (hs.tmps k).mono (fun _ h => h) fun _ h => .inl h, ⟨fun i o ho => ?_, fun i i' o o' b ho ho' hne' hb => ?_, c1.lt, c1.s0, c1.n0, c1.fr⟩⟩
  · rw [lookO_cons] at ho
    by_cases hi : id2 = i
    · subst hi
      rw [if_pos rfl] at ho
      injection ho with ho
      subst ho
      refine ⟨k1, ⟨k0, b, cs, k2, k3, by simpa using k4, fun x hx => ?_, fun i v x hv hx' => ?_⟩, k7⟩
      · rcases List.mem_or_eq_of_mem_set hx with hx | rfl
        · exact k5 x hx
        · rfl
      · rw [List.getElem?_set] at hx'
        split at hx'
        · rename_i hij
          subst hij
          split at hx'
          · injection hx' with hx'
            subst hx'
            have hv' := k6 j v _ hv hx
            have h0 := (hs.core.obj id _ hob).2.1.1
            refine .fz ?_
            cases hv' with
            | row hK hn' h1 hv => rw [hv (by rw [h0])]; exact c2
          · cases hx'
        · exact k6 i v x hv hx'
    · rw [if_neg hi] at ho
      exact c1.obj i o ho
  · have f : ∀ {i : Nat} {o : AObj}, lookO ((id2, AObj.box e2 (cells.set j (.fz (.lst size xs.length xs)))) :: dropO id st.heap) i = some o → ∃ o', lookO (dropO id st.heap) i = some o' := fun {i o} h => by
      rw [lookO_cons] at h
      by_cases hi : id2 = i
      · subst hi; exact ⟨_, h2⟩
      · rw [if_neg hi] at h; exact ⟨_, h⟩
    obtain ⟨o1, h1⟩ := f ho
    obtain ⟨o2, h2⟩ := f ho'
    exact c1.inj i i' o1 o2 b h1 h2 hne' hb
/-- nil in a variable is a row of none -/
theorem le_nilcell {e e2 : TypeId} {size id2 j id : Nat} {cells : List AV} (hz : Nat.ble 1 size = true) (hob2 : lookO st.heap id2 = some (.box e2 cells)) (hx : cells[j]? = some (.fz (.atom (.slice none 0 0)))) (hid : st.ids.contains id = false) :
    LeSt st { st with heap := (id2, .box e2 (cells.set j (.row id 0))) :: (id, .frow e size []) :: st.heap, ids := id :: st.ids } := by
  have hid : id ∉ st.ids := by simpa using hid
  intro F S0 N0 ψ S a w hs
  have hadd := hs.core.add (n := 0) (v := .slice none 0 0) (w' := w) (ob := .frow e size []) (grow_refl _) hid (fun b hb => by cases hb) ⟨set_len _ _, Nat.le_of_ble_eq_true hz, [], by rw [set_val]; exact ⟨by simp, .inl ⟨rfl, rfl⟩⟩, (fun x hx => by cases hx), fun i x j v y h => by simp at h⟩
  have hne : id ≠ id2 := fun h => hid (by rw [h]; exact (hs.core.obj id2 _ hob2).1)
  have h2 : lookO ((id, .frow e size []) :: st.heap) id2 = some (.box e2 cells) := by rw [lookO_cons, if_neg hne]; exact hob2
  obtain ⟨k1, ⟨k0, b, cs, k2, k3, k4, k5, k6⟩, k7⟩ := hadd.obj id2 _ h2
  refine ⟨ψ.set id 0 (.slice none 0 0), S, hs.defers, hs.size, fun k => (hs.tmps k).keep (ext_new hid _ _) (fun _ h => List.mem_cons_of_mem _ h) (fun _ h => h) (fun _ _ _ => rfl), ⟨fun i o ho => ?_, fun i i' o o' b ho ho' hne' hb => ?_, hadd.lt, hadd.s0, hadd.n0, hadd.fr⟩⟩
  · rw [lookO_cons] at ho
    by_cases hi : id2 = i
    · subst hi
      rw [if_pos rfl] at ho
      injection ho with ho
      subst ho
      refine ⟨k1, ⟨k0, b, cs, k2, k3, by simpa using k4, fun x hx => ?_, fun i v x hv hx' => ?_⟩, k7⟩
      · rcases List.mem_or_eq_of_mem_set hx with hx | rfl
        · exact k5 x hx
        · rfl
      · rw [List.getElem?_set] at hx'
        split at hx'
        · rename_i hij
          subst hij
          split at hx'
          · injection hx' with hx'
            subst hx'
            rw [(k6 j v _ hv hx).atom]
            exact .row (List.mem_cons_self ..) (Nat.zero_le _) rfl fun _ => (set_val _ _).symm
          · cases hx'
        · exact k6 i v x hv hx'
    · rw [if_neg hi] at ho
      exact hadd.obj i o ho
  · have f : ∀ {i : Nat} {o : AObj}, lookO ((id2, AObj.box e2 (cells.set j (.row id 0))) :: (id, .frow e size []) :: st.heap) i = some o → ∃ o', lookO ((id, .frow e size []) :: st.heap) i = some o' := fun {i o} h => by
      rw [lookO_cons] at h
      by_cases hi : id2 = i
      · subst hi; exact ⟨_, h2⟩
      · rw [if_neg hi] at h; exact ⟨_, h⟩
    obtain ⟨o1, h1⟩ := f ho
    obtain ⟨o2, h2⟩ := f ho'
    exact hadd.inj i i' o1 o2 b h1 h2 hne' hb
/-- a call that is lent rows, and whose result is no memory -/
def flat : FV → Bool
  | .atom v => v.oneCell'
  | .tup xs => xs.all fun x => match x with | .atom v => v.oneCell' | _ => false
  | _ => false

/-- code -/
theorem l_runE (hT : TOk P T) {ops : Array Oper} {Q : Exit → St → Prop} {k : Nat} {l : List Oper} {st' : St} {ids : List Nat} {ts : List (Nat × C1)} {os : List (Nat × List C0)} (h : (xrun T ops k l st).bind (fun s => coSt s ids ts os) = some st') (hn : awpL P ops (l.drop k) st' Q) : awpL P ops l st Q := by
  obtain ⟨s, h1, h2⟩ := Option.bind_eq_some_iff.1 h
  exact l_run hT k h1 (l_le (le_co h2) hn)
theorem LeSt.refl : LeSt st st := fun F S0 N0 ψ S a w h => ⟨ψ, S, h⟩
theorem LeSt.trans {st' st'' : St} (h : LeSt st st') (k : LeSt st' st'') : LeSt st st'' := fun F S0 N0 ψ S a w hs => by
  obtain ⟨ψ', S', h'⟩ := h F S0 N0 ψ S a w hs
  exact k F S0 N0 ψ' S' a w h'
theorem NStep.eqv {c c' : AV} (h : NStep P o st c) (e : c = c') : NStep P o st c' := e ▸ h
theorem awp_weaken {c : Code} {Q : Exit → St → Prop} (h : awp P c st fun e st' => ∃ st2, LeSt st' st2 ∧ Q e st2) : awp P c st Q := fun F S0 N0 ψ S a w hs =>
  wp_mono (h F S0 N0 ψ S a w hs) fun e a' w' ⟨st', ψ', S', ⟨st2, h0, h1⟩, h2, h3⟩ => by
    obtain ⟨ψ2, S2, h4⟩ := h0 F S0 N0 ψ' S' a' w' h2
    exact ⟨st2, ψ2, S2, h1, h4, h3⟩
theorem awp_join {c : Code} {Qa Q : Exit → St → Prop} (ha : awp P c st Qa) (hq : ∀ e st', Qa e st' → ∃ st2, LeSt st' st2 ∧ Q e st2) : awp P c st Q := awp_weaken (awp_mono ha hq)
theorem awp_cond_t {c : Operand} {x y : Code} {b : Bool} {Q : Exit → St → Prop} (hc : st.eval c = .fz (.atom (.bool b))) (hb : b = true) (h : awp P x st Q) : awp P (.cond c x y) st Q := by
  subst hb; exact awp_cond hc h
theorem awp_cond_f {c : Operand} {x y : Code} {b : Bool} {Q : Exit → St → Prop} (hc : st.eval c = .fz (.atom (.bool b))) (hb : b = false) (h : awp P y st Q) : awp P (.cond c x y) st Q := by
  subst hb; exact awp_cond hc h
theorem cond_some {α : Type} {b : Bool} {x y : Option α} {r : α} (h : (bif b then x else y) = some r) : (b = true ∧ x = some r) ∨ (b = false ∧ y = some r) := by
  cases b
  · exact .inr ⟨rfl, h⟩
  · exact .inl ⟨rfl, h⟩
/-- a slot, told otherwise -/
theorem le_eq {t : Nat} {x y : AV} (hx : st.get t = x) (h : x = y) : LeSt st (st.put (some t) y) := by
  subst h
  intro F S0 N0 ψ S a w hs
  refine ⟨ψ, S, hs.defers, hs.size, fun k => ?_, hs.core⟩
  simp only [St.put, St.get, look_cons]
  split
  · rename_i hk; subst hk; rw [← hx]; exact hs.tmps t
  · exact hs.tmps k
theorem awp_loopS {σ β : Type} {step : σ → Option (σ ⊕ β)} {body : Code} (stOf : σ → St) {s0 : σ} {b : β} {n : Nat} {Qb : β → Exit → St → Prop} (hl : loopN step n s0 = some b) (h0 : LeSt st (stOf s0))
    (hr : ∀ s r, step s = some r → awp P body (stOf s) fun e st => match r with | .inl s' => e = .normal ∧ LeSt st (stOf s') | .inr b' => (e ≠ .normal ∧ e ≠ .outgrown) ∧ Qb b' e st) : awp P (.loop body) st (Qb b) := by
  exact awp_loop stOf hl h0 (fun s s' hs => hr s _ hs) fun s hs => awp_mono (hr s _ hs) fun e st h => ⟨h.1.1, h.1.2, h.2⟩
end
end Go.Proofs.Ytaeicmnimjfbaaa
