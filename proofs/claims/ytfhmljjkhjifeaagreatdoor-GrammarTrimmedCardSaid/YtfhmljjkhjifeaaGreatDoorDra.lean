/- Regions that draw their order, in abstract states: operations of the head may make new objects, in whatever order; the others see none of these. -/
import Derived.Test.YtfhmljjkhjifeaaGreatDoorDrz
set_option linter.unusedVariables false
set_option linter.unusedSimpArgs false
namespace Go.Proofs.YtfhmljjkhjifeaaGreatDoor
open Go Go.RowKit

/-- what an operation does to objects: it makes one, or it stores to one that was made here -/
abbrev Ent := Bool × Nat × AObj
/-- the objects made so far, the last word first -/
def hpD (x : Nat → Option Ent) (p : Nat → Bool) : Nat → List (Nat × AObj)
  | 0 => []
  | k + 1 => match x k with
    | some q => bif p k then q.2 :: hpD x p k else hpD x p k
    | none => hpD x p k
def idD (x : Nat → Option Ent) (p : Nat → Bool) : Nat → List Nat
  | 0 => []
  | k + 1 => match x k with
    | some q => bif p k && q.1 then q.2.1 :: idD x p k else idD x p k
    | none => idD x p k
theorem hpD_congr {x : Nat → Option Ent} {p q : Nat → Bool} : ∀ {k : Nat}, (∀ j, j < k → x j ≠ none → p j = q j) → hpD x p k = hpD x q k
  | 0, _ => rfl
  | k + 1, h => by
    have ih := hpD_congr (k := k) fun j hj => h j (by omega)
    simp only [hpD]
    cases hx : x k with
    | none => exact ih
    | some r => rw [ih, h k (by omega) (by rw [hx]; exact fun h => by cases h)]
theorem idD_congr {x : Nat → Option Ent} {p q : Nat → Bool} : ∀ {k : Nat}, (∀ j, j < k → x j ≠ none → p j = q j) → idD x p k = idD x q k
  | 0, _ => rfl
  | k + 1, h => by
    have ih := idD_congr (k := k) fun j hj => h j (by omega)
    simp only [idD]
    cases hx : x k with
    | none => exact ih
    | some r => rw [ih, h k (by omega) (by rw [hx]; exact fun h => by cases h)]
theorem hpD_none {x : Nat → Option Ent} {p : Nat → Bool} : ∀ {k : Nat}, (∀ j, j < k → p j = false) → hpD x p k = []
  | 0, _ => rfl
  | k + 1, h => by
    simp only [hpD]
    rw [hpD_none (k := k) fun j hj => h j (by omega), h k (by omega)]
    cases x k <;> rfl
theorem idD_none {x : Nat → Option Ent} {p : Nat → Bool} : ∀ {k : Nat}, (∀ j, j < k → p j = false) → idD x p k = []
  | 0, _ => rfl
  | k + 1, h => by
    simp only [idD]
    rw [idD_none (k := k) fun j hj => h j (by omega), h k (by omega)]
    cases x k <;> rfl
theorem hpD_x {x y : Nat → Option Ent} {p : Nat → Bool} : ∀ {k : Nat}, (∀ j, j < k → x j = y j) → hpD x p k = hpD y p k
  | 0, _ => rfl
  | k + 1, h => by
    simp only [hpD]
    rw [hpD_x (k := k) fun j hj => h j (by omega), h k (by omega)]
theorem idD_x {x y : Nat → Option Ent} {p : Nat → Bool} : ∀ {k : Nat}, (∀ j, j < k → x j = y j) → idD x p k = idD y p k
  | 0, _ => rfl
  | k + 1, h => by
    simp only [idD]
    rw [idD_x (k := k) fun j hj => h j (by omega), h k (by omega)]
theorem idD_mem {x : Nat → Option Ent} {p : Nat → Bool} {id : Nat} : ∀ {k : Nat}, id ∈ idD x p k ↔ ∃ j ob, j < k ∧ p j = true ∧ x j = some (true, id, ob)
  | 0 => ⟨fun h => (by cases h), fun ⟨j, _, h, _⟩ => by omega⟩
  | k + 1 => by
    have ih := idD_mem (x := x) (p := p) (id := id) (k := k)
    have up : (∃ j ob, j < k ∧ p j = true ∧ x j = some (true, id, ob)) → ∃ j ob, j < k + 1 ∧ p j = true ∧ x j = some (true, id, ob) := fun ⟨j, ob, h1, h2⟩ => ⟨j, ob, by omega, h2⟩
    have down : (p k = true → ∀ ob, x k ≠ some (true, id, ob)) → (∃ j ob, j < k + 1 ∧ p j = true ∧ x j = some (true, id, ob)) → ∃ j ob, j < k ∧ p j = true ∧ x j = some (true, id, ob) := fun hk ⟨j, ob, h1, h2, h3⟩ => ⟨j, ob, by
      by_cases hj : j = k
      · subst hj; exact absurd h3 (hk h2 ob)
      · omega, h2, h3⟩
    simp only [idD]
    cases hx : x k with
    | none =>
      simp only
      rw [ih]
      exact ⟨up, down fun _ ob h => by rw [hx] at h; cases h⟩
    | some r =>
      simp only
      obtain ⟨r1, r2, r3⟩ := r
      cases hp : (p k && r1) with
      | false =>
        simp only [cond_false]
        rw [ih]
        refine ⟨up, down fun hpk ob h => ?_⟩
        rw [hx] at h
        cases h
        rw [hpk] at hp
        cases hp
      | true =>
        rw [Bool.and_eq_true] at hp
        obtain ⟨hp1, hp2⟩ := hp
        subst hp2
        simp only [cond_true, List.mem_cons]
        rw [ih]
        refine ⟨fun h => h.elim (fun h => ⟨k, r3, by omega, hp1, by rw [hx, h]⟩) up, fun h => ?_⟩
        by_cases hid : id = r2
        · exact .inl hid
        · refine .inr (down (fun _ ob h => ?_) h)
          rw [hx] at h
          cases h
          exact hid rfl
/-- one more -/
theorem hpD_add {x : Nat → Option Ent} {p q : Nat → Bool} {i id : Nat} {f : Bool} {ob : AObj} {H : List (Nat × AObj)} (hx : x i = some (f, id, ob)) (hq : ∀ j, q j = true ↔ j = i ∨ p j = true) (hpi : p i = false) (id' : Nat) :
    ∀ {k : Nat}, i < k → (∀ j, j < k → i < j → p j = true → ∀ f' ob', x j ≠ some (f', id, ob')) → lookO (hpD x q k ++ H) id' = if id = id' then some ob else lookO (hpD x p k ++ H) id'
  | 0, h, _ => by omega
  | k + 1, h, hl => by
    simp only [hpD]
    by_cases hki : k = i
    · subst hki
      have e : hpD x q k = hpD x p k := hpD_congr fun j hj _ => by
        cases hp : p j with
        | true => exact (hq j).2 (.inr hp)
        | false =>
          cases hqj : q j with
          | false => rfl
          | true => rcases (hq j).1 hqj with h | h
                    · omega
                    · rw [hp] at h; cases h
      rw [hx]
      simp only [(hq k).2 (.inl rfl), hpi, cond_true, cond_false]
      rw [List.cons_append, lookO_cons, e]
    · have ih := hpD_add hx hq hpi id' (k := k) (H := H) (by omega) (fun j hj => hl j (by omega))
      cases hxk : x k with
      | none => simp only; exact ih
      | some r =>
        simp only
        obtain ⟨r1, r2, r3⟩ := r
        cases hpk : p k with
        | false =>
          have : q k = false := by
            cases hqk : q k with
            | false => rfl
            | true => rcases (hq k).1 hqk with h | h
                      · exact absurd h hki
                      · rw [hpk] at h; cases h
          rw [this]
          simp only [cond_false]
          exact ih
        | true =>
          rw [(hq k).2 (.inr hpk)]
          simp only [cond_true, List.cons_append]
          rw [lookO_cons, lookO_cons]
          have hne : r2 ≠ id := fun h => hl k (by omega) (by omega) hpk r1 r3 (by rw [hxk, h])
          by_cases h1 : r2 = id'
          · rw [if_pos h1, if_pos h1, if_neg (by rintro rfl; exact hne h1)]
          · rw [if_neg h1, if_neg h1]
            exact ih
/-- what was last said of an object -/
theorem hpD_same {x : Nat → Option Ent} {p q : Nat → Bool} {id : Nat} {H : List (Nat × AObj)} : ∀ {k : Nat}, (∀ j, j < k → ∀ f ob, x j = some (f, id, ob) → p j = q j) → lookO (hpD x p k ++ H) id = lookO (hpD x q k ++ H) id
  | 0, _ => rfl
  | k + 1, h => by
    have ih := hpD_same (k := k) (H := H) fun j hj => h j (by omega)
    simp only [hpD]
    cases hx : x k with
    | none => exact ih
    | some r =>
      obtain ⟨r1, r2, r3⟩ := r
      simp only
      by_cases hid : r2 = id
      · subst hid
        rw [h k (by omega) r1 r3 hx]
        cases q k with
        | false => exact ih
        | true => simp only [cond_true, List.cons_append, lookO_cons, if_true]
      · have go : ∀ b : Bool, lookO ((bif b then (r2, r3) :: hpD x p k else hpD x p k) ++ H) id = lookO (hpD x p k ++ H) id := fun b => by
          cases b with
          | false => rfl
          | true => simp only [cond_true, List.cons_append, lookO_cons, if_neg hid]
        have go' : ∀ b : Bool, lookO ((bif b then (r2, r3) :: hpD x q k else hpD x q k) ++ H) id = lookO (hpD x q k ++ H) id := fun b => by
          cases b with
          | false => rfl
          | true => simp only [cond_true, List.cons_append, lookO_cons, if_neg hid]
        rw [go, go', ih]
/-- an object that was there -/
theorem hpD_old {x : Nat → Option Ent} {p : Nat → Bool} {id : Nat} {H : List (Nat × AObj)} {k : Nat} (h : ∀ j, j < k → ∀ f ob, x j ≠ some (f, id, ob)) : lookO (hpD x p k ++ H) id = lookO H id := by
  rw [hpD_same (q := fun _ => false) fun j hj f ob hx => absurd hx (h j hj f ob), hpD_none fun _ _ => rfl]
  rfl
theorem core_congr {F S0 : Nat → Prop} {N0 : Nat} {hp hp' : List (Nat × AObj)} {ids ids' : List Nat} {ψ : Env} {S : Nat → Prop} {w : World} (h1 : ∀ id, lookO hp id = lookO hp' id) (h2 : ∀ id, id ∈ ids ↔ id ∈ ids') (h : Core F S0 N0 hp ids ψ S w) : Core F S0 N0 hp' ids' ψ S w := by
  have hK : (fun id => id ∈ ids) = (fun id => id ∈ ids') := funext fun id => propext (h2 id)
  refine ⟨fun id o ho => ?_, fun id id' o o' b ho ho' => h.inj id id' o o' b (by rw [h1]; exact ho) (by rw [h1]; exact ho'), h.lt, h.s0, h.n0, h.fr⟩
  obtain ⟨e1, e2, e3⟩ := h.obj id o (by rw [h1]; exact ho)
  refine ⟨(h2 id).1 e1, ?_, e3⟩
  have e2 : ObR ψ (fun id => id ∈ ids) S w id o := e2
  rw [hK] at e2
  exact e2
def viewY (l : List Oper) (n : Nat) (ai : List Nat) (st : St) (i : Nat) (o : Oper) (fs : List (Nat × Option Nat × AV)) : St :=
  { st with tmps := hadd fs (afterB o) (killD l i n ++ st.tmps), ids := ai }
/-- one that makes an object, wherever it stands -/
def AFact (P : Program) (o : Oper) (c : AV) (id : Nat) (ob : AObj) : Prop := ∀ st' : St, st'.ids.contains id = false → StepA P o st' c ((id, ob) :: st'.heap) (id :: st'.ids)
/-- one that stores to an object, whatever the others hold -/
def SFact (P : Program) (v : St) (o : Oper) (c : AV) (id : Nat) (ob : AObj) : Prop := ∀ (hp' : List (Nat × AObj)) (ids' : List Nat), lookO hp' id = lookO v.heap id → StepA P o { v with heap := hp', ids := ids' } c ((id, ob) :: hp') ids'
/-- the operations that have spoken of an object come before -/
def befB (l : List Oper) (i id : Nat) (es : List (Nat × Nat)) : Bool := es.all fun e => !(e.2 == id) || anc l i e.1
def headY (P : Program) (os : Array Oper) (n : Nat) (ai : List Nat) (Q : Exit → St → Prop) (st : St) : Nat → Nat → List Oper → List (Nat × Option Nat × AV) → List (Nat × AObj) → List Nat → List (Nat × Nat) → Prop
  | 0, _, l, fs, hp, nid, _ => awpL P os l { st with tmps := hadd fs (fun _ => true) st.tmps, heap := hp ++ st.heap, ids := nid ++ st.ids } Q
  | k + 1, i, o :: l, fs, hp, nid, es =>
    (∃ c, NFact P os (viewY os.toList n ai st i o fs) o c ∧ okA st.ids c = true ∧ headY P os n ai Q st k (i + 1) l ((i, o.dst, c) :: fs) hp nid es) ∨
    (∃ c id ob, guardA os (viewY os.toList n ai st i o fs) o = some true ∧ AFact P o c id ob ∧ (st.ids.contains id || (st.heap.any fun q => q.1 == id) || (es.any fun q => q.2 == id) || !ai.contains id) = false ∧ headY P os n ai Q st k (i + 1) l ((i, o.dst, c) :: fs) ((id, ob) :: hp) (id :: nid) ((i, id) :: es)) ∨
    (∃ c id ob, guardA os (viewY os.toList n ai st i o fs) o = some true ∧ SFact P { viewY os.toList n ai st i o fs with heap := hp ++ st.heap } o c id ob ∧ (st.heap.any fun q => q.1 == id) = false ∧ befB os.toList i id es = true ∧ headY P os n ai Q st k (i + 1) l ((i, o.dst, c) :: fs) ((id, ob) :: hp) nid ((i, id) :: es))
  | _ + 1, _, [], _, _, _, _ => False

section
variable {P : Program} {F S0 : Nat → Prop} {N0 : Nat} {w w' : World} {S S' : Nat → Prop} {ψ ψ' : Env} {Q : Exit → St → Prop} {st : St} {os : Array Oper} {n : Nat} {ai : List Nat}

/-- who spoke of which object -/
def esD (x : Nat → Option Ent) : Nat → List (Nat × Nat)
  | 0 => []
  | k + 1 => match x k with
    | some q => (k, q.2.1) :: esD x k
    | none => esD x k
theorem esD_x {x y : Nat → Option Ent} : ∀ {k : Nat}, (∀ j, j < k → x j = y j) → esD x k = esD y k
  | 0, _ => rfl
  | k + 1, h => by
    simp only [esD]
    rw [esD_x (k := k) fun j hj => h j (by omega), h k (by omega)]
theorem esD_mem {x : Nat → Option Ent} {j : Nat} {f : Bool} {id : Nat} {ob : AObj} (hx : x j = some (f, id, ob)) : ∀ {k : Nat}, j < k → (j, id) ∈ esD x k
  | 0, h => by omega
  | k + 1, h => by
    simp only [esD]
    by_cases hjk : j = k
    · subst hjk
      rw [hx]
      exact List.mem_cons_self ..
    · have := esD_mem hx (k := k) (by omega)
      cases x k with
      | none => exact this
      | some r => exact List.mem_cons_of_mem _ this
def FactY (P : Program) (os : Array Oper) (n : Nat) (ai : List Nat) (st : St) (c : Nat → AV) (x : Nat → Option Ent) (i : Nat) (o : Oper) : Prop :=
  (x i = none ∧ NFact P os (viewY os.toList n ai st i o (fsOf os.toList c i)) o (c i) ∧ okA st.ids (c i) = true) ∨
  (∃ id ob, x i = some (true, id, ob) ∧ guardA os (viewY os.toList n ai st i o (fsOf os.toList c i)) o = some true ∧ AFact P o (c i) id ob ∧ id ∉ st.ids ∧ (∀ q ∈ st.heap, q.1 ≠ id) ∧ (∀ j, j < i → ∀ f ob', x j ≠ some (f, id, ob')) ∧ id ∈ ai) ∨
  (∃ id ob, x i = some (false, id, ob) ∧ guardA os (viewY os.toList n ai st i o (fsOf os.toList c i)) o = some true ∧ SFact P { viewY os.toList n ai st i o (fsOf os.toList c i) with heap := hpD x (fun _ => true) i ++ st.heap } o (c i) id ob ∧ (∀ q ∈ st.heap, q.1 ≠ id) ∧ ∀ j, j < i → ∀ f ob', x j = some (f, id, ob') → anc os.toList i j = true)
theorem headY_some : ∀ (k i : Nat) (l : List Oper) (c0 : Nat → AV) (x0 : Nat → Option Ent), os.toList.drop i = l → i + k = n →
    headY P os n ai Q st k i l (fsOf os.toList c0 i) (hpD x0 (fun _ => true) i) (idD x0 (fun _ => true) i) (esD x0 i) →
    ∃ c x, (∀ j, j < i → c j = c0 j) ∧ (∀ j, j < i → x j = x0 j) ∧ (∀ j o, i ≤ j → j < n → os.toList[j]? = some o → FactY P os n ai st c x j o) ∧
      awpL P os (os.toList.drop n) { st with tmps := hadd (fsOf os.toList c n) (fun _ => true) st.tmps, heap := hpD x (fun _ => true) n ++ st.heap, ids := idD x (fun _ => true) n ++ st.ids } Q
  | 0, i, l, c0, x0, hl, hn, h => by
    obtain rfl : i = n := by omega
    subst hl
    exact ⟨c0, x0, fun _ _ => rfl, fun _ _ => rfl, fun j o h1 h2 => by omega, h⟩
  | k + 1, i, l, c0, x0, hl, hn, h => by
    cases l with
    | nil => exact h.elim
    | cons o l =>
      have hoi : os.toList[i]? = some o := by
        have := congrArg (·[0]?) hl
        simpa using this
      have hl' : os.toList.drop (i + 1) = l := by rw [← List.drop_drop, hl]; rfl
      have hd : dstT os.toList i = o.dst := by unfold dstT; rw [hoi]; rfl
      have cons : ∀ c, (i, o.dst, c) :: fsOf os.toList c0 i = fsOf os.toList (fun j => if j = i then c else c0 j) (i + 1) := fun c => by
        simp only [fsOf, hd, if_true]
        rw [fsOf_congr (k := i) (c' := fun j => if j = i then c else c0 j) fun j hj => by rw [if_neg (by omega)]]
      have ex : ∀ q : Option Ent, ∀ j, j < i → (fun j => if j = i then q else x0 j) j = x0 j := fun q j hj => by show (if j = i then q else x0 j) = x0 j; rw [if_neg (by omega)]
      have xi : ∀ q : Option Ent, (fun j => if j = i then q else x0 j) i = q := fun q => by show (if i = i then q else x0 i) = q; rw [if_pos rfl]
      have c1h : ∀ r : Ent, hpD (fun j => if j = i then some r else x0 j) (fun _ => true) (i + 1) = r.2 :: hpD x0 (fun _ => true) i := fun r => by simp only [hpD, if_true, cond_true]; rw [hpD_x (ex (some r))]
      have c1i : ∀ r : Ent, idD (fun j => if j = i then some r else x0 j) (fun _ => true) (i + 1) = bif r.1 then r.2.1 :: idD x0 (fun _ => true) i else idD x0 (fun _ => true) i := fun r => by simp only [idD, if_true, Bool.true_and]; rw [idD_x (ex (some r))]
      have c1e : ∀ r : Ent, esD (fun j => if j = i then some r else x0 j) (i + 1) = (i, r.2.1) :: esD x0 i := fun r => by simp only [esD, if_true]; rw [esD_x (ex (some r))]
      have c0h : hpD (fun j => if j = i then none else x0 j) (fun _ => true) (i + 1) = hpD x0 (fun _ => true) i := by simp only [hpD, if_true]; exact hpD_x (ex none)
      have c0i : idD (fun j => if j = i then none else x0 j) (fun _ => true) (i + 1) = idD x0 (fun _ => true) i := by simp only [idD, if_true]; exact idD_x (ex none)
      have c0e : esD (fun j => if j = i then none else x0 j) (i + 1) = esD x0 i := by simp only [esD, if_true]; exact esD_x (ex none)
      rcases h with ⟨c, hf, hok, h⟩ | ⟨c, id, ob, hg, hf, hid, h⟩ | ⟨c, id, ob, hg, hf, hid, hbef, h⟩
      · rw [cons, ← c0h, ← c0i, ← c0e] at h
        obtain ⟨c1, x1, k1, k2, k4, k5⟩ := headY_some k (i + 1) l _ _ hl' (by omega) h
        have e1 : ∀ j, j < i → c1 j = c0 j := fun j hj => by rw [k1 j (by omega), if_neg (by omega)]
        have e2 : c1 i = c := by rw [k1 i (by omega), if_pos rfl]
        refine ⟨c1, x1, e1, fun j hj => by rw [k2 j (by omega), if_neg (by omega)], fun j o' h1 h2 ho => ?_, k5⟩
        by_cases hji : j = i
        · subst hji
          rw [hoi] at ho
          obtain rfl := Option.some.inj ho
          refine .inl ⟨by rw [k2 j (by omega), if_pos rfl], ?_⟩
          rw [fsOf_congr e1, e2]
          exact ⟨hf, hok⟩
        · exact k4 j o' (by omega) h2 ho
      · rw [cons, ← c1h (true, id, ob), show id :: idD x0 (fun _ => true) i = _ from (c1i (true, id, ob)).symm, show (i, id) :: esD x0 i = _ from (c1e (true, id, ob)).symm] at h
        obtain ⟨c1, x1, k1, k2, k4, k5⟩ := headY_some k (i + 1) l _ _ hl' (by omega) h
        have e1 : ∀ j, j < i → c1 j = c0 j := fun j hj => by rw [k1 j (by omega), if_neg (by omega)]
        have e2 : c1 i = c := by rw [k1 i (by omega), if_pos rfl]
        have e3 : ∀ j, j < i → x1 j = x0 j := fun j hj => by rw [k2 j (by omega), if_neg (by omega)]
        refine ⟨c1, x1, e1, e3, fun j o' h1 h2 ho => ?_, k5⟩
        by_cases hji : j = i
        · subst hji
          rw [hoi] at ho
          obtain rfl := Option.some.inj ho
          simp only [Bool.or_eq_false_iff, Bool.not_eq_false'] at hid
          obtain ⟨⟨⟨g1, g2⟩, g3⟩, g4⟩ := hid
          refine .inr (.inl ⟨id, ob, by rw [k2 j (by omega), if_pos rfl], ?_⟩)
          rw [fsOf_congr e1, e2]
          refine ⟨hg, hf, by simpa using g1, fun q hq hqi => ?_, fun m hm f ob' hx => ?_, by simpa using g4⟩
          · exact List.any_eq_false.1 g2 q hq (by simpa using hqi)
          · have hmem : (m, id) ∈ esD x0 j := esD_mem (by rw [← e3 m hm]; exact hx) hm
            exact List.any_eq_false.1 g3 _ hmem (by simp)
        · exact k4 j o' (by omega) h2 ho
      · rw [cons, ← c1h (false, id, ob), show idD x0 (fun _ => true) i = _ from (c1i (false, id, ob)).symm, show (i, id) :: esD x0 i = _ from (c1e (false, id, ob)).symm] at h
        obtain ⟨c1, x1, k1, k2, k4, k5⟩ := headY_some k (i + 1) l _ _ hl' (by omega) h
        have e1 : ∀ j, j < i → c1 j = c0 j := fun j hj => by rw [k1 j (by omega), if_neg (by omega)]
        have e2 : c1 i = c := by rw [k1 i (by omega), if_pos rfl]
        have e3 : ∀ j, j < i → x1 j = x0 j := fun j hj => by rw [k2 j (by omega), if_neg (by omega)]
        refine ⟨c1, x1, e1, e3, fun j o' h1 h2 ho => ?_, k5⟩
        by_cases hji : j = i
        · subst hji
          rw [hoi] at ho
          obtain rfl := Option.some.inj ho
          refine .inr (.inr ⟨id, ob, by rw [k2 j (by omega), if_pos rfl], ?_⟩)
          rw [fsOf_congr e1, e2, hpD_x e3]
          refine ⟨hg, hf, fun q hq hqi => List.any_eq_false.1 hid q hq (by simpa using hqi), fun m hm f ob' hx => ?_⟩
          have hmem : (m, id) ∈ esD x0 j := esD_mem (by rw [← e3 m hm]; exact hx) hm
          have := List.all_eq_true.1 hbef _ hmem
          simpa using this
        · exact k4 j o' (by omega) h2 ho
/-- the state of a region whose head is under way -/
def stY (l : List Oper) (n : Nat) (st : St) (c : Nat → AV) (x : Nat → Option Ent) (listed : Array Bool) : St :=
  { st with tmps := haddB (fsOf l c n) (fun j => listed.getD j false) st.tmps, heap := hpD x (fun j => listed.getD j false) n ++ st.heap, ids := idD x (fun j => listed.getD j false) n ++ st.ids }
structure DSY (F S0 : Nat → Prop) (N0 : Nat) (w0 : World) (l : List Oper) (n : Nat) (st : St) (c : Nat → AV) (x : Nat → Option Ent) (listed : Array Bool) (a : Act) (w : World) : Prop where
  inv : ∃ ψ S, Sim F S0 N0 (stY l n st c x listed) ψ S a w
  fr : Fr F w0 w
  lsize : listed.size = l.length
  closed : ∀ k o, listed.getD k false = true → l[k]? = some o → ∀ e ∈ o.after, Region.binds .any e = true → listed.getD e.on false = true

theorem awp_dry (hm : P.follows .mixedOrders = true) {id : Nat} {l : List Oper} (hB : relB l n st.n = true) (hai : st.ids.all ai.contains = true)
    (h : headY P l.toArray n ai Q st n 0 l [] [] [] []) : awp P (.region id l.toArray true) st Q := by
  have ok := relB_ok hB
  obtain ⟨c, x, _, _, hfact, hfin⟩ := headY_some (os := l.toArray) n 0 l (fun _ => .any) (fun _ => none) rfl (by omega) h
  simp only [List.toList_toArray] at hfact hfin
  have hord : ∀ j j' f f' i ob ob', j < j' → j' < n → x j = some (f, i, ob) → x j' = some (f', i, ob') → anc l j' j = true := fun j j' f f' i ob ob' hlt hj' h1 h2 => by
    have hjl : j' < l.length := by have := ok.len; omega
    rcases hfact j' l[j'] (Nat.zero_le _) hj' (List.getElem?_eq_getElem hjl) with ⟨h, _⟩ | ⟨i', ob'', h, _, _, _, _, h6, _⟩ | ⟨i', ob'', h, _, _, _, h6⟩
    · rw [h2] at h; cases h
    · rw [h2] at h; cases h; exact absurd h1 (h6 j hlt f ob)
    · rw [h2] at h; cases h; exact h6 j hlt f ob h1
  have hnew : ∀ j f i ob, j < n → x j = some (f, i, ob) → ∀ q ∈ st.heap, q.1 ≠ i := fun j f i ob hj hx => by
    have hjl : j < l.length := by have := ok.len; omega
    rcases hfact j l[j] (Nat.zero_le _) hj (List.getElem?_eq_getElem hjl) with ⟨h, _⟩ | ⟨i', ob'', h, _, _, _, h5, _, _⟩ | ⟨i', ob'', h, _, _, h5, _⟩
    · rw [hx] at h; cases h
    · rw [hx] at h; cases h; exact h5
    · rw [hx] at h; cases h; exact h5
  have haids : ∀ (p : Nat → Bool) i, i ∈ idD x p n ++ st.ids → i ∈ ai := fun p i hi => by
    rcases List.mem_append.1 hi with hi | hi
    · obtain ⟨j, ob, hj, _, hx⟩ := idD_mem.1 hi
      have hjl : j < l.length := by have := ok.len; omega
      rcases hfact j l[j] (Nat.zero_le _) hj (List.getElem?_eq_getElem hjl) with ⟨h, _⟩ | ⟨i', ob'', h, _, _, _, _, _, h7⟩ | ⟨i', ob'', h, _⟩
      · rw [hx] at h; cases h
      · rw [hx] at h; cases h; exact h7
      · rw [hx] at h; cases h
    · simpa using List.all_eq_true.1 hai i hi
  intro F S0 N0 ψ0 Sa a0 w0 hsim
  have hs1 : Sim F S0 N0 st ψ0 Sa a0 w0.drew := ⟨hsim.defers, hsim.size, fun t => (hsim.tmps t).keep Ext.refl (fun _ h => h) (fun _ h => h) (fun _ _ _ => rfl), ⟨fun id ob ho => by
    obtain ⟨e1, e2, e3⟩ := hsim.core.obj id ob ho
    exact ⟨e1, e2.keep Ext.refl (fun _ h => h) (fun _ h => h) (fun _ _ _ => rfl) ⟨rfl, rfl⟩ (fun _ _ => rfl), e3⟩, hsim.core.inj, hsim.core.lt, hsim.core.s0, hsim.core.n0, hsim.core.fr⟩⟩
  refine wp_region_any hm ?_
  suffices key : ∀ (fuel : Nat) (listed : Array Bool) (a : Act) (w : World), DSY F S0 N0 w0 l n st c x listed a w → (∀ k, listed.getD k false = true → k < n) →
      ((List.range l.length).countP fun k => !listed.getD k true) ≤ fuel → wpAny P .any l.toArray (PostA F S0 N0 w0 Q) fuel listed a w by
    have hnil : hpD x (fun j => (Array.replicate l.toArray.size false).getD j false) n = [] := hpD_none fun j _ => gD_rep _ _
    have hnil2 : idD x (fun j => (Array.replicate l.toArray.size false).getD j false) n = [] := idD_none fun j _ => gD_rep _ _
    refine key _ _ _ _ ⟨⟨ψ0, Sa, ?_⟩, Fr.drew, by simp, (fun k o hk => by rw [gD_rep] at hk; cases hk)⟩ (fun k hk => by rw [gD_rep] at hk; cases hk) ?_
    · refine ⟨hs1.defers, hs1.size, fun t => ?_, ?_⟩
      · show RV _ (· ∈ idD x _ n ++ st.ids) _ _ _ (look .any (haddB (fsOf l c n) _ st.tmps) t)
        rw [hnil2]
        rcases haddB_cases (l := l) (c := c) (p := fun j => (Array.replicate l.toArray.size false).getD j false) (base := st.tmps) (t := t) n with ⟨j, _, hj, _⟩ | ⟨_, h2⟩
        · rw [gD_rep] at hj; cases hj
        · rw [h2]; exact hs1.tmps t
      · show Core F S0 N0 (hpD x _ n ++ st.heap) (idD x _ n ++ st.ids) _ _ _
        rw [hnil, hnil2]
        exact hs1.core
    · refine Nat.le_trans (List.countP_le_length ..) ?_
      simp
  intro fuel
  -- the end of the head
  have fin : ∀ (listed : Array Bool) (a : Act) (w : World), DSY F S0 N0 w0 l n st c x listed a w → (∀ i, i < n → listed.getD i false = true) → wpList P l.toArray (PostA F S0 N0 w0 Q) (l.drop n) a w := by
    intro listed a w d hall
    obtain ⟨ψ, S, hs⟩ := d.inv
    have hH : hpD x (fun j => listed.getD j false) n = hpD x (fun _ => true) n := hpD_congr fun j hj _ => hall j hj
    have hI : idD x (fun j => listed.getD j false) n = idD x (fun _ => true) n := idD_congr fun j hj _ => hall j hj
    have hs2 : Sim F S0 N0 { st with tmps := hadd (fsOf l c n) (fun _ => true) st.tmps, heap := hpD x (fun _ => true) n ++ st.heap, ids := idD x (fun _ => true) n ++ st.ids } ψ S a w := by
      rw [← hH, ← hI]
      refine ⟨hs.defers, hs.size, fun t => ?_, hs.core⟩
      have ht := hs.tmps t
      show RV _ _ _ _ _ (look .any (hadd (fsOf l c n) (fun _ => true) st.tmps) t)
      have ht : RV ψ (· ∈ idD x (fun j => listed.getD j false) n ++ st.ids) S w (a.tmps.getD t undef) (look .any (haddB (fsOf l c n) (fun j => listed.getD j false) st.tmps) t) := ht
      rcases hadd_cases (l := l) (c := c) (p := fun _ => true) (base := st.tmps) (t := t) n with h | ⟨j, h1, _, h3, h4⟩ | ⟨h1, h2⟩
      · rw [h]; exact .any
      · rw [h4]
        rcases haddB_cases (l := l) (c := c) (p := fun j => listed.getD j false) (base := st.tmps) (t := t) n with ⟨j', e1, e2, e3, e4⟩ | ⟨e1, e2⟩
        · rw [e4] at ht
          have hjj : j' = j := by
            unfold dstT at h3 e3
            simp only [Option.bind_eq_some_iff] at h3 e3
            obtain ⟨o1, p1, p2⟩ := h3
            obtain ⟨o2, q1, q2⟩ := e3
            exact ok.uniq j' j o2 o1 t e1 h1 q1 p1 q2 p2
          rw [hjj] at ht
          exact ht
        · exact absurd h3 (e1 j h1 (hall j h1))
      · rw [h2]
        rcases haddB_cases (l := l) (c := c) (p := fun j => listed.getD j false) (base := st.tmps) (t := t) n with ⟨j', e1, e2, e3, e4⟩ | ⟨e1, e2⟩
        · exact absurd e3 (h1 j' e1)
        · rw [e2] at ht; exact ht
    exact wpList_mono (fun e a' w' k => k.pre d.fr) _ _ _ (hfin F S0 N0 ψ S a w hs2)
  induction fuel with
  | zero =>
    intro listed a w d hh hc
    have hall : ∀ i, i < l.length → listed.getD i false = true := fun i hi => by
      have h0 : ((List.range l.length).countP fun k => !listed.getD k true) = 0 := by omega
      rw [List.countP_eq_zero] at h0
      have := h0 i (by simpa using hi)
      simp [d.lsize, hi] at this ⊢
      exact this
    have hn : n = l.length := by
      have := ok.len
      rcases Nat.lt_or_ge n l.length with h' | h'
      · have := hh n (hall _ h'); omega
      · omega
    have H := fin listed a w d fun i hi => hall i (by omega)
    rw [hn] at H
    exact wpAny_tail ok 0 l.length listed a w (by omega) (Nat.le_refl _) d.lsize (fun i hi => ⟨fun _ => hi, fun _ => by
      have := hall i hi
      simp [d.lsize, hi] at this ⊢
      exact this⟩) (by omega) H
  | succ fuel ih =>
    intro listed a w d hh hc
    by_cases hdone : ∀ i, i < n → listed.getD i false = true
    · refine wpAny_tail ok (fuel + 1) n listed a w (Nat.le_refl _) ok.len d.lsize (fun i hi => ⟨fun hl => hh i (by
        simp [d.lsize, hi] at hl ⊢
        exact hl), fun hig => by
        have := hdone i hig
        simp [d.lsize, hi] at this ⊢
        exact this⟩) ?_ (fin listed a w d hdone)
      refine Nat.le_trans ?_ hc
      rw [show l.length = n + (l.length - n) by have := ok.len; omega, List.range_add, List.countP_append]
      have : ((List.range (l.length - n)).map (n + ·)).countP (fun k => !listed.getD k true) = l.length - n := by
        rw [List.countP_eq_length.2, List.length_map, List.length_range]
        intro k hk
        simp only [List.mem_map, List.mem_range] at hk
        obtain ⟨m, hm, rfl⟩ := hk
        have hlt : n + m < l.length := by omega
        have : listed.getD (n + m) false ≠ true := fun h => by have := hh _ h; omega
        simp [d.lsize, hlt] at this ⊢
        exact this
      omega
    · have hne : Region.ready .any l.toArray listed ≠ [] := by
        have hex : ∃ i, i < n ∧ listed.getD i false = false ∧ ∀ j, j < i → listed.getD j false = true := by
          have : ∃ i, i < n ∧ listed.getD i false = false := by
            simp only [Classical.not_forall] at hdone
            obtain ⟨i, hi, hb⟩ := hdone
            exact ⟨i, hi, by simpa using hb⟩
          obtain ⟨i, hi, hb⟩ := this
          induction i using Nat.strongRecOn with
          | _ i ihi =>
            by_cases hall : ∀ j, j < i → listed.getD j false = true
            · exact ⟨i, hi, hb, hall⟩
            · simp only [Classical.not_forall] at hall
              obtain ⟨j, hj, hjb⟩ := hall
              exact ihi j hj (by omega) (by simpa using hjb)
        obtain ⟨i, hi, hb, hall⟩ := hex
        have hil : i < l.length := by have := ok.len; omega
        have : i ∈ Region.ready .any l.toArray listed := mem_ready.2 ⟨by
          simp [d.lsize, hil] at hb ⊢
          exact hb, l[i], by simp [hil], fun e he hbd => hall _ (ok.edges i _ (List.getElem?_eq_getElem hil) e he hbd)⟩
        intro h0
        rw [h0] at this
        cases this
      refine ⟨fun h0 => absurd h0 hne, fun i hi => ?_⟩
      obtain ⟨h0, o, ho, hall⟩ := mem_ready.1 hi
      have ho' : l[i]? = some o := by simpa using ho
      have hil : i < l.length := (List.getElem?_eq_some_iff.1 ho').1
      have hun := gD_both h0
      have hancL : ∀ j, anc l i j = true → listed.getD j false = true := fun j hj =>
        masks_closed (l := l) (S := fun j => listed.getD j false = true) (fun m p hm hp e he hb => d.closed m p hm hp e he hb) i o ho' hall j hj
      have hancU : ∀ j, listed.getD j false = true → anc l j i = true → False := fun j hj ha => by
        have hjl : j < l.length := by have := gD_lt hj; rw [d.lsize] at this; exact this
        have := masks_closed (l := l) (S := fun j => listed.getD j false = true) (fun m p hm hp e he hb => d.closed m p hm hp e he hb) j l[j] (List.getElem?_eq_getElem hjl) (fun e he hb => d.closed j _ hj (List.getElem?_eq_getElem hjl) e he hb) i ha
        rw [hun] at this
        cases this
      have hig : i < n := by
        rcases Nat.lt_or_ge i n with h' | h'
        · exact h'
        · exfalso
          apply hdone
          intro j hj
          exact hancL j (ok.tail i j hil h' (by omega))
      obtain ⟨ψ, S, hs⟩ := d.inv
      have hdi : dstT l i = o.dst := by unfold dstT; rw [ho']; rfl
      have hset : ∀ k, (listed.setIfInBounds i true).getD k false = true → k = i ∨ listed.getD k false = true := fun k hk => by
        by_cases hik : i = k
        · exact .inl hik.symm
        · rw [getD_set_ne false hik] at hk; exact .inr hk
      have hseti : (listed.setIfInBounds i true).getD i false = true := by simp [d.lsize, hil]
      have hdst : ∀ t, o.dst = some t → t < st.n := fun t ht => ok.dst i o t hig ho' ht
      -- the slots of the view
      have hview : ∀ (K : Nat → Prop), (∀ id, id ∈ (stY l n st c x listed).ids → K id) → ∀ t, RV ψ K S w (a.tmps.getD t undef) (look .any (hadd (fsOf l c i) (afterB o) (killD l i n ++ st.tmps)) t) := fun K hK t => by
        have ht : RV ψ (· ∈ (stY l n st c x listed).ids) S w (a.tmps.getD t undef) (look .any (haddB (fsOf l c n) (fun j => listed.getD j false) st.tmps) t) := hs.tmps t
        have uniq : ∀ {j j' : Nat}, j < n → j' < n → dstT l j = some t → dstT l j' = some t → j = j' := fun {j j'} h1 h2 h3 h4 => by
          unfold dstT at h3 h4
          simp only [Option.bind_eq_some_iff] at h3 h4
          obtain ⟨o1, p1, p2⟩ := h3
          obtain ⟨o2, q1, q2⟩ := h4
          exact ok.uniq j j' o1 o2 t h1 h2 p1 q1 p2 q2
        rcases hadd_cases (l := l) (c := c) (p := afterB o) (base := killD l i n ++ st.tmps) (t := t) i with h | ⟨j, h1, h2, h3, h4⟩ | ⟨h1, h2⟩
        · rw [h]; exact .any
        · rw [h4]
          have hjl : listed.getD j false = true := by
            obtain ⟨e, he, hon, hb⟩ := afterB_iff.1 h2
            rw [← hon]; exact hall e he hb
          rcases haddB_cases (l := l) (c := c) (p := fun j => listed.getD j false) (base := st.tmps) (t := t) n with ⟨j', e1, e2, e3, e4⟩ | ⟨e1, e2⟩
          · rw [e4, uniq e1 (by omega) e3 h3] at ht
            exact ht.mono hK fun _ h => h
          · exact absurd h3 (e1 j (by omega) hjl)
        · rw [h2]
          rcases killD_cases (l := l) (i := i) (base := st.tmps) (t := t) n with h | ⟨k1, k2⟩
          · rw [h]; exact .any
          · rw [k2]
            rcases haddB_cases (l := l) (c := c) (p := fun j => listed.getD j false) (base := st.tmps) (t := t) n with ⟨j', e1, e2, e3, e4⟩ | ⟨e1, e2⟩
            · exfalso
              rcases k1 j' e1 e3 with h | h
              · rcases Nat.lt_or_ge j' i with h' | h'
                · exact h1 j' h' e3
                · obtain rfl : j' = i := by omega
                  rw [hun] at e2; cases e2
              · exact hancU j' e2 h
            · rw [e2] at ht
              exact ht.mono hK fun _ h => h
      have fact := hfact i o (Nat.zero_le _) hig ho'
      have next : ∀ (ψ' : Env) (S' : Nat → Prop) (v : Value) (w' : World), Fr F w w' →
          Core F S0 N0 (stY l n st c x (listed.setIfInBounds i true)).heap (stY l n st c x (listed.setIfInBounds i true)).ids ψ' S' w' → RV ψ' (· ∈ (stY l n st c x (listed.setIfInBounds i true)).ids) S' w' v (c i) → (∀ t, RV ψ' (· ∈ (stY l n st c x (listed.setIfInBounds i true)).ids) S' w' (a.tmps.getD t undef) ((stY l n st c x listed).get t)) →
          wpAny P .any l.toArray (PostA F S0 N0 w0 Q) fuel (listed.setIfInBounds i true) (a.put o.dst v) w' := fun ψ' S' v w' q4 q5 q6 q7 => by
        refine ih _ _ _ ⟨⟨ψ', S', ?_⟩, d.fr.trans q4, by simp [d.lsize], ?_⟩ (fun k hk => (hset k hk).elim (fun e => by omega) (hh k)) ?_
        · refine ⟨by rw [put_defers']; exact hs.defers, by rw [put_size]; exact hs.size, fun t => ?_, q5⟩
          rw [getD_put hs.size hdst]
          have q7 := q7 t
          show RV ψ' _ S' w' _ (look .any (haddB (fsOf l c n) (fun j => (listed.setIfInBounds i true).getD j false) st.tmps) t)
          have q7 : RV ψ' (· ∈ (stY l n st c x (listed.setIfInBounds i true)).ids) S' w' (a.tmps.getD t undef) (look .any (haddB (fsOf l c n) (fun j => listed.getD j false) st.tmps) t) := q7
          have uniq : ∀ {j j' : Nat}, j < n → j' < n → dstT l j = some t → dstT l j' = some t → j = j' := fun {j j'} h1 h2 h3 h4 => by
            unfold dstT at h3 h4
            simp only [Option.bind_eq_some_iff] at h3 h4
            obtain ⟨o1, p1, p2⟩ := h3
            obtain ⟨o2, p3, p4⟩ := h4
            exact ok.uniq j j' o1 o2 t h1 h2 p1 p3 p2 p4
          rcases haddB_cases (l := l) (c := c) (p := fun j => (listed.setIfInBounds i true).getD j false) (base := st.tmps) (t := t) n with ⟨j, e1, e2, e3, e4⟩ | ⟨e1, e2⟩
          · rw [e4]
            by_cases hji : j = i
            · subst hji
              rw [hdi] at e3
              rw [if_pos e3]
              exact q6
            · have hjl := (hset j e2).resolve_left hji
              rw [if_neg (fun h => hji (uniq e1 hig e3 (by rw [hdi]; exact h)))]
              rcases haddB_cases (l := l) (c := c) (p := fun j => listed.getD j false) (base := st.tmps) (t := t) n with ⟨j', f1, f2, f3, f4⟩ | ⟨f1, f2⟩
              · rw [f4, uniq f1 e1 f3 e3] at q7; exact q7
              · exact absurd e3 (f1 j e1 hjl)
          · rw [e2, if_neg (fun h => e1 i hig hseti (by rw [hdi]; exact h))]
            rcases haddB_cases (l := l) (c := c) (p := fun j => listed.getD j false) (base := st.tmps) (t := t) n with ⟨j', f1, f2, f3, f4⟩ | ⟨f1, f2⟩
            · exact absurd f3 (e1 j' f1 (getD_set_true f2))
            · rw [f2] at q7; exact q7
        · intro k p hk hp e he hbd
          rcases hset k hk with rfl | hk'
          · rw [ho'] at hp
            obtain rfl := Option.some.inj hp
            exact getD_set_true (hall e he hbd)
          · exact getD_set_true (d.closed k p hk' hp e he hbd)
        · have := unlisted_count (m := l.length) hil h0 (by rw [d.lsize]; exact hil)
          omega
      unfold wpOp
      simp only [ho]
      have hviewAi := hview (· ∈ ai) (fun id h => haids _ id h)
      have hvt : ∀ t, RV ψ (· ∈ (viewY l n ai st i o (fsOf l c i)).ids) S w (a.tmps.getD t undef) ((viewY l n ai st i o (fsOf l c i)).get t) := hviewAi
      have hvo : ∀ id ob, lookO (viewY l n ai st i o (fsOf l c i)).heap id = some ob → ObR ψ (· ∈ (viewY l n ai st i o (fsOf l c i)).ids) S w id ob := fun id ob hob => by
        have hob : lookO st.heap id = some ob := hob
        have hmem : ∃ q ∈ st.heap, q.1 = id := by
          have gen : ∀ H : List (Nat × AObj), lookO H id = some ob → ∃ q ∈ H, q.1 = id := fun H => by
            induction H with
            | nil => intro h; cases h
            | cons q H ih =>
              intro h
              rw [lookO_cons] at h
              by_cases hq : q.1 = id
              · exact ⟨q, List.mem_cons_self .., hq⟩
              · rw [if_neg hq] at h
                obtain ⟨q', h1, h2⟩ := ih h
                exact ⟨q', List.mem_cons_of_mem _ h1, h2⟩
          exact gen _ hob
        have hob' : lookO (stY l n st c x listed).heap id = some ob := by
          show lookO (hpD x _ n ++ st.heap) id = some ob
          rw [hpD_old, hob]
          intro j hj f ob' hx
          obtain ⟨q', h1, h2⟩ := hmem
          exact hnew j f id ob' hj hx q' h1 h2
        obtain ⟨g1, g2, g3⟩ := hs.core.obj id ob hob'
        exact g2.keep Ext.refl (fun id h => haids _ id h) (fun _ h => h) (fun _ _ _ => rfl) ⟨rfl, rfl⟩ (fun _ _ => rfl)
      have hlook : ∀ id0 ob0 f, x i = some (f, id0, ob0) → ∀ id, lookO ((id0, ob0) :: (stY l n st c x listed).heap) id = lookO (stY l n st c x (listed.setIfInBounds i true)).heap id := fun id0 ob0 f hx id => by
        show lookO ((id0, ob0) :: (hpD x _ n ++ st.heap)) id = lookO (hpD x _ n ++ st.heap) id
        rw [lookO_cons]
        refine (hpD_add (p := fun j => listed.getD j false) (q := fun j => (listed.setIfInBounds i true).getD j false) hx (fun j => ⟨fun h => hset j h, fun h => ?_⟩) hun id hig fun j hj hij hlj f' ob' hxj => ?_).symm
        · rcases h with rfl | h
          · exact hseti
          · exact getD_set_true h
        · exact hancU j hlj (hord i j _ _ _ _ _ hij hj hx hxj)
      rcases fact with ⟨hx, hN, hNok⟩ | ⟨id0, ob0, hx, hg, hA, hid1, hid2, hid3, _⟩ | ⟨id0, ob0, hx, hg, hA, hid2, hid3⟩
      · -- one that makes nothing
        have hji : ∀ j, x j ≠ none → i ≠ j := fun j hxj h => hxj (by rw [← h]; exact hx)
        have hheap : hpD x (fun j => (listed.setIfInBounds i true).getD j false) n = hpD x (fun j => listed.getD j false) n := hpD_congr fun j hj hxj => getD_set_ne false (hji j hxj)
        have hidd : idD x (fun j => (listed.setIfInBounds i true).getD j false) n = idD x (fun j => listed.getD j false) n := idD_congr fun j hj hxj => getD_set_ne false (hji j hxj)
        have hids' : (stY l n st c x (listed.setIfInBounds i true)).ids = (stY l n st c x listed).ids := by show idD x _ n ++ st.ids = _; rw [hidd]; rfl
        have hhp' : (stY l n st c x (listed.setIfInBounds i true)).heap = (stY l n st c x listed).heap := by show hpD x _ n ++ st.heap = _; rw [hheap]; rfl
        have hback : ∀ {v : Value} {S' : Nat → Prop} {w' : World}, RV ψ (· ∈ (viewY l n ai st i o (fsOf l c i)).ids) S' w' v (c i) → RV ψ (· ∈ (stY l n st c x listed).ids) S' w' v (c i) := fun {v S' w'} hv =>
          (hv.subA hNok).mono (fun id h => List.mem_append_right _ h) fun _ h => h
        rcases hN with ⟨hg, hN⟩ | ⟨hg, hN⟩
        · have hw := wanted_of' (st := viewY l n ai st i o (fsOf l c i)) hvt hg
          rw [if_pos hw]
          refine .inl (wp_of_relAt ?_ (hN ψ S a w hvt hvo))
          rintro v w' ⟨g1, g2⟩
          refine next ψ (fun b => (S b ∨ w.heap.size ≤ b) ∧ b < w'.heap.size) v w' (Fr.of_grow hs.core.fr g1) ?_ ?_ fun t => ?_
          · rw [hids', hhp']; exact hs.core.grow g1
          · rw [hids']; exact (hback g2).bound.mono (fun _ h => h) fun _ h => h
          · rw [hids']; exact (hs.tmps t).keep Ext.refl (fun _ h => h) (fun b hb => ⟨.inl hb, Nat.lt_of_lt_of_le (hs.core.lt b hb) g1.size⟩) (Same.of_grow g1)
        · have hw := wanted_of' (st := viewY l n ai st i o (fsOf l c i)) hvt hg
          rw [if_neg (by rw [hw]; exact Bool.false_ne_true)]
          refine next ψ S undef w Fr.refl ?_ ?_ fun t => ?_
          · rw [hids', hhp']; exact hs.core
          · rw [hN]; exact .fz RF.undef
          · rw [hids']; exact hs.tmps t
      · -- one that makes an object
        have hw := wanted_of' (st := viewY l n ai st i o (fsOf l c i)) hvt hg
        rw [if_pos hw]
        have hnot : id0 ∉ (stY l n st c x listed).ids := by
          show id0 ∉ idD x _ n ++ st.ids
          intro hm
          rcases List.mem_append.1 hm with hm | hm
          · obtain ⟨j, ob, hj, hlj, hxj⟩ := idD_mem.1 hm
            rcases Nat.lt_trichotomy j i with h | h | h
            · exact hid3 j h _ _ hxj
            · subst h; rw [hun] at hlj; cases hlj
            · exact hancU j hlj (hord i j _ _ _ _ _ h hj hx hxj)
          · exact hid1 hm
        refine .inl (wp_of_relAt ?_ (hA (stY l n st c x listed) (by simpa using hnot) F S0 N0 ψ S a w hs))
        rintro v w' ⟨ψ', S', g1, g2, g3, g4, g5, g6, g7⟩
        have hmemA : ∀ id, id ∈ id0 :: (stY l n st c x listed).ids ↔ id ∈ (stY l n st c x (listed.setIfInBounds i true)).ids := fun id => by
          show id ∈ id0 :: (idD x _ n ++ st.ids) ↔ id ∈ idD x _ n ++ st.ids
          simp only [List.mem_cons, List.mem_append]
          constructor
          · rintro (h | h | h)
            · exact .inl (idD_mem.2 ⟨i, ob0, hig, hseti, by rw [hx, h]⟩)
            · obtain ⟨j, ob, hj, hlj, hxj⟩ := idD_mem.1 h
              exact .inl (idD_mem.2 ⟨j, ob, hj, getD_set_true hlj, hxj⟩)
            · exact .inr h
          · rintro (h | h)
            · obtain ⟨j, ob, hj, hlj, hxj⟩ := idD_mem.1 h
              rcases hset j hlj with rfl | hlj
              · rw [hx] at hxj
                cases hxj
                exact .inl rfl
              · exact .inr (.inl (idD_mem.2 ⟨j, ob, hj, hlj, hxj⟩))
            · exact .inr (.inr h)
        have hKe : (fun id => id ∈ id0 :: (stY l n st c x listed).ids) = fun id => id ∈ (stY l n st c x (listed.setIfInBounds i true)).ids := funext fun id => propext (hmemA id)
        refine next ψ' S' v w' g3 (core_congr (hlook id0 ob0 true hx) hmemA g1) ?_ fun t => ?_
        · have g2 : RV ψ' (fun id => id ∈ id0 :: (stY l n st c x listed).ids) S' w' v (c i) := g2
          rw [hKe] at g2
          exact g2
        · exact (hs.tmps t).keep g4 (fun id h => (hmemA id).1 (g5 id h)) g6 g7
      · -- one that stores to one that was made here
        have hw := wanted_of' (st := viewY l n ai st i o (fsOf l c i)) hvt hg
        rw [if_pos hw]
        have hidd : idD x (fun j => (listed.setIfInBounds i true).getD j false) n = idD x (fun j => listed.getD j false) n := by
          have gen : ∀ k, idD x (fun j => (listed.setIfInBounds i true).getD j false) k = idD x (fun j => listed.getD j false) k := fun k => by
            induction k with
            | zero => rfl
            | succ k ihk =>
              simp only [idD, ihk]
              cases hxk : x k with
              | none => rfl
              | some r =>
                by_cases hki : i = k
                · subst hki
                  rw [hx] at hxk
                  cases hxk
                  simp only [Bool.and_false]
                · simp only [getD_set_ne false hki]
          exact gen n
        have hids' : (stY l n st c x (listed.setIfInBounds i true)).ids = (stY l n st c x listed).ids := by show idD x _ n ++ st.ids = _; rw [hidd]; rfl
        have hvs : Sim F S0 N0 { viewY l n ai st i o (fsOf l c i) with heap := (stY l n st c x listed).heap, ids := (stY l n st c x listed).ids } ψ S a w :=
          ⟨hs.defers, hs.size, fun t => hview (· ∈ (stY l n st c x listed).ids) (fun _ h => h) t, hs.core⟩
        have hsame : lookO (stY l n st c x listed).heap id0 = lookO (hpD x (fun _ => true) i ++ st.heap) id0 := by
          show lookO (hpD x _ n ++ st.heap) id0 = _
          have e : hpD x (fun _ => true) i = hpD x (fun j => decide (j < i)) n := by
            have gen : ∀ k, i ≤ k → hpD x (fun j => decide (j < i)) k = hpD x (fun _ => true) i := fun k hk => by
              induction k with
              | zero => obtain rfl : i = 0 := by omega
                        rfl
              | succ k ihk =>
                by_cases hki : i = k + 1
                · subst hki
                  exact hpD_congr fun j hj _ => decide_eq_true hj
                · rw [← ihk (by omega)]
                  simp only [hpD]
                  cases x k with
                  | none => rfl
                  | some r => simp only [decide_eq_false (show ¬ k < i by omega), cond_false]
            exact (gen n (by omega)).symm
          rw [e]
          refine hpD_same fun j hj f ob hxj => ?_
          rcases Nat.lt_trichotomy j i with h | h | h
          · rw [decide_eq_true h, hancL j (hid3 j h f ob hxj)]
          · subst h; rw [hun, decide_eq_false (Nat.lt_irrefl _)]
          · rw [decide_eq_false (by omega)]
            cases hlj : listed.getD j false with
            | false => rfl
            | true => exact (hancU j hlj (hord i j _ _ _ _ _ h hj hx hxj)).elim
        refine .inl (wp_of_relAt ?_ (hA (stY l n st c x listed).heap (stY l n st c x listed).ids hsame F S0 N0 ψ S a w hvs))
        rintro v w' ⟨ψ', S', g1, g2, g3, g4, g5, g6, g7⟩
        refine next ψ' S' v w' g3 ?_ ?_ fun t => ?_
        · rw [hids']; exact core_congr (hlook id0 ob0 false hx) (fun _ => Iff.rfl) g1
        · rw [hids']; exact g2
        · rw [hids']; exact (hs.tmps t).keep g4 g5 g6 g7
end
end Go.Proofs.YtfhmljjkhjifeaaGreatDoor
