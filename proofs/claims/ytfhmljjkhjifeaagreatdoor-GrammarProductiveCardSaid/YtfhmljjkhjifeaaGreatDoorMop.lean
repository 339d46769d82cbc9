/- Rules for operations in front of the machine. -/
import Derived.Test.YtfhmljjkhjifeaaGreatDoorOpr
import Derived.Test.YtfhmljjkhjifeaaGreatDoorMach
set_option linter.unusedVariables false
set_option linter.unusedSimpArgs false
namespace Go.Proofs.YtfhmljjkhjifeaaGreatDoor
open Go Go.RowKit

/-- how data of a type stand as elements of a row -/
structure En (α : Type) where
  f : α → FV
  n : Nat
  cl : α → List FV
  hcl : ∀ x, (f x).cells = cl x
  hn : ∀ x, (f x).cells.length = n
def nB : En Bool := ⟨eB, 1, fun x => [eB x], fun _ => rfl, fun _ => rfl⟩
def nI : En Int := ⟨eI, 1, fun x => [eI x], fun _ => rfl, fun _ => rfl⟩
def nS : En ByteArray := ⟨eS, 1, fun x => [eS x], fun _ => rfl, fun _ => rfl⟩
def nU8 : En Int := ⟨eU8, 1, fun x => [eU8 x], fun _ => rfl, fun _ => rfl⟩
def nL {α : Type} (s : Nat) (E : En α) : En (List α) := ⟨eL s E.f, 1, fun x => [eL s E.f x], fun _ => rfl, fun _ => rfl⟩
def nVaR : En Va := ⟨eVaR, 4, fun x => (eVa x).cells, cells_eVaR, len_eVaR⟩
def nSy : En Sy := ⟨eSy, 2, fun x => (eSy x).cells, fun _ => rfl, fun _ => rfl⟩
def nRu : En Ru := ⟨eRu, 9, fun x => (eRu x).cells, fun _ => rfl, fun _ => rfl⟩
def viewF {γ : Type} (f : Oper → St → Option γ) (g : Cfg) : Option γ := match viewOf g with
  | some p => f p.1 p.2
  | none => none

section
variable {P : Program} [t : Tab P] {Q : Exit → St → Prop} {g : Cfg} {β : Type} {r : β}

theorem vst {γ : Type} {f : Oper → St → Option γ} {z : γ} {c : AV} (k : Nat) (hc : viewF f (crun P k g) = some z) (hn : ∀ o v, f o v = some z → NStep P o v c) (h : W P (rsm c (crun P k g)) Q) : W P g Q := by
  refine crun_ok (k := k) ?_
  unfold viewF at hc
  split at hc
  · rename_i p hp
    exact rsm_ok hp (hn _ _ hc) h
  · cases hc
/-- an element of a list -/
def ixOf (T : List (TypeId × TD)) (o : Oper) (st : St) : Option (Nat × List FV × Int) := match o.op with
  | .indexAddr t x y => match lookT T t with
    | some d => match d.kind, listOf (st.eval x), st.eval y with
      | .slice e, some xs, .fz (.atom (.int _ i)) => match lookT T e with
        | some de => some (de.size, xs, i)
        | none => none
      | _, _, _ => none
    | none => none
  | _ => none
theorem ix {α : Type} {ys : List α} {i : Int} {K : α → Option β} (E : En α) (k : Nat) (h : Option.bind (idx ys i) K = some r) (hc : viewF (ixOf t.T) (crun P k g) = some (E.n, ys.map E.f, i)) (hw : ∀ v, K v = some r → W P (rsm (.fz (.fp (E.cl v))) (crun P k g)) Q) : W P g Q := by
  obtain ⟨v, h1, h2⟩ := Option.bind_eq_some_iff.1 h
  refine vst k hc (fun o st hz => ?_) (hw v h2)
  unfold ixOf at hz
  split at hz
  · rename_i tt x y ho
    split at hz
    · rename_i d hd
      split at hz
      · rename_i e xs k' i' hk hx hy
        split at hz
        · rename_i de hde
          simp only [Option.some.injEq, Prod.mk.injEq] at hz
          obtain ⟨z1, z2, z3⟩ := hz
          subst z2 z3
          exact s_index (enc := E.f) h1 t.ok ho hd hk hde hx (fun x => by rw [E.hn, z1]) hy (E.hcl v)
        · cases hz
      · cases hz
    · cases hz
  · cases hz
/-- a byte of a text -/
def byOf (T : List (TypeId × TD)) (o : Oper) (st : St) : Option (ByteArray × Int) := match o.op with
  | .index t x y => match lookT T t with
    | some d => match d.kind, st.eval x, st.eval y with
      | .str, .fz (.atom (.string s)), .fz (.atom (.int _ i)) => some (s, i)
      | _, _, _ => none
    | none => none
  | _ => none
theorem byx {s : ByteArray} {i : Int} {K : Int → Option β} (k : Nat) (h : Option.bind (byt s i) K = some r) (hc : viewF (byOf t.T) (crun P k g) = some (s, i)) (hw : ∀ v, K v = some r → W P (rsm (.fz (eU8 v)) (crun P k g)) Q) : W P g Q := by
  obtain ⟨v, h1, h2⟩ := Option.bind_eq_some_iff.1 h
  refine vst k hc (fun o st hz => ?_) (hw v h2)
  unfold byOf at hz
  split at hz
  · rename_i tt x y ho
    split at hz
    · rename_i d hd
      split at hz
      · rename_i s' k' i' hk hx hy
        simp only [Option.some.injEq, Prod.mk.injEq] at hz
        obtain ⟨rfl, rfl⟩ := hz
        exact s_byte h1 t.ok ho hd hk hx hy
      · cases hz
    · cases hz
  · cases hz

/-- the shape that a type wants -/
def tyCs (T : List (TypeId × TD)) : Nat → TypeId → List C0
  | 0, _ => []
  | n + 1, t => match lookT T t with
    | some d => match d.kind with
      | .slice e => match lookT T e with
        | some de => [.sl de.size]
        | none => [.keep]
      | .st fs => fs.flatMap fun p => tyCs T n p.1
      | .arr m e => (List.replicate m e).flatMap fun e => tyCs T n e
      | _ => [.keep]
    | none => [.keep]
def tyC (T : List (TypeId × TD)) (t : TypeId) : C1 := match lookT T t with
  | some d => match d.kind with
    | .slice e => match lookT T e with
      | some de => .one (.sl de.size)
      | none => .one .keep
    | .st _ => .ag (tyCs T 9 t)
    | .arr _ _ => .ag (tyCs T 9 t)
    | _ => .one .keep
  | none => .one .keep
/-- a call of a function over data -/
def clOf (T : List (TypeId × TD)) (o : Oper) (st : St) : Option (FuncId × List FV) := match o.op with
  | .call c => match c.callee with
    | .value (.func f) => match coArgs st (c.argTypes.toList.map (tyC T)) c.args.toList with
      | some ys => some (f, ys)
      | none => none
    | _ => none
  | _ => none
theorem cl {α : Type} {E : Option α} {K : α → Option β} {f : FuncId} {ys : List FV} {y : α → FV} (k : Nat) (h : Option.bind E K = some r) (hp : ∀ v, E = some v → PCall P f ys (y v)) (hc : viewF (clOf t.T) (crun P k g) = some (f, ys)) (hw : ∀ v, K v = some r → W P (rsm (.fz (y v)) (crun P k g)) Q) : W P g Q := by
  obtain ⟨v, h1, h2⟩ := Option.bind_eq_some_iff.1 h
  refine vst k hc (fun o st hz => ?_) (hw v h2)
  unfold clOf at hz
  split at hz
  · rename_i c ho
    split at hz
    · rename_i f' hf
      split at hz
      · rename_i ys' hy
        simp only [Option.some.injEq, Prod.mk.injEq] at hz
        obtain ⟨rfl, rfl⟩ := hz
        obtain ⟨cc, as, ts⟩ := c
        simp only at hf
        subst hf
        exact n_call ho hy (hp v h1)
      · cases hz
    · cases hz
  · cases hz
/-- a call of a function that is lent objects -/
def hcOf (cs : List C1) (r1 r2 : List (Nat × Nat)) (keys ids0 ids1 : List Nat) (post : List (Nat × AObj)) (o : Oper) (st : St) : Option (FuncId × List AV × List (Nat × AObj)) := match o.op with
  | .call c => match c.callee with
    | .value x => match fnOf c.args.size (st.eval x) with
      | some (f, cap) => match argsX st r1 (renI r2 ids0) cs c.args.toList, capsX r1 (renI r2 ids0) cap, preX st r1 r2 (renI r2 ids0) keys with
        | some as1, some as2, some pre => bif footOk st r1 r2 keys ids0 ids1 post then some (f, as1 ++ as2, pre) else none
        | _, _, _ => none
      | _ => none
    | _ => none
  | _ => none
theorem hcl {α : Type} {E : Option α} {K : α → Option β} {f : FuncId} {as : List AV} {pre : List (Nat × AObj)} {ids0 ids1 : List Nat} {res : α → AV} {post : α → List (Nat × AObj)} (k : Nat) (cs : List C1) (r1 r2 : List (Nat × Nat)) (keys : List Nat) (h : Option.bind E K = some r)
    (hp : ∀ v, E = some v → HCall P f as pre ids0 (.ret (res v)) (post v) ids1) (hc : ∀ v, stepF (hcOf cs r1 r2 keys ids0 ids1 (post v)) (crun P k g) = some (f, as, pre))
    (hw : ∀ v, K v = some r → W P (rsmA (renA r2 (res v)) (renH r2 (post v) ++ restO (renI r2 ids0) (stOf (crun P k g)).heap) (renI r2 ids1 ++ (stOf (crun P k g)).ids) (crun P k g)) Q) : W P g Q := by
  obtain ⟨v, h1, h2⟩ := Option.bind_eq_some_iff.1 h
  obtain ⟨hk, hz⟩ := stepF_ok (hc v)
  refine sst k ?_ hk (hw v h2)
  unfold hcOf at hz
  split at hz
  · rename_i c ho
    split at hz
    · rename_i x hx
      split at hz
      · rename_i f' cap hcap
        split at hz
        · rename_i as1 as2 pre' e1 e2 e3
          cases hb : footOk (stOf (crun P k g)) r1 r2 keys ids0 ids1 (post v) with
          | false => rw [hb] at hz; cases hz
          | true =>
            rw [hb] at hz
            simp only [cond_true, Option.some.injEq, Prod.mk.injEq] at hz
            obtain ⟨rfl, rfl, rfl⟩ := hz
            obtain ⟨cc, as, ts⟩ := c
            simp only at hx
            subst hx
            exact h_step r1 r2 ho hcap (hp v h1) e1 e2 hb e3
        · cases hz
      · cases hz
    · cases hz
  · cases hz

theorem hcOf_ok {cs : List C1} {r1 r2 : List (Nat × Nat)} {keys ids0 ids1 : List Nat} {post : List (Nat × AObj)} {o : Oper} {st : St} {f : FuncId} {as : List AV} {pre : List (Nat × AObj)} (hz : hcOf cs r1 r2 keys ids0 ids1 post o st = some (f, as, pre)) :
    ∃ x args ts cap as1 as2, o.op = .call { callee := .value x, args := args, argTypes := ts } ∧ fnOf args.size (st.eval x) = some (f, cap) ∧ argsX st r1 (renI r2 ids0) cs args.toList = some as1 ∧ capsX r1 (renI r2 ids0) cap = some as2 ∧ as = as1 ++ as2 ∧ footOk st r1 r2 keys ids0 ids1 post = true ∧ preX st r1 r2 (renI r2 ids0) keys = some pre := by
  unfold hcOf at hz
  split at hz
  · rename_i c ho
    split at hz
    · rename_i x hx
      split at hz
      · rename_i f' cap hcap
        split at hz
        · rename_i as1 as2 pre' e1 e2 e3
          cases hb : footOk st r1 r2 keys ids0 ids1 post with
          | false => rw [hb] at hz; cases hz
          | true =>
            rw [hb] at hz
            simp only [cond_true, Option.some.injEq, Prod.mk.injEq] at hz
            obtain ⟨rfl, rfl, rfl⟩ := hz
            obtain ⟨cc, as, ts⟩ := c
            simp only at hx
            subst hx
            exact ⟨x, as, ts, cap, as1, as2, ho, hcap, e1, e2, rfl, rfl, e3⟩
        · cases hz
      · cases hz
    · cases hz
  · cases hz
/-- data behind a row of the call's own -/
structure ApR where
  id : Nat
  e : TypeId
  size : Nat
  bytes : Nat
  n : Nat
  xs : List FV
  ys : List FV
def srcOf (size : Nat) : AV → Option (List FV)
  | .fz (.lst s _ ys) => bif Nat.beq s size then some ys else none
  | .lim s _ ys => bif Nat.beq s size then some ys else none
  | _ => none
theorem srcOf_ok {size : Nat} {x : AV} {ys : List FV} (h : srcOf size x = some ys) : ∃ m, x = .fz (.lst size m ys) ∨ x = .lim size m ys := by
  unfold srcOf at h
  split at h
  · rename_i s m zs
    cases hb : Nat.beq s size with
    | false => rw [hb] at h; cases h
    | true =>
      rw [hb] at h
      obtain rfl := Nat.eq_of_beq_eq_true hb
      obtain rfl := Option.some.inj h
      exact ⟨m, .inl rfl⟩
  · rename_i s m zs
    cases hb : Nat.beq s size with
    | false => rw [hb] at h; cases h
    | true =>
      rw [hb] at h
      obtain rfl := Nat.eq_of_beq_eq_true hb
      obtain rfl := Option.some.inj h
      exact ⟨m, .inr rfl⟩
  · cases h
def apOf (T : List (TypeId × TD)) (o : Oper) (st : St) : Option ApR := match o.op with
  | .call c => match c.callee, c.args.toList, c.argTypes.toList with
    | .builtin .append, [X, Y], [t, u] => bif Nat.beq u t then (match lookT T t with
      | some d => match d.kind, st.eval X with
        | .slice e, .row id n => match lookT T e, lookO st.heap id with
          | some de, some (.frow e' s xs) => match srcOf de.size (st.eval Y) with
            | some ys => bif Nat.beq e' e && (Nat.beq s de.size && (Nat.ble 1 de.size && Nat.beq de.zero.length de.size)) then some ⟨id, e, de.size, de.bytes, n, xs, ys⟩ else none
            | none => none
          | _, _ => none
        | _, _ => none
      | none => none) else none
    | _, _, _ => none
  | _ => none
theorem apOf_ok {α : Type} {E : En α} {xs ys v : List α} {o : Oper} {st : St} {q : ApR} (hz : apOf t.T o st = some q) (h : app q.bytes xs ys = some v) (hn : q.n = xs.length) (hx : q.xs = xs.map E.f) (hy : q.ys = ys.map E.f) :
    ∃ (X Y : Operand) (ty : TypeId) (d de : TD) (m : Nat), o.op = .call { callee := .builtin .append, args := #[X, Y], argTypes := #[ty, ty] } ∧ lookT t.T ty = some d ∧ d.kind = .slice q.e ∧ lookT t.T q.e = some de ∧ de.size = q.size ∧ Nat.ble 1 de.size = true ∧ de.zero.length = de.size ∧ de.bytes = q.bytes ∧
      st.eval X = .row q.id xs.length ∧ lookO st.heap q.id = some (.frow q.e de.size (xs.map E.f)) ∧ (st.eval Y = .fz (.lst de.size m (ys.map E.f)) ∨ st.eval Y = .lim de.size m (ys.map E.f)) := by
  unfold apOf at hz
  split at hz
  · rename_i c ho
    split at hz
    · rename_i X Y ty u h1 h2 h3
      cases hu : Nat.beq u ty with
      | false => rw [hu] at hz; cases hz
      | true =>
        rw [hu] at hz
        obtain rfl := Nat.eq_of_beq_eq_true hu
        simp only [cond_true] at hz
        split at hz
        · rename_i d hd
          split at hz
          · rename_i e id n hk hX
            split at hz
            · rename_i de e' s xs' hde hob
              split at hz
              · rename_i ys' hY
                cases hb : (Nat.beq e' e && (Nat.beq s de.size && (Nat.ble 1 de.size && Nat.beq de.zero.length de.size))) with
                | false => rw [hb] at hz; cases hz
                | true =>
                  rw [hb] at hz
                  obtain rfl := Option.some.inj hz
                  simp only [Bool.and_eq_true] at hb
                  obtain ⟨b1, b2, b3, b4⟩ := hb
                  obtain rfl := Nat.eq_of_beq_eq_true b1
                  obtain rfl := Nat.eq_of_beq_eq_true b2
                  simp only at hn hx hy
                  subst hn hx hy
                  obtain ⟨m, hm⟩ := srcOf_ok hY
                  obtain ⟨cc, as, ts⟩ := c
                  simp only at h1 h2 h3
                  rw [h1, array_two h2, array_two h3] at ho
                  exact ⟨X, Y, _, d, de, m, ho, hd, hk, hde, rfl, b3, Nat.eq_of_beq_eq_true b4, rfl, hX, hob, hm⟩
              · cases hz
            · cases hz
          · cases hz
        · cases hz
    · cases hz
  · cases hz
def apK (q : Option ApR) : Option (Nat × Nat × List FV × List FV) := match q with
  | some q => some (q.bytes, q.n, q.xs, q.ys)
  | none => none
def apG {α : Type} (T : List (TypeId × TD)) (E : En α) (v : List α) (g : Cfg) : Cfg := match stepF (apOf T) g with
  | some q => rsmA (.row q.id v.length) ((q.id, .frow q.e q.size (v.map E.f)) :: (stOf g).heap) (stOf g).ids g
  | none => ⟨.bad, g.ks, g.st⟩
theorem ap {α : Type} {bytes : Nat} {xs ys : List α} {K : List α → Option β} (E : En α) (k : Nat) (h : Option.bind (app bytes xs ys) K = some r) (hc : apK (stepF (apOf t.T) (crun P k g)) = some (bytes, xs.length, xs.map E.f, ys.map E.f)) (hw : ∀ v, K v = some r → W P (apG t.T E v (crun P k g)) Q) : W P g Q := by
  obtain ⟨v, h1, h2⟩ := Option.bind_eq_some_iff.1 h
  have hw := hw v h2
  unfold apK at hc
  split at hc
  · rename_i q hq
    simp only [Option.some.injEq, Prod.mk.injEq] at hc
    obtain ⟨rfl, e1, e2, e3⟩ := hc
    unfold apG at hw
    rw [hq] at hw
    obtain ⟨hk, hz⟩ := stepF_ok hq
    refine sst k ?_ hk hw
    obtain ⟨X, Y, ty, d, de, m, k1, k2, k3, k4, k5, k6, k7, k8, k9, k10, k11⟩ := apOf_ok hz h1 e1 e2 e3
    rw [← k5]
    exact s_append (enc := E.f) h1 t.ok k1 k2 k3 k4 k6 k7 k8 k9 k10 rfl k11
  · cases hc
def stepZF {γ : Type} (f : Oper → St → Option γ) (g : Cfg) : Option γ := bif okZ g then f (viewO g) (viewZs g) else none
theorem stepZF_ok {γ : Type} {f : Oper → St → Option γ} {z : γ} {g : Cfg} (h : stepZF f g = some z) : okZ g = true ∧ f (viewO g) (viewZs g) = some z := by
  unfold stepZF at h
  cases hk : okZ g with
  | false => rw [hk] at h; cases h
  | true => rw [hk] at h; exact ⟨rfl, h⟩
theorem hclZ {α : Type} {E : Option α} {K : α → Option β} {f : FuncId} {as : List AV} {pre : List (Nat × AObj)} {ids0 ids1 : List Nat} {res : α → AV} {post : α → List (Nat × AObj)} (k : Nat) (cs : List C1) (r1 r2 : List (Nat × Nat)) (keys : List Nat) (h : Option.bind E K = some r)
    (hp : ∀ v, E = some v → HCall P f as pre ids0 (.ret (res v)) (post v) ids1) (hc : ∀ v, stepZF (hcOf cs r1 r2 keys ids0 ids1 (post v)) (crun P k g) = some (f, as, pre)) (hi : idsZ (renI r2 ids1 ++ (viewZs (crun P k g)).ids) (crun P k g) = true)
    (hk : ∀ v, offZ (crun P k g) (renH r2 (post v) ++ restO (renI r2 ids0) (viewZs (crun P k g)).heap) = offZ (crun P k g) (hpZ (crun P k g)))
    (hw : ∀ v, K v = some r → W P (rsmZ (renA r2 (res v)) (renH r2 (post v) ++ restO (renI r2 ids0) (viewZs (crun P k g)).heap) (renI r2 ids1 ++ (viewZs (crun P k g)).ids) (crun P k g)) Q) : W P g Q := by
  obtain ⟨v, h1, h2⟩ := Option.bind_eq_some_iff.1 h
  obtain ⟨hok, hz⟩ := stepZF_ok (hc v)
  obtain ⟨x, args, ts, cap, as1, as2, e1, e2, e3, e4, rfl, e5, e6⟩ := hcOf_ok hz
  exact zst k (h_step r1 r2 e1 e2 (hp v h1) e3 e4 e5 e6) hok hi (hk v) (hw v h2)
end
end Go.Proofs.YtfhmljjkhjifeaaGreatDoor
