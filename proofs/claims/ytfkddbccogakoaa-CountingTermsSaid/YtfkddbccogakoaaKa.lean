/- Least sizes: they settle in ys many rounds ys there are symbols. -/
import Derived.Test.YtfkddbccogakoaaGu
import Derived.Test.YtfkddbccogakoaaLo
set_option linter.unusedVariables false
set_option linter.unusedSimpArgs false
namespace Go.Proofs.Ytfkddbccogakoaa
open Go Go.RowKit

def at0 (o : List Int) (s : Int) : Int := (o[s.toNat]?).getD 0
theorem at0_set {o : List Int} {s c q : Int} (h : 0 ≤ s) (h2 : s < (o.length : Int)) (hq : 0 ≤ q) : at0 (o.set s.toNat c) q = if q = s then c else at0 o q := by
  unfold at0
  rw [List.getElem?_set]
  by_cases h : q = s
  · subst h; rw [if_pos rfl, if_pos (by omega), if_pos rfl]; rfl
  · rw [if_neg (by omega), if_neg h]
theorem at0_mem {o : List Int} {s : Int} (h : 0 ≤ s) (h2 : s < (o.length : Int)) : at0 o s ∈ o := by
  unfold at0
  rw [List.getElem?_eq_getElem (by omega)]
  exact List.getElem_mem _
/-- the size that a rule gives, 0 for none -/
def costF (o : List Int) : List Int → Int → Int
  | [], n => n
  | a :: ys, n => if at0 o a = 0 then 0 else costF o ys (n + at0 o a)
theorem costF_ge {o : List Int} : ∀ (ys : List Int) (n : Int), (∀ a ∈ ys, 0 ≤ at0 o a) → 1 ≤ n → costF o ys n = 0 ∨ (n ≤ costF o ys n ∧ ∀ s ∈ ys, n + at0 o s ≤ costF o ys n)
  | [], n, _, h => .inr ⟨by simp [costF], fun s hs => nomatch hs⟩
  | a :: ys, n, ha, h => by
    have h0 := ha a (List.mem_cons_self ..)
    unfold costF
    by_cases hz : at0 o a = 0
    · rw [if_pos hz]; exact .inl rfl
    · rw [if_neg hz]
      rcases costF_ge ys (n + at0 o a) (fun x hx => ha x (List.mem_cons_of_mem _ hx)) (by omega) with h1 | ⟨h1, h2⟩
      · exact .inl h1
      · refine .inr ⟨by omega, fun s hs => ?_⟩
        rcases List.mem_cons.1 hs with rfl | hs
        · exact h1
        · have := h2 s hs; omega
theorem costF_le {o : List Int} {M : Int} (hM : 0 ≤ M) : ∀ (ys : List Int) (n : Int), (∀ a ∈ ys, 0 ≤ at0 o a ∧ at0 o a ≤ M) → 0 ≤ n → costF o ys n ≤ n + M * (ys.length : Int)
  | [], n, _, _ => by simp [costF]
  | a :: ys, n, ha, hn => by
    have h0 := ha a (List.mem_cons_self ..)
    have hp : 0 ≤ M * (ys.length : Int) := Int.mul_nonneg hM (by omega)
    have he : M * ((a :: ys).length : Int) = M * (ys.length : Int) + M := by rw [List.length_cons, Int.natCast_succ, Int.mul_add, Int.mul_one]
    unfold costF
    split
    · omega
    · have := costF_le hM ys (n + at0 o a) (fun x hx => ha x (List.mem_cons_of_mem _ hx)) (by omega)
      omega
theorem costF_congr {o o' : List Int} : ∀ (ys : List Int) (n : Int), (∀ a ∈ ys, at0 o' a = at0 o a) → costF o' ys n = costF o ys n
  | [], n, _ => rfl
  | a :: ys, n, h => by
    unfold costF
    rw [h a (List.mem_cons_self ..)]
    split
    · rfl
    · exact costF_congr ys _ fun x hx => h x (List.mem_cons_of_mem _ hx)
def rc (o : List Int) (r : Ru) : Int := costF o r.args 1
def imp (o : List Int) (r : Ru) : Bool := decide (0 < rc o r) && (at0 o r.symbol == 0 || decide (rc o r < at0 o r.symbol))
theorem imp_iff {o : List Int} {r : Ru} : imp o r = true ↔ 0 < rc o r ∧ (at0 o r.symbol = 0 ∨ rc o r < at0 o r.symbol) := by
  unfold imp
  simp
structure RG (n : Nat) (r : Ru) : Prop where
  s0 : 0 ≤ r.symbol
  s1 : r.symbol < (n : Int)
  args : ∀ a ∈ r.args, 0 ≤ a ∧ a < (n : Int)
  few : r.args.length ≤ 5
structure OkO (n : Nat) (o : List Int) : Prop where
  len : o.length = n
  bd : ∀ v ∈ o, 0 ≤ v ∧ v ≤ ((6 ^ (o.countP fun v => decide (0 < v)) : Nat) : Int)
def M16 : Int := 2821109907456
theorem OkO.nn {n : Nat} {o : List Int} (h : OkO n o) {s : Int} (h0 : 0 ≤ s) (h1 : s < (n : Int)) : 0 ≤ at0 o s := (h.bd _ (at0_mem h0 (by rw [h.len]; exact h1))).1
theorem OkO.step {n : Nat} {o : List Int} (h : OkO n o) {r : Ru} (hr : RG n r) (hi : imp o r = true) : OkO n (o.set r.symbol.toNat (rc o r)) := by
  obtain ⟨hc, hs⟩ := imp_iff.1 hi
  have hlen := h.len
  have hlt : r.symbol.toNat < o.length := by have := hr.s0; have := hr.s1; omega
  have hat : at0 o r.symbol = o[r.symbol.toNat] := by unfold at0; rw [List.getElem?_eq_getElem hlt]; rfl
  refine ⟨by rw [List.length_set, hlen], fun v hv => ?_⟩
  have hcp := List.countP_set (p := fun v : Int => decide (0 < v)) (a := rc o r) hlt
  rw [decide_eq_true hc, if_pos rfl, ← hat] at hcp
  rw [hcp]
  have hK : 1 ≤ (6 : Nat) ^ (o.countP fun v => decide (0 < v)) := Nat.pow_pos (by omega)
  have hsucc : (6 : Nat) ^ ((o.countP fun v => decide (0 < v)) + 1) = 6 * 6 ^ (o.countP fun v => decide (0 < v)) := by rw [Nat.pow_succ, Nat.mul_comm]
  have hcle : rc o r ≤ 1 + ((6 ^ (o.countP fun v => decide (0 < v)) : Nat) : Int) * (r.args.length : Int) := costF_le (by omega) r.args 1 (fun a ha => by
    obtain ⟨a0, a1⟩ := hr.args a ha
    exact h.bd _ (at0_mem a0 (by rw [hlen]; exact a1))) (by omega)
  have hmul : ((6 ^ (o.countP fun v => decide (0 < v)) : Nat) : Int) * (r.args.length : Int) ≤ ((6 ^ (o.countP fun v => decide (0 < v)) : Nat) : Int) * 5 := Int.mul_le_mul_of_nonneg_left (by have := hr.few; omega) (by omega)
  by_cases hz : at0 o r.symbol = 0
  · rw [hz]
    rw [show (decide ((0 : Int) < 0)) = false from rfl, if_neg (by decide), Nat.sub_zero, hsucc]
    rcases List.mem_or_eq_of_mem_set hv with hv | rfl
    · have := h.bd v hv; omega
    · omega
  · have hpos : 0 < at0 o r.symbol := by have := h.nn hr.s0 hr.s1; omega
    rw [decide_eq_true hpos, if_pos rfl]
    have hcnt : 0 < o.countP fun v => decide (0 < v) := List.countP_pos_iff.2 ⟨_, at0_mem hr.s0 (by rw [hlen]; exact hr.s1), by simpa using hpos⟩
    rw [Nat.sub_add_cancel hcnt]
    rcases List.mem_or_eq_of_mem_set hv with hv | rfl
    · exact h.bd v hv
    · have := (h.bd _ (at0_mem hr.s0 (by rw [hlen]; exact hr.s1))).2; omega
def stpC (s : Bool × List Int) (r : Ru) : Bool × List Int := if imp s.2 r = true then (true, s.2.set r.symbol.toNat (rc s.2 r)) else s
def stpR (o : List Int) (r : Ru) : List Int := if imp o r = true then o.set r.symbol.toNat (rc o r) else o
theorem stpC_snd (s : Bool × List Int) (r : Ru) : (stpC s r).2 = stpR s.2 r := by unfold stpC stpR; split <;> rfl
theorem fold_snd : ∀ (rs : List Ru) (s : Bool × List Int), (rs.foldl stpC s).2 = rs.foldl stpR s.2
  | [], s => rfl
  | r :: rs, s => by rw [List.foldl_cons, List.foldl_cons, fold_snd rs, stpC_snd]
def minA (a : Option Int) (c : Int) : Int := match a with
  | none => c
  | some v => if c ≤ v then c else v
theorem minA_le (a : Option Int) (c : Int) : minA a c ≤ c := by
  cases a with
  | none => exact Int.le_refl _
  | some v => show (if c ≤ v then c else v) ≤ c; split <;> omega
theorem minA_le' (v c : Int) : minA (some v) c ≤ v := by
  show (if c ≤ v then c else v) ≤ v
  split <;> omega
structure Rd (n : Nat) (m : Int) (o0 : List Int) (done todo : List Ru) (o : List Int) (a : Option Int) : Prop where
  ok : OkO n o
  p1 : ∀ r ∈ done, imp o r = true → ∃ v, a = some v ∧ v < rc o r
  p2 : ∀ r ∈ todo, imp o r = true → m < rc o r
  p3 : ∀ s, 0 ≤ s → s < (n : Int) → 0 < at0 o0 s → at0 o0 s ≤ m → at0 o s = at0 o0 s
  p4 : ∀ v, a = some v → m < v ∧ ∃ s, 0 ≤ s ∧ s < (n : Int) ∧ at0 o s = v ∧ ¬(0 < at0 o0 s ∧ at0 o0 s ≤ m)
  p5 : a = none → o = o0
theorem Rd.step {n : Nat} {m : Int} {o0 : List Int} {dn todo : List Ru} {r : Ru} {o : List Int} {a : Option Int} (hm : 0 ≤ m) (h : Rd n m o0 dn (r :: todo) o a) (hr : RG n r) (hd : ∀ q ∈ dn, RG n q) (ht : ∀ q ∈ todo, RG n q) :
    ∃ a', Rd n m o0 (r :: dn) todo (stpC (a.isSome, o) r).2 a' ∧ a'.isSome = (stpC (a.isSome, o) r).1 := by
  unfold stpC
  cases hi : imp o r with
  | false =>
    rw [if_neg (by simp [hi])]
    refine ⟨a, ⟨h.ok, fun q hq hiq => ?_, fun q hq => h.p2 q (List.mem_cons_of_mem _ hq), h.p3, h.p4, h.p5⟩, rfl⟩
    rcases List.mem_cons.1 hq with rfl | hq
    · rw [hi] at hiq; cases hiq
    · exact h.p1 q hq hiq
  | true =>
    rw [if_pos (by simp [hi])]
    have hok := h.ok.step hr hi
    obtain ⟨hc, hs⟩ := imp_iff.1 hi
    have hcm := h.p2 r (List.mem_cons_self ..) hi
    have hlen := h.ok.len
    have hset : ∀ q : Int, 0 ≤ q → at0 (o.set r.symbol.toNat (rc o r)) q = if q = r.symbol then rc o r else at0 o q := fun q hq => at0_set hr.s0 (by rw [hlen]; exact hr.s1) hq
    have key : ∀ q, RG n q → imp (o.set r.symbol.toNat (rc o r)) q = true → (imp o q = true ∧ rc (o.set r.symbol.toNat (rc o r)) q = rc o q) ∨ rc o r < rc (o.set r.symbol.toNat (rc o r)) q := fun q hq hiq => by
      obtain ⟨q1, q2⟩ := imp_iff.1 hiq
      by_cases hmem : r.symbol ∈ q.args
      · right
        rcases costF_ge (o := o.set r.symbol.toNat (rc o r)) q.args 1 (fun a ha => hok.nn (hq.args a ha).1 (hq.args a ha).2) (by omega) with h1 | ⟨_, h2⟩
        · have : rc (o.set r.symbol.toNat (rc o r)) q = 0 := h1
          omega
        · have := h2 _ hmem
          rw [hset _ hr.s0, if_pos rfl] at this
          show rc o r < costF _ q.args 1
          omega
      · left
        have he : rc (o.set r.symbol.toNat (rc o r)) q = rc o q := costF_congr q.args 1 fun a ha => by
          rw [hset a (hq.args a ha).1, if_neg (fun he => hmem (by rw [← he]; exact ha))]
        refine ⟨imp_iff.2 ⟨by rw [← he]; exact q1, ?_⟩, he⟩
        rw [he, hset _ hq.s0] at q2
        by_cases hqs : q.symbol = r.symbol
        · rw [if_pos hqs] at q2
          rw [hqs]
          rcases q2 with q2 | q2
          · omega
          · rcases hs with hs | hs
            · exact .inl hs
            · right; omega
        · rw [if_neg hqs] at q2; exact q2
    have hout : ¬(0 < at0 o0 r.symbol ∧ at0 o0 r.symbol ≤ m) := fun ⟨x1, x2⟩ => by
      have := h.p3 _ hr.s0 hr.s1 x1 x2
      omega
    have hnew : at0 (o.set r.symbol.toNat (rc o r)) r.symbol = rc o r := by rw [hset _ hr.s0, if_pos rfl]
    have hmin := minA_le a (rc o r)
    refine ⟨some (minA a (rc o r)), ⟨hok, fun q hq hiq => ⟨_, rfl, ?_⟩, fun q hq hiq => ?_, fun s s0 s1 x1 x2 => ?_, fun v hv => ?_, fun hn => by cases hn⟩, rfl⟩
    · rcases List.mem_cons.1 hq with rfl | hq
      · obtain ⟨q1, q2⟩ := imp_iff.1 hiq
        rw [hnew] at q2
        change 0 < rc (o.set q.symbol.toNat (rc o q)) q at q1
        change rc o q = 0 ∨ rc (o.set q.symbol.toNat (rc o q)) q < rc o q at q2
        rcases key q hr hiq with ⟨_, he⟩ | he <;> omega
      · rcases key q (hd q hq) hiq with ⟨h1, he⟩ | he
        · obtain ⟨v, rfl, hv⟩ := h.p1 q hq h1
          have hmin' := minA_le' v (rc o r)
          show minA (some v) (rc o r) < rc (o.set r.symbol.toNat (rc o r)) q
          omega
        · show minA a (rc o r) < rc (o.set r.symbol.toNat (rc o r)) q
          omega
    · show m < rc (o.set r.symbol.toNat (rc o r)) q
      rcases key q (ht q hq) hiq with ⟨h1, he⟩ | he
      · rw [he]; exact h.p2 q (List.mem_cons_of_mem _ hq) h1
      · omega
    · show at0 (o.set r.symbol.toNat (rc o r)) s = _
      rw [hset _ s0]
      split
      · rename_i hs'; subst hs'; exact absurd ⟨x1, x2⟩ hout
      · exact h.p3 s s0 s1 x1 x2
    · cases a with
      | none =>
        cases hv
        exact ⟨hcm, r.symbol, hr.s0, hr.s1, hnew, hout⟩
      | some w =>
        obtain ⟨w1, s, s0, s1, w2, w3⟩ := h.p4 w rfl
        have hv' : (if rc o r ≤ w then rc o r else w) = v := by cases hv; rfl
        split at hv'
        · subst hv'; exact ⟨hcm, r.symbol, hr.s0, hr.s1, hnew, hout⟩
        · subst hv'
          refine ⟨w1, s, s0, s1, ?_, w3⟩
          rw [hset _ s0, if_neg]
          · exact w2
          · rintro rfl
            omega
theorem Rd.run {n : Nat} {m : Int} {o0 : List Int} (hm : 0 ≤ m) : ∀ (todo dn : List Ru) (o : List Int) (a : Option Int), Rd n m o0 dn todo o a → (∀ q ∈ dn, RG n q) → (∀ q ∈ todo, RG n q) →
    ∃ a' dn', (∀ q, q ∈ dn ∨ q ∈ todo → q ∈ dn') ∧ Rd n m o0 dn' [] (todo.foldl stpC (a.isSome, o)).2 a' ∧ a'.isSome = (todo.foldl stpC (a.isSome, o)).1
  | [], dn, o, a, h, _, _ => ⟨a, dn, fun q hq => hq.elim id fun h => (nomatch h), h, rfl⟩
  | r :: todo, dn, o, a, h, hd, ht => by
    have hr := ht r (List.mem_cons_self ..)
    obtain ⟨a1, h1, h2⟩ := h.step hm hr hd fun q hq => ht q (List.mem_cons_of_mem _ hq)
    obtain ⟨a', dn', h3, h4, h5⟩ := Rd.run hm todo (r :: dn) _ a1 h1 (fun q hq => by
      rcases List.mem_cons.1 hq with rfl | hq
      · exact hr
      · exact hd q hq) fun q hq => ht q (List.mem_cons_of_mem _ hq)
    rw [List.foldl_cons]
    have he : (a1.isSome, (stpC (a.isSome, o) r).2) = stpC (a.isSome, o) r := by rw [h2]
    rw [he] at h4 h5
    refine ⟨a', dn', fun q hq => h3 q ?_, h4, h5⟩
    rcases hq with hq | hq
    · exact .inl (List.mem_cons_of_mem _ hq)
    · rcases List.mem_cons.1 hq with rfl | hq
      · exact .inl (List.mem_cons_self ..)
      · exact .inr hq
/-- how many are settled -/
def cntm (n : Nat) (o : List Int) (m : Int) : Nat := (List.range n).countP fun i : Nat => decide (0 < at0 o (i : Int) ∧ at0 o (i : Int) ≤ m)
theorem countP_lt {α : Type} {p q : α → Bool} : ∀ (l : List α), (∀ x ∈ l, p x = true → q x = true) → (∃ x ∈ l, q x = true ∧ p x = false) → l.countP p + 1 ≤ l.countP q
  | [], _, ⟨x, hx, _⟩ => nomatch hx
  | y :: l, h, ⟨x, hx, h1, h2⟩ => by
    have hm : l.countP p ≤ l.countP q := List.countP_mono_left fun z hz => h z (List.mem_cons_of_mem _ hz)
    rw [List.countP_cons, List.countP_cons]
    rcases List.mem_cons.1 hx with rfl | hx
    · rw [h1, h2, if_pos rfl, if_neg (by decide)]; omega
    · have := countP_lt l (fun z hz => h z (List.mem_cons_of_mem _ hz)) ⟨x, hx, h1, h2⟩
      have hy := h y (List.mem_cons_self ..)
      cases hp : p y with
      | false => rw [if_neg (by decide)]; split <;> omega
      | true => rw [hy hp, if_pos rfl]; omega
theorem cntm_le (n : Nat) (o : List Int) (m : Int) : cntm n o m ≤ n := by
  have : cntm n o m ≤ (List.range n).length := List.countP_le_length
  rwa [List.length_range] at this
/-- one round, from a state in which what can still change costs more than m -/
theorem round_or {n : Nat} {rs : List Ru} {o : List Int} {m : Int} (hr : ∀ r ∈ rs, RG n r) (hm : 0 ≤ m) (ho : OkO n o) (hp : ∀ r ∈ rs, imp o r = true → m < rc o r) :
    rs.foldl stpC (false, o) = (false, o) ∨ ((rs.foldl stpC (false, o)).1 = true ∧ ∃ m', 0 ≤ m' ∧ OkO n (rs.foldl stpC (false, o)).2 ∧ (∀ r ∈ rs, imp (rs.foldl stpC (false, o)).2 r = true → m' < rc (rs.foldl stpC (false, o)).2 r) ∧ cntm n o m + 1 ≤ cntm n (rs.foldl stpC (false, o)).2 m') := by
  obtain ⟨a, dn, h1, h2, h3⟩ := Rd.run (n := n) (m := m) (o0 := o) hm rs [] o none ⟨ho, fun r hr => (nomatch hr), hp, fun _ _ _ _ _ => rfl, (fun v hv => by cases hv), fun _ => rfl⟩ (fun q hq => (nomatch hq)) hr
  change Rd n m o dn [] (rs.foldl stpC (false, o)).2 a at h2
  change a.isSome = (rs.foldl stpC (false, o)).1 at h3
  cases a with
  | none =>
    left
    have := h2.p5 rfl
    exact Prod.ext h3.symm this
  | some v =>
    right
    obtain ⟨v1, s, s0, s1, v2, v3⟩ := h2.p4 v rfl
    refine ⟨h3.symm, v, by omega, h2.ok, fun r hr hi => ?_, ?_⟩
    · obtain ⟨w, hw, hw2⟩ := h2.p1 r (h1 r (.inr hr)) hi
      cases hw
      exact hw2
    · refine countP_lt _ (fun i hi hx => ?_) ⟨s.toNat, List.mem_range.2 (by omega), ?_, ?_⟩
      · have hx' := of_decide_eq_true hx
        have hin := List.mem_range.1 hi
        have := h2.p3 (i : Int) (by omega) (by omega) hx'.1 hx'.2
        exact decide_eq_true (by rw [this]; omega)
      · rw [Int.toNat_of_nonneg s0]
        exact decide_eq_true (by omega)
      · rw [Int.toNat_of_nonneg s0]
        exact decide_eq_false v3
def it {α : Type} (f : α → α) : Nat → α → α
  | 0, x => x
  | k + 1, x => it f k (f x)
theorem it_fix {α : Type} {f : α → α} {x : α} (h : f x = x) : ∀ k, it f k x = x
  | 0 => rfl
  | k + 1 => by rw [it, h, it_fix h k]
theorem loopN_go {σ β : Type} {st : σ → Option (σ ⊕ β)} {s s' : σ} {n : Nat} (h : st s = some (.inl s')) : loopN st (n + 1) s = loopN st n s' := by
  unfold loopN
  rw [h]
  cases n <;> rfl
theorem loopN_out {σ β : Type} {st : σ → Option (σ ⊕ β)} {s : σ} {b : β} {n : Nat} (h : st s = some (.inr b)) : loopN st (n + 1) s = some b := by
  unfold loopN
  rw [h]
theorem conv {n : Nat} {rs : List Ru} (hr : ∀ r ∈ rs, RG n r) (st : Bool × List Int → Option ((Bool × List Int) ⊕ List Int)) (h1 : ∀ o, OkO n o → st (true, o) = some (.inl (rs.foldl stpC (false, o)))) (h2 : ∀ o, st (false, o) = some (.inr o)) :
    ∀ (k : Nat) (o : List Int) (m : Int) (f : Nat), 0 ≤ m → OkO n o → (∀ r ∈ rs, imp o r = true → m < rc o r) → n ≤ cntm n o m + k → loopN st (f + k + 2) (true, o) = some (it (fun o => rs.foldl stpR o) k o)
  | k, o, m, f, hm, ho, hp, hk => by
    have hl : loopN st (f + k + 2) (true, o) = loopN st (f + k + 1) (rs.foldl stpC (false, o)) := loopN_go (h1 o ho)
    rw [hl]
    have hsnd : (rs.foldl stpC (false, o)).2 = rs.foldl stpR o := fold_snd rs (false, o)
    rcases round_or hr hm ho hp with h | ⟨c1, m', c2, c3, c4, c5⟩
    · rw [h]
      rw [h] at hsnd
      have hfix : it (fun o => rs.foldl stpR o) k o = o := it_fix hsnd.symm k
      rw [hfix]
      exact loopN_out (h2 o)
    · match k with
      | 0 => have := cntm_le n (rs.foldl stpC (false, o)).2 m'; omega
      | k + 1 =>
        have := conv hr st h1 h2 k _ m' f c2 c3 c4 (by omega)
        have hpair : rs.foldl stpC (false, o) = (true, (rs.foldl stpC (false, o)).2) := Prod.ext c1 rfl
        rw [hpair, show f + (k + 1) + 1 = f + k + 2 by omega, this, hsnd]
        rfl
end Go.Proofs.Ytfkddbccogakoaa
