import Derived.Test.YtaimpcnpifoidaaGreatDoorPl
import Derived.Test.YtaimpcnpifoidaaGreatDoorZE
set_option linter.unusedVariables false
set_option linter.unusedSimpArgs false
namespace Go.Proofs.YtaimpcnpifoidaaGreatDoor
open Go Go.RowKit
mutual
def ki1 (B : Nat) : Va → Prop
 | .mk _ _ _ l => l.length ≤ B ∧ kqp B l
def kqp (B : Nat) : List Va → Prop
 | [] => True
 | x :: l => ki1 B x ∧ kqp B l
end
theorem ks2 : ∀ {l : List Va} {x : Va}, x ∈ l → depV x ≤ kp5 l
 | y :: l, x, h => by
  simp only [kp5]
  rcases List.mem_cons.1 h with rfl | h
  ·exact Nat.le_max_left _ _
  ·exact Nat.le_trans (ks2 h) (Nat.le_max_right _ _)
theorem kwk {B : Nat} : ∀ {l : List Va} {x : Va}, kqp B l → x ∈ l → ki1 B x
 | y :: l, x, hw, h => by
  rcases List.mem_cons.1 h with rfl | h
  ·exact hw.1
  ·exact kwk hw.2 h
theorem k6x {v : Va} {x : Va} (h : x ∈ v.items) : depV x < depV v := by
 cases v; exact Nat.lt_succ_of_le (ks2 h)
theorem kmd {B : Nat} {v : Va} (h : ki1 B v) : v.items.length ≤ B ∧ ∀ x ∈ v.items, ki1 B x := by
 cases v; exact ⟨h.1, fun x hx => kwk h.2 hx⟩
theorem kr8 (x y : Va) : cmpV x y = if x.type < y.type then -1 else if y.type < x.type then 1 else if x.num < y.num then -1 else if y.num < x.num then 1 else if kfe x.text y.text = true then -1 else if kfe y.text x.text = true then 1 else kge x.items y.items := by
 cases x; cases y; rw [cmpV]; rfl
theorem kyd (a b : ByteArray) : (!(Op.bytesLess a.toList b.toList || a.toList == b.toList)) = kfe b a := by
 have asym : ∀ l m : List UInt8, Op.bytesLess l m = true → Op.bytesLess m l = false := by
  intro l
  induction l with
  | nil => intro m _; cases m <;> rfl
  | cons x l ih =>
   intro m h
   cases m with
   | nil => cases h
   | cons y m =>
    simp only [Op.bytesLess, Bool.or_eq_true, decide_eq_true_eq, Bool.and_eq_true, beq_iff_eq] at h
    simp only [Op.bytesLess, Bool.or_eq_false_iff, decide_eq_false_iff_not, Bool.and_eq_false_iff, beq_eq_false_iff_ne]
    rcases h with h | ⟨rfl, h⟩
    ·exact ⟨UInt8.not_lt.2 (UInt8.le_of_lt h), .inl (UInt8.ne_of_lt h).symm⟩
    ·exact ⟨UInt8.lt_irrefl _, .inr (ih m h)⟩
 unfold kfe
 cases h : Op.bytesLess b.toList a.toList with
 | true =>
  have h2 := asym _ _ h
  have h3 : (a.toList == b.toList) = false := by
   rw [beq_eq_false_iff_ne]
   intro e
   rw [e, kmb] at h
   cases h
  rw [h2, h3]; rfl
 | false =>
  cases h2 : Op.bytesLess a.toList b.toList with
  | true => rfl
  | false =>
   have := kr4 _ _ h2 h
   rw [this]; simp
def outC : List Va → List Va → Unit ⊕ Int
 | [], _ => .inl ()
 | _ :: _, [] => .inr 1
 | x :: l, y :: m => if cmpV x y ≠ 0 then .inr (cmpV x y) else outC l m
theorem kxx : ∀ l m : List Va, Sum.elim (fun _ => if (l.length : Int) < (m.length : Int) then -1 else (0 : Int)) id (outC l m) = kge l m
 | [], [] => rfl
 | [], y :: m => by simp [outC, kge]
 | x :: l, [] => by simp [outC, kge]
 | x :: l, y :: m => by
  have ih := kxx l m
  rw [outC, kge]
  by_cases h : cmpV x y ≠ 0
  ·rw [if_pos h, if_pos h]; rfl
  ·rw [if_neg h, if_neg h, ← ih]
   simp
theorem kov : ∀ (n : Nat) (x y : Va), depV x < n → ki1 9223372036854775807 x → ki1 9223372036854775807 y → kck n x y = some (cmpV x y)
 | 0, x, y, h, _, _ => by omega
 | n + 1, x, y, hd, hx, hy => by
  show kfq (kck n) x y = _
  rw [kr8]
  unfold kfq
  simp only [kyd]
  by_cases h1 : x.type < y.type
  ·simp [h1]
  by_cases h2 : y.type < x.type
  ·simp [h1, h2]
  by_cases h3 : x.num < y.num
  ·simp [h1, h2, h3]
  by_cases h4 : y.num < x.num
  ·simp [h1, h2, h3, h4]
  cases h5 : kfe x.text y.text with
  | true =>
   have h5' : Op.bytesLess x.text.toList y.text.toList = true := h5
   simp [h1, h2, h3, h4, h5']
  | false =>
  have h5' : Op.bytesLess x.text.toList y.text.toList = false := h5
  cases h6 : kfe y.text x.text with
  | true => simp [h1, h2, h3, h4, h5', h6]
  | false =>
  obtain ⟨lx, wx⟩ := kmd hx
  obtain ⟨ly, wy⟩ := kmd hy
  obtain ⟨m, hm⟩ : ∃ m, m = Nat.min x.items.length y.items.length := ⟨_, rfl⟩
  have hmx : m ≤ x.items.length := hm ▸ Nat.min_le_left _ _
  have hmy : m ≤ y.items.length := hm ▸ Nat.min_le_right _ _
  have hmm : m = x.items.length ∨ m = y.items.length := by
   rw [hm]
   rcases Nat.le_total x.items.length y.items.length with h | h
   ·exact .inl (Nat.min_eq_left h)
   ·exact .inr (Nat.min_eq_right h)
  have hl := kjz (step := kbw x y (kck n)) m (by omega) (fun i => (i : Int)) (fun i => outC (x.items.drop i) (y.items.drop i)) (fun i hi => by
   have hix : i < x.items.length := by omega
   have hj : i < y.items.length := by omega
   have e1 : x.items[i]? = some x.items[i] := List.getElem?_eq_getElem hix
   have d1 : x.items.drop i = x.items[i] :: x.items.drop (i + 1) := List.drop_eq_getElem_cons hix
   have hlt : (i : Int) < (x.items.length : Int) := by omega
   have hw := kbt (n := i) (by omega)
   have e2 : y.items[i]? = some y.items[i] := List.getElem?_eq_getElem hj
   have d2 : y.items.drop i = y.items[i] :: y.items.drop (i + 1) := List.drop_eq_getElem_cons hj
   have b1 : decide ((i : Int) < (x.items.length : Int)) = true := decide_eq_true hlt
   have hne : ((i : Int) == (y.items.length : Int)) = false := by rw [beq_eq_false_iff_ne]; omega
   have hc := kov n x.items[i] y.items[i] (by have := k6x (List.getElem_mem hix); omega) (wx _ (List.getElem_mem hix)) (wy _ (List.getElem_mem hj))
   by_cases h0 : cmpV x.items[i] y.items[i] = 0
   ·refine .inl ⟨?_, ?_⟩
    ·have b2 : (cmpV x.items[i] y.items[i] != 0) = false := by rw [h0]; rfl
     simp only [kbw, b1, kan, e1, e2, hne, hc, b2, hw, cond_true, cond_false, Option.bind_some]
    ·simp only [d1, d2, outC, h0, ne_eq, not_true_eq_false, if_false]
   ·refine .inr ?_
    have b2 : (cmpV x.items[i] y.items[i] != 0) = true := by simpa using h0
    simp only [d1, d2, outC, ne_eq, h0, not_false_eq_true, if_true, kbw, b1, kan, e1, e2, hne, hc, b2, hw, cond_true, cond_false, Option.bind_some]) (by
   rcases hmm with h | h
   ·have d1 : x.items.drop m = [] := List.drop_eq_nil_of_le (by omega)
    have hlt : ¬ (m : Int) < (x.items.length : Int) := by omega
    simp only [d1, outC]
    simp [kbw, hlt]
   ·by_cases hlx : m = x.items.length
    ·have d1 : x.items.drop m = [] := List.drop_eq_nil_of_le (by omega)
     have hlt : ¬ (m : Int) < (x.items.length : Int) := by omega
     simp only [d1, outC]
     simp [kbw, hlt]
    ·have hix : m < x.items.length := by omega
     have e1 : x.items[m]? = some x.items[m] := List.getElem?_eq_getElem hix
     have d1 : x.items.drop m = x.items[m] :: x.items.drop (m + 1) := List.drop_eq_getElem_cons hix
     have d2 : y.items.drop m = [] := List.drop_eq_nil_of_le (by omega)
     have hlt : (m : Int) < (x.items.length : Int) := by omega
     have he : ((m : Int) == (y.items.length : Int)) = true := by rw [beq_iff_eq]; omega
     simp only [d1, d2, outC, kbw, decide_eq_true hlt, kan, e1, he, cond_true, Option.bind_some])
  have hl' : kaa (kbw x y (kck n)) fuel 0 = some (outC x.items y.items) := by simpa using hl
  have hs := kxx x.items y.items
  simp only [h1, h2, h3, h4, h5', h6, decide_false, cond_false, if_false, Bool.false_eq_true, hl', Option.bind_some, ← hs]
  cases outC x.items y.items with
  | inl u =>
   simp only [Sum.elim_inl]
   by_cases hlt : (x.items.length : Int) < (y.items.length : Int) <;> simp [hlt]
  | inr c => rfl
theorem klp (b : Bool) : keb b = some (if b = true then -1 else 1) := by cases b <;> rfl
def outR : List Va → List Va → Unit ⊕ Int
 | x :: l, y :: m => if cmpV x y ≠ 0 then .inr (cmpV x y) else outR l m
 | _, _ => .inl ()
theorem kx0 : ∀ l m : List Va, Sum.elim (fun _ => if (l.length : Int) = (m.length : Int) then 0 else if (l.length : Int) < (m.length : Int) then -1 else (1 : Int)) id (outR l m) = kge l m
 | [], [] => rfl
 | [], y :: m => by
  simp only [outR, kge, Sum.elim_inl, List.length_nil, List.length_cons]
  rw [if_neg (by omega), if_pos (by omega)]
 | x :: l, [] => by
  simp only [outR, kge, Sum.elim_inl, List.length_nil, List.length_cons]
  rw [if_neg (by omega), if_neg (by omega)]
 | x :: l, y :: m => by
  have ih := kx0 l m
  rw [outR, kge]
  by_cases h : cmpV x y ≠ 0
  ·rw [if_pos h, if_pos h]; rfl
  ·rw [if_neg h, if_neg h, ← ih]
   simp
theorem krh : ∀ (n : Nat), (∀ x y : Va, 2 * depV x < n + 1 → ki1 9223372036854775807 x → ki1 9223372036854775807 y → ka0 n x y = some (cmpV x y)) ∧
  ∀ l m : List Va, 2 * kp5 l < n → l.length ≤ 9223372036854775807 → m.length ≤ 9223372036854775807 → (∀ x ∈ l, ki1 9223372036854775807 x) → (∀ x ∈ m, ki1 9223372036854775807 x) → kcd n l m = some (kge l m)
 | 0 => ⟨fun x y h => by cases x; simp [depV] at h, fun l m h => by omega⟩
 | n + 1 => by
  obtain ⟨ih1, ih2⟩ := krh n
  refine ⟨fun x y hd hx hy => ?_, fun l m hd hl hm wl wm => ?_⟩
  ·show kcn (ka0 n) (kcd n) x y = _
   obtain ⟨lx, wx⟩ := kmd hx
   obtain ⟨ly, wy⟩ := kmd hy
   have hA := ih2 x.items y.items (by cases x; simp only [depV, Va.items] at hd ⊢; omega) lx ly wx wy
   rw [kr8]
   unfold kcn
   by_cases h1 : x.type = y.type
   ·have b1 : (x.type != y.type) = false := by simp [h1]
    rw [if_neg (by omega), if_neg (by omega)]
    by_cases h2 : x.num = y.num
    ·have b2 : (x.num != y.num) = false := by simp [h2]
     rw [if_neg (by omega), if_neg (by omega)]
     by_cases h3 : x.text.toList = y.text.toList
     ·have b3 : (!(x.text.toList == y.text.toList)) = false := by simp [h3]
      have e1 : kfe x.text y.text = false := by unfold kfe; rw [h3]; exact kmb _
      have e2 : kfe y.text x.text = false := by unfold kfe; rw [h3]; exact kmb _
      rw [e1, e2, b1, b2, b3]
      simp [hA]
     ·have b3 : (!(x.text.toList == y.text.toList)) = true := by simp [h3]
      rw [b1, b2, b3]
      simp only [cond_false, cond_true, klp, Option.bind_some]
      cases h4 : kfe x.text y.text with
      | true =>
       have : Op.bytesLess x.text.toList y.text.toList = true := h4
       simp [this]
      | false =>
       have h4' : Op.bytesLess x.text.toList y.text.toList = false := h4
       cases h5 : kfe y.text x.text with
       | true => simp [h4']
       | false => exact absurd (kr4 _ _ h4' h5) h3
    ·have b2 : (x.num != y.num) = true := by simp [h2]
     rw [b1, b2]
     simp only [cond_false, cond_true, klp, Option.bind_some]
     by_cases h4 : x.num < y.num
     ·simp [h4]
     ·have : y.num < x.num := by omega
      simp [h4, this]
   ·have b1 : (x.type != y.type) = true := by simp [h1]
    rw [b1]
    simp only [cond_false, cond_true, klp, Option.bind_some]
    by_cases h4 : x.type < y.type
    ·simp [h4]
    ·have : y.type < x.type := by omega
     simp [h4, this]
  ·show kb2 (ka0 n) (kcd n) l m = _
   obtain ⟨k, hk⟩ : ∃ k, k = Nat.min l.length m.length := ⟨_, rfl⟩
   have hkl : k ≤ l.length := hk ▸ Nat.min_le_left _ _
   have hkm : k ≤ m.length := hk ▸ Nat.min_le_right _ _
   have hkk : k = l.length ∨ k = m.length := by
    rw [hk]
    rcases Nat.le_total l.length m.length with h | h
    ·exact .inl (Nat.min_eq_left h)
    ·exact .inr (Nat.min_eq_right h)
   have hl := kjz (step := ka6 l m (ka0 n)) k (by omega) (fun i => (i : Int)) (fun i => outR (l.drop i) (m.drop i)) (fun i hi => by
    have hix : i < l.length := by omega
    have hj : i < m.length := by omega
    have e1 : l[i]? = some l[i] := List.getElem?_eq_getElem hix
    have d1 : l.drop i = l[i] :: l.drop (i + 1) := List.drop_eq_getElem_cons hix
    have hw := kbt (n := i) (by omega)
    have e2 : m[i]? = some m[i] := List.getElem?_eq_getElem hj
    have d2 : m.drop i = m[i] :: m.drop (i + 1) := List.drop_eq_getElem_cons hj
    have b1 : decide ((i : Int) < (l.length : Int)) = true := decide_eq_true (by omega)
    have b0 : decide ((i : Int) < (m.length : Int)) = true := decide_eq_true (by omega)
    have hc := ih1 l[i] m[i] (by have := ks2 (List.getElem_mem hix); omega) (wl _ (List.getElem_mem hix)) (wm _ (List.getElem_mem hj))
    by_cases h0 : cmpV l[i] m[i] = 0
    ·have b2 : (cmpV l[i] m[i] != 0) = false := by rw [h0]; rfl
     refine .inl ⟨?_, ?_⟩
     ·simp only [ka6, b1, b0, kan, e1, e2, hc, b2, hw, cond_true, cond_false, Option.bind_some]
     ·simp only [d1, d2, outR, h0, ne_eq, not_true_eq_false, if_false]
    ·have b2 : (cmpV l[i] m[i] != 0) = true := by simpa using h0
     refine .inr ?_
     simp only [d1, d2, outR, ne_eq, h0, not_false_eq_true, if_true, ka6, b1, b0, kan, e1, e2, hc, b2, hw, cond_true, cond_false, Option.bind_some]) (by
    by_cases hlx : k = l.length
    ·have d1 : l.drop k = [] := List.drop_eq_nil_of_le (by omega)
     have b1 : decide ((k : Int) < (l.length : Int)) = false := decide_eq_false (by omega)
     simp only [d1, outR, ka6, b1, cond_false, Option.bind_some]
    ·have hkm2 : k = m.length := hkk.resolve_left hlx
     have d2 : m.drop k = [] := List.drop_eq_nil_of_le (by omega)
     have b1 : decide ((k : Int) < (l.length : Int)) = true := decide_eq_true (by omega)
     have b0 : decide ((k : Int) < (m.length : Int)) = false := decide_eq_false (by omega)
     have : outR (l.drop k) (m.drop k) = .inl () := by rw [d2]; cases l.drop k <;> rfl
     simp only [this, ka6, b1, b0, cond_true, cond_false, Option.bind_some])
   have hl' : kaa (ka6 l m (ka0 n)) fuel 0 = some (outR l m) := by simpa using hl
   unfold kb2
   rw [hl', Option.bind_some, ← kx0 l m]
   cases outR l m with
   | inl u =>
    simp only [Sum.elim_inl, klp, Option.bind_some]
    by_cases h1 : (l.length : Int) = (m.length : Int)
    ·simp [h1]
    ·by_cases h2 : (l.length : Int) < (m.length : Int)
     ·rw [if_neg h1, if_pos h2, decide_eq_true h2, beq_eq_false_iff_ne.2 h1]; rfl
     ·rw [if_neg h1, if_neg h2, decide_eq_false h2, beq_eq_false_iff_ne.2 h1]; rfl
   | inr c => rfl
def okV (v : Va) : Prop := depV v ≤ 1000000 ∧ ki1 9223372036854775807 v
theorem kqz {x y : Va} (hx : okV x) (hy : okV y) : ke1 x y = some (eqV x y) := by
 unfold ke1
 rw [kov fuel x y (kdk (by have := hx.1; omega)) hx.2 hy.2]
 simp only [Option.bind_some, eqV]
 by_cases h : cmpV x y = 0 <;> simp [h]
theorem kta {x y : Va} (hx : okV x) (hy : okV y) : kb0 x y = some (eqV x y) := by
 unfold kb0
 rw [(krh fuel).1 x y (Nat.lt_succ_of_lt (kdk (by have := hx.1; omega))) hx.2 hy.2]
 simp only [Option.bind_some, eqV]
 by_cases h : cmpV x y = 0 <;> simp [h]
theorem kmv (s : ByteArray) (n : Nat) : byt s (n : Int) = (s.data.toList[n]?).map fun c => (c.toNat : Int) := by
 rw [kaa5]
 congr 1
 by_cases h : n < s.size
 ·rw [getElem?_pos s n h]
  have h' : n < s.data.size := h
  rw [Array.getElem?_toList, Array.getElem?_eq_getElem h']
  rfl
 ·rw [getElem?_neg s n h]
  have h' : ¬ n < s.data.size := h
  rw [Array.getElem?_toList, Array.getElem?_eq_none (by omega)]
theorem kbq (s : ByteArray) : s.size = s.data.toList.length := by rw [Array.length_toList]; rfl
def kki (c : UInt8) : Bool := decide (32 ≤ c.toNat) && decide (c.toNat ≤ 126)
theorem kty (c : UInt8) : (bif decide ((c.toNat : Int) < 32) then some true else (some (decide (126 < (c.toNat : Int))) : Option Bool)) = some (!kki c) := by
 unfold kki
 by_cases h : c.toNat < 32
 ·have h1 : decide ((c.toNat : Int) < 32) = true := decide_eq_true (by omega)
  have h2 : decide (32 ≤ c.toNat) = false := decide_eq_false (by omega)
  rw [h1, h2]; rfl
 ·have h1 : decide ((c.toNat : Int) < 32) = false := decide_eq_false (by omega)
  have h2 : decide (32 ≤ c.toNat) = true := decide_eq_true (by omega)
  rw [h1, h2]
  by_cases h3 : c.toNat ≤ 126
  ·have h4 : decide (126 < (c.toNat : Int)) = false := decide_eq_false (by omega)
   rw [h4, decide_eq_true h3]; rfl
  ·have h4 : decide (126 < (c.toNat : Int)) = true := decide_eq_true (by omega)
   rw [h4, decide_eq_false h3]; rfl
theorem klk (s : ByteArray) (hs : s.size ≤ 9223372036854775807) : kjd s = some (s.data.toList.all kki) := by
 have hl := kjz (step := ke6 s) s.size (by omega) (fun i => (i : Int)) (fun i => if (s.data.toList.drop i).all kki = true then .inl () else .inr false) (fun i hi => by
  have hi' : i < s.data.toList.length := by rw [← kbq]; exact hi
  have e1 : byt s (i : Int) = some (s.data.toList[i].toNat : Int) := by rw [kmv, List.getElem?_eq_getElem hi']; rfl
  have d1 : s.data.toList.drop i = s.data.toList[i] :: s.data.toList.drop (i + 1) := List.drop_eq_getElem_cons hi'
  have b1 : decide ((i : Int) < (s.size : Int)) = true := decide_eq_true (by omega)
  have hw := kbt (n := i) (by omega)
  cases hg : kki s.data.toList[i] with
  | true =>
   refine .inl ⟨?_, ?_⟩
   ·simp only [ke6, b1, e1, cond_true, Option.bind_some, kty, hg, Bool.not_true, cond_false, hw]
   ·simp only [d1, List.all_cons, hg, Bool.true_and]
  | false =>
   refine .inr ?_
   simp only [ke6, b1, e1, cond_true, Option.bind_some, kty, hg, Bool.not_false, d1, List.all_cons, Bool.false_and, Bool.false_eq_true, if_false]) (by
  have b1 : decide ((s.size : Int) < (s.size : Int)) = false := decide_eq_false (by omega)
  have d1 : s.data.toList.drop s.size = [] := List.drop_eq_nil_of_le (by rw [← kbq]; omega)
  simp only [ke6, b1, cond_false, d1, List.all_nil, if_true])
 have hl' : kaa (ke6 s) fuel 0 = some (if s.data.toList.all kki = true then .inl () else .inr false) := by simpa using hl
 unfold kjd
 rw [hl', Option.bind_some]
 cases s.data.toList.all kki <;> rfl
theorem ky7 (s : ByteArray) (a b : Int) (hs : s.size ≤ 9223372036854775807) : kes s a b = kgb s a b := by
 have hl := kjz (step := kcy s) s.size (by omega) (fun i => (i : Int)) (fun i => if (s.data.toList.drop i).all kki = true then .inl () else .inr 1) (fun i hi => by
  have hi' : i < s.data.toList.length := by rw [← kbq]; exact hi
  have e1 : byt s (i : Int) = some (s.data.toList[i].toNat : Int) := by rw [kmv, List.getElem?_eq_getElem hi']; rfl
  have d1 : s.data.toList.drop i = s.data.toList[i] :: s.data.toList.drop (i + 1) := List.drop_eq_getElem_cons hi'
  have b1 : decide ((i : Int) < (s.size : Int)) = true := decide_eq_true (by omega)
  have hw := kbt (n := i) (by omega)
  cases hg : kki s.data.toList[i] with
  | true =>
   refine .inl ⟨?_, ?_⟩
   ·simp only [kcy, b1, e1, cond_true, Option.bind_some, kty, hg, Bool.not_true, cond_false, hw]
   ·simp only [d1, List.all_cons, hg, Bool.true_and]
  | false =>
   refine .inr ?_
   simp only [kcy, b1, e1, cond_true, Option.bind_some, kty, hg, Bool.not_false, d1, List.all_cons, Bool.false_and, Bool.false_eq_true, if_false]) (by
  have b1 : decide ((s.size : Int) < (s.size : Int)) = false := decide_eq_false (by omega)
  have d1 : s.data.toList.drop s.size = [] := List.drop_eq_nil_of_le (by rw [← kbq]; omega)
  simp only [kcy, b1, cond_false, d1, List.all_nil, if_true])
 have hl' : kaa (kcy s) fuel 0 = some (if s.data.toList.all kki = true then .inl () else .inr 1) := by simpa using hl
 unfold kes kgb
 rw [hl', klk s hs]
 simp only [Option.bind_some]
 cases s.data.toList.all kki <;> rfl
theorem kly (s : ByteArray) (a b : Int) (hs : s.size ≤ 9223372036854775807) : ∃ c, kgb s a b = some c := by
 unfold kgb
 rw [klk s hs]
 simp only [Option.bind_some]
 by_cases h1 : (s.size : Int) < a <;> by_cases h2 : b < (s.size : Int) <;> cases s.data.toList.all kki <;> simp [h1, h2]
mutual
def kq0 : Va → Prop
 | .mk _ _ s l => s.size ≤ 9223372036854775807 ∧ ktw l
def ktw : List Va → Prop
 | [] => True
 | x :: l => kq0 x ∧ ktw l
end
theorem k06 {v : Va} (h : kq0 v) : v.text.size ≤ 9223372036854775807 ∧ ∀ x ∈ v.items, kq0 x := by
 cases v with
 | mk t n s l =>
  refine ⟨h.1, ?_⟩
  have : ∀ l : List Va, ktw l → ∀ x ∈ l, kq0 x := fun l => by
   induction l with
   | nil => intro _ x hx; cases hx
   | cons y l ih =>
    intro h x hx
    rcases List.mem_cons.1 hx with rfl | hx
    ·exact h.1
    ·exact ih h.2 x hx
  exact this l h.2
end Go.Proofs.YtaimpcnpifoidaaGreatDoor
set_option linter.unusedVariables false
set_option linter.unusedSimpArgs false
namespace Go.Proofs.YtaimpcnpifoidaaGreatDoor
open Go Go.RowKit
theorem kaah (l : List Va) : decide (0 < (l.length : Int)) = !((l.length : Int) == 0) := by
 cases l <;> simp <;> omega
theorem kf6 (m a b : Int) : ∃ c, kfo m a b = some c ∧ kdf m a b = some c := by
 unfold kfo kdf
 by_cases h1 : m < a <;> by_cases h2 : b < m <;> simp [h1, h2]
end Go.Proofs.YtaimpcnpifoidaaGreatDoor
