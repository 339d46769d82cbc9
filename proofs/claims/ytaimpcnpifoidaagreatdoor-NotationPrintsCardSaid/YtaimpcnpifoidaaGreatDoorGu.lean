import Derived.Test.YtaimpcnpifoidaaGreatDoorGa
set_option linter.unusedVariables false
set_option linter.unusedSimpArgs false
namespace Go.Proofs.YtaimpcnpifoidaaGreatDoor
open Go Go.RowKit
theorem k7m (n : Nat) (x z : Va) (hz : z.items = []) : kck (n + 1) x z = some (cmpV x z) := by
 show kfq (kck n) x z = _
 rw [kr8]
 unfold kfq
 by_cases h1 : x.type < z.type
 ·rw [decide_eq_true h1, if_pos h1]; rfl
 rw [decide_eq_false h1, if_neg h1, cond_false]
 by_cases h2 : z.type < x.type
 ·rw [decide_eq_true h2, if_pos h2]; rfl
 rw [decide_eq_false h2, if_neg h2, cond_false]
 by_cases h3 : x.num < z.num
 ·rw [decide_eq_true h3, if_pos h3]; rfl
 rw [decide_eq_false h3, if_neg h3, cond_false]
 by_cases h4 : z.num < x.num
 ·rw [decide_eq_true h4, if_pos h4]; rfl
 rw [decide_eq_false h4, if_neg h4, cond_false, kyd]
 show (bif kfe x.text z.text then _ else bif kfe z.text x.text then _ else _) = _
 cases h5 : kfe x.text z.text with
 | true => rfl
 | false =>
  cases h6 : kfe z.text x.text with
  | true => rfl
  | false =>
   simp only [cond_false, Bool.false_eq_true, if_false]
   cases hi : x.items with
   | nil =>
    have : kaa (kbw x z (kck n)) fuel 0 = some (.inl ()) := by
     rw [knk, kaa]
     simp [kbw, hi]
    rw [this, hz]
    simp [kge]
   | cons y l =>
    have : kaa (kbw x z (kck n)) fuel 0 = some (.inr 1) := by
     rw [knk, kaa]
     have e : idx (y :: l) 0 = some y := kan (y :: l) 0
     simp [kbw, hi, e, hz]
    rw [this, hz]
    simp [kge]
theorem k84 (n : Nat) (x : Va) : kck (n + 1) x kdz = some (cmpV x kdz) := k7m n x kdz rfl
theorem k20 (n : Nat) (l : List Va) : kcd (n + 1) l [] = some (if l.length = 0 then 0 else 1) := by
 show kb2 (ka0 n) (kcd n) l [] = _
 have : kaa (ka6 l [] (ka0 n)) fuel 0 = some (.inl ()) := by
  rw [knk, kaa]
  cases l <;> simp [ka6]
 unfold kb2
 rw [this]
 cases l with
 | nil => simp
 | cons y l =>
  have h1 : ((((y :: l).length : Nat) : Int) == (([] : List Va).length : Int)) = false := by rw [beq_eq_false_iff_ne, List.length_cons, List.length_nil]; omega
  have h2 : decide ((((y :: l).length : Nat) : Int) < (([] : List Va).length : Int)) = false := decide_eq_false (by rw [List.length_cons, List.length_nil]; omega)
  simp only [Option.bind_some, Sum.elim_inl, h1, h2, cond_false, klp]
  rfl
theorem k8f (n : Nat) (x z : Va) (hz : z.items = []) : ka0 (n + 2) x z = some (cmpV x z) := by
 show kcn (ka0 (n + 1)) (kcd (n + 1)) x z = _
 rw [kr8]
 unfold kcn
 have hq : kge x.items [] = if x.items.length = 0 then 0 else 1 := by
  cases x.items <;> rfl
 have hq2 := k20 n x.items
 rw [hz, hq, hq2]
 by_cases t0 : x.type = z.type
 ·rw [show (x.type != z.type) = false by rw [bne_eq_false_iff_eq]; exact t0, cond_false, if_neg (show ¬ x.type < z.type by omega), if_neg (show ¬ z.type < x.type by omega)]
  by_cases n0 : x.num = z.num
  ·rw [show (x.num != z.num) = false by rw [bne_eq_false_iff_eq]; exact n0, cond_false, if_neg (show ¬ x.num < z.num by omega), if_neg (show ¬ z.num < x.num by omega)]
   by_cases he : x.text = z.text
   ·rw [he, show (z.text.toList == z.text.toList) = true from beq_self_eq_true _]
    simp only [Bool.not_true, cond_false, Option.bind_some, kv5, Bool.false_eq_true, if_false]
   ·have hne : (x.text.toList == z.text.toList) = false := by
     rw [beq_eq_false_iff_ne]
     exact fun h => he (kjc h)
    rw [hne]
    simp only [Bool.not_false, cond_true, klp, Option.bind_some]
    show some (if kfe x.text z.text = true then (-1 : Int) else 1) = _
    cases h5 : kfe x.text z.text with
    | true => rfl
    | false =>
     cases h6 : kfe z.text x.text with
     | true => rfl
     | false => exact absurd (kzv h5 h6) he
  ·rw [show (x.num != z.num) = true by rw [bne_iff_ne]; exact n0, cond_true, klp]
   by_cases hl : x.num < z.num
   ·rw [decide_eq_true hl, if_pos hl]; rfl
   ·rw [decide_eq_false hl, if_neg hl, if_pos (show z.num < x.num by omega)]; rfl
 ·rw [show (x.type != z.type) = true by rw [bne_iff_ne]; exact t0, cond_true, klp]
  by_cases hl : x.type < z.type
  ·rw [decide_eq_true hl, if_pos hl]; rfl
  ·rw [decide_eq_false hl, if_neg hl, if_pos (show z.type < x.type by omega)]; rfl
theorem k8d (n : Nat) (x : Va) : ka0 (n + 2) x kdz = some (cmpV x kdz) := k8f n x kdz rfl
theorem k2z (x : Va) : ke1 x (Va.mk 0 0 ⟨#[]⟩ []) = some (eqV x kdz) := by
 unfold ke1
 have := k84 18446744073709551615 x
 rw [← knk] at this
 show Option.bind (kck fuel x kdz) _ = _
 rw [this]
 simp only [Option.bind_some, eqV]
 by_cases h : cmpV x kdz = 0 <;> simp [h]
theorem knw (x : Va) : kb0 x (Va.mk 0 0 ⟨#[]⟩ []) = some (eqV x kdz) := by
 unfold kb0
 have := k8d 18446744073709551614 x
 show Option.bind (ka0 fuel x kdz) _ = _
 rw [show fuel = 18446744073709551614 + 2 from rfl, this]
 simp only [Option.bind_some, eqV]
 by_cases h : cmpV x kdz = 0 <;> simp [h]
def rkT (t : Int) : Nat := if t = 7 then 3 else if t = 5 ∨ t = 6 then 2 else 1
def inV (x : Va) : Prop := ki1 9223372036854775807 x ∧ kq0 x
theorem kx4 {x : Va} (h : inV x) : x.items.length ≤ 9223372036854775807 ∧ x.text.size ≤ 9223372036854775807 ∧ ∀ y ∈ x.items, inV y := by
 obtain ⟨l1, l2⟩ := kmd h.1
 obtain ⟨s1, s2⟩ := k06 h.2
 exact ⟨l1, s1, fun y hy => ⟨l2 y hy, s2 y hy⟩⟩
theorem k0f {k : Nat} : ∀ {l : List Va}, (∀ y ∈ l, depV y ≤ k) → kp5 l ≤ k
 | [], _ => Nat.zero_le _
 | y :: l, h => by
  simp only [kp5]
  exact Nat.max_le.2 ⟨h y (List.mem_cons_self ..), k0f fun z hz => h z (List.mem_cons_of_mem _ hz)⟩
theorem kxe {x : Va} {k : Nat} (h : ∀ y ∈ x.items, depV y ≤ k) : depV x ≤ k + 1 := by
 cases x with
 | mk t n s l => simp only [depV]; exact Nat.succ_le_succ (k0f h)
theorem kop {x : Va} (h : ((x.items.length : Int) == 0) = true) : depV x ≤ 1 := by
 refine kxe fun y hy => ?_
 have : x.items.length = 0 := by have := eq_of_beq h; omega
 rw [List.eq_nil_of_length_eq_zero this] at hy
 cases hy
theorem kw7 : ∀ n : Nat, (∀ x : Va, 2 * rkT x.type ≤ n → inV x → ∃ c, kae n x = some c ∧ kas n x = some c ∧ (c = 0 → depV x ≤ rkT x.type)) ∧
  (∀ (l : List Va) (t : Int), (t = 2 ∨ t = 3) → 3 ≤ n → l.length ≤ 9223372036854775807 → (∀ x ∈ l, inV x) → ∃ c, kd8 n l t = some c ∧ kdt n l t = some c ∧ (c = 0 → ∀ x ∈ l, depV x ≤ 1)) ∧
  (∀ l : List Va, 5 ≤ n → l.length ≤ 9223372036854775807 → (∀ x ∈ l, inV x) → ∃ c, kgd n l = some c ∧ kev n l = some c ∧ (c = 0 → ∀ x ∈ l, depV x ≤ 2))
 | 0 => ⟨fun x h => by unfold rkT at h; split at h <;> (try split at h) <;> omega, fun l t _ h => by omega, fun l h => by omega⟩
 | n + 1 => by
  obtain ⟨ih1, ih2, ih3⟩ := kw7 n
  refine ⟨fun x hd hx => ?_, fun l t ht hd hl wl => ?_, fun l hd hl wl => ?_⟩
  ·show ∃ c, kbl (kae n) (kd8 n) (kgd n) x = some c ∧ kax (kas n) (kdt n) (kev n) x = some c ∧ _
   obtain ⟨lx, sx, wx⟩ := kx4 hx
   have hS := fun a b => kly x.text a b sx
   have hP := fun a b => ky7 x.text a b sx
   by_cases h0 : x.type < 1
   ·exact ⟨3, by simp [kbl, h0], by simp [kax, h0], fun h => absurd h (by decide)⟩
   by_cases h8 : 8 < x.type
   ·exact ⟨3, by simp [kbl, h0, h8], by simp [kax, h0, h8], fun h => absurd h (by decide)⟩
   have ht : x.type = 1 ∨ x.type = 2 ∨ x.type = 3 ∨ x.type = 4 ∨ x.type = 5 ∨ x.type = 6 ∨ x.type = 7 ∨ x.type = 8 := by omega
   have hE : ∀ t, (t = 2 ∨ t = 3) → rkT x.type = 2 → ∃ c, kd8 n x.items t = some c ∧ kdt n x.items t = some c ∧ (c = 0 → depV x ≤ 2) := fun t h1 h2 => by
    obtain ⟨c, e1, e2, e3⟩ := ih2 x.items t h1 (by omega) lx wx
    exact ⟨c, e1, e2, fun h => kxe (e3 h)⟩
   have hR : rkT x.type = 3 → ∃ c, kgd n x.items = some c ∧ kev n x.items = some c ∧ (c = 0 → depV x ≤ 3) := fun h2 => by
    obtain ⟨c, e1, e2, e3⟩ := ih3 x.items (by omega) lx wx
    exact ⟨c, e1, e2, fun h => kxe (e3 h)⟩
   have hp := kaah x.items
   cases hz : (x.text.toList == (⟨#[]⟩ : ByteArray).toList) <;> cases hm : (x.num == 0) <;> cases hl : ((x.items.length : Int) == 0) <;> rw [hl] at hp <;>
    rcases ht with ht | ht | ht | ht | ht | ht | ht | ht <;>
    first
     | (refine ⟨4, ?_, ?_, fun h => absurd h (by decide)⟩; rotate_left; (simp only [kax, ht, hz, hm, hp, bne]; simp); (simp only [kbl, kdh, ht, hz, hm, hl]; simp))
     | (obtain ⟨c, e1, e2⟩ := kf6 x.num 0 1; refine ⟨c, ?_, ?_, fun _ => by rw [ht]; exact kop hl⟩; rotate_left; (simp only [kax, ht, hz, hm, hp, bne]; simp [e2]); (simp only [kbl, kdh, ht, hz, hm, hl]; simp [e1]))
     | (obtain ⟨c, e1, e2⟩ := kf6 x.num (-1000000) 1000000; refine ⟨c, ?_, ?_, fun _ => by rw [ht]; exact kop hl⟩; rotate_left; (simp only [kax, ht, hz, hm, hp, bne]; simp [e2]); (simp only [kbl, kdh, ht, hz, hm, hl]; simp [e1]))
     | (obtain ⟨c, e1, e2⟩ := kf6 x.num 0 255; refine ⟨c, ?_, ?_, fun _ => by rw [ht]; exact kop hl⟩; rotate_left; (simp only [kax, ht, hz, hm, hp, bne]; simp [e2]); (simp only [kbl, kdh, ht, hz, hm, hl]; simp [e1]))
     | (obtain ⟨c, e1⟩ := hS 0 64; refine ⟨c, ?_, ?_, fun _ => by rw [ht]; exact kop hl⟩; rotate_left; (simp only [kax, ht, hz, hm, hp, bne]; simp [hP, e1]); (simp only [kbl, kdh, ht, hz, hm, hl]; simp [e1]))
     | (obtain ⟨c, e1⟩ := hS 1 40; refine ⟨c, ?_, ?_, fun _ => by rw [ht]; exact kop hl⟩; rotate_left; (simp only [kax, ht, hz, hm, hp, bne]; simp [hP, e1]); (simp only [kbl, kdh, ht, hz, hm, hl]; simp [e1]))
     | (obtain ⟨c, e1, e2, e3⟩ := hE 2 (.inl rfl) (by rw [ht]; rfl); refine ⟨c, ?_, ?_, fun h => by rw [ht]; exact e3 h⟩; rotate_left; (simp only [kax, ht, hz, hm, hp, bne]; simp [e2]); (simp only [kbl, kdh, ht, hz, hm, hl]; simp [e1]))
     | (obtain ⟨c, e1, e2, e3⟩ := hE 3 (.inr rfl) (by rw [ht]; rfl); refine ⟨c, ?_, ?_, fun h => by rw [ht]; exact e3 h⟩; rotate_left; (simp only [kax, ht, hz, hm, hp, bne]; simp [e2]); (simp only [kbl, kdh, ht, hz, hm, hl]; simp [e1]))
     | (obtain ⟨c, e1, e2, e3⟩ := hR (by rw [ht]; rfl); refine ⟨c, ?_, ?_, fun h => by rw [ht]; exact e3 h⟩; rotate_left; (simp only [kax, ht, hz, hm, hp, bne]; simp [e2]); (simp only [kbl, kdh, ht, hz, hm, hl]; simp [e1]))
  ·show ∃ c, kdu (kae n) (kd8 n) (kgd n) l t = some c ∧ kc7 (kas n) (kdt n) (kev n) l t = some c ∧ _
   by_cases h16 : (16 : Int) < (l.length : Int)
   ·exact ⟨2, by simp only [kdu, decide_eq_true h16, cond_true], by simp only [kc7, decide_eq_true h16, cond_true], fun h => absurd h (by decide)⟩
   ·have hrk : rkT t = 1 := by rcases ht with rfl | rfl <;> rfl
    have hst : ∀ (i : Nat) (hi : i < l.length), (kak l t (kae n) (i : Int) = some (.inl ((i + 1 : Nat) : Int)) ∧ kba l t (kas n) (i : Int) = some (.inl ((i + 1 : Nat) : Int)) ∧ depV l[i] ≤ 1) ∨
      ∃ c, c ≠ 0 ∧ kak l t (kae n) (i : Int) = some (.inr (.inr c)) ∧ kba l t (kas n) (i : Int) = some (.inr (.inr c)) := fun i hi => by
     have e1 : l[i]? = some l[i] := List.getElem?_eq_getElem hi
     have b1 : decide ((i : Int) < (l.length : Int)) = true := decide_eq_true (by omega)
     have hw := kbt (n := i) (by omega)
     cases ht : (l[i].type != t) with
     | true => exact .inr ⟨3, by decide, by simp only [kak, b1, kan, e1, ht, cond_true, Option.bind_some], by simp only [kba, b1, kan, e1, ht, cond_true, Option.bind_some]⟩
     | false =>
      have hty : l[i].type = t := by rwa [bne_eq_false_iff_eq] at ht
      obtain ⟨c, k1, k2, k3⟩ := ih1 l[i] (by rw [hty, hrk]; omega) (wl _ (List.getElem_mem hi))
      rw [hty, hrk] at k3
      cases hc : (c != 0) with
      | true => exact .inr ⟨c, by simpa using hc, by simp only [kak, b1, kan, e1, ht, k1, hc, cond_true, cond_false, Option.bind_some], by simp only [kba, b1, kan, e1, ht, k2, hc, cond_true, cond_false, Option.bind_some]⟩
      | false => exact .inl ⟨by simp only [kak, b1, kan, e1, ht, k1, hc, hw, cond_true, cond_false, Option.bind_some], by simp only [kba, b1, kan, e1, ht, k2, hc, hw, cond_true, cond_false, Option.bind_some], k3 (by rwa [bne_eq_false_iff_eq] at hc)⟩
    obtain ⟨r, e1, e2⟩ := knb (step := kak l t (kae n)) (step' := kba l t (kas n)) l.length (by omega) (fun i => (i : Int)) (fun i hi => by
     rcases hst i hi with ⟨a1, a2, _⟩ | ⟨c, _, a1, a2⟩
     ·exact .inl ⟨a1, a2⟩
     ·exact .inr ⟨_, a1, a2⟩) (.inl ()) (by simp [kak]) (by simp [kba])
    have e1' : kaa (kak l t (kae n)) fuel 0 = some r := by simpa using e1
    have e2' : kaa (kba l t (kas n)) fuel 0 = some r := by simpa using e2
    have hne : ∀ c : Int, r = .inr c → c ≠ 0 := fun c hr => by
     obtain ⟨r2, r3, f1, f2, f3⟩ := khi (step := kak l t (kae n)) (step' := kak l t (kae n)) l.length (by omega) (fun i => (i : Int)) (fun i => (i : Int)) (fun r r' => ∀ c, r = .inr c → c ≠ 0) (fun i hi => by
      rcases hst i hi with ⟨a1, a2, _⟩ | ⟨c, h0, a1, a2⟩
      ·exact .inl ⟨a1, a1⟩
      ·exact .inr ⟨_, _, a1, a1, fun c' h => by cases h; exact h0⟩) ⟨.inl (), .inl (), by simp [kak], by simp [kak], fun c h => by cases h⟩
     have f1' : kaa (kak l t (kae n)) fuel 0 = some r2 := by simpa using f1
     rw [e1'] at f1'
     cases f1'
     exact f3 c hr
    refine ⟨Sum.elim (fun _ => 0) id r, ?_, ?_, fun h0 => ?_⟩
    ·simp only [kdu, decide_eq_false h16, cond_false, e1', Option.bind_some]; cases r <;> rfl
    ·simp only [kc7, decide_eq_false h16, cond_false, e2', Option.bind_some]; cases r <;> rfl
    ·cases r with
     | inr c => exact absurd h0 (hne c rfl)
     | inl u =>
      intro x hx
      obtain ⟨i, hi, rfl⟩ := List.mem_iff_getElem.1 hx
      have hall := kll (step := kak l t (kae n)) l.length (fun i => (i : Int)) (.inl u) (fun i hi => by
       rcases hst i hi with ⟨a1, a2, _⟩ | ⟨c, _, a1, a2⟩
       ·exact .inl a1
       ·exact .inr ⟨_, a1, fun h => by cases h⟩) fuel 0 e1' i (Nat.zero_le _) hi
      rcases hst i hi with ⟨_, _, h⟩ | ⟨c, _, a1, _⟩
      ·exact h
      ·rw [a1] at hall; cases hall
  ·show ∃ c, kfh (kae n) (kd8 n) (kgd n) l = some c ∧ kei (kas n) (kdt n) (kev n) l = some c ∧ _
   by_cases h16 : (8 : Int) < (l.length : Int)
   ·exact ⟨2, by simp only [kfh, decide_eq_true h16, cond_true], by simp only [kei, decide_eq_true h16, cond_true], fun h => absurd h (by decide)⟩
   ·have hst : ∀ (i : Nat) (hi : i < l.length), (kar l (kae n) (i : Int) = some (.inl ((i + 1 : Nat) : Int)) ∧ kbk l (kas n) (i : Int) = some (.inl ((i + 1 : Nat) : Int)) ∧ depV l[i] ≤ 2) ∨
      ∃ c, c ≠ 0 ∧ kar l (kae n) (i : Int) = some (.inr (.inr c)) ∧ kbk l (kas n) (i : Int) = some (.inr (.inr c)) := fun i hi => by
     have e1 : l[i]? = some l[i] := List.getElem?_eq_getElem hi
     have e0 : idx l 0 = some (l[0]'(by omega)) := by rw [show (0 : Int) = ((0 : Nat) : Int) from rfl, kan, List.getElem?_eq_getElem]
     have b1 : decide ((i : Int) < (l.length : Int)) = true := decide_eq_true (by omega)
     have hw := kbt (n := i) (by omega)
     cases ht : (l[i].type != 6) with
     | true => exact .inr ⟨3, by decide, by simp only [kar, b1, kan, e1, ht, cond_true, Option.bind_some], by simp only [kbk, b1, kan, e1, ht, cond_true, Option.bind_some]⟩
     | false =>
      have hty : l[i].type = 6 := by rwa [bne_eq_false_iff_eq] at ht
      obtain ⟨c, k1, k2, k3⟩ := ih1 l[i] (by rw [hty]; show 2 * 2 ≤ n; omega) (wl _ (List.getElem_mem hi))
      rw [hty] at k3
      obtain ⟨q, hq⟩ : ∃ q, (bif decide ((l[i].items.length : Int) < 1) then some true else bif decide (8 < (l[i].items.length : Int)) then some true else (some ((l[i].items.length : Int) != ((l[0]'(by omega)).items.length : Int)) : Option Bool)) = some q := by
       cases decide ((l[i].items.length : Int) < 1) <;> cases decide (8 < (l[i].items.length : Int)) <;> exact ⟨_, rfl⟩
      cases q with
      | true => exact .inr ⟨2, by decide, by simp only [kar, b1, kan, e1, e0, ht, hq, cond_true, cond_false, Option.bind_some], by simp only [kbk, b1, kan, e1, e0, ht, hq, cond_true, cond_false, Option.bind_some]⟩
      | false =>
       cases hc : (c != 0) with
       | true => exact .inr ⟨c, by simpa using hc, by simp only [kar, b1, kan, e1, e0, ht, hq, k1, hc, cond_true, cond_false, Option.bind_some], by simp only [kbk, b1, kan, e1, e0, ht, hq, k2, hc, cond_true, cond_false, Option.bind_some]⟩
       | false => exact .inl ⟨by simp only [kar, b1, kan, e1, e0, ht, hq, k1, hc, hw, cond_true, cond_false, Option.bind_some], by simp only [kbk, b1, kan, e1, e0, ht, hq, k2, hc, hw, cond_true, cond_false, Option.bind_some], k3 (by rwa [bne_eq_false_iff_eq] at hc)⟩
    obtain ⟨r, e1, e2⟩ := knb (step := kar l (kae n)) (step' := kbk l (kas n)) l.length (by omega) (fun i => (i : Int)) (fun i hi => by
     rcases hst i hi with ⟨a1, a2, _⟩ | ⟨c, _, a1, a2⟩
     ·exact .inl ⟨a1, a2⟩
     ·exact .inr ⟨_, a1, a2⟩) (.inl ()) (by simp [kar]) (by simp [kbk])
    have e1' : kaa (kar l (kae n)) fuel 0 = some r := by simpa using e1
    have e2' : kaa (kbk l (kas n)) fuel 0 = some r := by simpa using e2
    have hne : ∀ c : Int, r = .inr c → c ≠ 0 := fun c hr => by
     obtain ⟨r2, r3, f1, f2, f3⟩ := khi (step := kar l (kae n)) (step' := kar l (kae n)) l.length (by omega) (fun i => (i : Int)) (fun i => (i : Int)) (fun r r' => ∀ c, r = .inr c → c ≠ 0) (fun i hi => by
      rcases hst i hi with ⟨a1, a2, _⟩ | ⟨c, h0, a1, a2⟩
      ·exact .inl ⟨a1, a1⟩
      ·exact .inr ⟨_, _, a1, a1, fun c' h => by cases h; exact h0⟩) ⟨.inl (), .inl (), by simp [kar], by simp [kar], fun c h => by cases h⟩
     have f1' : kaa (kar l (kae n)) fuel 0 = some r2 := by simpa using f1
     rw [e1'] at f1'
     cases f1'
     exact f3 c hr
    refine ⟨Sum.elim (fun _ => 0) id r, ?_, ?_, fun h0 => ?_⟩
    ·simp only [kfh, decide_eq_false h16, cond_false, e1', Option.bind_some]; cases r <;> rfl
    ·simp only [kei, decide_eq_false h16, cond_false, e2', Option.bind_some]; cases r <;> rfl
    ·cases r with
     | inr c => exact absurd h0 (hne c rfl)
     | inl u =>
      intro x hx
      obtain ⟨i, hi, rfl⟩ := List.mem_iff_getElem.1 hx
      have hall := kll (step := kar l (kae n)) l.length (fun i => (i : Int)) (.inl u) (fun i hi => by
       rcases hst i hi with ⟨a1, a2, _⟩ | ⟨c, _, a1, a2⟩
       ·exact .inl a1
       ·exact .inr ⟨_, a1, fun h => by cases h⟩) fuel 0 e1' i (Nat.zero_le _) hi
      rcases hst i hi with ⟨_, _, h⟩ | ⟨c, _, a1, _⟩
      ·exact h
      ·rw [a1] at hall; cases hall
theorem kz1 (t : Int) : rkT t ≤ 3 := by unfold rkT; split <;> (try split) <;> omega
theorem kuf {x : Va} (hx : inV x) : ∃ c, kae fuel x = some c ∧ kas fuel x = some c ∧ (c = 0 → okV x) := by
 have h6 : 2 * rkT x.type ≤ fuel := Nat.le_trans (Nat.mul_le_mul_left 2 (kz1 x.type)) (by decide)
 obtain ⟨c, h1, h2, h3⟩ := (kw7 fuel).1 x h6 hx
 exact ⟨c, h1, h2, fun h => ⟨by have := h3 h; have := kz1 x.type; omega, hx.1⟩⟩
def kpt (r : Ru) : Prop := r.args.length ≤ 9223372036854775807 ∧ inV r.const
theorem kzo {x : Va} (h : eqV x kdz = true) : x = kdz := k1o x kdz (by simpa [eqV] using h)
theorem kacw (l : La) (r : Ru) (hr : kpt r) : ∃ c, kil l r = some c ∧ kb5 l r = some c := by
 obtain ⟨c, h1, h2, _⟩ := kuf hr.2
 exact k8w l r hr.1 (knw _) (k2z _) ⟨c, h1, h2⟩
structure GoodR (l : La) (r : Ru) : Prop where
 sym0 : 0 ≤ r.symbol
 sym1 : r.symbol < (l.symbols.length : Int)
 kind : r.kind = 1 ∨ r.kind = 2 ∨ r.kind = 3
 noargs : r.kind ≠ 3 → r.args = []
 args : ∀ a ∈ r.args, 0 ≤ a ∧ a < (l.symbols.length : Int)
 few : r.args.length ≤ 5
 fine : okV r.const
theorem keu {α : Type} {b : Bool} {x y : Option α} {r : α} (h : (bif b then x else y) = some r) : (b = true ∧ x = some r) ∨ (b = false ∧ y = some r) := by
 cases b
 ·exact .inr ⟨rfl, h⟩
 ·exact .inl ⟨rfl, h⟩
theorem kgu {α β : Type} {E : Option α} {K : α → Option β} {r : β} (h : Option.bind E K = some r) : ∃ v, E = some v ∧ K v = some r := Option.bind_eq_some_iff.1 h
theorem k0o : opNames.all (fun n => (kbg n).all fun o => decide (o.1.f_Args.length ≤ 5)) = true := by kernel_rfl
theorem ku3 {s : ByteArray} {o : S_api_Operator × Bool} (h : kbg s = some o) (ho : o.2 = true) : o.1.f_Args.length ≤ 5 := by
 by_cases hin : s ∈ opNames
 ·have := List.all_eq_true.1 k0o s hin
  rw [h] at this
  simpa using this
 ·rw [(ks1 s hin).2] at h
  cases h
  cases ho
theorem k45 {l : La} {r : Ru} (ha : r.args.length ≤ 9223372036854775807) (h : kb3 l r = some 0) : r.args.length ≤ 5 ∧ ∀ a ∈ r.args, 0 ≤ a ∧ a < (l.symbols.length : Int) := by
 unfold kb3 at h
 obtain ⟨o, h1, h⟩ := kgu h
 rcases keu h with ⟨_, h⟩ | ⟨h2, h⟩
 ·cases h
 rcases keu h with ⟨_, h⟩ | ⟨h3, h⟩
 ·cases h
 have hlen : r.args.length = o.1.f_Args.length := by
  have := bne_eq_false_iff_eq.1 h3
  omega
 have h5 := ku3 h1 (by simpa using h2)
 obtain ⟨v, h4, h⟩ := kgu h
 refine ⟨by omega, fun a hmem => ?_⟩
 have hst : ∀ i, i < r.args.length → kay l r o (i : Int) = some (.inl ((i + 1 : Nat) : Int)) ∧ (∀ x, r.args[i]? = some x → 0 ≤ x ∧ x < (l.symbols.length : Int)) ∨ ∃ c, c ≠ 0 ∧ kay l r o (i : Int) = some (.inr (.inr c)) := fun i hi => by
  have e1 : r.args[i]? = some r.args[i] := List.getElem?_eq_getElem hi
  have hi2 : i < o.1.f_Args.length := by omega
  have e2 : o.1.f_Args[i]? = some o.1.f_Args[i] := List.getElem?_eq_getElem hi2
  have b1 : decide ((i : Int) < (r.args.length : Int)) = true := decide_eq_true (by omega)
  simp only [kay, b1, cond_true, kan, e1, e2, Option.bind_some, kbt (n := i) (by omega)]
  by_cases h0 : 0 ≤ r.args[i]
  ·by_cases h1 : r.args[i] < (l.symbols.length : Int)
   ·obtain ⟨x, hx, _⟩ := krb h0 h1
    rw [decide_eq_false (show ¬ r.args[i] < 0 by omega), decide_eq_false (show ¬ (l.symbols.length : Int) ≤ r.args[i] by omega)]
    simp only [cond_false, Option.bind_some, hx]
    cases x.type != o.1.f_Args[i] with
    | true => exact .inr ⟨3, by decide, rfl⟩
    | false => exact .inl ⟨rfl, fun y hy => by cases hy; exact ⟨h0, h1⟩⟩
   ·rw [decide_eq_false (show ¬ r.args[i] < 0 by omega), decide_eq_true (show (l.symbols.length : Int) ≤ r.args[i] by omega)]
    exact .inr ⟨1, by decide, rfl⟩
  ·rw [decide_eq_true (show r.args[i] < 0 by omega)]
   exact .inr ⟨1, by decide, rfl⟩
 obtain ⟨i, hi, rfl⟩ := List.mem_iff_getElem.1 hmem
 have hv : ∀ c : Int, c ≠ 0 → (.inr c : Unit ⊕ Int) ≠ v := fun c hc he => by
  subst he
  cases h
  exact hc rfl
 have hall := kll (step := kay l r o) r.args.length (fun i => (i : Int)) v (fun i hi => by
  rcases hst i hi with ⟨a1, _⟩ | ⟨c, hc, a1⟩
  ·exact .inl a1
  ·exact .inr ⟨_, a1, hv c hc⟩) fuel 0 h4 i (Nat.zero_le _) hi
 rcases hst i hi with ⟨_, a2⟩ | ⟨c, _, a1⟩
 ·exact a2 _ (List.getElem?_eq_getElem hi)
 ·rw [a1] at hall; cases hall
theorem len0 {α : Type} {xs : List α} (h : ((xs.length : Int) == 0) = true) : xs = [] := List.eq_nil_of_length_eq_zero (by have := eq_of_beq h; omega)
theorem kxz {l : La} {r : Ru} (hr : kpt r) (h : kb5 l r = some 0) : GoodR l r := by
 unfold kb5 at h
 obtain ⟨b1, h1, h⟩ := kgu h
 rcases keu h with ⟨_, h⟩ | ⟨h2, h⟩
 ·cases h
 subst h2
 have hs : 0 ≤ r.symbol ∧ r.symbol < (l.symbols.length : Int) := by
  rcases keu h1 with ⟨_, h1⟩ | ⟨q, h1⟩
  ·cases h1
  ·have q := of_decide_eq_false q
   have q2 := of_decide_eq_false (Option.some.inj h1)
   omega
 obtain ⟨b2, h3, h⟩ := kgu h
 rcases keu h with ⟨_, h⟩ | ⟨h4, h⟩
 ·cases h
 subst h4
 rcases keu h3 with ⟨_, h3⟩ | ⟨q1, h3⟩
 ·cases h3
 rcases keu h3 with ⟨_, h3⟩ | ⟨q2, h3⟩
 ·cases h3
 have q1 := of_decide_eq_false q1
 have q2 := of_decide_eq_false q2
 obtain ⟨z, h5, h6⟩ := kgu h3
 have hz : z = true := by
  cases z with
  | true => rfl
  | false => cases h6
 subst hz
 obtain ⟨x, h7, h⟩ := kgu h
 unfold kb4 at h5
 rw [knw, Option.bind_some] at h5
 have hk : r.kind = 1 ∨ r.kind = 2 ∨ r.kind = 3 := by omega
 have okz : eqV r.const kdz = true → okV r.const := fun h => by rw [kzo h]; exact ku1
 rcases hk with hk | hk | hk
 ·have c1 : (r.kind == 1) = true := by rw [hk]; rfl
  rw [c1, cond_true] at h5
  obtain ⟨b, h8, h9⟩ := kgu h5
  cases h9
  rcases keu h8 with ⟨e1, h8⟩ | ⟨_, h8⟩
  ·rcases keu h8 with ⟨e2, h8⟩ | ⟨_, h8⟩
   ·have ha := len0 (Option.some.inj h8)
    exact ⟨hs.1, hs.2, .inl hk, fun _ => ha, by rw [ha]; intro a h; (cases h), by rw [ha]; exact Nat.zero_le _, okz e1⟩
   ·cases h8
  ·cases h8
 ·have c1 : (r.kind == 1) = false := by rw [hk]; rfl
  have c2 : (r.kind == 2) = true := by rw [hk]; rfl
  rw [c1, cond_false, c2, cond_true] at h5
  rw [c1, cond_false, c2, cond_true] at h
  obtain ⟨b, h8, h9⟩ := kgu h5
  cases h9
  obtain ⟨c, g1, g2⟩ := kgu h
  have hc : c = 0 := by
   rcases keu g2 with ⟨e, g2⟩ | ⟨e, g2⟩
   ·cases g2; rfl
   ·exact bne_eq_false_iff_eq.1 e
  obtain ⟨c', f1, f2, f3⟩ := kuf hr.2
  have hcc : c' = 0 := by rw [f2] at g1; cases g1; exact hc
  rcases keu h8 with ⟨e1, h8⟩ | ⟨_, h8⟩
  ·rcases keu h8 with ⟨e2, h8⟩ | ⟨_, h8⟩
   ·have ha := len0 (Option.some.inj h8)
    exact ⟨hs.1, hs.2, .inr (.inl hk), fun _ => ha, by rw [ha]; intro a h; (cases h), by rw [ha]; exact Nat.zero_le _, f3 hcc⟩
   ·cases h8
  ·cases h8
 ·have c1 : (r.kind == 1) = false := by rw [hk]; rfl
  have c2 : (r.kind == 2) = false := by rw [hk]; rfl
  rw [c1, cond_false, c2, cond_false] at h5
  rw [c1, cond_false, c2, cond_false] at h
  obtain ⟨b, h8, h9⟩ := kgu h5
  cases h9
  obtain ⟨c, g1, g2⟩ := kgu h
  cases g2
  obtain ⟨a1, a2⟩ := k45 hr.1 g1
  rcases keu h8 with ⟨e1, h8⟩ | ⟨_, h8⟩
  ·exact ⟨hs.1, hs.2, .inr (.inr hk), fun h => absurd hk h, a2, a1, okz (Option.some.inj h8)⟩
  ·cases h8
theorem GoodR.fineR {l : La} {r : Ru} (h : GoodR l r) (hr : kpt r) : fineR r := ⟨by have := h.few; omega, h.fine, hr.2.2⟩
structure kld (l : La) : Prop where
 name : l.name.size ≤ 9223372036854775807
 inputs : l.inputs.length ≤ 9223372036854775807
 symbols : l.symbols.length ≤ 9223372036854775807
 rules : l.rules.length ≤ 9223372036854775807
 names : ∀ x ∈ l.symbols, x.name.size ≤ 9223372036854775807
 wide : ∀ r ∈ l.rules, kpt r
structure kyj (l : La) : Prop where
 inputs : l.inputs.length ≤ 4
 sym1 : 1 ≤ l.symbols.length
 sym16 : l.symbols.length ≤ 16
 rules : l.rules.length ≤ 96
 good : ∀ r ∈ l.rules, GoodR l r
theorem kabm (l : La) (h : kld l) : ∃ r, kaa (kbx l) fuel 0 = some r ∧ kaa (kau l) fuel 0 = some r ∧ (r = .inl () → ∀ x ∈ l.rules, GoodR l x) ∧ (∀ e, r = .inr e → e ≠ 0) := by
 have hl := h.rules
 have hb : ∀ n, n ≤ l.rules.length → (∃ i, i < n ∧ ∃ e, e ≠ 0 ∧ (∀ j, j < i → kbx l (j : Int) = some (.inl ((j + 1 : Nat) : Int)) ∧ kau l (j : Int) = some (.inl ((j + 1 : Nat) : Int))) ∧ kbx l (i : Int) = some (.inr (.inr e)) ∧ kau l (i : Int) = some (.inr (.inr e))) ∨
   ((∀ j, j < n → kbx l (j : Int) = some (.inl ((j + 1 : Nat) : Int)) ∧ kau l (j : Int) = some (.inl ((j + 1 : Nat) : Int))) ∧ ∀ j (hj : j < l.rules.length), j < n → GoodR l l.rules[j]) := by
  intro n
  induction n with
  | zero => intro _; exact .inr ⟨fun j hj => by omega, fun j _ hj => by omega⟩
  | succ n ih =>
   intro hn
   rcases ih (by omega) with ⟨i, hi, e, he, hx⟩ | ⟨g1, g2⟩
   ·exact .inl ⟨i, by omega, e, he, hx⟩
   ·have hi : n < l.rules.length := by omega
    have e1 : l.rules[n]? = some l.rules[n] := List.getElem?_eq_getElem hi
    have b1 : decide ((n : Int) < (l.rules.length : Int)) = true := decide_eq_true (by omega)
    have hw := h.wide _ (List.getElem_mem hi)
    obtain ⟨c, c1, c2⟩ := kacw l l.rules[n] hw
    by_cases hc : c = 0
    ·subst hc
     have hg := kxz hw c2
     have hall : ∀ j (hj : j < l.rules.length), j ≤ n → fineR l.rules[j] := fun j hj hjn => by
      have hwj := h.wide _ (List.getElem_mem hj)
      by_cases hjn' : j = n
      ·subst hjn'; exact hg.fineR hw
      ·exact (g2 j hj (by omega)).fineR hwj
     obtain ⟨b, d1, d2⟩ := k8v l n hi hl hall
     cases b with
     | true =>
      refine .inl ⟨n, by omega, 6, by decide, g1, ?_, ?_⟩
      ·simp only [kbx, b1, cond_true, kan, e1, Option.bind_some, c1, kzd l.rules n (by omega), d1]; rfl
      ·simp only [kau, b1, cond_true, kan, e1, Option.bind_some, c2, d2]; rfl
     | false =>
      refine .inr ⟨fun j hj => ?_, fun j hj hjn => ?_⟩
      ·by_cases hjn : j = n
       ·subst hjn
        constructor
        ·simp only [kbx, b1, cond_true, kan, e1, Option.bind_some, c1, kzd l.rules j (by omega), d1, kbt (n := j) (by omega)]; rfl
        ·simp only [kau, b1, cond_true, kan, e1, Option.bind_some, c2, d2, kbt (n := j) (by omega)]; rfl
       ·exact g1 j (by omega)
      ·by_cases hjn' : j = n
       ·subst hjn'; exact hg
       ·exact g2 j hj (by omega)
    ·refine .inl ⟨n, by omega, c, hc, g1, ?_, ?_⟩
     ·simp only [kbx, b1, cond_true, kan, e1, Option.bind_some, c1, show (c != 0) = true by simpa using hc]
     ·simp only [kau, b1, cond_true, kan, e1, Option.bind_some, c2, show (c != 0) = true by simpa using hc]
 have hend : kbx l (l.rules.length : Int) = some (.inr (.inl ())) ∧ kau l (l.rules.length : Int) = some (.inr (.inl ())) := by
  have b1 : decide ((l.rules.length : Int) < (l.rules.length : Int)) = false := decide_eq_false (by omega)
  simp only [kbx, kau, b1, cond_false, and_self]
 rcases hb l.rules.length (Nat.le_refl _) with ⟨i, hi, e, he, hj, a1, a2⟩ | ⟨g1, g2⟩
 ·obtain ⟨r, r', h1, h2, rfl, h3⟩ := khi (step := kbx l) (step' := kau l) i (by omega) (fun i => (i : Int)) (fun i => (i : Int)) (fun r r' => r = r' ∧ r = .inr e) (fun j hji => .inl (hj j hji)) ⟨_, _, a1, a2, rfl, rfl⟩
  subst h3
  exact ⟨_, by simpa using h1, by simpa using h2, (fun h => by cases h), fun e' h => by cases h; exact he⟩
 ·obtain ⟨r, r', h1, h2, rfl, h3⟩ := khi (step := kbx l) (step' := kau l) l.rules.length (by omega) (fun i => (i : Int)) (fun i => (i : Int)) (fun r r' => r = r' ∧ r = .inl ()) (fun j hji => .inl (g1 j hji)) ⟨_, _, hend.1, hend.2, rfl, rfl⟩
  subst h3
  refine ⟨_, by simpa using h1, by simpa using h2, fun _ x hx => ?_, fun e' h => by cases h⟩
  obtain ⟨i, hi, rfl⟩ := List.mem_iff_getElem.1 hx
  exact g2 i hi hi
theorem kz5 (l : La) (h : kld l) : ∃ c, ken l = some c ∧ kce l = some c ∧ (c = 0 → kyj l) := by
 obtain ⟨b, n1, n2⟩ := kv1 l.name h.name
 obtain ⟨r1, i1, i2, i3⟩ := k07 l h.inputs
 obtain ⟨r2, s1, s2, s3⟩ := ky4 l h.symbols h.names
 obtain ⟨r3, t1, t2, t3, t4⟩ := kabm l h
 have hne : ∀ c : Int, c ≠ 0 → (c = 0 → kyj l) := fun c hc h => absurd h hc
 unfold ken kce
 rw [n1, n2]
 simp only [Option.bind_some]
 cases b with
 | false => exact ⟨5, rfl, rfl, hne 5 (by decide)⟩
 | true =>
  simp only [Bool.not_true, cond_false]
  cases hin : decide (4 < (l.inputs.length : Int)) with
  | true => exact ⟨2, rfl, rfl, hne 2 (by decide)⟩
  | false =>
   have hin := of_decide_eq_false hin
   simp only [cond_false, i1, i2, Option.bind_some]
   cases r1 with
   | inr e => exact ⟨e, rfl, rfl, hne e (i3 e rfl)⟩
   | inl u =>
    simp only [Sum.elim_inl]
    have hc : (bif decide ((l.symbols.length : Int) < 1) then some true else some (decide (16 < (l.symbols.length : Int))) : Option Bool) = some (decide ((l.symbols.length : Int) < 1) || decide (16 < (l.symbols.length : Int))) := by cases decide ((l.symbols.length : Int) < 1) <;> rfl
    rw [hc, Option.bind_some, Option.bind_some]
    cases hsy : decide ((l.symbols.length : Int) < 1) || decide (16 < (l.symbols.length : Int)) with
    | true => exact ⟨2, rfl, rfl, hne 2 (by decide)⟩
    | false =>
     rw [Bool.or_eq_false_iff] at hsy
     have hs1 := of_decide_eq_false hsy.1
     have hs2 := of_decide_eq_false hsy.2
     simp only [cond_false, s1, s2, Option.bind_some]
     cases r2 with
     | inr e => exact ⟨e, rfl, rfl, hne e (s3 e rfl)⟩
     | inl u =>
      simp only [Sum.elim_inl]
      cases hru : decide (96 < (l.rules.length : Int)) with
      | true => exact ⟨2, rfl, rfl, hne 2 (by decide)⟩
      | false =>
       have hru := of_decide_eq_false hru
       simp only [cond_false, t1, t2, Option.bind_some]
       cases r3 with
       | inr e => exact ⟨e, rfl, rfl, hne e (t4 e rfl)⟩
       | inl u => exact ⟨0, rfl, rfl, fun _ => ⟨by omega, by omega, by omega, by omega, t3 rfl⟩⟩
end Go.Proofs.YtaimpcnpifoidaaGreatDoor
