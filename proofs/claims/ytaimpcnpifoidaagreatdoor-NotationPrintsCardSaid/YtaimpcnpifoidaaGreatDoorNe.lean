import Derived.Test.YtaimpcnpifoidaaGreatDoorLo
import Derived.Test.YtaimpcnpifoidaaGreatDoorGu
import Derived.Test.YtaimpcnpifoidaaGreatDoorOpg
import Derived.Test.YtaimpcnpifoidaaGreatDoorZE
import Derived.Lib.DecodeNEq
import Derived.Lib.ItoaNum
set_option linter.unusedVariables false
set_option linter.unusedSimpArgs false
set_option maxRecDepth 100000
namespace Go.Proofs.YtaimpcnpifoidaaGreatDoor
open Go Go.RowKit
def Ev {α : Type} (x : Option α) (P : α → Prop) : Prop := ∃ v, x = some v ∧ P v
theorem kaf {α : Type} {v : α} {P : α → Prop} (h : P v) : Ev (some v) P := ⟨v, rfl, h⟩
theorem Ev.eq {α : Type} {x : Option α} {v : α} (h : Ev x (· = v)) : x = some v := by obtain ⟨u, h1, rfl⟩ := h; exact h1
theorem Ev.mono {α : Type} {x : Option α} {P Q : α → Prop} (h : Ev x P) (hp : ∀ v, P v → Q v) : Ev x Q := by obtain ⟨v, h1, h2⟩ := h; exact ⟨v, h1, hp v h2⟩
theorem kc8 {α β : Type} {x : Option α} {k : α → Option β} {P : β → Prop} (h : Ev x fun v => Ev (k v) P) : Ev (Option.bind x k) P := by
  obtain ⟨v, rfl, u, h1, h2⟩ := h
  exact ⟨u, h1, h2⟩
theorem kcw {α : Type} {c : Bool} {x y : Option α} {P : α → Prop} (h1 : c = true → Ev x P) (h0 : c = false → Ev y P) : Ev (bif c then x else y) P := by
  cases c
  · exact h0 rfl
  · exact h1 rfl
theorem kok {σ β : Type} {step : σ → Option (σ ⊕ β)} {s0 : σ} {Q : β → Prop} (n : Nat) (I : Nat → σ → Prop) (hn : n < 18446744073709551616) (h0 : I 0 s0)
    (hs : ∀ i s, i < n → I i s → Ev (step s) (Sum.elim (I (i + 1)) Q)) (he : ∀ s, I n s → Ev (step s) fun r => ∃ b, r = .inr b ∧ Q b) : Ev (kaa step fuel s0) Q := by
  have key : ∀ (k m N : Nat) (s : σ), m + k = n → k < N → I m s → Ev (kaa step N s) Q := by
    intro k
    induction k with
    | zero =>
      intro m N s hm hN hI
      obtain ⟨N, rfl⟩ : ∃ j, N = j + 1 := ⟨N - 1, by omega⟩
      obtain rfl : m = n := by omega
      obtain ⟨r, h1, b, rfl, h2⟩ := he s hI
      exact ⟨b, by rw [kaa, h1], h2⟩
    | succ k ih =>
      intro m N s hm hN hI
      obtain ⟨N, rfl⟩ : ∃ j, N = j + 1 := ⟨N - 1, by omega⟩
      obtain ⟨r, h1, h2⟩ := hs m s (by omega) hI
      cases r with
      | inl s' =>
        obtain ⟨b, h3, h4⟩ := ih (m + 1) N s' (by omega) (by omega) h2
        exact ⟨b, by rw [kaa, h1]; exact h3, h4⟩
      | inr b => exact ⟨b, by rw [kaa, h1], h2⟩
  exact key n 0 fuel s0 (by omega) (kdk hn) h0
theorem kyo {σ β : Type} {x : Option (σ ⊕ β)} {s : σ} {P : σ → Prop} {Q : β → Prop} (h : x = some (.inl s)) (hp : P s) : Ev x (Sum.elim P Q) := ⟨_, h, hp⟩
theorem kvv {σ β : Type} {x : Option (σ ⊕ β)} {b : β} {Q : β → Prop} (h : x = some (.inr b)) (hq : Q b) : Ev x fun r => ∃ b, r = .inr b ∧ Q b := ⟨_, h, b, rfl, hq⟩
end Go.Proofs.YtaimpcnpifoidaaGreatDoor
set_option linter.unusedVariables false
set_option linter.unusedSimpArgs false
set_option maxRecDepth 100000
namespace Go.Proofs.YtaimpcnpifoidaaGreatDoor
open Go Go.RowKit
def kd5 (m : Nat) (s : Nat) : Int := if s ≤ m then (m : Int) - (s : Int) else -1
theorem sizeL_take {l : List Tm} {i : Nat} (h : i < l.length) : Tm.sizeL (l.take (i + 1)) = Tm.sizeL (l.take i) + l[i].size := by
  rw [List.take_succ_eq_append_getElem h, Tm.sizeL_snoc]
theorem klf (l : List Tm) (i : Nat) : i ≤ l.length → i ≤ Tm.sizeL (l.take i) ∧ Tm.sizeL (l.take i) ≤ Tm.sizeL l := by
  intro hi
  induction i with
  | zero => exact ⟨Nat.zero_le _, by simp [Tm.sizeL]⟩
  | succ i ih =>
    have h1 := ih (by omega)
    have h2 := sizeL_take (l := l) (i := i) (by omega)
    have h3 := Tm.size_pos l[i]
    refine ⟨by omega, ?_⟩
    have : Tm.sizeL l = Tm.sizeL (l.take (i + 1)) + Tm.sizeL (l.drop (i + 1)) := by
      have gen : ∀ a b : List Tm, Tm.sizeL (a ++ b) = Tm.sizeL a + Tm.sizeL b := fun a b => by
        induction a with
        | nil => simp [Tm.sizeL]
        | cons x a ih => simp only [List.cons_append, Tm.sizeL, ih]; omega
      rw [← gen, List.take_append_drop]
    omega
theorem kp3 : ∀ (n : Nat) (t : Tm) (m : Nat), m ≤ 10000 → m < n → kdb n t (m : Int) = some (kd5 m t.size) ∧ kfg n t (m : Int) = some (kd5 m t.size)
  | 0, t, m, _, h => by omega
  | n + 1, t, m, hm, hn => by
    show ke7 (kdb n) t (m : Int) = _ ∧ ki7 (kfg n) t (m : Int) = _
    obtain ⟨r0, l⟩ := t
    have hsz : (Tm.mk r0 l).size = Tm.sizeL l + 1 := rfl
    have hstart : w64 ((m : Int) - 1) = kd5 m (1 + Tm.sizeL (l.take 0)) := by
      rw [knd (by omega) (by omega)]
      simp only [List.take_zero, Tm.sizeL, kd5]
      split <;> omega
    obtain ⟨r, r', h1, h2, h3, h4⟩ := khi (step := kf1 (Tm.mk r0 l) (kfg n)) (step' := kc5 (Tm.mk r0 l) (kdb n)) (min l.length m) (by omega)
      (fun i => (kd5 m (1 + Tm.sizeL (l.take i)), (i : Int))) (fun i => (kd5 m (1 + Tm.sizeL (l.take i)), (i : Int))) (fun r r' => Sum.elim id id r = kd5 m (Tm.sizeL l + 1) ∧ r' = kd5 m (Tm.sizeL l + 1)) (fun i hi => by
      have hi1 : i < l.length := by omega
      have e1 : (Tm.mk r0 l).args[i]? = some l[i] := List.getElem?_eq_getElem hi1
      have b1 : decide ((i : Int) < ((Tm.mk r0 l).args.length : Int)) = true := decide_eq_true (by show (i : Int) < (l.length : Int); omega)
      have hle := klf l i (by omega)
      simp only [kf1, kc5, b1, cond_true, Option.bind_some, kan, e1]
      by_cases hp : 1 + Tm.sizeL (l.take i) ≤ m
      · have hv : kd5 m (1 + Tm.sizeL (l.take i)) = ((m - (1 + Tm.sizeL (l.take i)) : Nat) : Int) := by unfold kd5; rw [if_pos hp]; omega
        obtain ⟨q1, q2⟩ := kp3 n l[i] (m - (1 + Tm.sizeL (l.take i))) (by omega) (by omega)
        have hnext : kd5 (m - (1 + Tm.sizeL (l.take i))) l[i].size = kd5 m (1 + Tm.sizeL (l.take (i + 1))) := by
          rw [sizeL_take hi1]
          unfold kd5
          split <;> split <;> omega
        rw [hv, decide_eq_true (show (0 : Int) ≤ ((m - (1 + Tm.sizeL (l.take i)) : Nat) : Int) by omega), decide_eq_false (show ¬ ((m - (1 + Tm.sizeL (l.take i)) : Nat) : Int) < 0 by omega)]
        simp only [cond_true, cond_false, q1, q2, Option.bind_some, hnext, kbt (n := i) (by omega)]
        first | exact .inl ⟨rfl, rfl⟩ | exact .inl ⟨trivial, trivial⟩
      · have hv : kd5 m (1 + Tm.sizeL (l.take i)) = -1 := by unfold kd5; rw [if_neg hp]
        have hf : kd5 m (Tm.sizeL l + 1) = -1 := by unfold kd5; rw [if_neg (by omega)]
        rw [hv, hf]
        exact .inr ⟨_, _, rfl, rfl, rfl, rfl⟩) (by
      have hle := klf l (min l.length m) (by omega)
      by_cases hlm : l.length ≤ m
      · have hmin : min l.length m = l.length := by omega
        have b1 : decide ((l.length : Int) < ((Tm.mk r0 l).args.length : Int)) = false := decide_eq_false (by show ¬ (l.length : Int) < (l.length : Int); omega)
        have hf : kd5 m (1 + Tm.sizeL l) = kd5 m (Tm.sizeL l + 1) := by rw [Nat.add_comm]
        simp only [hmin, kf1, kc5, b1, cond_false, Option.bind_some, List.take_length, hf]
        exact ⟨_, _, rfl, rfl, rfl, rfl⟩
      · have hmin : min l.length m = m := by omega
        rw [hmin] at hle
        have b1 : decide ((m : Int) < ((Tm.mk r0 l).args.length : Int)) = true := decide_eq_true (by show (m : Int) < (l.length : Int); omega)
        have hi1 : m < l.length := by omega
        have e1 : (Tm.mk r0 l).args[m]? = some l[m] := List.getElem?_eq_getElem hi1
        have hv : kd5 m (1 + Tm.sizeL (l.take m)) = -1 := by unfold kd5; rw [if_neg (by omega)]
        have hf : kd5 m (Tm.sizeL l + 1) = -1 := by unfold kd5; rw [if_neg (by omega)]
        simp only [hmin, kf1, kc5, b1, cond_true, Option.bind_some, kan, e1, hv, hf]
        exact ⟨_, _, rfl, rfl, rfl, rfl⟩)
    have h1' : kaa (kf1 (Tm.mk r0 l) (kfg n)) fuel (w64 ((m : Int) - 1), 0) = some r := by rw [hstart]; simpa using h1
    have h2' : kaa (kc5 (Tm.mk r0 l) (kdb n)) fuel (w64 ((m : Int) - 1), 0) = some r' := by rw [hstart]; simpa using h2
    unfold ke7 ki7
    rw [h1', h2', hsz, ← h4]
    refine ⟨rfl, ?_⟩
    rw [h4, ← h3]
    cases r <;> rfl
theorem k3h {t : Tm} : Tm.sizeL t.args + 1 = t.size := by cases t; rfl
theorem kiq (l : List Tm) : l.length ≤ Tm.sizeL l := by
  have := (klf l l.length (Nat.le_refl _)).1
  rw [List.take_length] at this
  exact this
theorem k02 {l : List Tm} {i : Nat} (h : i < l.length) : Tm.depthL (l.take (i + 1)) = max (Tm.depthL (l.take i)) l[i].depth := by
  rw [List.take_succ_eq_append_getElem h, Tm.depthL_snoc]
theorem ksn (t : Tm) : t.depth ≤ t.size := by
  refine Tm.ind (P := fun t => t.depth ≤ t.size) (fun r l ih => ?_) t
  show Tm.depthL l + 1 ≤ Tm.sizeL l + 1
  have : ∀ l : List Tm, (∀ t ∈ l, t.depth ≤ t.size) → Tm.depthL l ≤ Tm.sizeL l := fun l => by
    induction l with
    | nil => exact fun _ => Nat.le_refl _
    | cons x l ih =>
      intro h
      have h1 := h x (List.mem_cons_self ..)
      have h2 := ih fun t ht => h t (List.mem_cons_of_mem _ ht)
      show max x.depth (Tm.depthL l) ≤ x.size + Tm.sizeL l
      omega
  have := this l ih
  omega
theorem kyy : ∀ (n : Nat) (t : Tm), t.size ≤ 1000 → t.size ≤ n → kc1 n t = some (t.depth : Int)
  | 0, t, _, h => by have := Tm.size_pos t; omega
  | n + 1, t, ht, hn => by
    show kex (kc1 n) t = _
    obtain ⟨r0, l⟩ := t
    have hsz : (Tm.mk r0 l).size = Tm.sizeL l + 1 := rfl
    have hlen := kiq l
    have hl := ksb (step := kds (Tm.mk r0 l) (kc1 n)) l.length (by omega) (fun i => ((Tm.depthL (l.take i) : Int), (i : Int))) (Tm.depthL l : Int) (fun i hi => by
      have e1 : (Tm.mk r0 l).args[i]? = some l[i] := List.getElem?_eq_getElem hi
      have b1 : decide ((i : Int) < ((Tm.mk r0 l).args.length : Int)) = true := decide_eq_true (by show (i : Int) < (l.length : Int); omega)
      have hs := Tm.sizeL_mem (List.getElem_mem hi)
      have q := kyy n l[i] (by omega) (by omega)
      have hmax : imax (Tm.depthL (l.take i) : Int) (l[i].depth : Int) = (Tm.depthL (l.take (i + 1)) : Int) := by
        rw [k02 hi]
        unfold imax
        split <;> omega
      simp only [kds, b1, cond_true, kan, e1, Option.bind_some, q, hmax, kbt (n := i) (by omega)]) (by
      have b1 : decide ((l.length : Int) < ((Tm.mk r0 l).args.length : Int)) = false := decide_eq_false (by show ¬ (l.length : Int) < (l.length : Int); omega)
      simp only [kds, b1, cond_false, List.take_length])
    have hl' : kaa (kds (Tm.mk r0 l) (kc1 n)) fuel (0, 0) = some (Tm.depthL l : Int) := by simpa [Tm.depthL] using hl
    unfold kex
    rw [hl', Option.bind_some]
    have hd := ksn (Tm.mk r0 l)
    have hd2 : (Tm.mk r0 l).depth = Tm.depthL l + 1 := rfl
    rw [kbt (by omega), hd2]
theorem kuq : ∀ (n : Nat) (t : Tm) (k : Nat), k ≤ 1000 → t.size ≤ 1000 → t.size ≤ n → kfp n t (k : Int) = some (decide (t.depth ≤ k))
  | 0, t, k, _, _, h => by have := Tm.size_pos t; omega
  | n + 1, t, k, hk, ht, hn => by
    show kiu (kfp n) t (k : Int) = _
    obtain ⟨r0, l⟩ := t
    have hsz : (Tm.mk r0 l).size = Tm.sizeL l + 1 := rfl
    have hd2 : (Tm.mk r0 l).depth = Tm.depthL l + 1 := rfl
    have hlen := kiq l
    unfold kiu
    by_cases h0 : k = 0
    · subst h0
      rw [decide_eq_false (show ¬ (Tm.mk r0 l).depth ≤ 0 by omega)]
      rfl
    · have c0 : ((k : Int) == 0) = false := by rw [beq_eq_false_iff_ne]; omega
      rw [c0]
      have hl := kjz (step := kgo (Tm.mk r0 l) (k : Int) (kfp n)) l.length (by omega) (fun i => (i : Int)) (fun i => if (l.drop i).all (fun t => decide (t.depth ≤ k - 1)) = true then .inl () else .inr false) (fun i hi => by
        have e1 : (Tm.mk r0 l).args[i]? = some l[i] := List.getElem?_eq_getElem hi
        have b1 : decide ((i : Int) < ((Tm.mk r0 l).args.length : Int)) = true := decide_eq_true (by show (i : Int) < (l.length : Int); omega)
        have hs := Tm.sizeL_mem (List.getElem_mem hi)
        have hsub : w64 ((k : Int) - 1) = ((k - 1 : Nat) : Int) := by rw [knd (by omega) (by omega)]; omega
        have q := kuq n l[i] (k - 1) (by omega) (by omega) (by omega)
        have hd : l.drop i = l[i] :: l.drop (i + 1) := List.drop_eq_getElem_cons hi
        simp only [kgo, b1, cond_true, kan, e1, Option.bind_some, hsub, q, hd, List.all_cons, kbt (n := i) (by omega)]
        cases decide (l[i].depth ≤ k - 1) with
        | true => exact .inl ⟨rfl, by simp⟩
        | false => exact .inr rfl) (by
        have b1 : decide ((l.length : Int) < ((Tm.mk r0 l).args.length : Int)) = false := decide_eq_false (by show ¬ (l.length : Int) < (l.length : Int); omega)
        simp only [kgo, b1, cond_false, List.drop_length, List.all_nil, if_true])
      have hl' : kaa (kgo (Tm.mk r0 l) (k : Int) (kfp n)) fuel 0 = some (if l.all (fun t => decide (t.depth ≤ k - 1)) = true then .inl () else .inr false) := by simpa using hl
      have hall : l.all (fun t => decide (t.depth ≤ k - 1)) = decide ((Tm.mk r0 l).depth ≤ k) := by
        have gen : ∀ l : List Tm, l.all (fun t => decide (t.depth ≤ k - 1)) = decide (Tm.depthL l ≤ k - 1) := fun l => by
          induction l with
          | nil => simp [Tm.depthL]
          | cons x l ih =>
            rw [List.all_cons, ih, ← Bool.decide_and]
            exact decide_eq_decide.2 (by show _ ↔ max x.depth (Tm.depthL l) ≤ k - 1; omega)
        rw [gen]
        exact decide_eq_decide.2 (by omega)
      simp only [cond_false]
      rw [hl', hall, Option.bind_some]
      cases decide ((Tm.mk r0 l).depth ≤ k) <;> rfl
theorem ko6 : ∀ (n : Nat) (l : La) (s : Int) (t : Tm), t.size ≤ 1000 → t.size ≤ n → (∀ x ∈ l.rules, x.kind ≠ 3 → x.args.length = 0) → ∃ c, kcm n l s t = some c ∧ kdd n l s t = some c
  | 0, l, s, t, _, h, _ => by have := Tm.size_pos t; omega
  | n + 1, l, s, t, ht, hn, hr => by
    show ∃ c, kfy (kcm n) l s t = some c ∧ kfa (kdd n) l s t = some c
    obtain ⟨r0, ts⟩ := t
    have hsz : (Tm.mk r0 ts).size = Tm.sizeL ts + 1 := rfl
    have hlen := kiq ts
    unfold kfy kfa
    have hrr : (Tm.mk r0 ts).rule = r0 := rfl
    have haa : (Tm.mk r0 ts).args = ts := rfl
    simp only [hrr, haa]
    by_cases h0 : r0 < 0
    · rw [decide_eq_true h0]; exact ⟨1, rfl, rfl⟩
    by_cases h1 : (l.rules.length : Int) ≤ r0
    · rw [decide_eq_false h0, decide_eq_true h1]; exact ⟨1, rfl, rfl⟩
    rw [decide_eq_false h0, decide_eq_false h1]
    obtain ⟨x, hx, hxm⟩ := krb (xs := l.rules) (i := r0) (by omega) (by omega)
    simp only [cond_false, Option.bind_some, hx]
    cases x.symbol != s with
    | true => exact ⟨3, rfl, rfl⟩
    | false =>
      have har : kfl x = some (x.args.length : Int) := by
        unfold kfl
        by_cases hk : x.kind = 3
        · rw [show (x.kind != 3) = false by rw [bne_eq_false_iff_eq]; exact hk]; rfl
        · rw [show (x.kind != 3) = true by rw [bne_iff_ne]; exact hk, hr x hxm hk]; rfl
      simp only [cond_false, har, Option.bind_some]
      by_cases hl : (ts.length : Int) = (x.args.length : Int)
      · rw [show ((ts.length : Int) != (x.args.length : Int)) = false by rw [bne_eq_false_iff_eq]; exact hl]
        obtain ⟨r, h1, h2⟩ := knb (step := keg l (Tm.mk r0 ts) (kcm n) x) (step' := kd6 l (Tm.mk r0 ts) (kdd n) x) ts.length (by omega) (fun i => (i : Int)) (fun i hi => by
          have e1 : ts[i]? = some ts[i] := List.getElem?_eq_getElem hi
          have hi2 : i < x.args.length := by omega
          have e2 : x.args[i]? = some x.args[i] := List.getElem?_eq_getElem hi2
          have b1 : decide ((i : Int) < (ts.length : Int)) = true := decide_eq_true (by omega)
          have hs := Tm.sizeL_mem (List.getElem_mem hi)
          obtain ⟨c, c1, c2⟩ := ko6 n l x.args[i] ts[i] (by omega) (by omega) hr
          simp only [keg, kd6, haa, b1, cond_true, kan, e1, e2, Option.bind_some, c1, c2, kbt (n := i) (by omega)]
          cases c != 0 with
          | true => exact .inr ⟨_, rfl, rfl⟩
          | false => exact .inl ⟨rfl, rfl⟩) (.inl ()) (by
          have b1 : decide ((ts.length : Int) < (ts.length : Int)) = false := decide_eq_false (by omega)
          simp only [keg, haa, b1, cond_false]) (by
          have b1 : decide ((ts.length : Int) < (ts.length : Int)) = false := decide_eq_false (by omega)
          simp only [kd6, haa, b1, cond_false])
        have h1' : kaa (keg l (Tm.mk r0 ts) (kcm n) x) fuel 0 = some r := by simpa using h1
        have h2' : kaa (kd6 l (Tm.mk r0 ts) (kdd n) x) fuel 0 = some r := by simpa using h2
        simp only [cond_false, h1', h2', Option.bind_some]
        cases r <;> exact ⟨_, rfl, rfl⟩
      · rw [show ((ts.length : Int) != (x.args.length : Int)) = true by rw [bne_iff_ne]; exact hl]
        exact ⟨4, rfl, rfl⟩
theorem kxn (t : Tm) (m : Nat) (hm : m ≤ 10000) : kdj t (m : Int) = some (decide (t.size ≤ m)) := by
  unfold kdj
  rw [(kp3 fuel t m hm (kdk (by omega))).1, Option.bind_some]
  refine congrArg some (decide_eq_decide.2 ?_)
  unfold kd5
  split <;> omega
theorem k3g (l : La) (s : Int) (t : Tm) (hl : kld l) (ht : t.size ≤ 1000) : ∃ c, kh1 l s t = some c ∧ kdx l s t = some c ∧ (c = 0 → kyj l ∧ kcm fuel l s t = some 0) := by
  obtain ⟨c, c1, c2, c3⟩ := kz5 l hl
  unfold kh1 kdx
  rw [c1, c2]
  simp only [Option.bind_some]
  by_cases hc : c = 0
  · subst hc
    have hz : ((0 : Int) != 0) = false := rfl
    rw [hz]
    simp only [cond_false]
    by_cases s0 : s < 0
    · rw [decide_eq_true s0]; exact ⟨1, rfl, rfl, fun h => absurd h (by decide)⟩
    by_cases s1 : (l.symbols.length : Int) ≤ s
    · rw [decide_eq_false s0, decide_eq_true s1]; exact ⟨1, rfl, rfl, fun h => absurd h (by decide)⟩
    have hb : kfg fuel t 4096 = some (kd5 4096 t.size) := (kp3 fuel t 4096 (by omega) (kdk (by omega))).2
    have hw : kdj t 4096 = some (decide (t.size ≤ 4096)) := kxn t 4096 (by omega)
    have hs : kfp fuel t 32 = some (decide (t.depth ≤ 32)) := kuq fuel t 32 (by omega) (by omega) (Nat.le_of_lt (kdk (by omega)))
    have hd := kyy fuel t (by omega) (Nat.le_of_lt (kdk (by omega)))
    have hneg : decide (kd5 4096 t.size < 0) = false := decide_eq_false (by unfold kd5; split <;> omega)
    rw [decide_eq_false s0, decide_eq_false s1]
    simp only [cond_false, Option.bind_some, hb, hw, hs, hd, hneg, decide_eq_true (show t.size ≤ 4096 by omega), Bool.not_true]
    have hde : (!(decide (t.depth ≤ 32))) = decide ((32 : Int) < (t.depth : Int)) := by
      rw [← decide_not]
      exact decide_eq_decide.2 (by omega)
    rw [hde]
    cases decide ((32 : Int) < (t.depth : Int)) with
    | true => exact ⟨2, rfl, rfl, fun h => absurd h (by decide)⟩
    | false =>
      obtain ⟨d, d1, d2⟩ := ko6 fuel l s t (by omega) (Nat.le_of_lt (kdk (by omega))) (fun x hx hk => by rw [((c3 rfl).good x hx).noargs hk]; rfl)
      simp only [cond_false, d1, d2, Option.bind_some]
      exact ⟨d, rfl, rfl, fun h => ⟨c3 rfl, by rw [h]⟩⟩
  · rw [show (c != 0) = true by rw [bne_iff_ne]; exact hc]
    exact ⟨c, rfl, rfl, fun h => absurd h hc⟩
theorem w64n (n : Nat) (h : n ≤ 9223372036854775807) : w64 (n : Int) = n := knd (by omega) (by omega)
theorem w64s (n : Nat) (h : n ≤ 9223372036854775806) : w64 ((n : Int) + 1) = ((n + 1 : Nat) : Int) := kbt (by omega)
theorem km6 {σ β : Type} {st : σ → Option (σ ⊕ β)} {s s' : σ} {n : Nat} (h : st s = some (.inl s')) : kaa st (n + 1) s = kaa st n s' := by rw [kaa, h]
theorem kqx {σ β : Type} {st : σ → Option (σ ⊕ β)} {s : σ} {b : β} {n : Nat} (h : st s = some (.inr b)) : kaa st (n + 1) s = some b := by rw [kaa, h]
def SmallL (l : La) : Prop := l.name.size ≤ 100 ∧ l.inputs.length ≤ 10 ∧ l.symbols.length ≤ 20 ∧ l.rules.length ≤ 100 ∧ (∀ y ∈ l.symbols, y.name.size ≤ 100) ∧ ∀ r ∈ l.rules, r.args.length ≤ 10 ∧ r.op.size ≤ 100 ∧ depV r.const ≤ 4 ∧ ki1 30 r.const
def mk (s : List Bool) (i : Nat) : Bool := s.getD i false
theorem kxl {B C : Nat} (h : B ≤ C) : ∀ x : Va, ki1 B x → ki1 C x
  | .mk t m s l => fun hw => ⟨Nat.le_trans hw.1 h, wides_mono h l hw.2⟩
where
  wides_mono {B C : Nat} (h : B ≤ C) : ∀ l : List Va, kqp B l → kqp C l
  | [], _ => trivial
  | x :: l, hw => ⟨kxl h x hw.1, wides_mono h l hw.2⟩
theorem k7v {α γ : Type} {a b : List α} {g : γ} {step : Int → Option (Int ⊕ (Unit ⊕ γ))} (hl : a.length = b.length) (hn : a.length ≤ 4000000000)
    (hs : ∀ i (h : i < a.length) (h' : i < b.length), ∃ t : Bool, step (i : Int) = (bif t then some (.inr (.inr g)) else some (.inl (w64 ((i : Int) + 1)))) ∧ (t = false ↔ a[i] = b[i])) (he : step (a.length : Int) = some (.inr (.inl ()))) :
    Ev (kaa step fuel 0) fun r => (r = .inl () ∧ a = b) ∨ (r = .inr g ∧ a ≠ b) := by
  refine kok a.length (fun i s => s = (i : Int) ∧ ∀ j (h1 : j < a.length) (h2 : j < b.length), j < i → a[j] = b[j]) (by omega) ⟨rfl, fun j _ _ h => by omega⟩ (fun i s hi ⟨e, h⟩ => ?_) (fun s ⟨e, h⟩ => ?_)
  · subst e
    obtain ⟨t, h1, h2⟩ := hs i hi (by omega)
    rw [h1]
    cases t with
    | true => exact kaf (.inr ⟨rfl, fun hab => by subst hab; exact absurd (h2.2 rfl) (by decide)⟩)
    | false =>
      refine kaf ⟨w64s i (by omega), fun j a1 a2 hj => ?_⟩
      by_cases hji : j = i
      · subst hji; exact h2.1 rfl
      · exact h j a1 a2 (by omega)
  · subst e
    rw [he]
    exact kaf ⟨_, rfl, .inl ⟨rfl, List.ext_getElem hl fun j h1 h2 => h j h1 h2 h1⟩⟩
theorem k1q {α : Type} {a b : List α} : ((a.length : Int) != (b.length : Int)) = !decide (a.length = b.length) := by
  by_cases h : a.length = b.length
  · rw [h]; simp
  · rw [decide_eq_false h, Bool.not_false, bne_iff_ne]; omega
theorem k7z {a b : List Int} (ha : a.length ≤ 4000000000) : Ev (kb9 a b) fun c => c = true ↔ a = b := by
  unfold kb9
  rw [k1q]
  by_cases h : a.length = b.length
  · rw [decide_eq_true h, Bool.not_true, cond_false]
    refine kc8 ((k7v (g := false) h ha (fun i h1 h2 => ⟨a[i] != b[i], ?_, by simp⟩) ?_).mono fun r hr => ?_)
    · simp only [ke2, kd3 h1, cond_true, kan, List.getElem?_eq_getElem h1, List.getElem?_eq_getElem h2, Option.bind_some]
    · simp only [ke2, kjg, cond_false]
    · rcases hr with ⟨rfl, hr⟩ | ⟨rfl, hr⟩
      · exact kaf (by simp [hr])
      · exact kaf (by simp [hr])
  · rw [decide_eq_false h, Bool.not_false, cond_true]
    exact kaf (by simp; intro e; exact h (by rw [e]))
theorem beqB_iff {a b : ByteArray} : (a.toList == b.toList) = true ↔ a = b := by
  rw [beq_iff_eq]
  exact ⟨kjc, fun h => by rw [h]⟩
def modR (r : Ru) : Prop := r.args.length ≤ 4000000000 ∧ okV r.const
theorem kadd {a b : Ru} (h1 : a.symbol = b.symbol) (h2 : a.kind = b.kind) (h3 : a.input = b.input) (h4 : a.op = b.op) (h5 : a.args = b.args) (h6 : a.const = b.const) : a = b := by
  cases a; cases b; simp_all
theorem k60 {a b : Ru} {S : List Int → List Int → Option Bool} {E : Va → Va → Option Bool} (hS : Ev (S a.args b.args) fun c => c = true ↔ a.args = b.args) (hE : E a.const b.const = some (eqV a.const b.const)) :
    Ev (Option.bind ((bif (a.symbol == b.symbol) then (bif (a.kind == b.kind) then (bif (a.input == b.input) then (bif (a.op.toList == b.op.toList) then (Option.bind (S a.args b.args) fun v1 => (bif v1 then (Option.bind (E a.const b.const) fun v2 => (some (v2))) else (some (false)))) else (some (false))) else (some (false))) else (some (false))) else (some (false))) : Option Bool) fun v4 => some v4) fun c => c = true ↔ a = b := by
  refine kc8 ?_
  have hne : ∀ {p : Prop}, ¬ p → (false = true ↔ p) := fun h => by simp [h]
  refine kcw (fun h1 => ?_) fun h1 => kaf (kaf (hne fun e => by subst e; simp at h1))
  refine kcw (fun h2 => ?_) fun h2 => kaf (kaf (hne fun e => by subst e; simp at h2))
  refine kcw (fun h3 => ?_) fun h3 => kaf (kaf (hne fun e => by subst e; simp at h3))
  refine kcw (fun h4 => ?_) fun h4 => kaf (kaf (hne fun e => by subst e; simp at h4))
  refine kc8 (hS.mono fun c hc => ?_)
  refine kcw (fun h5 => ?_) fun h5 => kaf (kaf (hne fun e => by subst e; rw [hc.2 rfl] at h5; cases h5))
  rw [hE]
  refine kaf (kaf ?_)
  rw [k1u]
  exact ⟨fun h6 => kadd (eq_of_beq h1) (eq_of_beq h2) (eq_of_beq h3) (beqB_iff.1 h4) (hc.1 h5) h6, fun e => by rw [e]⟩
theorem k5h {a b : Ru} (ha : modR a) (hb : modR b) : True ∧ (Ev (kcx a b) fun c => c = true ↔ a = b) :=
  ⟨trivial, k60 (S := kb9) (E := kb0) (k7z ha.1) (kta ha.2 hb.2)⟩
structure ModL (l : La) : Prop where
  inputs : l.inputs.length ≤ 4000000000
  symbols : l.symbols.length ≤ 4000000000
  rules : l.rules.length ≤ 4000000000
  mods : ∀ r ∈ l.rules, modR r
theorem SmallL.mod {l : La} (h : SmallL l) : ModL l := by
  obtain ⟨h1, h2, h3, h4, h5, h6⟩ := h
  refine ⟨by omega, by omega, by omega, fun r hr => ?_⟩
  obtain ⟨a1, a2, a3, a4⟩ := h6 r hr
  exact ⟨by omega, by omega, kxl (by omega) _ a4⟩
theorem GoodR.mod {l : La} {r : Ru} (h : GoodR l r) : modR r := ⟨by have := h.few; omega, h.fine⟩
def syD : Sy := ⟨⟨#[]⟩, 0⟩
theorem kpe {β : Type} {step : Int → Option (Int ⊕ β)} {b0 : β} (n : Nat) (hn : n ≤ 9223372036854775807) (G : Nat → Prop) (Bad : β → Prop)
    (hs : ∀ i, i < n → (∀ j, j < i → G j) → Ev (step (i : Int)) fun r => (r = .inl (w64 ((i : Int) + 1)) ∧ G i) ∨ ∃ b, r = .inr b ∧ Bad b ∧ ¬ G i) (he : step (n : Int) = some (.inr b0)) :
    Ev (kaa step fuel 0) fun r => (r = b0 ∧ ∀ i, i < n → G i) ∨ (Bad r ∧ ¬ ∀ i, i < n → G i) := by
  refine kok n (fun i s => s = (i : Int) ∧ ∀ j, j < i → G j) (by omega) ⟨rfl, fun j hj => by omega⟩ (fun i s hi ⟨e, h⟩ => ?_) (fun s ⟨e, h⟩ => ?_)
  · subst e
    obtain ⟨r, h1, h2⟩ := hs i hi h
    rcases h2 with ⟨rfl, h2⟩ | ⟨b, rfl, h2, h3⟩
    · refine ⟨_, h1, w64s i (by omega), fun j hj => ?_⟩
      rcases Nat.lt_succ_iff_lt_or_eq.1 hj with hj | rfl
      · exact h j hj
      · exact h2
    · exact ⟨_, h1, .inr ⟨h2, fun hall => h3 (hall i hi)⟩⟩
  · subst e
    exact ⟨_, he, _, rfl, .inl ⟨rfl, h⟩⟩
def letC (c : UInt8) : Prop := (97 ≤ c.toNat ∧ c.toNat ≤ 122) ∨ (65 ≤ c.toNat ∧ c.toNat ≤ 90)
def digC (c : UInt8) : Prop := 48 ≤ c.toNat ∧ c.toNat ≤ 57
def krk (s : ByteArray) : Prop := (1 ≤ s.size ∧ s.size ≤ 24) ∧ ∀ i (h : i < s.data.toList.length), letC s.data.toList[i] ∨ (0 < i ∧ (s.data.toList[i] = 45 ∨ digC s.data.toList[i]))
theorem kzf {s : ByteArray} (hs : s.size ≤ 9223372036854775807) : Ev (kdc s) fun b => b = true ↔ krk s := by
  unfold kdc
  have hlen : s.data.toList.length = s.size := by rw [← kbq]
  refine kc8 ((kpe (b0 := .inl ()) s.size hs (fun i => ∀ h : i < s.data.toList.length, letC s.data.toList[i] ∨ (0 < i ∧ (s.data.toList[i] = 45 ∨ digC s.data.toList[i]))) (fun b => b = .inr false) (fun i hi _ => ?_) (by simp only [kbz, decide_eq_false (show ¬ ((s.size : Nat) : Int) < (s.size : Int) by omega), cond_false])).mono fun r hr => ?_)
  · have hi' : i < s.data.toList.length := by omega
    have hb : byt s (i : Int) = some ((s.data.toList[i]'hi').toNat : Int) := by rw [kmv, List.getElem?_eq_getElem hi']; rfl
    generalize hc : s.data.toList[i]'hi' = c at hb
    have h45 : (((c.toNat : Int) != 45) = true) ↔ c ≠ 45 := by
      rw [bne_iff_ne]
      refine ⟨fun h e => h (by rw [e]; rfl), fun h e => h (UInt8.toNat_inj.1 (show c.toNat = 45 by omega))⟩
    unfold kbz
    simp only [decide_eq_true (show (i : Int) < (s.size : Int) by omega), cond_true, hb, Option.bind_some]
    have e1 : (bif decide (97 ≤ (c.toNat : Int)) then bif decide ((c.toNat : Int) ≤ 122) then some true else bif decide (65 ≤ (c.toNat : Int)) then some (decide ((c.toNat : Int) ≤ 90)) else some false
        else bif decide (65 ≤ (c.toNat : Int)) then some (decide ((c.toNat : Int) ≤ 90)) else some false : Option Bool) = some (decide ((97 ≤ c.toNat ∧ c.toNat ≤ 122) ∨ (65 ≤ c.toNat ∧ c.toNat ≤ 90))) := by
      rw [show decide (97 ≤ (c.toNat : Int)) = decide (97 ≤ c.toNat) by rw [decide_eq_decide]; omega, show decide ((c.toNat : Int) ≤ 122) = decide (c.toNat ≤ 122) by rw [decide_eq_decide]; omega, show decide (65 ≤ (c.toNat : Int)) = decide (65 ≤ c.toNat) by rw [decide_eq_decide]; omega, show decide ((c.toNat : Int) ≤ 90) = decide (c.toNat ≤ 90) by rw [decide_eq_decide]; omega]
      by_cases q1 : 97 ≤ c.toNat <;> by_cases q2 : c.toNat ≤ 122 <;> by_cases q3 : 65 ≤ c.toNat <;> by_cases q4 : c.toNat ≤ 90 <;> simp [q1, q2, q3, q4] <;> omega
    rw [e1, Option.bind_some]
    by_cases hl : letC c
    · rw [decide_eq_true (show (97 ≤ c.toNat ∧ c.toNat ≤ 122) ∨ (65 ≤ c.toNat ∧ c.toNat ≤ 90) from hl)]
      exact kaf (.inl ⟨rfl, fun _ => by rw [hc]; exact .inl hl⟩)
    · rw [decide_eq_false (show ¬ ((97 ≤ c.toNat ∧ c.toNat ≤ 122) ∨ (65 ≤ c.toNat ∧ c.toNat ≤ 90)) from hl)]
      simp only [Bool.not_false, cond_true]
      by_cases h0 : i = 0
      · subst h0
        simp only [Int.natCast_zero, beq_self_eq_true, cond_true, Option.bind_some]
        refine kaf (.inr ⟨_, rfl, rfl, fun hh => ?_⟩)
        have := hh hi'
        rw [hc] at this
        rcases this with h | ⟨h, _⟩
        · exact hl h
        · omega
      · have hb0 : ((i : Int) == 0) = false := by rw [beq_eq_false_iff_ne]; omega
        simp only [hb0, cond_false]
        by_cases h4 : c = 45
        · have : ((c.toNat : Int) != 45) = false := by rw [h4]; rfl
          simp only [this, cond_false, Option.bind_some]
          exact kaf (.inl ⟨rfl, fun _ => by rw [hc]; exact .inr ⟨by omega, .inl h4⟩⟩)
        · simp only [h45.2 h4, cond_true]
          by_cases q1 : (c.toNat : Int) < 48
          · simp only [decide_eq_true q1, cond_true, Option.bind_some]
            refine kaf (.inr ⟨_, rfl, rfl, fun hh => ?_⟩)
            have := hh hi'
            rw [hc] at this
            rcases this with h | ⟨_, h | h⟩
            · exact hl h
            · exact h4 h
            · have := h.1; omega
          · by_cases q2 : 57 < (c.toNat : Int)
            · simp only [decide_eq_false q1, decide_eq_true q2, cond_false, cond_true, Option.bind_some]
              refine kaf (.inr ⟨_, rfl, rfl, fun hh => ?_⟩)
              have := hh hi'
              rw [hc] at this
              rcases this with h | ⟨_, h | h⟩
              · exact hl h
              · exact h4 h
              · have := h.2; omega
            · simp only [decide_eq_false q1, decide_eq_false q2, cond_false, Option.bind_some]
              exact kaf (.inl ⟨rfl, fun _ => by rw [hc]; exact .inr ⟨by omega, .inr ⟨by omega, by omega⟩⟩⟩)
  · rcases hr with ⟨rfl, hr⟩ | ⟨rfl, hr⟩
    · simp only [Sum.elim_inl]
      have hp : krk s ↔ (1 ≤ s.size ∧ s.size ≤ 24) := ⟨fun h => h.1, fun h => ⟨h, fun i hi => hr i (by omega) hi⟩⟩
      rw [hp]
      refine kc8 (kcw (fun h => kaf (kaf ?_)) fun h => kaf (kaf ?_))
      · have := of_decide_eq_true h
        rw [decide_eq_true_eq]; omega
      · have := of_decide_eq_false h
        simp; omega
    · exact kaf ⟨fun h => by simp at h, fun h => absurd (fun i _ hi' => h.2 i hi') hr⟩
def tyOf (l : La) (a : Int) : Int := (l.symbols.getD a.toNat syD).type
theorem kzg {l : La} {a : Int} (h0 : 0 ≤ a) (h1 : a < (l.symbols.length : Int)) : ∃ x, idx l.symbols a = some x ∧ x.type = tyOf l a := by
  refine ⟨l.symbols[a.toNat]'(by omega), ?_, ?_⟩
  · unfold idx; rw [if_pos h0, List.getElem?_eq_getElem]
  · unfold tyOf; rw [List.getD_eq_getElem?_getD, List.getElem?_eq_getElem (by omega)]; rfl
def ValidR (l : La) (r : Ru) : Prop :=
  (0 ≤ r.symbol ∧ r.symbol < (l.symbols.length : Int)) ∧
  ((r.kind = 1 ∧ r.const = kdz ∧ r.op = ⟨#[]⟩ ∧ r.args = [] ∧ (0 ≤ r.input ∧ r.input < (l.inputs.length : Int)) ∧ l.inputs.getD r.input.toNat 0 = tyOf l r.symbol) ∨
   (r.kind = 2 ∧ r.input = 0 ∧ r.op = ⟨#[]⟩ ∧ r.args = [] ∧ kae fuel r.const = some 0 ∧ r.const.type = tyOf l r.symbol) ∨
   (r.kind = 3 ∧ r.input = 0 ∧ r.const = kdz ∧ ∃ o, kbg r.op = some (o, true) ∧ r.args.length = o.f_Args.length ∧ (∀ i (h : i < r.args.length), (0 ≤ r.args[i] ∧ r.args[i] < (l.symbols.length : Int)) ∧ o.f_Args[i]? = some (tyOf l r.args[i])) ∧ tyOf l r.symbol = o.f_Result))
theorem k0g {x : Va} : eqV x kdz = true ↔ x = kdz := k1u
theorem k15 {s : ByteArray} : (s.toList == (⟨#[]⟩ : ByteArray).toList) = true ↔ s = ⟨#[]⟩ := beqB_iff
theorem k2h {α : Type} {xs : List α} : ((xs.length : Int) == 0) = true ↔ xs = [] := by
  rw [beq_iff_eq]
  cases xs with
  | nil => simp
  | cons x xs => simp; omega
theorem kaaa {a b c : Bool} {p q r : Prop} (ha : a = true ↔ p) (hb : b = true ↔ q) (hc : c = true ↔ r) : Ev (bif a then bif b then some c else some false else some false : Option Bool) fun x => x = true ↔ p ∧ q ∧ r := by
  cases a <;> cases b <;> simp at ha hb <;> refine kaf ?_ <;> simp [ha, hb, hc]
theorem k9j (r : Ru) : Ev (kb4 r) fun b => b = true ↔ (r.kind = 1 ∧ r.const = kdz ∧ r.op = ⟨#[]⟩ ∧ r.args = []) ∨ (r.kind = 2 ∧ r.input = 0 ∧ r.op = ⟨#[]⟩ ∧ r.args = []) ∨ (r.kind ≠ 1 ∧ r.kind ≠ 2 ∧ r.input = 0 ∧ r.const = kdz) := by
  unfold kb4
  rw [knw, Option.bind_some]
  refine kcw (fun h1 => ?_) fun h1 => kcw (fun h2 => ?_) fun h2 => ?_
  · have h1 := eq_of_beq h1
    refine kc8 ((kaaa k0g k15 k2h).mono fun c hc => kaf (hc.trans ?_))
    simp [h1]
  · have h2 := eq_of_beq h2
    refine kc8 ((kaaa beq_iff_eq k15 k2h).mono fun c hc => kaf (hc.trans ?_))
    simp [h2]
  · have h1 : r.kind ≠ 1 := by simpa using h1
    have h2 : r.kind ≠ 2 := by simpa using h2
    refine kc8 (kcw (fun h => kaf (kaf ?_)) fun h => kaf (kaf ?_))
    · have h := eq_of_beq h
      rw [k0g]; simp [h1, h2, h]
    · have h : r.input ≠ 0 := by simpa using h
      simp [h1, h2, h]
theorem out_iff {a n : Int} : Ev (bif decide (a < 0) then some true else some (decide (n ≤ a)) : Option Bool) fun b => b = true ↔ ¬ (0 ≤ a ∧ a < n) := by
  refine kcw (fun h => kaf ?_) fun h => kaf ?_
  · have := of_decide_eq_true h; simp; omega
  · have := of_decide_eq_false h; rw [decide_eq_true_eq]; omega
theorem kgg {c : Int} {p : Prop} (h1 : c ≠ 0) (h2 : ¬ p) : c = 0 ↔ p := ⟨fun h => absurd h h1, fun h => absurd h h2⟩
theorem k9d {l : La} {r : Ru} (ha : r.args.length ≤ 9223372036854775807) (hs : 0 ≤ r.symbol ∧ r.symbol < (l.symbols.length : Int)) : Ev (kb3 l r) fun c => c = 0 ↔ ∃ o, kbg r.op = some (o, true) ∧ r.args.length = o.f_Args.length ∧ (∀ i (h : i < r.args.length), (0 ≤ r.args[i] ∧ r.args[i] < (l.symbols.length : Int)) ∧ o.f_Args[i]? = some (tyOf l r.args[i])) ∧ tyOf l r.symbol = o.f_Result := by
  obtain ⟨⟨o, ok⟩, _, hf⟩ := kxo r.op
  unfold kb3
  rw [hf, Option.bind_some]
  refine kcw (fun h => kaf ?_) fun h => ?_
  · have h : ok = false := by simpa using h
    subst h
    exact kgg (by decide) fun ⟨o', h1, _⟩ => by simp at h1
  have h : ok = true := by simpa using h
  subst h
  rw [k1q]
  refine kcw (fun h => kaf ?_) fun h => ?_
  · have h : ¬ r.args.length = o.f_Args.length := by simpa using h
    exact kgg (by decide) fun ⟨o', h1, h2, _⟩ => by simp at h1; subst h1; exact h h2
  have hl : r.args.length = o.f_Args.length := by simpa using h
  refine kc8 ((kpe (b0 := .inl ()) r.args.length ha (fun i => ∀ h : i < r.args.length, (0 ≤ r.args[i] ∧ r.args[i] < (l.symbols.length : Int)) ∧ o.f_Args[i]? = some (tyOf l r.args[i])) (fun b => ∃ e : Int, b = .inr e ∧ e ≠ 0) (fun i hi _ => ?_) (by simp only [kay, kjg, cond_false])).mono fun v hv => ?_)
  · unfold kay
    simp only [kd3 hi, cond_true, kan, List.getElem?_eq_getElem hi, Option.bind_some]
    refine kc8 (out_iff.mono fun b hb => ?_)
    refine kcw (fun h => kaf (.inr ⟨_, rfl, ⟨1, rfl, by decide⟩, fun hh => hb.1 h (hh hi).1⟩)) fun h => ?_
    have hr : 0 ≤ r.args[i] ∧ r.args[i] < (l.symbols.length : Int) := Classical.byContradiction fun hn => by rw [hb.2 hn] at h; cases h
    obtain ⟨x, hx, hx2⟩ := kzg hr.1 hr.2
    have hi2 : i < o.f_Args.length := by omega
    rw [hx, Option.bind_some, List.getElem?_eq_getElem hi2, Option.bind_some]
    refine kcw (fun h => kaf (.inr ⟨_, rfl, ⟨3, rfl, by decide⟩, fun hh => ?_⟩)) fun h => kaf (.inl ⟨rfl, fun _ => ⟨hr, ?_⟩⟩)
    · have := (hh hi).2
      rw [Option.some.injEq] at this
      rw [hx2, ← this] at h
      simp at h
    · rw [bne_eq_false_iff_eq] at h
      rw [← h, hx2]
  · rcases hv with ⟨rfl, hv⟩ | ⟨⟨e, rfl, he⟩, hv⟩
    · simp only [Sum.elim_inl]
      obtain ⟨x, hx, hx2⟩ := kzg hs.1 hs.2
      rw [hx, Option.bind_some]
      refine kcw (fun h => kaf ?_) fun h => kaf ?_
      · refine kgg (by decide) fun ⟨o', h1, _, _, h4⟩ => ?_
        simp at h1; subst h1
        rw [hx2, h4] at h; simp at h
      · rw [bne_eq_false_iff_eq, hx2] at h
        exact ⟨fun _ => ⟨o, rfl, hl, fun i hi => hv i hi hi, h⟩, fun _ => rfl⟩
    · exact kaf (kgg he fun ⟨o', h1, _, h3, _⟩ => by simp at h1; subst h1; exact hv fun i hi hi' => h3 i hi')
theorem k0x {l : La} {r : Ru} (hr : kpt r) (ha : r.args.length ≤ 9223372036854775807) : Ev (kb5 l r) fun c => c = 0 ↔ ValidR l r := by
  unfold kb5 ValidR
  refine kc8 (out_iff.mono fun b hb => ?_)
  refine kcw (fun h => kaf (kgg (by decide) fun hh => hb.1 h hh.1)) fun h => ?_
  have hs : 0 ≤ r.symbol ∧ r.symbol < (l.symbols.length : Int) := Classical.byContradiction fun hn => by rw [hb.2 hn] at h; cases h
  obtain ⟨z, hz, hz2⟩ := k9j r
  have hform : Ev (bif decide (r.kind < 1) then some true else bif decide (3 < r.kind) then some true else Option.bind (kb4 r) fun v3 => some (!v3) : Option Bool) fun b => b = false ↔ (1 ≤ r.kind ∧ r.kind ≤ 3) ∧ z = true := by
    refine kcw (fun h => kaf ?_) fun h => kcw (fun h2 => kaf ?_) fun h2 => ?_
    · have := of_decide_eq_true h; simp; omega
    · have := of_decide_eq_true h2; simp; omega
    · have := of_decide_eq_false h; have := of_decide_eq_false h2
      rw [hz, Option.bind_some]
      refine kaf ?_
      rw [Bool.not_eq_false']
      exact ⟨fun h => ⟨by omega, h⟩, fun h => h.2⟩
  refine kc8 (hform.mono fun f hf => ?_)
  refine kcw (fun h => kaf (kgg (by decide) fun hh => ?_)) fun h => ?_
  · have hzt : z = true := by
      rw [hz2]
      rcases hh.2 with h | h | h
      · exact .inl ⟨h.1, h.2.1, h.2.2.1, h.2.2.2.1⟩
      · exact .inr (.inl ⟨h.1, h.2.1, h.2.2.1, h.2.2.2.1⟩)
      · exact .inr (.inr ⟨by omega, by omega, h.2.1, h.2.2.1⟩)
    have : f = false := hf.2 ⟨by rcases hh.2 with h | h | h <;> omega, hzt⟩
    rw [this] at h; cases h
  obtain ⟨hk, hzt⟩ := hf.1 h
  have hzt := hz2.1 hzt
  obtain ⟨x, hx, hx2⟩ := kzg hs.1 hs.2
  rw [hx, Option.bind_some]
  refine kcw (fun h1 => ?_) fun h1 => kcw (fun h2 => ?_) fun h2 => ?_
  · have h1 := eq_of_beq h1
    obtain ⟨_, g1, g2, g3⟩ : r.kind = 1 ∧ r.const = kdz ∧ r.op = ⟨#[]⟩ ∧ r.args = [] := by
      rcases hzt with h | h | h
      · exact h
      · have := h.1; omega
      · exact absurd h1 h.1
    refine kc8 (out_iff.mono fun b hb => ?_)
    refine kcw (fun h => kaf (kgg (by decide) fun hh => ?_)) fun h => ?_
    · rcases hh.2 with q | q | q
      · exact hb.1 h q.2.2.2.2.1
      · have := q.1; omega
      · have := q.1; omega
    have hin : 0 ≤ r.input ∧ r.input < (l.inputs.length : Int) := Classical.byContradiction fun hn => by rw [hb.2 hn] at h; cases h
    have hid : idx l.inputs r.input = some (l.inputs.getD r.input.toNat 0) := by
      unfold idx
      rw [if_pos hin.1, List.getD_eq_getElem?_getD, List.getElem?_eq_getElem (by omega)]
      rfl
    rw [hid, Option.bind_some]
    refine kcw (fun h => kaf (kgg (by decide) fun hh => ?_)) fun h => kaf ⟨fun _ => ⟨hs, .inl ⟨h1, g1, g2, g3, hin, ?_⟩⟩, fun _ => rfl⟩
    · rcases hh.2 with q | q | q
      · rw [hx2, q.2.2.2.2.2] at h; simp at h
      · have := q.1; omega
      · have := q.1; omega
    · rw [bne_eq_false_iff_eq, hx2] at h; exact h
  · have h1 : r.kind ≠ 1 := by simpa using h1
    have h2 := eq_of_beq h2
    obtain ⟨_, g1, g2, g3⟩ : r.kind = 2 ∧ r.input = 0 ∧ r.op = ⟨#[]⟩ ∧ r.args = [] := by
      rcases hzt with h | h | h
      · exact absurd h.1 h1
      · exact h
      · exact absurd h2 h.2.1
    obtain ⟨c, c1, c2, _⟩ := kuf hr.2
    rw [c2, Option.bind_some]
    refine kcw (fun h => kaf (kgg (by simpa using h) fun hh => ?_)) fun h => ?_
    · rcases hh.2 with q | q | q
      · exact h1 q.1
      · have := q.2.2.2.2.1
        rw [c1] at this
        rw [Option.some.inj this] at h; simp at h
      · have := q.1; omega
    rw [bne_eq_false_iff_eq] at h
    subst h
    refine kcw (fun h => kaf (kgg (by decide) fun hh => ?_)) fun h => kaf ⟨fun _ => ⟨hs, .inr (.inl ⟨h2, g1, g2, g3, c1, ?_⟩)⟩, fun _ => rfl⟩
    · rcases hh.2 with q | q | q
      · exact h1 q.1
      · rw [hx2, q.2.2.2.2.2] at h; simp at h
      · have := q.1; omega
    · rw [bne_eq_false_iff_eq, hx2] at h; exact h
  · have h1 : r.kind ≠ 1 := by simpa using h1
    have h2 : r.kind ≠ 2 := by simpa using h2
    obtain ⟨_, _, g1, g2⟩ : r.kind ≠ 1 ∧ r.kind ≠ 2 ∧ r.input = 0 ∧ r.const = kdz := by
      rcases hzt with h | h | h
      · exact absurd h.1 h1
      · exact absurd h.1 h2
      · exact h
    refine kc8 ((k9d ha hs).mono fun c hc => kaf (hc.trans ⟨fun h => ⟨hs, .inr (.inr ⟨by omega, g1, g2, h⟩)⟩, fun h => ?_⟩))
    rcases h.2 with q | q | q
    · exact absurd q.1 h1
    · exact absurd q.1 h2
    · exact q.2.2.2
def kt0 (t : Int) : Prop := 1 ≤ t ∧ t ≤ 8
theorem kxv (t : Int) : Ev (ker t) fun b => b = true ↔ kt0 t := by
  rw [ks8]
  exact kaf (by unfold tyB kt0; simp)
structure ValidL (l : La) : Prop where
  name : krk l.name
  inputs : l.inputs.length ≤ 4
  typs : ∀ i (h : i < l.inputs.length), kt0 l.inputs[i]
  sym1 : 1 ≤ l.symbols.length
  sym16 : l.symbols.length ≤ 16
  names : ∀ i (h : i < l.symbols.length), krk l.symbols[i].name
  once : ∀ i j (h : i < l.symbols.length) (h2 : j < l.symbols.length), i < j → l.symbols[i].name ≠ l.symbols[j].name
  types : ∀ i (h : i < l.symbols.length), kt0 l.symbols[i].type
  rules : l.rules.length ≤ 96
  valid : ∀ i (h : i < l.rules.length), ValidR l l.rules[i]
  diff : ∀ i j (h : i < l.rules.length) (h2 : j < l.rules.length), i < j → l.rules[i] ≠ l.rules[j]
theorem kaca {l : La} {i : Nat} (hi : i < l.symbols.length) (hn : l.symbols.length ≤ 9223372036854775807) : Ev (kaa (kbu l (i : Int)) fuel 0) fun (r : Unit ⊕ Int) => (r = .inl () ∧ ∀ k, k < i → ∀ h : k < l.symbols.length, l.symbols[k].name ≠ l.symbols[i].name) ∨ (r = .inr 6 ∧ ¬ ∀ k, k < i → ∀ h : k < l.symbols.length, l.symbols[k].name ≠ l.symbols[i].name) := by
  refine kpe (β := Unit ⊕ Int) (b0 := .inl ()) i (by omega) (fun k => ∀ h : k < l.symbols.length, l.symbols[k].name ≠ l.symbols[i].name) (fun (b : Unit ⊕ Int) => b = .inr 6) (fun k hk _ => ?_) (by simp only [kbu, kjg, cond_false])
  have hk' : k < l.symbols.length := by omega
  unfold kbu
  simp only [kd3 hk, cond_true, kan, List.getElem?_eq_getElem hi, List.getElem?_eq_getElem hk', Option.bind_some]
  refine kcw (fun h => kaf (.inr ⟨_, rfl, rfl, fun hh => hh hk' (beqB_iff.1 h)⟩)) fun h => kaf (.inl ⟨rfl, fun _ e => ?_⟩)
  rw [beqB_iff.2 e] at h; cases h
theorem kaax {l : La} {i : Nat} (hi : i < l.rules.length) (hn : l.rules.length ≤ 9223372036854775807) (hm : ∀ k, k ≤ i → ∀ h : k < l.rules.length, modR l.rules[k]) : Ev (kaa (kbm l (i : Int)) fuel 0) fun (r : Unit ⊕ Int) => (r = .inl () ∧ ∀ k, k < i → ∀ h : k < l.rules.length, l.rules[k] ≠ l.rules[i]) ∨ (r = .inr 6 ∧ ¬ ∀ k, k < i → ∀ h : k < l.rules.length, l.rules[k] ≠ l.rules[i]) := by
  refine kpe (β := Unit ⊕ Int) (b0 := .inl ()) i (by omega) (fun k => ∀ h : k < l.rules.length, l.rules[k] ≠ l.rules[i]) (fun (b : Unit ⊕ Int) => b = .inr 6) (fun k hk _ => ?_) (by simp only [kbm, kjg, cond_false])
  have hk' : k < l.rules.length := by omega
  obtain ⟨c, hc, hc2⟩ := (k5h (hm k (by omega) hk') (hm i (Nat.le_refl _) hi)).2
  unfold kbm
  simp only [kd3 hk, cond_true, kan, List.getElem?_eq_getElem hi, List.getElem?_eq_getElem hk', Option.bind_some, hc]
  refine kcw (fun h => kaf (.inr ⟨_, rfl, rfl, fun hh => hh hk' (hc2.1 h)⟩)) fun h => kaf (.inl ⟨rfl, fun _ e => ?_⟩)
  rw [hc2.2 e] at h; cases h
theorem ValidR.modR {l : La} {r : Ru} (hr : kpt r) (h : ValidR l r) : modR r := by
  obtain ⟨c, hc, hc2⟩ := k0x (l := l) hr (by
    rcases h.2 with q | q | q
    · rw [q.2.2.2.1]; simp
    · rw [q.2.2.2.1]; simp
    · obtain ⟨o, h1, h2, _⟩ := q.2.2.2
      have := ku3 h1 rfl
      simp only at this
      omega)
  rw [hc2.2 h] at hc
  exact (kxz hr hc).mod
theorem k5a {l : La} (hw : kld l) (h1 : l.name.size ≤ 9223372036854775807) (h2 : l.symbols.length ≤ 9223372036854775807) (h3 : ∀ x ∈ l.symbols, x.name.size ≤ 9223372036854775807) (h4 : l.rules.length ≤ 9223372036854775807) (h5 : ∀ r ∈ l.rules, r.args.length ≤ 9223372036854775807) : Ev (kce l) fun c => c = 0 ↔ ValidL l := by
  unfold kce
  refine kc8 ((kzf h1).mono fun b hb => ?_)
  refine kcw (fun h => kaf (kgg (by decide) fun hh => ?_)) fun h => ?_
  · rw [hb.2 hh.name] at h; cases h
  have g1 : krk l.name := hb.1 (by simpa using h)
  refine kcw (fun h => kaf (kgg (by decide) fun hh => ?_)) fun h => ?_
  · have := of_decide_eq_true h; have := hh.inputs; omega
  have g2 := of_decide_eq_false h
  refine kc8 ((kpe (b0 := .inl ()) l.inputs.length (by omega) (fun i => ∀ h : i < l.inputs.length, kt0 l.inputs[i]) (fun b => ∃ e : Int, b = .inr e ∧ e ≠ 0) (fun i hi _ => ?_) (by simp only [kcb, kjg, cond_false])).mono fun v hv => ?_)
  · obtain ⟨t, ht, ht2⟩ := kxv l.inputs[i]
    unfold kcb
    simp only [kd3 hi, cond_true, kan, List.getElem?_eq_getElem hi, Option.bind_some, ht]
    refine kcw (fun h => kaf (.inr ⟨_, rfl, ⟨3, rfl, by decide⟩, fun hh => ?_⟩)) fun h => kaf (.inl ⟨rfl, fun _ => ht2.1 (by simpa using h)⟩)
    rw [ht2.2 (hh hi)] at h; cases h
  rcases hv with ⟨rfl, hv⟩ | ⟨⟨e, rfl, he⟩, hv⟩
  rotate_left
  · exact kaf (kgg he fun hh => hv fun i hi hi' => hh.typs i hi')
  simp only [Sum.elim_inl]
  have hcnt : Ev (bif decide ((l.symbols.length : Int) < 1) then some true else some (decide (16 < (l.symbols.length : Int))) : Option Bool) fun b => b = false ↔ 1 ≤ l.symbols.length ∧ l.symbols.length ≤ 16 := by
    refine kcw (fun h => kaf ?_) fun h => kaf ?_
    · have := of_decide_eq_true h; simp; omega
    · have := of_decide_eq_false h; rw [decide_eq_false_iff_not]; omega
  refine kc8 (hcnt.mono fun b hb => ?_)
  refine kcw (fun h => kaf (kgg (by decide) fun hh => ?_)) fun h => ?_
  · rw [hb.2 ⟨hh.sym1, hh.sym16⟩] at h; cases h
  have g3 := hb.1 h
  refine kc8 ((kpe (b0 := .inl ()) l.symbols.length h2 (fun i => ∀ h : i < l.symbols.length, krk l.symbols[i].name ∧ (∀ k, k < i → ∀ h : k < l.symbols.length, l.symbols[k].name ≠ l.symbols[i].name) ∧ kt0 l.symbols[i].type) (fun b => ∃ e : Int, b = .inr e ∧ e ≠ 0) (fun i hi _ => ?_) (by simp only [kb7, kjg, cond_false])).mono fun v hv2 => ?_)
  · unfold kb7
    simp only [kd3 hi, cond_true, kan, List.getElem?_eq_getElem hi, Option.bind_some]
    refine kc8 ((kzf (h3 _ (List.getElem_mem hi))).mono fun b hb => ?_)
    refine kcw (fun h => kaf (.inr ⟨_, rfl, ⟨5, rfl, by decide⟩, fun hh => ?_⟩)) fun h => ?_
    · rw [hb.2 (hh hi).1] at h; cases h
    refine kc8 ((kaca hi h2).mono fun r hr => ?_)
    rcases hr with ⟨rfl, hr⟩ | ⟨rfl, hr⟩
    rotate_left
    · exact kaf (.inr ⟨_, rfl, ⟨6, rfl, by decide⟩, fun hh => hr (hh hi).2.1⟩)
    simp only [Sum.elim_inl]
    refine kc8 ((kxv _).mono fun c hc => ?_)
    refine kcw (fun h => kaf (.inr ⟨_, rfl, ⟨3, rfl, by decide⟩, fun hh => ?_⟩)) fun h' => kaf (.inl ⟨rfl, fun _ => ⟨hb.1 (by simpa using h), hr, hc.1 (by simpa using h')⟩⟩)
    rw [hc.2 (hh hi).2.2] at h; cases h
  rcases hv2 with ⟨rfl, hv2⟩ | ⟨⟨e, rfl, he⟩, hv2⟩
  rotate_left
  · exact kaf (kgg he fun hh => hv2 fun i hi hi' => ⟨hh.names i hi', fun k hk hk' => hh.once k i hk' hi' hk, hh.types i hi'⟩)
  simp only [Sum.elim_inl]
  refine kcw (fun h => kaf (kgg (by decide) fun hh => ?_)) fun h => ?_
  · have := of_decide_eq_true h; have := hh.rules; omega
  have g4 := of_decide_eq_false h
  refine kc8 ((kpe (b0 := .inl ()) l.rules.length h4 (fun i => ∀ h : i < l.rules.length, ValidR l l.rules[i] ∧ ∀ k, k < i → ∀ h : k < l.rules.length, l.rules[k] ≠ l.rules[i]) (fun b => ∃ e : Int, b = .inr e ∧ e ≠ 0) (fun i hi hall => ?_) (by simp only [kau, kjg, cond_false])).mono fun v hv3 => ?_)
  · have hmem := List.getElem_mem hi
    unfold kau
    simp only [kd3 hi, cond_true, kan, List.getElem?_eq_getElem hi, Option.bind_some]
    refine kc8 ((k0x (l := l) (hw.wide _ hmem) (h5 _ hmem)).mono fun c hc => ?_)
    refine kcw (fun h => kaf (.inr ⟨_, rfl, ⟨c, rfl, by simpa using h⟩, fun hh => ?_⟩)) fun h => ?_
    · rw [hc.2 (hh hi).1] at h; simp at h
    have hvr : ValidR l l.rules[i] := hc.1 (by simpa using h)
    refine kc8 ((kaax hi h4 fun k hk hk' => ?_).mono fun r hr => ?_)
    · have hmk := hw.wide _ (List.getElem_mem hk')
      by_cases hki : k = i
      · subst hki; exact hvr.modR hmk
      · exact (hall k (by omega) hk').1.modR hmk
    rcases hr with ⟨rfl, hr⟩ | ⟨rfl, hr⟩
    · exact kaf (.inl ⟨rfl, fun _ => ⟨hvr, hr⟩⟩)
    · exact kaf (.inr ⟨_, rfl, ⟨6, rfl, by decide⟩, fun hh => hr (hh hi).2⟩)
  rcases hv3 with ⟨rfl, hv3⟩ | ⟨⟨e, rfl, he⟩, hv3⟩
  · refine kaf ⟨fun _ => ⟨g1, by omega, fun i hi => hv i hi hi, g3.1, g3.2, fun i hi => (hv2 i hi hi).1, fun i j hi hj hij => (hv2 j hj hj).2.1 i hij hi, fun i hi => (hv2 i hi hi).2.2, by omega, fun i hi => (hv3 i hi hi).1, fun i j hi hj hij => (hv3 j hj hj).2 i hij hi⟩, fun _ => rfl⟩
  · exact kaf (kgg he fun hh => hv3 fun i hi hi' => ⟨hh.valid i hi', fun k hk hk' => hh.diff k i hk' hi' hk⟩)
def hd : List UInt8 → Int
  | [] => 0
  | c :: _ => (c.toNat : Int)
def decN (n : Nat) : List UInt8 := if h : n < 10 then [UInt8.ofNat (48 + n)] else decN (n / 10) ++ [UInt8.ofNat (48 + n % 10)]
def kjr (n : Int) : List UInt8 := if n < 0 then 45 :: decN n.natAbs else decN n.natAbs
def hexD (n : Nat) : UInt8 := if n < 10 then UInt8.ofNat (48 + n) else UInt8.ofNat (87 + n)
def kwh (c : UInt8) : Bool := decide (32 ≤ c.toNat) && decide (c.toNat ≤ 126)
def escB (c : UInt8) : List UInt8 := if c = 34 ∨ c = 92 then [92, c] else if kwh c = true then [c] else [92, 120, hexD (c.toNat / 16), hexD (c.toNat % 16)]
def kg2 (l : List UInt8) : List UInt8 := 34 :: (l.flatMap escB ++ [34])
def kbp : List (List UInt8) → List UInt8
  | [] => []
  | [x] => x
  | x :: y :: l => x ++ (44 :: 32 :: kbp (y :: l))
mutual
def ka2 : Va → List UInt8
  | .mk t n s l => if t = 1 then (if n = 1 then [116, 114, 117, 101] else [102, 97, 108, 115, 101]) else if t = 2 then kjr n else if t = 4 then [48, 120, hexD (n.toNat / 16), hexD (n.toNat % 16)]
    else if t = 3 then kg2 s.data.toList else if t = 8 then 114 :: kg2 s.data.toList
    else if t = 5 then 91 :: (kbp (kqq l) ++ [93]) else if t = 6 then 123 :: (kbp (kqq l) ++ [125]) else 60 :: (kbp (kqq l) ++ [62])
def kqq : List Va → List (List UInt8)
  | [] => []
  | v :: l => ka2 v :: kqq l
end
def dig (c : UInt8) : Prop := 48 ≤ (c.toNat : Int) ∧ (c.toNat : Int) ≤ 57
def valD (n : Int) (ds : List UInt8) : Int := ds.foldl (fun a c => a * 10 + ((c.toNat : Int) - 48)) n
theorem kqd {n : Nat} (h : n < 256) : (UInt8.ofNat n).toNat = n := by simp [UInt8.toNat_ofNat, Nat.mod_eq_of_lt h]
theorem kabi (n : Nat) : ∃ d ds, decN n = d :: ds ∧ (∀ c ∈ d :: ds, dig c) ∧ valD ((d.toNat : Int) - 48) ds = n ∧ (0 < n → 48 < d.toNat) ∧ ∀ k, 0 < k → n < 10 ^ k → ds.length < k := by
  induction n using Nat.strongRecOn with
  | ind n ih =>
    rw [decN]
    by_cases h : n < 10
    · rw [dif_pos h]
      have e : (UInt8.ofNat (48 + n)).toNat = 48 + n := kqd (by omega)
      refine ⟨_, [], rfl, fun c hc => ?_, ?_, fun h0 => by rw [e]; omega, fun k hk _ => hk⟩
      · rcases List.mem_cons.1 hc with rfl | hc
        · unfold dig; rw [e]; omega
        · cases hc
      · show ((UInt8.ofNat (48 + n)).toNat : Int) - 48 = n
        rw [e]; omega
    · rw [dif_neg h]
      obtain ⟨d, ds, h1, h2, h3, h4, h5⟩ := ih (n / 10) (by omega)
      have e : (UInt8.ofNat (48 + n % 10)).toNat = 48 + n % 10 := kqd (by omega)
      refine ⟨d, ds ++ [UInt8.ofNat (48 + n % 10)], by rw [h1]; rfl, fun c hc => ?_, ?_, fun h0 => h4 (by omega), fun k hk hlt => ?_⟩
      · rw [← List.cons_append] at hc
        rcases List.mem_append.1 hc with hc | hc
        · exact h2 c hc
        · rcases List.mem_cons.1 hc with rfl | hc
          · unfold dig; rw [e]; omega
          · cases hc
      · unfold valD at h3 ⊢
        rw [List.foldl_append, h3]
        show (((n / 10 : Nat) : Int)) * 10 + (((UInt8.ofNat (48 + n % 10)).toNat : Int) - 48) = n
        rw [e]; omega
      · obtain ⟨j, rfl⟩ : ∃ j, k = j + 1 := ⟨k - 1, by omega⟩
        have hj : 0 < j := by
          rcases Nat.eq_zero_or_pos j with rfl | hj
          · simp at hlt; omega
          · exact hj
        have := h5 j hj (by rw [Nat.pow_succ] at hlt; omega)
        rw [List.length_append, List.length_singleton]; omega
theorem k85 (s : ByteArray) : toBA (s.data.toList.map fun c => (c.toNat : Int)) = s := by
  have key : ∀ (l : List UInt8) (r : ByteArray), (l.map fun c => (c.toNat : Int)).foldl (fun r n => r.push (UInt8.ofNat n.toNat)) r = ⟨r.data ++ l.toArray⟩ := by
    intro l
    induction l with
    | nil => intro r; simp
    | cons c l ih =>
      intro r
      rw [List.map_cons, List.foldl_cons, ih]
      simp [ByteArray.push]
  unfold toBA
  rw [key]
  cases s
  simp [ByteArray.empty, ByteArray.emptyWithCapacity]
  try rfl
def kmc {α : Type} (sh : α → List UInt8) (l : List α) : List UInt8 := l.flatMap fun v => 44 :: 32 :: sh v
theorem kn9 {α : Type} (sh : α → List UInt8) : ∀ (l : List α) (v : α), kbp ((v :: l).map sh) = sh v ++ kmc sh l
  | [], v => by simp [kbp, kmc]
  | w :: l, v => by
    have := kn9 sh l w
    rw [List.map_cons] at this
    rw [List.map_cons, List.map_cons, kbp, this]
    simp [kmc]
def ky6 (least most : Nat) (s : ByteArray) : Prop := least ≤ s.size ∧ s.size ≤ most ∧ ∀ c ∈ s.data.toList, kwh c = true
def kys (v : Va) : Prop := ∃ n, v = Va.mk 2 n ⟨#[]⟩ [] ∧ -1000000 ≤ n ∧ n ≤ 1000000
def kyn (v : Va) : Prop := ∃ s, v = Va.mk 3 0 s [] ∧ ky6 0 64 s
def kyq (lo hi : Nat) (v : Va) : Prop := ∃ l, v = Va.mk 6 0 ⟨#[]⟩ l ∧ lo ≤ l.length ∧ l.length ≤ hi ∧ ∀ x ∈ l, kyn x
def klg (v : Va) : Prop :=
  (v = Va.mk 1 0 ⟨#[]⟩ [] ∨ v = Va.mk 1 1 ⟨#[]⟩ []) ∨ kys v ∨ (∃ n, v = Va.mk 4 n ⟨#[]⟩ [] ∧ 0 ≤ n ∧ n ≤ 255) ∨ kyn v ∨ (∃ s, v = Va.mk 8 0 s [] ∧ ky6 1 40 s) ∨
  (∃ l, v = Va.mk 5 0 ⟨#[]⟩ l ∧ l.length ≤ 16 ∧ ∀ x ∈ l, kys x) ∨ kyq 0 16 v ∨
  (∃ l, v = Va.mk 7 0 ⟨#[]⟩ l ∧ l.length ≤ 8 ∧ ∃ m, 1 ≤ m ∧ m ≤ 8 ∧ ∀ x ∈ l, kyq m m x)
theorem kvr : ∀ l : List Va, kqq l = l.map ka2
  | [] => rfl
  | v :: l => by rw [kqq, kvr l]; rfl
def kor (c : Int) : Bool := decide (32 ≤ c) && decide (c ≤ 126)
def atI (s : ByteArray) (i : Nat) : Int := hd (s.data.toList.drop i)
theorem at_lt {s : ByteArray} {i : Nat} (h : i < s.size) : byt s (i : Int) = some (atI s i) ∧ s.data.toList.drop i = (s.data.toList[i]'(by rw [← kbq]; exact h)) :: s.data.toList.drop (i + 1) ∧ atI s i = ((s.data.toList[i]'(by rw [← kbq]; exact h)).toNat : Int) := by
  have h' : i < s.data.toList.length := by rw [← kbq]; exact h
  have d := List.drop_eq_getElem_cons h'
  refine ⟨?_, d, ?_⟩
  · rw [kmv, List.getElem?_eq_getElem h', atI, d]; rfl
  · rw [atI, d]; rfl
def wl (w : ByteArray) : List Int := w.data.toList.map fun c => (c.toNat : Int)
theorem k6i {a b : ByteArray} (h : a.data.toList = b.data.toList) : a = b := by
  cases a; cases b; congr 1; exact Array.toList_inj.1 h
theorem k0h (c : Int) : khy c = some (kor c) := by
  unfold khy kor
  cases decide (32 ≤ c) <;> cases decide (c ≤ 126) <;> rfl
theorem ky3 (s : ByteArray) (a b : Nat) : (s.extract a b).data.toList = (s.data.toList.take b).drop a := by
  simp [ByteArray.data_extract, Array.toList_extract, List.drop_take]
def iB (l : List UInt8) : List Int := l.map fun c => (c.toNat : Int)
def mkB (l : List UInt8) : ByteArray := ⟨l.toArray⟩
theorem kpj (l : List UInt8) : (mkB l).data.toList = l := by simp [mkB]
theorem kr6 (l : List UInt8) : (mkB l).size = l.length := by rw [kbq, kpj]
theorem k3b (a b : List UInt8) : mkB a ++ mkB b = mkB (a ++ b) := by
  apply k6i
  rw [kpj]
  simp [ByteArray.data_append, mkB]
theorem kw1 (l : List UInt8) : toBA (iB l) = mkB l := by
  have := k85 (mkB l)
  rwa [kpj] at this
theorem kxp (a b : List UInt8) : iB a ++ iB b = iB (a ++ b) := by simp [iB]
theorem kwg (l : List UInt8) : (iB l).length = l.length := by simp [iB]
theorem kyz (l : List UInt8) : ofBA (mkB l) = iB l := by unfold ofBA iB; rw [kpj]
theorem kadf (c : UInt8) : ([(c.toNat : Int)] : List Int) = iB [c] := rfl
theorem kog {acc : List UInt8} {c : UInt8} {n : Int} (hn : n = (c.toNat : Int)) (h : acc.length ≤ 4000000000) : kao (iB acc) n = some (iB (acc ++ [c])) := by
  subst hn
  have := kacr (b := 1) (xs := iB acc) (ys := [(c.toNat : Int)]) (by rw [kwg]; simp; omega)
  simp only [kao, kcu, Option.bind_some, this]
  rw [kadf, kxp]
theorem kkj {acc l : List UInt8} {s : ByteArray} (hs : s = mkB l) (h : acc.length ≤ 4000000000) (hl : l.length ≤ 4000000000) : kaj (iB acc) s = some (iB (acc ++ l)) := by
  subst hs
  have : appS (iB acc) (mkB l) = some (iB (acc ++ l)) := by
    unfold appS
    rw [kwg, kr6, if_pos (by omega), kyz, kxp]
  simp only [kaj, kcu, Option.bind_some, this]
theorem kqw (c : UInt8) : byt (⟨#[48, 49, 50, 51, 52, 53, 54, 55, 56, 57, 97, 98, 99, 100, 101, 102]⟩ : ByteArray) (Int.fdiv (c.toNat : Int) (2 ^ (4 : Nat))) = some ((hexD (c.toNat / 16)).toNat : Int) ∧
    byt (⟨#[48, 49, 50, 51, 52, 53, 54, 55, 56, 57, 97, 98, 99, 100, 101, 102]⟩ : ByteArray) (iand .u8 (c.toNat : Int) 15) = some ((hexD (c.toNat % 16)).toNat : Int) ∧
    kci (w64 (Int.tdiv (c.toNat : Int) 16)) = some (mkB [hexD (c.toNat / 16)]) ∧ kci (Int.tmod (c.toNat : Int) 16) = some (mkB [hexD (c.toNat % 16)]) := by
  have key : ∀ n : Fin 256, byt (⟨#[48, 49, 50, 51, 52, 53, 54, 55, 56, 57, 97, 98, 99, 100, 101, 102]⟩ : ByteArray) (Int.fdiv ((n.val : Nat) : Int) (2 ^ (4 : Nat))) = some ((hexD (n.val / 16)).toNat : Int) ∧
    byt (⟨#[48, 49, 50, 51, 52, 53, 54, 55, 56, 57, 97, 98, 99, 100, 101, 102]⟩ : ByteArray) (iand .u8 ((n.val : Nat) : Int) 15) = some ((hexD (n.val % 16)).toNat : Int) := by decide
  have key2 : ∀ n : Fin 256, kci (w64 (Int.tdiv ((n.val : Nat) : Int) 16)) = some (mkB [hexD (n.val / 16)]) ∧ kci (Int.tmod ((n.val : Nat) : Int) 16) = some (mkB [hexD (n.val % 16)]) := by decide
  have hc := c.toNat_lt
  exact ⟨(key ⟨c.toNat, hc⟩).1, (key ⟨c.toNat, hc⟩).2, (key2 ⟨c.toNat, hc⟩).1, (key2 ⟨c.toNat, hc⟩).2⟩
theorem k1h {acc : List UInt8} {c : UInt8} {n : Int} (hn : n = (c.toNat : Int)) (h : acc.length ≤ 3000000000) : kej (iB acc) n = some (iB (acc ++ [hexD (c.toNat / 16), hexD (c.toNat % 16)])) := by
  subst hn
  have h1 := kog (acc := acc) (c := hexD (c.toNat / 16)) rfl (by omega)
  have h2 := kog (acc := acc ++ [hexD (c.toNat / 16)]) (c := hexD (c.toNat % 16)) rfl (by simp; omega)
  rw [List.append_assoc] at h2
  simp only [kej, (kqw c).1, (kqw c).2.1, Option.bind_some, h1, h2]
  rfl
def hex4 (c : UInt8) : List UInt8 := [92, 120, hexD (c.toNat / 16), hexD (c.toNat % 16)]
theorem k81 (v : List UInt8) (hv : v.length ≤ 1000000) : ∀ (k m : Nat) (acc : List UInt8) (n : Nat), m + k = v.length → k < n → acc.length + 4 * k ≤ 2000000000 →
    kaa (kgj (iB v)) n ((m : Int), iB acc) = some (iB (acc ++ (v.drop m).flatMap hex4)) := by
  intro k
  induction k with
  | zero =>
    intro m acc n hm hn hl
    obtain ⟨n, rfl⟩ : ∃ j, n = j + 1 := ⟨n - 1, by omega⟩
    rw [List.drop_eq_nil_of_le (by omega)]
    refine kqx ?_
    have : decide ((m : Int) < ((iB v).length : Int)) = false := decide_eq_false (by rw [kwg]; omega)
    simp only [kgj, this, cond_false]
    simp
  | succ k ih =>
    intro m acc n hm hn hl
    obtain ⟨n, rfl⟩ : ∃ j, n = j + 1 := ⟨n - 1, by omega⟩
    have hml : m < v.length := by omega
    rw [List.drop_eq_getElem_cons hml, List.flatMap_cons, ← List.append_assoc, ← ih (m + 1) (acc ++ hex4 v[m]) n (by omega) (by omega) (by simp [hex4]; omega)]
    refine km6 ?_
    have d1 : decide ((m : Int) < ((iB v).length : Int)) = true := decide_eq_true (by rw [kwg]; omega)
    have e1 : idx (iB v) (m : Int) = some (v[m].toNat : Int) := by rw [kan]; simp [iB, hml]
    have h1 := kkj (acc := acc) (l := [92, 120]) (s := ⟨#[92, 120]⟩) rfl (by omega) (by decide)
    have h2 := k1h (acc := acc ++ [92, 120]) (c := v[m]) rfl (by simp; omega)
    rw [List.append_assoc] at h2
    simp only [kgj, d1, cond_true, e1, Option.bind_some, h1, h2, w64s m (by omega)]
    rfl
theorem k50 {s : ByteArray} {j : Nat} (h : j < s.size) : (s.get! j).toNat = (s.data.toList[j]'(by rw [← kbq]; exact h)).toNat := by
  obtain ⟨a⟩ := s
  have h' : j < a.size := h
  show (a[j]!).toNat = _
  rw [getElem!_pos a j h']
  rfl
theorem k28 (n b0 b1 b2 b3 : Nat) (hn : 1 ≤ n) (h0 : 128 ≤ b0) : 128 ≤ (Lib.decodeN n b0 b1 b2 b3).1 ∧ 1 ≤ (Lib.decodeN n b0 b1 b2 b3).2 ∧ (Lib.decodeN n b0 b1 b2 b3).2 ≤ n ∧ (Lib.decodeN n b0 b1 b2 b3).2 ≤ 4 ∧ (2 ≤ (Lib.decodeN n b0 b1 b2 b3).2 → 128 ≤ b1) ∧ (3 ≤ (Lib.decodeN n b0 b1 b2 b3).2 → 128 ≤ b2) ∧ (4 ≤ (Lib.decodeN n b0 b1 b2 b3).2 → 128 ≤ b3) := by
  unfold Lib.decodeN
  repeat' split
  all_goals refine ⟨?_, ?_, ?_, ?_, ?_, ?_, ?_⟩
  all_goals (simp only; omega)
theorem k7e : ∀ n : Fin 256, idx gt2 ((n.val : Nat) : Int) = some (Lib.firstT n.val : Int) ∧ w64 (iand .u8 (Lib.firstT n.val : Int) 7) = ((Lib.firstT n.val % 8 : Nat) : Int) ∧
    (Lib.firstT n.val < 240 → (idx gt3 (Int.fdiv (Lib.firstT n.val : Int) (2 ^ (4 : Nat)))).map (fun r => (r.f_lo, r.f_hi)) = some ((Lib.accLo (Lib.firstT n.val / 16) : Int), (Lib.accHi (Lib.firstT n.val / 16) : Int))) ∧ (Lib.firstT n.val < 240 ∨ Lib.firstT n.val = 240 ∨ Lib.firstT n.val = 241) ∧ (Lib.firstT n.val < 240 → 2 ≤ Lib.firstT n.val % 8 ∧ Lib.firstT n.val % 8 ≤ 4) := by decide
theorem kace (n b0 b1 b2 b3 sz lo hi : Nat) : (Lib.slowN n b0 b1 b2 b3 sz lo hi).2 = if n < sz then 1 else if b1 < lo ∨ hi < b1 then 1 else if sz ≤ 2 then 2 else if b2 < 128 ∨ 191 < b2 then 1 else if sz ≤ 3 then 3 else if b3 < 128 ∨ 191 < b3 then 1 else 4 := by
  unfold Lib.slowN
  repeat' split
  all_goals first | rfl | omega
theorem kaai {s : ByteArray} (hs : s.size ≤ 1000000) {i : Nat} (hi : i < s.size) : ∃ t r, cutS s (i : Int) (s.size : Int) = some t ∧ kbi t = some (r, ((Utf8.decode s i).2 : Int)) := by
  have hd : (s.extract i s.size).data.toList = s.data.toList.drop i := by
    rw [ky3, List.take_of_length_le (by rw [← kbq]; exact Nat.le_refl _)]
  generalize ht : s.extract i s.size = t at hd
  have hsz : t.size = s.size - i := by rw [kbq, hd, List.length_drop, ← kbq]
  have hcut : cutS s (i : Int) (s.size : Int) = some t := by unfold cutS; rw [if_pos ⟨by omega, by omega, by omega⟩, ← ht]; rfl
  have hb : ∀ k : Nat, i + k < s.size → byt t (k : Int) = some ((s.get! (i + k)).toNat : Int) := fun k hk => by
    rw [kmv, hd, List.getElem?_drop, List.getElem?_eq_getElem (by rw [← kbq]; exact hk), k50 hk]
    rfl
  have hlt : ∀ k : Nat, (s.get! k).toNat < 256 := fun k => UInt8.toNat_lt _
  rw [Lib.decode_at]
  have b0 := hb 0 (by omega)
  have hb1 := hb 1
  have hb2 := hb 2
  have hb3 := hb 3
  rw [Nat.add_zero] at b0
  have h0 := hlt i
  have h1 := hlt (i + 1)
  have h2 := hlt (i + 2)
  have h3 := hlt (i + 3)
  generalize (s.get! i).toNat = c0 at *
  generalize (s.get! (i + 1)).toNat = c1 at *
  generalize (s.get! (i + 2)).toNat = c2 at *
  generalize (s.get! (i + 3)).toNat = c3 at *
  refine ⟨t, ?_⟩
  have hne : (!(t.toList == (⟨#[]⟩ : ByteArray).toList)) = true := by
    rw [Bool.not_eq_true', beq_eq_false_iff_ne]
    intro h
    have := congrArg ByteArray.size (kjc h)
    rw [hsz, show (⟨#[]⟩ : ByteArray).size = 0 from rfl] at this
    omega
  have b0' : byt t 0 = some (c0 : Int) := b0
  by_cases ha : c0 < 128
  · have d1 : decide ((c0 : Int) < 128) = true := decide_eq_true (by omega)
    have : Lib.decodeN (s.size - i) c0 c1 c2 c3 = (c0, 1) := by unfold Lib.decodeN; rw [if_pos ha]
    rw [this]
    exact ⟨_, hcut, by simp only [kbi, hne, cond_true, b0', Option.bind_some, d1]; rfl⟩
  · have d1 : decide ((c0 : Int) < 128) = false := decide_eq_false (by omega)
    obtain ⟨f1, f2, f3, f4, f5⟩ := k7e ⟨c0, h0⟩
    simp only at f1 f2 f3 f4 f5
    have d2 : decide ((t.size : Int) < 1) = false := decide_eq_false (by omega)
    have goal : ∀ r, (∃ a, kam t = some (a, (r : Int))) → ∃ a, cutS s (i : Int) (s.size : Int) = some t ∧ kbi t = some (a, (r : Int)) := fun r ⟨a, h⟩ =>
      ⟨a, hcut, by simp only [kbi, hne, cond_true, b0', Option.bind_some, d1, cond_false, h]⟩
    refine goal _ ?_
    rcases f4 with f4 | f4
    · have e := Lib.slow_eq (s.size - i) c0 c1 c2 c3 (by omega) h1 h2 h3 f4
      rw [← e, kace]
      have d3 : decide ((240 : Int) ≤ (Lib.firstT c0 : Int)) = false := decide_eq_false (by omega)
      obtain ⟨v4, g, g'⟩ := Option.map_eq_some_iff.1 (f3 f4)
      obtain ⟨glo, ghi⟩ := Prod.mk.inj g'
      obtain ⟨g1, g2⟩ := f5 f4
      generalize Lib.firstT c0 % 8 = sz at *
      generalize Lib.accLo (Lib.firstT c0 / 16) = lo at *
      generalize Lib.accHi (Lib.firstT c0 / 16) = hi' at *
      by_cases k1 : s.size - i < sz
      · rw [if_pos k1]
        have d4 : decide ((t.size : Int) < (sz : Int)) = true := decide_eq_true (by omega)
        exact ⟨65533, by simp only [kam, d2, cond_false, b0', Option.bind_some, f1, d3, g, glo, ghi, f2, d4, cond_true]; rfl⟩
      · rw [if_neg k1]
        have d4 : decide ((t.size : Int) < (sz : Int)) = false := decide_eq_false (by omega)
        have b1' : byt t 1 = some (c1 : Int) := hb1 (by omega)
        have c1b : (bif (decide ((c1 : Int) < (lo : Int))) then (some (true)) else (some ((decide ((hi' : Int) < (c1 : Int))))) : Option Bool) = some (decide (c1 < lo ∨ hi' < c1)) := by
          by_cases q : c1 < lo
          · rw [decide_eq_true (show (c1 : Int) < (lo : Int) by omega), decide_eq_true (show c1 < lo ∨ hi' < c1 from .inl q)]; rfl
          · rw [decide_eq_false (show ¬ (c1 : Int) < (lo : Int) by omega), cond_false]
            congr 1
            by_cases q' : hi' < c1
            · rw [decide_eq_true (show (hi' : Int) < (c1 : Int) by omega), decide_eq_true (show c1 < lo ∨ hi' < c1 from .inr q')]
            · rw [decide_eq_false (show ¬ (hi' : Int) < (c1 : Int) by omega), decide_eq_false (by omega)]
        by_cases k2 : c1 < lo ∨ hi' < c1
        · rw [if_pos k2]
          exact ⟨65533, by simp only [kam, d2, cond_false, b0', Option.bind_some, f1, d3, g, glo, ghi, f2, d4, b1', c1b, decide_eq_true k2, cond_true]; rfl⟩
        · rw [if_neg k2]
          by_cases k3 : sz ≤ 2
          · rw [if_pos k3]
            have d5 : decide ((sz : Int) ≤ 2) = true := decide_eq_true (by omega)
            exact ⟨_, by simp only [kam, d2, cond_false, b0', Option.bind_some, f1, d3, g, glo, ghi, f2, d4, b1', c1b, decide_eq_false k2, d5, cond_true]; rfl⟩
          · rw [if_neg k3]
            have d5 : decide ((sz : Int) ≤ 2) = false := decide_eq_false (by omega)
            have b2' : byt t 2 = some (c2 : Int) := hb2 (by omega)
            have c2b : ∀ c : Nat, (bif (decide ((c : Int) < 128)) then (some (true)) else (some ((decide (191 < (c : Int))))) : Option Bool) = some (decide (c < 128 ∨ 191 < c)) := fun c => by
              by_cases q : c < 128
              · rw [decide_eq_true (show (c : Int) < 128 by omega), decide_eq_true (show c < 128 ∨ 191 < c from .inl q)]; rfl
              · rw [decide_eq_false (show ¬ (c : Int) < 128 by omega), cond_false]
                congr 1
                by_cases q' : 191 < c
                · rw [decide_eq_true (show 191 < (c : Int) by omega), decide_eq_true (show c < 128 ∨ 191 < c from .inr q')]
                · rw [decide_eq_false (show ¬ 191 < (c : Int) by omega), decide_eq_false (by omega)]
            by_cases k4 : c2 < 128 ∨ 191 < c2
            · rw [if_pos k4]
              exact ⟨65533, by simp only [kam, d2, cond_false, b0', Option.bind_some, f1, d3, g, glo, ghi, f2, d4, b1', c1b, decide_eq_false k2, d5, b2', c2b, decide_eq_true k4, cond_true]; rfl⟩
            · rw [if_neg k4]
              by_cases k5 : sz ≤ 3
              · rw [if_pos k5]
                have d6 : decide ((sz : Int) ≤ 3) = true := decide_eq_true (by omega)
                exact ⟨_, by simp only [kam, d2, cond_false, b0', Option.bind_some, f1, d3, g, glo, ghi, f2, d4, b1', c1b, decide_eq_false k2, d5, b2', c2b, decide_eq_false k4, d6, cond_true]; rfl⟩
              · rw [if_neg k5]
                have d6 : decide ((sz : Int) ≤ 3) = false := decide_eq_false (by omega)
                have b3' : byt t 3 = some (c3 : Int) := hb3 (by omega)
                by_cases k6 : c3 < 128 ∨ 191 < c3
                · rw [if_pos k6]
                  exact ⟨65533, by simp only [kam, d2, cond_false, b0', Option.bind_some, f1, d3, g, glo, ghi, f2, d4, b1', c1b, decide_eq_false k2, d5, b2', c2b, decide_eq_false k4, d6, b3', decide_eq_true k6, cond_true]; rfl⟩
                · rw [if_neg k6]
                  exact ⟨_, by simp only [kam, d2, cond_false, b0', Option.bind_some, f1, d3, g, glo, ghi, f2, d4, b1', c1b, decide_eq_false k2, d5, b2', c2b, decide_eq_false k4, d6, b3', decide_eq_false k6]; rfl⟩
    · have : (Lib.decodeN (s.size - i) c0 c1 c2 c3).2 = 1 := by
        rcases f4 with f4 | f4
        · rw [Lib.ascii_eq _ _ _ _ _ f4]
        · rw [Lib.bad_eq _ _ _ _ _ h0 f4]
      rw [this]
      have d3 : decide ((240 : Int) ≤ (Lib.firstT c0 : Int)) = true := decide_eq_true (by omega)
      exact ⟨_, by simp only [kam, d2, cond_false, b0', Option.bind_some, f1, d3, cond_true]; rfl⟩
theorem k5z {s : ByteArray} {i w : Nat} (h : i + w ≤ s.size) : cutS s (i : Int) ((i + w : Nat) : Int) = some (mkB ((s.data.toList.drop i).take w)) := by
  unfold cutS
  rw [if_pos ⟨by omega, by omega, by omega⟩]
  congr 1
  apply k6i
  rw [kpj, show ((i : Int).toNat) = i from rfl, show (((i + w : Nat) : Int).toNat) = i + w from rfl, ky3, List.drop_take]
  congr 1
  omega
theorem kac1 {l : List UInt8} (h : l.length ≤ 4000000000) : s2b (mkB l) = some (iB l) := by
  unfold s2b
  rw [kr6, if_pos (by omega), kyz]
theorem kacf {s : ByteArray} {i : Nat} (hi : i < s.size) (c : UInt8) (hc : s.data.toList[i]? = some c) : (c.toNat < 128 ∧ Utf8.decode s i = (c.toNat, 1)) ∨
    (128 ≤ c.toNat ∧ 128 ≤ (Utf8.decode s i).1 ∧ 1 ≤ (Utf8.decode s i).2 ∧ i + (Utf8.decode s i).2 ≤ s.size ∧ ∀ x ∈ (s.data.toList.drop i).take (Utf8.decode s i).2, 128 ≤ x.toNat) := by
  have hg : ∀ k : Nat, i + k < s.size → ∀ x, s.data.toList[i + k]? = some x → (s.get! (i + k)).toNat = x.toNat := fun k hk x hx => by
    rw [k50 hk]
    rw [List.getElem?_eq_getElem (by rw [← kbq]; exact hk)] at hx
    rw [Option.some.inj hx]
  have h0 := hg 0 hi c hc
  rw [Nat.add_zero] at h0
  rw [Lib.decode_at, h0]
  by_cases h : c.toNat < 128
  · exact .inl ⟨h, by unfold Lib.decodeN; rw [if_pos h]⟩
  · obtain ⟨k1, k2, k3, k4, k5, k6, k7⟩ := k28 (s.size - i) c.toNat (s.get! (i + 1)).toNat (s.get! (i + 2)).toNat (s.get! (i + 3)).toNat (by omega) (by omega)
    refine .inr ⟨by omega, k1, k2, by omega, fun x hx => ?_⟩
    obtain ⟨k, hk⟩ := List.mem_iff_getElem?.1 hx
    rw [List.getElem?_take] at hk
    split at hk
    · rename_i hkw
      rw [List.getElem?_drop] at hk
      have hks : i + k < s.size := by omega
      have := hg k hks x hk
      rcases (by omega : k = 0 ∨ k = 1 ∨ k = 2 ∨ k = 3) with rfl | rfl | rfl | rfl
      · rw [Nat.add_zero, hc] at hk; cases hk; omega
      · rw [← this]; exact k5 (by omega)
      · rw [← this]; exact k6 (by omega)
      · rw [← this]; exact k7 (by omega)
    · cases hk
theorem kxg {c : UInt8} (h1 : c.toNat ≠ 34) (h2 : c.toNat ≠ 92) (h3 : ¬ (32 ≤ c.toNat ∧ c.toNat ≤ 126)) : escB c = hex4 c := by
  unfold escB hex4
  rw [if_neg (by rintro (rfl | rfl) <;> simp_all), if_neg (by unfold kwh; simpa using h3)]
theorem kx9 {c : UInt8} (h1 : c.toNat ≠ 34) (h2 : c.toNat ≠ 92) (h3 : 32 ≤ c.toNat ∧ c.toNat ≤ 126) : escB c = [c] := by
  unfold escB
  rw [if_neg (by rintro (rfl | rfl) <;> simp_all), if_pos (by unfold kwh; simpa using h3)]
theorem k9v {c : UInt8} (h : c.toNat = 34 ∨ c.toNat = 92) : escB c = [92, c] := by
  unfold escB
  rw [if_pos]
  rcases h with h | h
  · exact .inl (UInt8.toNat.inj h)
  · exact .inr (UInt8.toNat.inj h)
theorem k72 {l : List UInt8} (h : ∀ x ∈ l, escB x = hex4 x) : l.flatMap escB = l.flatMap hex4 := by
  induction l with
  | nil => rfl
  | cons x l ih => rw [List.flatMap_cons, List.flatMap_cons, h x (List.mem_cons_self ..), ih fun y hy => h y (List.mem_cons_of_mem _ hy)]
theorem kw0 (c : UInt8) : wu8 ((c.toNat : Nat) : Int) = (c.toNat : Int) := by
  have := c.toNat_lt
  simp [wu8, IntKind.wrap, IntKind.signed, IntKind.bits, IntKind.min, IntKind.max]
  omega
theorem k32 {s : ByteArray} (hs : s.size ≤ 100000) : ∀ (d i : Nat) (acc : List UInt8) (n : Nat), s.size - i = d → i ≤ s.size → d < n → acc.length + 4 * d ≤ 1000000000 →
    kaa (kem s) n (iB acc, i) = some (iB (acc ++ (s.data.toList.drop i).flatMap escB)) := by
  intro d
  induction d using Nat.strongRecOn with
  | ind d ih =>
    intro i acc n hd hi hn hl
    obtain ⟨n, rfl⟩ : ∃ m, n = m + 1 := ⟨n - 1, by omega⟩
    by_cases h : i < s.size
    · have hil : i < s.data.toList.length := by rw [← kbq]; exact h
      have hdr := List.drop_eq_getElem_cons hil
      have hget : s.data.toList[i]? = some s.data.toList[i] := List.getElem?_eq_getElem hil
      generalize s.data.toList[i] = c at hdr hget
      have d1 : decide (i < ByteArray.size s) = true := decide_eq_true h
      have hdec := kacf h c hget
      by_cases hq : c.toNat = 34 ∨ c.toNat = 92
      · obtain ⟨g1, g2⟩ : c.toNat < 128 ∧ Utf8.decode s i = (c.toNat, 1) := by
          rcases hdec with hdec | hdec
          · exact hdec
          · omega
        rw [hdr, List.flatMap_cons, k9v hq, ← List.append_assoc, ← ih (d - 1) (by omega) (i + 1) (acc ++ [92, c]) n (by omega) (by omega) (by omega) (by simp; omega)]
        refine km6 ?_
        have e1 : (bif (((c.toNat : Nat) : Int) == 34) then (some (true)) else (some (((c.toNat : Nat) : Int) == 92)) : Option Bool) = some true := by rcases hq with hq | hq <;> rw [hq] <;> rfl
        have w1 := kog (acc := acc) (c := 92) (n := 92) rfl (by omega)
        have w2 := kog (acc := acc ++ [92]) (c := c) rfl (by simp; omega)
        rw [List.append_assoc] at w2
        simp only [kem, d1, cond_true, g2, e1, Option.bind_some, w1, kw0, w2]
        rfl
      · have e1 : ∀ r : Nat, r ≠ 34 → r ≠ 92 → (bif (((r : Nat) : Int) == 34) then (some (true)) else (some (((r : Nat) : Int) == 92)) : Option Bool) = some false := fun r h1 h2 => by
          rw [show ((r : Int) == 34) = false by rw [beq_eq_false_iff_ne]; omega, show ((r : Int) == 92) = false by rw [beq_eq_false_iff_ne]; omega]; rfl
        by_cases hp : 32 ≤ c.toNat ∧ c.toNat ≤ 126
        · obtain ⟨g1, g2⟩ : c.toNat < 128 ∧ Utf8.decode s i = (c.toNat, 1) := by
            rcases hdec with hdec | hdec
            · exact hdec
            · omega
          have hpl : kor (c.toNat : Int) = true := by unfold kor; simp; omega
          rw [hdr, List.flatMap_cons, kx9 (by omega) (by omega) hp, ← List.append_assoc, ← ih (d - 1) (by omega) (i + 1) (acc ++ [c]) n (by omega) (by omega) (by omega) (by simp; omega)]
          refine km6 ?_
          have w2 := kog (acc := acc) (c := c) rfl (by omega)
          simp only [kem, d1, cond_true, g2, e1 c.toNat (by omega) (by omega), Option.bind_some, cond_false, k0h, hpl, kw0, w2]
        · obtain ⟨t, r, ht1, ht2⟩ := kaai (by omega) h
          -- what is escaped
          obtain ⟨q1, q2, q3, q4, q5⟩ : (Utf8.decode s i).1 ≠ 34 ∧ (Utf8.decode s i).1 ≠ 92 ∧ kor ((Utf8.decode s i).1 : Int) = false ∧ (1 ≤ (Utf8.decode s i).2 ∧ i + (Utf8.decode s i).2 ≤ s.size) ∧ ∀ x ∈ (s.data.toList.drop i).take (Utf8.decode s i).2, escB x = hex4 x := by
            rcases hdec with ⟨g1, g2⟩ | ⟨g1, g2, g3, g4, g5⟩
            · rw [g2]
              refine ⟨by omega, by omega, by unfold kor; simp; omega, ⟨by omega, by show i + 1 ≤ _; omega⟩, fun x hx => ?_⟩
              rw [hdr] at hx
              simp at hx
              rw [hx]
              exact kxg (by omega) (by omega) hp
            · exact ⟨by omega, by omega, by unfold kor; simp; omega, ⟨g3, g4⟩, fun x hx => kxg (by have := g5 x hx; omega) (by have := g5 x hx; omega) (by have := g5 x hx; omega)⟩
          obtain ⟨r', w, hrw⟩ : ∃ r' w, Utf8.decode s i = (r', w) := ⟨_, _, rfl⟩
          rw [hrw] at q1 q2 q3 q4 q5 ht2
          simp only at q1 q2 q3 q4 q5 ht2
          have hsplit : s.data.toList.drop i = (s.data.toList.drop i).take w ++ s.data.toList.drop (i + w) := by
            rw [← List.drop_drop, List.take_append_drop]
          have hlen : ((s.data.toList.drop i).take w).length = w := by rw [List.length_take, List.length_drop, ← kbq]; omega
          have hflat : (((s.data.toList.drop i).take w).flatMap hex4).length ≤ 4 * w := by
            have gen : ∀ l : List UInt8, (l.flatMap hex4).length = 4 * l.length := fun l => by
              induction l with
              | nil => rfl
              | cons x l ih => rw [List.flatMap_cons, List.length_append, ih, List.length_cons]; simp [hex4]; omega
            rw [gen, hlen]
            exact Nat.le_refl _
          rw [hsplit, List.flatMap_append, k72 q5, ← List.append_assoc, ← ih (d - w) (by omega) (i + w) (acc ++ ((s.data.toList.drop i).take w).flatMap hex4) n (by omega) (by omega) (by omega) (by simp only [List.length_append]; omega)]
          refine km6 ?_
          have ew : w64 ((i : Int) + (w : Int)) = ((i + w : Nat) : Int) := by rw [← w64n (i + w) (by omega)]; congr 1
          have hx := k81 ((s.data.toList.drop i).take w) (by omega) w 0 acc fuel (by omega) (kdk (by omega)) (by omega)
          rw [List.drop_zero] at hx
          simp only [kem, d1, cond_true, hrw, e1 r' q1 q2, Option.bind_some, cond_false, k0h, q3, ht1, ht2, ew, k5z q4.2, kac1 (l := (s.data.toList.drop i).take w) (by omega)]
          rw [show (0 : Int) = ((0 : Nat) : Int) from rfl, hx]
          rfl
    · rw [List.drop_eq_nil_of_le (by rw [← kbq]; omega)]
      refine kqx ?_
      have d1 : decide (i < ByteArray.size s) = false := decide_eq_false h
      simp only [kem, d1, cond_false]
      simp
theorem k1p (c : UInt8) : (escB c).length ≤ 4 := by unfold escB; split <;> (try split) <;> simp
theorem kvm (l : List UInt8) : (l.flatMap escB).length ≤ 4 * l.length := by
  induction l with
  | nil => exact Nat.le_refl _
  | cons x l ih => rw [List.flatMap_cons, List.length_append, List.length_cons]; have := k1p x; omega
theorem kzx {s : ByteArray} (hs : s.size ≤ 100000) : kh0 s = some (mkB (kg2 s.data.toList)) := by
  have h1 := kog (acc := []) (c := 34) (n := 34) rfl (by simp)
  have h2 := k32 hs (s.size - 0) 0 [34] fuel rfl (by omega) (kdk (by omega)) (by simp; omega)
  have hl := kvm s.data.toList
  rw [← kbq] at hl
  rw [List.drop_zero] at h2
  have h3 := kog (acc := [34] ++ s.data.toList.flatMap escB) (c := 34) (n := 34) rfl (by simp only [List.length_append, List.length_singleton]; omega)
  have h1' : kao [] 34 = some (iB [34]) := h1
  simp only [kh0, h1', Option.bind_some, h2, h3, kbj, kw1]
  unfold kg2
  simp
theorem kd4 {a b : List UInt8} (h : a.length + b.length ≤ 4000000000) : cat (mkB a) (mkB b) = some (mkB (a ++ b)) := by
  rw [kacm (by rw [kr6, kr6]; omega), k3b]
theorem k1c {s : ByteArray} (hs : s.size ≤ 100000) : ∀ (d i : Nat) (acc : List UInt8) (n : Nat), i + d = s.size → d < n → acc.length + 4 * d ≤ 1000000000 →
    kaa (kb8 s) n (mkB acc, (i : Int)) = some (mkB (acc ++ (s.data.toList.drop i).flatMap escB)) := by
  intro d
  induction d with
  | zero =>
    intro i acc n hd hn hl
    obtain ⟨n, rfl⟩ : ∃ m, n = m + 1 := ⟨n - 1, by omega⟩
    rw [List.drop_eq_nil_of_le (by rw [← kbq]; omega)]
    refine kqx ?_
    have d1 : decide ((i : Int) < (s.size : Int)) = false := decide_eq_false (by omega)
    simp only [kb8, d1, cond_false]
    simp
  | succ d ih =>
    intro i acc n hd hn hl
    obtain ⟨n, rfl⟩ : ∃ m, n = m + 1 := ⟨n - 1, by omega⟩
    have h : i < s.size := by omega
    obtain ⟨b1, b2, b3⟩ := at_lt h
    generalize s.data.toList[i]'(by rw [← kbq]; exact h) = c at b2 b3
    have hcut : cutS s (i : Int) ((i + 1 : Nat) : Int) = some (mkB [c]) := by rw [k5z (by omega), b2]; rfl
    have hw : w64 (c.toNat : Int) = (c.toNat : Int) := by have := c.toNat_lt; exact knd (by omega) (by omega)
    rw [b2, List.flatMap_cons, ← List.append_assoc, ← ih (i + 1) (acc ++ escB c) n (by omega) (by omega) (by have := k1p c; simp only [List.length_append]; omega)]
    refine km6 ?_
    by_cases hq : c.toNat = 34 ∨ c.toNat = 92
    · have e1 : (bif ((c.toNat : Int) == 34) then (some (true)) else (some ((c.toNat : Int) == 92)) : Option Bool) = some true := by rcases hq with hq | hq <;> rw [hq] <;> rfl
      have c1 : cat (mkB acc) (⟨#[92]⟩ : ByteArray) = some (mkB (acc ++ [92])) := kd4 (b := [92]) (by simp; omega)
      have c2 := kd4 (a := acc ++ [92]) (b := [c]) (by simp; omega)
      rw [List.append_assoc] at c2
      simp only [kb8, kd3 h, cond_true, b1, b3, Option.bind_some, e1, c1, w64s i (by omega), hcut, c2, k9v hq]
      rfl
    · have e1 : (bif ((c.toNat : Int) == 34) then (some (true)) else (some ((c.toNat : Int) == 92)) : Option Bool) = some false := by
        rw [show ((c.toNat : Int) == 34) = false by rw [beq_eq_false_iff_ne]; omega, show ((c.toNat : Int) == 92) = false by rw [beq_eq_false_iff_ne]; omega]; rfl
      by_cases hp : 32 ≤ c.toNat ∧ c.toNat ≤ 126
      · have e2 : (bif (decide ((c.toNat : Int) < 32)) then (some (true)) else (some ((decide (126 < (c.toNat : Int))))) : Option Bool) = some false := by
          rw [decide_eq_false (by omega), decide_eq_false (by omega)]; rfl
        simp only [kb8, kd3 h, cond_true, cond_false, b1, b3, hw, Option.bind_some, e1, e2, w64s i (by omega), hcut, kd4 (a := acc) (b := [c]) (by simp; omega), kx9 (show c.toNat ≠ 34 by omega) (by omega) hp]
      · have e2 : (bif (decide ((c.toNat : Int) < 32)) then (some (true)) else (some ((decide (126 < (c.toNat : Int))))) : Option Bool) = some true := by
          by_cases q : c.toNat < 32
          · rw [decide_eq_true (by omega)]; rfl
          · rw [decide_eq_false (by omega), decide_eq_true (by omega)]; rfl
        have c1 : cat (mkB acc) (⟨#[92, 120]⟩ : ByteArray) = some (mkB (acc ++ [92, 120])) := kd4 (b := [92, 120]) (by simp; omega)
        have c2 := kd4 (a := acc ++ [92, 120]) (b := [hexD (c.toNat / 16)]) (by simp; omega)
        have c3 := kd4 (a := acc ++ [92, 120] ++ [hexD (c.toNat / 16)]) (b := [hexD (c.toNat % 16)]) (by simp; omega)
        simp only [kb8, kd3 h, cond_true, cond_false, b1, b3, hw, Option.bind_some, e1, e2, w64s i (by omega), c1, (kqw c).2.2.1, (kqw c).2.2.2, c2, c3, kxg (show c.toNat ≠ 34 by omega) (by omega) hp]
        simp [hex4]
theorem kxm {s : ByteArray} (hs : s.size ≤ 100000) : keo s = some (mkB (kg2 s.data.toList)) := by
  have h2 := k1c hs s.size 0 [34] fuel (by omega) (kdk (by omega)) (by simp; omega)
  have hl := kvm s.data.toList
  rw [← kbq] at hl
  rw [List.drop_zero] at h2
  have h2' : kaa (kb8 s) fuel ((⟨#[34]⟩ : ByteArray), 0) = some (mkB ([34] ++ s.data.toList.flatMap escB)) := h2
  have h3 : cat (mkB ([34] ++ s.data.toList.flatMap escB)) (⟨#[34]⟩ : ByteArray) = some (mkB ([34] ++ s.data.toList.flatMap escB ++ [34])) := kd4 (b := [34]) (by simp only [List.length_append, List.length_singleton]; omega)
  simp only [keo, h2', Option.bind_some, h3]
  unfold kg2
  simp
theorem kto (n : Nat) : Lib.decDigits n = decN n := by
  induction n using Nat.strongRecOn with
  | ind n ih =>
    rw [Lib.decDigits, decN]
    split
    · rfl
    · rw [ih (n / 10) (by omega)]
theorem ky0 {n : Int} (h1 : -9223372036854775808 ≤ n) (h2 : n ≤ 9223372036854775807) : kuc n 10 = some (mkB (kjr n)) := by
  unfold kuc
  rw [if_pos ⟨rfl, h1, h2⟩]
  congr 1
  unfold mkB Lib.itoa kjr
  split
  · rw [kto]
  · rw [kto, show n.toNat = n.natAbs by omega]
theorem kuv (n : Nat) (h : n < 100000000000) : (decN n).length ≤ 11 := by
  obtain ⟨d, ds, h1, _, _, _, h5⟩ := kabi n
  rw [h1, List.length_cons]
  have := h5 11 (by omega) (by simpa using h)
  omega
theorem ky8 {m : Int} (h0 : 0 ≤ m) (h1 : m ≤ 9) : toBA [wu8 (w64 (48 + m))] = mkB [UInt8.ofNat (48 + m.toNat)] := by
  rcases (by omega : m = 0 ∨ m = 1 ∨ m = 2 ∨ m = 3 ∨ m = 4 ∨ m = 5 ∨ m = 6 ∨ m = 7 ∨ m = 8 ∨ m = 9) with rfl | rfl | rfl | rfl | rfl | rfl | rfl | rfl | rfl | rfl <;> rfl
theorem k77 : ∀ (m : Nat) (tl : List UInt8) (n : Nat), m < 9223372036854775807 → m < n → tl.length + (decN m).length ≤ 1000000 →
    ∃ d : Nat, ∃ t : List UInt8, d ≤ 9 ∧ kaa kc9 n ((m : Int), mkB tl) = some ((d : Int), mkB t) ∧ [UInt8.ofNat (48 + d)] ++ t = decN m ++ tl := by
  intro m
  induction m using Nat.strongRecOn with
  | ind m ih =>
    intro tl n hm hn hl
    obtain ⟨n, rfl⟩ : ∃ j, n = j + 1 := ⟨n - 1, by omega⟩
    by_cases h : m < 10
    · have d1 : decide ((10 : Int) ≤ (m : Int)) = false := decide_eq_false (by omega)
      refine ⟨m, tl, by omega, kqx (by simp only [kc9, d1, cond_false]), ?_⟩
      rw [decN, dif_pos h]
    · have d1 : decide ((10 : Int) ≤ (m : Int)) = true := decide_eq_true (by omega)
      have e0 : decN m = decN (m / 10) ++ [UInt8.ofNat (48 + m % 10)] := by rw [decN, dif_neg h]
      rw [e0] at hl ⊢
      simp only [List.length_append, List.length_singleton] at hl
      obtain ⟨d, t, h1, h2, h3⟩ := ih (m / 10) (by omega) (UInt8.ofNat (48 + m % 10) :: tl) n (by omega) (by omega) (by simp; omega)
      refine ⟨d, t, h1, ?_, by rw [h3]; simp⟩
      rw [← h2]
      refine km6 ?_
      have e1 : Int.tmod (m : Int) 10 = ((m % 10 : Nat) : Int) := rfl
      have e2 : w64 (Int.tdiv (m : Int) 10) = ((m / 10 : Nat) : Int) := by
        rw [show Int.tdiv (m : Int) 10 = ((m / 10 : Nat) : Int) from rfl]
        exact knd (by omega) (by omega)
      have e3 := ky8 (m := ((m % 10 : Nat) : Int)) (by omega) (by omega)
      have e4 := kd4 (a := [UInt8.ofNat (48 + m % 10)]) (b := tl) (by simp; omega)
      rw [show (((m % 10 : Nat) : Int)).toNat = m % 10 from rfl] at e3
      simp only [kc9, d1, cond_true, e1, e2, e3, Option.bind_some, e4]
      rfl
theorem kup (k : Nat) (m : Nat) (h : m < 100000000000) : kby (k + 1) (m : Int) = some (mkB (decN m)) := by
  show kco (kby k) (m : Int) = _
  have d1 : decide ((m : Int) < 0) = false := decide_eq_false (by omega)
  have hl := kuv m h
  obtain ⟨d, t, h1, h2, h3⟩ := k77 m [] fuel (by omega) (kdk (by omega)) (by simp; omega)
  have h2' : kaa kc9 fuel ((m : Int), (⟨#[]⟩ : ByteArray)) = some ((d : Int), mkB t) := h2
  rw [List.append_nil] at h3
  have e3 := ky8 (m := (d : Int)) (by omega) (by omega)
  rw [show ((d : Int)).toNat = d from rfl] at e3
  have hl2 := congrArg List.length h3
  simp only [List.length_append, List.length_singleton] at hl2
  simp only [kco, d1, cond_false, h2', Option.bind_some, e3, kd4 (a := [UInt8.ofNat (48 + d)]) (b := t) (by simp; omega), h3]
theorem kww {n : Int} (h1 : -1000000 ≤ n) (h2 : n ≤ 1000000) : kby fuel n = some (mkB (kjr n)) := by
  rw [knk]
  unfold kjr
  by_cases h : n < 0
  · rw [if_pos h]
    show kco (kby 18446744073709551615) n = _
    have d1 : decide (n < 0) = true := decide_eq_true h
    have ew : w64 (0 - n) = (n.natAbs : Int) := by rw [show 0 - n = (n.natAbs : Int) by omega]; exact knd (by omega) (by omega)
    have hp := kup 18446744073709551614 n.natAbs (by omega)
    have hl := kuv n.natAbs (by omega)
    have hc : cat (⟨#[45]⟩ : ByteArray) (mkB (decN n.natAbs)) = some (mkB ([45] ++ decN n.natAbs)) := kd4 (a := [45]) (by simp; omega)
    simp only [kco, d1, cond_true, ew, hp, Option.bind_some, hc]
    rfl
  · rw [if_neg h]
    have := kup 18446744073709551615 n.natAbs (by omega)
    rwa [show ((n.natAbs : Nat) : Int) = n by omega] at this
theorem kp0 (v : Va) (l : List Va) : kmc ka2 (v :: l) = [44, 32] ++ ka2 v ++ kmc ka2 l := by simp [kmc]
theorem ky9 {B : Nat} : ∀ (l : List Va), (∀ x ∈ l, (ka2 x).length ≤ B) → (kmc ka2 l).length ≤ l.length * (B + 2)
  | [], _ => Nat.zero_le _
  | v :: l, h => by
    rw [kp0]
    have h1 := h v (List.mem_cons_self ..)
    have h2 := ky9 l fun x hx => h x (List.mem_cons_of_mem _ hx)
    simp only [List.length_append, List.length_cons, List.length_nil]
    rw [Nat.add_mul, Nat.one_mul]
    omega
theorem kxr {B : Nat} (l : List Va) (h : ∀ x ∈ l, (ka2 x).length ≤ B) : (kbp (l.map ka2)).length ≤ l.length * (B + 2) := by
  cases l with
  | nil => exact Nat.zero_le _
  | cons v l =>
    have := ky9 (v :: l) h
    rw [kp0] at this
    rw [kn9]
    simp only [List.length_append] at this ⊢
    omega
theorem kss {l : List Va} {B C : Nat} (hC : C ≤ 3000000000) {r22 : List Int → List Va → Option (List Int)} (hl : l.length ≤ 1000) (hB : B ≤ 100000) (hb : ∀ x ∈ l, (ka2 x).length ≤ B)
    (H : ∀ x ∈ l, ∀ acc : List UInt8, acc.length ≤ C → kb6 r22 (iB acc) x = some (iB (acc ++ ka2 x))) :
    ∀ (k m : Nat) (acc : List UInt8) (n : Nat), m + k = l.length → k < n → acc.length + k * (B + 2) ≤ C →
    kaa (kcs l r22) n ((m : Int), iB acc) = some (iB (acc ++ if m = 0 then kbp (l.map ka2) else kmc ka2 (l.drop m))) := by
  intro k
  induction k with
  | zero =>
    intro m acc n hm hn ha
    obtain ⟨n, rfl⟩ : ∃ j, n = j + 1 := ⟨n - 1, by omega⟩
    have d1 : decide ((m : Int) < (l.length : Int)) = false := decide_eq_false (by omega)
    refine kqx ?_
    simp only [kcs, d1, cond_false]
    by_cases h : m = 0
    · rw [if_pos h, List.eq_nil_of_length_eq_zero (by omega : l.length = 0)]
      simp [kbp]
    · rw [if_neg h, List.drop_eq_nil_of_le (by omega)]
      simp [kmc]
  | succ k ih =>
    intro m acc n hm hn ha
    obtain ⟨n, rfl⟩ : ∃ j, n = j + 1 := ⟨n - 1, by omega⟩
    have hml : m < l.length := by omega
    have e1 : idx l (m : Int) = some l[m] := by rw [kan, List.getElem?_eq_getElem hml]
    have hx := List.getElem_mem hml
    have hB' := hb _ hx
    rw [Nat.add_mul, Nat.one_mul] at ha
    by_cases h : m = 0
    · subst h
      have d2 : decide ((0 : Int) < ((0 : Nat) : Int)) = false := rfl
      have w := H _ hx acc (by omega)
      have hc : l.map ka2 = (l[0] :: l.drop 1).map ka2 := by rw [List.getElem_cons_drop, List.drop_zero]
      rw [if_pos rfl, hc, kn9, ← List.append_assoc]
      have := ih 1 (acc ++ ka2 l[0]) n (by omega) (by omega) (by simp only [List.length_append]; omega)
      rw [if_neg (by omega)] at this
      rw [← this]
      refine km6 ?_
      simp only [kcs, kd3 hml, cond_true, e1, Option.bind_some, d2, cond_false, w, w64s 0 (by omega)]
    · have d2 : decide ((0 : Int) < (m : Int)) = true := decide_eq_true (by omega)
      have w1 := kkj (acc := acc) (l := [44, 32]) (s := ⟨#[44, 32]⟩) rfl (by omega) (by decide)
      have w := H _ hx (acc ++ [44, 32]) (by simp only [List.length_append, List.length_cons, List.length_nil]; omega)
      rw [if_neg h, List.drop_eq_getElem_cons hml, kp0, ← List.append_assoc, ← List.append_assoc]
      have := ih (m + 1) (acc ++ [44, 32] ++ ka2 l[m]) n (by omega) (by omega) (by simp only [List.length_append, List.length_cons, List.length_nil]; omega)
      rw [if_neg (by omega)] at this
      rw [← this]
      refine km6 ?_
      simp only [kcs, kd3 hml, cond_true, e1, Option.bind_some, d2, w1, w, w64s m (by omega)]
theorem k6t {l : List Va} {B : Nat} {r29 : Va → Option ByteArray} (hl : l.length ≤ 1000) (hB : B ≤ 100000) (hb : ∀ x ∈ l, (ka2 x).length ≤ B) (H : ∀ x ∈ l, r29 x = some (mkB (ka2 x))) :
    ∀ (k m : Nat) (acc : List UInt8) (n : Nat), m + k = l.length → k < n → acc.length + k * (B + 2) ≤ 1000000000 →
    kaa (kc6 l r29) n (mkB acc, (m : Int)) = some (mkB (acc ++ if m = 0 then kbp (l.map ka2) else kmc ka2 (l.drop m))) := by
  intro k
  induction k with
  | zero =>
    intro m acc n hm hn ha
    obtain ⟨n, rfl⟩ : ∃ j, n = j + 1 := ⟨n - 1, by omega⟩
    have d1 : decide ((m : Int) < (l.length : Int)) = false := decide_eq_false (by omega)
    refine kqx ?_
    simp only [kc6, d1, cond_false]
    by_cases h : m = 0
    · rw [if_pos h, List.eq_nil_of_length_eq_zero (by omega : l.length = 0)]
      simp [kbp]
    · rw [if_neg h, List.drop_eq_nil_of_le (by omega)]
      simp [kmc]
  | succ k ih =>
    intro m acc n hm hn ha
    obtain ⟨n, rfl⟩ : ∃ j, n = j + 1 := ⟨n - 1, by omega⟩
    have hml : m < l.length := by omega
    have e1 : idx l (m : Int) = some l[m] := by rw [kan, List.getElem?_eq_getElem hml]
    have hx := List.getElem_mem hml
    have hB' := hb _ hx
    have w := H _ hx
    rw [Nat.add_mul, Nat.one_mul] at ha
    by_cases h : m = 0
    · subst h
      have d2 : decide ((0 : Int) < ((0 : Nat) : Int)) = false := rfl
      have hc : l.map ka2 = (l[0] :: l.drop 1).map ka2 := by rw [List.getElem_cons_drop, List.drop_zero]
      rw [if_pos rfl, hc, kn9, ← List.append_assoc]
      have := ih 1 (acc ++ ka2 l[0]) n (by omega) (by omega) (by simp only [List.length_append]; omega)
      rw [if_neg (by omega)] at this
      rw [← this]
      refine km6 ?_
      simp only [kc6, kd3 hml, cond_true, e1, Option.bind_some, d2, cond_false, w, kd4 (a := acc) (b := ka2 l[0]) (by omega), w64s 0 (by omega)]
    · have d2 : decide ((0 : Int) < (m : Int)) = true := decide_eq_true (by omega)
      have c1 : cat (mkB acc) (⟨#[44, 32]⟩ : ByteArray) = some (mkB (acc ++ [44, 32])) := kd4 (b := [44, 32]) (by simp; omega)
      have c2 := kd4 (a := acc ++ [44, 32]) (b := ka2 l[m]) (by simp only [List.length_append, List.length_cons, List.length_nil]; omega)
      rw [if_neg h, List.drop_eq_getElem_cons hml, kp0, ← List.append_assoc, ← List.append_assoc]
      have := ih (m + 1) (acc ++ [44, 32] ++ ka2 l[m]) n (by omega) (by omega) (by simp only [List.length_append, List.length_cons, List.length_nil]; omega)
      rw [if_neg (by omega)] at this
      rw [← this]
      refine km6 ?_
      simp only [kc6, kd3 hml, cond_true, e1, Option.bind_some, d2, c1, c2, w, w64s m (by omega)]
def okW (C B n m : Nat) (v : Va) : Prop := (∀ acc : List UInt8, acc.length ≤ C → kb6 (kbe n) (iB acc) v = some (iB (acc ++ ka2 v))) ∧ ka4 m v = some (mkB (ka2 v)) ∧ (ka2 v).length ≤ B
theorem k1k {C B n m : Nat} (hC : C ≤ 3000000000) {l : List Va} (hl : l.length ≤ 1000) (hB : B ≤ 100000) (h : ∀ x ∈ l, okW C B n m x) (acc : List UInt8) (ha : acc.length + 110000000 ≤ C) :
    kbe (n + 1) (iB acc) l = some (iB (acc ++ kbp (l.map ka2))) ∧ kcq (m + 1) l = some (mkB (kbp (l.map ka2))) := by
  have hk : l.length * (B + 2) ≤ 1000 * (100000 + 2) := Nat.mul_le_mul hl (by omega)
  have h1 := kss hC (r22 := kbe n) hl hB (fun x hx => (h x hx).2.2) (fun x hx => (h x hx).1) l.length 0 acc fuel (by omega) (kdk (by omega)) (by omega)
  have h2 := k6t (r29 := ka4 m) hl hB (fun x hx => (h x hx).2.2) (fun x hx => (h x hx).2.1) l.length 0 [] fuel (by omega) (kdk (by omega)) (by simp; omega)
  rw [if_pos rfl] at h1 h2
  constructor
  · show kdw (kbe n) (iB acc) l = _
    have h1' : kaa (kcs l (kbe n)) fuel (0, iB acc) = some (iB (acc ++ kbp (l.map ka2))) := h1
    simp only [kdw, h1', Option.bind_some]
  · show kfb (ka4 m) (kcq m) l = _
    have h2' : kaa (kc6 l (ka4 m)) fuel ((⟨#[]⟩ : ByteArray), 0) = some (mkB (kbp (l.map ka2))) := h2
    simp only [kfb, h2', Option.bind_some]
theorem kpy {n : Int} (h1 : -1000000 ≤ n) (h2 : n ≤ 1000000) : (kjr n).length ≤ 12 := by
  have := kuv n.natAbs (by omega)
  unfold kjr
  split
  · simp only [List.length_cons]; omega
  · omega
theorem k2e {v : Va} (h : kys v) (n m : Nat) : okW 3000000000 300 n (m + 1) v := by
  obtain ⟨k, rfl, h1, h2⟩ := h
  have hs : ka2 (Va.mk 2 k ⟨#[]⟩ []) = kjr k := by simp [ka2]
  have hl := kpy h1 h2
  refine ⟨fun acc ha => ?_, ?_, by rw [hs]; omega⟩
  · have w := kkj (acc := acc) (l := kjr k) (s := mkB (kjr k)) rfl (by omega) (by omega)
    simp only [kb6, show ((Va.mk 2 k ⟨#[]⟩ []).type == 1) = false from rfl, show ((Va.mk 2 k ⟨#[]⟩ []).type == 2) = true from rfl, cond_false, cond_true, kho, show (Va.mk 2 k ⟨#[]⟩ []).num = k from rfl, ky0 (show -9223372036854775808 ≤ k by omega) (by omega), Option.bind_some, w, Sum.elim_inr, Sum.elim_inl, hs]
  · rw [show ∀ v, ka4 (m + 1) v = kbd (ka4 m) (kcq m) v from fun _ => rfl]
    simp only [kbd, show ((Va.mk 2 k ⟨#[]⟩ []).type == 1) = false from rfl, show ((Va.mk 2 k ⟨#[]⟩ []).type == 2) = true from rfl, cond_false, cond_true, show (Va.mk 2 k ⟨#[]⟩ []).num = k from rfl, kww h1 h2, Option.bind_some, hs]
theorem kwd (l : List UInt8) : (kg2 l).length ≤ 4 * l.length + 2 := by
  have := kvm l
  unfold kg2
  simp only [List.length_cons, List.length_append, List.length_nil]
  omega
theorem k1g {v : Va} (h : kyn v) (n m : Nat) : okW 3000000000 300 n (m + 1) v := by
  obtain ⟨s, rfl, h1, h2, _⟩ := h
  have hs : ka2 (Va.mk 3 0 s []) = kg2 s.data.toList := by simp [ka2]
  have hl := kwd s.data.toList
  rw [← kbq] at hl
  refine ⟨fun acc ha => ?_, ?_, by rw [hs]; omega⟩
  · have w := kkj (acc := acc) (l := kg2 s.data.toList) (s := mkB (kg2 s.data.toList)) rfl (by omega) (by omega)
    simp only [kb6, show ((Va.mk 3 0 s []).type == 1) = false from rfl, show ((Va.mk 3 0 s []).type == 2) = false from rfl, show ((Va.mk 3 0 s []).type == 4) = false from rfl, show ((Va.mk 3 0 s []).type == 8) = false from rfl, show ((Va.mk 3 0 s []).type == 3) = true from rfl, cond_false, cond_true, show (Va.mk 3 0 s []).text = s from rfl, kzx (show s.size ≤ 100000 by omega), Option.bind_some, w, Sum.elim_inr, Sum.elim_inl, hs]
  · rw [show ∀ v, ka4 (m + 1) v = kbd (ka4 m) (kcq m) v from fun _ => rfl]
    simp only [kbd, show ((Va.mk 3 0 s []).type == 1) = false from rfl, show ((Va.mk 3 0 s []).type == 2) = false from rfl, show ((Va.mk 3 0 s []).type == 4) = false from rfl, show ((Va.mk 3 0 s []).type == 3) = true from rfl, cond_false, cond_true, show (Va.mk 3 0 s []).text = s from rfl, kxm (show s.size ≤ 100000 by omega), Option.bind_some, hs]
theorem kva {t : Int} {a b : UInt8} {l : List Va} {C B n m : Nat} (hC : 2000000000 ≤ C ∧ C ≤ 3000000000) (ht : (t = 5 ∧ a = 91 ∧ b = 93) ∨ (t = 6 ∧ a = 123 ∧ b = 125) ∨ (t = 7 ∧ a = 60 ∧ b = 62)) (hl : l.length ≤ 16) (hB : B ≤ 5000) (h : ∀ x ∈ l, okW C B n m x) : okW (C - 100000) (l.length * (B + 2) + 2) (n + 1) (m + 2) (Va.mk t 0 ⟨#[]⟩ l) ∧ ka2 (Va.mk t 0 ⟨#[]⟩ l) = a :: (kbp (l.map ka2) ++ [b]) := by
  have hs : ka2 (Va.mk t 0 ⟨#[]⟩ l) = a :: (kbp (l.map ka2) ++ [b]) := by rcases ht with ⟨rfl, rfl, rfl⟩ | ⟨rfl, rfl, rfl⟩ | ⟨rfl, rfl, rfl⟩ <;> simp [ka2, kvr]
  have hj := kxr l fun x hx => (h x hx).2.2
  have hk : l.length * (B + 2) ≤ 16 * (5000 + 2) := Nat.mul_le_mul hl (by omega)
  refine ⟨⟨fun acc ha => ?_, ?_, by rw [hs]; simp only [List.length_cons, List.length_append, List.length_nil]; omega⟩, hs⟩
  · have w0 := fun c : UInt8 => kkj (acc := acc) (l := [c]) (s := ⟨#[c]⟩) rfl (by omega) (by simp)
    have w1 : kbe (n + 1) (iB (acc ++ [a])) l = some (iB (acc ++ [a] ++ kbp (l.map ka2))) := by
      have h1 := kss hC.2 (r22 := kbe n) (by omega) (show B ≤ 100000 by omega) (fun x hx => (h x hx).2.2) (fun x hx => (h x hx).1) l.length 0 (acc ++ [a]) fuel (by omega) (kdk (by omega)) (by simp only [List.length_append, List.length_cons, List.length_nil]; omega)
      rw [if_pos rfl] at h1
      show kdw (kbe n) (iB (acc ++ [a])) l = _
      have h1' : kaa (kcs l (kbe n)) fuel (0, iB (acc ++ [a])) = _ := h1
      simp only [kdw, h1', Option.bind_some]
    have w2 := fun c : UInt8 => kkj (acc := acc ++ [a] ++ kbp (l.map ka2)) (l := [c]) (s := ⟨#[c]⟩) rfl (by simp only [List.length_append, List.length_cons, List.length_nil]; omega) (by simp)
    rw [hs]
    rcases ht with ⟨rfl, rfl, rfl⟩ | ⟨rfl, rfl, rfl⟩ | ⟨rfl, rfl, rfl⟩
    all_goals
      simp only [kb6, show (Va.mk _ 0 (⟨#[]⟩ : ByteArray) l).items = l from rfl]
      show (Option.bind (kaj (iB acc) _) _ : Option (List Int)).bind _ = _
      rw [w0, Option.bind_some, w1, Option.bind_some, w2]
      simp
  · rw [show ∀ v, ka4 (m + 2) v = kbd (ka4 (m + 1)) (kcq (m + 1)) v from fun _ => rfl]
    have h2 := (k1k hC.2 (by omega) (by omega) h [] (by simp; omega)).2
    rw [hs]
    have c1 := fun c : UInt8 => kd4 (a := [c]) (b := kbp (l.map ka2)) (by simp; omega)
    have c2 := fun c d : UInt8 => kd4 (a := [c] ++ kbp (l.map ka2)) (b := [d]) (by simp only [List.length_append, List.length_cons, List.length_nil]; omega)
    rcases ht with ⟨rfl, rfl, rfl⟩ | ⟨rfl, rfl, rfl⟩ | ⟨rfl, rfl, rfl⟩
    all_goals
      simp only [kbd]
      show (Option.bind (kcq (m + 1) l) _ : Option ByteArray) = _
      rw [h2, Option.bind_some]
      show (Option.bind (cat (mkB [_]) _) _ : Option ByteArray) = _
      rw [c1, Option.bind_some]
      show (Option.bind (cat _ (mkB [_])) _ : Option ByteArray) = _
      rw [c2]
      rfl
theorem kh8 {C C' B B' n m : Nat} {v : Va} (hC : C' ≤ C) (hB : B ≤ B') (h : okW C B n m v) : okW C' B' n m v := ⟨fun acc ha => h.1 acc (by omega), h.2.1, by have := h.2.2; omega⟩
theorem kz4 (m : Nat) (v : Va) : ka4 (m + 1) v = kbd (ka4 m) (kcq m) v := rfl
theorem kzu {k : Int} (h : k = 0 ∨ k = 1) (n m : Nat) : okW 3000000000 300 n (m + 1) (Va.mk 1 k ⟨#[]⟩ []) := by
  rcases h with rfl | rfl
  · refine ⟨fun acc ha => ?_, rfl, by decide⟩
    have w := kkj (acc := acc) (l := [102, 97, 108, 115, 101]) (s := ⟨#[102, 97, 108, 115, 101]⟩) rfl (by omega) (by decide)
    rw [show ka2 (Va.mk 1 0 ⟨#[]⟩ []) = [102, 97, 108, 115, 101] from rfl]
    simp only [kb6, show ((Va.mk 1 0 ⟨#[]⟩ []).type == 1) = true from rfl, cond_true, show ((Va.mk 1 0 ⟨#[]⟩ []).num == 1) = false from rfl, kgi, kdo, cond_false, Option.bind_some, w, Sum.elim_inr, Sum.elim_inl]
  · refine ⟨fun acc ha => ?_, rfl, by decide⟩
    have w := kkj (acc := acc) (l := [116, 114, 117, 101]) (s := ⟨#[116, 114, 117, 101]⟩) rfl (by omega) (by decide)
    rw [show ka2 (Va.mk 1 1 ⟨#[]⟩ []) = [116, 114, 117, 101] from rfl]
    simp only [kb6, show ((Va.mk 1 1 ⟨#[]⟩ []).type == 1) = true from rfl, cond_true, show ((Va.mk 1 1 ⟨#[]⟩ []).num == 1) = true from rfl, kgi, kdo, Option.bind_some, w, Sum.elim_inr, Sum.elim_inl]
theorem k8j {k : Int} (h0 : 0 ≤ k) (h1 : k ≤ 255) (n m : Nat) : okW 2900000000 300 n (m + 1) (Va.mk 4 k ⟨#[]⟩ []) := by
  obtain ⟨c, rfl⟩ : ∃ c : UInt8, k = (c.toNat : Int) := ⟨UInt8.ofNat k.toNat, by rw [kqd (by omega)]; omega⟩
  have hs : ka2 (Va.mk 4 (c.toNat : Int) ⟨#[]⟩ []) = [48, 120, hexD (c.toNat / 16), hexD (c.toNat % 16)] := by simp [ka2]
  refine ⟨fun acc ha => ?_, ?_, by rw [hs]; simp⟩
  · have w := kkj (acc := acc) (l := [48, 120]) (s := ⟨#[48, 120]⟩) rfl (by omega) (by decide)
    have w2 := k1h (acc := acc ++ [48, 120]) (c := c) rfl (by simp; omega)
    rw [hs]
    simp only [kb6, show ((Va.mk 4 (c.toNat : Int) ⟨#[]⟩ []).type == 1) = false from rfl, show ((Va.mk 4 (c.toNat : Int) ⟨#[]⟩ []).type == 2) = false from rfl, show ((Va.mk 4 (c.toNat : Int) ⟨#[]⟩ []).type == 4) = true from rfl, cond_true, cond_false, show (Va.mk 4 (c.toNat : Int) ⟨#[]⟩ []).num = (c.toNat : Int) from rfl, kw0, Option.bind_some, w, w2, Sum.elim_inr, Sum.elim_inl]
    simp
  · rw [kz4, hs]
    have c1 : cat (⟨#[48, 120]⟩ : ByteArray) (mkB [hexD (c.toNat / 16)]) = some (mkB ([48, 120] ++ [hexD (c.toNat / 16)])) := kd4 (a := [48, 120]) (by simp)
    have c2 := kd4 (a := [48, 120] ++ [hexD (c.toNat / 16)]) (b := [hexD (c.toNat % 16)]) (by simp)
    simp only [kbd, show ((Va.mk 4 (c.toNat : Int) ⟨#[]⟩ []).type == 1) = false from rfl, show ((Va.mk 4 (c.toNat : Int) ⟨#[]⟩ []).type == 2) = false from rfl, show ((Va.mk 4 (c.toNat : Int) ⟨#[]⟩ []).type == 4) = true from rfl, cond_true, cond_false, show (Va.mk 4 (c.toNat : Int) ⟨#[]⟩ []).num = (c.toNat : Int) from rfl, (kqw c).2.2.1, (kqw c).2.2.2, Option.bind_some, c1, c2]
    rfl
theorem k6n {s : ByteArray} (h : s.size ≤ 40) (n m : Nat) : okW 2900000000 300 n (m + 1) (Va.mk 8 0 s []) := by
  have hs : ka2 (Va.mk 8 0 s []) = 114 :: kg2 s.data.toList := by simp [ka2]
  have hl := kwd s.data.toList
  rw [← kbq] at hl
  refine ⟨fun acc ha => ?_, ?_, by rw [hs]; simp only [List.length_cons]; omega⟩
  · have w := kog (acc := acc) (c := 114) (n := 114) rfl (by omega)
    have w2 := kkj (acc := acc ++ [114]) (l := kg2 s.data.toList) (s := mkB (kg2 s.data.toList)) rfl (by simp; omega) (by omega)
    rw [hs]
    simp only [kb6, show ((Va.mk 8 0 s []).type == 1) = false from rfl, show ((Va.mk 8 0 s []).type == 2) = false from rfl, show ((Va.mk 8 0 s []).type == 4) = false from rfl, show ((Va.mk 8 0 s []).type == 8) = true from rfl, cond_true, cond_false, show (Va.mk 8 0 s []).text = s from rfl, kzx (show s.size ≤ 100000 by omega), Option.bind_some, w, w2, Sum.elim_inr, Sum.elim_inl]
    simp
  · rw [kz4, hs]
    have c1 : cat (⟨#[114]⟩ : ByteArray) (mkB (kg2 s.data.toList)) = some (mkB ([114] ++ kg2 s.data.toList)) := kd4 (a := [114]) (by simp; omega)
    simp only [kbd, show ((Va.mk 8 0 s []).type == 1) = false from rfl, show ((Va.mk 8 0 s []).type == 2) = false from rfl, show ((Va.mk 8 0 s []).type == 4) = false from rfl, show ((Va.mk 8 0 s []).type == 3) = false from rfl, show ((Va.mk 8 0 s []).type == 8) = true from rfl, cond_true, cond_false, show (Va.mk 8 0 s []).text = s from rfl, kxm (show s.size ≤ 100000 by omega), Option.bind_some, c1]
    rfl
theorem k2j {v : Va} {lo hi : Nat} (hhi : hi ≤ 16) (h : kyq lo hi v) (n m : Nat) : okW 2999900000 5000 (n + 1) (m + 3) v := by
  obtain ⟨l, rfl, h1, h2, h3⟩ := h
  have := (kva (t := 6) (a := 123) (b := 125) (C := 3000000000) (n := n) (m := m + 1) (by omega) (.inr (.inl ⟨rfl, rfl, rfl⟩)) (by omega) (B := 300) (by omega) fun x hx => k1g (h3 x hx) n m).1
  have hk : l.length * (300 + 2) ≤ 16 * (300 + 2) := Nat.mul_le_mul_right _ (by omega)
  exact kh8 (by omega) (by omega) this
theorem kt3 {v : Va} (h : klg v) (n m : Nat) : okW 2500000000 60000 (n + 2) (m + 5) v := by
  rcases h with (rfl | rfl) | h | ⟨k, rfl, h0, h1⟩ | h | ⟨s, rfl, h⟩ | ⟨l, rfl, h1, h2⟩ | h | ⟨l, rfl, h1, k, h2, h3, h4⟩
  · exact kh8 (by omega) (by omega) (kzu (.inl rfl) (n + 2) (m + 4))
  · exact kh8 (by omega) (by omega) (kzu (.inr rfl) (n + 2) (m + 4))
  · exact kh8 (by omega) (by omega) (k2e h (n + 2) (m + 4))
  · exact kh8 (by omega) (by omega) (k8j h0 h1 (n + 2) (m + 4))
  · exact kh8 (by omega) (by omega) (k1g h (n + 2) (m + 4))
  · exact kh8 (by omega) (by omega) (k6n h.2.1 (n + 2) (m + 4))
  · have := (kva (t := 5) (a := 91) (b := 93) (C := 3000000000) (n := n + 1) (m := m + 3) (by omega) (.inl ⟨rfl, rfl, rfl⟩) h1 (B := 300) (by omega) fun x hx => k2e (h2 x hx) (n + 1) (m + 2)).1
    have hk : l.length * (300 + 2) ≤ 16 * (300 + 2) := Nat.mul_le_mul_right _ (by omega)
    exact kh8 (by omega) (by omega) this
  · exact kh8 (by omega) (by omega) (k2j (by omega) h (n + 1) (m + 2))
  · have := (kva (t := 7) (a := 60) (b := 62) (C := 2999900000) (n := n + 1) (m := m + 3) (by omega) (.inr (.inr ⟨rfl, rfl, rfl⟩)) (by omega) (B := 5000) (by omega) fun x hx => k2j (show k ≤ 16 by omega) (h4 x hx) n m).1
    have hk : l.length * (5000 + 2) ≤ 8 * (5000 + 2) := Nat.mul_le_mul_right _ (by omega)
    exact kh8 (by omega) (by omega) this
theorem kaab : ∃ k, fuel = k + 9 := ⟨18446744073709551607, by unfold fuel; omega⟩
theorem written {l : List Va} (hl : l.length ≤ 1000) (h : ∀ x ∈ l, klg x) : kbe fuel [] l = some (iB (kbp (l.map ka2))) ∧ kcq fuel l = some (mkB (kbp (l.map ka2))) ∧ (kbp (l.map ka2)).length ≤ l.length * 60002 := by
  obtain ⟨k, hk⟩ := kaab
  rw [hk]
  generalize fuel = ff at hk
  have h1 := k1k (C := 2500000000) (B := 60000) (n := k + 8) (m := k + 8) (by omega) hl (by omega) (fun x hx => kt3 (h x hx) (k + 6) (k + 3)) [] (by simp)
  exact ⟨h1.1, h1.2, kxr l fun x hx => (kt3 (h x hx) 0 0).2.2⟩
theorem koi {m a b : Int} (h : kfo m a b = some 0) : a ≤ m ∧ m ≤ b := by
  unfold kfo at h
  by_cases h1 : m < a
  · rw [decide_eq_true h1] at h; simp at h
  · rw [decide_eq_false h1] at h
    by_cases h2 : b < m
    · rw [decide_eq_true h2] at h; simp at h
    · omega
theorem kwn {s : ByteArray} {a b : Nat} (hs : s.size ≤ 9223372036854775807) (h : kgb s (a : Int) (b : Int) = some 0) : ky6 a b s := by
  unfold kgb at h
  by_cases h1 : (s.size : Int) < (a : Int)
  · rw [decide_eq_true h1] at h; simp at h
  · rw [decide_eq_false h1] at h
    by_cases h2 : (b : Int) < (s.size : Int)
    · rw [decide_eq_true h2] at h; simp at h
    · rw [decide_eq_false h2, klk s hs] at h
      cases hall : s.data.toList.all kki with
      | false => rw [hall] at h; simp at h
      | true => exact ⟨by omega, by omega, fun c hc => List.all_eq_true.1 hall c hc⟩
theorem kgz {s : ByteArray} (h : (s.toList == (⟨#[]⟩ : ByteArray).toList) = true) : s = ⟨#[]⟩ := kjc (by simpa using h)
theorem khb {l : List Va} (h : ((l.length : Int) == 0) = true) : l = [] := List.eq_nil_of_length_eq_zero (by have := eq_of_beq h; omega)
theorem k0m {v : Va} (h : klg v) (ht : v.type = 2) : kys v := by
  rcases h with (rfl | rfl) | h | ⟨k, rfl, h0, h1⟩ | ⟨s, rfl, h⟩ | ⟨s, rfl, h⟩ | ⟨l, rfl, h1, h2⟩ | ⟨l, rfl, h⟩ | ⟨l, rfl, h1, k, h2, h3, h4⟩
  all_goals first | exact h | (simp [Va.type] at ht)
theorem k0p {v : Va} (h : klg v) (ht : v.type = 3) : kyn v := by
  rcases h with (rfl | rfl) | ⟨k, rfl, h0, h1⟩ | ⟨k, rfl, h0, h1⟩ | h | ⟨s, rfl, h⟩ | ⟨l, rfl, h1, h2⟩ | ⟨l, rfl, h⟩ | ⟨l, rfl, h1, k, h2, h3, h4⟩
  all_goals first | exact h | (simp [Va.type] at ht)
theorem ky1 {v : Va} (h : klg v) (ht : v.type = 6) : kyq 0 16 v := by
  rcases h with (rfl | rfl) | ⟨k, rfl, h0, h1⟩ | ⟨k, rfl, h0, h1⟩ | ⟨s, rfl, h⟩ | ⟨s, rfl, h⟩ | ⟨l, rfl, h1, h2⟩ | h | ⟨l, rfl, h1, k, h2, h3, h4⟩
  all_goals first | exact h | (simp [Va.type] at ht)
theorem kqb {n : Nat} {l : List Va} {t : Int} (wl : ∀ x ∈ l, inV x) (hlen : l.length ≤ 9223372036854775807) (hc : ∀ x ∈ l, x.type = t → ∃ c, kae n x = some c) (h : kd8 (n + 1) l t = some 0) : l.length ≤ 16 ∧ ∀ x ∈ l, x.type = t ∧ kae n x = some 0 := by
  have h : kdu (kae n) (kd8 n) (kgd n) l t = some 0 := h
  by_cases h16 : (16 : Int) < (l.length : Int)
  · simp only [kdu, decide_eq_true h16, cond_true] at h; cases h
  · simp only [kdu, decide_eq_false h16, cond_false] at h
    refine ⟨by omega, ?_⟩
    have hst : ∀ (i : Nat) (hi : i < l.length), (kak l t (kae n) (i : Int) = some (.inl ((i + 1 : Nat) : Int)) ∧ l[i].type = t ∧ kae n l[i] = some 0) ∨ ∃ c, c ≠ 0 ∧ kak l t (kae n) (i : Int) = some (.inr (.inr c)) := fun i hi => by
      have e1 : l[i]? = some l[i] := List.getElem?_eq_getElem hi
      have hw := kbt (n := i) (by omega)
      cases ht : (l[i].type != t) with
      | true => exact .inr ⟨3, by decide, by simp only [kak, kd3 hi, kan, e1, ht, cond_true, Option.bind_some]⟩
      | false =>
        have hty : l[i].type = t := by rwa [bne_eq_false_iff_eq] at ht
        obtain ⟨c, k1⟩ := hc _ (List.getElem_mem hi) hty
        cases hc' : (c != 0) with
        | true => exact .inr ⟨c, by simpa using hc', by simp only [kak, kd3 hi, kan, e1, ht, k1, hc', cond_true, cond_false, Option.bind_some]⟩
        | false => exact .inl ⟨by simp only [kak, kd3 hi, kan, e1, ht, k1, hc', hw, cond_true, cond_false, Option.bind_some], hty, by rw [k1]; rw [bne_eq_false_iff_eq] at hc'; rw [hc']⟩
    cases hr : kaa (kak l t (kae n)) fuel 0 with
    | none => rw [hr] at h; cases h
    | some r =>
      obtain ⟨r2, r3, f1, f2, f3⟩ := khi (step := kak l t (kae n)) (step' := kak l t (kae n)) l.length (by omega) (fun i => (i : Int)) (fun i => (i : Int)) (fun r r' => ∀ c, r = .inr c → c ≠ 0) (fun i hi => by
        rcases hst i hi with ⟨a1, _⟩ | ⟨c, h0, a1⟩
        · exact .inl ⟨a1, a1⟩
        · exact .inr ⟨_, _, a1, a1, fun c' h => by cases h; exact h0⟩) ⟨.inl (), .inl (), by simp [kak], by simp [kak], fun c h => by cases h⟩
      have f1' : kaa (kak l t (kae n)) fuel 0 = some r2 := by simpa using f1
      rw [hr] at f1'
      cases f1'
      rw [hr, Option.bind_some] at h
      cases r with
      | inr c => exact absurd (Option.some.inj h) (f3 c rfl)
      | inl u =>
        intro x hx
        obtain ⟨i, hi, rfl⟩ := List.mem_iff_getElem.1 hx
        have hall := kll (step := kak l t (kae n)) l.length (fun i => (i : Int)) (.inl u) (fun i hi => by
          rcases hst i hi with ⟨a1, _⟩ | ⟨c, _, a1⟩
          · exact .inl a1
          · exact .inr ⟨_, a1, fun h => by cases h⟩) fuel 0 hr i (Nat.zero_le _) hi
        rcases hst i hi with ⟨_, h⟩ | ⟨c, _, a1⟩
        · exact h
        · rw [a1] at hall; cases hall
theorem k9x {n : Nat} {l : List Va} (wl : ∀ x ∈ l, inV x) (hlen : l.length ≤ 9223372036854775807) (hc : ∀ x ∈ l, x.type = 6 → ∃ c, kae n x = some c) (h : kgd (n + 1) l = some 0) : l.length ≤ 8 ∧ ∃ k, 1 ≤ k ∧ k ≤ 8 ∧ ∀ x ∈ l, x.type = 6 ∧ x.items.length = k ∧ kae n x = some 0 := by
  have h : kfh (kae n) (kd8 n) (kgd n) l = some 0 := h
  by_cases h16 : (8 : Int) < (l.length : Int)
  · simp only [kfh, decide_eq_true h16, cond_true] at h; cases h
  · simp only [kfh, decide_eq_false h16, cond_false] at h
    refine ⟨by omega, ?_⟩
    have hst : ∀ (i : Nat) (hi : i < l.length), (kar l (kae n) (i : Int) = some (.inl ((i + 1 : Nat) : Int)) ∧ l[i].type = 6 ∧ (1 ≤ l[i].items.length ∧ l[i].items.length ≤ 8 ∧ l[i].items.length = (l[0]'(by omega)).items.length) ∧ kae n l[i] = some 0) ∨ ∃ c, c ≠ 0 ∧ kar l (kae n) (i : Int) = some (.inr (.inr c)) := fun i hi => by
      have e1 : l[i]? = some l[i] := List.getElem?_eq_getElem hi
      have e0 : idx l 0 = some (l[0]'(by omega)) := by rw [show (0 : Int) = ((0 : Nat) : Int) from rfl, kan, List.getElem?_eq_getElem]
      have hw := kbt (n := i) (by omega)
      cases ht : (l[i].type != 6) with
      | true => exact .inr ⟨3, by decide, by simp only [kar, kd3 hi, kan, e1, ht, cond_true, Option.bind_some]⟩
      | false =>
        have hty : l[i].type = 6 := by rwa [bne_eq_false_iff_eq] at ht
        obtain ⟨c, k1⟩ := hc _ (List.getElem_mem hi) hty
        by_cases hq : 1 ≤ l[i].items.length ∧ l[i].items.length ≤ 8 ∧ l[i].items.length = (l[0]'(by omega)).items.length
        · have e3 : (bif decide ((l[i].items.length : Int) < 1) then some true else bif decide (8 < (l[i].items.length : Int)) then some true else (some ((l[i].items.length : Int) != ((l[0]'(by omega)).items.length : Int)) : Option Bool)) = some false := by
            rw [decide_eq_false (by omega), decide_eq_false (by omega), hq.2.2]; simp
          cases hc' : (c != 0) with
          | true => exact .inr ⟨c, by simpa using hc', by simp only [kar, kd3 hi, kan, e1, e0, ht, e3, k1, hc', cond_true, cond_false, Option.bind_some]⟩
          | false => exact .inl ⟨by simp only [kar, kd3 hi, kan, e1, e0, ht, e3, k1, hc', hw, cond_true, cond_false, Option.bind_some], hty, hq, by rw [k1]; rw [bne_eq_false_iff_eq] at hc'; rw [hc']⟩
        · have e3 : (bif decide ((l[i].items.length : Int) < 1) then some true else bif decide (8 < (l[i].items.length : Int)) then some true else (some ((l[i].items.length : Int) != ((l[0]'(by omega)).items.length : Int)) : Option Bool)) = some true := by
            by_cases q1 : (l[i].items.length : Int) < 1
            · rw [decide_eq_true q1]; rfl
            · by_cases q2 : 8 < (l[i].items.length : Int)
              · rw [decide_eq_true q2, decide_eq_false q1]; rfl
              · rw [decide_eq_false q1, decide_eq_false q2, cond_false, cond_false]
                congr 1
                simp
                omega
          exact .inr ⟨2, by decide, by simp only [kar, kd3 hi, kan, e1, e0, ht, e3, cond_true, cond_false, Option.bind_some]⟩
    cases hr : kaa (kar l (kae n)) fuel 0 with
    | none => rw [hr] at h; cases h
    | some r =>
      obtain ⟨r2, r3, f1, f2, f3⟩ := khi (step := kar l (kae n)) (step' := kar l (kae n)) l.length (by omega) (fun i => (i : Int)) (fun i => (i : Int)) (fun r r' => ∀ c, r = .inr c → c ≠ 0) (fun i hi => by
        rcases hst i hi with ⟨a1, _⟩ | ⟨c, h0, a1⟩
        · exact .inl ⟨a1, a1⟩
        · exact .inr ⟨_, _, a1, a1, fun c' h => by cases h; exact h0⟩) ⟨.inl (), .inl (), by simp [kar], by simp [kar], fun c h => by cases h⟩
      have f1' : kaa (kar l (kae n)) fuel 0 = some r2 := by simpa using f1
      rw [hr] at f1'
      cases f1'
      rw [hr, Option.bind_some] at h
      cases r with
      | inr c => exact absurd (Option.some.inj h) (f3 c rfl)
      | inl u =>
        have all : ∀ (i : Nat) (hi : i < l.length), l[i].type = 6 ∧ (1 ≤ l[i].items.length ∧ l[i].items.length ≤ 8 ∧ l[i].items.length = (l[0]'(by omega)).items.length) ∧ kae n l[i] = some 0 := fun i hi => by
          have hall := kll (step := kar l (kae n)) l.length (fun i => (i : Int)) (.inl u) (fun i hi => by
            rcases hst i hi with ⟨a1, _⟩ | ⟨c, _, a1⟩
            · exact .inl a1
            · exact .inr ⟨_, a1, fun h => by cases h⟩) fuel 0 hr i (Nat.zero_le _) hi
          rcases hst i hi with ⟨_, h⟩ | ⟨c, _, a1⟩
          · exact h
          · rw [a1] at hall; cases hall
        by_cases hl0 : 0 < l.length
        · have z := (all 0 hl0).2.1
          refine ⟨(l[0]'hl0).items.length, z.1, z.2.1, fun x hx => ?_⟩
          obtain ⟨i, hi, rfl⟩ := List.mem_iff_getElem.1 hx
          have := all i hi
          exact ⟨this.1, this.2.1.2.2, this.2.2⟩
        · exact ⟨1, by omega, by omega, fun x hx => by rw [List.eq_nil_of_length_eq_zero (by omega : l.length = 0)] at hx; cases hx⟩
theorem va_t (t m : Int) (s : ByteArray) (l : List Va) : (Va.mk t m s l).type = t := rfl
theorem va_n (t m : Int) (s : ByteArray) (l : List Va) : (Va.mk t m s l).num = m := rfl
theorem va_s (t m : Int) (s : ByteArray) (l : List Va) : (Va.mk t m s l).text = s := rfl
theorem va_l (t m : Int) (s : ByteArray) (l : List Va) : (Va.mk t m s l).items = l := rfl
theorem k86 : ∀ (n : Nat) (x : Va), 2 * rkT x.type ≤ n → inV x → kae n x = some 0 → klg x := by
  intro n
  induction n using Nat.strongRecOn with
  | ind n ih =>
    intro x hn hx h
    have h1rk : 1 ≤ rkT x.type := by unfold rkT; split <;> (try split) <;> omega
    obtain ⟨n, rfl⟩ : ∃ m, n = m + 2 := ⟨n - 2, by omega⟩
    replace h : kbl (kae (n + 1)) (kd8 (n + 1)) (kgd (n + 1)) x = some 0 := h
    obtain ⟨lx, sx, wx⟩ := kx4 hx
    by_cases h0 : x.type < 1
    · simp [kbl, h0] at h
    by_cases h8 : 8 < x.type
    · simp [kbl, h0, h8] at h
    have hcc : ∀ k (y : Va), 2 * rkT y.type ≤ k → inV y → ∃ c, kae k y = some c := fun k y h1 h2 => by
      obtain ⟨c, hc, _⟩ := (kw7 k).1 y h1 h2
      exact ⟨c, hc⟩
    have ht : x.type = 1 ∨ x.type = 2 ∨ x.type = 3 ∨ x.type = 4 ∨ x.type = 5 ∨ x.type = 6 ∨ x.type = 7 ∨ x.type = 8 := by omega
    obtain ⟨t, m, s, l⟩ := x
    simp only [va_t, va_n, va_s, va_l] at *
    cases hz : (s.toList == (⟨#[]⟩ : ByteArray).toList) <;> cases hm : (m == 0) <;> cases hl : ((l.length : Int) == 0) <;>
      rcases ht with rfl | rfl | rfl | rfl | rfl | rfl | rfl | rfl <;>
      simp only [kbl, kdh, va_t, va_n, va_s, va_l, hz, hm, hl] at h <;> simp at h
    · obtain ⟨c, hc⟩ := kly s 0 64 sx
      rw [hc] at h; simp at h; subst h
      obtain rfl := khb hl
      obtain rfl := eq_of_beq hm
      exact .inr (.inr (.inr (.inl ⟨s, rfl, kwn (a := 0) (b := 64) sx hc⟩)))
    · obtain ⟨c, hc⟩ := kly s 1 40 sx
      rw [hc] at h; simp at h; subst h
      obtain rfl := khb hl
      obtain rfl := eq_of_beq hm
      exact .inr (.inr (.inr (.inr (.inl ⟨s, rfl, kwn (a := 1) (b := 40) sx hc⟩))))
    · obtain ⟨c, hc, _⟩ := kf6 m 0 1
      rw [hc] at h; simp at h; subst h
      obtain rfl := khb hl
      obtain rfl := kgz hz
      have hr := koi hc
      rcases (by omega : m = 0 ∨ m = 1) with rfl | rfl
      · exact .inl (.inl rfl)
      · exact .inl (.inr rfl)
    · obtain ⟨c, hc, _⟩ := kf6 m (-1000000) 1000000
      rw [hc] at h; simp at h; subst h
      obtain rfl := khb hl
      obtain rfl := kgz hz
      have hr := koi hc
      exact .inr (.inl ⟨m, rfl, hr.1, hr.2⟩)
    · obtain ⟨c, hc, _⟩ := kf6 m 0 255
      rw [hc] at h; simp at h; subst h
      obtain rfl := khb hl
      obtain rfl := kgz hz
      have hr := koi hc
      exact .inr (.inr (.inl ⟨m, rfl, hr.1, hr.2⟩))
    · obtain rfl := kgz hz
      obtain rfl := eq_of_beq hm
      have hn' : 2 ≤ n := by have : rkT 5 = 2 := rfl; omega
      obtain ⟨h1, h2⟩ := kqb wx lx (fun y hy hty => hcc n y (by rw [hty]; exact hn') (wx y hy)) h
      exact .inr (.inr (.inr (.inr (.inr (.inl ⟨l, rfl, h1, fun y hy => k0m (ih n (by omega) y (by rw [(h2 y hy).1]; exact hn') (wx y hy) (h2 y hy).2) (h2 y hy).1⟩)))))
    · obtain rfl := kgz hz
      obtain rfl := eq_of_beq hm
      have hn' : 2 ≤ n := by have : rkT 6 = 2 := rfl; omega
      obtain ⟨h1, h2⟩ := kqb wx lx (fun y hy hty => hcc n y (by rw [hty]; exact hn') (wx y hy)) h
      exact .inr (.inr (.inr (.inr (.inr (.inr (.inl ⟨l, rfl, Nat.zero_le _, h1, fun y hy => k0p (ih n (by omega) y (by rw [(h2 y hy).1]; exact hn') (wx y hy) (h2 y hy).2) (h2 y hy).1⟩))))))
    · obtain rfl := kgz hz
      obtain rfl := eq_of_beq hm
      have hn' : 4 ≤ n := by have : rkT 7 = 3 := rfl; omega
      obtain ⟨h1, k, k1, k2, h2⟩ := k9x wx lx (fun y hy hty => hcc n y (by rw [hty]; exact hn') (wx y hy)) h
      refine .inr (.inr (.inr (.inr (.inr (.inr (.inr ⟨l, rfl, h1, k, k1, k2, fun y hy => ?_⟩))))))
      obtain ⟨l', rfl, _, _, q⟩ := ky1 (ih n (by omega) y (by rw [(h2 y hy).1]; exact hn') (wx y hy) (h2 y hy).2.2) (h2 y hy).1
      have hk : l'.length = k := (h2 _ hy).2.1
      exact ⟨l', rfl, by omega, by omega, q⟩
    · obtain ⟨c, hc, _⟩ := kf6 m 0 1
      rw [hc] at h; simp at h; subst h
      obtain rfl := khb hl
      obtain rfl := kgz hz
      have hr := koi hc
      rcases (by omega : m = 0 ∨ m = 1) with rfl | rfl
      · exact .inl (.inl rfl)
      · exact .inl (.inr rfl)
    · obtain ⟨c, hc, _⟩ := kf6 m (-1000000) 1000000
      rw [hc] at h; simp at h; subst h
      obtain rfl := khb hl
      obtain rfl := kgz hz
      have hr := koi hc
      exact .inr (.inl ⟨m, rfl, hr.1, hr.2⟩)
    · obtain ⟨c, hc⟩ := kly s 0 64 sx
      rw [hc] at h; simp at h; subst h
      obtain rfl := khb hl
      obtain rfl := eq_of_beq hm
      exact .inr (.inr (.inr (.inl ⟨s, rfl, kwn (a := 0) (b := 64) sx hc⟩)))
    · obtain ⟨c, hc, _⟩ := kf6 m 0 255
      rw [hc] at h; simp at h; subst h
      obtain rfl := khb hl
      obtain rfl := kgz hz
      have hr := koi hc
      exact .inr (.inr (.inl ⟨m, rfl, hr.1, hr.2⟩))
    · obtain rfl := kgz hz
      obtain rfl := eq_of_beq hm
      have hn' : 2 ≤ n := by have : rkT 5 = 2 := rfl; omega
      obtain ⟨h1, h2⟩ := kqb wx lx (fun y hy hty => hcc n y (by rw [hty]; exact hn') (wx y hy)) h
      exact .inr (.inr (.inr (.inr (.inr (.inl ⟨l, rfl, h1, fun y hy => k0m (ih n (by omega) y (by rw [(h2 y hy).1]; exact hn') (wx y hy) (h2 y hy).2) (h2 y hy).1⟩)))))
    · obtain rfl := kgz hz
      obtain rfl := eq_of_beq hm
      have hn' : 2 ≤ n := by have : rkT 6 = 2 := rfl; omega
      obtain ⟨h1, h2⟩ := kqb wx lx (fun y hy hty => hcc n y (by rw [hty]; exact hn') (wx y hy)) h
      exact .inr (.inr (.inr (.inr (.inr (.inr (.inl ⟨l, rfl, Nat.zero_le _, h1, fun y hy => k0p (ih n (by omega) y (by rw [(h2 y hy).1]; exact hn') (wx y hy) (h2 y hy).2) (h2 y hy).1⟩))))))
    · obtain rfl := kgz hz
      obtain rfl := eq_of_beq hm
      have hn' : 4 ≤ n := by have : rkT 7 = 3 := rfl; omega
      obtain ⟨h1, k, k1, k2, h2⟩ := k9x wx lx (fun y hy hty => hcc n y (by rw [hty]; exact hn') (wx y hy)) h
      refine .inr (.inr (.inr (.inr (.inr (.inr (.inr ⟨l, rfl, h1, k, k1, k2, fun y hy => ?_⟩))))))
      obtain ⟨l', rfl, _, _, q⟩ := ky1 (ih n (by omega) y (by rw [(h2 y hy).1]; exact hn') (wx y hy) (h2 y hy).2.2) (h2 y hy).1
      have hk : l'.length = k := (h2 _ hy).2.1
      exact ⟨l', rfl, by omega, by omega, q⟩
    · obtain ⟨c, hc⟩ := kly s 1 40 sx
      rw [hc] at h; simp at h; subst h
      obtain rfl := khb hl
      obtain rfl := eq_of_beq hm
      exact .inr (.inr (.inr (.inr (.inl ⟨s, rfl, kwn (a := 1) (b := 40) sx hc⟩))))
theorem ok_of {x : Va} (hx : inV x) (h : kae fuel x = some 0) : klg x := k86 fuel x (Nat.le_trans (Nat.mul_le_mul_left 2 (kz1 x.type)) (Nat.le_of_lt (kdk (by omega)))) hx h
theorem k67 {n : Int} (h : kdm n) : khc n = some (mkB (kjr n)) := by
  have h1 : -9223372036854775808 ≤ n := h.1
  have h2 : n ≤ 9223372036854775807 := by have := h.2; omega
  simp only [khc, kfu, ky0 h1 h2, Option.bind_some]
def nOk (n : Int) : Prop := -1000 ≤ n ∧ n ≤ 1000
theorem nOk.itoa {n : Int} (h : nOk n) : khc n = some (mkB (kjr n)) := k67 (by have := h.1; have := h.2; constructor <;> omega)
theorem nOk.num {n : Int} (h : nOk n) : keh n = some (mkB (kjr n)) := by
  have := kww (n := n) (by have := h.1; omega) (by have := h.2; omega)
  simp only [keh, this, Option.bind_some]
structure WrR (r : Ru) : Prop where
  sym : nOk r.symbol
  inp : nOk r.input
  args : ∀ a ∈ r.args, nOk a
  few : r.args.length ≤ 1000
  op : r.op.size ≤ 1000
  const : r.kind = 2 → klg r.const ∧ kgt r.const = some (mkB (ka2 r.const), 0) ∧ kdv r.const = some (mkB (ka2 r.const), 0)
theorem k6z {v : Va} (h : klg v) : (ka2 v).length ≤ 60000 := (kt3 h 0 0).2.2
structure WrL (l : La) : Prop where
  name : l.name.size ≤ 1000
  inputs : l.inputs.length ≤ 1000
  ins : ∀ t ∈ l.inputs, nOk t
  symbols : l.symbols.length ≤ 1000
  names : ∀ x ∈ l.symbols, x.name.size ≤ 1000 ∧ nOk x.type
  rules : l.rules.length ≤ 96
  ruls : ∀ r ∈ l.rules, WrR r
theorem k01 {x : Va} (hx : inV x) (h : kae fuel x = some 0) : klg x ∧ kgt x = some (mkB (ka2 x), 0) ∧ kdv x = some (mkB (ka2 x), 0) := by
  have hok := ok_of hx h
  obtain ⟨c, c1, c2, _⟩ := kuf hx
  obtain rfl : c = 0 := by rw [h] at c1; exact (Option.some.inj c1).symm
  obtain ⟨w1, _, _⟩ := written (l := [x]) (by simp) (fun y hy => by rw [List.mem_singleton.1 hy]; exact hok)
  have hj : kbp ([x].map ka2) = ka2 x := by simp [kbp]
  rw [hj] at w1
  refine ⟨hok, ?_, ?_⟩
  · have hl : kaa (kgn [x]) fuel 0 = some (.inl ()) := by
      refine (kok (s0 := (0 : Int)) (Q := (· = Sum.inl ())) 1 (fun i s => s = (i : Int)) (by omega) rfl (fun i s hi e => ?_) (fun s e => ?_)).eq
      · subst e
        obtain rfl : i = 0 := by omega
        refine kyo (s := 1) ?_ rfl
        simp only [kgn, Int.natCast_zero, show decide ((0 : Int) < (([x] : List Va).length : Int)) = true from rfl, show idx [x] 0 = some x from rfl, cond_true, Option.bind_some, h, bne_self_eq_false, cond_false]
        rfl
      · subst e
        exact kvv (b := .inl ()) rfl rfl
    simp only [kgt, kh4, hl, Option.bind_some, Sum.elim_inl, w1, kbj, kw1]
  · obtain ⟨k, hk⟩ := kaab
    have ht : ka4 fuel x = some (mkB (ka2 x)) := by rw [hk]; exact (kt3 hok (k + 4) (k + 4)).2.1
    simp only [kdv, c2, Option.bind_some, bne_self_eq_false, cond_false, ht]
theorem k1y {s : ByteArray} {o : S_api_Operator} (h : kbg s = some (o, true)) : s ∈ opNames := by
  refine Classical.byContradiction fun hn => ?_
  rw [(ks1 s hn).2] at h
  simp at h
theorem kyf : opNames.all (fun s => decide (s.size ≤ 100)) = true := by kernel_rfl
theorem k5f {l : La} {r : Ru} (hl : ValidL l) (hw : kpt r) (h : ValidR l r) : WrR r := by
  have h16 := hl.sym16
  have h4 := hl.inputs
  have hs := h.1
  rcases h.2 with q | q | q
  · exact ⟨⟨by omega, by omega⟩, ⟨by have := q.2.2.2.2.1; omega, by have := q.2.2.2.2.1; omega⟩, by rw [q.2.2.2.1]; simp, by rw [q.2.2.2.1]; simp, by rw [q.2.2.1]; exact Nat.zero_le _, fun h2 => by have := q.1; omega⟩
  · exact ⟨⟨by omega, by omega⟩, by rw [q.2.1]; exact ⟨by decide, by decide⟩, by rw [q.2.2.2.1]; simp, by rw [q.2.2.2.1]; simp, by rw [q.2.2.1]; exact Nat.zero_le _, fun h2 => k01 hw.2 q.2.2.2.2.1⟩
  · obtain ⟨q1, q2, q3, o, q4, q5, q6, q7⟩ := q
    have hf := ku3 q4 rfl
    simp only at hf
    refine ⟨⟨by omega, by omega⟩, by rw [q2]; exact ⟨by decide, by decide⟩, fun a ha => ?_, by omega, ?_, fun h2 => by omega⟩
    · obtain ⟨i, hi, rfl⟩ := List.mem_iff_getElem.1 ha
      have := (q6 i hi).1
      exact ⟨by omega, by omega⟩
    · have := of_decide_eq_true (List.all_eq_true.1 kyf _ (k1y q4))
      omega
theorem k6p {l : La} (hw : kld l) (hl : ValidL l) : WrL l := by
  refine ⟨by have := hl.name.1; omega, by have := hl.inputs; omega, fun t ht => ?_, by have := hl.sym16; omega, fun x hx => ?_, hl.rules, fun r hr => ?_⟩
  · obtain ⟨i, hi, rfl⟩ := List.mem_iff_getElem.1 ht
    have := hl.typs i hi
    exact ⟨by have := this.1; omega, by have := this.2; omega⟩
  · obtain ⟨i, hi, rfl⟩ := List.mem_iff_getElem.1 hx
    have h1 := (hl.names i hi).1
    have h2 := hl.types i hi
    exact ⟨by omega, by have := h2.1; omega, by have := h2.2; omega⟩
  · obtain ⟨i, hi, rfl⟩ := List.mem_iff_getElem.1 hr
    exact k5f hl (hw.wide _ (List.getElem_mem hi)) (hl.valid i hi)
theorem k5i {l : La} (hw : kld l) : ∃ c, ken l = some c ∧ kce l = some c ∧ (c = 0 ↔ ValidL l) ∧ (c = 0 → kyj l) := by
  obtain ⟨c, c1, c2, c3⟩ := kz5 l hw
  obtain ⟨d, d1, d2⟩ := k5a hw hw.name hw.symbols hw.names hw.rules (fun r hr => (hw.wide r hr).1)
  obtain rfl : d = c := by rw [d1] at c2; exact Option.some.inj c2
  exact ⟨d, c1, c2, d2, c3⟩
end Go.Proofs.YtaimpcnpifoidaaGreatDoor
set_option linter.unusedVariables false
set_option linter.unusedSimpArgs false
set_option maxRecDepth 100000
namespace Go.Proofs.YtaimpcnpifoidaaGreatDoor
open Go Go.RowKit Go.Proofs
theorem kaa7 : ket = some true := by kernel_rfl
end Go.Proofs.YtaimpcnpifoidaaGreatDoor
set_option linter.unusedVariables false
set_option linter.unusedSimpArgs false
set_option maxRecDepth 100000
namespace Go.Proofs.YtaimpcnpifoidaaGreatDoor
open Go Go.RowKit
def bsOf (s : ByteArray) : List UInt8 := s.data.toList
theorem k0v (s : ByteArray) : mkB (bsOf s) = s := by simp [mkB, bsOf]
theorem kr7 (s : ByteArray) : (bsOf s).length = s.size := by cases s; rfl
def ruD : Ru := Ru.mk 0 0 0 (Va.mk 0 0 ⟨#[]⟩ []) ⟨#[]⟩ []
def kbf (l : La) (i : Int) : Ru := l.rules.getD i.toNat ruD
theorem ko9 {l : La} {i : Int} (h0 : 0 ≤ i) (h1 : i < (l.rules.length : Int)) : idx l.rules i = some (kbf l i) ∧ kbf l i ∈ l.rules := by
  have hlt : i.toNat < l.rules.length := by omega
  have e : kbf l i = l.rules[i.toNat] := by unfold kbf; simp [List.getD, List.getElem?_eq_getElem hlt]
  rw [e]
  refine ⟨?_, List.getElem_mem hlt⟩
  unfold idx
  rw [if_pos h0, List.getElem?_eq_getElem hlt]
def kp2 (r : Ru) : List UInt8 := if r.kind = 1 then 105 :: 110 :: kjr r.input else ka2 r.const
mutual
def txT (l : La) : Tm → List UInt8
  | .mk i ys => if (kbf l i).kind = 3 then bsOf (kbf l i).op ++ (40 :: (kbp (txTs l ys) ++ [41])) else kp2 (kbf l i)
def txTs (l : La) : List Tm → List (List UInt8)
  | [] => []
  | t :: ts => txT l t :: txTs l ts
end
theorem ksf (l : La) : ∀ ts : List Tm, txTs l ts = ts.map (txT l)
  | [] => rfl
  | t :: ts => by rw [txTs, ksf l ts]; rfl
inductive OkT (l : La) : Tm → Prop
  | mk {i : Int} {ys : List Tm} (h0 : 0 ≤ i) (h1 : i < (l.rules.length : Int)) (hl : (kbf l i).kind = 3 → ys ≠ []) (ha : ∀ a ∈ ys, OkT l a) : OkT l (.mk i ys)
theorem ksk : ∀ (ls : List (List UInt8)) (x : List UInt8), ls ≠ [] → kbp (ls ++ [x]) = kbp ls ++ (44 :: 32 :: x)
  | [], x, h => absurd rfl h
  | [a], x, _ => by simp [kbp]
  | a :: b :: ls, x, _ => by
    have := ksk (b :: ls) x (by simp)
    simp only [List.cons_append] at this ⊢
    simp only [kbp, this]
    simp
theorem kvd : ∀ ls : List (List UInt8), (kbp ls).length ≤ (ls.map fun x => x.length + 2).sum
  | [] => by simp [kbp]
  | [a] => by simp [kbp]
  | a :: b :: ls => by
    have := kvd (b :: ls)
    simp only [kbp, List.map_cons, List.sum_cons, List.length_append, List.length_cons, List.length_nil] at this ⊢
    omega
theorem kzr {r : Ru} (h : WrR r) (hk : r.kind ≠ 1 → klg r.const) : (kp2 r).length ≤ 60000 := by
  unfold kp2
  split
  · have := kpy (n := r.input) (by have := h.inp.1; omega) (by have := h.inp.2; omega)
    simp only [List.length_cons]; omega
  · rename_i hne; exact k6z (hk hne)
structure OkL (l : La) : Prop where
  wr : ∀ r ∈ l.rules, WrR r
  kind : ∀ r ∈ l.rules, r.kind = 1 ∨ r.kind = 2 ∨ r.kind = 3
theorem OkL.val {l : La} (h : OkL l) {r : Ru} (hr : r ∈ l.rules) (h1 : r.kind ≠ 1) (h3 : r.kind ≠ 3) : r.kind = 2 ∧ klg r.const := by
  rcases h.kind r hr with h | h2 | h
  · exact absurd h h1
  · exact ⟨h2, ((h.wr r hr).const h2).1⟩
  · exact absurd h h3
theorem kzk {l : La} (hw : OkL l) : ∀ t, OkT l t → (txT l t).length + 2 ≤ 70000 * t.size := by
  refine Tm.ind fun i ys ih => ?_
  rintro ⟨h0, h1, hl, ha⟩
  obtain ⟨_, hm⟩ := ko9 h0 h1
  have hr := hw.wr _ hm
  have hsz : (Tm.mk i ys).size = Tm.sizeL ys + 1 := rfl
  rw [hsz]
  unfold txT
  split
  · have key : ∀ ts : List Tm, (∀ t ∈ ts, (txT l t).length + 2 ≤ 70000 * t.size) → ((ts.map (txT l)).map fun x => x.length + 2).sum ≤ 70000 * Tm.sizeL ts := by
      intro ts
      induction ts with
      | nil => intro _; simp
      | cons t ts iht =>
        intro h
        have e : Tm.sizeL (t :: ts) = t.size + Tm.sizeL ts := rfl
        have q1 := h t (by simp)
        have q2 := iht fun x hx => h x (by simp [hx])
        simp only [List.map_cons, List.sum_cons, e, Nat.mul_add] at *
        omega
    have k := key ys fun t ht => ih t ht (ha t ht)
    have j := kvd (ys.map (txT l))
    have ho := hr.op
    rw [ksf]
    simp only [List.length_append, List.length_cons, List.length_nil, kr7]
    omega
  · rename_i hk
    have := kzr hr fun h => (hw.val hm h hk).2
    omega
theorem kadc {l : La} (hw : OkL l) {r : Ru} (hr : r ∈ l.rules) (h3 : r.kind ≠ 3) : kgq r = some (mkB (kp2 r)) := by
  have h := hw.wr r hr
  unfold kgq kp2
  by_cases h1 : r.kind = 1
  · have hlen := kpy (n := r.input) (by have := h.inp.1; omega) (by have := h.inp.2; omega)
    simp only [h1, beq_self_eq_true, cond_true, if_true, h.inp.itoa, Option.bind_some]
    rw [show ((⟨#[105, 110]⟩ : ByteArray)) = mkB [105, 110] from rfl, kd4 (by simp; omega)]
    rfl
  · obtain ⟨h2, _⟩ := hw.val hr h1 h3
    rw [show (r.kind == 1) = false from beq_false_of_ne h1, cond_false, if_neg h1, (h.const h2).2.1]
    rfl
theorem kacg {l : La} (hw : OkL l) {r : Ru} (hr : r ∈ l.rules) (h3 : r.kind ≠ 3) : (bif (r.kind == 1) then (Option.bind (keh (r.input)) fun v2 => (Option.bind (cat (⟨#[105, 110]⟩ : ByteArray) v2) fun v3 => (some v3))) else (Option.bind (kdv (r.const)) fun v4 => (some v4.1))) = some (mkB (kp2 r)) := by
  have h := hw.wr r hr
  unfold kp2
  by_cases h1 : r.kind = 1
  · have hlen := kpy (n := r.input) (by have := h.inp.1; omega) (by have := h.inp.2; omega)
    simp only [h1, beq_self_eq_true, cond_true, if_true, h.inp.num, Option.bind_some]
    rw [show ((⟨#[105, 110]⟩ : ByteArray)) = mkB [105, 110] from rfl, kd4 (by simp; omega)]
    rfl
  · obtain ⟨h2, _⟩ := hw.val hr h1 h3
    rw [show (r.kind == 1) = false from beq_false_of_ne h1, cond_false, if_neg h1, (h.const h2).2.2]
    rfl
def preB (l : La) (ys : List Tm) (k : Nat) : List UInt8 := if k = 0 then [] else 40 :: kbp ((ys.take k).map (txT l))
theorem k5j {l : La} {ys : List Tm} {k : Nat} (hk : k < ys.length) : preB l ys (k + 1) = preB l ys k ++ ((if k = 0 then [40] else [44, 32]) ++ txT l ys[k]) := by
  unfold preB
  rw [if_neg (by omega), List.take_succ_eq_append_getElem hk, List.map_append]
  by_cases h : k = 0
  · subst h; simp [kbp]
  · rw [if_neg h, if_neg h]
    have hne : (ys.take k).map (txT l) ≠ [] := by
      intro e
      have := congrArg List.length e
      simp at this
      rcases this with h' | h'
      · exact h h'
      · rw [h'] at hk; simp at hk
    simp only [List.map_cons, List.map_nil]
    rw [ksk _ _ hne]
    simp
theorem kmx {l : La} (hw : OkL l) {ys : List Tm} (ha : ∀ a ∈ ys, OkT l a) (k : Nat) : (preB l ys k).length ≤ 70000 * Tm.sizeL ys + 1 := by
  have key : ∀ ts : List Tm, (∀ t ∈ ts, (txT l t).length + 2 ≤ 70000 * t.size) → ((ts.map (txT l)).map fun x => x.length + 2).sum ≤ 70000 * Tm.sizeL ts := by
    intro ts
    induction ts with
    | nil => intro _; simp
    | cons t ts iht =>
      intro h
      have e : Tm.sizeL (t :: ts) = t.size + Tm.sizeL ts := rfl
      have q1 := h t (by simp)
      have q2 := iht fun x hx => h x (by simp [hx])
      simp only [List.map_cons, List.sum_cons, e, Nat.mul_add] at *
      omega
  unfold preB
  split
  · simp
  · have k1 := key (ys.take k) fun t ht => kzk hw t (ha t (List.mem_of_mem_take ht))
    have k2 := kvd ((ys.take k).map (txT l))
    have k3 : Tm.sizeL (ys.take k) ≤ Tm.sizeL ys := Tm.sizeL_take ys k
    simp only [List.length_cons]
    omega
theorem ky5 {l : La} (hw : OkL l) : ∀ (n : Nat) (t : Tm), t.size ≤ n → t.size ≤ 1000 → OkT l t → ∀ acc : List UInt8, acc.length + 70000 * t.size ≤ 1000000000 → ke4 n (iB acc) l t = some (iB (acc ++ txT l t))
  | 0, t, h, _, _, _, _ => by have := Tm.size_pos t; omega
  | n + 1, .mk i ys, hn, hs, ⟨h0, h1, hl, ha⟩, acc, hacc => by
    have hsz : (Tm.mk i ys).size = Tm.sizeL ys + 1 := rfl
    obtain ⟨e1, hm⟩ := ko9 h0 h1
    have hr := hw.wr _ hm
    have ho := hr.op
    show kgh (ke4 n) (iB acc) l (.mk i ys) = _
    unfold kgh txT
    rw [show (Tm.mk i ys).rule = i from rfl, e1]
    simp only [Option.bind_some]
    by_cases h3 : (kbf l i).kind = 3
    · rw [if_pos h3, show ((kbf l i).kind != 3) = false by rw [h3]; rfl, cond_false]
      rw [kkj (l := bsOf (kbf l i).op) (k0v _).symm (by omega) (by rw [kr7]; omega), Option.bind_some]
      have hal : ys.length ≤ Tm.sizeL ys := kiq ys
      have hne := hl h3
      have hob := kr7 (kbf l i).op
      have main : Ev (kaa (kfw l (.mk i ys) (ke4 n)) fuel (0, iB (acc ++ bsOf (kbf l i).op))) (· = iB (acc ++ bsOf (kbf l i).op ++ preB l ys ys.length)) := by
        refine kok ys.length (fun k s => s = ((k : Int), iB (acc ++ bsOf (kbf l i).op ++ preB l ys k))) (by omega) (by simp [preB]) (fun k s hk hI => ?_) fun s hI => ?_
        · subst hI
          have hp := kmx hw ha k
          have hak := ha _ (List.getElem_mem hk)
          have hsk := Tm.sizeL_mem (List.getElem_mem hk)
          have htl := kzk hw _ hak
          have hsl := klf ys (k + 1) (by omega)
          refine kyo (s := (((k + 1 : Nat) : Int), iB (acc ++ bsOf (kbf l i).op ++ preB l ys (k + 1)))) ?_ rfl
          have hpl : (acc ++ bsOf (kbf l i).op ++ preB l ys k).length + 2 + 70000 * (ys[k]).size ≤ 1000000000 := by
            have hpk : (preB l ys k).length + 70000 * (ys[k]).size ≤ 70000 * Tm.sizeL ys + 1 := by
              have e : Tm.sizeL (ys.take (k + 1)) = Tm.sizeL (ys.take k) + (ys[k]).size := sizeL_take hk
              have p2 := kmx hw (ys := ys.take k) (fun a h => ha a (List.mem_of_mem_take h)) k
              have e2 : preB l (ys.take k) k = preB l ys k := by unfold preB; rw [List.take_take, Nat.min_self]
              rw [e2] at p2
              omega
            simp only [List.length_append]
            omega
          have sep : idx ([(⟨#[40]⟩ : ByteArray), (⟨#[44, 32]⟩ : ByteArray)] : List ByteArray) (imin (k : Int) 1) = some (mkB (if k = 0 then [40] else [44, 32])) := by
            by_cases hk0 : k = 0
            · subst hk0; rfl
            · rw [if_neg hk0, show imin (k : Int) 1 = 1 by unfold imin; split <;> omega]; rfl
          have hlen2 : (if k = 0 then ([40] : List UInt8) else [44, 32]).length ≤ 2 := by split <;> simp
          have w1 := kkj (acc := acc ++ bsOf (kbf l i).op ++ preB l ys k) (l := if k = 0 then [40] else [44, 32]) (s := mkB (if k = 0 then [40] else [44, 32])) rfl (by omega) (by omega)
          have w2 := ky5 hw n ys[k] (by omega) (by omega) hak (acc ++ bsOf (kbf l i).op ++ preB l ys k ++ (if k = 0 then [40] else [44, 32])) (by rw [List.length_append]; omega)
          simp only [kfw, show (Tm.mk i ys).args = ys from rfl, kd3 hk, cond_true, kan, List.getElem?_eq_getElem hk, Option.bind_some, sep, w1, w2, w64s k (by omega)]
          rw [k5j hk]
          simp only [List.append_assoc]
        · subst hI
          refine kvv (b := iB (acc ++ bsOf (kbf l i).op ++ preB l ys ys.length)) ?_ rfl
          simp only [kfw, show (Tm.mk i ys).args = ys from rfl, kjg, cond_false]
      have hpl := kmx hw ha ys.length
      rw [main.eq, Option.bind_some, kog (acc := acc ++ bsOf (kbf l i).op ++ preB l ys ys.length) (c := 41) (n := 41) rfl (by simp only [List.length_append]; omega), Option.bind_some]
      have hpre : preB l ys ys.length = 40 :: kbp (txTs l ys) := by
        unfold preB
        rw [if_neg (by intro e; exact hne (List.eq_nil_of_length_eq_zero e)), List.take_length, ksf]
      rw [hpre]
      simp
    · rw [if_neg h3, show ((kbf l i).kind != 3) = true by rw [bne_iff_ne]; exact h3, cond_true, kadc hw hm h3]
      have := kzr hr fun h => (hw.val hm h h3).2
      rw [Option.bind_some, kkj (l := kp2 (kbf l i)) rfl (by omega) (by omega)]
      rfl
theorem k13 {l : La} (hw : OkL l) : ∀ (n : Nat) (t : Tm), t.size ≤ n → t.size ≤ 1000 → OkT l t → kec n l t = some (mkB (txT l t))
  | 0, t, h, _, _ => by have := Tm.size_pos t; omega
  | n + 1, .mk i ys, hn, hs, ⟨h0, h1, hl, ha⟩ => by
    have hsz : (Tm.mk i ys).size = Tm.sizeL ys + 1 := rfl
    obtain ⟨e1, hm⟩ := ko9 h0 h1
    have hr := hw.wr _ hm
    have ho := hr.op
    show ke8 (kec n) l (.mk i ys) = _
    unfold ke8 txT
    rw [show (Tm.mk i ys).rule = i from rfl, e1]
    simp only [Option.bind_some]
    by_cases h3 : (kbf l i).kind = 3
    · have hob := kr7 (kbf l i).op
      rw [if_pos h3, show ((kbf l i).kind == 1) = false by rw [h3]; rfl, show ((kbf l i).kind == 2) = false by rw [h3]; rfl, cond_false, cond_false]
      have c1 : cat (kbf l i).op (⟨#[40]⟩ : ByteArray) = some (mkB (bsOf (kbf l i).op ++ [40])) := by
        rw [show (⟨#[40]⟩ : ByteArray) = mkB [40] from rfl]
        conv => lhs; rw [← k0v (kbf l i).op]
        exact kd4 (by rw [hob]; simp; omega)
      rw [c1, Option.bind_some]
      have hal : ys.length ≤ Tm.sizeL ys := kiq ys
      have hne := hl h3
      have main : Ev (kaa (kez l (.mk i ys) (kec n)) fuel (mkB (bsOf (kbf l i).op ++ [40]), 0)) (· = mkB (bsOf (kbf l i).op ++ (40 :: kbp ((ys.take ys.length).map (txT l))))) := by
        refine kok ys.length (fun k s => s = (mkB (bsOf (kbf l i).op ++ (40 :: kbp ((ys.take k).map (txT l)))), (k : Int))) (by omega) (by simp [kbp]) (fun k s hk hI => ?_) fun s hI => ?_
        · subst hI
          have hak := ha _ (List.getElem_mem hk)
          have hsk := Tm.sizeL_mem (List.getElem_mem hk)
          have htl := kzk hw _ hak
          have hp := kmx hw ha (k + 1)
          have hp0 := kmx hw ha k
          have e0 : (kbp ((ys.take k).map (txT l))).length ≤ 70000 * Tm.sizeL ys + 1 := by
            unfold preB at hp0
            by_cases hk0 : k = 0
            · subst hk0; simp [kbp]
            · rw [if_neg hk0] at hp0; simp only [List.length_cons] at hp0; omega
          refine kyo (s := (mkB (bsOf (kbf l i).op ++ (40 :: kbp ((ys.take (k + 1)).map (txT l)))), ((k + 1 : Nat) : Int))) ?_ rfl
          have w2 := k13 hw n ys[k] (by omega) (by omega) hak
          rw [List.take_succ_eq_append_getElem hk, List.map_append]
          simp only [kez, show (Tm.mk i ys).args = ys from rfl, kd3 hk, cond_true, kan, List.getElem?_eq_getElem hk, Option.bind_some, w2, w64s k (by omega), List.map_cons, List.map_nil]
          by_cases hk0 : k = 0
          · subst hk0
            rw [show decide ((0 : Int) < ((0 : Nat) : Int)) = false from rfl, cond_false, Option.bind_some, kd4 (by simp only [List.length_append, List.length_cons]; omega)]
            simp [kbp]
          · have hnk : (ys.take k).map (txT l) ≠ [] := by
              intro e
              have := congrArg List.length e
              simp at this
              rcases this with h' | h'
              · exact hk0 h'
              · rw [h'] at hk; simp at hk
            rw [show decide ((0 : Int) < (k : Int)) = true from decide_eq_true (by omega), cond_true, show (⟨#[44, 32]⟩ : ByteArray) = mkB [44, 32] from rfl, kd4 (by simp only [List.length_append, List.length_cons, List.length_nil]; omega), Option.bind_some, Option.bind_some,
              kd4 (by simp only [List.length_append, List.length_cons, List.length_nil]; omega), Option.bind_some, ksk _ _ hnk]
            simp
        · subst hI
          refine kvv (b := mkB (bsOf (kbf l i).op ++ (40 :: kbp ((ys.take ys.length).map (txT l))))) ?_ rfl
          simp only [kez, show (Tm.mk i ys).args = ys from rfl, kjg, cond_false]
      have hpl := kmx hw ha ys.length
      have hpre : (kbp ((ys.take ys.length).map (txT l))).length ≤ 70000 * Tm.sizeL ys + 1 := by
        unfold preB at hpl
        rw [if_neg (by intro e; exact hne (List.eq_nil_of_length_eq_zero e))] at hpl
        simp only [List.length_cons] at hpl; omega
      rw [main.eq, Option.bind_some, show (⟨#[41]⟩ : ByteArray) = mkB [41] from rfl, kd4 (by simp only [List.length_append, List.length_cons, List.length_nil]; omega), Option.bind_some, List.take_length, ksf]
      simp
    · rw [if_neg h3]
      have hk := kacg hw hm h3
      by_cases hk1 : (kbf l i).kind = 1
      · rw [show ((kbf l i).kind == 1) = true by rw [hk1]; rfl, cond_true] at hk ⊢
        exact hk
      · obtain ⟨h2, _⟩ := hw.val hm hk1 h3
        rw [show ((kbf l i).kind == 1) = false from beq_false_of_ne hk1, cond_false] at hk ⊢
        rw [show ((kbf l i).kind == 2) = true by rw [h2]; rfl, cond_true]
        exact hk
end Go.Proofs.YtaimpcnpifoidaaGreatDoor
set_option linter.unusedVariables false
set_option linter.unusedSimpArgs false
set_option maxRecDepth 100000
namespace Go.Proofs.YtaimpcnpifoidaaGreatDoor
open Go Go.RowKit
inductive ktr : Tm → Prop
  | mk {i : Int} {ys : List Tm} (h : ys.length ≤ 9223372036854775807) (ha : ∀ a ∈ ys, ktr a) : ktr (.mk i ys)
theorem kabq {S : Nat → Prop} {w : World} : ∀ (t : Tm) (v : Value), RF S w v (eL 2 eTmR t.args) → ktr t := by
  refine Tm.ind fun i ys ih => ?_
  intro v h
  have h : RF S w v (.lst 2 ys.length (ys.map eTmR)) := h
  cases h with
  | @lst A cap _ _ _ css e1 hc hm hs ha hl hr =>
    refine ⟨by omega, fun a hm' => ?_⟩
    obtain ⟨j, hj, rfl⟩ := List.mem_iff_getElem.1 hm'
    have hy : (ys.map eTmR)[j]? = some (eTmR ys[j]) := by rw [List.getElem?_map, List.getElem?_eq_getElem hj]; rfl
    obtain ⟨k1, k2, _⟩ := hl j _ hy
    match hcs : css j, k1 with
    | [p, q], _ =>
      refine ih _ (List.getElem_mem hj) q (hr j _ 1 q _ hy (by rw [hcs]; rfl) ?_)
      rw [kmp]
      rfl
theorem kaaq {S : Nat → Prop} {w : World} {v : Value} {t : Tm} (h : RF S w v (eTm t)) : ktr t := by
  obtain ⟨a, b, rfl, _, hb⟩ := RF.key2 (x := eI t.rule) (y := eL 2 eTmR t.args) h
  exact kabq t b hb
theorem kr5 (a : Int) : ∃ q : Int, w64 a = a + q * 18446744073709551616 ∧ -9223372036854775808 ≤ w64 a ∧ w64 a ≤ 9223372036854775807 := by
  unfold w64 IntKind.wrap IntKind.signed IntKind.bits
  simp only [Bool.true_and]
  split
  · rename_i h
    have h := of_decide_eq_true h
    exact ⟨-(a / 18446744073709551616) - 1, by omega, by omega, by omega⟩
  · rename_i h
    have h := of_decide_eq_false (eq_false_of_ne_true h)
    exact ⟨-(a / 18446744073709551616), by omega, by omega, by omega⟩
theorem kaap (a b : Int) : w64 (w64 a + w64 b) = w64 (a + b) := by
  obtain ⟨q, h1, h2, h3⟩ := kr5 a
  obtain ⟨q', h4, h5, h6⟩ := kr5 b
  obtain ⟨q2, h7, h8, h9⟩ := kr5 (w64 a + w64 b)
  obtain ⟨q3, k1, k2, k3⟩ := kr5 (a + b)
  omega
theorem kzs : ∀ (n : Nat) (t : Tm), t.size ≤ n → ktr t → kea n t = some (w64 (t.size : Int))
  | 0, t, h, _ => by have := Tm.size_pos t; omega
  | n + 1, .mk i ys, hn, ⟨hlen, ha⟩ => by
    have hsz : (Tm.mk i ys).size = Tm.sizeL ys + 1 := rfl
    show kfc (kea n) (.mk i ys) = _
    unfold kfc
    have main : Ev (kaa (kew (.mk i ys) (kea n)) fuel (1, 0)) (· = w64 ((Tm.sizeL ys + 1 : Nat) : Int)) := by
      refine kok ys.length (fun k s => s = (w64 ((Tm.sizeL (ys.take k) + 1 : Nat) : Int), (k : Int))) (by omega) (by simp [Tm.sizeL]; rfl) (fun k s hk hI => ?_) fun s hI => ?_
      · subst hI
        have hm := Tm.sizeL_mem (List.getElem_mem hk)
        refine kyo (s := (w64 ((Tm.sizeL (ys.take (k + 1)) + 1 : Nat) : Int), ((k + 1 : Nat) : Int))) ?_ rfl
        have e := kzs n ys[k] (by omega) (ha _ (List.getElem_mem hk))
        simp only [kew, show (Tm.mk i ys).args = ys from rfl, kd3 hk, cond_true, kan, List.getElem?_eq_getElem hk, Option.bind_some, e, kaap, kx1 hk hlen]
        rw [sizeL_take hk]
        congr 4
        push_cast
        omega
      · subst hI
        refine kvv (b := w64 ((Tm.sizeL ys + 1 : Nat) : Int)) ?_ rfl
        simp only [kew, show (Tm.mk i ys).args = ys from rfl, kjg, cond_false, List.take_length]
    rw [main.eq, hsz]
    rfl
theorem k42 (l : La) (s : Int) (t : Tm) (hl : kld l) (ht : 4096 < t.size) : ∃ c, kh1 l s t = some c ∧ kdx l s t = some c ∧ c ≠ 0 := by
  obtain ⟨c, c1, c2, c3⟩ := kz5 l hl
  unfold kh1 kdx
  rw [c1, c2]
  simp only [Option.bind_some]
  by_cases hc : c = 0
  · subst hc
    have hz : ((0 : Int) != 0) = false := rfl
    rw [hz]
    simp only [cond_false]
    by_cases s0 : s < 0
    · rw [decide_eq_true s0]; exact ⟨1, rfl, rfl, by decide⟩
    by_cases s1 : (l.symbols.length : Int) ≤ s
    · rw [decide_eq_false s0, decide_eq_true s1]; exact ⟨1, rfl, rfl, by decide⟩
    have hb : kfg fuel t 4096 = some (kd5 4096 t.size) := (kp3 fuel t 4096 (by omega) (kdk (by omega))).2
    have hw : kdj t 4096 = some (decide (t.size ≤ 4096)) := kxn t 4096 (by omega)
    have hneg : decide (kd5 4096 t.size < 0) = true := decide_eq_true (by unfold kd5; split <;> omega)
    rw [decide_eq_false s0, decide_eq_false s1]
    simp only [cond_false, Option.bind_some, hb, hw, hneg, decide_eq_false (show ¬ t.size ≤ 4096 by omega), Bool.not_false, cond_true]
    exact ⟨2, rfl, rfl, by decide⟩
  · rw [show (c != 0) = true by rw [bne_iff_ne]; exact hc]
    exact ⟨c, rfl, rfl, hc⟩
end Go.Proofs.YtaimpcnpifoidaaGreatDoor
set_option linter.unusedVariables false
set_option linter.unusedSimpArgs false
set_option maxRecDepth 100000
namespace Go.Proofs.YtaimpcnpifoidaaGreatDoor
open Go Go.RowKit
theorem kadh {l : La} {i : Int} {x : Ru} (h : idx l.rules i = some x) : 0 ≤ i ∧ i < (l.rules.length : Int) ∧ x = kbf l i ∧ x ∈ l.rules := by
  have h0 : 0 ≤ i ∧ i < (l.rules.length : Int) := by
    unfold idx at h
    split at h
    · rename_i hi
      have := (List.getElem?_eq_some_iff.1 h).1
      omega
    · cases h
  obtain ⟨e, hm⟩ := ko9 h0.1 h0.2
  rw [e] at h
  injection h with h
  subst h
  exact ⟨h0.1, h0.2, rfl, hm⟩
theorem kv2 : ∀ (n : Nat) (l : La) (s : Int) (t : Tm), t.size ≤ 1000 → t.size ≤ n → (∀ x ∈ l.rules, x.kind ≠ 3 → x.args.length = 0) → (∀ x ∈ l.rules, x.kind = 3 → 1 ≤ x.args.length) → kcm n l s t = some 0 → OkT l t
  | 0, l, s, t, _, h, _, _, _ => by have := Tm.size_pos t; omega
  | n + 1, l, s, t, hs, hn, hk, hk3, h => by
    have h : kfy (kcm n) l s t = some 0 := h
    unfold kfy at h
    obtain ⟨b, h1, h⟩ := kgu h
    rcases keu h with ⟨_, h⟩ | ⟨hb, h⟩
    · cases h
    subst hb
    obtain ⟨x, h2, h⟩ := kgu h
    rcases keu h with ⟨_, h⟩ | ⟨_, h⟩
    · cases h
    rcases keu h with ⟨_, h⟩ | ⟨hl, h⟩
    · cases h
    have hl : t.args.length = x.args.length := by have := bne_eq_false_iff_eq.1 hl; omega
    obtain ⟨v, h3, h⟩ := kgu h
    have hv : ∀ c : Int, c ≠ 0 → (.inr c : Unit ⊕ Int) ≠ v := fun c hc he => by
      subst he
      cases h
      exact hc rfl
    have hsa := k3h (t := t)
    have hal := kiq t.args
    have hst : ∀ (i : Nat) (hi : i < t.args.length), ∃ c, kcm n l (x.args[i]'(by omega)) t.args[i] = some c ∧ keg l t (kcm n) x (i : Int) = (bif c != 0 then some (.inr (.inr c)) else some (.inl ((i + 1 : Nat) : Int))) := fun i hi => by
      have hm := Tm.sizeL_mem (List.getElem_mem hi)
      obtain ⟨c, c1, _⟩ := ko6 n l (x.args[i]'(by omega)) t.args[i] (by omega) (by omega) hk
      refine ⟨c, c1, ?_⟩
      simp only [keg, kd3 hi, cond_true, kan, List.getElem?_eq_getElem hi, List.getElem?_eq_getElem (show i < x.args.length by omega), Option.bind_some, c1, kx1 hi (show t.args.length ≤ 9223372036854775807 by omega)]
    have hall := fun i (hi : i < t.args.length) => kll (step := keg l t (kcm n) x) t.args.length (fun i => (i : Int)) v (fun i hi => by
      obtain ⟨c, _, c2⟩ := hst i hi
      rw [c2]
      cases hc : (c != 0) with
      | true => exact .inr ⟨_, rfl, hv c (by simpa using hc)⟩
      | false => exact .inl rfl) fuel 0 h3 i (Nat.zero_le _) hi
    obtain ⟨q0, q1, rfl, q3⟩ := kadh h2
    obtain ⟨i0, ys⟩ := t
    refine ⟨q0, q1, fun h3' e => ?_, fun a ha => ?_⟩
    · have := hk3 _ q3 h3'
      have hz : (Tm.mk i0 ys).args.length = 0 := by rw [show (Tm.mk i0 ys).args = ys from rfl, e]; rfl
      have h1 : (kbf l (Tm.mk i0 ys).rule).args.length = (kbf l i0).args.length := rfl
      omega
    · obtain ⟨i, hi, rfl⟩ := List.mem_iff_getElem.1 ha
      obtain ⟨c, c1, c2⟩ := hst i hi
      have ha' := hall i hi
      rw [c2] at ha'
      have hm := Tm.sizeL_mem (List.getElem_mem hi)
      cases hc : (c != 0) with
      | true => rw [hc] at ha'; cases ha'
      | false =>
        have hc := bne_eq_false_iff_eq.1 hc
        subst hc
        have hm' : (ys[i]).size ≤ Tm.sizeL ys := hm
        have hsa' : Tm.sizeL ys + 1 = (Tm.mk i0 ys).size := rfl
        exact kv2 n l _ ys[i] (by omega) (by omega) hk hk3 c1
theorem k0e : opNames.all (fun n => (kbg n).all fun o => decide (1 ≤ o.1.f_Args.length)) = true := by kernel_rfl
theorem ValidL.okL {l : La} (hw : kld l) (h : ValidL l) : OkL l := by
  refine ⟨(k6p hw h).ruls, fun r hr => ?_⟩
  obtain ⟨i, hi, rfl⟩ := List.mem_iff_getElem.1 hr
  rcases (h.valid i hi).2 with q | q | q
  · exact .inl q.1
  · exact .inr (.inl q.1)
  · exact .inr (.inr q.1)
theorem ValidL.one {l : La} (h : ValidL l) : ∀ x ∈ l.rules, x.kind = 3 → 1 ≤ x.args.length := by
  intro r hr hk
  obtain ⟨i, hi, rfl⟩ := List.mem_iff_getElem.1 hr
  rcases (h.valid i hi).2 with q | q | q
  · have := q.1; omega
  · have := q.1; omega
  · obtain ⟨_, _, _, o, q4, q5, _⟩ := q
    have hin := k1y q4
    have := List.all_eq_true.1 k0e _ hin
    rw [q4] at this
    have h1 : 1 ≤ o.f_Args.length := by simpa using this
    omega
theorem k4p (l : La) (t : Tm) (hl : kld l) (ht : t.size ≤ 1000 ∨ 4096 < t.size) : ∃ x, kf2 l t = some x ∧ kfi l t = some x ∧ (x.2 = 0 → x.1 = mkB (txT l t) ∧ ValidL l ∧ OkT l t ∧ t.size ≤ 1000 ∧ ∃ r, idx l.rules t.rule = some r ∧ kcm fuel l r.symbol t = some 0) := by
  obtain ⟨c, c1, c2, c3, c4⟩ := k5i hl
  unfold kf2 kfi
  rw [c1, c2]
  simp only [Option.bind_some]
  by_cases hc : c = 0
  · subst hc
    rw [show ((0 : Int) != 0) = false from rfl]
    simp only [cond_false]
    by_cases s0 : t.rule < 0
    · rw [decide_eq_true s0]; exact ⟨_, rfl, rfl, fun h => absurd h (by decide)⟩
    by_cases s1 : (l.rules.length : Int) ≤ t.rule
    · rw [decide_eq_false s0, decide_eq_true s1]; exact ⟨_, rfl, rfl, fun h => absurd h (by decide)⟩
    obtain ⟨e, hm⟩ := ko9 (l := l) (i := t.rule) (by omega) (by omega)
    rw [decide_eq_false s0, decide_eq_false s1]
    simp only [cond_false, Option.bind_some, e]
    rcases ht with ht | ht
    · obtain ⟨d, d1, d2, d3⟩ := k3g l (kbf l t.rule).symbol t hl ht
      rw [d1, d2]
      simp only [Option.bind_some]
      by_cases hd : d = 0
      · subst hd
        rw [show ((0 : Int) != 0) = false from rfl]
        simp only [cond_false]
        obtain ⟨hg, hder⟩ := d3 rfl
        have hv := c3.1 rfl
        have hok := kv2 fuel l _ t ht (Nat.le_of_lt (kdk (by omega))) (fun x hx hk => by rw [(hg.good x hx).noargs hk]; rfl) hv.one hder
        have hw := hv.okL hl
        have w := ky5 hw fuel t (Nat.le_of_lt (kdk (by omega))) ht hok [] (by simp; omega)
        rw [show ([] : List Int) = iB [] from rfl, w, k13 hw fuel t (Nat.le_of_lt (kdk (by omega))) ht hok]
        refine ⟨(mkB (txT l t), 0), ?_, rfl, fun _ => ⟨rfl, hv, hok, ht, _, rfl, hder⟩⟩
        simp only [List.nil_append, Option.bind_some, kbj, kw1]
      · rw [show (d != 0) = true by rw [bne_iff_ne]; exact hd]
        exact ⟨_, rfl, rfl, fun h => absurd h hd⟩
    · obtain ⟨d, d1, d2, d3⟩ := k42 l (kbf l t.rule).symbol t hl ht
      rw [d1, d2]
      simp only [Option.bind_some]
      rw [show (d != 0) = true by rw [bne_iff_ne]; exact d3]
      exact ⟨_, rfl, rfl, fun h => absurd h d3⟩
  · rw [show (c != 0) = true by rw [bne_iff_ne]; exact hc]
    exact ⟨_, rfl, rfl, fun h => absurd h hc⟩
theorem kacu (l : La) : kgm l = some (decide (l.rules.length ≤ 20) && decide (l.symbols.length ≤ 8)) := by
  unfold kgm
  by_cases h1 : l.rules.length ≤ 20
  · rw [decide_eq_true (show (l.rules.length : Int) ≤ 20 by omega), decide_eq_true h1]
    simp only [cond_true, Option.bind_some, Bool.true_and]
    congr 1
    exact decide_eq_decide.2 (by omega)
  · rw [decide_eq_false (show ¬ (l.rules.length : Int) ≤ 20 by omega), decide_eq_false h1]
    rfl
theorem k3s (t : Tm) (h : ¬ (100 < w64 (t.size : Int))) : t.size ≤ 100 ∨ 4096 < t.size := by
  by_cases hs : t.size ≤ 9223372036854775807
  · rw [knd (by omega) (by omega)] at h
    omega
  · omega
theorem ktj (l : La) (t : Tm) (hl : kld l) (ht : ktr t) : kd1 l t = some true := by
  unfold kd1
  rw [kacu, Option.bind_some, kaa7]
  cases (decide (l.rules.length ≤ 20) && decide (l.symbols.length ≤ 8)) with
  | false => rfl
  | true =>
    rw [Bool.not_true, cond_false, kzs _ t (by omega) ht]
    simp only [Option.bind_some]
    by_cases hs : 100 < w64 (t.size : Int)
    · rw [decide_eq_true hs]; rfl
    · rw [decide_eq_false hs, cond_false]
      obtain ⟨x, x1, x2, _⟩ := k4p l t hl (by rcases k3s t hs with h | h <;> omega)
      rw [x1, x2]
      simp only [Option.bind_some, beq_self_eq_true, cond_true]
end Go.Proofs.YtaimpcnpifoidaaGreatDoor
