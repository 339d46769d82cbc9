/- Index of a term of a symbol; the law CountingBijects. -/
import Derived.Test.YtfkddbccogakoaaKj
set_option linter.unusedVariables false
set_option linter.unusedSimpArgs false
namespace Go.Proofs.Ytfkddbccogakoaa
open Go Go.RowKit

mutual
/-- a term of a symbol -/
def isT (l : La) : Tm → Int → Bool
  | .mk r xs, s => (decide (0 ≤ r) && (decide (r < (l.rules.length : Int)) && symAt l r.toNat == s)) && isL l xs (argAt l r.toNat)
def isL (l : La) : List Tm → List Int → Bool
  | [], [] => true
  | x :: xs, a :: ys => isT l x a && isL l xs ys
  | [], _ :: _ => false
  | _ :: _, [] => false
end
theorem isL_len (l : La) : ∀ (xs : List Tm) (ys : List Int), isL l xs ys = true → xs.length = ys.length
  | [], [], _ => rfl
  | x :: xs, a :: ys, h => by
    rw [isL, Bool.and_eq_true] at h
    rw [List.length_cons, List.length_cons, isL_len l xs ys h.2]
  | [], _ :: _, h => by rw [isL] at h; cases h
  | _ :: _, [], h => by rw [isL] at h; cases h
theorem isL_app (l : La) : ∀ (xs us : List Tm) (ys vs : List Int), isL l xs ys = true → isL l us vs = true → isL l (xs ++ us) (ys ++ vs) = true
  | [], us, [], vs, _, h => h
  | x :: xs, us, a :: ys, vs, h, h2 => by
    rw [isL, Bool.and_eq_true] at h
    show isL l (x :: (xs ++ us)) (a :: (ys ++ vs)) = true
    rw [isL, Bool.and_eq_true]
    exact ⟨h.1, isL_app l xs us ys vs h.2 h2⟩
  | [], us, _ :: _, vs, h, _ => by rw [isL] at h; cases h
  | _ :: _, us, [], vs, h, _ => by rw [isL] at h; cases h
theorem isL_cut (l : La) : ∀ (ys vs : List Int) (q : List Tm), isL l q (ys ++ vs) = true → isL l (q.take ys.length) ys = true ∧ isL l (q.drop ys.length) vs = true
  | [], vs, q, h => by
    rw [List.length_nil, List.take_zero, List.drop_zero]
    exact ⟨by rw [isL], h⟩
  | a :: ys, vs, [], h => by
    have h : isL l [] (a :: (ys ++ vs)) = true := h
    rw [isL] at h; cases h
  | a :: ys, vs, x :: q, h => by
    have h : isL l (x :: q) (a :: (ys ++ vs)) = true := h
    rw [isL, Bool.and_eq_true] at h
    obtain ⟨h1, h2⟩ := isL_cut l ys vs q h.2
    rw [List.length_cons, List.take_succ_cons, List.drop_succ_cons, isL, Bool.and_eq_true]
    exact ⟨⟨h.1, h1⟩, h2⟩
theorem chT_is (l : La) : ∀ (k : Nat) (ys : List Int) (n : Nat), n < NS.rr (VN l) ys k → isL l (chT l k ys n) ys = true
  | 0, ys, n, h => by rw [rr_nil0 h]; show isL l [] [] = true; rw [isL]
  | k + 1, [], n, h => (rr_nils h).elim
  | k + 1, y :: tl, n, h => by
    obtain ⟨pre, i, post, n', h1, h2, h3, h4⟩ := chT_at l h
    have ih := chT_is l k _ n' h2
    obtain ⟨c1, c2⟩ := isL_cut l _ _ _ ih
    have hm := plL_mem (show i ∈ plL l y l.rules.length by rw [h1]; simp)
    rw [h4, isL, isT, Int.toNat_natCast, c1, c2, decide_eq_true (show (0 : Int) ≤ (i : Int) by omega), decide_eq_true (show (i : Int) < (l.rules.length : Int) by omega), hm.2]
    simp
/-- how many come before -/
def befN (l : La) : Nat → List Int → List Tm → Nat
  | k + 1, y :: tl, t :: ts => (((plL l y l.rules.length).filter fun i : Nat => decide ((i : Int) < t.rule)).map fun i => NS.rr (VN l) (argAt l i ++ tl) k).sum + befN l k (argAt l t.rule.toNat ++ tl) (t.args ++ ts)
  | _, _, _ => 0
theorem filter_pre {L pre post : List Nat} {i : Nat} (h : L = pre ++ i :: post) (hs : L.Pairwise (· < ·)) : (L.filter fun j : Nat => decide ((j : Int) < (i : Int))) = pre := by
  subst h
  rw [List.pairwise_append] at hs
  obtain ⟨_, h2, h3⟩ := hs
  rw [List.pairwise_cons] at h2
  have e1 : pre.filter (fun j : Nat => decide ((j : Int) < (i : Int))) = pre := List.filter_eq_self.2 fun j hj => decide_eq_true (by have := h3 j hj i (List.mem_cons_self ..); omega)
  have e2 : post.filter (fun j : Nat => decide ((j : Int) < (i : Int))) = [] := List.filter_eq_nil_iff.2 fun j hj => by
    have := h2.1 j hj
    simp
    omega
  rw [List.filter_append, List.filter_cons, e1, e2, if_neg (by simp), List.append_nil]
theorem bef_ch (l : La) : ∀ (k : Nat) (ys : List Int) (n : Nat), n < NS.rr (VN l) ys k → befN l k ys (chT l k ys n) = n
  | 0, ys, n, h => by
    have := rr_nil0 h
    subst this
    rw [SR.rr, if_pos rfl] at h
    have h1 : NS.one = 1 := rfl
    show 0 = n
    omega
  | k + 1, [], n, h => (rr_nils h).elim
  | k + 1, y :: tl, n, h => by
    obtain ⟨pre, i, post, n', h1, h2, h3, h4⟩ := chT_at l h
    have ih := bef_ch l k _ n' h2
    rw [h4, befN]
    show (((plL l y l.rules.length).filter fun j : Nat => decide ((j : Int) < (i : Int))).map _).sum + befN l k (argAt l (i : Int).toNat ++ tl) ((chT l k (argAt l i ++ tl) n').take (argAt l i).length ++ (chT l k (argAt l i ++ tl) n').drop (argAt l i).length) = n
    rw [filter_pre h1 (plL_sorted l y l.rules.length), Int.toNat_natCast, List.take_append_drop, ih]
    exact h3.symm
theorem is_at {l : La} {y : Int} {tl : List Int} {t : Tm} {ts : List Tm} (h : isL l (t :: ts) (y :: tl) = true) : ∃ i pre post, t.rule = ((i : Nat) : Int) ∧ plL l y l.rules.length = pre ++ i :: post ∧ isL l (t.args ++ ts) (argAt l i ++ tl) = true := by
  rw [isL, Bool.and_eq_true] at h
  obtain ⟨r, xs⟩ := t
  rw [isT] at h
  simp only [Bool.and_eq_true, decide_eq_true_eq, beq_iff_eq] at h
  obtain ⟨⟨⟨h1, h2, h3⟩, h4⟩, h5⟩ := h
  obtain ⟨i, rfl⟩ := Int.eq_ofNat_of_zero_le h1
  rw [Int.toNat_natCast] at h3 h4
  have hm : i ∈ plL l y l.rules.length := by unfold plL; rw [List.mem_filter, List.mem_range]; exact ⟨by omega, by simpa using h3⟩
  obtain ⟨pre, post, he⟩ := List.append_of_mem hm
  exact ⟨i, pre, post, rfl, he, isL_app l _ _ _ _ h4 h5⟩
theorem sizeL_app : ∀ a b : List Tm, Tm.sizeL (a ++ b) = Tm.sizeL a + Tm.sizeL b
  | [], b => by rw [List.nil_append]; show _ = 0 + _; omega
  | x :: a, b => by
    show x.size + Tm.sizeL (a ++ b) = (x.size + Tm.sizeL a) + Tm.sizeL b
    rw [sizeL_app a b]; omega
theorem rest_eq {α : Type} (b : Nat) (xs tl full : List α) (hc : cutL full 1 ((full.length : Nat) : Int) = some tl) (hb : (xs.length + tl.length) * (b + 1) ≤ 140737488355328) :
    (bif List.isEmpty xs then Option.bind (cutL full 1 ((full.length : Nat) : Int)) fun v15 => bif List.isEmpty v15 then some [] else Option.bind (appN b [] v15) fun v16 => some v16 else Option.bind (appN b [] xs) fun v12 => Option.bind (cutL full 1 ((full.length : Nat) : Int)) fun v13 => Option.bind (app b v12 v13) fun v14 => some v14 : Option (List α)) = some (xs ++ tl) := by
  rw [hc]
  cases xs with
  | nil =>
    cases tl with
    | nil => rfl
    | cons z tl =>
      have : appN b [] (z :: tl) = some (z :: tl) := by
        unfold appN
        show app b [] (z :: tl) = _
        rw [app_eq (by simpa using hb)]
        rfl
      simp only [List.isEmpty_nil, cond_true, Option.bind_some, List.isEmpty_cons, cond_false, this, List.nil_append]
  | cons x xs =>
    have h1 : appN b [] (x :: xs) = some (x :: xs) := by
      unfold appN
      show app b [] (x :: xs) = _
      rw [app_eq (Nat.le_trans (Nat.mul_le_mul_right _ (by simp)) hb)]
      rfl
    have h2 : app b (x :: xs) tl = some (x :: xs ++ tl) := app_eq hb
    simp only [List.isEmpty_cons, cond_false, h1, Option.bind_some, h2]
theorem before_ok {l : La} (hg : GoodL l) : ∀ (f k : Nat) (ys : List Int) (ts : List Tm) (m : List (ByteArray × Int)), k < f → k ≤ 24 → inR l ys → isL l ts ys = true → Tm.sizeL ts = k → NS.rr (VN l) ys k ≤ 1152921504606846976 → KI (VN l) m →
    befN l k ys ts ≤ NS.rr (VN l) ys k ∧ ∃ m', counting_counter_before_h2 f l m ys (k : Int) ts = some (((befN l k ys ts : Nat) : Int), m') ∧ KI (VN l) m'
  | 0, k, ys, ts, m, h, _, _, _, _, _, _ => by omega
  | f + 1, k, [], ts, m, h, _, _, hi, hz, _, hm => by
    have h0 : ts = [] := List.eq_nil_of_length_eq_zero (isL_len l ts [] hi)
    subst h0
    have hk : k = 0 := hz.symm
    subst hk
    exact ⟨Nat.zero_le _, m, rfl, hm⟩
  | f + 1, 0, y :: tl, ts, m, h, _, _, hi, hz, _, hm => by
    have h1 := isL_len l ts (y :: tl) hi
    have h2 := Tm.sizeL_len ts
    rw [List.length_cons] at h1
    omega
  | f + 1, k + 1, y :: tl, [], m, h, _, _, hi, hz, _, hm => by rw [isL] at hi; cases hi
  | f + 1, k + 1, y :: tl, t :: ts, m, h, h24, hy, hi, hz, h60, hm => by
    have h96 := hg.rules
    have h16 := hg.sym16
    have htl : inR l tl := fun z hz => hy z (List.mem_cons_of_mem _ hz)
    have hlen := isL_len l _ _ hi
    have hsl := Tm.sizeL_len (t :: ts)
    rw [List.length_cons, List.length_cons] at hlen
    rw [List.length_cons] at hsl
    obtain ⟨i, pre, post, e0, e1, e2⟩ := is_at hi
    have hsz : Tm.sizeL (t.args ++ ts) = k := by
      have : Tm.sizeL (t :: ts) = t.size + Tm.sizeL ts := rfl
      rw [sizeL_app]
      have := sizeT_args (t := t)
      omega
    have htot := rr_head l y tl k
    rw [e1, List.map_append, List.sum_append, List.map_cons, List.sum_cons] at htot
    have hbef : befN l (k + 1) (y :: tl) (t :: ts) = (pre.map fun i => NS.rr (VN l) (argAt l i ++ tl) k).sum + befN l k (argAt l i ++ tl) (t.args ++ ts) := by
      rw [befN, e0, filter_pre e1 (plL_sorted l y l.rules.length), Int.toNat_natCast]
    have hplen := plL_len l y l.rules.length
    have ew : w64 (((k + 1 : Nat) : Int) - 1) = (k : Int) := by rw [w64_eq (by omega) (by omega)]; omega
    have hL : (plL l y l.rules.length).length = pre.length + (post.length + 1) := by rw [e1, List.length_append, List.length_cons]
    have one : ∀ (q p : Nat), (plL l y l.rules.length)[q]? = some p → ∃ r, ((plL l y l.rules.length).map natI)[q]? = some (p : Int) ∧ l.rules[p]? = some r ∧ counting_args r = some (argAt l p) ∧ counting_joined (argAt l p) tl = some (argAt l p ++ tl) ∧ inR l (argAt l p ++ tl) ∧ (argAt l p ++ tl).length ≤ 100 := fun q p hq => by
      have hpm := plL_mem (List.mem_of_getElem? hq)
      obtain ⟨r, hr, _, hra, hrm⟩ := rule_at l hpm.1
      have gr := hg.good r hrm
      have hf5 := gr.few
      have hin : inR l (argAt l p ++ tl) := fun z hz => by
        rcases List.mem_append.1 hz with hz | hz
        · rw [← hra] at hz; exact gr.args z hz
        · exact htl z hz
      have hlen2 : (argAt l p ++ tl).length ≤ 100 := by rw [List.length_append, ← hra]; omega
      exact ⟨r, by rw [List.getElem?_map, hq]; rfl, hr, by rw [args_eq gr, hra], joined_eq _ _ (by rw [List.length_append] at hlen2; omega), hin, hlen2⟩
    have hpi : (plL l y l.rules.length)[pre.length]? = some i := by rw [e1, List.getElem?_append_right (Nat.le_refl _), Nat.sub_self]; rfl
    obtain ⟨ri, i1, i2, i3, i4, i5, i6⟩ := one pre.length i hpi
    have hsub : ∀ m3, KI (VN l) m3 → befN l k (argAt l i ++ tl) (t.args ++ ts) ≤ NS.rr (VN l) (argAt l i ++ tl) k ∧ ∃ m', counting_counter_before_h2 f l m3 (argAt l i ++ tl) (k : Int) (t.args ++ ts) = some (((befN l k (argAt l i ++ tl) (t.args ++ ts) : Nat) : Int), m') ∧ KI (VN l) m' := fun m3 hm3 => before_ok hg f k (argAt l i ++ tl) (t.args ++ ts) m3 (by omega) (by omega) i5 e2 hsz (by omega) hm3
    obtain ⟨hble, _⟩ := hsub m hm
    refine ⟨by rw [hbef, htot]; omega, ?_⟩
    show ∃ m', counting_counter_before_h2_b (counting_counter_before_h2 f) l m (y :: tl) ((k + 1 : Nat) : Int) (t :: ts) = _ ∧ _
    unfold counting_counter_before_h2_b
    have hl0 : (((y :: tl).length : Int) == 0) = false := by rw [beq_eq_false_iff_ne, List.length_cons]; omega
    have hi0 : idx (y :: tl) 0 = some y := rfl
    have ht0 : idx (t :: ts) 0 = some t := rfl
    rw [hl0, cond_false, hi0, Option.bind_some, of_eq l y (by omega), Option.bind_some]
    have hsorted := plL_sorted l y l.rules.length
    obtain ⟨b, q1, q2⟩ := loop_ex2 (step := counting_counter_before_h2_l1 l (y :: tl) ((k + 1 : Nat) : Int) (t :: ts) (counting_counter_before_h2 f) ((plL l y l.rules.length).map natI)) pre.length (by omega)
      (fun q st => st.1 = (((((pre.take q).map fun i => NS.rr (VN l) (argAt l i ++ tl) k).sum : Nat)) : Int) ∧ st.2.1 = (q : Int) ∧ KI (VN l) st.2.2)
      (fun b => ∃ m', b = .inr (((befN l (k + 1) (y :: tl) (t :: ts) : Nat) : Int), m') ∧ KI (VN l) m')
      (fun q st hq hp => by
        left
        obtain ⟨cur, j, m3⟩ := st
        obtain ⟨p1, p2, p3⟩ := hp
        simp only at p1 p2 p3
        subst p1 p2
        have hpq : (plL l y l.rules.length)[q]? = some pre[q] := by rw [e1, List.getElem?_append_left hq]; exact List.getElem?_eq_getElem hq
        obtain ⟨r, o1, o2, o3, o4, o5, o6⟩ := one q pre[q] hpq
        obtain ⟨m4, s1, s2⟩ := lists_ok (r14 := counting_counter_terms_h2 fuel) (K := k) h16 (by omega) (fun m s k' hm h0 h1 hk1 hk2 => terms_ok hg fuel k' s m (Nat.le_of_lt (lt_fuel (by omega))) hk1 (by omega) h0 h1 hm) fuel (argAt l pre[q] ++ tl) k m3 (lt_fuel (by omega)) (by omega) o5 (Nat.le_refl _) p3
        have htk : pre.take (q + 1) = pre.take q ++ [pre[q]] := List.take_succ_eq_append_getElem hq
        have hsum : ((pre.take (q + 1)).map fun i => NS.rr (VN l) (argAt l i ++ tl) k).sum = ((pre.take q).map fun i => NS.rr (VN l) (argAt l i ++ tl) k).sum + NS.rr (VN l) (argAt l pre[q] ++ tl) k := by rw [htk, List.map_append, List.sum_append]; simp
        have hbound := take_mono (fun i => NS.rr (VN l) (argAt l i ++ tl) k) pre (show q + 1 ≤ pre.length by omega)
        rw [List.take_length] at hbound
        have hen : en (NS.rr (VN l) (argAt l pre[q] ++ tl) k) = ((NS.rr (VN l) (argAt l pre[q] ++ tl) k : Nat) : Int) := by unfold en; omega
        have hlt : decide ((q : Int) < ((((plL l y l.rules.length).map natI).length : Nat) : Int)) = true := decide_eq_true (by rw [List.length_map, hL]; omega)
        have hless : decide (((pre[q] : Nat) : Int) < t.rule) = true := by
          rw [e0]
          refine decide_eq_true ?_
          have h3 : (pre ++ i :: post).Pairwise (· < ·) := e1 ▸ hsorted
          have := (List.pairwise_append.1 h3).2.2 pre[q] (List.getElem_mem hq) i (List.mem_cons_self ..)
          omega
        refine ⟨(((((pre.take (q + 1)).map fun i => NS.rr (VN l) (argAt l i ++ tl) k).sum : Nat) : Int), ((q + 1 : Nat) : Int), m4), ?_, rfl, rfl, s2⟩
        unfold counting_counter_before_h2_l1
        simp only
        rw [hlt, cond_true, idx_nat, o1, Option.bind_some, idx_nat, o2, Option.bind_some, o3, Option.bind_some, cut_tail, Option.bind_some, o4, Option.bind_some, ht0, Option.bind_some, hless, cond_true, ew, s1, Option.bind_some]
        simp only
        rw [hen, w64_eq (by omega) (by omega), w64_succ' (show q < 1000 by omega) (by omega)]
        congr 3
        omega) (fun st hp => by
        obtain ⟨cur, j, m3⟩ := st
        obtain ⟨p1, p2, p3⟩ := hp
        simp only at p1 p2 p3
        subst p1 p2
        obtain ⟨_, m5, s1, s2⟩ := hsub m3 p3
        have hlt : decide ((pre.length : Int) < ((((plL l y l.rules.length).map natI).length : Nat) : Int)) = true := decide_eq_true (by rw [List.length_map, hL]; omega)
        have hnot : decide ((i : Int) < t.rule) = false := by rw [e0]; exact decide_eq_false (by omega)
        have hr := rest_eq 32 t.args ts (t :: ts) (cut_tail t ts) (by
          have h1 := isL_len l _ _ e2
          rw [List.length_append] at h1
          omega)
        refine ⟨.inr (((befN l (k + 1) (y :: tl) (t :: ts) : Nat) : Int), m5), ?_, m5, rfl, s2⟩
        unfold counting_counter_before_h2_l1
        simp only
        rw [hlt, cond_true, idx_nat, i1, Option.bind_some, idx_nat, i2, Option.bind_some, i3, Option.bind_some, cut_tail, Option.bind_some, i4, Option.bind_some, ht0, Option.bind_some, hnot, cond_false, Option.bind_some, hr, Option.bind_some, ew, s1, Option.bind_some, List.take_length]
        simp only
        rw [hbef, w64_eq (by omega) (by omega)]
        congr 3) (0, 0, m) ⟨rfl, rfl, hm⟩
    obtain ⟨m', rfl, q3⟩ := q2
    refine ⟨m', ?_, q3⟩
    rw [q1]
    rfl
end Go.Proofs.Ytfkddbccogakoaa
set_option linter.unusedVariables false
set_option linter.unusedSimpArgs false
namespace Go.Proofs.Ytfkddbccogakoaa
open Go Go.RowKit

theorem isL_get (l : La) : ∀ (xs : List Tm) (ys : List Int) (i : Nat) (hi : i < xs.length), isL l xs ys = true → ∃ a, ys[i]? = some a ∧ isT l xs[i] a = true
  | x :: xs, a :: ys, 0, _, h => by
    rw [isL, Bool.and_eq_true] at h
    exact ⟨a, rfl, h.1⟩
  | x :: xs, a :: ys, i + 1, hi, h => by
    rw [isL, Bool.and_eq_true] at h
    obtain ⟨b, h1, h2⟩ := isL_get l xs ys i (by simpa using hi) h.2
    exact ⟨b, by simpa using h1, by simpa using h2⟩
  | x :: xs, [], i, _, h => by rw [isL] at h; cases h
theorem isT_at {l : La} {t : Tm} {s : Int} (h : isT l t s = true) : ∃ i : Nat, t.rule = (i : Int) ∧ i < l.rules.length ∧ symAt l i = s ∧ isL l t.args (argAt l i) = true := by
  obtain ⟨r, xs⟩ := t
  rw [isT] at h
  simp only [Bool.and_eq_true, decide_eq_true_eq, beq_iff_eq] at h
  obtain ⟨⟨h1, h2, h3⟩, h4⟩ := h
  obtain ⟨i, rfl⟩ := Int.eq_ofNat_of_zero_le h1
  rw [Int.toNat_natCast] at h3 h4
  exact ⟨i, rfl, by omega, h3, h4⟩
theorem measure_ok {l : La} (hg : GoodL l) : ∀ (f : Nat) (t : Tm) (s : Int), t.size ≤ f → t.size ≤ 1000 → isT l t s = true → counting_measure f l s t = some ((t.size : Int), true)
  | 0, t, s, h, _, _ => by have := Tm.size_pos t; omega
  | f + 1, t, s, h, h1000, hi => by
    obtain ⟨i, e0, e1, e2, e3⟩ := isT_at hi
    obtain ⟨y, hy, hys, hya, hmem⟩ := rule_at l e1
    have gy := hg.good y hmem
    have hlen := isL_len l _ _ e3
    have hsa := sizeT_args (t := t)
    show counting_measure_b (counting_measure f) l s t = _
    unfold counting_measure_b
    rw [e0, decide_eq_false (show ¬ (i : Int) < 0 by omega), decide_eq_false (show ¬ (l.rules.length : Int) ≤ (i : Int) by omega)]
    simp only [cond_false, Option.bind_some, idx_nat, hy, args_eq gy]
    have h1 : (y.symbol != s) = false := by rw [hys, e2]; exact bne_self_eq_false s
    have h2 : ((t.args.length : Int) != (y.args.length : Int)) = false := by rw [hya, hlen]; exact bne_self_eq_false _
    rw [h1, h2]
    simp only [cond_false, Option.bind_some]
    obtain ⟨b, q1, q2⟩ := loop_ex2 (step := counting_measure_l1 l t (counting_measure f) y.args) t.args.length (by have := Tm.sizeL_len t.args; omega)
      (fun q st => st = (((1 + Tm.sizeL (t.args.take q) : Nat) : Int), (q : Int))) (fun b => b = .inl (((1 + Tm.sizeL t.args : Nat)) : Int)) (fun q st hq hp => by
        left
        subst hp
        obtain ⟨a, g1, g2⟩ := isL_get l t.args _ q hq e3
        have hx : t.args[q]? = some t.args[q] := List.getElem?_eq_getElem hq
        have hsz := args_size (t := t) (List.getElem_mem hq)
        have hm := measure_ok hg f t.args[q] a (by omega) (by omega) g2
        have htk := Tm.sizeL_take_succ hq
        have hle := Tm.sizeL_take t.args (q + 1)
        refine ⟨(((1 + Tm.sizeL (t.args.take (q + 1)) : Nat) : Int), ((q + 1 : Nat) : Int)), ?_, rfl⟩
        have hlb := Tm.sizeL_len t.args
        unfold counting_measure_l1
        simp only
        rw [lt_len hq, cond_true, idx_nat, hx, Option.bind_some, idx_nat, hya, g1, Option.bind_some, hm, Option.bind_some]
        simp only [Bool.not_true, cond_false]
        rw [w64_eq (by omega) (by omega), w64_succ' (show q < 1000 by omega) (by omega)]
        congr 3
        omega) (fun st hp => by
        subst hp
        refine ⟨.inl (((1 + Tm.sizeL t.args : Nat)) : Int), ?_, rfl⟩
        unfold counting_measure_l1
        simp only
        rw [lt_len', cond_false, List.take_length]) (1, 0) rfl
    subst q2
    rw [q1]
    show some ((((1 + Tm.sizeL t.args : Nat)) : Int), true) = _
    rw [hsa, Nat.add_comm]
theorem index_prog {l : La} (hg : GoodL l) (hc : grammar_Check l = some 0) {s : Int} {t : Tm} (s0 : 0 ≤ s) (s1 : s < (l.symbols.length : Int)) (hi : isT l t s = true) (h24 : t.size ≤ 24) (hx : ¬ (1152921504606846976 : Int) < en (VN l s t.size)) : counting_Index l s t = some (((befN l t.size [s] [t] : Nat) : Int), 0) := by
  have hpos := Tm.size_pos t
  have herr : errC l 0 s (t.size : Int) = 0 := by
    unfold errC badQ
    rw [if_neg (by simp), decide_eq_false (by omega), decide_eq_false (by omega), decide_eq_false (by omega), decide_eq_false (by omega)]
    rfl
  have hcount := count_prog (s := s) (k := (t.size : Int)) hg hc
  rw [herr, if_neg (by simp), Int.toNat_natCast] at hcount
  have hans : ansC (VN l s t.size) = (en (VN l s t.size), 0) := by unfold ansC; rw [if_neg hx]
  rw [hans] at hcount
  have hen := en_small hx
  have hin : inR l [s] := fun y hy => by rcases List.mem_cons.1 hy with rfl | hy; exact ⟨s0, s1⟩; cases hy
  have hisl : isL l [t] [s] = true := by rw [isL, isL, hi]; rfl
  have hsz : Tm.sizeL [t] = t.size := by show t.size + 0 = _; omega
  obtain ⟨_, m', b1, _⟩ := before_ok hg fuel t.size [s] [t] [] (lt_fuel (by omega)) h24 hin hisl hsz (by rw [rr_sing]; omega) (KI.nil _)
  unfold counting_Index
  rw [hc, Option.bind_some, bne_self_eq_false, cond_false, decide_eq_false (show ¬ s < 0 by omega), decide_eq_false (show ¬ (l.symbols.length : Int) ≤ s by omega), cond_false, Option.bind_some, cond_false, measure_ok hg fuel t s (Nat.le_of_lt (lt_fuel (by omega))) (by omega) hi, Option.bind_some]
  simp only [Bool.not_true, cond_false]
  rw [decide_eq_false (show ¬ (24 : Int) < (t.size : Int) by omega), cond_false, hcount, Option.bind_some]
  simp only [bne_self_eq_false, cond_false]
  rw [open_eq, Option.bind_some, b1, Option.bind_some]
theorem law_CountingBijects (l : La) (x : S_ar2_i64) (n : Int) (hl : wideL l) (_ : True) (_ : InI64 n) : synthesislaw12_CountingBijects l x n = some true := by
  obtain ⟨b, b1, _⟩ := small_leaf l
  obtain ⟨c, c1, _, c3⟩ := lang_u l hl
  unfold synthesislaw12_CountingBijects
  rw [b1, awake12, Option.bind_some]
  cases b with
  | false => rfl
  | true =>
    simp only [Bool.not_true, cond_false]
    by_cases hc : c = 0
    · subst hc
      have hg := c3 rfl
      rw [count_prog hg c1, term_prog hg c1, Option.bind_some, Option.bind_some]
      unfold termC
      by_cases he : errC l 0 x.f_0 x.f_1 = 0
      · obtain ⟨_, h1, h2, h3, h4⟩ := errC_zero he
        obtain ⟨k, hk⟩ := Int.eq_ofNat_of_zero_le (show 0 ≤ x.f_1 by omega)
        rw [he, if_neg (by simp), if_neg (by simp), hk, Int.toNat_natCast]
        by_cases hx : (1152921504606846976 : Int) < en (VN l x.f_0 k)
        · have ha : ansC (VN l x.f_0 k) = (0, 11) := by unfold ansC; rw [if_pos hx]
          rw [ha]
          rfl
        · have ha : ansC (VN l x.f_0 k) = (en (VN l x.f_0 k), 0) := by unfold ansC; rw [if_neg hx]
          have hen := en_small hx
          rw [ha]
          simp only [bne_self_eq_false, cond_false, ne_eq, not_true, if_false]
          by_cases hn : n < 0
          · rw [decide_eq_true hn, if_pos (.inl hn)]; rfl
          · by_cases hn2 : en (VN l x.f_0 k) ≤ n
            · rw [decide_eq_false hn, decide_eq_true hn2, if_pos (.inr hn2)]; rfl
            · rw [decide_eq_false hn, decide_eq_false hn2, if_neg (by intro h; exact h.elim hn hn2)]
              obtain ⟨p, rfl⟩ := Int.eq_ofNat_of_zero_le (show 0 ≤ n by omega)
              have hlt : p < NS.rr (VN l) [x.f_0] k := by rw [rr_sing]; omega
              rw [Int.toNat_natCast]
              have hlen := chT_len l k [x.f_0] p hlt
              have hsize := chT_size l k [x.f_0] p hlt
              have his := chT_is l k [x.f_0] p hlt
              have hbef := bef_ch l k [x.f_0] p hlt
              obtain ⟨t, ht⟩ : ∃ t, chT l k [x.f_0] p = [t] := by
                cases hq : chT l k [x.f_0] p with
                | nil => rw [hq] at hlen; cases hlen
                | cons t ts =>
                  cases ts with
                  | nil => exact ⟨t, rfl⟩
                  | cons t2 ts => rw [hq] at hlen; cases hlen
              rw [ht] at hsize his hbef ⊢
              have hts : t.size = k := by have : Tm.sizeL [t] = t.size + 0 := rfl; omega
              have hit : isT l t x.f_0 = true := by rw [isL, Bool.and_eq_true] at his; exact his.1
              obtain ⟨i, e0, e1, e2, _⟩ := isT_at hit
              obtain ⟨y, hy, hys, _, _⟩ := rule_at l e1
              have hidx := index_prog hg c1 h1 h2 hit (by omega) (by rw [hts]; exact hx)
              rw [hts, hbef] at hidx
              have hrules := rules12 fuel t (Nat.le_of_lt (lt_fuel (by omega))) (by omega)
              have hhead : ([t] : List Tm).headD zeroT = t := rfl
              rw [hhead]
              simp only [cond_false, Option.bind_some, hidx, hrules, beq_self_eq_true, cond_true, e0, idx_nat, hy, hys, e2, Tm.rules_length, hts, decide_eq_true (show (0 : Int) ≤ (i : Int) by omega), decide_eq_true (show (i : Int) < (l.rules.length : Int) by omega)]
      · rw [if_pos he, if_pos he]
        simp only
        rw [show (errC l 0 x.f_0 x.f_1 != 0) = true by rw [bne_iff_ne]; exact he]
        simp only [cond_true, beq_self_eq_true, Option.bind_some]
    · have hcount : counting_Count l x.f_0 x.f_1 = some (0, c) := by
        unfold counting_Count
        rw [check_c c1, bad_err hc, Option.bind_some, show (c != 0) = true by rw [bne_iff_ne]; exact hc]
        rfl
      have hterm : counting_Term l x.f_0 x.f_1 n = some (zeroT, c) := by
        unfold counting_Term
        rw [hcount, Option.bind_some]
        simp only
        rw [show (c != 0) = true by rw [bne_iff_ne]; exact hc]
        rfl
      rw [hcount, hterm, Option.bind_some, Option.bind_some]
      simp only
      rw [show (c != 0) = true by rw [bne_iff_ne]; exact hc]
      simp only [cond_true, beq_self_eq_true, Option.bind_some]
end Go.Proofs.Ytfkddbccogakoaa
