/- Index of a term of a symbol; the law CountingBijects. -/
import Derived.Test.YtfkddbccogakoaaKj
set_option linter.unusedVariables false
set_option linter.unusedSimpArgs false
namespace Go.Proofs.Ytfkddbccogakoaa
open Go Go.RowKit

mutual
/-- a term of a symbol -/
def isT (l : La) : Tm → Int → Bool
  | .mk r xs, s => (decide (0 ≤ r) && (decide (r < (l.rules.length : Int)) && symAt l r.toNat == s)) && isL l xs (argAt l r.toNat)
def isL (l : La) : List Tm → List Int → Bool
  | [], [] => true
  | x :: xs, a :: ys => isT l x a && isL l xs ys
  | [], _ :: _ => false
  | _ :: _, [] => false
end
theorem isL_len (l : La) : ∀ (xs : List Tm) (ys : List Int), isL l xs ys = true → xs.length = ys.length
  | [], [], _ => rfl
  | x :: xs, a :: ys, h => by
    rw [isL, Bool.and_eq_true] at h
    rw [List.length_cons, List.length_cons, isL_len l xs ys h.2]
  | [], _ :: _, h => by rw [isL] at h; cases h
  | _ :: _, [], h => by rw [isL] at h; cases h
theorem isL_app (l : La) : ∀ (xs us : List Tm) (ys vs : List Int), isL l xs ys = true → isL l us vs = true → isL l (xs ++ us) (ys ++ vs) = true
  | [], us, [], vs, _, h => h
  | x :: xs, us, a :: ys, vs, h, h2 => by
    rw [isL, Bool.and_eq_true] at h
    show isL l (x :: (xs ++ us)) (a :: (ys ++ vs)) = true
    rw [isL, Bool.and_eq_true]
    exact ⟨h.1, isL_app l xs us ys vs h.2 h2⟩
  | [], us, _ :: _, vs, h, _ => by rw [isL] at h; cases h
  | _ :: _, us, [], vs, h, _ => by rw [isL] at h; cases h
/-- how many come before -/
def befN (l : La) : Nat → List Int → List Tm → Nat
  | k + 1, y :: tl, t :: ts => (((plL l y l.rules.length).filter fun i : Nat => decide ((i : Int) < t.rule)).map fun i => NS.rr (VN l) (argAt l i ++ tl) k).sum + befN l k (argAt l t.rule.toNat ++ tl) (t.args ++ ts)
  | _, _, _ => 0
theorem filter_pre {L pre post : List Nat} {i : Nat} (h : L = pre ++ i :: post) (hs : L.Pairwise (· < ·)) : (L.filter fun j : Nat => decide ((j : Int) < (i : Int))) = pre := by
  subst h
  rw [List.pairwise_append] at hs
  obtain ⟨_, h2, h3⟩ := hs
  rw [List.pairwise_cons] at h2
  have e1 : pre.filter (fun j : Nat => decide ((j : Int) < (i : Int))) = pre := List.filter_eq_self.2 fun j hj => decide_eq_true (by have := h3 j hj i (List.mem_cons_self ..); omega)
  have e2 : post.filter (fun j : Nat => decide ((j : Int) < (i : Int))) = [] := List.filter_eq_nil_iff.2 fun j hj => by
    have := h2.1 j hj
    simp
    omega
  rw [List.filter_append, List.filter_cons, e1, e2, if_neg (by simp), List.append_nil]
theorem is_at {l : La} {y : Int} {tl : List Int} {t : Tm} {ts : List Tm} (h : isL l (t :: ts) (y :: tl) = true) : ∃ i pre post, t.rule = ((i : Nat) : Int) ∧ plL l y l.rules.length = pre ++ i :: post ∧ isL l (t.args ++ ts) (argAt l i ++ tl) = true := by
  rw [isL, Bool.and_eq_true] at h
  obtain ⟨r, xs⟩ := t
  rw [isT] at h
  simp only [Bool.and_eq_true, decide_eq_true_eq, beq_iff_eq] at h
  obtain ⟨⟨⟨h1, h2, h3⟩, h4⟩, h5⟩ := h
  obtain ⟨i, rfl⟩ := Int.eq_ofNat_of_zero_le h1
  rw [Int.toNat_natCast] at h3 h4
  have hm : i ∈ plL l y l.rules.length := by unfold plL; rw [List.mem_filter, List.mem_range]; exact ⟨by omega, by simpa using h3⟩
  obtain ⟨pre, post, he⟩ := List.append_of_mem hm
  exact ⟨i, pre, post, rfl, he, isL_app l _ _ _ _ h4 h5⟩
theorem sizeL_app : ∀ a b : List Tm, Tm.sizeL (a ++ b) = Tm.sizeL a + Tm.sizeL b
  | [], b => by rw [List.nil_append]; show _ = 0 + _; omega
  | x :: a, b => by
    show x.size + Tm.sizeL (a ++ b) = (x.size + Tm.sizeL a) + Tm.sizeL b
    rw [sizeL_app a b]; omega
theorem rest_eq {α : Type} (b : Nat) (xs tl full : List α) (hc : cutL full 1 ((full.length : Nat) : Int) = some tl) (hb : (xs.length + tl.length) * (b + 1) ≤ 140737488355328) :
    (bif List.isEmpty xs then Option.bind (cutL full 1 ((full.length : Nat) : Int)) fun v15 => bif List.isEmpty v15 then some [] else Option.bind (appN b [] v15) fun v16 => some v16 else Option.bind (appN b [] xs) fun v12 => Option.bind (cutL full 1 ((full.length : Nat) : Int)) fun v13 => Option.bind (app b v12 v13) fun v14 => some v14 : Option (List α)) = some (xs ++ tl) := by
  rw [hc]
  cases xs with
  | nil =>
    cases tl with
    | nil => rfl
    | cons z tl =>
      have : appN b [] (z :: tl) = some (z :: tl) := by
        unfold appN
        show app b [] (z :: tl) = _
        rw [app_eq (by simpa using hb)]
        rfl
      simp only [List.isEmpty_nil, cond_true, Option.bind_some, List.isEmpty_cons, cond_false, this, List.nil_append]
  | cons x xs =>
    have h1 : appN b [] (x :: xs) = some (x :: xs) := by
      unfold appN
      show app b [] (x :: xs) = _
      rw [app_eq (Nat.le_trans (Nat.mul_le_mul_right _ (by simp)) hb)]
      rfl
    have h2 : app b (x :: xs) tl = some (x :: xs ++ tl) := app_eq hb
    simp only [List.isEmpty_cons, cond_false, h1, Option.bind_some, h2]
theorem before_ok {l : La} (hg : GoodL l) : ∀ (f k : Nat) (ys : List Int) (ts : List Tm) (m : List (ByteArray × Int)), k < f → k ≤ 24 → inR l ys → isL l ts ys = true → Tm.sizeL ts = k → NS.rr (VN l) ys k ≤ 1152921504606846976 → KI (VN l) m →
    befN l k ys ts ≤ NS.rr (VN l) ys k ∧ ∃ m', counting_counter_before_h2 f l m ys (k : Int) ts = some (((befN l k ys ts : Nat) : Int), m') ∧ KI (VN l) m'
  | 0, k, ys, ts, m, h, _, _, _, _, _, _ => by omega
  | f + 1, k, [], ts, m, h, _, _, hi, hz, _, hm => by
    have h0 : ts = [] := List.eq_nil_of_length_eq_zero (isL_len l ts [] hi)
    subst h0
    have hk : k = 0 := hz.symm
    subst hk
    exact ⟨Nat.zero_le _, m, rfl, hm⟩
  | f + 1, 0, y :: tl, ts, m, h, _, _, hi, hz, _, hm => by
    have h1 := isL_len l ts (y :: tl) hi
    have h2 := Tm.sizeL_len ts
    rw [List.length_cons] at h1
    omega
  | f + 1, k + 1, y :: tl, [], m, h, _, _, hi, hz, _, hm => by rw [isL] at hi; cases hi
  | f + 1, k + 1, y :: tl, t :: ts, m, h, h24, hy, hi, hz, h60, hm => by
    have h96 := hg.rules
    have h16 := hg.sym16
    have htl : inR l tl := fun z hz => hy z (List.mem_cons_of_mem _ hz)
    have hlen := isL_len l _ _ hi
    have hsl := Tm.sizeL_len (t :: ts)
    rw [List.length_cons, List.length_cons] at hlen
    rw [List.length_cons] at hsl
    obtain ⟨i, pre, post, e0, e1, e2⟩ := is_at hi
    have hsz : Tm.sizeL (t.args ++ ts) = k := by
      have : Tm.sizeL (t :: ts) = t.size + Tm.sizeL ts := rfl
      rw [sizeL_app]
      have := sizeT_args (t := t)
      omega
    have htot := rr_head l y tl k
    rw [e1, List.map_append, List.sum_append, List.map_cons, List.sum_cons] at htot
    have hbef : befN l (k + 1) (y :: tl) (t :: ts) = (pre.map fun i => NS.rr (VN l) (argAt l i ++ tl) k).sum + befN l k (argAt l i ++ tl) (t.args ++ ts) := by
      rw [befN, e0, filter_pre e1 (plL_sorted l y l.rules.length), Int.toNat_natCast]
    have hplen := plL_len l y l.rules.length
    have ew : w64 (((k + 1 : Nat) : Int) - 1) = (k : Int) := by rw [w64_eq (by omega) (by omega)]; omega
    have hL : (plL l y l.rules.length).length = pre.length + (post.length + 1) := by rw [e1, List.length_append, List.length_cons]
    have one : ∀ (q p : Nat), (plL l y l.rules.length)[q]? = some p → ∃ r, ((plL l y l.rules.length).map natI)[q]? = some (p : Int) ∧ l.rules[p]? = some r ∧ counting_args r = some (argAt l p) ∧ counting_joined (argAt l p) tl = some (argAt l p ++ tl) ∧ inR l (argAt l p ++ tl) ∧ (argAt l p ++ tl).length ≤ 100 := fun q p hq => by
      have hpm := plL_mem (List.mem_of_getElem? hq)
      obtain ⟨r, hr, _, hra, hrm⟩ := rule_at l hpm.1
      have gr := hg.good r hrm
      have hf5 := gr.few
      have hin : inR l (argAt l p ++ tl) := fun z hz => by
        rcases List.mem_append.1 hz with hz | hz
        · rw [← hra] at hz; exact gr.args z hz
        · exact htl z hz
      have hlen2 : (argAt l p ++ tl).length ≤ 100 := by rw [List.length_append, ← hra]; omega
      exact ⟨r, by rw [List.getElem?_map, hq]; rfl, hr, by rw [args_eq gr, hra], joined_eq _ _ (by rw [List.length_append] at hlen2; omega), hin, hlen2⟩
    have hpi : (plL l y l.rules.length)[pre.length]? = some i := by rw [e1, List.getElem?_append_right (Nat.le_refl _), Nat.sub_self]; rfl
    obtain ⟨ri, i1, i2, i3, i4, i5, i6⟩ := one pre.length i hpi
    have hsub : ∀ m3, KI (VN l) m3 → befN l k (argAt l i ++ tl) (t.args ++ ts) ≤ NS.rr (VN l) (argAt l i ++ tl) k ∧ ∃ m', counting_counter_before_h2 f l m3 (argAt l i ++ tl) (k : Int) (t.args ++ ts) = some (((befN l k (argAt l i ++ tl) (t.args ++ ts) : Nat) : Int), m') ∧ KI (VN l) m' := fun m3 hm3 => before_ok hg f k (argAt l i ++ tl) (t.args ++ ts) m3 (by omega) (by omega) i5 e2 hsz (by omega) hm3
    obtain ⟨hble, _⟩ := hsub m hm
    refine ⟨by rw [hbef, htot]; omega, ?_⟩
    show ∃ m', counting_counter_before_h2_b (counting_counter_before_h2 f) l m (y :: tl) ((k + 1 : Nat) : Int) (t :: ts) = _ ∧ _
    unfold counting_counter_before_h2_b
    have hl0 : (((y :: tl).length : Int) == 0) = false := by rw [beq_eq_false_iff_ne, List.length_cons]; omega
    have hi0 : idx (y :: tl) 0 = some y := rfl
    have ht0 : idx (t :: ts) 0 = some t := rfl
    rw [hl0, cond_false, hi0, Option.bind_some, of_eq l y (by omega), Option.bind_some]
    have hsorted := plL_sorted l y l.rules.length
    obtain ⟨b, q1, q2⟩ := loop_ex2 (step := counting_counter_before_h2_l1 l (y :: tl) ((k + 1 : Nat) : Int) (t :: ts) (counting_counter_before_h2 f) ((plL l y l.rules.length).map natI)) pre.length (by omega)
      (fun q st => st.1 = (((((pre.take q).map fun i => NS.rr (VN l) (argAt l i ++ tl) k).sum : Nat)) : Int) ∧ st.2.1 = (q : Int) ∧ KI (VN l) st.2.2)
      (fun b => ∃ m', b = .inr (((befN l (k + 1) (y :: tl) (t :: ts) : Nat) : Int), m') ∧ KI (VN l) m')
      (fun q st hq hp => by
        left
        obtain ⟨cur, j, m3⟩ := st
        obtain ⟨p1, p2, p3⟩ := hp
        simp only at p1 p2 p3
        subst p1 p2
        have hpq : (plL l y l.rules.length)[q]? = some pre[q] := by rw [e1, List.getElem?_append_left hq]; exact List.getElem?_eq_getElem hq
        obtain ⟨r, o1, o2, o3, o4, o5, o6⟩ := one q pre[q] hpq
        obtain ⟨m4, s1, s2⟩ := lists_ok (r14 := counting_counter_terms_h2 fuel) (K := k) h16 (by omega) (fun m s k' hm h0 h1 hk1 hk2 => terms_ok hg fuel k' s m (Nat.le_of_lt (lt_fuel (by omega))) hk1 (by omega) h0 h1 hm) fuel (argAt l pre[q] ++ tl) k m3 (lt_fuel (by omega)) (by omega) o5 (Nat.le_refl _) p3
        have htk : pre.take (q + 1) = pre.take q ++ [pre[q]] := List.take_succ_eq_append_getElem hq
        have hsum : ((pre.take (q + 1)).map fun i => NS.rr (VN l) (argAt l i ++ tl) k).sum = ((pre.take q).map fun i => NS.rr (VN l) (argAt l i ++ tl) k).sum + NS.rr (VN l) (argAt l pre[q] ++ tl) k := by rw [htk, List.map_append, List.sum_append]; simp
        have hbound := take_mono (fun i => NS.rr (VN l) (argAt l i ++ tl) k) pre (show q + 1 ≤ pre.length by omega)
        rw [List.take_length] at hbound
        have hen : en (NS.rr (VN l) (argAt l pre[q] ++ tl) k) = ((NS.rr (VN l) (argAt l pre[q] ++ tl) k : Nat) : Int) := by unfold en; omega
        have hlt : decide ((q : Int) < ((((plL l y l.rules.length).map natI).length : Nat) : Int)) = true := decide_eq_true (by rw [List.length_map, hL]; omega)
        have hless : decide (((pre[q] : Nat) : Int) < t.rule) = true := by
          rw [e0]
          refine decide_eq_true ?_
          have h3 : (pre ++ i :: post).Pairwise (· < ·) := e1 ▸ hsorted
          have := (List.pairwise_append.1 h3).2.2 pre[q] (List.getElem_mem hq) i (List.mem_cons_self ..)
          omega
        refine ⟨(((((pre.take (q + 1)).map fun i => NS.rr (VN l) (argAt l i ++ tl) k).sum : Nat) : Int), ((q + 1 : Nat) : Int), m4), ?_, rfl, rfl, s2⟩
        unfold counting_counter_before_h2_l1
        simp only
        rw [hlt, cond_true, idx_nat, o1, Option.bind_some, idx_nat, o2, Option.bind_some, o3, Option.bind_some, cut_tail, Option.bind_some, o4, Option.bind_some, ht0, Option.bind_some, hless, cond_true, ew, s1, Option.bind_some]
        simp only
        rw [hen, w64_eq (by omega) (by omega), w64_succ' (show q < 1000 by omega) (by omega)]
        congr 3
        omega) (fun st hp => by
        obtain ⟨cur, j, m3⟩ := st
        obtain ⟨p1, p2, p3⟩ := hp
        simp only at p1 p2 p3
        subst p1 p2
        obtain ⟨_, m5, s1, s2⟩ := hsub m3 p3
        have hlt : decide ((pre.length : Int) < ((((plL l y l.rules.length).map natI).length : Nat) : Int)) = true := decide_eq_true (by rw [List.length_map, hL]; omega)
        have hnot : decide ((i : Int) < t.rule) = false := by rw [e0]; exact decide_eq_false (by omega)
        have hr := rest_eq 32 t.args ts (t :: ts) (cut_tail t ts) (by
          have h1 := isL_len l _ _ e2
          rw [List.length_append] at h1
          omega)
        refine ⟨.inr (((befN l (k + 1) (y :: tl) (t :: ts) : Nat) : Int), m5), ?_, m5, rfl, s2⟩
        unfold counting_counter_before_h2_l1
        simp only
        rw [hlt, cond_true, idx_nat, i1, Option.bind_some, idx_nat, i2, Option.bind_some, i3, Option.bind_some, cut_tail, Option.bind_some, i4, Option.bind_some, ht0, Option.bind_some, hnot, cond_false, Option.bind_some, hr, Option.bind_some, ew, s1, Option.bind_some, List.take_length]
        simp only
        rw [hbef, w64_eq (by omega) (by omega)]
        congr 3) (0, 0, m) ⟨rfl, rfl, hm⟩
    obtain ⟨m', rfl, q3⟩ := q2
    refine ⟨m', ?_, q3⟩
    rw [q1]
    rfl
end Go.Proofs.Ytfkddbccogakoaa
set_option linter.unusedVariables false
set_option linter.unusedSimpArgs false
namespace Go.Proofs.Ytfkddbccogakoaa
open Go Go.RowKit

theorem isL_get (l : La) : ∀ (xs : List Tm) (ys : List Int) (i : Nat) (hi : i < xs.length), isL l xs ys = true → ∃ a, ys[i]? = some a ∧ isT l xs[i] a = true
  | x :: xs, a :: ys, 0, _, h => by
    rw [isL, Bool.and_eq_true] at h
    exact ⟨a, rfl, h.1⟩
  | x :: xs, a :: ys, i + 1, hi, h => by
    rw [isL, Bool.and_eq_true] at h
    obtain ⟨b, h1, h2⟩ := isL_get l xs ys i (by simpa using hi) h.2
    exact ⟨b, by simpa using h1, by simpa using h2⟩
  | x :: xs, [], i, _, h => by rw [isL] at h; cases h
end Go.Proofs.Ytfkddbccogakoaa
