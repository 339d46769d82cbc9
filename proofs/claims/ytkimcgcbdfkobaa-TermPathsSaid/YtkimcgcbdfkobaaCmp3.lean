/- Compare, the program's and the reference's. -/
import Derived.Test.YtkimcgcbdfkobaaCmp2
set_option linter.unusedVariables false
set_option linter.unusedSimpArgs false
namespace Go.Proofs.Ytkimcgcbdfkobaa
open Go Go.RowKit

/-- the order of terms -/
def cmpT (s t : Tm) : Int := if s.size < t.size then -1 else if s.size > t.size then 1 else if cmpI s.rules t.rules ≠ 0 then cmpI s.rules t.rules else cmpI s.arities t.arities
theorem cmpT_eq (s t : Tm) : (s.size < t.size → cmpT s t = -1) ∧ (t.size < s.size → cmpT s t = 1) ∧ (s.size = t.size → cmpI s.rules t.rules ≠ 0 → cmpT s t = cmpI s.rules t.rules) ∧ (s.size = t.size → cmpI s.rules t.rules = 0 → cmpT s t = cmpI s.arities t.arities) := by
  unfold cmpT
  refine ⟨fun h => if_pos h, fun h => by rw [if_neg (by omega), if_pos h], fun h h0 => ?_, fun h h0 => ?_⟩
  · rw [if_neg (by omega), if_neg (by omega), if_pos h0]
  · rw [if_neg (by omega), if_neg (by omega), if_neg (by simpa using h0)]

set_option maxHeartbeats 1000000 in
theorem refcompare_any (s t : Tm) (v u : Value) (w : World) (hv : TmV Any w v s) (hu : TmV Any w u t) (hs : s.size ≤ 1000000) (ht : t.size ≤ 1000000) :
    Calls Try.prog 18 #[v, u] w fun e w' => e = .returned (.int .i64 (cmpT s t)) ∧ Grow w w' := by
  have HV := Lib.hid hv
  have HU := Lib.hid hu
  have hl1 := s.rules_length
  have hl2 := t.rules_length
  have hl3 := s.arities_length
  have hl4 := t.arities_length
  have HL := Lib.hid (And.intro hl1 (And.intro hl2 (And.intro hl3 hl4)))
  have hcmp := cmpT_eq s t
  have HCMP := Lib.hid hcmp
  clear hl1 hl2 hl3 hl4 hcmp
  obtain ⟨r, l, hsr⟩ : ∃ r l, s = .mk r l := ⟨s.rule, s.args, by cases s; rfl⟩
  obtain ⟨r', l', htr⟩ : ∃ r l, t = .mk r l := ⟨t.rule, t.args, by cases t; rfl⟩
  rw [hsr] at hv
  rw [htr] at hu
  obtain ⟨A, cap, rfl, hr, hc, hm, hl⟩ := hv.form
  obtain ⟨A', cap', rfl, hr', hc', hm', hl'⟩ := hu.form
  clear hv hu hl hl' hsr htr
  have hW : Grow w ((w.alloc (.cells #[.int .i64 r, .slice A l.length cap] 24)).alloc (.cells #[.int .i64 r', .slice A' l'.length cap'] 24)) := Below.step (grow_alloc _ _) (grow_alloc _ _)
  go_enter Try.func18, Try.ntmps18
  go_wp2_with fail
  refine wp_region_rel (fun w' => Grow ((w.alloc (.cells #[.int .i64 r, .slice A l.length cap] 24)).alloc (.cells #[.int .i64 r', .slice A' l'.length cap'] 24)) w') (by kernel_rfl) (grow_drew _) (fun a b h k => Below.step h k) ?_
  apply Exists.intro
  constructor
  repeat (first | (apply rel_det; rfl; intro w1 hC1 hF1; obtain ⟨hc1, hf1⟩ := bcell hC1; go_simp; (first | exact ⟨Below.refl _ _, rfl⟩ | (go_at_call 31; exact rel_call (order_any _ _ _)) | (go_at_call 12; exact rel_call (refsize_any _ _ _ (HV.out.keep (Same.of_grow (Below.step hW hC1))) (by omega))) | (go_at_call 12; exact rel_call (refsize_any _ _ _ (HU.out.keep (Same.of_grow (Below.step hW hC1))) (by omega)))); intro K hK; go_simp; refine hK _ ?_; clear hK K) | (apply rel_skip; rfl; intro K hK; go_simp; refine hK _ ?_; clear hK K))
  refine rel_nil (fun w2 hC2 hF2 => ?_)
  refine wpList_nil ?_
  rotate_left
  kernel_rfl
  rcases Nat.lt_trichotomy s.size t.size with hlt | heq | hgt
  · have ho : ord (s.size : Int) t.size = -1 := ord_lt (by omega)
    go_wp2_with fail
    go_ret
    exact ⟨ret_int (ho.trans (HCMP.out.1 hlt).symm), Below.step hW hC2⟩
  · have ho : ord (s.size : Int) t.size = 0 := by rw [heq, ord_eq]
    have HEQ := Lib.hid heq
    clear heq
    go_wp2_with fail
    clear ho
    refine wp_region_rel (fun w' => Grow ((w.alloc (.cells #[.int .i64 r, .slice A l.length cap] 24)).alloc (.cells #[.int .i64 r', .slice A' l'.length cap'] 24)) w') (by kernel_rfl) (hC2.drew) (fun a b h k => Below.step h k) ?_
    apply Exists.intro
    constructor
    iterate 1 (first | (apply rel_det; rfl; intro w1 hC1 hF1; obtain ⟨hc1, hf1⟩ := bcell hC1; go_simp; (first | exact ⟨Below.refl _ _, rfl⟩ | fail); intro K hK; go_simp; refine hK _ ?_; clear hK K) | (apply rel_skip; rfl; intro K hK; go_simp; refine hK _ ?_; clear hK K))
    apply rel_some (G := fun v w' => Ints (From w.heap.size) w' v (Tm.rules s)) (hG := fun v w w' h hb => Ints.keep h (Same.of_grow hb))
    · rfl
    · intro w1 hC1 hF1; obtain ⟨hc1, hf1⟩ := bcell hC1; go_simp; (go_at_call 17; exact rel_fresh (Rp := fun S w v => Ints S w v (Tm.rules s)) (fun h hS => Ints.mono h hS) (Nat.le_trans (by simp; omega) hC1.size) (refrules_any _ _ _ (HV.out.keep (Same.of_grow (Below.step hW hC1))) hs))
    intro vs K hK; go_simp; refine hK _ ?_; clear hK K
    iterate 1 (first | (apply rel_det; rfl; intro w1 hC1 hF1; obtain ⟨hc1, hf1⟩ := bcell hC1; go_simp; (first | exact ⟨Below.refl _ _, rfl⟩ | fail); intro K hK; go_simp; refine hK _ ?_; clear hK K) | (apply rel_skip; rfl; intro K hK; go_simp; refine hK _ ?_; clear hK K))
    apply rel_some (G := fun v w' => Ints (From w.heap.size) w' v (Tm.rules t)) (hG := fun v w w' h hb => Ints.keep h (Same.of_grow hb))
    · rfl
    · intro w1 hC1 hF1; obtain ⟨hc1, hf1⟩ := bcell hC1; go_simp; (go_at_call 17; exact rel_fresh (Rp := fun S w v => Ints S w v (Tm.rules t)) (fun h hS => Ints.mono h hS) (Nat.le_trans (by simp; omega) hC1.size) (refrules_any _ _ _ (HU.out.keep (Same.of_grow (Below.step hW hC1))) ht))
    intro vt K hK; go_simp; refine hK _ ?_; clear hK K
    repeat (first | (apply rel_det; rfl; intro w1 hC1 hF1; obtain ⟨hc1, hf1⟩ := bcell hC1; go_simp; (first | exact ⟨Below.refl _ _, rfl⟩ | (go_at_call 15; exact rel_call (compareInts_any (Tm.rules s) (Tm.rules t) _ _ _ (Ints.mono (hF1 1 rfl : Ints (From w.heap.size) _ vs (Tm.rules s)) fun _ _ => trivial) (Ints.mono (hF1 3 rfl : Ints (From w.heap.size) _ vt (Tm.rules t)) fun _ _ => trivial)))); intro K hK; go_simp; refine hK _ ?_; clear hK K) | (apply rel_skip; rfl; intro K hK; go_simp; refine hK _ ?_; clear hK K))
    refine rel_nil (fun w2 hC2 hF2 => ?_)
    refine wpList_nil ?_
    rotate_left
    kernel_rfl
    by_cases h0 : cmpI (Tm.rules s) (Tm.rules t) = 0
    · have hb0 : (cmpI (Tm.rules s) (Tm.rules t) != 0) = false := by simp [h0]
      have H0 := Lib.hid h0
      clear h0
      go_wp2_with fail
      refine wp_region_rel (fun w' => Grow ((w.alloc (.cells #[.int .i64 r, .slice A l.length cap] 24)).alloc (.cells #[.int .i64 r', .slice A' l'.length cap'] 24)) w') (by kernel_rfl) (hC2.drew) (fun a b h k => Below.step h k) ?_
      apply Exists.intro
      constructor
      iterate 1 (first | (apply rel_det; rfl; intro w1 hC1 hF1; obtain ⟨hc1, hf1⟩ := bcell hC1; go_simp; (first | exact ⟨Below.refl _ _, rfl⟩ | fail); intro K hK; go_simp; refine hK _ ?_; clear hK K) | (apply rel_skip; rfl; intro K hK; go_simp; refine hK _ ?_; clear hK K))
      apply rel_some (G := fun v w' => Ints (From w.heap.size) w' v (Tm.arities s)) (hG := fun v w w' h hb => Ints.keep h (Same.of_grow hb))
      · rfl
      · intro w1 hC1 hF1; obtain ⟨hc1, hf1⟩ := bcell hC1; go_simp; (go_at_call 34; exact rel_fresh (Rp := fun S w v => Ints S w v (Tm.arities s)) (fun h hS => Ints.mono h hS) (Nat.le_trans (by simp; omega) hC1.size) (refarities_any _ _ _ (HV.out.keep (Same.of_grow (Below.step hW hC1))) hs))
      intro vs K hK; go_simp; refine hK _ ?_; clear hK K
      iterate 1 (first | (apply rel_det; rfl; intro w1 hC1 hF1; obtain ⟨hc1, hf1⟩ := bcell hC1; go_simp; (first | exact ⟨Below.refl _ _, rfl⟩ | fail); intro K hK; go_simp; refine hK _ ?_; clear hK K) | (apply rel_skip; rfl; intro K hK; go_simp; refine hK _ ?_; clear hK K))
      apply rel_some (G := fun v w' => Ints (From w.heap.size) w' v (Tm.arities t)) (hG := fun v w w' h hb => Ints.keep h (Same.of_grow hb))
      · rfl
      · intro w1 hC1 hF1; obtain ⟨hc1, hf1⟩ := bcell hC1; go_simp; (go_at_call 34; exact rel_fresh (Rp := fun S w v => Ints S w v (Tm.arities t)) (fun h hS => Ints.mono h hS) (Nat.le_trans (by simp; omega) hC1.size) (refarities_any _ _ _ (HU.out.keep (Same.of_grow (Below.step hW hC1))) ht))
      intro vt K hK; go_simp; refine hK _ ?_; clear hK K
      repeat (first | (apply rel_det; rfl; intro w1 hC1 hF1; obtain ⟨hc1, hf1⟩ := bcell hC1; go_simp; (first | exact ⟨Below.refl _ _, rfl⟩ | (go_at_call 15; exact rel_call (compareInts_any (Tm.arities s) (Tm.arities t) _ _ _ (Ints.mono (hF1 1 rfl : Ints (From w.heap.size) _ vs (Tm.arities s)) fun _ _ => trivial) (Ints.mono (hF1 3 rfl : Ints (From w.heap.size) _ vt (Tm.arities t)) fun _ _ => trivial)))); intro K hK; go_simp; refine hK _ ?_; clear hK K) | (apply rel_skip; rfl; intro K hK; go_simp; refine hK _ ?_; clear hK K))
      refine rel_nil (fun w2 hC2 hF2 => ?_)
      refine wpList_nil ?_
      rotate_left
      kernel_rfl
      go_wp2_with fail
      go_ret
      exact ⟨ret_int (HCMP.out.2.2.2 HEQ.out H0.out).symm, Below.step hW hC2⟩
    · have hb0 : (cmpI (Tm.rules s) (Tm.rules t) != 0) = true := by simp [h0]
      have H0 := Lib.hid h0
      clear h0
      go_wp2_with fail
      go_ret
      exact ⟨ret_int (HCMP.out.2.2.1 HEQ.out H0.out).symm, Below.step hW hC2⟩
  · have ho : ord (s.size : Int) t.size = 1 := ord_gt (by omega)
    go_wp2_with fail
    go_ret
    exact ⟨ret_int (ho.trans (HCMP.out.2.1 hgt).symm), Below.step hW hC2⟩
theorem collect_nil (F : Nat) (g : Tm → Int) (hF : Gives F g) (hg : ∀ S w v t, TmV S w v t → InI64 (g t)) (t : Tm) (v : Value) (w : World) (hv : TmV Any w v t) (hs : t.size ≤ 1000000) :
    Calls Try.prog 32 #[.slice none 0 0, v, .func (.func F) #[] #[]] w (RetInts w (t.pre g)) :=
  (collect_any F g (Lib.hid hF) (Lib.hid hg) t v w w.heap.size _ [] (hv.bound.mono fun b hb => hb.2) (by simpa using Nat.le_trans hs (by omega)) Own.nil (Nat.le_refl _)).mono
    fun e w' ⟨v1, he, ho, hgr, _⟩ => ⟨v1, he, by simpa using ho.ints, below_of_grown hgr (Nat.le_refl _) (fun k h => by cases h)⟩

theorem arities_any (t : Tm) (v : Value) (w : World) (hv : TmV Any w v t) (hs : t.size ≤ 1000000) :
    Calls Try.prog 32 #[.slice none 0 0, v, .func (.func 36) #[] #[]] w (RetInts w (t.pre Tm.nargs)) :=
  collect_nil _ _ nargs_gives (fun _ _ _ _ => nargs_ok) t v w hv hs

set_option maxHeartbeats 1000000 in
theorem compare_any (s t : Tm) (v u : Value) (w : World) (hv : TmV Any w v s) (hu : TmV Any w u t) (hs : s.size ≤ 1000000) (ht : t.size ≤ 1000000) :
    Calls Try.prog 19 #[v, u] w fun e w' => e = .returned (.int .i64 (cmpT s t)) ∧ Grow w w' := by
  have HV := Lib.hid hv
  have HU := Lib.hid hu
  have hl1 := s.rules_length
  have hl2 := t.rules_length
  have hl3 := s.arities_length
  have hl4 := t.arities_length
  have HL := Lib.hid (And.intro hl1 (And.intro hl2 (And.intro hl3 hl4)))
  have hcmp := cmpT_eq s t
  have HCMP := Lib.hid hcmp
  clear hl1 hl2 hl3 hl4 hcmp
  obtain ⟨r, l, hsr⟩ : ∃ r l, s = .mk r l := ⟨s.rule, s.args, by cases s; rfl⟩
  obtain ⟨r', l', htr⟩ : ∃ r l, t = .mk r l := ⟨t.rule, t.args, by cases t; rfl⟩
  rw [hsr] at hv
  rw [htr] at hu
  obtain ⟨A, cap, rfl, hr, hc, hm, hl⟩ := hv.form
  obtain ⟨A', cap', rfl, hr', hc', hm', hl'⟩ := hu.form
  clear hv hu hl hl' hsr htr
  have hW : Grow w ((w.alloc (.cells #[.int .i64 r, .slice A l.length cap] 24)).alloc (.cells #[.int .i64 r', .slice A' l'.length cap'] 24)) := Below.step (grow_alloc _ _) (grow_alloc _ _)
  go_enter Try.func19, Try.ntmps19
  go_wp2_with fail
  refine wp_region_rel (fun w' => Grow ((w.alloc (.cells #[.int .i64 r, .slice A l.length cap] 24)).alloc (.cells #[.int .i64 r', .slice A' l'.length cap'] 24)) w') (by kernel_rfl) (grow_drew _) (fun a b h k => Below.step h k) ?_
  apply Exists.intro
  constructor
  repeat (first | (apply rel_det; rfl; intro w1 hC1 hF1; obtain ⟨hc1, hf1⟩ := bcell hC1; go_simp; (first | exact ⟨Below.refl _ _, rfl⟩ | (go_at_call 11; exact rel_call (size_any _ _ _ (HV.out.keep (Same.of_grow (Below.step hW hC1))) (by omega))) | (go_at_call 11; exact rel_call (size_any _ _ _ (HU.out.keep (Same.of_grow (Below.step hW hC1))) (by omega)))); intro K hK; go_simp; refine hK _ ?_; clear hK K) | (apply rel_skip; rfl; intro K hK; go_simp; refine hK _ ?_; clear hK K))
  refine rel_nil (fun w2 hC2 hF2 => ?_)
  refine wpList_nil ?_
  rotate_left
  kernel_rfl
  rcases Nat.lt_trichotomy s.size t.size with hlt | heq | hgt
  · have ho : (s.size : Int) < t.size := by omega
    go_wp2_with fail
    go_ret
    exact ⟨ret_int (HCMP.out.1 hlt).symm, Below.step hW hC2⟩
  · have ho : ¬ (s.size : Int) < t.size := by omega
    have ho2 : ¬ (t.size : Int) < s.size := by omega
    have HEQ := Lib.hid heq
    clear heq
    go_wp2_with fail
    clear ho ho2
    refine wp_region_rel (fun w' => Grow ((w.alloc (.cells #[.int .i64 r, .slice A l.length cap] 24)).alloc (.cells #[.int .i64 r', .slice A' l'.length cap'] 24)) w') (by kernel_rfl) (hC2.drew) (fun a b h k => Below.step h k) ?_
    apply Exists.intro
    constructor
    iterate 1 (first | (apply rel_det; rfl; intro w1 hC1 hF1; obtain ⟨hc1, hf1⟩ := bcell hC1; go_simp; (first | exact ⟨Below.refl _ _, rfl⟩ | fail); intro K hK; go_simp; refine hK _ ?_; clear hK K) | (apply rel_skip; rfl; intro K hK; go_simp; refine hK _ ?_; clear hK K))
    apply rel_some (G := fun v w' => Ints (From w.heap.size) w' v (Tm.rules s)) (hG := fun v w w' h hb => Ints.keep h (Same.of_grow hb))
    · rfl
    · intro w1 hC1 hF1; obtain ⟨hc1, hf1⟩ := bcell hC1; go_simp; (go_at_call 16; exact rel_fresh (Rp := fun S w v => Ints S w v (Tm.rules s)) (fun h hS => Ints.mono h hS) (Nat.le_trans (by simp; omega) hC1.size) (rules_any _ _ _ (HV.out.keep (Same.of_grow (Below.step hW hC1))) hs))
    intro vs K hK; go_simp; refine hK _ ?_; clear hK K
    iterate 1 (first | (apply rel_det; rfl; intro w1 hC1 hF1; obtain ⟨hc1, hf1⟩ := bcell hC1; go_simp; (first | exact ⟨Below.refl _ _, rfl⟩ | fail); intro K hK; go_simp; refine hK _ ?_; clear hK K) | (apply rel_skip; rfl; intro K hK; go_simp; refine hK _ ?_; clear hK K))
    apply rel_some (G := fun v w' => Ints (From w.heap.size) w' v (Tm.rules t)) (hG := fun v w w' h hb => Ints.keep h (Same.of_grow hb))
    · rfl
    · intro w1 hC1 hF1; obtain ⟨hc1, hf1⟩ := bcell hC1; go_simp; (go_at_call 16; exact rel_fresh (Rp := fun S w v => Ints S w v (Tm.rules t)) (fun h hS => Ints.mono h hS) (Nat.le_trans (by simp; omega) hC1.size) (rules_any _ _ _ (HU.out.keep (Same.of_grow (Below.step hW hC1))) ht))
    intro vt K hK; go_simp; refine hK _ ?_; clear hK K
    repeat (first | (apply rel_det; rfl; intro w1 hC1 hF1; obtain ⟨hc1, hf1⟩ := bcell hC1; go_simp; (first | exact ⟨Below.refl _ _, rfl⟩ | (go_at_call 35; exact rel_call (lexical_any (Tm.rules s) (Tm.rules t) _ _ _ (Ints.mono (hF1 1 rfl : Ints (From w.heap.size) _ vs (Tm.rules s)) fun _ _ => trivial) (Ints.mono (hF1 3 rfl : Ints (From w.heap.size) _ vt (Tm.rules t)) fun _ _ => trivial) (by have := HL.out; have := HEQ.out; omega)))); intro K hK; go_simp; refine hK _ ?_; clear hK K) | (apply rel_skip; rfl; intro K hK; go_simp; refine hK _ ?_; clear hK K))
    refine rel_nil (fun w2 hC2 hF2 => ?_)
    refine wpList_nil ?_
    rotate_left
    kernel_rfl
    by_cases h0 : cmpI (Tm.rules s) (Tm.rules t) = 0
    · have hb0 : (cmpI (Tm.rules s) (Tm.rules t) != 0) = false := by simp [h0]
      have H0 := Lib.hid h0
      clear h0
      go_wp2_with fail
      refine wp_region_rel (fun w' => Grow ((w.alloc (.cells #[.int .i64 r, .slice A l.length cap] 24)).alloc (.cells #[.int .i64 r', .slice A' l'.length cap'] 24)) w') (by kernel_rfl) (hC2.drew) (fun a b h k => Below.step h k) ?_
      apply Exists.intro
      constructor
      iterate 2 (first | (apply rel_det; rfl; intro w1 hC1 hF1; obtain ⟨hc1, hf1⟩ := bcell hC1; go_simp; (first | exact ⟨Below.refl _ _, rfl⟩ | fail); intro K hK; go_simp; refine hK _ ?_; clear hK K) | (apply rel_skip; rfl; intro K hK; go_simp; refine hK _ ?_; clear hK K))
      apply rel_some (G := fun v w' => Ints (From w.heap.size) w' v (Tm.arities s)) (hG := fun v w w' h hb => Ints.keep h (Same.of_grow hb))
      · rfl
      · intro w1 hC1 hF1; obtain ⟨hc1, hf1⟩ := bcell hC1; go_simp; (go_at_call 32; exact rel_fresh (Rp := fun S w v => Ints S w v (Tm.arities s)) (fun h hS => Ints.mono h hS) (Nat.le_trans (by simp; omega) hC1.size) (arities_any _ _ _ (HV.out.keep (Same.of_grow (Below.step hW hC1))) hs))
      intro vs K hK; go_simp; refine hK _ ?_; clear hK K
      iterate 2 (first | (apply rel_det; rfl; intro w1 hC1 hF1; obtain ⟨hc1, hf1⟩ := bcell hC1; go_simp; (first | exact ⟨Below.refl _ _, rfl⟩ | fail); intro K hK; go_simp; refine hK _ ?_; clear hK K) | (apply rel_skip; rfl; intro K hK; go_simp; refine hK _ ?_; clear hK K))
      apply rel_some (G := fun v w' => Ints (From w.heap.size) w' v (Tm.arities t)) (hG := fun v w w' h hb => Ints.keep h (Same.of_grow hb))
      · rfl
      · intro w1 hC1 hF1; obtain ⟨hc1, hf1⟩ := bcell hC1; go_simp; (go_at_call 32; exact rel_fresh (Rp := fun S w v => Ints S w v (Tm.arities t)) (fun h hS => Ints.mono h hS) (Nat.le_trans (by simp; omega) hC1.size) (arities_any _ _ _ (HU.out.keep (Same.of_grow (Below.step hW hC1))) ht))
      intro vt K hK; go_simp; refine hK _ ?_; clear hK K
      repeat (first | (apply rel_det; rfl; intro w1 hC1 hF1; obtain ⟨hc1, hf1⟩ := bcell hC1; go_simp; (first | exact ⟨Below.refl _ _, rfl⟩ | (go_at_call 35; exact rel_call (lexical_any (Tm.arities s) (Tm.arities t) _ _ _ (Ints.mono (hF1 2 rfl : Ints (From w.heap.size) _ vs (Tm.arities s)) fun _ _ => trivial) (Ints.mono (hF1 5 rfl : Ints (From w.heap.size) _ vt (Tm.arities t)) fun _ _ => trivial) (by have := HL.out; have := HEQ.out; omega)))); intro K hK; go_simp; refine hK _ ?_; clear hK K) | (apply rel_skip; rfl; intro K hK; go_simp; refine hK _ ?_; clear hK K))
      refine rel_nil (fun w2 hC2 hF2 => ?_)
      refine wpList_nil ?_
      rotate_left
      kernel_rfl
      go_wp2_with fail
      go_ret
      exact ⟨ret_int (HCMP.out.2.2.2 HEQ.out H0.out).symm, Below.step hW hC2⟩
    · have hb0 : (cmpI (Tm.rules s) (Tm.rules t) != 0) = true := by simp [h0]
      have H0 := Lib.hid h0
      clear h0
      go_wp2_with fail
      go_ret
      exact ⟨ret_int (HCMP.out.2.2.1 HEQ.out H0.out).symm, Below.step hW hC2⟩
  · have ho : ¬ (s.size : Int) < t.size := by omega
    have ho2 : (t.size : Int) < s.size := by omega
    go_wp2_with fail
    go_ret
    exact ⟨ret_int (HCMP.out.2.1 hgt).symm, Below.step hW hC2⟩
end Go.Proofs.Ytkimcgcbdfkobaa
