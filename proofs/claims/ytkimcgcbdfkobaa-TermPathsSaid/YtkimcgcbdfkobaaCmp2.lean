/- The reference's lists, the orders of lists, and Compare. -/
import Derived.Test.YtkimcgcbdfkobaaCmp
set_option linter.unusedVariables false
set_option linter.unusedSimpArgs false
namespace Go.Proofs.Ytkimcgcbdfkobaa
open Go Go.RowKit

set_option maxHeartbeats 1000000 in
theorem refrules_any (t : Tm) : ∀ (v : Value) (w : World), TmV Any w v t → t.size ≤ 1000000 → Calls Try.prog 17 #[v] w (RetInts w (t.pre Tm.rule)) := by
  induction t using Tm.ind with
  | h r l ih =>
    intro v w hv hs
    have HR := Lib.hid (rule_ok hv)
    obtain ⟨A, cap, rfl, hr, hc, hm, hl⟩ := hv.form
    simp only [Tm.size] at hs
    have HL := Lib.hid ((hl.bound.mono (S' := Lt w.heap.size) fun b hb => hb.2).keep (Same.of_grow (grow_alloc w (.cells #[.int .i64 r, .slice A l.length cap] 24))))
    have IH := Lib.hid ih
    clear hl ih hv
    go_enter Try.func17, Try.ntmps17
    go_wp2_with fail
    go_loopw [3, 4] (fun v i wr => ∃ k : Nat, k ≤ l.length ∧ i = .int .i64 k ∧ OwnI (w.heap.size + 1) wr v (Tm.rule (.mk r l) :: Tm.preL Tm.rule (l.take k)) ∧ Below (w.heap.size + 1) (w.alloc (.cells #[.int .i64 r, .slice A l.length cap] 24)) wr) (fun _ i _ => l.length - (intOf i).toNat)
    case atStart =>
      refine ⟨0, by omega, by simp, ?_, (grow_alloc _ _).mono (by simp)⟩
      simp only [List.take_zero, Tm.preL]
      have h := ownI_one (w.alloc (.cells #[.int .i64 r, .slice A l.length cap] 24)) _ HR.out (w.heap.size + 1) (by simp)
      simp only [World.size_alloc] at h
      exact h
    case round =>
      obtain ⟨k, hk, rfl, ho, hb⟩ := hrel
      have HO := Lib.hid ho
      clear ho
      have cb : wr.cell? ⟨w.heap.size, 1, none⟩ = some (.slice A l.length cap) := by rw [Below.cell hb (by simp)]; simp
      have hz : w.heap.size + 1 ≤ wr.heap.size := by have := hb.size; simpa using this
      by_cases hlt : k < l.length
      · obtain ⟨b, o, A', n', c', rfl, hbl, c1, c2, hv⟩ := (HL.out.keep (Same.of_below hb fun b hb => Nat.lt_succ_of_lt hb)).get hlt
        have HV := Lib.hid hv
        clear hv
        have h1 : l[k].size ≤ 1000000 := by have := Tm.sizeL_mem (List.getElem_mem hlt); omega
        have HT := Lib.hid (Tm.sizeL_take l k)
        have HB := Lib.hid hb
        clear hb
        go_wp2_with (go_at_call 17; refine (IH.out _ (List.getElem_mem hlt) _ _ (HV.out.mono fun _ _ => trivial) h1).mono ?_; rintro e w1 ⟨v1, rfl, hi1, hg1⟩; refine Hold.stop ?_)
        have HO1 := Lib.hid (HO.out.grow keptInt hg1)
        have HI1 := Lib.hid hi1
        have HG1 := Lib.hid hg1
        clear hi1 hg1
        refine Hold.go ?_
        go_wp2_with (at_builtin; refine Hold.stop ?_)
        refine Hold.go ?_
        refine wpList_append_Own elt_int keptInt rfl (.tmp 15) (.tmp 21) rfl rfl rfl HO1.out HI1.out (by have := HT.out; simp [Tm.preL_length, Tm.pre_length]; omega) (by have := HT.out; simp [Tm.preL_length, Tm.pre_length]; omega) (by have := HG1.out.size; omega) ?_
        intro v2 w2 ho2 hg2 hv2
        have HO2 := Lib.hid ho2
        have HG2 := Lib.hid hg2
        clear ho2 hg2 hv2
        go_wp2_with fail
        go_roundw
        case rel =>
          refine ⟨k + 1, by omega, by go_num, ?_, HB.out.trans ((HG1.out.mono hz).trans (below_of_grown HG2.out (by have := HG1.out.size; omega) fun b h => (HO.out.block b h).1))⟩
          rw [Tm.preL_take_succ _ hlt]
          simpa using HO2.out
        case measure => simp [intOf]; omega
      · have h0 : k = l.length := by omega
        subst h0
        have HB := Lib.hid hb
        clear hb
        go_wp2_with fail
        go_ret
        exact ⟨_, rfl, Ints.mono (by simpa [Tm.pre] using HO.out.ints) (From.mono (by omega)), (grow_alloc _ _).trans (HB.out.mono (by omega))⟩

set_option maxHeartbeats 1000000 in
theorem refarities_any (t : Tm) : ∀ (v : Value) (w : World), TmV Any w v t → t.size ≤ 1000000 → Calls Try.prog 34 #[v] w (RetInts w (t.pre Tm.nargs)) := by
  induction t using Tm.ind with
  | h r l ih =>
    intro v w hv hs
    have HR := Lib.hid (nargs_ok hv)
    obtain ⟨A, cap, rfl, hr, hc, hm, hl⟩ := hv.form
    simp only [Tm.size] at hs
    have HL := Lib.hid ((hl.bound.mono (S' := Lt w.heap.size) fun b hb => hb.2).keep (Same.of_grow (grow_alloc w (.cells #[.int .i64 r, .slice A l.length cap] 24))))
    have IH := Lib.hid ih
    clear hl ih hv
    go_enter Try.func34, Try.ntmps34
    go_wp2_with fail
    go_loopw [3, 4] (fun v i wr => ∃ k : Nat, k ≤ l.length ∧ i = .int .i64 k ∧ OwnI (w.heap.size + 1) wr v (Tm.nargs (.mk r l) :: Tm.preL Tm.nargs (l.take k)) ∧ Below (w.heap.size + 1) (w.alloc (.cells #[.int .i64 r, .slice A l.length cap] 24)) wr) (fun _ i _ => l.length - (intOf i).toNat)
    case atStart =>
      refine ⟨0, by omega, by simp, ?_, (grow_alloc _ _).mono (by simp)⟩
      simp only [List.take_zero, Tm.preL]
      have h := ownI_one (w.alloc (.cells #[.int .i64 r, .slice A l.length cap] 24)) _ HR.out (w.heap.size + 1) (by simp)
      simp only [World.size_alloc] at h
      exact h
    case round =>
      obtain ⟨k, hk, rfl, ho, hb⟩ := hrel
      have HO := Lib.hid ho
      clear ho
      have cb : wr.cell? ⟨w.heap.size, 1, none⟩ = some (.slice A l.length cap) := by rw [Below.cell hb (by simp)]; simp
      have hz : w.heap.size + 1 ≤ wr.heap.size := by have := hb.size; simpa using this
      by_cases hlt : k < l.length
      · obtain ⟨b, o, A', n', c', rfl, hbl, c1, c2, hv⟩ := (HL.out.keep (Same.of_below hb fun b hb => Nat.lt_succ_of_lt hb)).get hlt
        have HV := Lib.hid hv
        clear hv
        have h1 : l[k].size ≤ 1000000 := by have := Tm.sizeL_mem (List.getElem_mem hlt); omega
        have HT := Lib.hid (Tm.sizeL_take l k)
        have HB := Lib.hid hb
        clear hb
        go_wp2_with (go_at_call 34; refine (IH.out _ (List.getElem_mem hlt) _ _ (HV.out.mono fun _ _ => trivial) h1).mono ?_; rintro e w1 ⟨v1, rfl, hi1, hg1⟩; refine Hold.stop ?_)
        have HO1 := Lib.hid (HO.out.grow keptInt hg1)
        have HI1 := Lib.hid hi1
        have HG1 := Lib.hid hg1
        clear hi1 hg1
        refine Hold.go ?_
        go_wp2_with (at_builtin; refine Hold.stop ?_)
        refine Hold.go ?_
        refine wpList_append_Own elt_int keptInt rfl (.tmp 16) (.tmp 22) rfl rfl rfl HO1.out HI1.out (by have := HT.out; simp [Tm.preL_length, Tm.pre_length]; omega) (by have := HT.out; simp [Tm.preL_length, Tm.pre_length]; omega) (by have := HG1.out.size; omega) ?_
        intro v2 w2 ho2 hg2 hv2
        have HO2 := Lib.hid ho2
        have HG2 := Lib.hid hg2
        clear ho2 hg2 hv2
        go_wp2_with fail
        go_roundw
        case rel =>
          refine ⟨k + 1, by omega, by go_num, ?_, HB.out.trans ((HG1.out.mono hz).trans (below_of_grown HG2.out (by have := HG1.out.size; omega) fun b h => (HO.out.block b h).1))⟩
          rw [Tm.preL_take_succ _ hlt]
          simpa using HO2.out
        case measure => simp [intOf]; omega
      · have h0 : k = l.length := by omega
        subst h0
        have HB := Lib.hid hb
        clear hb
        go_wp2_with fail
        go_ret
        exact ⟨_, rfl, Ints.mono (by simpa [Tm.pre] using HO.out.ints) (From.mono (by omega)), (grow_alloc _ _).trans (HB.out.mono (by omega))⟩

/-- the lexicographic order of lists of numbers -/
def cmpI : List Int → List Int → Int
  | [], [] => 0
  | [], _ :: _ => -1
  | _ :: _, [] => 1
  | x :: xs, y :: ys => if x < y then -1 else if x > y then 1 else cmpI xs ys

theorem cmpI_drop {xs ys : List Int} {k : Nat} (h1 : k < xs.length) (h2 : k < ys.length) :
    cmpI (xs.drop k) (ys.drop k) = if xs[k] < ys[k] then -1 else if xs[k] > ys[k] then 1 else cmpI (xs.drop (k + 1)) (ys.drop (k + 1)) := by
  rw [List.drop_eq_getElem_cons h1, List.drop_eq_getElem_cons h2, cmpI]

theorem cmpI_end {xs ys : List Int} (h : xs = [] ∨ ys = []) : cmpI xs ys = ord xs.length ys.length := by
  rcases h with rfl | rfl
  · cases ys with
    | nil => rfl
    | cons y ys => simp only [cmpI]; rw [ord_lt]; simp
  · cases xs with
    | nil => rfl
    | cons y ys => simp only [cmpI]; rw [ord_gt]; simp

theorem ord_shift {a b : Nat} {c d : Nat} (h : (a : Int) - b = (c : Int) - d) : ord a b = ord c d := by
  rcases Int.lt_trichotomy (a : Int) b with h1 | h1 | h1
  · rw [ord_lt h1, ord_lt (by omega)]
  · rw [h1, ord_eq, show (c : Int) = d by omega, ord_eq]
  · rw [ord_gt h1, ord_gt (by omega)]
theorem cmpI_tail {xs ys : List Int} {k : Nat} (h1 : k ≤ xs.length) (h2 : k ≤ ys.length) (he : k = xs.length ∨ k = ys.length) : cmpI (xs.drop k) (ys.drop k) = ord xs.length ys.length := by
  rw [cmpI_end (he.imp (fun h => List.drop_eq_nil_of_le (by omega)) fun h => List.drop_eq_nil_of_le (by omega))]
  exact ord_shift (by rw [List.length_drop, List.length_drop]; omega)

set_option maxHeartbeats 1000000 in
theorem compareInts_any (xs ys : List Int) (u v : Value) (w : World) (hx : Ints Any w u xs) (hy : Ints Any w v ys) :
    Calls Try.prog 15 #[u, v] w fun e w' => e = .returned (.int .i64 (cmpI xs ys)) ∧ Grow w w' := by
  obtain ⟨A, cap, rfl, h1, h2, h3⟩ := hx.form
  obtain ⟨A', cap', rfl, h1', h2', h3'⟩ := hy.form
  have HX := Lib.hid h3
  have HY := Lib.hid h3'
  clear hx hy h3 h3'
  go_enter Try.func15, Try.ntmps15
  go_wp2_with fail
  go_loopw [5] (fun i wr => ∃ k : Nat, k ≤ xs.length ∧ k ≤ ys.length ∧ i = .int .i64 k ∧ Hid (cmpI xs ys = cmpI (xs.drop k) (ys.drop k)) ∧ Grow w wr) (fun i _ => xs.length - (intOf i).toNat)
  case atStart => exact ⟨0, by omega, by omega, by simp, Lib.hid rfl, grow_refl _⟩
  case round =>
    obtain ⟨k, hk, hk', rfl, hc, hb⟩ := hrel
    by_cases hlt : k < xs.length
    · by_cases hlt' : k < ys.length
      · obtain ⟨_, b, o, rfl, -, c1⟩ := HX.out k hlt
        obtain ⟨_, b', o', rfl, -, c2⟩ := HY.out k hlt'
        have HC := Lib.hid (cmpI_drop hlt hlt')
        have c1' := (Below.cell hb (cell_lt c1)).trans c1
        have c2' := (Below.cell hb (cell_lt c2)).trans c2
        have hbl : b < wr.heap.size := cell_lt c1'
        have hbl' : b' < wr.heap.size := cell_lt c2'
        clear c1 c2
        generalize xs[k] = x at *
        generalize ys[k] = y at *
        rcases Int.lt_trichotomy x y with hxy | hxy | hxy
        · go_wp2_with fail
          refine wp_region_rel (fun w' => Grow (wr) w') (by kernel_rfl) (grow_drew _) (fun a b h k => Below.step h k) ?_
          apply Exists.intro
          constructor
          repeat (first | (apply rel_det; rfl; intro w1 hC1 hF1; obtain ⟨hc1, hf1⟩ := bcell hC1; go_simp; (first | exact ⟨Below.refl _ _, rfl⟩ | fail); intro K hK; go_simp; refine hK _ ?_; clear hK K) | (apply rel_skip; rfl; intro K hK; go_simp; refine hK _ ?_; clear hK K))
          refine rel_nil (fun w2 hC2 hF2 => ?_)
          refine wpList_nil ?_
          rotate_left
          kernel_rfl
          go_wp2_with fail
          go_ret
          exact ⟨ret_int (by rw [hc.out, HC.out, if_pos hxy]), Below.step hb hC2⟩
        · have hd : ¬ x < y := by omega
          have hd2 : ¬ y < x := by omega
          have HC' := Lib.hid (show cmpI xs ys = cmpI (xs.drop (k + 1)) (ys.drop (k + 1)) by rw [hc.out, HC.out, if_neg hd, if_neg hd2])
          clear hxy
          go_wp2_with fail
          refine wp_region_rel (fun w' => Grow (wr) w') (by kernel_rfl) (grow_drew _) (fun a b h k => Below.step h k) ?_
          apply Exists.intro
          constructor
          repeat (first | (apply rel_det; rfl; intro w1 hC1 hF1; obtain ⟨hc1, hf1⟩ := bcell hC1; go_simp; (first | exact ⟨Below.refl _ _, rfl⟩ | fail); intro K hK; go_simp; refine hK _ ?_; clear hK K) | (apply rel_skip; rfl; intro K hK; go_simp; refine hK _ ?_; clear hK K))
          refine rel_nil (fun w2 hC2 hF2 => ?_)
          refine wpList_nil ?_
          rotate_left
          kernel_rfl
          have c1w := (Below.cell hC2 hbl).trans c1'
          have c2w := (Below.cell hC2 hbl').trans c2'
          have hb2 : b < w2.heap.size := cell_lt c1w
          have hb2' : b' < w2.heap.size := cell_lt c2w
          have HB := Lib.hid (Below.step hb hC2)
          clear hb hC2 c1' c2' hbl hbl'
          rename World => wq
          go_wp2_with fail
          refine wp_region_rel (fun w' => Grow (wq) w') (by kernel_rfl) (grow_drew _) (fun a b h k => Below.step h k) ?_
          apply Exists.intro
          constructor
          repeat (first | (apply rel_det; rfl; intro w1 hC1 hF1; obtain ⟨hc1, hf1⟩ := bcell hC1; go_simp; (first | exact ⟨Below.refl _ _, rfl⟩ | fail); intro K hK; go_simp; refine hK _ ?_; clear hK K) | (apply rel_skip; rfl; intro K hK; go_simp; refine hK _ ?_; clear hK K))
          refine rel_nil (fun w2 hC2 hF2 => ?_)
          refine wpList_nil ?_
          rotate_left
          kernel_rfl
          go_wp2_with fail
          go_roundw
          case rel => exact ⟨k + 1, by omega, by omega, by go_num, HC', Below.step HB.out hC2⟩
          case measure => simp [intOf]; omega
        · have hd : ¬ x < y := by omega
          have HC' := Lib.hid (show cmpI xs ys = 1 by rw [hc.out, HC.out, if_neg hd, if_pos hxy])
          go_wp2_with fail
          refine wp_region_rel (fun w' => Grow (wr) w') (by kernel_rfl) (grow_drew _) (fun a b h k => Below.step h k) ?_
          apply Exists.intro
          constructor
          repeat (first | (apply rel_det; rfl; intro w1 hC1 hF1; obtain ⟨hc1, hf1⟩ := bcell hC1; go_simp; (first | exact ⟨Below.refl _ _, rfl⟩ | fail); intro K hK; go_simp; refine hK _ ?_; clear hK K) | (apply rel_skip; rfl; intro K hK; go_simp; refine hK _ ?_; clear hK K))
          refine rel_nil (fun w2 hC2 hF2 => ?_)
          refine wpList_nil ?_
          rotate_left
          kernel_rfl
          have c1w := (Below.cell hC2 hbl).trans c1'
          have c2w := (Below.cell hC2 hbl').trans c2'
          have hb2 : b < w2.heap.size := cell_lt c1w
          have hb2' : b' < w2.heap.size := cell_lt c2w
          have HB := Lib.hid (Below.step hb hC2)
          clear hb hC2 c1' c2' hbl hbl'
          rename World => wq
          go_wp2_with fail
          refine wp_region_rel (fun w' => Grow (wq) w') (by kernel_rfl) (grow_drew _) (fun a b h k => Below.step h k) ?_
          apply Exists.intro
          constructor
          repeat (first | (apply rel_det; rfl; intro w1 hC1 hF1; obtain ⟨hc1, hf1⟩ := bcell hC1; go_simp; (first | exact ⟨Below.refl _ _, rfl⟩ | fail); intro K hK; go_simp; refine hK _ ?_; clear hK K) | (apply rel_skip; rfl; intro K hK; go_simp; refine hK _ ?_; clear hK K))
          refine rel_nil (fun w2 hC2 hF2 => ?_)
          refine wpList_nil ?_
          rotate_left
          kernel_rfl
          go_wp2_with fail
          go_ret
          exact ⟨ret_int HC'.out.symm, Below.step HB.out hC2⟩
      · go_wp2_with (go_at_call 31; refine (order_any _ _ _).mono ?_; rintro e w1 ⟨rfl, hb1⟩)
        go_ret
        exact ⟨ret_int (hc.out.trans (cmpI_tail hk hk' (.inr (by omega)))).symm, Below.step hb hb1⟩
    · go_wp2_with (go_at_call 31; refine (order_any _ _ _).mono ?_; rintro e w1 ⟨rfl, hb1⟩)
      go_ret
      exact ⟨ret_int (hc.out.trans (cmpI_tail hk hk' (.inl (by omega)))).symm, Below.step hb hb1⟩
set_option maxHeartbeats 1000000 in
theorem lexical_any (xs ys : List Int) (u v : Value) (w : World) (hx : Ints Any w u xs) (hy : Ints Any w v ys) (hlen : xs.length = ys.length) :
    Calls Try.prog 35 #[u, v] w fun e w' => e = .returned (.int .i64 (cmpI xs ys)) ∧ Grow w w' := by
  have HLEN := Lib.hid hlen
  clear hlen
  obtain ⟨A, cap, rfl, h1, h2, h3⟩ := hx.form
  obtain ⟨A', cap', rfl, h1', h2', h3'⟩ := hy.form
  have HX := Lib.hid h3
  have HY := Lib.hid h3'
  clear hx hy h3 h3'
  go_enter Try.func35, Try.ntmps35
  go_wp2_with fail
  go_loopw [8] (fun i wr => ∃ k : Nat, k ≤ xs.length ∧ k ≤ ys.length ∧ i = .int .i64 k ∧ Hid (cmpI xs ys = cmpI (xs.drop k) (ys.drop k)) ∧ Grow w wr) (fun i _ => xs.length - (intOf i).toNat)
  case atStart => exact ⟨0, by omega, by omega, by simp, Lib.hid rfl, grow_refl _⟩
  case round =>
    obtain ⟨k, hk, hk', rfl, hc, hb⟩ := hrel
    by_cases hlt : k < xs.length
    · have hlt' : k < ys.length := by have := HLEN.out; omega
      · obtain ⟨_, b, o, rfl, -, c1⟩ := HX.out k hlt
        obtain ⟨_, b', o', rfl, -, c2⟩ := HY.out k hlt'
        have HC := Lib.hid (cmpI_drop hlt hlt')
        have c1' := (Below.cell hb (cell_lt c1)).trans c1
        have c2' := (Below.cell hb (cell_lt c2)).trans c2
        have hbl : b < wr.heap.size := cell_lt c1'
        have hbl' : b' < wr.heap.size := cell_lt c2'
        clear c1 c2
        generalize xs[k] = x at *
        generalize ys[k] = y at *
        rcases Int.lt_trichotomy x y with hxy | hxy | hxy
        · go_wp2_with fail
          refine wp_region_rel (fun w' => Grow (wr) w') (by kernel_rfl) (grow_drew _) (fun a b h k => Below.step h k) ?_
          apply Exists.intro
          constructor
          repeat (first | (apply rel_det; rfl; intro w1 hC1 hF1; obtain ⟨hc1, hf1⟩ := bcell hC1; go_simp; (first | exact ⟨Below.refl _ _, rfl⟩ | fail); intro K hK; go_simp; refine hK _ ?_; clear hK K) | (apply rel_skip; rfl; intro K hK; go_simp; refine hK _ ?_; clear hK K))
          refine rel_nil (fun w2 hC2 hF2 => ?_)
          refine wpList_nil ?_
          rotate_left
          kernel_rfl
          go_wp2_with fail
          go_ret
          exact ⟨ret_int (by rw [hc.out, HC.out, if_pos hxy]), Below.step hb hC2⟩
        · have hd : ¬ x < y := by omega
          have hd2 : ¬ y < x := by omega
          have HC' := Lib.hid (show cmpI xs ys = cmpI (xs.drop (k + 1)) (ys.drop (k + 1)) by rw [hc.out, HC.out, if_neg hd, if_neg hd2])
          clear hxy
          go_wp2_with fail
          refine wp_region_rel (fun w' => Grow (wr) w') (by kernel_rfl) (grow_drew _) (fun a b h k => Below.step h k) ?_
          apply Exists.intro
          constructor
          repeat (first | (apply rel_det; rfl; intro w1 hC1 hF1; obtain ⟨hc1, hf1⟩ := bcell hC1; go_simp; (first | exact ⟨Below.refl _ _, rfl⟩ | fail); intro K hK; go_simp; refine hK _ ?_; clear hK K) | (apply rel_skip; rfl; intro K hK; go_simp; refine hK _ ?_; clear hK K))
          refine rel_nil (fun w2 hC2 hF2 => ?_)
          refine wpList_nil ?_
          rotate_left
          kernel_rfl
          have c1w := (Below.cell hC2 hbl).trans c1'
          have c2w := (Below.cell hC2 hbl').trans c2'
          have hb2 : b < w2.heap.size := cell_lt c1w
          have hb2' : b' < w2.heap.size := cell_lt c2w
          have HB := Lib.hid (Below.step hb hC2)
          clear hb hC2 c1' c2' hbl hbl'
          rename World => wq
          go_wp2_with fail
          refine wp_region_rel (fun w' => Grow (wq) w') (by kernel_rfl) (grow_drew _) (fun a b h k => Below.step h k) ?_
          apply Exists.intro
          constructor
          repeat (first | (apply rel_det; rfl; intro w1 hC1 hF1; obtain ⟨hc1, hf1⟩ := bcell hC1; go_simp; (first | exact ⟨Below.refl _ _, rfl⟩ | fail); intro K hK; go_simp; refine hK _ ?_; clear hK K) | (apply rel_skip; rfl; intro K hK; go_simp; refine hK _ ?_; clear hK K))
          refine rel_nil (fun w2 hC2 hF2 => ?_)
          refine wpList_nil ?_
          rotate_left
          kernel_rfl
          go_wp2_with fail
          go_roundw
          case rel => exact ⟨k + 1, by omega, by omega, by go_num, HC', Below.step HB.out hC2⟩
          case measure => simp [intOf]; omega
        · have hd : ¬ x < y := by omega
          have HC' := Lib.hid (show cmpI xs ys = 1 by rw [hc.out, HC.out, if_neg hd, if_pos hxy])
          go_wp2_with fail
          refine wp_region_rel (fun w' => Grow (wr) w') (by kernel_rfl) (grow_drew _) (fun a b h k => Below.step h k) ?_
          apply Exists.intro
          constructor
          repeat (first | (apply rel_det; rfl; intro w1 hC1 hF1; obtain ⟨hc1, hf1⟩ := bcell hC1; go_simp; (first | exact ⟨Below.refl _ _, rfl⟩ | fail); intro K hK; go_simp; refine hK _ ?_; clear hK K) | (apply rel_skip; rfl; intro K hK; go_simp; refine hK _ ?_; clear hK K))
          refine rel_nil (fun w2 hC2 hF2 => ?_)
          refine wpList_nil ?_
          rotate_left
          kernel_rfl
          have c1w := (Below.cell hC2 hbl).trans c1'
          have c2w := (Below.cell hC2 hbl').trans c2'
          have hb2 : b < w2.heap.size := cell_lt c1w
          have hb2' : b' < w2.heap.size := cell_lt c2w
          have HB := Lib.hid (Below.step hb hC2)
          clear hb hC2 c1' c2' hbl hbl'
          rename World => wq
          go_wp2_with fail
          refine wp_region_rel (fun w' => Grow (wq) w') (by kernel_rfl) (grow_drew _) (fun a b h k => Below.step h k) ?_
          apply Exists.intro
          constructor
          repeat (first | (apply rel_det; rfl; intro w1 hC1 hF1; obtain ⟨hc1, hf1⟩ := bcell hC1; go_simp; (first | exact ⟨Below.refl _ _, rfl⟩ | fail); intro K hK; go_simp; refine hK _ ?_; clear hK K) | (apply rel_skip; rfl; intro K hK; go_simp; refine hK _ ?_; clear hK K))
          refine rel_nil (fun w2 hC2 hF2 => ?_)
          refine wpList_nil ?_
          rotate_left
          kernel_rfl
          go_wp2_with fail
          go_ret
          exact ⟨ret_int HC'.out.symm, Below.step HB.out hC2⟩
    · go_wp2_with fail
      go_ret
      exact ⟨ret_int (hc.out.trans ((cmpI_tail hk hk' (.inl (by omega))).trans (by rw [HLEN.out, ord_eq]))).symm, hb⟩

end Go.Proofs.Ytkimcgcbdfkobaa
