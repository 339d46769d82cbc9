/- term.Size and the reference's Size. -/
import Derived.Test.YtkimcgcbdfkobaaRows
import Derived.Test.YtkimcgcbdfkobaaTm
set_option linter.unusedVariables false
set_option linter.unusedSimpArgs false
namespace Go.Proofs.Ytkimcgcbdfkobaa
open Go Go.RowKit

set_option maxHeartbeats 400000 in
theorem size_any (t : Tm) : ∀ (v : Value) (w : World), TmV Any w v t → t.size ≤ 1000000000 →
    Calls Try.prog 11 #[v] w fun e w' => e = .returned (.int .i64 t.size) ∧ Grow w w' := by
  induction t using Tm.ind with
  | h r l ih =>
    intro v w hv hs
    obtain ⟨A, cap, rfl, hr, hc, hm, hl⟩ := hv.form
    simp only [Tm.size] at hs ⊢
    have HL := Lib.hid hl
    have IH := Lib.hid ih
    clear hl ih hv
    go_enter Try.func11, Try.ntmps11
    go_wp2_with fail
    go_loopw [3, 9] (fun n i wr => ∃ k : Nat, k ≤ l.length ∧ i = .int .i64 k ∧ n = .int .i64 ((Tm.sizeL (l.take k) + 1 : Nat) : Int) ∧ Grow w wr) (fun _ i _ => l.length - (intOf i).toNat)
    case atStart => exact ⟨0, by omega, by simp, by simp [Tm.sizeL], grow_alloc _ _⟩
    case round =>
      obtain ⟨k, hk, rfl, rfl, hb⟩ := hrel
      by_cases hlt : k < l.length
      · obtain ⟨b, o, A', n', c', rfl, -, c1, c2, hv⟩ := (HL.out.keep (Same.of_grow hb)).get hlt
        have hsz := Tm.sizeL_take_succ hlt
        have hle := Tm.sizeL_take l (k + 1)
        have HSZ := Lib.hid hsz
        have h1 : Tm.sizeL (l.take k) + l[k].size ≤ 1000000000 := by omega
        clear hsz hle
        have HV := Lib.hid hv
        clear hv
        go_wp2_with (go_at_call 11; refine (IH.out _ (List.getElem_mem hlt) _ _ (HV.out.keep (Same.of_grow ?_)) (by omega)).mono ?_; exact grow_alloc _ _; rintro e w' ⟨rfl, hb'⟩)
        go_roundw
        case rel => exact ⟨k + 1, by omega, by go_num, int_eq (by rw [HSZ.out]; omega), Below.step hb (Below.step (grow_alloc _ _) hb')⟩
        case measure => simp [intOf]; omega
      · have h0 : k = l.length := by omega
        subst h0
        go_wp2_with fail
        go_ret
        exact ⟨by simp, hb⟩

set_option maxHeartbeats 400000 in
theorem refsize_any (t : Tm) : ∀ (v : Value) (w : World), TmV Any w v t → t.size ≤ 1000000000 →
    Calls Try.prog 12 #[v] w fun e w' => e = .returned (.int .i64 t.size) ∧ Grow w w' := by
  induction t using Tm.ind with
  | h r l ih =>
    intro v w hv hs
    obtain ⟨A, cap, rfl, hr, hc, hm, hl⟩ := hv.form
    simp only [Tm.size] at hs ⊢
    have HL := Lib.hid (hl.keep (Same.of_grow (grow_alloc w (.cells #[.int .i64 r, .slice A l.length cap] 24))))
    have IH := Lib.hid ih
    clear hl ih hv
    go_enter Try.func12, Try.ntmps12
    go_wp2_with fail
    go_loopw [3, 4] (fun n i wr => ∃ k : Nat, k ≤ l.length ∧ i = .int .i64 k ∧ n = .int .i64 ((Tm.sizeL (l.take k) + 1 : Nat) : Int) ∧ Grow (w.alloc (.cells #[.int .i64 r, .slice A l.length cap] 24)) wr) (fun _ i _ => l.length - (intOf i).toNat)
    case atStart => exact ⟨0, by omega, by simp, by simp [Tm.sizeL], grow_refl _⟩
    case round =>
      obtain ⟨k, hk, rfl, rfl, hb⟩ := hrel
      have cb : wr.cell? ⟨w.heap.size, 1, none⟩ = some (.slice A l.length cap) := by rw [Below.cell hb (by simp)]; simp
      by_cases hlt : k < l.length
      · obtain ⟨b, o, A', n', c', rfl, -, c1, c2, hv⟩ := (HL.out.keep (Same.of_grow hb)).get hlt
        have hsz := Tm.sizeL_take_succ hlt
        have hle := Tm.sizeL_take l (k + 1)
        have HSZ := Lib.hid hsz
        have h1 : Tm.sizeL (l.take k) + l[k].size ≤ 1000000000 := by omega
        clear hsz hle
        have HV := Lib.hid hv
        clear hv
        go_wp2_with (go_at_call 12; refine (IH.out _ (List.getElem_mem hlt) _ _ HV.out (by omega)).mono ?_; rintro e w' ⟨rfl, hb'⟩)
        go_roundw
        case rel => exact ⟨k + 1, by omega, by go_num, int_eq (by rw [HSZ.out]; omega), Below.step hb hb'⟩
        case measure => simp [intOf]; omega
      · have h0 : k = l.length := by omega
        subst h0
        go_wp2_with fail
        go_ret
        exact ⟨by simp, Below.step (grow_alloc _ _) hb⟩
set_option maxHeartbeats 400000 in
theorem depth_any (t : Tm) : ∀ (v : Value) (w : World), TmV Any w v t → t.size ≤ 1000000000 →
    Calls Try.prog 13 #[v] w fun e w' => e = .returned (.int .i64 t.depth) ∧ Grow w w' := by
  induction t using Tm.ind with
  | h r l ih =>
    intro v w hv hs
    obtain ⟨A, cap, rfl, hr, hc, hm, hl⟩ := hv.form
    simp only [Tm.size] at hs
    simp only [Tm.depth]
    have HL := Lib.hid hl
    have IH := Lib.hid ih
    clear hl ih hv
    go_enter Try.func13, Try.ntmps13
    go_wp2_with fail
    go_loopw [3, 9] (fun n i wr => ∃ k : Nat, k ≤ l.length ∧ i = .int .i64 k ∧ n = .int .i64 ((Tm.depthL (l.take k) : Nat) : Int) ∧ Grow w wr) (fun _ i _ => l.length - (intOf i).toNat)
    case atStart => exact ⟨0, by omega, by simp, by simp [Tm.depthL], grow_alloc _ _⟩
    case round =>
      obtain ⟨k, hk, rfl, rfl, hb⟩ := hrel
      by_cases hlt : k < l.length
      · obtain ⟨b, o, A', n', c', rfl, -, c1, c2, hv⟩ := (HL.out.keep (Same.of_grow hb)).get hlt
        have HSZ := Lib.hid (Tm.depthL_take_succ hlt)
        have h1 : l[k].size ≤ 1000000000 := by have := Tm.sizeL_mem (List.getElem_mem hlt); omega
        have h2 : l[k].depth ≤ 1000000000 := by have := l[k].depth_le_size; omega
        have h3 : Tm.depthL (l.take k) ≤ 1000000000 := by
          have := (Tm.mk r l).depth_le_size
          have := Tm.depthL_take_le l k
          simp only [Tm.depth, Tm.size] at *
          omega
        have HV := Lib.hid hv
        clear hv
        go_wp2_with (go_at_call 13; refine (IH.out _ (List.getElem_mem hlt) _ _ (HV.out.keep (Same.of_grow ?_)) (by omega)).mono ?_; exact grow_alloc _ _; rintro e w' ⟨rfl, hb'⟩)
        go_roundw
        case rel => exact ⟨k + 1, by omega, by go_num, int_eq (by rw [HSZ.out]; omega), Below.step hb (Below.step (grow_alloc _ _) hb')⟩
        case measure => simp [intOf]; omega
      · have h0 : k = l.length := by omega
        subst h0
        have h3 : Tm.depthL l ≤ 1000000000 := by
          have := (Tm.mk r l).depth_le_size
          simp only [Tm.depth, Tm.size] at *
          omega
        go_wp2_with fail
        go_ret
        exact ⟨by simp, hb⟩

set_option maxHeartbeats 400000 in
theorem refdepth_any (t : Tm) : ∀ (v : Value) (w : World), TmV Any w v t → t.size ≤ 1000000000 →
    Calls Try.prog 14 #[v] w fun e w' => e = .returned (.int .i64 t.depth) ∧ Grow w w' := by
  induction t using Tm.ind with
  | h r l ih =>
    intro v w hv hs
    obtain ⟨A, cap, rfl, hr, hc, hm, hl⟩ := hv.form
    simp only [Tm.size] at hs
    simp only [Tm.depth]
    have HL := Lib.hid (hl.keep (Same.of_grow (grow_alloc w (.cells #[.int .i64 r, .slice A l.length cap] 24))))
    have IH := Lib.hid ih
    clear hl ih hv
    go_enter Try.func14, Try.ntmps14
    go_wp2_with fail
    go_loopw [3, 4] (fun n i wr => ∃ k : Nat, k ≤ l.length ∧ i = .int .i64 k ∧ n = .int .i64 ((Tm.depthL (l.take k) : Nat) : Int) ∧ Grow (w.alloc (.cells #[.int .i64 r, .slice A l.length cap] 24)) wr) (fun _ i _ => l.length - (intOf i).toNat)
    case atStart => exact ⟨0, by omega, by simp, by simp [Tm.depthL], grow_refl _⟩
    case round =>
      obtain ⟨k, hk, rfl, rfl, hb⟩ := hrel
      have cb : wr.cell? ⟨w.heap.size, 1, none⟩ = some (.slice A l.length cap) := by rw [Below.cell hb (by simp)]; simp
      by_cases hlt : k < l.length
      · obtain ⟨b, o, A', n', c', rfl, -, c1, c2, hv⟩ := (HL.out.keep (Same.of_grow hb)).get hlt
        have HSZ := Lib.hid (Tm.depthL_take_succ hlt)
        have h1 : l[k].size ≤ 1000000000 := by have := Tm.sizeL_mem (List.getElem_mem hlt); omega
        have h2 : l[k].depth ≤ 1000000000 := by have := l[k].depth_le_size; omega
        have h3 : Tm.depthL (l.take k) ≤ 1000000000 := by
          have := (Tm.mk r l).depth_le_size
          have := Tm.depthL_take_le l k
          simp only [Tm.depth, Tm.size] at *
          omega
        have HV := Lib.hid hv
        clear hv
        go_wp2_with (go_at_call 14; refine (IH.out _ (List.getElem_mem hlt) _ _ HV.out (by omega)).mono ?_; rintro e w' ⟨rfl, hb'⟩)
        go_roundw
        case rel => exact ⟨k + 1, by omega, by go_num, int_eq (by rw [HSZ.out]; omega), Below.step hb hb'⟩
        case measure => simp [intOf]; omega
      · have h0 : k = l.length := by omega
        subst h0
        have h3 : Tm.depthL l ≤ 1000000000 := by
          have := (Tm.mk r l).depth_le_size
          simp only [Tm.depth, Tm.size] at *
          omega
        go_wp2_with fail
        go_ret
        exact ⟨by simp, Below.step (grow_alloc _ _) hb⟩
/-- the order of two numbers -/
def ord (a b : Int) : Int := if a < b then -1 else if a > b then 1 else 0
theorem ord_lt {a b : Int} (h : a < b) : ord a b = -1 := if_pos h
theorem ord_gt {a b : Int} (h : b < a) : ord a b = 1 := by unfold ord; rw [if_neg (by omega), if_pos h]
theorem ord_eq (a : Int) : ord a a = 0 := by simp [ord]

theorem order_any (a b : Int) (w : World) : Calls Try.prog 31 #[.int .i64 a, .int .i64 b] w fun e w' => e = .returned (.int .i64 (ord a b)) ∧ Grow w w' := by
  rcases Int.lt_trichotomy a b with h1 | rfl | h1
  · go_enter Try.func31, Try.ntmps31
    go_wp2_with fail
    go_ret
    exact ⟨ret_int (ord_lt h1).symm, grow_refl _⟩
  · go_enter Try.func31, Try.ntmps31
    go_wp2_with fail
    go_ret
    exact ⟨ret_int (ord_eq a).symm, grow_refl _⟩
  · have h2 : ¬ a < b := by omega
    go_enter Try.func31, Try.ntmps31
    go_wp2_with fail
    go_ret
    exact ⟨ret_int (ord_gt h1).symm, grow_refl _⟩

end Go.Proofs.Ytkimcgcbdfkobaa
