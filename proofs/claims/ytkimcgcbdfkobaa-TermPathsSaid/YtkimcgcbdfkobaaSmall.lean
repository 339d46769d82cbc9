/- Within, small, alive. -/
import Derived.Test.YtkimcgcbdfkobaaCmp3
set_option linter.unusedVariables false
set_option linter.unusedSimpArgs false
namespace Go.Proofs.Ytkimcgcbdfkobaa
open Go Go.RowKit

/-- what so many rules leave of m -/
def remF (s : Nat) (m : Int) : Int := if (s : Int) ≤ m then m - s else -1
theorem remF_yes {s : Nat} {m : Int} (h : (s : Int) ≤ m) : remF s m = m - s := if_pos h
theorem remF_no {s : Nat} {m : Int} (h : m < s) : remF s m = -1 := if_neg (by omega)

set_option maxHeartbeats 1000000 in
theorem left_any (t : Tm) : ∀ (v : Value) (w : World) (m : Int), TmV Any w v t → 0 ≤ m → m ≤ 1000000 →
    Calls Try.prog 43 #[v, .int .i64 m] w fun e w' => e = .returned (.int .i64 (remF t.size m)) ∧ Grow w w' := by
  induction t using Tm.ind with
  | h r l ih =>
    intro v w m hv hm0 hm1
    obtain ⟨A, cap, rfl, hr, hc, hm, hl⟩ := hv.form
    simp only [Tm.size]
    have HL := Lib.hid (hl.keep (Same.of_grow (grow_alloc w (.cells #[.int .i64 r, .slice A l.length cap] 24))))
    have IH := Lib.hid ih
    clear hl ih hv
    go_enter Try.func43, Try.ntmps43
    go_wp2_with fail
    go_loopw [1, 5] (fun n i wr => ∃ (k : Nat) (x : Int), k ≤ l.length ∧ i = .int .i64 k ∧ n = .int .i64 x ∧ Hid (x = remF (Tm.sizeL (l.take k) + 1) m) ∧ -1 ≤ x ∧ x ≤ m ∧ Grow (w.alloc (.cells #[.int .i64 r, .slice A l.length cap] 24)) wr) (fun _ i _ => l.length - (intOf i).toNat)
    case atStart =>
      refine ⟨0, m - 1, by omega, by simp, rfl, ?_, by omega, by omega, grow_refl _⟩
      simp only [List.take_zero, Tm.sizeL]
      show _ = _
      unfold remF
      split <;> omega
    case round =>
      obtain ⟨k, x, hk, rfl, rfl, hx, hx0, hx1, hb⟩ := hrel
      have cb : wr.cell? ⟨w.heap.size, 1, none⟩ = some (.slice A l.length cap) := by rw [Below.cell hb (by simp)]; simp
      by_cases hlt : k < l.length
      · by_cases h0 : 0 ≤ x
        · obtain ⟨b, o, A', n', c', rfl, -, c1, c2, hv⟩ := (HL.out.keep (Same.of_grow hb)).get hlt
          have HSZ := Lib.hid (Tm.sizeL_take_succ hlt)
          have HV := Lib.hid hv
          have hxe := hx.out
          have hle : ((Tm.sizeL (l.take k) + 1 : Nat) : Int) ≤ m := by
            by_cases h : ((Tm.sizeL (l.take k) + 1 : Nat) : Int) ≤ m
            · exact h
            · rw [remF_no (by omega)] at hxe; omega
          rw [remF_yes hle] at hxe
          have HX := Lib.hid hxe
          clear hv hxe
          go_wp2_with (go_at_call 43; refine (IH.out _ (List.getElem_mem hlt) _ _ _ HV.out (by omega) (by omega)).mono ?_; rintro e w' ⟨rfl, hb'⟩)
          go_roundw
          case rel =>
            refine ⟨k + 1, remF l[k].size x, by omega, by go_num, rfl, ?_, ?_, ?_, Below.step hb hb'⟩
            · show _ = _
              rw [HSZ.out, HX.out]
              unfold remF
              split <;> split <;> omega
            · unfold remF; split <;> omega
            · unfold remF; split <;> omega
          case measure => simp [intOf]; omega
        · have hx2 : x = -1 := by omega
          have HF := Lib.hid (show x = remF (Tm.sizeL l + 1) m by
            have h1 := hx.out
            have h2 := Tm.sizeL_take l k
            by_cases h : ((Tm.sizeL (l.take k) + 1 : Nat) : Int) ≤ m
            · rw [remF_yes h] at h1; omega
            · rw [remF_no (by omega), hx2])
          clear hx2
          go_wp2_with fail
          go_ret
          exact ⟨ret_int HF.out, Below.step (grow_alloc _ _) hb⟩
      · have h0 : k = l.length := by omega
        subst h0
        go_wp2_with fail
        go_ret
        exact ⟨ret_int (by rw [hx.out, List.take_length]), Below.step (grow_alloc _ _) hb⟩

/-- has the term at most so many rules? -/
def withinB (t : Tm) (m : Int) : Bool := decide ((t.size : Int) ≤ m)
theorem withinB_rem (t : Tm) (m : Int) (h : 0 ≤ m) : decide (0 ≤ remF t.size m) = withinB t m := by
  unfold withinB remF
  split <;> simp <;> omega

theorem within_any (t : Tm) (v : Value) (w : World) (m : Int) (hv : TmV Any w v t) (h0 : 0 ≤ m) (h1 : m ≤ 1000000) :
    Calls Try.prog 30 #[v, .int .i64 m] w fun e w' => e = .returned (.bool (withinB t m)) ∧ Grow w w' := by
  obtain ⟨r, l⟩ := t
  have HV := Lib.hid hv
  obtain ⟨A, cap, rfl, hr, hc, hm, hl⟩ := hv.form
  clear hv hl
  have HW := Lib.hid (withinB_rem (.mk r l) m h0)
  go_enter Try.func30, Try.ntmps30
  go_wp2_with (go_at_call 43; refine (left_any _ _ _ _ (HV.out.keep (Same.of_grow (grow_alloc _ _))) h0 h1).mono ?_; rintro e w' ⟨rfl, hb'⟩)
  go_ret
  exact ⟨by rw [← HW.out]; rfl, Below.step (grow_alloc _ _) hb'⟩

/-- have all terms at most 40 rules? -/
def smallB (l : List Tm) : Bool := l.all fun t => withinB t 40

set_option maxHeartbeats 1000000 in
theorem small_any (l : List Tm) (v : Value) (w : World) (hl : Tms Any w v l) :
    Calls Try.prog 9 #[v] w fun e w' => e = .returned (.bool (smallB l)) ∧ Grow w w' := by
  have HL := Lib.hid hl
  obtain ⟨A, cap, rfl, hc, hm, _⟩ := hl
  go_enter Try.func9, Try.ntmps9
  go_wp2_with fail
  go_loopw [3] (fun i wr => ∃ (k : Nat), k ≤ l.length ∧ i = .int .i64 k ∧ Hid (smallB l = smallB (l.drop k)) ∧ Grow w wr) (fun i _ => l.length - (intOf i).toNat)
  case atStart => exact ⟨0, by omega, by simp, Lib.hid rfl, grow_refl _⟩
  case round =>
    obtain ⟨k, hk, rfl, hs, hb⟩ := hrel
    by_cases hlt : k < l.length
    · obtain ⟨b, o, A', n', c', rfl, -, c1, c2, hv⟩ := (HL.out.keep (Same.of_grow hb)).get hlt
      have HV := Lib.hid hv
      have hd : smallB (l.drop k) = (withinB l[k] 40 && smallB (l.drop (k + 1))) := by unfold smallB; rw [List.drop_eq_getElem_cons hlt, List.all_cons]
      have HD := Lib.hid hd
      clear hv hd
      by_cases hw : withinB l[k] 40 = true
      · go_wp2_with (go_at_call 30; refine (within_any _ _ _ _ HV.out (by omega) (by omega)).mono ?_; rintro e w' ⟨rfl, hb'⟩)
        go_roundw
        case rel => exact ⟨k + 1, by omega, by go_num, by show _ = _; rw [hs.out, HD.out, hw, Bool.true_and], Below.step hb hb'⟩
        case measure => simp [intOf]; omega
      · have hw' : withinB l[k] 40 = false := by simpa using hw
        clear hw
        go_wp2_with (go_at_call 30; refine (within_any _ _ _ _ HV.out (by omega) (by omega)).mono ?_; rintro e w' ⟨rfl, hb'⟩)
        go_ret
        exact ⟨by rw [hs.out, HD.out, hw', Bool.false_and]; rfl, Below.step hb hb'⟩
    · have h0 : k = l.length := by omega
      subst h0
      go_wp2_with fail
      go_ret
      exact ⟨by rw [hs.out, List.drop_length]; rfl, hb⟩

theorem At.one {w : World} {b o : Nat} {cs : Array Value} {t : TypeId} {fr : Nat × Nat} (h : w.heap[b]? = some (.cells cs t fr)) (l : List Value) (hl : (cs.toList.drop o).take l.length = l) : At w b o l := by
  intro j u hu
  have hj : j < l.length := (List.getElem?_eq_some_iff.1 hu).1
  rw [← hl, List.getElem?_take, if_pos hj, List.getElem?_drop] at hu
  simp only [World.cell?, h]
  simpa using hu

/-- a leaf -/
theorem RepTm.leaf {S : Nat → Prop} {w : World} {r : Int} (hr : InI64 r) : RepTm S w [.int .i64 r, .slice none 0 0] (.mk r []) := RepTm.of hr (RepSl.nil (by omega))

set_option maxHeartbeats 1000000 in
theorem alive_any (w : World) : Calls Try.prog 10 #[] w fun e w' => e = .returned (.bool true) ∧ Grow w w' := by
  have hW : Grow w ((w.alloc (.cells #[.int .i64 0, .slice none 0 0, .int .i64 0, .slice none 0 0] 24)).alloc (.cells #[.int .i64 1, .slice (some ⟨w.heap.size, 0, none⟩) 2 2] 24)) := Below.step (grow_alloc _ _) (grow_alloc _ _)
  have hT : TmV Any (w.alloc (.cells #[.int .i64 0, .slice none 0 0, .int .i64 0, .slice none 0 0] 24)) (.agg #[.int .i64 1, .slice (some ⟨w.heap.size, 0, none⟩) 2 2]) (.mk 1 [.mk 0 [], .mk 0 []]) := by
    refine TmV.of (by constructor <;> omega) ⟨_, _, rfl, Nat.le_refl _, by simp, fun i x hi => ?_⟩
    have hblk : (w.alloc (.cells #[.int .i64 0, .slice none 0 0, .int .i64 0, .slice none 0 0] 24)).heap[w.heap.size]? = some (.cells #[.int .i64 0, .slice none 0 0, .int .i64 0, .slice none 0 0] 24 (0, 0)) := heap_alloc_new w _
    refine ⟨w.heap.size, 0, [.int .i64 0, .slice none 0 0], rfl, trivial, ?_, rfl, ?_⟩
    · match i, hi with
      | 0, _ => exact At.one hblk _ rfl
      | 1, _ => exact At.one hblk _ rfl
    · match i, hi with
      | 0, hi => cases hi; exact RepTm.leaf (by constructor <;> omega)
      | 1, hi => cases hi; exact RepTm.leaf (by constructor <;> omega)
  have HT := Lib.hid (hT.keep (Same.of_grow (grow_alloc _ (.cells #[.int .i64 1, .slice (some ⟨w.heap.size, 0, none⟩) 2 2] 24))))
  have HL : Hid (TmV Any w (.agg #[.int .i64 0, .slice none 0 0]) (.mk 0 [])) := Lib.hid ⟨_, _, rfl, RepTm.leaf (by constructor <;> omega)⟩
  have h1 : (Tm.mk 1 [.mk 0 [], .mk 0 []]).size = 3 := rfl
  have h2 : (Tm.mk 1 [.mk 0 [], .mk 0 []]).depth = 2 := rfl
  have h3 : cmpT (Tm.mk 1 [.mk 0 [], .mk 0 []]) (.mk 0 []) = 1 := by decide
  clear hT
  go_enter Try.func10, Try.ntmps10
  go_wp2_with fail
  refine wp_region_rel (fun w' => Grow ((w.alloc (.cells #[.int .i64 0, .slice none 0 0, .int .i64 0, .slice none 0 0] 24)).alloc (.cells #[.int .i64 1, .slice (some ⟨w.heap.size, 0, none⟩) 2 2] 24)) w') (by kernel_rfl) (grow_drew _) (fun a b h k => Below.step h k) ?_
  apply Exists.intro
  constructor
  repeat (first | (apply rel_det; rfl; intro w1 hC1 hF1; obtain ⟨hc1, hf1⟩ := bcell hC1; go_simp; (first | exact ⟨Below.refl _ _, rfl⟩ | (go_at_call 11; exact rel_call (size_any _ _ _ (HT.out.keep (Same.of_grow hC1)) (by omega))) | (go_at_call 13; exact rel_call (depth_any _ _ _ (HT.out.keep (Same.of_grow hC1)) (by omega))) | (go_at_call 19; exact rel_call (compare_any _ _ _ _ _ (HT.out.keep (Same.of_grow hC1)) (HL.out.keep (Same.of_grow (Below.step hW hC1))) (by omega) (by simp [Tm.size, Tm.sizeL])))); intro K hK; go_simp; refine hK _ ?_; clear hK K) | (apply rel_skip; rfl; intro K hK; go_simp; refine hK _ ?_; clear hK K))
  refine rel_nil (fun w2 hC2 hF2 => ?_)
  refine wpList_nil ?_
  rotate_left
  kernel_rfl
  go_wp2_with fail
  go_ret
  exact ⟨by simp [h1, h2, h3], Below.step hW hC2⟩
end Go.Proofs.Ytkimcgcbdfkobaa
