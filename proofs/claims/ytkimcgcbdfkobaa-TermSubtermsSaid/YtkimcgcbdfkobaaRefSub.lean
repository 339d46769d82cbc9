/- Subterms: the reference's. -/
import Derived.Test.YtkimcgcbdfkobaaInsW
set_option linter.unusedVariables false
set_option linter.unusedSimpArgs false
namespace Go.Proofs.Ytkimcgcbdfkobaa
open Go Go.RowKit

/-- are the lists equal? -/
def sameB : List Tm → List Tm → Bool
  | [], [] => true
  | [], _ :: _ => false
  | _ :: _, [] => false
  | x :: l, y :: m => (cmpT x y == 0) && sameB l m
theorem sameB_self (l : List Tm) : sameB l l = true := by
  induction l with
  | nil => rfl
  | cons x l ih => simp [sameB, ih, cmpT_self]
theorem sameB_len : ∀ {l m : List Tm}, l.length ≠ m.length → sameB l m = false
  | [], [], h => absurd rfl h
  | [], _ :: _, _ => rfl
  | _ :: _, [], _ => rfl
  | x :: l, y :: m, h => by
    rw [sameB, sameB_len (by simpa using h), Bool.and_false]
theorem sameB_drop {l m : List Tm} {k : Nat} (h : k < l.length) (h' : k < m.length) : sameB (l.drop k) (m.drop k) = ((cmpT l[k] m[k] == 0) && sameB (l.drop (k + 1)) (m.drop (k + 1))) := by
  rw [List.drop_eq_getElem_cons h, List.drop_eq_getElem_cons h', sameB]

set_option maxHeartbeats 4000000 in
theorem same_any (l m : List Tm) (u v : Value) (w : World) (hl : Tms Any w u l) (hm : Tms Any w v m) (hsl : ∀ x ∈ l, x.size ≤ 1000000) (hsm : ∀ x ∈ m, x.size ≤ 1000000) :
    Calls Try.prog 24 #[u, v] w fun e w' => e = .returned (.bool (sameB l m)) ∧ Grow w w' := by
  have HL := Lib.hid hl
  have HM := Lib.hid hm
  have HSL := Lib.hid hsl
  have HSM := Lib.hid hsm
  obtain ⟨A1, c1, rfl, hc1, hd1⟩ := RepSl.shape hl
  obtain ⟨A2, c2, rfl, hc2, hd2⟩ := RepSl.shape hm
  clear hl hm hsl hsm
  by_cases hlen : l.length = m.length
  · have HE := Lib.hid hlen
    have hq : ((l.length : Int) != (m.length : Int)) = false := by simp [hlen]
    clear hlen
    go_enter Try.func24, Try.ntmps24
    go_wp2_with fail
    go_loopw [5] (fun i wr => ∃ (k : Nat), k ≤ l.length ∧ i = .int .i64 k ∧ Hid (sameB l m = sameB (l.drop k) (m.drop k)) ∧ Grow w wr) (fun i _ => l.length - (intOf i).toNat)
    case atStart => exact ⟨0, by omega, by simp, Lib.hid rfl, grow_refl _⟩
    case round =>
      obtain ⟨k, hk, rfl, hx, hb⟩ := hrel
      by_cases hlt : k < l.length
      · have hlt2 : k < m.length := by have := HE.out; omega
        obtain ⟨b, o, A', n', c', rfl, -, d1, d2, hv⟩ := HL.out.get hlt
        obtain ⟨b', o', A'', n'', c'', rfl, -, d1', d2', hv'⟩ := HM.out.get hlt2
        have HV := Lib.hid hv
        have HV' := Lib.hid hv'
        have HD := Lib.hid (sameB_drop hlt hlt2)
        have hs1 := HSL.out _ (List.getElem_mem hlt)
        have hs2 := HSM.out _ (List.getElem_mem hlt2)
        have hb1 : b < w.heap.size := cell_lt d1
        have hb2 : b' < w.heap.size := cell_lt d1'
        clear hv hv'
        generalize l[k] = x at *
        generalize m[k] = y at *
        generalize x.rule = xr at *
        generalize y.rule = yr at *
        go_wp2_with fail
        refine wp_region_rel (fun w' => Grow (w) w') (by kernel_rfl) (hb.drew) (fun a b h k => Below.step h k) ?_
        apply Exists.intro
        constructor
        repeat (first | (apply rel_det; rfl; intro w1 hC1 hF1; obtain ⟨hc1, hf1⟩ := bcell hC1; go_simp; (first | exact ⟨Below.refl _ _, rfl⟩ | (go_at_call 18; exact rel_call (refcompare_any x y _ _ _ (HV.out.keep (Same.of_grow hC1)) (HV'.out.keep (Same.of_grow hC1)) hs1 hs2))); intro K hK; go_simp; refine hK _ ?_; clear hK K) | (apply rel_skip; rfl; intro K hK; go_simp; refine hK _ ?_; clear hK K))
        refine rel_nil (fun w2 hC2 hF2 => ?_)
        refine wpList_nil ?_
        rotate_left
        kernel_rfl
        by_cases h0 : cmpT x y = 0
        · have hq0 : (cmpT x y != 0) = false := by simp [h0]
          have HF := Lib.hid (show sameB l m = sameB (l.drop (k + 1)) (m.drop (k + 1)) by rw [hx.out, HD.out, h0]; simp)
          rw [hq0]
          clear h0
          go_wp2_with fail
          go_roundw
          case rel => exact ⟨k + 1, by omega, by go_num, HF, hC2⟩
          case measure => simp [intOf]; omega
        · have hq0 : (cmpT x y != 0) = true := by simp [h0]
          have HF := Lib.hid (show sameB l m = false by rw [hx.out, HD.out]; simp [h0])
          rw [hq0]
          clear h0
          go_wp2_with fail
          go_ret
          exact ⟨by rw [HF.out]; rfl, hC2⟩
      · have h0 : k = l.length := by omega
        have HF := Lib.hid (show sameB l m = true by rw [hx.out, h0, List.drop_length, HE.out, List.drop_length]; rfl)
        clear h0
        go_wp2_with fail
        go_ret
        exact ⟨by rw [HF.out]; rfl, hb⟩
  · have HF := Lib.hid (sameB_len hlen)
    have hq : ((l.length : Int) != (m.length : Int)) = true := by simp; omega
    clear hlen
    go_enter Try.func24, Try.ntmps24
    go_wp2_with fail
    go_ret
    exact ⟨by rw [HF.out]; rfl, grow_refl _⟩

theorem refL_take_succ {l : List Tm} {k : Nat} (h : k < l.length) : refL [] (l.take (k + 1)) = (refS l[k]).foldl ins (refL [] (l.take k)) := by
  rw [List.take_succ_eq_append_getElem h, refL_snoc]
theorem fold_take_succ {m out : List Tm} {j : Nat} (h : j < m.length) : (m.take (j + 1)).foldl ins out = ins ((m.take j).foldl ins out) m[j] := by
  rw [List.take_succ_eq_append_getElem h, List.foldl_append]; rfl
theorem subsL_mem' {t : Tm} {x : Tm} {l : List Tm} (ht : t ∈ l) (h : x ∈ subs t) : x ∈ subsL l := by
  induction l with
  | nil => cases ht
  | cons y l ih =>
    rw [subsL, List.mem_append]
    rcases List.mem_cons.1 ht with rfl | ht
    · exact .inl h
    · exact .inr (ih ht)
theorem subsL_take {x : Tm} {l : List Tm} {k : Nat} (h : x ∈ subsL (l.take k)) : x ∈ subsL l := by
  induction l generalizing k with
  | nil => simpa using h
  | cons y l ih =>
    cases k with
    | zero => simp [subsL] at h
    | succ k =>
      rw [List.take_succ_cons, subsL, List.mem_append] at h
      rw [subsL, List.mem_append]
      exact h.imp id ih
/-- what the lists hold is small -/
theorem refL_small {l : List Tm} {k : Nat} {x : Tm} (h : x ∈ refL [] (l.take k)) : x.size ≤ Tm.sizeL l := by
  rw [refL_mem] at h
  simp at h
  exact subsL_size l (subsL_take h)
theorem fold_small {l : List Tm} {k j : Nat} {x t : Tm} (ht : t ∈ l) (h : x ∈ ((refS t).take j).foldl ins (refL [] (l.take k))) : x.size ≤ Tm.sizeL l := by
  rw [fold_mem] at h
  rcases h with h | h
  · exact refL_small h
  · have := subs_size t ((refS_mem t).1 (List.mem_of_mem_take h))
    have := Tm.sizeL_mem ht
    omega

set_option maxHeartbeats 8000000 in
theorem refsubterms_any (t : Tm) : ∀ (v : Value) (w : World), TmV Any w v t → t.size ≤ 1000 → Calls Try.prog 25 #[v] w (RetTms w (refS t)) := by
  induction t using Tm.ind with
  | h r l ih =>
    intro v w hv hs
    have HV := Lib.hid hv
    have HR := Lib.hid (show refS (.mk r l) = ins (refL [] l) (.mk r l) by rw [refS])
    have hsz : (Tm.mk r l).size ≤ 1000000 := by omega
    obtain ⟨A, cap, rfl, hr, hc, hm, hl⟩ := hv.form
    simp only [Tm.size] at hs
    have IH := Lib.hid ih
    have hW : Grow w (w.alloc (.cells #[.int .i64 r, .slice A l.length cap] 24)) := grow_alloc _ _
    have HLW := Lib.hid (hl.keep (Same.of_grow hW))
    have HVW := Lib.hid (HV.out.keep (Same.of_grow hW))
    have b0 : (w.alloc (.cells #[.int .i64 r, .slice A l.length cap] 24)).cell? ⟨w.heap.size, 0, none⟩ = some (.int .i64 r) := by simp
    have b1 : (w.alloc (.cells #[.int .i64 r, .slice A l.length cap] 24)).cell? ⟨w.heap.size, 1, none⟩ = some (.slice A l.length cap) := by simp
    clear hl ih hv HV
    go_enter Try.func25, Try.ntmps25
    go_wp2_with fail
    generalize hWd : w.alloc (.cells #[.int .i64 r, .slice A l.length cap] 24) = W at *
    clear hWd
    have z0 : w.heap.size < W.heap.size := cell_lt b0
    go_loopw [3, 4] (fun s3 i wr => ∃ (k : Nat) (B3 : Option Addr) (n3 c3 : Nat), k ≤ l.length ∧ i = .int .i64 k ∧ s3 = .slice B3 n3 c3 ∧ Hid (Tms Any wr (.slice B3 n3 c3) (refL [] (l.take k))) ∧ Grow W wr) (fun _ i _ => l.length - (intOf i).toNat)
    case atStart => exact ⟨0, none, 0, 0, by omega, by simp, rfl, Lib.hid (RepSl.nil (by omega)), grow_refl _⟩
    case round =>
      obtain ⟨k, B3, n3, c3, hk, rfl, rfl, h3, hb⟩ := hrel
      have e0 := (Below.cell hb (by exact z0)).trans b0
      have e1 := (Below.cell hb (by exact z0)).trans b1
      by_cases hlt : k < l.length
      · obtain ⟨b, o, A', n', c', rfl, -, d1, d2, hve⟩ := (HLW.out.keep (Same.of_grow hb)).get hlt
        have HVE := Lib.hid hve
        have hmem := List.getElem_mem hlt
        have h1 : l[k].size ≤ 1000 := by have := Tm.sizeL_mem hmem; omega
        have HTS := Lib.hid (refL_take_succ hlt)
        clear hve
        generalize l[k] = y at *
        generalize y.rule = yr at *
        have HM := Lib.hid hmem
        clear hmem
        go_wp2_with (go_at_call 25; refine (IH.out _ HM.out _ _ HVE.out h1).mono ?_; rintro e w1 ⟨v5, rfl, h5, hb1⟩; refine Hold.stop ?_)
        obtain ⟨A5, c5, rfl, hc5, hd5⟩ := RepSl.shape h5
        have H5 := Lib.hid h5
        have hG1 : Grow W w1 := Below.step hb hb1
        have H31 := Lib.hid (h3.out.keep (Same.of_grow hb1))
        have hlen5 := refS_len y
        clear h5 hb1 hb h3 e0 e1
        refine Hold.go ?_
        go_wp2_with fail
        go_loopw [3, 6] (fun s3 i wr => ∃ (j : Nat) (B3 : Option Addr) (n3 c3 : Nat), j ≤ (refS y).length ∧ i = .int .i64 j ∧ s3 = .slice B3 n3 c3 ∧ Hid (Tms Any wr (.slice B3 n3 c3) (((refS y).take j).foldl ins (refL [] (l.take k)))) ∧ Grow w1 wr) (fun _ i _ => (refS y).length - (intOf i).toNat)
        case atStart => exact ⟨0, B3, n3, c3, by omega, by simp, rfl, by simpa using H31, grow_refl _⟩
        case round =>
          obtain ⟨j, B4, n4, c4, hj, rfl, rfl, h4, hb4⟩ := hrel
          by_cases hjl : j < (refS y).length
          · obtain ⟨b', o', A6, n6, c6, rfl, -, f1, f2, hv6⟩ := (H5.out.keep (Same.of_grow hb4)).get hjl
            have HV6 := Lib.hid hv6
            have HFS := Lib.hid (fold_take_succ (out := refL [] (l.take k)) hjl)
            have HSS : Hid ((refS y)[j].size ≤ 1000000) := Lib.hid (by
              have := subs_size y ((refS_mem y).1 (List.getElem_mem hjl)); omega)
            have HSR : Hid (Srt (((refS y).take j).foldl ins (refL [] (l.take k)))) := Lib.hid (fold_srt _ _ (refL_srt _ _ List.Pairwise.nil))
            have HLN : Hid ((((refS y).take j).foldl ins (refL [] (l.take k))).length ≤ 1000000) := Lib.hid (by
              have h1 := fold_len ((refS y).take j) (refL [] (l.take k))
              have h2 := refL_len (l.take k) []
              have h3 := Tm.sizeL_take l k
              simp at h1 h2
              omega)
            have HSM : Hid (∀ x ∈ ((refS y).take j).foldl ins (refL [] (l.take k)), x.size ≤ 1000000) := Lib.hid fun x hx => by have := fold_small HM.out hx; omega
            clear hv6
            generalize (refS y)[j] = z at *
            generalize z.rule = zr at *
            go_wp2_with (go_at_call 39; refine (insert_any _ z _ _ _ h4.out HV6.out HSR.out HLN.out HSS.out HSM.out).mono ?_; rintro e w2 ⟨v7, rfl, h7, hb7⟩; refine Hold.stop ?_)
            obtain ⟨A7, c7, rfl, hc7, hd7⟩ := RepSl.shape h7
            have H7 := Lib.hid h7
            have HB7 := Lib.hid hb7
            clear h7 hb7
            refine Hold.go ?_
            go_wp2_with fail
            go_roundw
            case rel => exact ⟨j + 1, A7, _, c7, by omega, by go_num, rfl, Lib.hid (by rw [HFS.out]; exact H7.out), Below.step hb4 HB7.out⟩
            case measure => simp [intOf]; omega
          · have hj0 : j = (refS y).length := by omega
            have H8 : Hid (Tms Any wr (.slice B4 n4 c4) (refL [] (l.take (k + 1)))) := Lib.hid (by
              have := h4.out
              rw [hj0, List.take_length] at this
              rw [HTS.out]; exact this)
            clear hj0
            go_wp2_with fail
            go_roundw
            case rel => exact ⟨k + 1, B4, n4, c4, by omega, by go_num, rfl, H8, Below.step hG1 hb4⟩
            case measure => simp [intOf]; omega
      · have h0 : k = l.length := by omega
        have H8 : Hid (Tms Any wr (.slice B3 n3 c3) (refL [] l)) := Lib.hid (by
          have := h3.out
          rw [h0, List.take_length] at this
          exact this)
        have HSR : Hid (Srt (refL [] l)) := Lib.hid (refL_srt _ _ List.Pairwise.nil)
        have HLN : Hid ((refL [] l).length ≤ 1000000) := Lib.hid (by
          have h2 := refL_len l []
          simp at h2
          omega)
        have HSM : Hid (∀ x ∈ refL [] l, x.size ≤ 1000000) := Lib.hid fun x hx => by
          have := refL_small (l := l) (k := l.length) (by rw [List.take_length]; exact hx); omega
        clear h0 h3
        go_wp2_with (go_at_call 40; refine (refclone_any _ _ _ (HVW.out.keep (Same.of_grow hb)) hsz).mono ?_; rintro e w1 ⟨vc, rfl, hvc, hb1⟩; refine Hold.stop ?_)
        have HVC := Lib.hid (hvc.mono (S' := Any) fun _ _ => trivial)
        have H9 := Lib.hid (H8.out.keep (Same.of_grow hb1))
        have HB1 := Lib.hid hb1
        clear hvc hb1
        refine Hold.go ?_
        go_wp2_with fail
        refine (insert_any (refL [] l) (.mk r l) _ _ _ H9.out HVC.out HSR.out HLN.out hsz HSM.out).mono ?_
        rintro e w2 ⟨v7, rfl, h7, hb7⟩
        have H7 := Lib.hid h7
        have HB7 := Lib.hid hb7
        clear h7 hb7
        go_wp2_with fail
        go_ret
        exact ⟨_, rfl, by rw [HR.out]; exact H7.out, Below.step hW (Below.step (Below.step hb HB1.out) HB7.out)⟩
end Go.Proofs.Ytkimcgcbdfkobaa
