import Derived.Test.YtaimpcnpifoidaaGreatDoorZ4
set_option linter.unusedVariables false
set_option linter.unusedSimpArgs false
set_option maxRecDepth 100000
namespace Go.Proofs.YtaimpcnpifoidaaGreatDoor
open Go Go.RowKit Go.Proofs
set_option maxHeartbeats 2000000
attribute [local irreducible] NStep kcr km3 LeSt
def kc9 (v3 : (Int) × (ByteArray)) : Option (((Int) × (ByteArray)) ⊕ ((Int) × (ByteArray))) := (bif (decide (10 ≤ v3.1)) then (Option.bind (cat (toBA ([(wu8 (w64 (48 + (Int.tmod v3.1 10))))] : List (Int))) v3.2) fun v4 => (some (.inl ((w64 (Int.tdiv v3.1 10)), v4)))) else (some (.inr (v3.1, v3.2))))
def kco (r107 : (Int) → Option (ByteArray)) (a0 : Int) : Option (ByteArray) := (bif (decide (a0 < 0)) then (Option.bind (r107 ((w64 (0 - a0)))) fun v1 => (Option.bind (cat (⟨#[45]⟩ : ByteArray) v1) fun v2 => (some v2))) else (Option.bind (kaa (kc9) fuel (a0, (⟨#[]⟩ : ByteArray))) fun (v6 : (Int) × (ByteArray)) => (Option.bind (cat (toBA ([(wu8 (w64 (48 + v6.1)))] : List (Int))) v6.2) fun v7 => (some v7))))
theorem km9 (r107 : (Int) → Option (ByteArray)) (ih107 : ∀ (x0 : Int) r, r107 x0 = some r → kac Tryz.prog 107 [eI x0] (eS (r))) (a0 : Int) (r : ByteArray) (h : kco r107 a0 = some r) : kac Tryz.prog 107 [eI a0] (eS (r)) := by
 unfold kco at h
 refine pcl [.one .keep] Tryz.func107 ?_
 refine cd 10 h (fun h => ?_) fun h => ?_
 ·refine cl 4 h (ih107 _) (by kernel_rfl) fun v1 h => ?_
  obtain ⟨v2, hv2, h⟩ := Option.bind_eq_some_iff.1 h
  refine nst 0 (kc2 (t := 9) (X := (.const (.string ⟨#[45]⟩))) (Y := (.tmp 8)) (yt := 9) (s := (⟨#[45]⟩ : ByteArray)) (u := v1) hv2) ?_
  cases h; exact lq 3
 refine lp1 7 (fun v3 => ⟨29, [(0, (fI (v3.1))), (3, (fS (v3.2)))], [], [], []⟩) (.exit 0) (fun v6 => ⟨29, [(0, (fI (v6.1))), (3, (fS (v6.2)))], [], [], []⟩) h (fun v3 r h => ?_) fun v6 h => ?_
 ·unfold kc9 at h
  refine cd 6 h (fun h => ?_) fun h => ?_
  ·refine nst 9 (k92 (sr := 56) (t := 9) (x := (.tmp 16)) (e := 5) (de := tt5) (ds := tt56) (d := tt9) (xs := ([(wu8 (w64 (48 + (Int.tmod v3.1 10))))] : List (Int))) kbh (by kernel_rfl) (by kernel_rfl) rfl (by kernel_rfl) rfl (by kernel_rfl) rfl) ?_
   obtain ⟨v4, hv4, h⟩ := Option.bind_eq_some_iff.1 h
   refine nst 1 (kc2 (t := 9) (X := (.tmp 17)) (Y := (.tmp 18)) (yt := 9) (s := (toBA ([(wu8 (w64 (48 + (Int.tmod v3.1 10))))] : List (Int)))) (u := v3.2) hv4) ?_
   cases h; exact lj 7
  cases h; exact lo 1 (by kernel_rfl)
 refine nst 6 (k92 (sr := 56) (t := 9) (x := (.tmp 25)) (e := 5) (de := tt5) (ds := tt56) (d := tt9) (xs := ([(wu8 (w64 (48 + v6.1)))] : List (Int))) kbh (by kernel_rfl) (by kernel_rfl) rfl (by kernel_rfl) rfl (by kernel_rfl) rfl) ?_
 obtain ⟨v7, hv7, h⟩ := Option.bind_eq_some_iff.1 h
 refine nst 1 (kc2 (t := 9) (X := (.tmp 26)) (Y := (.tmp 27)) (yt := 9) (s := (toBA ([(wu8 (w64 (48 + v6.1)))] : List (Int)))) (u := v6.2) hv7) ?_
 cases h; exact lq 3
def kby : Nat → (Int) → Option (ByteArray)
  | 0 => fun _ => none
  | n + 1 => kco (kby n)
theorem kg4 : ∀ (n : Nat) (x0 : Int) r, kby n x0 = some r → kac Tryz.prog 107 [eI x0] (eS (r))
  | 0, _, _, h => by cases h
  | n + 1, x0, r, h => km9 (kby n) (kg4 n) x0 r h
def keh (a0 : Int) : Option (ByteArray) := (Option.bind (kby fuel (a0)) fun v1 => (some v1))
theorem kpa (a0 : Int) (r : ByteArray) (h : keh a0 = some r) : kac Tryz.prog 69 [eI a0] (eS (r)) := by
 unfold keh at h
 refine pcl [.one .keep] Tryz.func69 ?_
 refine cl 7 h (kg4 _ _) (by kernel_rfl) fun v1 h => ?_
 cases h; exact lq 3
def kci (a0 : Int) : Option (ByteArray) := (Option.bind (cutS (⟨#[48, 49, 50, 51, 52, 53, 54, 55, 56, 57, 97, 98, 99, 100, 101, 102]⟩ : ByteArray) a0 (w64 (a0 + 1))) fun v1 => (some v1))
theorem kgs (a0 : Int) (r : ByteArray) (h : kci a0 = some r) : kac Tryz.prog 144 [eI a0] (eS (r)) := by
 unfold kci at h
 refine pcl [.one .keep] Tryz.func144 ?_
 obtain ⟨v1, hv1, h⟩ := Option.bind_eq_some_iff.1 h
 refine nst 9 (kgf (t := 9) (x := (.const (.string ⟨#[48, 49, 50, 51, 52, 53, 54, 55, 56, 57, 97, 98, 99, 100, 101, 102]⟩))) (lo := (some (.tmp 3))) (hi := (some (.tmp 5))) (d := tt9) (s := (⟨#[48, 49, 50, 51, 52, 53, 54, 55, 56, 57, 97, 98, 99, 100, 101, 102]⟩ : ByteArray)) (l := (some a0)) (h := (some (w64 (a0 + 1)))) hv1 kbh) ?_
 cases h; exact lq 3
def kb8 (a0 : ByteArray) (v1 : (ByteArray) × (Int)) : Option (((ByteArray) × (Int)) ⊕ ((ByteArray))) := (bif (decide (v1.2 < (a0.size : Int))) then (Option.bind (byt a0 v1.2) fun v2 => (Option.bind ((Option.bind ((Option.bind (byt a0 v1.2) fun v3 => (bif (v3 == 34) then (some (true)) else (Option.bind (byt a0 v1.2) fun v4 => (some ((v4 == 92)))))) : Option ((Bool))) fun (v6 : (Bool)) => (bif v6 then (Option.bind (cat v1.1 (⟨#[92]⟩ : ByteArray)) fun v7 => (Option.bind (cutS a0 v1.2 (w64 (v1.2 + 1))) fun v8 => (Option.bind (cat v7 v8) fun v9 => (some (v9))))) else (Option.bind ((bif (decide ((w64 v2) < 32)) then (some (true)) else (some ((decide (126 < (w64 v2)))))) : Option ((Bool))) fun (v11 : (Bool)) => (bif v11 then (Option.bind (cat v1.1 (⟨#[92, 120]⟩ : ByteArray)) fun v12 => (Option.bind (kci ((w64 (Int.tdiv (w64 v2) 16)))) fun v13 => (Option.bind (cat v12 v13) fun v14 => (Option.bind (kci ((Int.tmod (w64 v2) 16))) fun v15 => (Option.bind (cat v14 v15) fun v16 => (some (v16))))))) else (Option.bind (cutS a0 v1.2 (w64 (v1.2 + 1))) fun v17 => (Option.bind (cat v1.1 v17) fun v18 => (some (v18)))))))) : Option ((ByteArray))) fun (v20 : (ByteArray)) => (some (.inl (v20, (w64 (v1.2 + 1))))))) else (some (.inr (v1.1))))
def keo (a0 : ByteArray) : Option (ByteArray) := (Option.bind (kaa (kb8 a0) fuel ((⟨#[34]⟩ : ByteArray), 0)) fun (v22 : (ByteArray)) => (Option.bind (cat v22 (⟨#[34]⟩ : ByteArray)) fun v23 => (some v23)))
theorem kks (a0 : ByteArray) (r : ByteArray) (h : keo a0 = some r) : kac Tryz.prog 145 [eS a0] (eS (r)) := by
 unfold keo at h
 refine pcl [.one .keep] Tryz.func145 ?_
 refine lp1 14 (fun v1 => ⟨61, [(0, (fS (a0))), (3, (fS (v1.1))), (4, (fI (v1.2)))], [], [], []⟩) (.exit 0) (fun v22 => ⟨61, [(3, (fS (v22)))], [], [], []⟩) h (fun v1 r h => ?_) fun v22 h => ?_
 ·unfold kb8 at h
  refine cd 8 h (fun h => ?_) fun h => ?_
  ·refine byx 7 h fun v2 h => ?_
   refine jn1 4 .normal (fun v20 => ⟨61, [(0, (fS (a0))), (3, (fS (v20))), (4, (fI (v1.2)))], [], [], []⟩) h (fun v20 h => ?_) fun v20 h => ?_
   ·refine jn1 1 .normal (fun v6 => ⟨61, [(0, (fS (a0))), (3, (fS (v1.1))), (4, (fI (v1.2))), (5, (fI ((w64 v2)))), (23, (fB (v6)))], [], [], []⟩) h (fun v6 h => ?_) fun v6 h => ?_
    ·refine byx 3 h fun v3 h => ?_
     refine gd 2 h (fun h => ?_) fun h => ?_
     ·cases h; exact lj 7
     refine byx 2 h fun v4 h => ?_
     cases h; exact lj 4
    refine cd 0 h (fun h => ?_) fun h => ?_
    ·obtain ⟨v7, hv7, h⟩ := Option.bind_eq_some_iff.1 h
     refine nst 2 (kc2 (t := 9) (X := (.tmp 34)) (Y := (.const (.string ⟨#[92]⟩))) (yt := 9) (s := v1.1) (u := (⟨#[92]⟩ : ByteArray)) hv7) ?_
     obtain ⟨v8, hv8, h⟩ := Option.bind_eq_some_iff.1 h
     refine nst 4 (kgf (t := 9) (x := (.tmp 36)) (lo := (some (.tmp 37))) (hi := (some (.tmp 39))) (d := tt9) (s := a0) (l := (some v1.2)) (h := (some (w64 (v1.2 + 1)))) hv8 kbh) ?_
     obtain ⟨v9, hv9, h⟩ := Option.bind_eq_some_iff.1 h
     refine nst 0 (kc2 (t := 9) (X := (.tmp 35)) (Y := (.tmp 40)) (yt := 9) (s := v7) (u := v8) hv9) ?_
     cases h; exact lj 2
    refine jn1 1 .normal (fun v11 => ⟨61, [(0, (fS (a0))), (3, (fS (v1.1))), (4, (fI (v1.2))), (5, (fI ((w64 v2)))), (42, (fB (v11)))], [], [], []⟩) h (fun v11 h => ?_) fun v11 h => ?_
    ·refine gd 4 h (fun h => ?_) fun h => ?_
     ·cases h; exact lj 5
     cases h; exact lj 5
    refine cd 0 h (fun h => ?_) fun h => ?_
    ·obtain ⟨v12, hv12, h⟩ := Option.bind_eq_some_iff.1 h
     refine nst 2 (kc2 (t := 9) (X := (.tmp 49)) (Y := (.const (.string ⟨#[92, 120]⟩))) (yt := 9) (s := v1.1) (u := (⟨#[92, 120]⟩ : ByteArray)) hv12) ?_
     refine cl 2 h (kgs _) (by kernel_rfl) fun v13 h => ?_
     obtain ⟨v14, hv14, h⟩ := Option.bind_eq_some_iff.1 h
     refine nst 0 (kc2 (t := 9) (X := (.tmp 50)) (Y := (.tmp 53)) (yt := 9) (s := v12) (u := v13) hv14) ?_
     refine cl 2 h (kgs _) (by kernel_rfl) fun v15 h => ?_
     obtain ⟨v16, hv16, h⟩ := Option.bind_eq_some_iff.1 h
     refine nst 0 (kc2 (t := 9) (X := (.tmp 54)) (Y := (.tmp 57)) (yt := 9) (s := v14) (u := v15) hv16) ?_
     cases h; exact lj 2
    obtain ⟨v17, hv17, h⟩ := Option.bind_eq_some_iff.1 h
    refine nst 6 (kgf (t := 9) (x := (.tmp 17)) (lo := (some (.tmp 18))) (hi := (some (.tmp 20))) (d := tt9) (s := a0) (l := (some v1.2)) (h := (some (w64 (v1.2 + 1)))) hv17 kbh) ?_
    obtain ⟨v18, hv18, h⟩ := Option.bind_eq_some_iff.1 h
    refine nst 0 (kc2 (t := 9) (X := (.tmp 16)) (Y := (.tmp 21)) (yt := 9) (s := v1.1) (u := v17) hv18) ?_
    cases h; exact lj 2
   cases h; exact lj 5
  cases h; exact lo 1 (by kernel_rfl)
 obtain ⟨v23, hv23, h⟩ := Option.bind_eq_some_iff.1 h
 refine nst 3 (kc2 (t := 9) (X := (.tmp 59)) (Y := (.const (.string ⟨#[34]⟩))) (yt := 9) (s := v22) (u := (⟨#[34]⟩ : ByteArray)) hv23) ?_
 cases h; exact lq 3
def kbd (r108 : (Va) → Option (ByteArray)) (r146 : (List Va) → Option (ByteArray)) (a0 : Va) : Option (ByteArray) := (bif (a0.type == 1) then (bif (a0.num == 0) then (some (⟨#[102, 97, 108, 115, 101]⟩ : ByteArray)) else (some (⟨#[116, 114, 117, 101]⟩ : ByteArray))) else (bif (a0.type == 2) then (Option.bind (kby fuel (a0.num)) fun v1 => (some v1)) else (bif (a0.type == 4) then (Option.bind (kci ((w64 (Int.tdiv a0.num 16)))) fun v2 => (Option.bind (cat (⟨#[48, 120]⟩ : ByteArray) v2) fun v3 => (Option.bind (kci ((Int.tmod a0.num 16))) fun v4 => (Option.bind (cat v3 v4) fun v5 => (some v5))))) else (bif (a0.type == 3) then (Option.bind (keo (a0.text)) fun v6 => (some v6)) else (bif (a0.type == 8) then (Option.bind (keo (a0.text)) fun v7 => (Option.bind (cat (⟨#[114]⟩ : ByteArray) v7) fun v8 => (some v8))) else (bif (a0.type == 5) then (Option.bind (r146 (a0.items)) fun v9 => (Option.bind (cat (⟨#[91]⟩ : ByteArray) v9) fun v10 => (Option.bind (cat v10 (⟨#[93]⟩ : ByteArray)) fun v11 => (some v11)))) else (bif (a0.type == 6) then (Option.bind (r146 (a0.items)) fun v12 => (Option.bind (cat (⟨#[123]⟩ : ByteArray) v12) fun v13 => (Option.bind (cat v13 (⟨#[125]⟩ : ByteArray)) fun v14 => (some v14)))) else (Option.bind (r146 (a0.items)) fun v15 => (Option.bind (cat (⟨#[60]⟩ : ByteArray) v15) fun v16 => (Option.bind (cat v16 (⟨#[62]⟩ : ByteArray)) fun v17 => (some v17)))))))))))
theorem kpi (r108 : (Va) → Option (ByteArray)) (r146 : (List Va) → Option (ByteArray)) (ih108 : ∀ (x0 : Va) r, r108 x0 = some r → kac Tryz.prog 108 [eVa x0] (eS (r))) (ih146 : ∀ (x0 : List Va) r, r146 x0 = some r → kac Tryz.prog 146 [(eL 4 eVaR) x0] (eS (r))) (a0 : Va) (r : ByteArray) (h : kbd r108 r146 a0 = some r) : kac Tryz.prog 108 [eVa a0] (eS (r)) := by
 unfold kbd at h
 refine pcl [.one .keep] Tryz.func108 ?_
 refine cd 17 h (fun h => ?_) fun h => ?_
 ·refine cd 7 h (fun h => ?_) fun h => ?_
  ·cases h; exact lq 5
  cases h; exact lq 6
 refine cd 5 h (fun h => ?_) fun h => ?_
 ·refine cl 4 h (kg4 _ _) (by kernel_rfl) fun v1 h => ?_
  cases h; exact lq 3
 refine cd 5 h (fun h => ?_) fun h => ?_
 ·refine dw 1 9 ?_
  refine cl 3 h (kgs _) (by kernel_rfl) fun v2 h => ?_
  obtain ⟨v3, hv3, h⟩ := Option.bind_eq_some_iff.1 h
  refine nst 0 (kc2 (t := 9) (X := (.const (.string ⟨#[48, 120]⟩))) (Y := (.tmp 20)) (yt := 9) (s := (⟨#[48, 120]⟩ : ByteArray)) (u := v2) hv3) ?_
  refine cl 3 h (kgs _) (by kernel_rfl) fun v4 h => ?_
  obtain ⟨v5, hv5, h⟩ := Option.bind_eq_some_iff.1 h
  refine nst 1 (kc2 (t := 9) (X := (.tmp 21)) (Y := (.tmp 25)) (yt := 9) (s := v3) (u := v4) hv5) ?_
  cases h; exact lq 3
 refine cd 5 h (fun h => ?_) fun h => ?_
 ·refine cl 4 h (kks _) (by kernel_rfl) fun v6 h => ?_
  cases h; exact lq 3
 refine cd 5 h (fun h => ?_) fun h => ?_
 ·refine cl 4 h (kks _) (by kernel_rfl) fun v7 h => ?_
  obtain ⟨v8, hv8, h⟩ := Option.bind_eq_some_iff.1 h
  refine nst 0 (kc2 (t := 9) (X := (.const (.string ⟨#[114]⟩))) (Y := (.tmp 36)) (yt := 9) (s := (⟨#[114]⟩ : ByteArray)) (u := v7) hv8) ?_
  cases h; exact lq 3
 refine cd 5 h (fun h => ?_) fun h => ?_
 ·refine cl 4 h (ih146 _) (by kernel_rfl) fun v9 h => ?_
  obtain ⟨v10, hv10, h⟩ := Option.bind_eq_some_iff.1 h
  refine nst 0 (kc2 (t := 9) (X := (.const (.string ⟨#[91]⟩))) (Y := (.tmp 42)) (yt := 9) (s := (⟨#[91]⟩ : ByteArray)) (u := v9) hv10) ?_
  obtain ⟨v11, hv11, h⟩ := Option.bind_eq_some_iff.1 h
  refine nst 0 (kc2 (t := 9) (X := (.tmp 43)) (Y := (.const (.string ⟨#[93]⟩))) (yt := 9) (s := v10) (u := (⟨#[93]⟩ : ByteArray)) hv11) ?_
  cases h; exact lq 3
 refine cd 5 h (fun h => ?_) fun h => ?_
 ·refine cl 4 h (ih146 _) (by kernel_rfl) fun v12 h => ?_
  obtain ⟨v13, hv13, h⟩ := Option.bind_eq_some_iff.1 h
  refine nst 0 (kc2 (t := 9) (X := (.const (.string ⟨#[123]⟩))) (Y := (.tmp 49)) (yt := 9) (s := (⟨#[123]⟩ : ByteArray)) (u := v12) hv13) ?_
  obtain ⟨v14, hv14, h⟩ := Option.bind_eq_some_iff.1 h
  refine nst 0 (kc2 (t := 9) (X := (.tmp 50)) (Y := (.const (.string ⟨#[125]⟩))) (yt := 9) (s := v13) (u := (⟨#[125]⟩ : ByteArray)) hv14) ?_
  cases h; exact lq 3
 refine cl 5 h (ih146 _) (by kernel_rfl) fun v15 h => ?_
 obtain ⟨v16, hv16, h⟩ := Option.bind_eq_some_iff.1 h
 refine nst 0 (kc2 (t := 9) (X := (.const (.string ⟨#[60]⟩))) (Y := (.tmp 54)) (yt := 9) (s := (⟨#[60]⟩ : ByteArray)) (u := v15) hv16) ?_
 obtain ⟨v17, hv17, h⟩ := Option.bind_eq_some_iff.1 h
 refine nst 0 (kc2 (t := 9) (X := (.tmp 55)) (Y := (.const (.string ⟨#[62]⟩))) (yt := 9) (s := v16) (u := (⟨#[62]⟩ : ByteArray)) hv17) ?_
 cases h; exact lq 3
def kc6 (a0 : List Va) (r108 : (Va) → Option (ByteArray)) (v1 : (ByteArray) × (Int)) : Option (((ByteArray) × (Int)) ⊕ ((ByteArray))) := (bif (decide (v1.2 < (List.length a0 : Int))) then (Option.bind ((bif (decide (0 < v1.2)) then (Option.bind (cat v1.1 (⟨#[44, 32]⟩ : ByteArray)) fun v2 => (some (v2))) else (some (v1.1))) : Option ((ByteArray))) fun (v4 : (ByteArray)) => (Option.bind (idx a0 v1.2) fun v5 => (Option.bind (r108 (v5)) fun v6 => (Option.bind (cat v4 v6) fun v7 => (some (.inl (v7, (w64 (v1.2 + 1))))))))) else (some (.inr (v1.1))))
def kfb (r108 : (Va) → Option (ByteArray)) (r146 : (List Va) → Option (ByteArray)) (a0 : List Va) : Option (ByteArray) := (Option.bind (kaa (kc6 a0 r108) fuel ((⟨#[]⟩ : ByteArray), 0)) fun (v9 : (ByteArray)) => (some v9))
theorem ko8 (r108 : (Va) → Option (ByteArray)) (r146 : (List Va) → Option (ByteArray)) (ih108 : ∀ (x0 : Va) r, r108 x0 = some r → kac Tryz.prog 108 [eVa x0] (eS (r))) (ih146 : ∀ (x0 : List Va) r, r146 x0 = some r → kac Tryz.prog 146 [(eL 4 eVaR) x0] (eS (r))) (a0 : List Va) (r : ByteArray) (h : kfb r108 r146 a0 = some r) : kac Tryz.prog 146 [(eL 4 eVaR) a0] (eS (r)) := by
 unfold kfb at h
 refine pcl [.one .keep] Tryz.func146 ?_
 refine lp1 14 (fun v1 => ⟨23, [(0, (.fz ((eL 4 eVaR) (a0)))), (3, (fS (v1.1))), (4, (fI (v1.2)))], [], [], []⟩) (.exit 0) (fun v9 => ⟨23, [(3, (fS (v9)))], [], [], []⟩) h (fun v1 r h => ?_) fun v9 h => ?_
 ·unfold kc6 at h
  refine cd 8 h (fun h => ?_) fun h => ?_
  ·refine jn1 4 .normal (fun v4 => ⟨23, [(0, (.fz ((eL 4 eVaR) (a0)))), (3, (fS (v4))), (4, (fI (v1.2)))], [], [], []⟩) h (fun v4 h => ?_) fun v4 h => ?_
   ·refine cd 5 h (fun h => ?_) fun h => ?_
    ·obtain ⟨v2, hv2, h⟩ := Option.bind_eq_some_iff.1 h
     refine nst 2 (kc2 (t := 9) (X := (.tmp 13)) (Y := (.const (.string ⟨#[44, 32]⟩))) (yt := 9) (s := v1.1) (u := (⟨#[44, 32]⟩ : ByteArray)) hv2) ?_
     cases h; exact lj 2
    cases h; exact lj 1
   refine ix nVaR 4 h fun v5 h => ?_
   refine cl 1 h (ih108 _) (by kernel_rfl) fun v6 h => ?_
   obtain ⟨v7, hv7, h⟩ := Option.bind_eq_some_iff.1 h
   refine nst 0 (kc2 (t := 9) (X := (.tmp 15)) (Y := (.tmp 20)) (yt := 9) (s := v4) (u := v6) hv7) ?_
   cases h; exact lj 7
  cases h; exact lo 1 (by kernel_rfl)
 cases h; exact lq 6
def kdr : Nat → ((Va) → Option (ByteArray)) × ((List Va) → Option (ByteArray))
  | 0 => (fun _ => none, fun _ => none)
  | n + 1 => (kbd ((kdr n).1) ((kdr n).2), kfb ((kdr n).1) ((kdr n).2))
def ka4 (n : Nat) : (Va) → Option (ByteArray) := (kdr n).1
def kcq (n : Nat) : (List Va) → Option (ByteArray) := (kdr n).2
theorem kd2 : ∀ n : Nat, (∀ (x0 : Va) r, ka4 n x0 = some r → kac Tryz.prog 108 [eVa x0] (eS (r))) ∧ (∀ (x0 : List Va) r, kcq n x0 = some r → kac Tryz.prog 146 [(eL 4 eVaR) x0] (eS (r)))
  | 0 => ⟨(fun _ _ h => nomatch h), (fun _ _ h => nomatch h)⟩
  | n + 1 => ⟨(kpi _ _ ((kd2 n).1) ((kd2 n).2)), (ko8 _ _ ((kd2 n).1) ((kd2 n).2))⟩
theorem kqj (n : Nat) : ∀ (x0 : Va) r, ka4 n x0 = some r → kac Tryz.prog 108 [eVa x0] (eS (r)) := (kd2 n).1
def kdv (a0 : Va) : Option ((ByteArray) × (Int)) := (Option.bind (kas fuel (a0)) fun v1 => (bif (v1 != 0) then (some ((⟨#[]⟩ : ByteArray), v1)) else (Option.bind (ka4 fuel (a0)) fun v2 => (some (v2, 0)))))
theorem kpl (a0 : Va) (r : (ByteArray) × (Int)) (h : kdv a0 = some r) : kac Tryz.prog 70 [eVa a0] (.tup [eS (r.1), eI (r.2)]) := by
 unfold kdv at h
 refine pcl [.one .keep, .one .keep] Tryz.func70 ?_
 refine cl 10 h (kkq _ _) (by kernel_rfl) fun v1 h => ?_
 refine cd 7 h (fun h => ?_) fun h => ?_
 ·cases h; exact lq 7
 refine cl 4 h (kqj _ _) (by kernel_rfl) fun v2 h => ?_
 cases h; exact lq 4
def klb (a0 : La) (a1 : Tm) : List (Nat × AObj) := [(1, (.box 26 [(fS (a0.name)), (.fz ((eL 1 eI) (a0.inputs))), (.fz ((eL 2 eSy) (a0.symbols))), (.fz ((eL 9 eRu) (a0.rules)))])), (2, (.box 29 [(fI (a1.rule)), (.fz ((eL 2 eTmR) (a1.args)))]))]
def kez (a0 : La) (a1 : Tm) (r31 : (La) → (Tm) → Option (ByteArray)) (v6 : (ByteArray) × (Int)) : Option (((ByteArray) × (Int)) ⊕ ((ByteArray))) := (bif (decide (v6.2 < (List.length a1.args : Int))) then (Option.bind ((bif (decide (0 < v6.2)) then (Option.bind (cat v6.1 (⟨#[44, 32]⟩ : ByteArray)) fun v7 => (some (v7))) else (some (v6.1))) : Option ((ByteArray))) fun (v9 : (ByteArray)) => (Option.bind (idx a1.args v6.2) fun v10 => (Option.bind (r31 (a0) (v10)) fun v11 => (Option.bind (cat v9 v11) fun v12 => (some (.inl (v12, (w64 (v6.2 + 1))))))))) else (some (.inr (v6.1))))
def ke8 (r31 : (La) → (Tm) → Option (ByteArray)) (a0 : La) (a1 : Tm) : Option (ByteArray) := (Option.bind (idx a0.rules a1.rule) fun v1 => (bif (v1.kind == 1) then (Option.bind (keh (v1.input)) fun v2 => (Option.bind (cat (⟨#[105, 110]⟩ : ByteArray) v2) fun v3 => (some v3))) else (bif (v1.kind == 2) then (Option.bind (kdv (v1.const)) fun v4 => (some v4.1)) else (Option.bind (cat v1.op (⟨#[40]⟩ : ByteArray)) fun v5 => (Option.bind (kaa (kez a0 a1 r31) fuel (v5, 0)) fun (v14 : (ByteArray)) => (Option.bind (cat v14 (⟨#[41]⟩ : ByteArray)) fun v15 => (some v15)))))))
theorem kpg (r31 : (La) → (Tm) → Option (ByteArray)) (ih31 : ∀ (x0 : La) (x1 : Tm) r, r31 x0 x1 = some r → kac Tryz.prog 31 [eLa x0, eTm x1] (eS (r))) (a0 : La) (a1 : Tm) (r : ByteArray) (h : ke8 r31 a0 a1 = some r) : kac Tryz.prog 31 [eLa a0, eTm a1] (eS (r)) := by
 unfold ke8 at h
 refine pcl [.one .keep] Tryz.func31 ?_
 refine ix nRu 12 h fun v1 h => ?_
 refine cd 16 h (fun h => ?_) fun h => ?_
 ·refine cl 4 h (kpa _) (by kernel_rfl) fun v2 h => ?_
  obtain ⟨v3, hv3, h⟩ := Option.bind_eq_some_iff.1 h
  refine nst 0 (kc2 (t := 9) (X := (.const (.string ⟨#[105, 110]⟩))) (Y := (.tmp 22)) (yt := 9) (s := (⟨#[105, 110]⟩ : ByteArray)) (u := v2) hv3) ?_
  cases h; exact lq 3
 refine cd 5 h (fun h => ?_) fun h => ?_
 ·refine cl 4 h (kpl _) (by kernel_rfl) fun v4 h => ?_
  cases h; exact lq 12
 obtain ⟨v5, hv5, h⟩ := Option.bind_eq_some_iff.1 h
 refine nst 5 (kc2 (t := 9) (X := (.tmp 34)) (Y := (.const (.string ⟨#[40]⟩))) (yt := 9) (s := v1.op) (u := (⟨#[40]⟩ : ByteArray)) hv5) ?_
 refine lp1 8 (fun v6 => ⟨58, [(2, (.ref 1 0 0)), (3, (.ref 2 0 0)), (8, (fS (v6.1))), (9, (fI (v6.2)))], (klb a0 a1), [2, 1], []⟩) (.exit 1) (fun v14 => ⟨58, [(8, (fS (v14)))], [], [], []⟩) h (fun v6 r h => ?_) fun v14 h => ?_
 ·unfold kez at h
  refine cd 9 h (fun h => ?_) fun h => ?_
  ·refine jn1 4 .normal (fun v9 => ⟨58, [(2, (.ref 1 0 0)), (3, (.ref 2 0 0)), (8, (fS (v9))), (9, (fI (v6.2)))], (klb a0 a1), [2, 1], []⟩) h (fun v9 h => ?_) fun v9 h => ?_
   ·refine cd 5 h (fun h => ?_) fun h => ?_
    ·obtain ⟨v7, hv7, h⟩ := Option.bind_eq_some_iff.1 h
     refine nst 2 (kc2 (t := 9) (X := (.tmp 45)) (Y := (.const (.string ⟨#[44, 32]⟩))) (yt := 9) (s := v6.1) (u := (⟨#[44, 32]⟩ : ByteArray)) hv7) ?_
     cases h; exact lj 2
    cases h; exact lj 1
   refine dw 0 8 ?_
   refine ix nTmR 5 h fun v10 h => ?_
   refine cl 1 h (ih31 _ _) (by kernel_rfl) fun v11 h => ?_
   obtain ⟨v12, hv12, h⟩ := Option.bind_eq_some_iff.1 h
   refine nst 1 (kc2 (t := 9) (X := (.tmp 47)) (Y := (.tmp 54)) (yt := 9) (s := v9) (u := v11) hv12) ?_
   cases h; exact lj 7
  cases h; exact lo 1 (by kernel_rfl)
 obtain ⟨v15, hv15, h⟩ := Option.bind_eq_some_iff.1 h
 refine nst 3 (kc2 (t := 9) (X := (.tmp 56)) (Y := (.const (.string ⟨#[41]⟩))) (yt := 9) (s := v14) (u := (⟨#[41]⟩ : ByteArray)) hv15) ?_
 cases h; exact lq 3
def kec : Nat → (La) → (Tm) → Option (ByteArray)
  | 0 => fun _ _ => none
  | n + 1 => ke8 (kec n)
theorem kk2 : ∀ (n : Nat) (x0 : La) (x1 : Tm) r, kec n x0 x1 = some r → kac Tryz.prog 31 [eLa x0, eTm x1] (eS (r))
  | 0, _, _, _, h => by cases h
  | n + 1, x0, x1, r, h => kpg (kec n) (kk2 n) x0 x1 r h
def kfi (a0 : La) (a1 : Tm) : Option ((ByteArray) × (Int)) := (Option.bind (kce (a0)) fun v1 => (bif (v1 != 0) then (some ((⟨#[]⟩ : ByteArray), v1)) else (Option.bind ((bif (decide (a1.rule < 0)) then (some (true)) else (some ((decide ((List.length a0.rules : Int) ≤ a1.rule))))) : Option ((Bool))) fun (v3 : (Bool)) => (bif v3 then (some ((⟨#[]⟩ : ByteArray), 1)) else (Option.bind (idx a0.rules a1.rule) fun v4 => (Option.bind (kdx (a0) (v4.symbol) (a1)) fun v5 => (bif (v5 != 0) then (some ((⟨#[]⟩ : ByteArray), v5)) else (Option.bind (kec fuel (a0) (a1)) fun v6 => (some (v6, 0))))))))))
theorem kpn (a0 : La) (a1 : Tm) (r : (ByteArray) × (Int)) (h : kfi a0 a1 = some r) : kac Tryz.prog 13 [eLa a0, eTm a1] (.tup [eS (r.1), eI (r.2)]) := by
 unfold kfi at h
 refine pcl [.one .keep, .one .keep] Tryz.func13 ?_
 refine cl 11 h (kko _) (by kernel_rfl) fun v1 h => ?_
 refine cd 7 h (fun h => ?_) fun h => ?_
 ·cases h; exact lq 7
 refine jn1 3 .normal (fun v3 => ⟨40, [(2, (.ref 1 0 0)), (3, (.ref 2 0 0)), (23, (fB (v3)))], [(1, (.box 26 [(fS (a0.name)), (.fz ((eL 1 eI) (a0.inputs))), (.fz ((eL 2 eSy) (a0.symbols))), (.fz ((eL 9 eRu) (a0.rules)))])), (2, (.box 29 [(fI (a1.rule)), (.fz ((eL 2 eTmR) (a1.args)))]))], [2, 1], []⟩) h (fun v3 h => ?_) fun v3 h => ?_
 ·refine gd 5 h (fun h => ?_) fun h => ?_
  ·cases h; exact lj 8
  cases h; exact lj 8
 refine cd 0 h (fun h => ?_) fun h => ?_
 ·cases h; exact lq 6
 refine dw 3 9 ?_
 refine ix nRu 5 h fun v4 h => ?_
 refine cl 4 h (kpq _ _ _) (by kernel_rfl) fun v5 h => ?_
 refine cd 7 h (fun h => ?_) fun h => ?_
 ·cases h; exact lq 7
 refine cl 5 h (kk2 _ _ _) (by kernel_rfl) fun v6 h => ?_
 cases h; exact lq 4
end Go.Proofs.YtaimpcnpifoidaaGreatDoor
