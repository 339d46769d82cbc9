/- Typed programs and what computes them. -/
import Derived.Test.YtfhmljjkhjifeaaGreatDoorZ5
set_option linter.unusedVariables false
set_option linter.unusedSimpArgs false
set_option maxRecDepth 100000
namespace Go.Proofs.YtfhmljjkhjifeaaGreatDoor
open Go Go.RowKit Go.Proofs
set_option maxHeartbeats 2000000
attribute [local irreducible] NStep StepA EStep LeSt
def synthesisref02_Decimal_l1 (v3 : (Int) × (ByteArray)) : Option (((Int) × (ByteArray)) ⊕ ((Int) × (ByteArray))) := (bif (decide (10 ≤ v3.1)) then (Option.bind (cat (toBA ([(wu8 (w64 (48 + (Int.tmod v3.1 10))))] : List (Int))) v3.2) fun v4 => (some (.inl ((w64 (Int.tdiv v3.1 10)), v4)))) else (some (.inr (v3.1, v3.2))))
def synthesisref02_Decimal_b (r94 : (Int) → Option (ByteArray)) (a0 : Int) : Option (ByteArray) := (bif (decide (a0 < 0)) then (Option.bind (r94 ((w64 (0 - a0)))) fun v1 => (Option.bind (cat (⟨#[45]⟩ : ByteArray) v1) fun v2 => (some v2))) else (Option.bind (loopN (synthesisref02_Decimal_l1) fuel (a0, (⟨#[]⟩ : ByteArray))) fun (v6 : (Int) × (ByteArray)) => (Option.bind (cat (toBA ([(wu8 (w64 (48 + v6.1)))] : List (Int))) v6.2) fun v7 => (some v7))))
theorem synthesisref02_Decimal_b_ok (r94 : (Int) → Option (ByteArray)) (ih94 : ∀ (x0 : Int) r, r94 x0 = some r → PCall Tryz.prog 94 [eI x0] (eS (r))) (a0 : Int) (r : ByteArray) (h : synthesisref02_Decimal_b r94 a0 = some r) : PCall Tryz.prog 94 [eI a0] (eS (r)) := by
 unfold synthesisref02_Decimal_b at h
 refine pcl [.one .keep] Tryz.func94 (by kernel_rfl) (by kernel_rfl) (by kernel_rfl) ?_
 refine cd 10 h (by kernel_rfl) (fun h => ?_) fun h => ?_
 ·refine cl 4 h (ih94 _) (by kernel_rfl) fun v1 h => ?_
  obtain ⟨v2, hv2, h⟩ := Option.bind_eq_some_iff.1 h
  refine nst 0 (s_cat (t := 9) (X := (.const (.string ⟨#[45]⟩))) (Y := (.tmp 8)) (yt := 9) (s := (⟨#[45]⟩ : ByteArray)) (u := v1) hv2 (by kernel_rfl) (by kernel_rfl) (by kernel_rfl)) (by kernel_rfl) ?_
  cases h; exact lq 3 (by kernel_rfl)
 refine lp1 7 (fun v3 => ⟨29, [(0, (fI (v3.1))), (3, (fS (v3.2)))], [], [], []⟩) (.exit 0) (fun v6 => ⟨29, [(0, (fI (v6.1))), (3, (fS (v6.2)))], [], [], []⟩) h (by kernel_rfl) (by kernel_rfl) (fun v3 r h => ?_) fun v6 h => ?_
 ·unfold synthesisref02_Decimal_l1 at h
  refine cd 6 h (by kernel_rfl) (fun h => ?_) fun h => ?_
  ·refine nst 9 (s_b2s (sr := 64) (t := 9) (x := (.tmp 16)) (e := 5) (de := tt5) (ds := tt64) (d := tt9) (xs := ([(wu8 (w64 (48 + (Int.tmod v3.1 10))))] : List (Int))) tt_ok (by kernel_rfl) (by kernel_rfl) rfl (by kernel_rfl) rfl (by kernel_rfl) rfl (by kernel_rfl)) (by kernel_rfl) ?_
   obtain ⟨v4, hv4, h⟩ := Option.bind_eq_some_iff.1 h
   refine nst 1 (s_cat (t := 9) (X := (.tmp 17)) (Y := (.tmp 18)) (yt := 9) (s := (toBA ([(wu8 (w64 (48 + (Int.tmod v3.1 10))))] : List (Int)))) (u := v3.2) hv4 (by kernel_rfl) (by kernel_rfl) (by kernel_rfl)) (by kernel_rfl) ?_
   cases h; exact lj 7 (by kernel_rfl)
  cases h; exact lo 1 (by kernel_rfl)
 refine nst 6 (s_b2s (sr := 64) (t := 9) (x := (.tmp 25)) (e := 5) (de := tt5) (ds := tt64) (d := tt9) (xs := ([(wu8 (w64 (48 + v6.1)))] : List (Int))) tt_ok (by kernel_rfl) (by kernel_rfl) rfl (by kernel_rfl) rfl (by kernel_rfl) rfl (by kernel_rfl)) (by kernel_rfl) ?_
 obtain ⟨v7, hv7, h⟩ := Option.bind_eq_some_iff.1 h
 refine nst 1 (s_cat (t := 9) (X := (.tmp 26)) (Y := (.tmp 27)) (yt := 9) (s := (toBA ([(wu8 (w64 (48 + v6.1)))] : List (Int)))) (u := v6.2) hv7 (by kernel_rfl) (by kernel_rfl) (by kernel_rfl)) (by kernel_rfl) ?_
 cases h; exact lq 3 (by kernel_rfl)
def synthesisref02_Decimal : Nat → (Int) → Option (ByteArray)
  | 0 => fun _ => none
  | n + 1 => synthesisref02_Decimal_b (synthesisref02_Decimal n)
theorem synthesisref02_Decimal_ok : ∀ (n : Nat) (x0 : Int) r, synthesisref02_Decimal n x0 = some r → PCall Tryz.prog 94 [eI x0] (eS (r))
  | 0, _, _, h => by cases h
  | n + 1, x0, r, h => synthesisref02_Decimal_b_ok (synthesisref02_Decimal n) (synthesisref02_Decimal_ok n) x0 r h

def synthesisref11_number (a0 : Int) : Option (ByteArray) := (Option.bind (synthesisref02_Decimal fuel (a0)) fun v1 => (some v1))
theorem synthesisref11_number_ok (a0 : Int) (r : ByteArray) (h : synthesisref11_number a0 = some r) : PCall Tryz.prog 76 [eI a0] (eS (r)) := by
 unfold synthesisref11_number at h
 refine pcl [.one .keep] Tryz.func76 (by kernel_rfl) (by kernel_rfl) (by kernel_rfl) ?_
 refine cl 7 h (synthesisref02_Decimal_ok _ _) (by kernel_rfl) fun v1 h => ?_
 cases h; exact lq 3 (by kernel_rfl)

def synthesisref02_hex (a0 : Int) : Option (ByteArray) := (Option.bind (cutS (⟨#[48, 49, 50, 51, 52, 53, 54, 55, 56, 57, 97, 98, 99, 100, 101, 102]⟩ : ByteArray) a0 (w64 (a0 + 1))) fun v1 => (some v1))
theorem synthesisref02_hex_ok (a0 : Int) (r : ByteArray) (h : synthesisref02_hex a0 = some r) : PCall Tryz.prog 106 [eI a0] (eS (r)) := by
 unfold synthesisref02_hex at h
 refine pcl [.one .keep] Tryz.func106 (by kernel_rfl) (by kernel_rfl) (by kernel_rfl) ?_
 obtain ⟨v1, hv1, h⟩ := Option.bind_eq_some_iff.1 h
 refine nst 9 (s_cutS (t := 9) (x := (.const (.string ⟨#[48, 49, 50, 51, 52, 53, 54, 55, 56, 57, 97, 98, 99, 100, 101, 102]⟩))) (lo := (some (.tmp 3))) (hi := (some (.tmp 5))) (d := tt9) (s := (⟨#[48, 49, 50, 51, 52, 53, 54, 55, 56, 57, 97, 98, 99, 100, 101, 102]⟩ : ByteArray)) (l := (some a0)) (h := (some (w64 (a0 + 1)))) hv1 tt_ok (by kernel_rfl) (by kernel_rfl) (by kernel_rfl) (by kernel_rfl) (by kernel_rfl) (by kernel_rfl)) (by kernel_rfl) ?_
 cases h; exact lq 3 (by kernel_rfl)

def synthesisref02_Quote_l1 (a0 : ByteArray) (v1 : (ByteArray) × (Int)) : Option (((ByteArray) × (Int)) ⊕ ((ByteArray))) := (bif (decide (v1.2 < (a0.size : Int))) then (Option.bind (byt a0 v1.2) fun v2 => (Option.bind ((Option.bind ((Option.bind (byt a0 v1.2) fun v3 => (bif (v3 == 34) then (some (true)) else (Option.bind (byt a0 v1.2) fun v4 => (some ((v4 == 92)))))) : Option ((Bool))) fun (v6 : (Bool)) => (bif v6 then (Option.bind (cat v1.1 (⟨#[92]⟩ : ByteArray)) fun v7 => (Option.bind (cutS a0 v1.2 (w64 (v1.2 + 1))) fun v8 => (Option.bind (cat v7 v8) fun v9 => (some (v9))))) else (Option.bind ((bif (decide ((w64 v2) < 32)) then (some (true)) else (some ((decide (126 < (w64 v2)))))) : Option ((Bool))) fun (v11 : (Bool)) => (bif v11 then (Option.bind (cat v1.1 (⟨#[92, 120]⟩ : ByteArray)) fun v12 => (Option.bind (synthesisref02_hex ((w64 (Int.tdiv (w64 v2) 16)))) fun v13 => (Option.bind (cat v12 v13) fun v14 => (Option.bind (synthesisref02_hex ((Int.tmod (w64 v2) 16))) fun v15 => (Option.bind (cat v14 v15) fun v16 => (some (v16))))))) else (Option.bind (cutS a0 v1.2 (w64 (v1.2 + 1))) fun v17 => (Option.bind (cat v1.1 v17) fun v18 => (some (v18)))))))) : Option ((ByteArray))) fun (v20 : (ByteArray)) => (some (.inl (v20, (w64 (v1.2 + 1))))))) else (some (.inr (v1.1))))
def synthesisref02_Quote (a0 : ByteArray) : Option (ByteArray) := (Option.bind (loopN (synthesisref02_Quote_l1 a0) fuel ((⟨#[34]⟩ : ByteArray), 0)) fun (v22 : (ByteArray)) => (Option.bind (cat v22 (⟨#[34]⟩ : ByteArray)) fun v23 => (some v23)))
theorem synthesisref02_Quote_ok (a0 : ByteArray) (r : ByteArray) (h : synthesisref02_Quote a0 = some r) : PCall Tryz.prog 107 [eS a0] (eS (r)) := by
 unfold synthesisref02_Quote at h
 refine pcl [.one .keep] Tryz.func107 (by kernel_rfl) (by kernel_rfl) (by kernel_rfl) ?_
 refine lp1 14 (fun v1 => ⟨61, [(0, (fS (a0))), (3, (fS (v1.1))), (4, (fI (v1.2)))], [], [], []⟩) (.exit 0) (fun v22 => ⟨61, [(3, (fS (v22)))], [], [], []⟩) h (by kernel_rfl) (by kernel_rfl) (fun v1 r h => ?_) fun v22 h => ?_
 ·unfold synthesisref02_Quote_l1 at h
  refine cd 8 h (by kernel_rfl) (fun h => ?_) fun h => ?_
  ·refine byx 7 h (by kernel_rfl) fun v2 h => ?_
   refine jn1 4 .normal (fun v20 => ⟨61, [(0, (fS (a0))), (3, (fS (v20))), (4, (fI (v1.2)))], [], [], []⟩) h (by kernel_rfl) (fun v20 h => ?_) fun v20 h => ?_
   ·refine jn1 1 .normal (fun v6 => ⟨61, [(0, (fS (a0))), (3, (fS (v1.1))), (4, (fI (v1.2))), (5, (fI ((w64 v2)))), (23, (fB (v6)))], [], [], []⟩) h (by kernel_rfl) (fun v6 h => ?_) fun v6 h => ?_
    ·refine byx 3 h (by kernel_rfl) fun v3 h => ?_
     refine gd 2 h (by kernel_rfl) (fun h => ?_) fun h => ?_
     ·cases h; exact lj 7 (by kernel_rfl)
     refine byx 2 h (by kernel_rfl) fun v4 h => ?_
     cases h; exact lj 4 (by kernel_rfl)
    refine cd 0 h (by kernel_rfl) (fun h => ?_) fun h => ?_
    ·obtain ⟨v7, hv7, h⟩ := Option.bind_eq_some_iff.1 h
     refine nst 2 (s_cat (t := 9) (X := (.tmp 34)) (Y := (.const (.string ⟨#[92]⟩))) (yt := 9) (s := v1.1) (u := (⟨#[92]⟩ : ByteArray)) hv7 (by kernel_rfl) (by kernel_rfl) (by kernel_rfl)) (by kernel_rfl) ?_
     obtain ⟨v8, hv8, h⟩ := Option.bind_eq_some_iff.1 h
     refine nst 4 (s_cutS (t := 9) (x := (.tmp 36)) (lo := (some (.tmp 37))) (hi := (some (.tmp 39))) (d := tt9) (s := a0) (l := (some v1.2)) (h := (some (w64 (v1.2 + 1)))) hv8 tt_ok (by kernel_rfl) (by kernel_rfl) (by kernel_rfl) (by kernel_rfl) (by kernel_rfl) (by kernel_rfl)) (by kernel_rfl) ?_
     obtain ⟨v9, hv9, h⟩ := Option.bind_eq_some_iff.1 h
     refine nst 0 (s_cat (t := 9) (X := (.tmp 35)) (Y := (.tmp 40)) (yt := 9) (s := v7) (u := v8) hv9 (by kernel_rfl) (by kernel_rfl) (by kernel_rfl)) (by kernel_rfl) ?_
     cases h; exact lj 2 (by kernel_rfl)
    refine jn1 1 .normal (fun v11 => ⟨61, [(0, (fS (a0))), (3, (fS (v1.1))), (4, (fI (v1.2))), (5, (fI ((w64 v2)))), (42, (fB (v11)))], [], [], []⟩) h (by kernel_rfl) (fun v11 h => ?_) fun v11 h => ?_
    ·refine gd 4 h (by kernel_rfl) (fun h => ?_) fun h => ?_
     ·cases h; exact lj 5 (by kernel_rfl)
     cases h; exact lj 5 (by kernel_rfl)
    refine cd 0 h (by kernel_rfl) (fun h => ?_) fun h => ?_
    ·obtain ⟨v12, hv12, h⟩ := Option.bind_eq_some_iff.1 h
     refine nst 2 (s_cat (t := 9) (X := (.tmp 49)) (Y := (.const (.string ⟨#[92, 120]⟩))) (yt := 9) (s := v1.1) (u := (⟨#[92, 120]⟩ : ByteArray)) hv12 (by kernel_rfl) (by kernel_rfl) (by kernel_rfl)) (by kernel_rfl) ?_
     refine cl 2 h (synthesisref02_hex_ok _) (by kernel_rfl) fun v13 h => ?_
     obtain ⟨v14, hv14, h⟩ := Option.bind_eq_some_iff.1 h
     refine nst 0 (s_cat (t := 9) (X := (.tmp 50)) (Y := (.tmp 53)) (yt := 9) (s := v12) (u := v13) hv14 (by kernel_rfl) (by kernel_rfl) (by kernel_rfl)) (by kernel_rfl) ?_
     refine cl 2 h (synthesisref02_hex_ok _) (by kernel_rfl) fun v15 h => ?_
     obtain ⟨v16, hv16, h⟩ := Option.bind_eq_some_iff.1 h
     refine nst 0 (s_cat (t := 9) (X := (.tmp 54)) (Y := (.tmp 57)) (yt := 9) (s := v14) (u := v15) hv16 (by kernel_rfl) (by kernel_rfl) (by kernel_rfl)) (by kernel_rfl) ?_
     cases h; exact lj 2 (by kernel_rfl)
    obtain ⟨v17, hv17, h⟩ := Option.bind_eq_some_iff.1 h
    refine nst 6 (s_cutS (t := 9) (x := (.tmp 17)) (lo := (some (.tmp 18))) (hi := (some (.tmp 20))) (d := tt9) (s := a0) (l := (some v1.2)) (h := (some (w64 (v1.2 + 1)))) hv17 tt_ok (by kernel_rfl) (by kernel_rfl) (by kernel_rfl) (by kernel_rfl) (by kernel_rfl) (by kernel_rfl)) (by kernel_rfl) ?_
    obtain ⟨v18, hv18, h⟩ := Option.bind_eq_some_iff.1 h
    refine nst 0 (s_cat (t := 9) (X := (.tmp 16)) (Y := (.tmp 21)) (yt := 9) (s := v1.1) (u := v17) hv18 (by kernel_rfl) (by kernel_rfl) (by kernel_rfl)) (by kernel_rfl) ?_
    cases h; exact lj 2 (by kernel_rfl)
   cases h; exact lj 5 (by kernel_rfl)
  cases h; exact lo 1 (by kernel_rfl)
 obtain ⟨v23, hv23, h⟩ := Option.bind_eq_some_iff.1 h
 refine nst 3 (s_cat (t := 9) (X := (.tmp 59)) (Y := (.const (.string ⟨#[34]⟩))) (yt := 9) (s := v22) (u := (⟨#[34]⟩ : ByteArray)) hv23 (by kernel_rfl) (by kernel_rfl) (by kernel_rfl)) (by kernel_rfl) ?_
 cases h; exact lq 3 (by kernel_rfl)

def synthesisref02_text_b (r95 : (Va) → Option (ByteArray)) (r108 : (List Va) → Option (ByteArray)) (a0 : Va) : Option (ByteArray) := (bif (a0.type == 1) then (bif (a0.num == 0) then (some (⟨#[102, 97, 108, 115, 101]⟩ : ByteArray)) else (some (⟨#[116, 114, 117, 101]⟩ : ByteArray))) else (bif (a0.type == 2) then (Option.bind (synthesisref02_Decimal fuel (a0.num)) fun v1 => (some v1)) else (bif (a0.type == 4) then (Option.bind (synthesisref02_hex ((w64 (Int.tdiv a0.num 16)))) fun v2 => (Option.bind (cat (⟨#[48, 120]⟩ : ByteArray) v2) fun v3 => (Option.bind (synthesisref02_hex ((Int.tmod a0.num 16))) fun v4 => (Option.bind (cat v3 v4) fun v5 => (some v5))))) else (bif (a0.type == 3) then (Option.bind (synthesisref02_Quote (a0.text)) fun v6 => (some v6)) else (bif (a0.type == 8) then (Option.bind (synthesisref02_Quote (a0.text)) fun v7 => (Option.bind (cat (⟨#[114]⟩ : ByteArray) v7) fun v8 => (some v8))) else (bif (a0.type == 5) then (Option.bind (r108 (a0.items)) fun v9 => (Option.bind (cat (⟨#[91]⟩ : ByteArray) v9) fun v10 => (Option.bind (cat v10 (⟨#[93]⟩ : ByteArray)) fun v11 => (some v11)))) else (bif (a0.type == 6) then (Option.bind (r108 (a0.items)) fun v12 => (Option.bind (cat (⟨#[123]⟩ : ByteArray) v12) fun v13 => (Option.bind (cat v13 (⟨#[125]⟩ : ByteArray)) fun v14 => (some v14)))) else (Option.bind (r108 (a0.items)) fun v15 => (Option.bind (cat (⟨#[60]⟩ : ByteArray) v15) fun v16 => (Option.bind (cat v16 (⟨#[62]⟩ : ByteArray)) fun v17 => (some v17)))))))))))
theorem synthesisref02_text_b_ok (r95 : (Va) → Option (ByteArray)) (r108 : (List Va) → Option (ByteArray)) (ih95 : ∀ (x0 : Va) r, r95 x0 = some r → PCall Tryz.prog 95 [eVa x0] (eS (r))) (ih108 : ∀ (x0 : List Va) r, r108 x0 = some r → PCall Tryz.prog 108 [(eL 4 eVaR) x0] (eS (r))) (a0 : Va) (r : ByteArray) (h : synthesisref02_text_b r95 r108 a0 = some r) : PCall Tryz.prog 95 [eVa a0] (eS (r)) := by
 unfold synthesisref02_text_b at h
 refine pcl [.one .keep] Tryz.func95 (by kernel_rfl) (by kernel_rfl) (by kernel_rfl) ?_
 refine cd 17 h (by kernel_rfl) (fun h => ?_) fun h => ?_
 ·refine cd 7 h (by kernel_rfl) (fun h => ?_) fun h => ?_
  ·cases h; exact lq 5 (by kernel_rfl)
  cases h; exact lq 6 (by kernel_rfl)
 refine cd 5 h (by kernel_rfl) (fun h => ?_) fun h => ?_
 ·refine cl 4 h (synthesisref02_Decimal_ok _ _) (by kernel_rfl) fun v1 h => ?_
  cases h; exact lq 3 (by kernel_rfl)
 refine cd 5 h (by kernel_rfl) (fun h => ?_) fun h => ?_
 ·refine dw 1 9 (by kernel_rfl) ?_
  refine cl 3 h (synthesisref02_hex_ok _) (by kernel_rfl) fun v2 h => ?_
  obtain ⟨v3, hv3, h⟩ := Option.bind_eq_some_iff.1 h
  refine nst 0 (s_cat (t := 9) (X := (.const (.string ⟨#[48, 120]⟩))) (Y := (.tmp 20)) (yt := 9) (s := (⟨#[48, 120]⟩ : ByteArray)) (u := v2) hv3 (by kernel_rfl) (by kernel_rfl) (by kernel_rfl)) (by kernel_rfl) ?_
  refine cl 3 h (synthesisref02_hex_ok _) (by kernel_rfl) fun v4 h => ?_
  obtain ⟨v5, hv5, h⟩ := Option.bind_eq_some_iff.1 h
  refine nst 1 (s_cat (t := 9) (X := (.tmp 21)) (Y := (.tmp 25)) (yt := 9) (s := v3) (u := v4) hv5 (by kernel_rfl) (by kernel_rfl) (by kernel_rfl)) (by kernel_rfl) ?_
  cases h; exact lq 3 (by kernel_rfl)
 refine cd 5 h (by kernel_rfl) (fun h => ?_) fun h => ?_
 ·refine cl 4 h (synthesisref02_Quote_ok _) (by kernel_rfl) fun v6 h => ?_
  cases h; exact lq 3 (by kernel_rfl)
 refine cd 5 h (by kernel_rfl) (fun h => ?_) fun h => ?_
 ·refine cl 4 h (synthesisref02_Quote_ok _) (by kernel_rfl) fun v7 h => ?_
  obtain ⟨v8, hv8, h⟩ := Option.bind_eq_some_iff.1 h
  refine nst 0 (s_cat (t := 9) (X := (.const (.string ⟨#[114]⟩))) (Y := (.tmp 36)) (yt := 9) (s := (⟨#[114]⟩ : ByteArray)) (u := v7) hv8 (by kernel_rfl) (by kernel_rfl) (by kernel_rfl)) (by kernel_rfl) ?_
  cases h; exact lq 3 (by kernel_rfl)
 refine cd 5 h (by kernel_rfl) (fun h => ?_) fun h => ?_
 ·refine cl 4 h (ih108 _) (by kernel_rfl) fun v9 h => ?_
  obtain ⟨v10, hv10, h⟩ := Option.bind_eq_some_iff.1 h
  refine nst 0 (s_cat (t := 9) (X := (.const (.string ⟨#[91]⟩))) (Y := (.tmp 42)) (yt := 9) (s := (⟨#[91]⟩ : ByteArray)) (u := v9) hv10 (by kernel_rfl) (by kernel_rfl) (by kernel_rfl)) (by kernel_rfl) ?_
  obtain ⟨v11, hv11, h⟩ := Option.bind_eq_some_iff.1 h
  refine nst 0 (s_cat (t := 9) (X := (.tmp 43)) (Y := (.const (.string ⟨#[93]⟩))) (yt := 9) (s := v10) (u := (⟨#[93]⟩ : ByteArray)) hv11 (by kernel_rfl) (by kernel_rfl) (by kernel_rfl)) (by kernel_rfl) ?_
  cases h; exact lq 3 (by kernel_rfl)
 refine cd 5 h (by kernel_rfl) (fun h => ?_) fun h => ?_
 ·refine cl 4 h (ih108 _) (by kernel_rfl) fun v12 h => ?_
  obtain ⟨v13, hv13, h⟩ := Option.bind_eq_some_iff.1 h
  refine nst 0 (s_cat (t := 9) (X := (.const (.string ⟨#[123]⟩))) (Y := (.tmp 49)) (yt := 9) (s := (⟨#[123]⟩ : ByteArray)) (u := v12) hv13 (by kernel_rfl) (by kernel_rfl) (by kernel_rfl)) (by kernel_rfl) ?_
  obtain ⟨v14, hv14, h⟩ := Option.bind_eq_some_iff.1 h
  refine nst 0 (s_cat (t := 9) (X := (.tmp 50)) (Y := (.const (.string ⟨#[125]⟩))) (yt := 9) (s := v13) (u := (⟨#[125]⟩ : ByteArray)) hv14 (by kernel_rfl) (by kernel_rfl) (by kernel_rfl)) (by kernel_rfl) ?_
  cases h; exact lq 3 (by kernel_rfl)
 refine cl 5 h (ih108 _) (by kernel_rfl) fun v15 h => ?_
 obtain ⟨v16, hv16, h⟩ := Option.bind_eq_some_iff.1 h
 refine nst 0 (s_cat (t := 9) (X := (.const (.string ⟨#[60]⟩))) (Y := (.tmp 54)) (yt := 9) (s := (⟨#[60]⟩ : ByteArray)) (u := v15) hv16 (by kernel_rfl) (by kernel_rfl) (by kernel_rfl)) (by kernel_rfl) ?_
 obtain ⟨v17, hv17, h⟩ := Option.bind_eq_some_iff.1 h
 refine nst 0 (s_cat (t := 9) (X := (.tmp 55)) (Y := (.const (.string ⟨#[62]⟩))) (yt := 9) (s := v16) (u := (⟨#[62]⟩ : ByteArray)) hv17 (by kernel_rfl) (by kernel_rfl) (by kernel_rfl)) (by kernel_rfl) ?_
 cases h; exact lq 3 (by kernel_rfl)
def synthesisref02_join_l1 (a0 : List Va) (r95 : (Va) → Option (ByteArray)) (v1 : (ByteArray) × (Int)) : Option (((ByteArray) × (Int)) ⊕ ((ByteArray))) := (bif (decide (v1.2 < (List.length a0 : Int))) then (Option.bind ((bif (decide (0 < v1.2)) then (Option.bind (cat v1.1 (⟨#[44, 32]⟩ : ByteArray)) fun v2 => (some (v2))) else (some (v1.1))) : Option ((ByteArray))) fun (v4 : (ByteArray)) => (Option.bind (idx a0 v1.2) fun v5 => (Option.bind (r95 (v5)) fun v6 => (Option.bind (cat v4 v6) fun v7 => (some (.inl (v7, (w64 (v1.2 + 1))))))))) else (some (.inr (v1.1))))
def synthesisref02_join_b (r95 : (Va) → Option (ByteArray)) (r108 : (List Va) → Option (ByteArray)) (a0 : List Va) : Option (ByteArray) := (Option.bind (loopN (synthesisref02_join_l1 a0 r95) fuel ((⟨#[]⟩ : ByteArray), 0)) fun (v9 : (ByteArray)) => (some v9))
theorem synthesisref02_join_b_ok (r95 : (Va) → Option (ByteArray)) (r108 : (List Va) → Option (ByteArray)) (ih95 : ∀ (x0 : Va) r, r95 x0 = some r → PCall Tryz.prog 95 [eVa x0] (eS (r))) (ih108 : ∀ (x0 : List Va) r, r108 x0 = some r → PCall Tryz.prog 108 [(eL 4 eVaR) x0] (eS (r))) (a0 : List Va) (r : ByteArray) (h : synthesisref02_join_b r95 r108 a0 = some r) : PCall Tryz.prog 108 [(eL 4 eVaR) a0] (eS (r)) := by
 unfold synthesisref02_join_b at h
 refine pcl [.one .keep] Tryz.func108 (by kernel_rfl) (by kernel_rfl) (by kernel_rfl) ?_
 refine lp1 14 (fun v1 => ⟨23, [(0, (.fz ((eL 4 eVaR) (a0)))), (3, (fS (v1.1))), (4, (fI (v1.2)))], [], [], []⟩) (.exit 0) (fun v9 => ⟨23, [(3, (fS (v9)))], [], [], []⟩) h (by kernel_rfl) (by kernel_rfl) (fun v1 r h => ?_) fun v9 h => ?_
 ·unfold synthesisref02_join_l1 at h
  refine cd 8 h (by kernel_rfl) (fun h => ?_) fun h => ?_
  ·refine jn1 4 .normal (fun v4 => ⟨23, [(0, (.fz ((eL 4 eVaR) (a0)))), (3, (fS (v4))), (4, (fI (v1.2)))], [], [], []⟩) h (by kernel_rfl) (fun v4 h => ?_) fun v4 h => ?_
   ·refine cd 5 h (by kernel_rfl) (fun h => ?_) fun h => ?_
    ·obtain ⟨v2, hv2, h⟩ := Option.bind_eq_some_iff.1 h
     refine nst 2 (s_cat (t := 9) (X := (.tmp 13)) (Y := (.const (.string ⟨#[44, 32]⟩))) (yt := 9) (s := v1.1) (u := (⟨#[44, 32]⟩ : ByteArray)) hv2 (by kernel_rfl) (by kernel_rfl) (by kernel_rfl)) (by kernel_rfl) ?_
     cases h; exact lj 2 (by kernel_rfl)
    cases h; exact lj 1 (by kernel_rfl)
   refine ix nVaR 4 h (by kernel_rfl) fun v5 h => ?_
   refine cl 1 h (ih95 _) (by kernel_rfl) fun v6 h => ?_
   obtain ⟨v7, hv7, h⟩ := Option.bind_eq_some_iff.1 h
   refine nst 0 (s_cat (t := 9) (X := (.tmp 15)) (Y := (.tmp 20)) (yt := 9) (s := v4) (u := v6) hv7 (by kernel_rfl) (by kernel_rfl) (by kernel_rfl)) (by kernel_rfl) ?_
   cases h; exact lj 7 (by kernel_rfl)
  cases h; exact lo 1 (by kernel_rfl)
 cases h; exact lq 6 (by kernel_rfl)
def synthesisref02_text_all : Nat → ((Va) → Option (ByteArray)) × ((List Va) → Option (ByteArray))
  | 0 => (fun _ => none, fun _ => none)
  | n + 1 => (synthesisref02_text_b ((synthesisref02_text_all n).1) ((synthesisref02_text_all n).2), synthesisref02_join_b ((synthesisref02_text_all n).1) ((synthesisref02_text_all n).2))
def synthesisref02_text (n : Nat) : (Va) → Option (ByteArray) := (synthesisref02_text_all n).1
def synthesisref02_join (n : Nat) : (List Va) → Option (ByteArray) := (synthesisref02_text_all n).2
theorem synthesisref02_text_all_ok : ∀ n : Nat, (∀ (x0 : Va) r, synthesisref02_text n x0 = some r → PCall Tryz.prog 95 [eVa x0] (eS (r))) ∧ (∀ (x0 : List Va) r, synthesisref02_join n x0 = some r → PCall Tryz.prog 108 [(eL 4 eVaR) x0] (eS (r)))
  | 0 => ⟨(fun _ _ h => nomatch h), (fun _ _ h => nomatch h)⟩
  | n + 1 => ⟨(synthesisref02_text_b_ok _ _ ((synthesisref02_text_all_ok n).1) ((synthesisref02_text_all_ok n).2)), (synthesisref02_join_b_ok _ _ ((synthesisref02_text_all_ok n).1) ((synthesisref02_text_all_ok n).2))⟩
theorem synthesisref02_text_ok (n : Nat) : ∀ (x0 : Va) r, synthesisref02_text n x0 = some r → PCall Tryz.prog 95 [eVa x0] (eS (r)) := (synthesisref02_text_all_ok n).1
def synthesisref02_Print (a0 : Va) : Option ((ByteArray) × (Int)) := (Option.bind (synthesisref01_Check fuel (a0)) fun v1 => (bif (v1 != 0) then (some ((⟨#[]⟩ : ByteArray), v1)) else (Option.bind (synthesisref02_text fuel (a0)) fun v2 => (some (v2, 0)))))
theorem synthesisref02_Print_ok (a0 : Va) (r : (ByteArray) × (Int)) (h : synthesisref02_Print a0 = some r) : PCall Tryz.prog 77 [eVa a0] (.tup [eS (r.1), eI (r.2)]) := by
 unfold synthesisref02_Print at h
 refine pcl [.one .keep, .one .keep] Tryz.func77 (by kernel_rfl) (by kernel_rfl) (by kernel_rfl) ?_
 refine cl 10 h (synthesisref01_Check_ok _ _) (by kernel_rfl) fun v1 h => ?_
 refine cd 7 h (by kernel_rfl) (fun h => ?_) fun h => ?_
 ·cases h; exact lq 7 (by kernel_rfl)
 refine cl 4 h (synthesisref02_text_ok _ _) (by kernel_rfl) fun v2 h => ?_
 cases h; exact lq 4 (by kernel_rfl)

def synthesisref11_text_m0 (a0 : La) : List (Nat × AObj) := [(1, (.box 26 [(fS (a0.name)), (.fz ((eL 1 eI) (a0.inputs))), (.fz ((eL 2 eSy) (a0.symbols))), (.fz ((eL 9 eRu) (a0.rules)))]))]
def synthesisref11_text_l1 (v22 : Ru) (v33 : (ByteArray) × (Int)) : Option (((ByteArray) × (Int)) ⊕ ((ByteArray))) := (bif (decide (v33.2 < (List.length v22.args : Int))) then (Option.bind (idx v22.args v33.2) fun v34 => (Option.bind (synthesisref11_number (v34)) fun v35 => (Option.bind (cat v33.1 v35) fun v36 => (Option.bind (cat v36 (⟨#[44]⟩ : ByteArray)) fun v37 => (some (.inl (v37, (w64 (v33.2 + 1))))))))) else (some (.inr (v33.1))))
def synthesisref11_text_l2 (a0 : La) (v21 : (ByteArray) × (Int)) : Option (((ByteArray) × (Int)) ⊕ ((ByteArray))) := (bif (decide (v21.2 < (List.length a0.rules : Int))) then (Option.bind (idx a0.rules v21.2) fun v22 => (Option.bind (synthesisref11_number (v22.symbol)) fun v23 => (Option.bind (cat v21.1 v23) fun v24 => (Option.bind (cat v24 (⟨#[61]⟩ : ByteArray)) fun v25 => (Option.bind ((bif (v22.kind == 1) then (Option.bind (cat v25 (⟨#[105, 110]⟩ : ByteArray)) fun v26 => (Option.bind (synthesisref11_number (v22.input)) fun v27 => (Option.bind (cat v26 v27) fun v28 => (some (v28))))) else (bif (v22.kind == 2) then (Option.bind (synthesisref02_Print (v22.const)) fun v29 => (Option.bind (cat v25 v29.1) fun v30 => (some (v30)))) else (Option.bind (cat v25 v22.op) fun v31 => (Option.bind (cat v31 (⟨#[40]⟩ : ByteArray)) fun v32 => (Option.bind (loopN (synthesisref11_text_l1 v22) fuel (v32, 0)) fun (v39 : (ByteArray)) => (Option.bind (cat v39 (⟨#[41]⟩ : ByteArray)) fun v40 => (some (v40)))))))) : Option ((ByteArray))) fun (v42 : (ByteArray)) => (Option.bind (cat v42 (⟨#[10]⟩ : ByteArray)) fun v43 => (some (.inl (v43, (w64 (v21.2 + 1))))))))))) else (some (.inr (v21.1))))
def synthesisref11_text_l3 (a0 : La) (v10 : (ByteArray) × (Int)) : Option (((ByteArray) × (Int)) ⊕ ((ByteArray))) := (bif (decide (v10.2 < (List.length a0.symbols : Int))) then (Option.bind (idx a0.symbols v10.2) fun v11 => (Option.bind (cat v10.1 v11.name) fun v12 => (Option.bind (cat v12 (⟨#[58]⟩ : ByteArray)) fun v13 => (Option.bind (idx a0.symbols v10.2) fun v14 => (Option.bind (synthesisref11_number (v14.type)) fun v15 => (Option.bind (cat v13 v15) fun v16 => (Option.bind (cat v16 (⟨#[44]⟩ : ByteArray)) fun v17 => (some (.inl (v17, (w64 (v10.2 + 1)))))))))))) else (some (.inr (v10.1))))
def synthesisref11_text_l4 (a0 : La) (v2 : (ByteArray) × (Int)) : Option (((ByteArray) × (Int)) ⊕ ((ByteArray))) := (bif (decide (v2.2 < (List.length a0.inputs : Int))) then (Option.bind (idx a0.inputs v2.2) fun v3 => (Option.bind (synthesisref11_number (v3)) fun v4 => (Option.bind (cat v2.1 v4) fun v5 => (Option.bind (cat v5 (⟨#[44]⟩ : ByteArray)) fun v6 => (some (.inl (v6, (w64 (v2.2 + 1))))))))) else (some (.inr (v2.1))))
def synthesisref11_text (a0 : La) : Option (ByteArray) := (Option.bind (cat a0.name (⟨#[10]⟩ : ByteArray)) fun v1 => (Option.bind (loopN (synthesisref11_text_l4 a0) fuel (v1, 0)) fun (v8 : (ByteArray)) => (Option.bind (cat v8 (⟨#[10]⟩ : ByteArray)) fun v9 => (Option.bind (loopN (synthesisref11_text_l3 a0) fuel (v9, 0)) fun (v19 : (ByteArray)) => (Option.bind (cat v19 (⟨#[10]⟩ : ByteArray)) fun v20 => (Option.bind (loopN (synthesisref11_text_l2 a0) fuel (v20, 0)) fun (v45 : (ByteArray)) => (some v45)))))))
theorem synthesisref11_text_ok (a0 : La) (r : ByteArray) (h : synthesisref11_text a0 = some r) : PCall Tryz.prog 52 [eLa a0] (eS (r)) := by
 unfold synthesisref11_text at h
 refine pcl [.one .keep] Tryz.func52 (by kernel_rfl) (by kernel_rfl) (by kernel_rfl) ?_
 obtain ⟨v1, hv1, h⟩ := Option.bind_eq_some_iff.1 h
 refine nst 9 (s_cat (t := 9) (X := (.tmp 12)) (Y := (.const (.string ⟨#[10]⟩))) (yt := 9) (s := a0.name) (u := (⟨#[10]⟩ : ByteArray)) hv1 (by kernel_rfl) (by kernel_rfl) (by kernel_rfl)) (by kernel_rfl) ?_
 refine lp1 8 (fun v2 => ⟨124, [(1, (.ref 1 0 0)), (3, (fS (v2.1))), (4, (fI (v2.2)))], (synthesisref11_text_m0 a0), [1], []⟩) (.exit 0) (fun v8 => ⟨124, [(1, (.ref 1 0 0)), (3, (fS (v8)))], (synthesisref11_text_m0 a0), [1], []⟩) h (by kernel_rfl) (by kernel_rfl) (fun v2 r h => ?_) fun v8 h => ?_
 ·unfold synthesisref11_text_l4 at h
  refine cd 9 h (by kernel_rfl) (fun h => ?_) fun h => ?_
  ·refine ix nI 8 h (by kernel_rfl) fun v3 h => ?_
   refine cl 1 h (synthesisref11_number_ok _) (by kernel_rfl) fun v4 h => ?_
   obtain ⟨v5, hv5, h⟩ := Option.bind_eq_some_iff.1 h
   refine nst 0 (s_cat (t := 9) (X := (.tmp 21)) (Y := (.tmp 27)) (yt := 9) (s := v2.1) (u := v4) hv5 (by kernel_rfl) (by kernel_rfl) (by kernel_rfl)) (by kernel_rfl) ?_
   obtain ⟨v6, hv6, h⟩ := Option.bind_eq_some_iff.1 h
   refine nst 0 (s_cat (t := 9) (X := (.tmp 28)) (Y := (.const (.string ⟨#[44]⟩))) (yt := 9) (s := v5) (u := (⟨#[44]⟩ : ByteArray)) hv6 (by kernel_rfl) (by kernel_rfl) (by kernel_rfl)) (by kernel_rfl) ?_
   cases h; exact lj 7 (by kernel_rfl)
  cases h; exact lo 1 (by kernel_rfl)
 obtain ⟨v9, hv9, h⟩ := Option.bind_eq_some_iff.1 h
 refine nst 3 (s_cat (t := 9) (X := (.tmp 30)) (Y := (.const (.string ⟨#[10]⟩))) (yt := 9) (s := v8) (u := (⟨#[10]⟩ : ByteArray)) hv9 (by kernel_rfl) (by kernel_rfl) (by kernel_rfl)) (by kernel_rfl) ?_
 refine lp1 8 (fun v10 => ⟨124, [(1, (.ref 1 0 0)), (3, (fS (v10.1))), (5, (fI (v10.2)))], (synthesisref11_text_m0 a0), [1], []⟩) (.exit 2) (fun v19 => ⟨124, [(1, (.ref 1 0 0)), (3, (fS (v19)))], (synthesisref11_text_m0 a0), [1], []⟩) h (by kernel_rfl) (by kernel_rfl) (fun v10 r h => ?_) fun v19 h => ?_
 ·unfold synthesisref11_text_l3 at h
  refine cd 9 h (by kernel_rfl) (fun h => ?_) fun h => ?_
  ·refine dw 3 16 (by kernel_rfl) ?_
   refine ix nSy 4 h (by kernel_rfl) fun v11 h => ?_
   obtain ⟨v12, hv12, h⟩ := Option.bind_eq_some_iff.1 h
   refine nst 2 (s_cat (t := 9) (X := (.tmp 39)) (Y := (.tmp 45)) (yt := 9) (s := v10.1) (u := v11.name) hv12 (by kernel_rfl) (by kernel_rfl) (by kernel_rfl)) (by kernel_rfl) ?_
   obtain ⟨v13, hv13, h⟩ := Option.bind_eq_some_iff.1 h
   refine nst 0 (s_cat (t := 9) (X := (.tmp 46)) (Y := (.const (.string ⟨#[58]⟩))) (yt := 9) (s := v12) (u := (⟨#[58]⟩ : ByteArray)) hv13 (by kernel_rfl) (by kernel_rfl) (by kernel_rfl)) (by kernel_rfl) ?_
   refine ix nSy 3 h (by kernel_rfl) fun v14 h => ?_
   refine cl 2 h (synthesisref11_number_ok _) (by kernel_rfl) fun v15 h => ?_
   obtain ⟨v16, hv16, h⟩ := Option.bind_eq_some_iff.1 h
   refine nst 1 (s_cat (t := 9) (X := (.tmp 47)) (Y := (.tmp 54)) (yt := 9) (s := v13) (u := v15) hv16 (by kernel_rfl) (by kernel_rfl) (by kernel_rfl)) (by kernel_rfl) ?_
   obtain ⟨v17, hv17, h⟩ := Option.bind_eq_some_iff.1 h
   refine nst 0 (s_cat (t := 9) (X := (.tmp 55)) (Y := (.const (.string ⟨#[44]⟩))) (yt := 9) (s := v16) (u := (⟨#[44]⟩ : ByteArray)) hv17 (by kernel_rfl) (by kernel_rfl) (by kernel_rfl)) (by kernel_rfl) ?_
   cases h; exact lj 7 (by kernel_rfl)
  cases h; exact lo 1 (by kernel_rfl)
 obtain ⟨v20, hv20, h⟩ := Option.bind_eq_some_iff.1 h
 refine nst 3 (s_cat (t := 9) (X := (.tmp 57)) (Y := (.const (.string ⟨#[10]⟩))) (yt := 9) (s := v19) (u := (⟨#[10]⟩ : ByteArray)) hv20 (by kernel_rfl) (by kernel_rfl) (by kernel_rfl)) (by kernel_rfl) ?_
 refine lp1 8 (fun v21 => ⟨124, [(1, (.ref 1 0 0)), (3, (fS (v21.1))), (6, (fI (v21.2)))], (synthesisref11_text_m0 a0), [1], []⟩) (.exit 4) (fun v45 => ⟨124, [(3, (fS (v45)))], [], [], []⟩) h (by kernel_rfl) (by kernel_rfl) (fun v21 r h => ?_) fun v45 h => ?_
 ·unfold synthesisref11_text_l2 at h
  refine cd 9 h (by kernel_rfl) (fun h => ?_) fun h => ?_
  ·refine ix nRu 8 h (by kernel_rfl) fun v22 h => ?_
   refine cl 9 h (synthesisref11_number_ok _) (by kernel_rfl) fun v23 h => ?_
   obtain ⟨v24, hv24, h⟩ := Option.bind_eq_some_iff.1 h
   refine nst 0 (s_cat (t := 9) (X := (.tmp 71)) (Y := (.tmp 74)) (yt := 9) (s := v21.1) (u := v23) hv24 (by kernel_rfl) (by kernel_rfl) (by kernel_rfl)) (by kernel_rfl) ?_
   obtain ⟨v25, hv25, h⟩ := Option.bind_eq_some_iff.1 h
   refine nst 0 (s_cat (t := 9) (X := (.tmp 75)) (Y := (.const (.string ⟨#[61]⟩))) (yt := 9) (s := v24) (u := (⟨#[61]⟩ : ByteArray)) hv25 (by kernel_rfl) (by kernel_rfl) (by kernel_rfl)) (by kernel_rfl) ?_
   refine jn1 9 .normal (fun v42 => ⟨124, [(1, (.ref 1 0 0)), (3, (fS (v42))), (6, (fI (v21.2)))], (synthesisref11_text_m0 a0), [1], []⟩) h (by kernel_rfl) (fun v42 h => ?_) fun v42 h => ?_
   ·refine cd 5 h (by kernel_rfl) (fun h => ?_) fun h => ?_
    ·obtain ⟨v26, hv26, h⟩ := Option.bind_eq_some_iff.1 h
     refine nst 2 (s_cat (t := 9) (X := (.tmp 104)) (Y := (.const (.string ⟨#[105, 110]⟩))) (yt := 9) (s := v25) (u := (⟨#[105, 110]⟩ : ByteArray)) hv26 (by kernel_rfl) (by kernel_rfl) (by kernel_rfl)) (by kernel_rfl) ?_
     refine cl 2 h (synthesisref11_number_ok _) (by kernel_rfl) fun v27 h => ?_
     obtain ⟨v28, hv28, h⟩ := Option.bind_eq_some_iff.1 h
     refine nst 0 (s_cat (t := 9) (X := (.tmp 105)) (Y := (.tmp 108)) (yt := 9) (s := v26) (u := v27) hv28 (by kernel_rfl) (by kernel_rfl) (by kernel_rfl)) (by kernel_rfl) ?_
     cases h; exact lj 2 (by kernel_rfl)
    refine cd 5 h (by kernel_rfl) (fun h => ?_) fun h => ?_
    ·refine cl 4 h (synthesisref02_Print_ok _) (by kernel_rfl) fun v29 h => ?_
     obtain ⟨v30, hv30, h⟩ := Option.bind_eq_some_iff.1 h
     refine nst 9 (s_cat (t := 9) (X := (.tmp 118)) (Y := (.tmp 119)) (yt := 9) (s := v25) (u := v29.1) hv30 (by kernel_rfl) (by kernel_rfl) (by kernel_rfl)) (by kernel_rfl) ?_
     cases h; exact lj 2 (by kernel_rfl)
    obtain ⟨v31, hv31, h⟩ := Option.bind_eq_some_iff.1 h
    refine nst 5 (s_cat (t := 9) (X := (.tmp 79)) (Y := (.tmp 81)) (yt := 9) (s := v25) (u := v22.op) hv31 (by kernel_rfl) (by kernel_rfl) (by kernel_rfl)) (by kernel_rfl) ?_
    obtain ⟨v32, hv32, h⟩ := Option.bind_eq_some_iff.1 h
    refine nst 0 (s_cat (t := 9) (X := (.tmp 82)) (Y := (.const (.string ⟨#[40]⟩))) (yt := 9) (s := v31) (u := (⟨#[40]⟩ : ByteArray)) hv32 (by kernel_rfl) (by kernel_rfl) (by kernel_rfl)) (by kernel_rfl) ?_
    refine lp1 8 (fun v33 => ⟨124, [(1, (.ref 1 0 0)), (3, (fS (v33.1))), (6, (fI (v21.2))), (7, (.ref 2 0 0)), (10, (fI (v33.2)))], [(1, (.box 26 [(fS (a0.name)), (.fz ((eL 1 eI) (a0.inputs))), (.fz ((eL 2 eSy) (a0.symbols))), (.fz ((eL 9 eRu) (a0.rules)))])), (2, (.box 47 [(fI (v22.symbol)), (fI (v22.kind)), (fI (v22.input)), (fI (v22.const.type)), (fI (v22.const.num)), (fS (v22.const.text)), (.fz ((eL 4 eVaR) (v22.const.items))), (fS (v22.op)), (.fz ((eL 1 eI) (v22.args)))]))], [2, 1], []⟩) (.exit 7) (fun v39 => ⟨124, [(1, (.ref 1 0 0)), (3, (fS (v39))), (6, (fI (v21.2)))], (synthesisref11_text_m0 a0), [1], []⟩) h (by kernel_rfl) (by kernel_rfl) (fun v33 r h => ?_) fun v39 h => ?_
    ·unfold synthesisref11_text_l1 at h
     refine cd 9 h (by kernel_rfl) (fun h => ?_) fun h => ?_
     ·refine ix nI 8 h (by kernel_rfl) fun v34 h => ?_
      refine cl 1 h (synthesisref11_number_ok _) (by kernel_rfl) fun v35 h => ?_
      obtain ⟨v36, hv36, h⟩ := Option.bind_eq_some_iff.1 h
      refine nst 0 (s_cat (t := 9) (X := (.tmp 91)) (Y := (.tmp 97)) (yt := 9) (s := v33.1) (u := v35) hv36 (by kernel_rfl) (by kernel_rfl) (by kernel_rfl)) (by kernel_rfl) ?_
      obtain ⟨v37, hv37, h⟩ := Option.bind_eq_some_iff.1 h
      refine nst 0 (s_cat (t := 9) (X := (.tmp 98)) (Y := (.const (.string ⟨#[44]⟩))) (yt := 9) (s := v36) (u := (⟨#[44]⟩ : ByteArray)) hv37 (by kernel_rfl) (by kernel_rfl) (by kernel_rfl)) (by kernel_rfl) ?_
      cases h; exact lj 7 (by kernel_rfl)
     cases h; exact lo 1 (by kernel_rfl)
    obtain ⟨v40, hv40, h⟩ := Option.bind_eq_some_iff.1 h
    refine nst 2 (s_cat (t := 9) (X := (.tmp 100)) (Y := (.const (.string ⟨#[41]⟩))) (yt := 9) (s := v39) (u := (⟨#[41]⟩ : ByteArray)) hv40 (by kernel_rfl) (by kernel_rfl) (by kernel_rfl)) (by kernel_rfl) ?_
    cases h; exact lj 2 (by kernel_rfl)
   obtain ⟨v43, hv43, h⟩ := Option.bind_eq_some_iff.1 h
   refine nst 2 (s_cat (t := 9) (X := (.tmp 121)) (Y := (.const (.string ⟨#[10]⟩))) (yt := 9) (s := v42) (u := (⟨#[10]⟩ : ByteArray)) hv43 (by kernel_rfl) (by kernel_rfl) (by kernel_rfl)) (by kernel_rfl) ?_
   cases h; exact lj 7 (by kernel_rfl)
  cases h; exact lo 1 (by kernel_rfl)
 cases h; exact lq 6 (by kernel_rfl)

def synthesisref11_Fingerprint_l1 (v2 : ByteArray) (v3 : (Int) × (Int)) : Option (((Int) × (Int)) ⊕ ((Int))) := (bif (decide (v3.2 < (v2.size : Int))) then (Option.bind (byt v2 v3.2) fun v4 => (some (.inl ((wu64 ((ixor .u64 v3.1 (wu64 v4)) * 1099511628211)), (w64 (v3.2 + 1)))))) else (some (.inr (v3.1))))
def synthesisref11_Fingerprint (a0 : La) : Option ((Int) × (Int)) := (Option.bind (synthesisref11_Check (a0)) fun v1 => (bif (v1 != 0) then (some (0, v1)) else (Option.bind (synthesisref11_text (a0)) fun v2 => (Option.bind (loopN (synthesisref11_Fingerprint_l1 v2) fuel (14695981039346656037, 0)) fun (v6 : (Int)) => (some (v6, 0))))))
def synthesisref11_Texts (a0 : La) (a1 : La) : Option (Bool) := (Option.bind (synthesisref11_text (a0)) fun v1 => (Option.bind (synthesisref11_text (a1)) fun v2 => (some (v1.toList == v2.toList))))
theorem synthesisref11_Texts_ok (a0 : La) (a1 : La) (r : Bool) (h : synthesisref11_Texts a0 a1 = some r) : PCall Tryz.prog 30 [eLa a0, eLa a1] (eB (r)) := by
 unfold synthesisref11_Texts at h
 refine pcl [.one .keep] Tryz.func30 (by kernel_rfl) (by kernel_rfl) (by kernel_rfl) ?_
 refine dw 7 3 (by kernel_rfl) ?_
 refine cl 1 h (synthesisref11_text_ok _) (by kernel_rfl) fun v1 h => ?_
 refine cl 2 h (synthesisref11_text_ok _) (by kernel_rfl) fun v2 h => ?_
 cases h; exact lq 4 (by kernel_rfl)

def synthesislaw11_GrammarPrints_h_m0 (p0 : Env) (q0 : Nat → Prop) (w0 : World) (a0 : La) (a1 : La) : List (Nat × AObj) := [(0, (.was p0 [1] q0 w0)), (1, (.glb GV)), (2, (.box 26 [(fS (a0.name)), (.fz ((eL 1 eI) (a0.inputs))), (.fz ((eL 2 eSy) (a0.symbols))), (.fz ((eL 9 eRu) (a0.rules)))])), (3, (.box 26 [(fS (a1.name)), (.fz ((eL 1 eI) (a1.inputs))), (.fz ((eL 2 eSy) (a1.symbols))), (.fz ((eL 9 eRu) (a1.rules)))]))]
def synthesislaw11_GrammarPrints_h (a0 : La) (a1 : La) : Option ((Bool)) := (Option.bind ((Option.bind (synthesislaw11_small (a0)) fun v1 => (bif (!v1) then (some (true)) else (Option.bind (synthesislaw11_small (a1)) fun v2 => (some ((!v2)))))) : Option ((Bool))) fun (v4 : (Bool)) => (bif v4 then (Option.bind (synthesislaw11_awake_h3 ) fun v5 => (some (v5))) else (Option.bind (grammar_Fingerprint_h (a0)) fun v6 => (Option.bind (grammar_Fingerprint_h (a1)) fun v7 => (Option.bind ((bif (v6.2 != 0) then (some (true)) else (some ((v7.2 != 0)))) : Option ((Bool))) fun (v9 : (Bool)) => (bif v9 then (Option.bind (synthesislaw11_awake_h3 ) fun v10 => (some (v10))) else (Option.bind (synthesisref11_Texts (a0) (a1)) fun v11 => (Option.bind (grammar_Same (a0) (a1)) fun v12 => (bif (!(v11 == v12)) then (some (false)) else (Option.bind ((Option.bind (grammar_Same (a0) (a1)) fun v13 => (bif (!v13) then (Option.bind (synthesislaw11_awake_h3 ) fun v14 => (some (v14))) else (bif (v6.1 == v7.1) then (Option.bind (synthesislaw11_awake_h3 ) fun v15 => (some (v15))) else (some (false))))) : Option ((Bool))) fun (v17 : (Bool)) => (some (v17))))))))))))
theorem synthesislaw11_GrammarPrints_h_ok (a0 : La) (a1 : La) (r : (Bool)) (h : synthesislaw11_GrammarPrints_h a0 a1 = some r) : HCall Tryz.prog 7 ([(.fz (eLa (a0))), (.fz (eLa (a1)))] ++ []) [(1, (.glb GV))] [1] (.ret (fB (r))) [(1, (.glb GV))] [1] := by
 unfold synthesislaw11_GrammarPrints_h at h
 refine hcx (gi := 0) Tryz.func7 (by kernel_rfl) (by kernel_rfl) (by kernel_rfl) (by kernel_rfl) (by kernel_rfl) (by kernel_rfl) (by kernel_rfl) (by kernel_rfl) ?_
 intro p0 q0 w0
 refine jn1 8 .normal (fun v4 => ⟨54, [(2, (.ref 2 0 0)), (3, (.ref 3 0 0)), (16, (fB (v4)))], (synthesislaw11_GrammarPrints_h_m0 p0 q0 w0 a0 a1), [3, 2, 0, 1], []⟩) h (by kernel_rfl) (fun v4 h => ?_) fun v4 h => ?_
 ·refine cl 2 h (synthesislaw11_small_ok _) (by kernel_rfl) fun v1 h => ?_
  refine gd 2 h (by kernel_rfl) (fun h => ?_) fun h => ?_
  ·cases h; exact lj 5 (by kernel_rfl)
  refine cl 1 h (synthesislaw11_small_ok _) (by kernel_rfl) fun v2 h => ?_
  cases h; exact lj 3 (by kernel_rfl)
 refine cd 0 h (by kernel_rfl) (fun h => ?_) fun h => ?_
 ·refine hcl 2 [] [(1, 1)] [(1, 1)] [1] h (synthesislaw11_awake_h3_ok) (fun _ => by kernel_rfl) fun v5 h => ?_
  obtain rfl := Option.some.inj h; exact lh 3 ⟨54, [(4, (fB (v5)))], [(0, (.was p0 [1] q0 w0)), (1, (.glb GV))], [0, 1], []⟩ (le_a (by kernel_rfl)) rfl rfl (by kernel_rfl) (by kernel_rfl)
 refine hcl 4 [.one .keep] [(1, 1)] [(1, 1)] [1] h (grammar_Fingerprint_h_ok _) (fun _ => by kernel_rfl) fun v6 h => ?_
 refine hcl 9 [.one .keep] [(1, 1)] [(1, 1)] [1] h (grammar_Fingerprint_h_ok _) (fun _ => by kernel_rfl) fun v7 h => ?_
 refine jn1 8 .normal (fun v9 => ⟨54, [(2, (.ref 2 0 0)), (3, (.ref 3 0 0)), (5, (.fz (eU64 (v6.1)))), (7, (.fz (eU64 (v7.1)))), (33, (fB (v9)))], (synthesislaw11_GrammarPrints_h_m0 p0 q0 w0 a0 a1), [3, 2, 0, 1], []⟩) h (by kernel_rfl) (fun v9 h => ?_) fun v9 h => ?_
 ·refine gd 4 h (by kernel_rfl) (fun h => ?_) fun h => ?_
  ·cases h; exact lj 4 (by kernel_rfl)
  cases h; exact lj 4 (by kernel_rfl)
 refine cd 0 h (by kernel_rfl) (fun h => ?_) fun h => ?_
 ·refine hcl 2 [] [(1, 1)] [(1, 1)] [1] h (synthesislaw11_awake_h3_ok) (fun _ => by kernel_rfl) fun v10 h => ?_
  obtain rfl := Option.some.inj h; exact lh 3 ⟨54, [(4, (fB (v10)))], [(0, (.was p0 [1] q0 w0)), (1, (.glb GV))], [0, 1], []⟩ (le_a (by kernel_rfl)) rfl rfl (by kernel_rfl) (by kernel_rfl)
 refine dw 3 5 (by kernel_rfl) ?_
 refine cl 2 h (synthesisref11_Texts_ok _ _) (by kernel_rfl) fun v11 h => ?_
 refine cl 3 h (grammar_Same_ok _ _) (by kernel_rfl) fun v12 h => ?_
 refine cd 2 h (by kernel_rfl) (fun h => ?_) fun h => ?_
 ·obtain rfl := Option.some.inj h; exact lh 5 ⟨54, [(4, (fB (false)))], [(0, (.was p0 [1] q0 w0)), (1, (.glb GV))], [0, 1], []⟩ (le_a (by kernel_rfl)) rfl rfl (by kernel_rfl) (by kernel_rfl)
 refine jn1 2 .normal (fun v17 => ⟨54, [(4, (fB (v17)))], [(0, (.was p0 [1] q0 w0)), (1, (.glb GV))], [0, 1], []⟩) h (by kernel_rfl) (fun v17 h => ?_) fun v17 h => ?_
 ·refine cl 3 h (grammar_Same_ok _ _) (by kernel_rfl) fun v13 h => ?_
  refine gd 2 h (by kernel_rfl) (fun h => ?_) fun h => ?_
  ·refine hcl 5 [] [(1, 1)] [(1, 1)] [1] h (synthesislaw11_awake_h3_ok) (fun _ => by kernel_rfl) fun v14 h => ?_
   cases h; exact lj 3 (by kernel_rfl)
  refine gd 5 h (by kernel_rfl) (fun h => ?_) fun h => ?_
  ·refine hcl 0 [] [(1, 1)] [(1, 1)] [1] h (synthesislaw11_awake_h3_ok) (fun _ => by kernel_rfl) fun v15 h => ?_
   cases h; exact lj 3 (by kernel_rfl)
  cases h; exact lj 4 (by kernel_rfl)
 obtain rfl := Option.some.inj h; exact lh 1 ⟨54, [(4, (fB (v17)))], [(0, (.was p0 [1] q0 w0)), (1, (.glb GV))], [0, 1], []⟩ (le_a (by kernel_rfl)) rfl rfl (by kernel_rfl) (by kernel_rfl)

end Go.Proofs.YtfhmljjkhjifeaaGreatDoor
