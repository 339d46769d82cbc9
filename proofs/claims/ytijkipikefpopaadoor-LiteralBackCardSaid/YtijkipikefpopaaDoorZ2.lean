/- Typed programs and what computes them. -/
import Derived.Test.YtijkipikefpopaaDoorZ1
set_option linter.unusedVariables false
set_option linter.unusedSimpArgs false
set_option maxRecDepth 100000
namespace Go.Proofs.YtijkipikefpopaaDoor
open Go Go.RowKit Go.Proofs
attribute [local irreducible] NStep StepA EStep LeSt
def synthesisref01_Check_b (r28 : (Va) → Option (Int)) (r50 : (List Va) → (Int) → Option (Int)) (r51 : (List Va) → Option (Int)) (a0 : Va) : Option (Int) := (Option.bind ((bif (decide (a0.type < 1)) then (some (true)) else (some ((decide (8 < a0.type))))) : Option ((Bool))) fun (v2 : (Bool)) => (bif v2 then (some 3) else (Option.bind ((bif (a0.type == 1) then (some (true)) else (bif (a0.type == 2) then (some (true)) else (some ((a0.type == 4))))) : Option ((Bool))) fun (v4 : (Bool)) => (Option.bind ((bif (a0.type == 3) then (some (true)) else (some ((a0.type == 8)))) : Option ((Bool))) fun (v6 : (Bool)) => (Option.bind ((bif (!v4) then (bif (a0.num != 0) then (some (true)) else (bif (!v6) then (bif (!(a0.text.toList == (⟨#[]⟩ : ByteArray).toList)) then (some (true)) else (bif v4 then (some ((decide (0 < (List.length a0.items : Int))))) else (bif v6 then (some ((decide (0 < (List.length a0.items : Int))))) else (some (false))))) else (bif v4 then (some ((decide (0 < (List.length a0.items : Int))))) else (bif v6 then (some ((decide (0 < (List.length a0.items : Int))))) else (some (false)))))) else (bif (!v6) then (bif (!(a0.text.toList == (⟨#[]⟩ : ByteArray).toList)) then (some (true)) else (bif v4 then (some ((decide (0 < (List.length a0.items : Int))))) else (bif v6 then (some ((decide (0 < (List.length a0.items : Int))))) else (some (false))))) else (bif v4 then (some ((decide (0 < (List.length a0.items : Int))))) else (bif v6 then (some ((decide (0 < (List.length a0.items : Int))))) else (some (false)))))) : Option ((Bool))) fun (v8 : (Bool)) => (bif v8 then (some 4) else (bif (a0.type == 1) then (Option.bind (synthesisref01_within (a0.num) (0) (1)) fun v9 => (some v9)) else (bif (a0.type == 2) then (Option.bind (synthesisref01_within (a0.num) ((-1000000)) (1000000)) fun v10 => (some v10)) else (bif (a0.type == 4) then (Option.bind (synthesisref01_within (a0.num) (0) (255)) fun v11 => (some v11)) else (bif (a0.type == 3) then (Option.bind (synthesisref01_plain (a0.text) (0) (64)) fun v12 => (some v12)) else (bif (a0.type == 8) then (Option.bind (synthesisref01_plain (a0.text) (1) (40)) fun v13 => (some v13)) else (bif (a0.type == 5) then (Option.bind (r50 (a0.items) (2)) fun v14 => (some v14)) else (bif (a0.type == 6) then (Option.bind (r50 (a0.items) (3)) fun v15 => (some v15)) else (Option.bind (r51 (a0.items)) fun v16 => (some v16)))))))))))))))
def synthesisref01_elements_l1 (a0 : List Va) (a1 : Int) (r28 : (Va) → Option (Int)) (v1 : (Int)) : Option (((Int)) ⊕ (((Unit) ⊕ (Int)))) := (bif (decide (v1 < (List.length a0 : Int))) then (Option.bind (idx a0 v1) fun v2 => (bif (v2.type != a1) then (some (.inr (.inr 3))) else (Option.bind (idx a0 v1) fun v3 => (Option.bind (r28 (v3)) fun v4 => (bif (v4 != 0) then (some (.inr (.inr v4))) else (some (.inl ((w64 (v1 + 1)))))))))) else (some (.inr (.inl ()))))
def synthesisref01_elements_b (r28 : (Va) → Option (Int)) (r50 : (List Va) → (Int) → Option (Int)) (r51 : (List Va) → Option (Int)) (a0 : List Va) (a1 : Int) : Option (Int) := (bif (decide (16 < (List.length a0 : Int))) then (some 2) else (Option.bind (loopN (synthesisref01_elements_l1 a0 a1 r28) fuel (0)) fun (v5 : ((Unit) ⊕ (Int))) => Sum.elim (fun v6 => (some 0)) (fun v7 => (some v7)) v5))
def synthesisref01_rows_l1 (a0 : List Va) (r28 : (Va) → Option (Int)) (v1 : (Int)) : Option (((Int)) ⊕ (((Unit) ⊕ (Int)))) := (bif (decide (v1 < (List.length a0 : Int))) then (Option.bind (idx a0 v1) fun v2 => (bif (v2.type != 6) then (some (.inr (.inr 3))) else (Option.bind (idx a0 v1) fun v3 => (Option.bind ((bif (decide ((List.length v3.items : Int) < 1)) then (some (true)) else (bif (decide (8 < (List.length v3.items : Int))) then (some (true)) else (Option.bind (idx a0 0) fun v4 => (some (((List.length v3.items : Int) != (List.length v4.items : Int))))))) : Option ((Bool))) fun (v6 : (Bool)) => (bif v6 then (some (.inr (.inr 2))) else (Option.bind (idx a0 v1) fun v7 => (Option.bind (r28 (v7)) fun v8 => (bif (v8 != 0) then (some (.inr (.inr v8))) else (some (.inl ((w64 (v1 + 1))))))))))))) else (some (.inr (.inl ()))))
def synthesisref01_rows_b (r28 : (Va) → Option (Int)) (r50 : (List Va) → (Int) → Option (Int)) (r51 : (List Va) → Option (Int)) (a0 : List Va) : Option (Int) := (bif (decide (8 < (List.length a0 : Int))) then (some 2) else (Option.bind (loopN (synthesisref01_rows_l1 a0 r28) fuel (0)) fun (v9 : ((Unit) ⊕ (Int))) => Sum.elim (fun v10 => (some 0)) (fun v11 => (some v11)) v9))
def synthesisref01_Check_all : Nat → ((Va) → Option (Int)) × ((List Va) → (Int) → Option (Int)) × ((List Va) → Option (Int))
  | 0 => (fun _ => none, fun _ _ => none, fun _ => none)
  | n + 1 => (synthesisref01_Check_b ((synthesisref01_Check_all n).1) ((synthesisref01_Check_all n).2.1) ((synthesisref01_Check_all n).2.2), synthesisref01_elements_b ((synthesisref01_Check_all n).1) ((synthesisref01_Check_all n).2.1) ((synthesisref01_Check_all n).2.2), synthesisref01_rows_b ((synthesisref01_Check_all n).1) ((synthesisref01_Check_all n).2.1) ((synthesisref01_Check_all n).2.2))
def synthesisref01_Check (n : Nat) : (Va) → Option (Int) := (synthesisref01_Check_all n).1
def synthesisref01_elements (n : Nat) : (List Va) → (Int) → Option (Int) := (synthesisref01_Check_all n).2.1
def synthesisref01_rows (n : Nat) : (List Va) → Option (Int) := (synthesisref01_Check_all n).2.2
def synthesisref02_hex (a0 : Int) : Option (ByteArray) := (Option.bind (cutS (⟨#[48, 49, 50, 51, 52, 53, 54, 55, 56, 57, 97, 98, 99, 100, 101, 102]⟩ : ByteArray) a0 (w64 (a0 + 1))) fun v1 => (some v1))
def synthesisref02_Quote_l1 (a0 : ByteArray) (v1 : (ByteArray) × (Int)) : Option (((ByteArray) × (Int)) ⊕ ((ByteArray))) := (bif (decide (v1.2 < (a0.size : Int))) then (Option.bind (byt a0 v1.2) fun v2 => (Option.bind ((Option.bind ((Option.bind (byt a0 v1.2) fun v3 => (bif (v3 == 34) then (some (true)) else (Option.bind (byt a0 v1.2) fun v4 => (some ((v4 == 92)))))) : Option ((Bool))) fun (v6 : (Bool)) => (bif v6 then (Option.bind (cat v1.1 (⟨#[92]⟩ : ByteArray)) fun v7 => (Option.bind (cutS a0 v1.2 (w64 (v1.2 + 1))) fun v8 => (Option.bind (cat v7 v8) fun v9 => (some (v9))))) else (Option.bind ((bif (decide ((w64 v2) < 32)) then (some (true)) else (some ((decide (126 < (w64 v2)))))) : Option ((Bool))) fun (v11 : (Bool)) => (bif v11 then (Option.bind (cat v1.1 (⟨#[92, 120]⟩ : ByteArray)) fun v12 => (Option.bind (synthesisref02_hex ((w64 (Int.tdiv (w64 v2) 16)))) fun v13 => (Option.bind (cat v12 v13) fun v14 => (Option.bind (synthesisref02_hex ((Int.tmod (w64 v2) 16))) fun v15 => (Option.bind (cat v14 v15) fun v16 => (some (v16))))))) else (Option.bind (cutS a0 v1.2 (w64 (v1.2 + 1))) fun v17 => (Option.bind (cat v1.1 v17) fun v18 => (some (v18)))))))) : Option ((ByteArray))) fun (v20 : (ByteArray)) => (some (.inl (v20, (w64 (v1.2 + 1))))))) else (some (.inr (v1.1))))
def synthesisref02_Quote (a0 : ByteArray) : Option (ByteArray) := (Option.bind (loopN (synthesisref02_Quote_l1 a0) fuel ((⟨#[34]⟩ : ByteArray), 0)) fun (v22 : (ByteArray)) => (Option.bind (cat v22 (⟨#[34]⟩ : ByteArray)) fun v23 => (some v23)))
def synthesisref02_Decimal_l1 (v3 : (Int) × (ByteArray)) : Option (((Int) × (ByteArray)) ⊕ ((Int) × (ByteArray))) := (bif (decide (10 ≤ v3.1)) then (Option.bind (cat (toBA ([(wu8 (w64 (48 + (Int.tmod v3.1 10))))] : List (Int))) v3.2) fun v4 => (some (.inl ((w64 (Int.tdiv v3.1 10)), v4)))) else (some (.inr (v3.1, v3.2))))
def synthesisref02_Decimal_b (r52 : (Int) → Option (ByteArray)) (a0 : Int) : Option (ByteArray) := (bif (decide (a0 < 0)) then (Option.bind (r52 ((w64 (0 - a0)))) fun v1 => (Option.bind (cat (⟨#[45]⟩ : ByteArray) v1) fun v2 => (some v2))) else (Option.bind (loopN (synthesisref02_Decimal_l1) fuel (a0, (⟨#[]⟩ : ByteArray))) fun (v6 : (Int) × (ByteArray)) => (Option.bind (cat (toBA ([(wu8 (w64 (48 + v6.1)))] : List (Int))) v6.2) fun v7 => (some v7))))
def synthesisref02_Decimal : Nat → (Int) → Option (ByteArray)
  | 0 => fun _ => none
  | n + 1 => synthesisref02_Decimal_b (synthesisref02_Decimal n)
def synthesisref02_text_b (r29 : (Va) → Option (ByteArray)) (r36 : (List Va) → Option (ByteArray)) (a0 : Va) : Option (ByteArray) := (bif (a0.type == 1) then (bif (a0.num == 0) then (some (⟨#[102, 97, 108, 115, 101]⟩ : ByteArray)) else (some (⟨#[116, 114, 117, 101]⟩ : ByteArray))) else (bif (a0.type == 2) then (Option.bind (synthesisref02_Decimal fuel (a0.num)) fun v1 => (some v1)) else (bif (a0.type == 4) then (Option.bind (synthesisref02_hex ((w64 (Int.tdiv a0.num 16)))) fun v2 => (Option.bind (cat (⟨#[48, 120]⟩ : ByteArray) v2) fun v3 => (Option.bind (synthesisref02_hex ((Int.tmod a0.num 16))) fun v4 => (Option.bind (cat v3 v4) fun v5 => (some v5))))) else (bif (a0.type == 3) then (Option.bind (synthesisref02_Quote (a0.text)) fun v6 => (some v6)) else (bif (a0.type == 8) then (Option.bind (synthesisref02_Quote (a0.text)) fun v7 => (Option.bind (cat (⟨#[114]⟩ : ByteArray) v7) fun v8 => (some v8))) else (bif (a0.type == 5) then (Option.bind (r36 (a0.items)) fun v9 => (Option.bind (cat (⟨#[91]⟩ : ByteArray) v9) fun v10 => (Option.bind (cat v10 (⟨#[93]⟩ : ByteArray)) fun v11 => (some v11)))) else (bif (a0.type == 6) then (Option.bind (r36 (a0.items)) fun v12 => (Option.bind (cat (⟨#[123]⟩ : ByteArray) v12) fun v13 => (Option.bind (cat v13 (⟨#[125]⟩ : ByteArray)) fun v14 => (some v14)))) else (Option.bind (r36 (a0.items)) fun v15 => (Option.bind (cat (⟨#[60]⟩ : ByteArray) v15) fun v16 => (Option.bind (cat v16 (⟨#[62]⟩ : ByteArray)) fun v17 => (some v17)))))))))))
def synthesisref02_join_l1 (a0 : List Va) (r29 : (Va) → Option (ByteArray)) (v1 : (ByteArray) × (Int)) : Option (((ByteArray) × (Int)) ⊕ ((ByteArray))) := (bif (decide (v1.2 < (List.length a0 : Int))) then (Option.bind ((bif (decide (0 < v1.2)) then (Option.bind (cat v1.1 (⟨#[44, 32]⟩ : ByteArray)) fun v2 => (some (v2))) else (some (v1.1))) : Option ((ByteArray))) fun (v4 : (ByteArray)) => (Option.bind (idx a0 v1.2) fun v5 => (Option.bind (r29 (v5)) fun v6 => (Option.bind (cat v4 v6) fun v7 => (some (.inl (v7, (w64 (v1.2 + 1))))))))) else (some (.inr (v1.1))))
def synthesisref02_join_b (r29 : (Va) → Option (ByteArray)) (r36 : (List Va) → Option (ByteArray)) (a0 : List Va) : Option (ByteArray) := (Option.bind (loopN (synthesisref02_join_l1 a0 r29) fuel ((⟨#[]⟩ : ByteArray), 0)) fun (v9 : (ByteArray)) => (some v9))
def synthesisref02_text_all : Nat → ((Va) → Option (ByteArray)) × ((List Va) → Option (ByteArray))
  | 0 => (fun _ => none, fun _ => none)
  | n + 1 => (synthesisref02_text_b ((synthesisref02_text_all n).1) ((synthesisref02_text_all n).2), synthesisref02_join_b ((synthesisref02_text_all n).1) ((synthesisref02_text_all n).2))
def synthesisref02_text (n : Nat) : (Va) → Option (ByteArray) := (synthesisref02_text_all n).1
def synthesisref02_join (n : Nat) : (List Va) → Option (ByteArray) := (synthesisref02_text_all n).2
def synthesisref02_Print (a0 : Va) : Option ((ByteArray) × (Int)) := (Option.bind (synthesisref01_Check fuel (a0)) fun v1 => (bif (v1 != 0) then (some ((⟨#[]⟩ : ByteArray), v1)) else (Option.bind (synthesisref02_text fuel (a0)) fun v2 => (some (v2, 0)))))
def strings_Builder_WriteString_h (a0 : List Int) (a1 : ByteArray) : Option ((List Int)) := (Option.bind (strings_Builder_copyCheck_h (a0)) fun v1 => (Option.bind (appS a0 a1) fun v2 => (some (v2))))
theorem strings_Builder_WriteString_h_ok (a0 : List Int) (a1 : ByteArray) (r : (List Int)) (h : strings_Builder_WriteString_h a0 a1 = some r) : HCall Tryd.prog 45 ([(.ref 1 0 0), (fS (a1))] ++ []) [(1, (.box 58 [(.opt 1), (.row 2 (List.length (a0)))])), (2, (.frow 5 1 (List.map eU8 (a0))))] [1, 2] (.ret (.fz (.tup [(eI ((a1.size : Int))), (.atom .nilIface)]))) [(1, (.box 58 [(.opt 1), (.row 2 (List.length (r)))])), (2, (.frow 5 1 (List.map eU8 (r))))] [1, 2] := by
 unfold strings_Builder_WriteString_h at h
 refine hcx (gi := 0) Tryd.func45 (by kernel_rfl) (by kernel_rfl) (by kernel_rfl) (by kernel_rfl) (by kernel_rfl) (by kernel_rfl) (by kernel_rfl) (by kernel_rfl) ?_
 intro p0 q0 w0
 refine hcl 8 [.one .keep] [(1, 1), (2, 2)] [(1, 1), (2, 2)] [1, 2] h (strings_Builder_copyCheck_h_ok _) (fun _ => by kernel_rfl) fun v1 h => ?_
 obtain ⟨v2, hv2, h⟩ := Option.bind_eq_some_iff.1 h
 refine sst 9 (s_appText (t := 56) (u := 9) (x := (.tmp 12)) (y := (.tmp 13)) (d := tt56) (e := 5) (i := Tryd.t5) (xs := a0) (s := a1) (id := 2) (n := List.length (a0)) hv2 tt_ok (by kernel_rfl) (by kernel_rfl) (by kernel_rfl) (by kernel_rfl) (by kernel_rfl) (by kernel_rfl) (by kernel_rfl) (by kernel_rfl) (by kernel_rfl) (by kernel_rfl) rfl (by kernel_rfl)) (by kernel_rfl) ?_
 obtain rfl := Option.some.inj h; exact lh 12 ⟨19, [(4, (fI ((a1.size : Int)))), (5, (.fz (.atom .nilIface)))], [(0, (.was p0 [1, 2] q0 w0)), (1, (.box 58 [(.opt 1), (.row 2 (List.length (v2)))])), (2, (.frow 5 1 (List.map eU8 (v2))))], [0, 1, 2], []⟩ (le_a (by kernel_rfl)) rfl rfl (by kernel_rfl) (by kernel_rfl)

def strconv_FormatInt_h (a0 : Int) (a1 : Int) : Option ((ByteArray)) := (Option.bind (itoaB a0 a1) fun v1 => (some (v1)))
theorem strconv_FormatInt_h_ok (a0 : Int) (a1 : Int) (r : (ByteArray)) (h : strconv_FormatInt_h a0 a1 = some r) : HCall Tryd.prog 81 ([(fI (a0)), (fI (a1))] ++ []) [(1, (.glb GV))] [1] (.ret (fS (r))) [(1, (.glb GV))] [1] := by
 unfold strconv_FormatInt_h at h
 refine hcx (gi := 0) Tryd.func81 (by kernel_rfl) (by kernel_rfl) (by kernel_rfl) (by kernel_rfl) (by kernel_rfl) (by kernel_rfl) (by kernel_rfl) (by kernel_rfl) ?_
 intro p0 q0 w0
 obtain ⟨v1, hv1, h⟩ := Option.bind_eq_some_iff.1 h
 refine nst 8 (n_itoa (f := 86) (ts := #[2, 3]) (X := (.tmp 5)) (Y := (.tmp 6)) (n := a0) (b := a1) (v := v1) (g := 2) (m := 2) (gs := GV) (vs := gv2) (id := 1) hv1 itoa_gv ⟨_, Tryd.func86, by kernel_rfl, by kernel_rfl⟩ (by kernel_rfl) (by kernel_rfl) (by kernel_rfl) (by kernel_rfl) (by kernel_rfl) (by kernel_rfl)) (by kernel_rfl) ?_
 obtain rfl := Option.some.inj h; exact lh 3 ⟨8, [(4, (fS (v1)))], [(0, (.was p0 [1] q0 w0)), (1, (.glb GV))], [0, 1], []⟩ (le_a (by kernel_rfl)) rfl rfl (by kernel_rfl) (by kernel_rfl)

def literal_hexadecimal_h (a0 : List Int) (a1 : Int) : Option ((List Int)) := (Option.bind (byt (⟨#[48, 49, 50, 51, 52, 53, 54, 55, 56, 57, 97, 98, 99, 100, 101, 102]⟩ : ByteArray) (Int.fdiv a1 (2 ^ (4 : Nat)))) fun v1 => (Option.bind (strings_Builder_WriteByte_h (a0) (v1)) fun v2 => (Option.bind (byt (⟨#[48, 49, 50, 51, 52, 53, 54, 55, 56, 57, 97, 98, 99, 100, 101, 102]⟩ : ByteArray) (iand .u8 a1 15)) fun v3 => (Option.bind (strings_Builder_WriteByte_h (v2) (v3)) fun v4 => (some (v4))))))
theorem literal_hexadecimal_h_ok (a0 : List Int) (a1 : Int) (r : (List Int)) (h : literal_hexadecimal_h a0 a1 = some r) : HCall Tryd.prog 46 ([(.ref 1 0 0), (.fz (eU8 (a1)))] ++ []) [(1, (.box 58 [(.opt 1), (.row 2 (List.length (a0)))])), (2, (.frow 5 1 (List.map eU8 (a0))))] [1, 2] (.ret (.fz (.tup []))) [(1, (.box 58 [(.opt 1), (.row 2 (List.length (r)))])), (2, (.frow 5 1 (List.map eU8 (r))))] [1, 2] := by
 unfold literal_hexadecimal_h at h
 refine hcx (gi := 0) Tryd.func46 (by kernel_rfl) (by kernel_rfl) (by kernel_rfl) (by kernel_rfl) (by kernel_rfl) (by kernel_rfl) (by kernel_rfl) (by kernel_rfl) ?_
 intro p0 q0 w0
 refine byx 5 h (by kernel_rfl) fun v1 h => ?_
 refine hcl 0 [.one .keep, .one .keep] [(1, 1), (2, 2)] [(1, 1), (2, 2)] [1, 2] h (strings_Builder_WriteByte_h_ok _ _) (fun _ => by kernel_rfl) fun v2 h => ?_
 refine byx 5 h (by kernel_rfl) fun v3 h => ?_
 refine hcl 0 [.one .keep, .one .keep] [(1, 1), (2, 2)] [(1, 1), (2, 2)] [1, 2] h (strings_Builder_WriteByte_h_ok _ _) (fun _ => by kernel_rfl) fun v4 h => ?_
 obtain rfl := Option.some.inj h; exact lh 1 ⟨14, [], [(0, (.was p0 [1, 2] q0 w0)), (1, (.box 58 [(.opt 1), (.row 2 (List.length (v4)))])), (2, (.frow 5 1 (List.map eU8 (v4))))], [0, 1, 2], []⟩ (le_a (by kernel_rfl)) rfl rfl (by kernel_rfl) (by kernel_rfl)

def unicode_utf8_decodeRuneInStringSlow_h (a0 : ByteArray) : Option ((Int) × (Int)) := (bif (decide ((a0.size : Int) < 1)) then (some (65533, 0)) else (Option.bind (byt a0 0) fun v1 => (Option.bind (idx gt0 v1) fun v2 => (bif (decide (240 ≤ v2)) then (Option.bind (byt a0 0) fun v3 => (some ((ior .i32 (iandnot .i32 (IntKind.i32.wrap v3) (Int.fdiv (IntKind.i32.wrap ((IntKind.i32.wrap v2) * 2 ^ (31 : Nat))) (2 ^ (31 : Nat)))) (iand .i32 65533 (Int.fdiv (IntKind.i32.wrap ((IntKind.i32.wrap v2) * 2 ^ (31 : Nat))) (2 ^ (31 : Nat))))), 1))) else (Option.bind (idx gt1 (Int.fdiv v2 (2 ^ (4 : Nat)))) fun v4 => (bif (decide ((a0.size : Int) < (w64 (iand .u8 v2 7)))) then (some (65533, 1)) else (Option.bind (byt a0 1) fun v5 => (Option.bind ((bif (decide (v5 < v4.f_lo)) then (some (true)) else (some ((decide (v4.f_hi < v5))))) : Option ((Bool))) fun (v7 : (Bool)) => (bif v7 then (some (65533, 1)) else (bif (decide ((w64 (iand .u8 v2 7)) ≤ 2)) then (some ((ior .i32 (IntKind.i32.wrap ((IntKind.i32.wrap (iand .u8 v1 31)) * 2 ^ (6 : Nat))) (IntKind.i32.wrap (iand .u8 v5 63))), 2)) else (Option.bind (byt a0 2) fun v8 => (Option.bind ((bif (decide (v8 < 128)) then (some (true)) else (some ((decide (191 < v8))))) : Option ((Bool))) fun (v10 : (Bool)) => (bif v10 then (some (65533, 1)) else (bif (decide ((w64 (iand .u8 v2 7)) ≤ 3)) then (some ((ior .i32 (ior .i32 (IntKind.i32.wrap ((IntKind.i32.wrap (iand .u8 v1 15)) * 2 ^ (12 : Nat))) (IntKind.i32.wrap ((IntKind.i32.wrap (iand .u8 v5 63)) * 2 ^ (6 : Nat)))) (IntKind.i32.wrap (iand .u8 v8 63))), 3)) else (Option.bind (byt a0 3) fun v11 => (Option.bind ((bif (decide (v11 < 128)) then (some (true)) else (some ((decide (191 < v11))))) : Option ((Bool))) fun (v13 : (Bool)) => (bif v13 then (some (65533, 1)) else (some ((ior .i32 (ior .i32 (ior .i32 (IntKind.i32.wrap ((IntKind.i32.wrap (iand .u8 v1 7)) * 2 ^ (18 : Nat))) (IntKind.i32.wrap ((IntKind.i32.wrap (iand .u8 v5 63)) * 2 ^ (12 : Nat)))) (IntKind.i32.wrap ((IntKind.i32.wrap (iand .u8 v8 63)) * 2 ^ (6 : Nat)))) (IntKind.i32.wrap (iand .u8 v11 63))), 4)))))))))))))))))))
theorem unicode_utf8_decodeRuneInStringSlow_h_ok (a0 : ByteArray) (r : (Int) × (Int)) (h : unicode_utf8_decodeRuneInStringSlow_h a0 = some r) : HCall Tryd.prog 75 ([(fS (a0))] ++ []) [(1, (.glb GV))] [1] (.ret (.fz (.tup [(eI32 (r.1)), (eI (r.2))]))) [(1, (.glb GV))] [1] := by
 unfold unicode_utf8_decodeRuneInStringSlow_h at h
 refine hcx (gi := 0) Tryd.func75 (by kernel_rfl) (by kernel_rfl) (by kernel_rfl) (by kernel_rfl) (by kernel_rfl) (by kernel_rfl) (by kernel_rfl) (by kernel_rfl) ?_
 intro p0 q0 w0
 refine cd 17 h (by kernel_rfl) (fun h => ?_) fun h => ?_
 ·obtain rfl := Option.some.inj h; exact lh 6 ⟨117, [(2, (.fz (eI32 (65533)))), (3, (fI (0)))], [(0, (.was p0 [1] q0 w0)), (1, (.glb GV))], [0, 1], []⟩ (le_a (by kernel_rfl)) rfl rfl (by kernel_rfl) (by kernel_rfl)
 refine byx 4 h (by kernel_rfl) fun v1 h => ?_
 obtain ⟨v2, hv2, h⟩ := Option.bind_eq_some_iff.1 h
 refine nst 5 (n_gidx nU8 (xs := gt0) (v := v2) (g := 0) (m := 0) (n := 256) (gs := GV) (vs := gv0) (Y := (.tmp 19)) (k := .u8) (i := v1) (t := 108) (e := 5) (de := tt5) (id := 1) hv2 (by kernel_rfl) tt_ok Tryd.underlying108 (by kernel_rfl) (by kernel_rfl) (by kernel_rfl) (by decide) (by kernel_rfl) (by kernel_rfl) (by kernel_rfl) gt0_v gt0_1 (by kernel_rfl)) (by kernel_rfl) ?_
 refine cd 9 h (by kernel_rfl) (fun h => ?_) fun h => ?_
 ·refine byx 11 h (by kernel_rfl) fun v3 h => ?_
  obtain rfl := Option.some.inj h; exact lh 10 ⟨117, [(2, (.fz (eI32 ((ior .i32 (iandnot .i32 (IntKind.i32.wrap v3) (Int.fdiv (IntKind.i32.wrap ((IntKind.i32.wrap v2) * 2 ^ (31 : Nat))) (2 ^ (31 : Nat)))) (iand .i32 65533 (Int.fdiv (IntKind.i32.wrap ((IntKind.i32.wrap v2) * 2 ^ (31 : Nat))) (2 ^ (31 : Nat))))))))), (3, (fI (1)))], [(0, (.was p0 [1] q0 w0)), (1, (.glb GV))], [0, 1], []⟩ (le_a (by kernel_rfl)) rfl rfl (by kernel_rfl) (by kernel_rfl)
 obtain ⟨v4, hv4, h⟩ := Option.bind_eq_some_iff.1 h
 refine nst 12 (n_gidx nS_utf8_acceptRange (xs := gt1) (v := v4) (g := 1) (m := 1) (n := 16) (gs := GV) (vs := gv1) (Y := (.tmp 40)) (k := .u8) (i := (Int.fdiv v2 (2 ^ (4 : Nat)))) (t := 111) (e := 110) (de := tt110) (id := 1) hv4 (by kernel_rfl) tt_ok Tryd.underlying111 (by kernel_rfl) (by kernel_rfl) (by kernel_rfl) (by decide) (by kernel_rfl) (by kernel_rfl) (by kernel_rfl) gt1_v gt1_1 (by kernel_rfl)) (by kernel_rfl) ?_
 refine cd 11 h (by kernel_rfl) (fun h => ?_) fun h => ?_
 ·obtain rfl := Option.some.inj h; exact lh 6 ⟨117, [(2, (.fz (eI32 (65533)))), (3, (fI (1)))], [(0, (.was p0 [1] q0 w0)), (1, (.glb GV))], [0, 1], []⟩ (le_a (by kernel_rfl)) rfl rfl (by kernel_rfl) (by kernel_rfl)
 refine byx 4 h (by kernel_rfl) fun v5 h => ?_
 refine jn1 4 .normal (fun v7 => ⟨117, [(0, (fS (a0))), (5, (.fz (eU8 (v1)))), (8, (fI ((w64 (iand .u8 v2 7))))), (10, (.fz (eU8 (v5)))), (57, (fB (v7)))], [(0, (.was p0 [1] q0 w0)), (1, (.glb GV))], [0, 1], []⟩) h (by kernel_rfl) (fun v7 h => ?_) fun v7 h => ?_
 ·refine gd 6 h (by kernel_rfl) (fun h => ?_) fun h => ?_
  ·cases h; exact lj 6 (by kernel_rfl)
  cases h; exact lj 6 (by kernel_rfl)
 refine cd 0 h (by kernel_rfl) (fun h => ?_) fun h => ?_
 ·obtain rfl := Option.some.inj h; exact lh 6 ⟨117, [(2, (.fz (eI32 (65533)))), (3, (fI (1)))], [(0, (.was p0 [1] q0 w0)), (1, (.glb GV))], [0, 1], []⟩ (le_a (by kernel_rfl)) rfl rfl (by kernel_rfl) (by kernel_rfl)
 refine cd 7 h (by kernel_rfl) (fun h => ?_) fun h => ?_
 ·obtain rfl := Option.some.inj h; exact lh 14 ⟨117, [(2, (.fz (eI32 ((ior .i32 (IntKind.i32.wrap ((IntKind.i32.wrap (iand .u8 v1 31)) * 2 ^ (6 : Nat))) (IntKind.i32.wrap (iand .u8 v5 63))))))), (3, (fI (2)))], [(0, (.was p0 [1] q0 w0)), (1, (.glb GV))], [0, 1], []⟩ (le_a (by kernel_rfl)) rfl rfl (by kernel_rfl) (by kernel_rfl)
 refine byx 4 h (by kernel_rfl) fun v8 h => ?_
 refine jn1 4 .normal (fun v10 => ⟨117, [(0, (fS (a0))), (5, (.fz (eU8 (v1)))), (8, (fI ((w64 (iand .u8 v2 7))))), (10, (.fz (eU8 (v5)))), (11, (.fz (eU8 (v8)))), (75, (fB (v10)))], [(0, (.was p0 [1] q0 w0)), (1, (.glb GV))], [0, 1], []⟩) h (by kernel_rfl) (fun v10 h => ?_) fun v10 h => ?_
 ·refine gd 4 h (by kernel_rfl) (fun h => ?_) fun h => ?_
  ·cases h; exact lj 4 (by kernel_rfl)
  cases h; exact lj 4 (by kernel_rfl)
 refine cd 0 h (by kernel_rfl) (fun h => ?_) fun h => ?_
 ·obtain rfl := Option.some.inj h; exact lh 6 ⟨117, [(2, (.fz (eI32 (65533)))), (3, (fI (1)))], [(0, (.was p0 [1] q0 w0)), (1, (.glb GV))], [0, 1], []⟩ (le_a (by kernel_rfl)) rfl rfl (by kernel_rfl) (by kernel_rfl)
 refine cd 7 h (by kernel_rfl) (fun h => ?_) fun h => ?_
 ·obtain rfl := Option.some.inj h; exact lh 19 ⟨117, [(2, (.fz (eI32 ((ior .i32 (ior .i32 (IntKind.i32.wrap ((IntKind.i32.wrap (iand .u8 v1 15)) * 2 ^ (12 : Nat))) (IntKind.i32.wrap ((IntKind.i32.wrap (iand .u8 v5 63)) * 2 ^ (6 : Nat)))) (IntKind.i32.wrap (iand .u8 v8 63))))))), (3, (fI (3)))], [(0, (.was p0 [1] q0 w0)), (1, (.glb GV))], [0, 1], []⟩ (le_a (by kernel_rfl)) rfl rfl (by kernel_rfl) (by kernel_rfl)
 refine byx 4 h (by kernel_rfl) fun v11 h => ?_
 refine jn1 4 .normal (fun v13 => ⟨117, [(5, (.fz (eU8 (v1)))), (10, (.fz (eU8 (v5)))), (11, (.fz (eU8 (v8)))), (12, (.fz (eU8 (v11)))), (98, (fB (v13)))], [(0, (.was p0 [1] q0 w0)), (1, (.glb GV))], [0, 1], []⟩) h (by kernel_rfl) (fun v13 h => ?_) fun v13 h => ?_
 ·refine gd 4 h (by kernel_rfl) (fun h => ?_) fun h => ?_
  ·cases h; exact lj 4 (by kernel_rfl)
  cases h; exact lj 4 (by kernel_rfl)
 refine cd 0 h (by kernel_rfl) (fun h => ?_) fun h => ?_
 ·obtain rfl := Option.some.inj h; exact lh 6 ⟨117, [(2, (.fz (eI32 (65533)))), (3, (fI (1)))], [(0, (.was p0 [1] q0 w0)), (1, (.glb GV))], [0, 1], []⟩ (le_a (by kernel_rfl)) rfl rfl (by kernel_rfl) (by kernel_rfl)
 obtain rfl := Option.some.inj h; exact lh 25 ⟨117, [(2, (.fz (eI32 ((ior .i32 (ior .i32 (ior .i32 (IntKind.i32.wrap ((IntKind.i32.wrap (iand .u8 v1 7)) * 2 ^ (18 : Nat))) (IntKind.i32.wrap ((IntKind.i32.wrap (iand .u8 v5 63)) * 2 ^ (12 : Nat)))) (IntKind.i32.wrap ((IntKind.i32.wrap (iand .u8 v8 63)) * 2 ^ (6 : Nat)))) (IntKind.i32.wrap (iand .u8 v11 63))))))), (3, (fI (4)))], [(0, (.was p0 [1] q0 w0)), (1, (.glb GV))], [0, 1], []⟩ (le_a (by kernel_rfl)) rfl rfl (by kernel_rfl) (by kernel_rfl)

def unicode_utf8_DecodeRuneInString_h (a0 : ByteArray) : Option ((Int) × (Int)) := (Option.bind ((bif (!(a0.toList == (⟨#[]⟩ : ByteArray).toList)) then (Option.bind (byt a0 0) fun v1 => (some ((decide (v1 < 128))))) else (some (false))) : Option ((Bool))) fun (v3 : (Bool)) => (bif v3 then (Option.bind (byt a0 0) fun v4 => (some ((IntKind.i32.wrap v4), 1))) else (Option.bind (unicode_utf8_decodeRuneInStringSlow_h (a0)) fun v5 => (some (v5.1, v5.2)))))
theorem unicode_utf8_DecodeRuneInString_h_ok (a0 : ByteArray) (r : (Int) × (Int)) (h : unicode_utf8_DecodeRuneInString_h a0 = some r) : HCall Tryd.prog 44 ([(fS (a0))] ++ []) [(1, (.glb GV))] [1] (.ret (.fz (.tup [(eI32 (r.1)), (eI (r.2))]))) [(1, (.glb GV))] [1] := by
 unfold unicode_utf8_DecodeRuneInString_h at h
 refine hcx (gi := 0) Tryd.func44 (by kernel_rfl) (by kernel_rfl) (by kernel_rfl) (by kernel_rfl) (by kernel_rfl) (by kernel_rfl) (by kernel_rfl) (by kernel_rfl) ?_
 intro p0 q0 w0
 refine jn1 7 .normal (fun v3 => ⟨19, [(0, (fS (a0))), (10, (fB (v3)))], [(0, (.was p0 [1] q0 w0)), (1, (.glb GV))], [0, 1], []⟩) h (by kernel_rfl) (fun v3 h => ?_) fun v3 h => ?_
 ·refine gd 4 h (by kernel_rfl) (fun h => ?_) fun h => ?_
  ·refine byx 1 h (by kernel_rfl) fun v1 h => ?_
   cases h; exact lj 3 (by kernel_rfl)
  cases h; exact lj 5 (by kernel_rfl)
 refine cd 0 h (by kernel_rfl) (fun h => ?_) fun h => ?_
 ·refine byx 3 h (by kernel_rfl) fun v4 h => ?_
  obtain rfl := Option.some.inj h; exact lh 5 ⟨19, [(2, (.fz (eI32 ((IntKind.i32.wrap v4))))), (3, (fI (1)))], [(0, (.was p0 [1] q0 w0)), (1, (.glb GV))], [0, 1], []⟩ (le_a (by kernel_rfl)) rfl rfl (by kernel_rfl) (by kernel_rfl)
 refine hcl 2 [.one .keep] [(1, 1)] [(1, 1)] [1] h (unicode_utf8_decodeRuneInStringSlow_h_ok _) (fun _ => by kernel_rfl) fun v5 h => ?_
 obtain rfl := Option.some.inj h; exact lh 7 ⟨19, [(2, (.fz (eI32 (v5.1)))), (3, (fI (v5.2)))], [(0, (.was p0 [1] q0 w0)), (1, (.glb GV))], [0, 1], []⟩ (le_a (by kernel_rfl)) rfl rfl (by kernel_rfl) (by kernel_rfl)

def literal_Quote_h_l1 (v13 : List Int) (v14 : (Int) × (List Int)) : Option (((Int) × (List Int)) ⊕ ((List Int))) := (bif (decide (v14.1 < (List.length v13 : Int))) then (Option.bind (idx v13 v14.1) fun v15 => (Option.bind (strings_Builder_WriteString_h (v14.2) ((⟨#[92, 120]⟩ : ByteArray))) fun v16 => (Option.bind (literal_hexadecimal_h (v16) (v15)) fun v17 => (some (.inl ((w64 (v14.1 + 1)), v17)))))) else (some (.inr (v14.2))))
def literal_Quote_h_l2 (a0 : ByteArray) (v2 : (List Int) × (Nat)) : Option (((List Int) × (Nat)) ⊕ ((List Int))) := (bif decide (v2.2 < ByteArray.size a0) then (Option.bind ((Option.bind ((bif ((((Utf8.decode a0 v2.2).1 : Nat) : Int) == 34) then (some (true)) else (some (((((Utf8.decode a0 v2.2).1 : Nat) : Int) == 92)))) : Option ((Bool))) fun (v5 : (Bool)) => (bif v5 then (Option.bind (strings_Builder_WriteByte_h (v2.1) (92)) fun v6 => (Option.bind (strings_Builder_WriteByte_h (v6) ((wu8 (((Utf8.decode a0 v2.2).1 : Nat) : Int)))) fun v7 => (some (v7)))) else (Option.bind (literal_plain ((((Utf8.decode a0 v2.2).1 : Nat) : Int))) fun v8 => (bif v8 then (Option.bind (strings_Builder_WriteByte_h (v2.1) ((wu8 (((Utf8.decode a0 v2.2).1 : Nat) : Int)))) fun v9 => (some (v9))) else (Option.bind (cutS a0 ((v2.2 : Nat) : Int) a0.size) fun v10 => (Option.bind (unicode_utf8_DecodeRuneInString_h (v10)) fun v11 => (Option.bind (cutS a0 ((v2.2 : Nat) : Int) (w64 (((v2.2 : Nat) : Int) + v11.2))) fun v12 => (Option.bind (s2b v12) fun v13 => (Option.bind (loopN (literal_Quote_h_l1 v13) fuel (0, v2.1)) fun (v19 : (List Int)) => (some (v19))))))))))) : Option ((List Int))) fun (v21 : (List Int)) => (some (.inl (v21, (v2.2 + (Utf8.decode a0 v2.2).2))))) else (some (.inr (v2.1))))
def literal_Quote_h (a0 : ByteArray) : Option ((ByteArray)) := (Option.bind (strings_Builder_WriteByte_h (([] : List (Int))) (34)) fun v1 => (Option.bind (loopN (literal_Quote_h_l2 a0) fuel (v1, 0)) fun (v23 : (List Int)) => (Option.bind (strings_Builder_WriteByte_h (v23) (34)) fun v24 => (Option.bind (strings_Builder_String_h (v24)) fun v25 => (some ((toBA (v24))))))))
theorem literal_Quote_h_ok (a0 : ByteArray) (r : (ByteArray)) (h : literal_Quote_h a0 = some r) : HCall Tryd.prog 25 ([(fS (a0))] ++ []) [(1, (.glb GV))] [1] (.ret (fS (r))) [(1, (.glb GV))] [1] := by
 unfold literal_Quote_h at h
 refine hcx (gi := 0) Tryd.func25 (by kernel_rfl) (by kernel_rfl) (by kernel_rfl) (by kernel_rfl) (by kernel_rfl) (by kernel_rfl) (by kernel_rfl) (by kernel_rfl) ?_
 intro p0 q0 w0
 refine wle 7 (le_nilcell (e := 5) (size := 1) (id2 := 2) (j := 1) (id := 3) (e2 := 58) (cells := [(.fz (.atom (.pointer none))), (.fz (.atom (.slice none 0 0)))]) (by kernel_rfl) (by kernel_rfl) (by kernel_rfl) (by kernel_rfl)) (by kernel_rfl) ?_
 refine wle 0 (le_optcell (id := 2) (e2 := 58) (cells := [(.fz (.atom (.pointer none))), (.row 3 (List.length (([] : List (Int)))))]) (cells' := [.opt 2, (.row 3 (List.length (([] : List (Int)))))]) (by kernel_rfl) (by kernel_rfl)) (by kernel_rfl) ?_
 refine hcl 3 [.one .keep, .one .keep] [(2, 1), (3, 2)] [(1, 2), (2, 3)] [1, 2] h (strings_Builder_WriteByte_h_ok _ _) (fun _ => by kernel_rfl) fun v1 h => ?_
 refine sst 5 (e_range (t := 9) (X := (.tmp 11)) (s := a0) (d := tt9) (id := 4) tt_ok (by kernel_rfl) (by kernel_rfl) (by kernel_rfl) (by kernel_rfl) (by kernel_rfl)) (by kernel_rfl) ?_
 refine lp1 2 (fun v2 => ⟨59, [(0, (fS (a0))), (3, (.ref 2 0 0)), (12, (.ref 4 0 0))], [(0, (.was p0 [1] q0 w0)), (1, (.glb GV)), (2, (.box 58 [(.opt 2), (.row 3 (List.length (v2.1)))])), (3, (.frow 5 1 (List.map eU8 (v2.1)))), (4, (.sit (a0) (v2.2)))], [4, 3, 2, 0, 1], []⟩) (.exit 0) (fun v23 => ⟨59, [(3, (.ref 2 0 0))], [(0, (.was p0 [1] q0 w0)), (1, (.glb GV)), (2, (.box 58 [(.opt 2), (.row 3 (List.length (v23)))])), (3, (.frow 5 1 (List.map eU8 (v23))))], [3, 2, 0, 1], []⟩) h (by kernel_rfl) (by kernel_rfl) (fun v2 r h => ?_) fun v23 h => ?_
 ·unfold literal_Quote_h_l2 at h
  refine wle 2 (LeSt.refl) (by kernel_rfl) ?_
  rcases bif_two h with ⟨hN3, h⟩ | ⟨hN3, h⟩
  ·refine sst 0 (e_next (X := (.tmp 12)) (s := a0) (pos := v2.2) (id := 4) hN3 (by kernel_rfl) (by kernel_rfl) (by kernel_rfl)) (by kernel_rfl) ?_
   refine jn1 14 .normal (fun v21 => ⟨59, [(0, (fS (a0))), (3, (.ref 2 0 0)), (12, (.ref 4 0 0))], [(0, (.was p0 [1] q0 w0)), (1, (.glb GV)), (2, (.box 58 [(.opt 2), (.row 3 (List.length (v21)))])), (3, (.frow 5 1 (List.map eU8 (v21)))), (4, (.sit (a0) ((v2.2 + (Utf8.decode a0 v2.2).2))))], [4, 3, 2, 0, 1], []⟩) h (by kernel_rfl) (fun v21 h => ?_) fun v21 h => ?_
   ·refine jn1 1 .normal (fun v5 => ⟨59, [(0, (fS (a0))), (3, (.ref 2 0 0)), (4, (fI (((v2.2 : Nat) : Int)))), (5, (.fz (eI32 ((((Utf8.decode a0 v2.2).1 : Nat) : Int))))), (12, (.ref 4 0 0)), (40, (fB (v5)))], [(0, (.was p0 [1] q0 w0)), (1, (.glb GV)), (2, (.box 58 [(.opt 2), (.row 3 (List.length (v2.1)))])), (3, (.frow 5 1 (List.map eU8 (v2.1)))), (4, (.sit (a0) ((v2.2 + (Utf8.decode a0 v2.2).2))))], [4, 3, 2, 0, 1], []⟩) h (by kernel_rfl) (fun v5 h => ?_) fun v5 h => ?_
    ·refine gd 4 h (by kernel_rfl) (fun h => ?_) fun h => ?_
     ·cases h; exact lj 5 (by kernel_rfl)
     cases h; exact lj 5 (by kernel_rfl)
    refine cd 0 h (by kernel_rfl) (fun h => ?_) fun h => ?_
    ·refine hcl 2 [.one .keep, .one .keep] [(2, 1), (3, 2)] [(1, 2), (2, 3)] [1, 2] h (strings_Builder_WriteByte_h_ok _ _) (fun _ => by kernel_rfl) fun v6 h => ?_
     refine hcl 4 [.one .keep, .one .keep] [(2, 1), (3, 2)] [(1, 2), (2, 3)] [1, 2] h (strings_Builder_WriteByte_h_ok _ _) (fun _ => by kernel_rfl) fun v7 h => ?_
     cases h; exact lj 1 (by kernel_rfl)
    refine cl 3 h (literal_plain_ok _) (by kernel_rfl) fun v8 h => ?_
    refine cd 2 h (by kernel_rfl) (fun h => ?_) fun h => ?_
    ·refine hcl 3 [.one .keep, .one .keep] [(2, 1), (3, 2)] [(1, 2), (2, 3)] [1, 2] h (strings_Builder_WriteByte_h_ok _ _) (fun _ => by kernel_rfl) fun v9 h => ?_
     cases h; exact lj 1 (by kernel_rfl)
    obtain ⟨v10, hv10, h⟩ := Option.bind_eq_some_iff.1 h
    refine nst 4 (s_cutS (t := 9) (x := (.tmp 18)) (lo := (some (.tmp 19))) (hi := none) (d := tt9) (s := a0) (l := (some ((v2.2 : Nat) : Int))) (h := none) hv10 tt_ok (by kernel_rfl) (by kernel_rfl) (by kernel_rfl) (by kernel_rfl) (by kernel_rfl) (by kernel_rfl)) (by kernel_rfl) ?_
    refine hcl 0 [.one .keep] [(1, 1)] [(1, 1)] [1] h (unicode_utf8_DecodeRuneInString_h_ok _) (fun _ => by kernel_rfl) fun v11 h => ?_
    obtain ⟨v12, hv12, h⟩ := Option.bind_eq_some_iff.1 h
    refine nst 13 (s_cutS (t := 9) (x := (.tmp 24)) (lo := (some (.tmp 25))) (hi := (some (.tmp 28))) (d := tt9) (s := a0) (l := (some ((v2.2 : Nat) : Int))) (h := (some (w64 (((v2.2 : Nat) : Int) + v11.2)))) hv12 tt_ok (by kernel_rfl) (by kernel_rfl) (by kernel_rfl) (by kernel_rfl) (by kernel_rfl) (by kernel_rfl)) (by kernel_rfl) ?_
    obtain ⟨v13, hv13, h⟩ := Option.bind_eq_some_iff.1 h
    refine nst 0 (s_s2b (sr := 9) (t := 56) (x := (.tmp 29)) (s := v12) (e := 5) (ds := tt9) (d := tt56) (de := tt5) hv13 tt_ok (by kernel_rfl) (by kernel_rfl) (by kernel_rfl) (by kernel_rfl) (by kernel_rfl) (by kernel_rfl) (by kernel_rfl) (by kernel_rfl)) (by kernel_rfl) ?_
    refine lp1 4 (fun v14 => ⟨59, [(0, (fS (a0))), (3, (.ref 2 0 0)), (12, (.ref 4 0 0)), (30, (.fz ((eL 1 eU8) (v13)))), (31, (fI ((List.length v13 : Int)))), (32, (fI (v14.1)))], [(0, (.was p0 [1] q0 w0)), (1, (.glb GV)), (2, (.box 58 [(.opt 2), (.row 3 (List.length (v14.2)))])), (3, (.frow 5 1 (List.map eU8 (v14.2)))), (4, (.sit (a0) ((v2.2 + (Utf8.decode a0 v2.2).2))))], [4, 3, 2, 0, 1], []⟩) (.exit 3) (fun v19 => ⟨59, [(0, (fS (a0))), (3, (.ref 2 0 0)), (12, (.ref 4 0 0))], [(0, (.was p0 [1] q0 w0)), (1, (.glb GV)), (2, (.box 58 [(.opt 2), (.row 3 (List.length (v19)))])), (3, (.frow 5 1 (List.map eU8 (v19)))), (4, (.sit (a0) ((v2.2 + (Utf8.decode a0 v2.2).2))))], [4, 3, 2, 0, 1], []⟩) h (by kernel_rfl) (by kernel_rfl) (fun v14 r h => ?_) fun v19 h => ?_
    ·unfold literal_Quote_h_l1 at h
     refine cd 5 h (by kernel_rfl) (fun h => ?_) fun h => ?_
     ·refine ix nU8 5 h (by kernel_rfl) fun v15 h => ?_
      refine hcl 5 [.one .keep, .one .keep] [(2, 1), (3, 2)] [(1, 2), (2, 3)] [1, 2] h (strings_Builder_WriteString_h_ok _ _) (fun _ => by kernel_rfl) fun v16 h => ?_
      refine hcl 3 [.one .keep, .one .keep] [(2, 1), (3, 2)] [(1, 2), (2, 3)] [1, 2] h (literal_hexadecimal_h_ok _ _) (fun _ => by kernel_rfl) fun v17 h => ?_
      cases h; exact lj 5 (by kernel_rfl)
     cases h; exact lo 1 (by kernel_rfl)
    cases h; exact lj 0 (by kernel_rfl)
   cases h; exact lj 0 (by kernel_rfl)
  ·refine sst 0 (e_nextEnd (X := (.tmp 12)) (s := a0) (pos := v2.2) (id := 4) hN3 (by kernel_rfl) (by kernel_rfl) (by kernel_rfl)) (by kernel_rfl) ?_
   cases h; exact lo 5 (by kernel_rfl)
 refine hcl 2 [.one .keep, .one .keep] [(2, 1), (3, 2)] [(1, 2), (2, 3)] [1, 2] h (strings_Builder_WriteByte_h_ok _ _) (fun _ => by kernel_rfl) fun v24 h => ?_
 refine hcl 3 [.one .keep] [(2, 1), (3, 2)] [(1, 2), (2, 3)] [1, 2] h (strings_Builder_String_h_ok _) (fun _ => by kernel_rfl) fun v25 h => ?_
 obtain rfl := Option.some.inj h; exact lh 3 ⟨59, [(2, (fS ((toBA (v24)))))], [(0, (.was p0 [1] q0 w0)), (1, (.glb GV))], [0, 1], []⟩ (le_a (by kernel_rfl)) rfl rfl (by kernel_rfl) (by kernel_rfl)

def literal_write_h2_m0 (p0 : Env) (q0 : Nat → Prop) (w0 : World) (a0 : List Int) (a1 : Va) : List (Nat × AObj) := [(0, (.was p0 [1, 2, 3] q0 w0)), (1, (.glb GV)), (2, (.box 58 [(.opt 2), (.row 3 (List.length (a0)))])), (3, (.frow 5 1 (List.map eU8 (a0)))), (4, (.box 24 [(fI (a1.type)), (fI (a1.num)), (fS (a1.text)), (.fz ((eL 4 eVaR) (a1.items)))]))]
def literal_write_h2 (r22 : (List Int) → (List Va) → Option ((List Int))) (a0 : List Int) (a1 : Va) : Option ((List Int)) := (Option.bind ((Option.bind ((Option.bind ((bif (a1.type == 1) then (Option.bind (strconv_FormatBool ((a1.num == 1))) fun v1 => (Option.bind (strings_Builder_WriteString_h (a0) (v1)) fun v2 => (some (.inr (.inl (v2)))))) else (bif (a1.type == 2) then (Option.bind (strconv_FormatInt_h (a1.num) (10)) fun v3 => (Option.bind (strings_Builder_WriteString_h (a0) (v3)) fun v4 => (some (.inr (.inl (v4)))))) else (bif (a1.type == 4) then (Option.bind (strings_Builder_WriteString_h (a0) ((⟨#[48, 120]⟩ : ByteArray))) fun v5 => (Option.bind (literal_hexadecimal_h (v5) ((wu8 a1.num))) fun v6 => (some (.inr (.inl (v6)))))) else (bif (a1.type == 8) then (Option.bind (strings_Builder_WriteByte_h (a0) (114)) fun v7 => (some (.inl (v7)))) else (bif (a1.type == 3) then (some (.inr (.inr (.inl ())))) else (some (.inr (.inr (.inr ()))))))))) : Option ((((List Int)) ⊕ ((((List Int)) ⊕ (((Unit) ⊕ (Unit)))))))) fun (v8 : (((List Int)) ⊕ ((((List Int)) ⊕ (((Unit) ⊕ (Unit))))))) => Sum.elim (fun v9 => (some (.inl (v9)))) (Sum.elim (fun v10 => (some (.inr (.inl (v10))))) (Sum.elim (fun v11 => (some (.inl (a0)))) (fun v12 => (some (.inr (.inr ())))))) v8) : Option ((((List Int)) ⊕ ((((List Int)) ⊕ (Unit)))))) fun (v13 : (((List Int)) ⊕ ((((List Int)) ⊕ (Unit))))) => Sum.elim (fun v14 => (Option.bind (literal_Quote_h (a1.text)) fun v15 => (Option.bind (strings_Builder_WriteString_h (v14) (v15)) fun v16 => (some (v16))))) (Sum.elim (fun v17 => (some (v17))) (fun v18 => (Option.bind (literal_brackets (a1.type)) fun v19 => (Option.bind (strings_Builder_WriteString_h (a0) (v19.1)) fun v20 => (Option.bind (r22 (v20) (a1.items)) fun v21 => (Option.bind (strings_Builder_WriteString_h (v21) (v19.2)) fun v22 => (some (v22)))))))) v13) : Option ((List Int))) fun (v24 : (List Int)) => (some (v24)))
theorem literal_write_h2_ok (r22 : (List Int) → (List Va) → Option ((List Int))) (ih22 : ∀ (x0 : List Int) (x1 : List Va) r, r22 x0 x1 = some r → HCall Tryd.prog 34 ([(.ref 2 0 0), (.fz ((eL 4 eVaR) (x1)))] ++ []) [(1, (.glb GV)), (2, (.box 58 [(.opt 2), (.row 3 (List.length (x0)))])), (3, (.frow 5 1 (List.map eU8 (x0))))] [1, 2, 3] (.ret (.fz (.tup []))) [(1, (.glb GV)), (2, (.box 58 [(.opt 2), (.row 3 (List.length (r)))])), (3, (.frow 5 1 (List.map eU8 (r))))] [1, 2, 3]) (a0 : List Int) (a1 : Va) (r : (List Int)) (h : literal_write_h2 r22 a0 a1 = some r) : HCall Tryd.prog 72 ([(.ref 2 0 0), (.fz (eVa (a1)))] ++ []) [(1, (.glb GV)), (2, (.box 58 [(.opt 2), (.row 3 (List.length (a0)))])), (3, (.frow 5 1 (List.map eU8 (a0))))] [1, 2, 3] (.ret (.fz (.tup []))) [(1, (.glb GV)), (2, (.box 58 [(.opt 2), (.row 3 (List.length (r)))])), (3, (.frow 5 1 (List.map eU8 (r))))] [1, 2, 3] := by
 unfold literal_write_h2 at h
 refine hcx (gi := 0) Tryd.func72 (by kernel_rfl) (by kernel_rfl) (by kernel_rfl) (by kernel_rfl) (by kernel_rfl) (by kernel_rfl) (by kernel_rfl) (by kernel_rfl) ?_
 intro p0 q0 w0
 refine jn1 10 (.exit 0) (fun v24 => ⟨59, [], [(0, (.was p0 [1, 2, 3] q0 w0)), (1, (.glb GV)), (2, (.box 58 [(.opt 2), (.row 3 (List.length (v24)))])), (3, (.frow 5 1 (List.map eU8 (v24))))], [0, 1, 2, 3], []⟩) h (by kernel_rfl) (fun v24 h => ?_) fun v24 h => ?_
 ·refine jnQ 3 (fun v13 e st => Sum.elim (fun p => e = .normal ∧ LeSt st ⟨59, [(0, (.ref 2 0 0)), (3, (.ref 4 0 0))], [(0, (.was p0 [1, 2, 3] q0 w0)), (1, (.glb GV)), (2, (.box 58 [(.opt 2), (.row 3 (List.length (p)))])), (3, (.frow 5 1 (List.map eU8 (p)))), (4, (.box 24 [(fI (a1.type)), (fI (a1.num)), (fS (a1.text)), (.fz ((eL 4 eVaR) (a1.items)))]))], [4, 0, 1, 2, 3], []⟩) (Sum.elim (fun p => e = .exit 0 ∧ LeSt st ⟨59, [], [(0, (.was p0 [1, 2, 3] q0 w0)), (1, (.glb GV)), (2, (.box 58 [(.opt 2), (.row 3 (List.length (p)))])), (3, (.frow 5 1 (List.map eU8 (p))))], [0, 1, 2, 3], []⟩) (fun p => e = .exit 6 ∧ LeSt st ⟨59, [(0, (.ref 2 0 0)), (3, (.ref 4 0 0))], (literal_write_h2_m0 p0 q0 w0 a0 a1), [4, 0, 1, 2, 3], []⟩)) v13) h (by kernel_rfl) (fun v13 h => ?_) fun v13 h e st' hq => ?_
  ·refine jnQ 1 (fun v8 e st => Sum.elim (fun p => e = .normal ∧ LeSt st ⟨59, [(0, (.ref 2 0 0)), (3, (.ref 4 0 0))], [(0, (.was p0 [1, 2, 3] q0 w0)), (1, (.glb GV)), (2, (.box 58 [(.opt 2), (.row 3 (List.length (p)))])), (3, (.frow 5 1 (List.map eU8 (p)))), (4, (.box 24 [(fI (a1.type)), (fI (a1.num)), (fS (a1.text)), (.fz ((eL 4 eVaR) (a1.items)))]))], [4, 0, 1, 2, 3], []⟩) (Sum.elim (fun p => e = .exit 0 ∧ LeSt st ⟨59, [], [(0, (.was p0 [1, 2, 3] q0 w0)), (1, (.glb GV)), (2, (.box 58 [(.opt 2), (.row 3 (List.length (p)))])), (3, (.frow 5 1 (List.map eU8 (p))))], [0, 1, 2, 3], []⟩) (Sum.elim (fun p => e = .exit 5 ∧ LeSt st ⟨59, [(0, (.ref 2 0 0)), (3, (.ref 4 0 0))], (literal_write_h2_m0 p0 q0 w0 a0 a1), [4, 0, 1, 2, 3], []⟩) (fun p => e = .exit 6 ∧ LeSt st ⟨59, [(0, (.ref 2 0 0)), (3, (.ref 4 0 0))], (literal_write_h2_m0 p0 q0 w0 a0 a1), [4, 0, 1, 2, 3], []⟩))) v8) h (by kernel_rfl) (fun v8 h => ?_) fun v8 h e st' hq => ?_
   ·refine cd 15 h (by kernel_rfl) (fun h => ?_) fun h => ?_
    ·refine cl 7 h (strconv_FormatBool_ok _) (by kernel_rfl) fun v1 h => ?_
     refine hcl 0 [.one .keep, .one .keep] [(2, 1), (3, 2)] [(1, 2), (2, 3)] [1, 2] h (strings_Builder_WriteString_h_ok _ _) (fun _ => by kernel_rfl) fun v2 h => ?_
     cases h; exact lj 2 (by kernel_rfl)
    refine cd 7 h (by kernel_rfl) (fun h => ?_) fun h => ?_
    ·refine hcl 6 [.one .keep, .one .keep] [(1, 1)] [(1, 1)] [1] h (strconv_FormatInt_h_ok _ _) (fun _ => by kernel_rfl) fun v3 h => ?_
     refine hcl 0 [.one .keep, .one .keep] [(2, 1), (3, 2)] [(1, 2), (2, 3)] [1, 2] h (strings_Builder_WriteString_h_ok _ _) (fun _ => by kernel_rfl) fun v4 h => ?_
     cases h; exact lj 2 (by kernel_rfl)
    refine cd 7 h (by kernel_rfl) (fun h => ?_) fun h => ?_
    ·refine hcl 5 [.one .keep, .one .keep] [(2, 1), (3, 2)] [(1, 2), (2, 3)] [1, 2] h (strings_Builder_WriteString_h_ok _ _) (fun _ => by kernel_rfl) fun v5 h => ?_
     refine hcl 6 [.one .keep, .one .keep] [(2, 1), (3, 2)] [(1, 2), (2, 3)] [1, 2] h (literal_hexadecimal_h_ok _ _) (fun _ => by kernel_rfl) fun v6 h => ?_
     cases h; exact lj 2 (by kernel_rfl)
    refine cd 7 h (by kernel_rfl) (fun h => ?_) fun h => ?_
    ·refine hcl 3 [.one .keep, .one .keep] [(2, 1), (3, 2)] [(1, 2), (2, 3)] [1, 2] h (strings_Builder_WriteByte_h_ok _ _) (fun _ => by kernel_rfl) fun v7 h => ?_
     cases h; exact lj 1 (by kernel_rfl)
    refine cd 6 h (by kernel_rfl) (fun h => ?_) fun h => ?_
    ·cases h; exact lj 1 (by kernel_rfl)
    cases h; exact lj 2 (by kernel_rfl)
   rcases v8 with v9 | (v10 | (v11 | v12))
   ·try simp only [Sum.elim_inl, Sum.elim_inr] at h
    obtain ⟨rfl, hle⟩ := hq
    refine ⟨_, hle, ?_⟩
    cases h; exact lj 0 (by kernel_rfl)
   ·try simp only [Sum.elim_inl, Sum.elim_inr] at h
    obtain ⟨rfl, hle⟩ := hq
    refine ⟨_, hle, ?_⟩
    cases h; exact lj 0 (by kernel_rfl)
   ·try simp only [Sum.elim_inl, Sum.elim_inr] at h
    obtain ⟨rfl, hle⟩ := hq
    refine ⟨_, hle, ?_⟩
    cases h; exact lj 0 (by kernel_rfl)
   ·try simp only [Sum.elim_inl, Sum.elim_inr] at h
    obtain ⟨rfl, hle⟩ := hq
    refine ⟨_, hle, ?_⟩
    cases h; exact lj 0 (by kernel_rfl)
  rcases v13 with v14 | (v17 | v18)
  ·try simp only [Sum.elim_inl, Sum.elim_inr] at h
   obtain ⟨rfl, hle⟩ := hq
   refine ⟨_, hle, ?_⟩
   refine hcl 5 [.one .keep] [(1, 1)] [(1, 1)] [1] h (literal_Quote_h_ok _) (fun _ => by kernel_rfl) fun v15 h => ?_
   refine hcl 0 [.one .keep, .one .keep] [(2, 1), (3, 2)] [(1, 2), (2, 3)] [1, 2] h (strings_Builder_WriteString_h_ok _ _) (fun _ => by kernel_rfl) fun v16 h => ?_
   cases h; exact lj 2 (by kernel_rfl)
  ·try simp only [Sum.elim_inl, Sum.elim_inr] at h
   obtain ⟨rfl, hle⟩ := hq
   refine ⟨_, hle, ?_⟩
   cases h; exact lj 0 (by kernel_rfl)
  ·try simp only [Sum.elim_inl, Sum.elim_inr] at h
   obtain ⟨rfl, hle⟩ := hq
   refine ⟨_, hle, ?_⟩
   refine cl 5 h (literal_brackets_ok _) (by kernel_rfl) fun v19 h => ?_
   refine hcl 10 [.one .keep, .one .keep] [(2, 1), (3, 2)] [(1, 2), (2, 3)] [1, 2] h (strings_Builder_WriteString_h_ok _ _) (fun _ => by kernel_rfl) fun v20 h => ?_
   refine hcl 6 [.one .keep, .one .keep] [(1, 1), (2, 2), (3, 3)] [(1, 1), (2, 2), (3, 3)] [1, 2, 3] h (ih22 _ _) (fun _ => by kernel_rfl) fun v21 h => ?_
   refine hcl 4 [.one .keep, .one .keep] [(2, 1), (3, 2)] [(1, 2), (2, 3)] [1, 2] h (strings_Builder_WriteString_h_ok _ _) (fun _ => by kernel_rfl) fun v22 h => ?_
   cases h; exact lj 2 (by kernel_rfl)
 obtain rfl := Option.some.inj h; exact lh 0 ⟨59, [], [(0, (.was p0 [1, 2, 3] q0 w0)), (1, (.glb GV)), (2, (.box 58 [(.opt 2), (.row 3 (List.length (v24)))])), (3, (.frow 5 1 (List.map eU8 (v24))))], [0, 1, 2, 3], []⟩ (le_a (by kernel_rfl)) rfl rfl (by kernel_rfl) (by kernel_rfl)

def literal_writeAll_h_l1 (a1 : List Va) (r22 : (List Int) → (List Va) → Option ((List Int))) (v1 : (Int) × (List Int)) : Option (((Int) × (List Int)) ⊕ ((List Int))) := (bif (decide (v1.1 < (List.length a1 : Int))) then (Option.bind (idx a1 v1.1) fun v2 => (Option.bind ((bif (decide (0 < v1.1)) then (Option.bind (strings_Builder_WriteString_h (v1.2) ((⟨#[44, 32]⟩ : ByteArray))) fun v3 => (some (v3))) else (some (v1.2))) : Option ((List Int))) fun (v5 : (List Int)) => (Option.bind (literal_write_h2 (r22) (v5) (v2)) fun v6 => (some (.inl ((w64 (v1.1 + 1)), v6)))))) else (some (.inr (v1.2))))
def literal_writeAll_h_b (r22 : (List Int) → (List Va) → Option ((List Int))) (a0 : List Int) (a1 : List Va) : Option ((List Int)) := (Option.bind (loopN (literal_writeAll_h_l1 a1 r22) fuel (0, a0)) fun (v8 : (List Int)) => (some (v8)))
theorem literal_writeAll_h_b_ok (r22 : (List Int) → (List Va) → Option ((List Int))) (ih22 : ∀ (x0 : List Int) (x1 : List Va) r, r22 x0 x1 = some r → HCall Tryd.prog 34 ([(.ref 2 0 0), (.fz ((eL 4 eVaR) (x1)))] ++ []) [(1, (.glb GV)), (2, (.box 58 [(.opt 2), (.row 3 (List.length (x0)))])), (3, (.frow 5 1 (List.map eU8 (x0))))] [1, 2, 3] (.ret (.fz (.tup []))) [(1, (.glb GV)), (2, (.box 58 [(.opt 2), (.row 3 (List.length (r)))])), (3, (.frow 5 1 (List.map eU8 (r))))] [1, 2, 3]) (a0 : List Int) (a1 : List Va) (r : (List Int)) (h : literal_writeAll_h_b r22 a0 a1 = some r) : HCall Tryd.prog 34 ([(.ref 2 0 0), (.fz ((eL 4 eVaR) (a1)))] ++ []) [(1, (.glb GV)), (2, (.box 58 [(.opt 2), (.row 3 (List.length (a0)))])), (3, (.frow 5 1 (List.map eU8 (a0))))] [1, 2, 3] (.ret (.fz (.tup []))) [(1, (.glb GV)), (2, (.box 58 [(.opt 2), (.row 3 (List.length (r)))])), (3, (.frow 5 1 (List.map eU8 (r))))] [1, 2, 3] := by
 unfold literal_writeAll_h_b at h
 refine hcx (gi := 0) Tryd.func34 (by kernel_rfl) (by kernel_rfl) (by kernel_rfl) (by kernel_rfl) (by kernel_rfl) (by kernel_rfl) (by kernel_rfl) (by kernel_rfl) ?_
 intro p0 q0 w0
 refine lp1 7 (fun v1 => ⟨21, [(0, (.ref 2 0 0)), (6, (.fz ((eL 4 eVaR) (a1)))), (7, (fI ((List.length a1 : Int)))), (8, (fI (v1.1)))], [(0, (.was p0 [1, 2, 3] q0 w0)), (1, (.glb GV)), (2, (.box 58 [(.opt 2), (.row 3 (List.length (v1.2)))])), (3, (.frow 5 1 (List.map eU8 (v1.2))))], [0, 1, 2, 3], []⟩) (.exit 0) (fun v8 => ⟨21, [], [(0, (.was p0 [1, 2, 3] q0 w0)), (1, (.glb GV)), (2, (.box 58 [(.opt 2), (.row 3 (List.length (v8)))])), (3, (.frow 5 1 (List.map eU8 (v8))))], [0, 1, 2, 3], []⟩) h (by kernel_rfl) (by kernel_rfl) (fun v1 r h => ?_) fun v8 h => ?_
 ·unfold literal_writeAll_h_l1 at h
  refine cd 5 h (by kernel_rfl) (fun h => ?_) fun h => ?_
  ·refine ix nVaR 6 h (by kernel_rfl) fun v2 h => ?_
   refine jn1 6 .normal (fun v5 => ⟨21, [(0, (.ref 2 0 0)), (5, (.ref 4 0 0)), (6, (.fz ((eL 4 eVaR) (a1)))), (7, (fI ((List.length a1 : Int)))), (8, (fI (v1.1)))], [(0, (.was p0 [1, 2, 3] q0 w0)), (1, (.glb GV)), (2, (.box 58 [(.opt 2), (.row 3 (List.length (v5)))])), (3, (.frow 5 1 (List.map eU8 (v5)))), (4, (.box 24 [(fI (v2.type)), (fI (v2.num)), (fS (v2.text)), (.fz ((eL 4 eVaR) (v2.items)))]))], [4, 0, 1, 2, 3], []⟩) h (by kernel_rfl) (fun v5 h => ?_) fun v5 h => ?_
   ·refine cd 5 h (by kernel_rfl) (fun h => ?_) fun h => ?_
    ·refine hcl 2 [.one .keep, .one .keep] [(2, 1), (3, 2)] [(1, 2), (2, 3)] [1, 2] h (strings_Builder_WriteString_h_ok _ _) (fun _ => by kernel_rfl) fun v3 h => ?_
     cases h; exact lj 1 (by kernel_rfl)
    cases h; exact lj 1 (by kernel_rfl)
   refine hcl 3 [.one .keep, .one .keep] [(1, 1), (2, 2), (3, 3)] [(1, 1), (2, 2), (3, 3)] [1, 2, 3] h (literal_write_h2_ok (r22) (ih22) _ _) (fun _ => by kernel_rfl) fun v6 h => ?_
   cases h; exact lj 5 (by kernel_rfl)
  cases h; exact lo 1 (by kernel_rfl)
 obtain rfl := Option.some.inj h; exact lh 0 ⟨21, [], [(0, (.was p0 [1, 2, 3] q0 w0)), (1, (.glb GV)), (2, (.box 58 [(.opt 2), (.row 3 (List.length (v8)))])), (3, (.frow 5 1 (List.map eU8 (v8))))], [0, 1, 2, 3], []⟩ (le_a (by kernel_rfl)) rfl rfl (by kernel_rfl) (by kernel_rfl)
def literal_writeAll_h : Nat → (List Int) → (List Va) → Option ((List Int))
  | 0 => fun _ _ => none
  | n + 1 => literal_writeAll_h_b (literal_writeAll_h n)
theorem literal_writeAll_h_ok : ∀ n : Nat, ∀ (x0 : List Int) (x1 : List Va) r, literal_writeAll_h n x0 x1 = some r → HCall Tryd.prog 34 ([(.ref 2 0 0), (.fz ((eL 4 eVaR) (x1)))] ++ []) [(1, (.glb GV)), (2, (.box 58 [(.opt 2), (.row 3 (List.length (x0)))])), (3, (.frow 5 1 (List.map eU8 (x0))))] [1, 2, 3] (.ret (.fz (.tup []))) [(1, (.glb GV)), (2, (.box 58 [(.opt 2), (.row 3 (List.length (r)))])), (3, (.frow 5 1 (List.map eU8 (r))))] [1, 2, 3]
  | 0 => fun _ _ _ h => by cases h
  | n + 1 => fun a0 a1 r h => literal_writeAll_h_b_ok (literal_writeAll_h n) (literal_writeAll_h_ok n) a0 a1 r h

def literal_PrintAll_h_l1 (a0 : List Va) (v1 : (Int)) : Option (((Int)) ⊕ (((Unit) ⊕ ((Int))))) := (bif (decide (v1 < (List.length a0 : Int))) then (Option.bind (idx a0 v1) fun v2 => (Option.bind (value_Check fuel (v2)) fun v3 => (bif (v3 != 0) then (some (.inr (.inr (v3)))) else (some (.inl ((w64 (v1 + 1)))))))) else (some (.inr (.inl ()))))
def literal_PrintAll_h (a0 : List Va) : Option ((ByteArray) × (Int)) := (Option.bind (loopN (literal_PrintAll_h_l1 a0) fuel (0)) fun (v4 : ((Unit) ⊕ ((Int)))) => Sum.elim (fun v5 => (Option.bind (literal_writeAll_h fuel (([] : List (Int))) (a0)) fun v6 => (Option.bind (strings_Builder_String_h (v6)) fun v7 => (some ((toBA (v6)), 0))))) (fun v8 => (some ((⟨#[]⟩ : ByteArray), v8))) v4)
theorem literal_PrintAll_h_ok (a0 : List Va) (r : (ByteArray) × (Int)) (h : literal_PrintAll_h a0 = some r) : HCall Tryd.prog 18 ([(.fz ((eL 4 eVaR) (a0)))] ++ []) [(1, (.glb GV))] [1] (.ret (.fz (.tup [(eS (r.1)), (eI (r.2))]))) [(1, (.glb GV))] [1] := by
 unfold literal_PrintAll_h at h
 refine hcx (gi := 0) Tryd.func18 (by kernel_rfl) (by kernel_rfl) (by kernel_rfl) (by kernel_rfl) (by kernel_rfl) (by kernel_rfl) (by kernel_rfl) (by kernel_rfl) ?_
 intro p0 q0 w0
 refine lpx 13 (fun v1 => ⟨23, [(0, (.fz ((eL 4 eVaR) (a0)))), (8, (.fz ((eL 4 eVaR) (a0)))), (9, (fI ((List.length a0 : Int)))), (10, (fI (v1)))], [(0, (.was p0 [1] q0 w0)), (1, (.glb GV))], [0, 1], []⟩) (fun v4 e st => Sum.elim (fun p => e = .exit 0 ∧ LeSt st ⟨23, [(0, (.fz ((eL 4 eVaR) (a0))))], [(0, (.was p0 [1] q0 w0)), (1, (.glb GV))], [0, 1], []⟩) (fun p => e = .ret ∧ LeSt st ⟨23, [(2, (fS ((⟨#[]⟩ : ByteArray)))), (3, (fI (p)))], [(0, (.was p0 [1] q0 w0)), (1, (.glb GV))], [0, 1], []⟩) v4) h (by kernel_rfl) (le_a (by kernel_rfl)) (fun v1 r h => ?_) fun v4 h e st' hq => ?_
 ·unfold literal_PrintAll_h_l1 at h
  refine cd 5 h (by kernel_rfl) (fun h => ?_) fun h => ?_
  ·refine ix nVaR 5 h (by kernel_rfl) fun v2 h => ?_
   refine cl 7 h (value_Check_ok _ _) (by kernel_rfl) fun v3 h => ?_
   refine cd 7 h (by kernel_rfl) (fun h => ?_) fun h => ?_
   ·cases h; exact lo 7 (by kernel_rfl)
   cases h; exact lj 5 (by kernel_rfl)
  cases h; exact lo 1 (by kernel_rfl)
 rcases v4 with v5 | v8
 ·try simp only [Sum.elim_inl, Sum.elim_inr] at h
  obtain ⟨rfl, hle⟩ := hq
  refine ⟨_, hle, ?_⟩
  refine wle 3 (le_nilcell (e := 5) (size := 1) (id2 := 2) (j := 1) (id := 3) (e2 := 58) (cells := [(.fz (.atom (.pointer none))), (.fz (.atom (.slice none 0 0)))]) (by kernel_rfl) (by kernel_rfl) (by kernel_rfl) (by kernel_rfl)) (by kernel_rfl) ?_
  refine wle 0 (le_optcell (id := 2) (e2 := 58) (cells := [(.fz (.atom (.pointer none))), (.row 3 (List.length (([] : List (Int)))))]) (cells' := [.opt 2, (.row 3 (List.length (([] : List (Int)))))]) (by kernel_rfl) (by kernel_rfl)) (by kernel_rfl) ?_
  refine hcl 4 [.one .keep, .one .keep] [(1, 1), (2, 2), (3, 3)] [(1, 1), (2, 2), (3, 3)] [1, 2, 3] h (literal_writeAll_h_ok fuel _ _) (fun _ => by kernel_rfl) fun v6 h => ?_
  refine hcl 3 [.one .keep] [(2, 1), (3, 2)] [(1, 2), (2, 3)] [1, 2] h (strings_Builder_String_h_ok _) (fun _ => by kernel_rfl) fun v7 h => ?_
  obtain rfl := Option.some.inj h; exact lh 4 ⟨23, [(2, (fS ((toBA (v6))))), (3, (fI (0)))], [(0, (.was p0 [1] q0 w0)), (1, (.glb GV))], [0, 1], []⟩ (le_a (by kernel_rfl)) rfl rfl (by kernel_rfl) (by kernel_rfl)
 ·try simp only [Sum.elim_inl, Sum.elim_inr] at h
  obtain ⟨rfl, hle⟩ := hq
  refine ⟨_, hle, ?_⟩
  obtain rfl := Option.some.inj h; exact lh 0 ⟨23, [(2, (fS ((⟨#[]⟩ : ByteArray)))), (3, (fI (v8)))], [(0, (.was p0 [1] q0 w0)), (1, (.glb GV))], [0, 1], []⟩ (le_a (by kernel_rfl)) rfl rfl (by kernel_rfl) (by kernel_rfl)

def literal_Print_h (a0 : Va) : Option ((ByteArray) × (Int)) := (Option.bind (literal_PrintAll_h (([a0] : List (Va)))) fun v1 => (some (v1.1, v1.2)))
theorem literal_Print_h_ok (a0 : Va) (r : (ByteArray) × (Int)) (h : literal_Print_h a0 = some r) : HCall Tryd.prog 12 ([(.fz (eVa (a0)))] ++ []) [(1, (.glb GV))] [1] (.ret (.fz (.tup [(eS (r.1)), (eI (r.2))]))) [(1, (.glb GV))] [1] := by
 unfold literal_Print_h at h
 refine hcx (gi := 0) Tryd.func12 (by kernel_rfl) (by kernel_rfl) (by kernel_rfl) (by kernel_rfl) (by kernel_rfl) (by kernel_rfl) (by kernel_rfl) (by kernel_rfl) ?_
 intro p0 q0 w0
 refine wle 10 (le_eq (t := 5) (x := .lim 4 1 [eVa (a0)]) (y := .lim 4 1 (List.map eVaR ([a0] : List (Va)))) (by kernel_rfl) (by simp only [List.map, eVaR_eq])) (by kernel_rfl) ?_
 refine hcl 0 [(.one (.sl 4))] [(1, 1)] [(1, 1)] [1] h (literal_PrintAll_h_ok _) (fun _ => by kernel_rfl) fun v1 h => ?_
 obtain rfl := Option.some.inj h; exact lh 6 ⟨9, [(2, (fS (v1.1))), (3, (fI (v1.2)))], [(0, (.was p0 [1] q0 w0)), (1, (.glb GV))], [0, 1], []⟩ (le_a (by kernel_rfl)) rfl rfl (by kernel_rfl) (by kernel_rfl)

def synthesislaw02_awake_h  : Option ((Bool)) := (Option.bind (literal_Parse ((⟨#[48, 49]⟩ : ByteArray))) fun v1 => (Option.bind (literal_Parse ((⟨#[49, 48, 48, 48, 48, 48, 49]⟩ : ByteArray))) fun v2 => (Option.bind (literal_Parse ((⟨#[60, 123, 34, 97, 34, 125, 44, 32, 123, 34, 98, 34, 44, 32]⟩ : ByteArray))) fun v3 => (Option.bind (literal_Parse ((⟨#[48, 120, 48, 102]⟩ : ByteArray))) fun v4 => (Option.bind (literal_Print_h ((Va.mk (5) (0) ((⟨#[]⟩ : ByteArray)) (([(Va.mk (2) (1) ((⟨#[]⟩ : ByteArray)) (([] : List Va))), (Va.mk (2) ((-2)) ((⟨#[]⟩ : ByteArray)) (([] : List Va)))] : List (Va)))))) fun v5 => (Option.bind (literal_ParseAll ((⟨#[49, 44, 32, 34, 97, 34]⟩ : ByteArray))) fun v6 => (Option.bind (literal_ParseAll ((⟨#[49, 44]⟩ : ByteArray))) fun v7 => (Option.bind (literal_Unquote ((⟨#[34, 92, 120, 48, 97, 92, 34, 34]⟩ : ByteArray))) fun v8 => (Option.bind ((bif (v1.2.2 != 8) then (some (true)) else (bif (v2.2.2 != 8) then (some (true)) else (bif (v3.2.2 != 8) then (some (true)) else (bif (v4.2.2 != 0) then (some (true)) else (bif (v5.2 != 0) then (some (true)) else (bif (v6.2.2 != 0) then (some (true)) else (bif (v7.2.2 != 8) then (some (true)) else (bif (v8.2.2 != 0) then (some (true)) else (some (((List.length v6.1 : Int) != 2))))))))))) : Option ((Bool))) fun (v10 : (Bool)) => (bif v10 then (some (false)) else (Option.bind ((bif (v1.2.1 == 1) then (bif (v2.2.1 == 6) then (bif (v3.2.1 == 12) then (bif (v4.1.type == 4) then (bif (v4.1.num == 15) then (bif (v5.1.toList == (⟨#[91, 49, 44, 32, 45, 50, 93]⟩ : ByteArray).toList) then (Option.bind (idx v6.1 1) fun v11 => (bif (v11.text.toList == (⟨#[97]⟩ : ByteArray).toList) then (bif (v7.2.1 == 2) then (bif (v8.1.toList == (⟨#[10, 34]⟩ : ByteArray).toList) then (Option.bind (literal_Quote_h ((⟨#[10, 34]⟩ : ByteArray))) fun v12 => (some ((v12.toList == (⟨#[34, 92, 120, 48, 97, 92, 34, 34]⟩ : ByteArray).toList)))) else (some (false))) else (some (false))) else (some (false)))) else (some (false))) else (some (false))) else (some (false))) else (some (false))) else (some (false))) else (some (false))) : Option ((Bool))) fun (v14 : (Bool)) => (some (v14)))))))))))))
theorem synthesislaw02_awake_h_ok  (r : (Bool)) (h : synthesislaw02_awake_h  = some r) : HCall Tryd.prog 11 ([] ++ []) [(1, (.glb GV))] [1] (.ret (fB (r))) [(1, (.glb GV))] [1] := by
 unfold synthesislaw02_awake_h at h
 refine hcx (gi := 0) Tryd.func11 (by kernel_rfl) (by kernel_rfl) (by kernel_rfl) (by kernel_rfl) (by kernel_rfl) (by kernel_rfl) (by kernel_rfl) (by kernel_rfl) ?_
 intro p0 q0 w0
 refine cl 6 h (literal_Parse_ok _) (by kernel_rfl) fun v1 h => ?_
 refine cl 11 h (literal_Parse_ok _) (by kernel_rfl) fun v2 h => ?_
 refine cl 11 h (literal_Parse_ok _) (by kernel_rfl) fun v3 h => ?_
 refine cl 11 h (literal_Parse_ok _) (by kernel_rfl) fun v4 h => ?_
 refine wle 13 ((le_a (by kernel_rfl) : LeSt _ ⟨145, [(2, (fI (v1.2.1))), (3, (fI (v1.2.2))), (5, (fI (v2.2.1))), (6, (fI (v2.2.2))), (8, (fI (v3.2.1))), (9, (fI (v3.2.2))), (10, (.ref 5 0 0)), (12, (fI (v4.2.2))), (45, (.fz (eVa ((Va.mk (2) (1) ((⟨#[]⟩ : ByteArray)) (([] : List Va))))))), (46, (.fz (.agg [(eI (2)), (eI ((-2))), (eS ((⟨#[]⟩ : ByteArray))), (.atom (.slice none 0 0))])))], [(0, (.was p0 [1] q0 w0)), (1, (.glb GV)), (5, (.box 24 [(fI (v4.1.type)), (fI (v4.1.num)), (fS (v4.1.text)), (.fz ((eL 4 eVaR) (v4.1.items)))]))], [5, 0, 1], []⟩)) (by kernel_rfl) ?_
 refine wle 0 ((le_a (by kernel_rfl) : LeSt _ ⟨145, [(2, (fI (v1.2.1))), (3, (fI (v1.2.2))), (5, (fI (v2.2.1))), (6, (fI (v2.2.2))), (8, (fI (v3.2.1))), (9, (fI (v3.2.2))), (10, (.ref 5 0 0)), (12, (fI (v4.2.2))), (45, (.fz (eVa ((Va.mk (2) (1) ((⟨#[]⟩ : ByteArray)) (([] : List Va))))))), (46, (.fz (eVa ((Va.mk (2) ((-2)) ((⟨#[]⟩ : ByteArray)) (([] : List Va)))))))], [(0, (.was p0 [1] q0 w0)), (1, (.glb GV)), (5, (.box 24 [(fI (v4.1.type)), (fI (v4.1.num)), (fS (v4.1.text)), (.fz ((eL 4 eVaR) (v4.1.items)))]))], [5, 0, 1], []⟩)) (by kernel_rfl) ?_
 refine wle 1 (le_eq (t := 47) (x := .lim 4 2 [eVa ((Va.mk (2) (1) ((⟨#[]⟩ : ByteArray)) (([] : List Va)))), eVa ((Va.mk (2) ((-2)) ((⟨#[]⟩ : ByteArray)) (([] : List Va))))]) (y := .lim 4 2 (List.map eVaR ([(Va.mk (2) (1) ((⟨#[]⟩ : ByteArray)) (([] : List Va))), (Va.mk (2) ((-2)) ((⟨#[]⟩ : ByteArray)) (([] : List Va)))] : List (Va)))) (by kernel_rfl) (by simp only [List.map, eVaR_eq])) (by kernel_rfl) ?_
 refine hcl 1 [(.ag [.keep, .keep, .keep, .sl 4])] [(1, 1)] [(1, 1)] [1] h (literal_Print_h_ok _) (fun _ => by kernel_rfl) fun v5 h => ?_
 refine cl 8 h (literal_ParseAll_ok _) (by kernel_rfl) fun v6 h => ?_
 refine cl 10 h (literal_ParseAll_ok _) (by kernel_rfl) fun v7 h => ?_
 refine cl 10 h (literal_Unquote_ok _) (by kernel_rfl) fun v8 h => ?_
 refine jn1 10 .normal (fun v10 => ⟨145, [(2, (fI (v1.2.1))), (5, (fI (v2.2.1))), (8, (fI (v3.2.1))), (10, (.ref 5 0 0)), (13, (fS (v5.1))), (15, (.fz ((eL 4 eVaR) (v6.1)))), (19, (fI (v7.2.1))), (21, (fS (v8.1))), (101, (fB (v10)))], [(0, (.was p0 [1] q0 w0)), (1, (.glb GV)), (5, (.box 24 [(fI (v4.1.type)), (fI (v4.1.num)), (fS (v4.1.text)), (.fz ((eL 4 eVaR) (v4.1.items)))]))], [5, 0, 1], []⟩) h (by kernel_rfl) (fun v10 h => ?_) fun v10 h => ?_
 ·refine gd 4 h (by kernel_rfl) (fun h => ?_) fun h => ?_
  ·cases h; exact lj 33 (by kernel_rfl)
  refine gd 4 h (by kernel_rfl) (fun h => ?_) fun h => ?_
  ·cases h; exact lj 29 (by kernel_rfl)
  refine gd 4 h (by kernel_rfl) (fun h => ?_) fun h => ?_
  ·cases h; exact lj 25 (by kernel_rfl)
  refine gd 4 h (by kernel_rfl) (fun h => ?_) fun h => ?_
  ·cases h; exact lj 21 (by kernel_rfl)
  refine gd 4 h (by kernel_rfl) (fun h => ?_) fun h => ?_
  ·cases h; exact lj 17 (by kernel_rfl)
  refine gd 4 h (by kernel_rfl) (fun h => ?_) fun h => ?_
  ·cases h; exact lj 13 (by kernel_rfl)
  refine gd 4 h (by kernel_rfl) (fun h => ?_) fun h => ?_
  ·cases h; exact lj 9 (by kernel_rfl)
  refine gd 4 h (by kernel_rfl) (fun h => ?_) fun h => ?_
  ·cases h; exact lj 5 (by kernel_rfl)
  cases h; exact lj 5 (by kernel_rfl)
 refine cd 0 h (by kernel_rfl) (fun h => ?_) fun h => ?_
 ·obtain rfl := Option.some.inj h; exact lh 5 ⟨145, [(0, (fB (false)))], [(0, (.was p0 [1] q0 w0)), (1, (.glb GV))], [0, 1], []⟩ (le_a (by kernel_rfl)) rfl rfl (by kernel_rfl) (by kernel_rfl)
 refine jn1 2 .normal (fun v14 => ⟨145, [(0, (fB (v14)))], [(0, (.was p0 [1] q0 w0)), (1, (.glb GV))], [0, 1], []⟩) h (by kernel_rfl) (fun v14 h => ?_) fun v14 h => ?_
 ·refine gd 4 h (by kernel_rfl) (fun h => ?_) fun h => ?_
  ·refine gd 4 h (by kernel_rfl) (fun h => ?_) fun h => ?_
   ·refine gd 4 h (by kernel_rfl) (fun h => ?_) fun h => ?_
    ·refine gd 5 h (by kernel_rfl) (fun h => ?_) fun h => ?_
     ·refine gd 5 h (by kernel_rfl) (fun h => ?_) fun h => ?_
      ·refine gd 4 h (by kernel_rfl) (fun h => ?_) fun h => ?_
       ·refine ix nVaR 1 h (by kernel_rfl) fun v11 h => ?_
        refine gd 5 h (by kernel_rfl) (fun h => ?_) fun h => ?_
        ·refine gd 4 h (by kernel_rfl) (fun h => ?_) fun h => ?_
         ·refine gd 4 h (by kernel_rfl) (fun h => ?_) fun h => ?_
          ·refine hcl 0 [.one .keep] [(1, 1)] [(1, 1)] [1] h (literal_Quote_h_ok _) (fun _ => by kernel_rfl) fun v12 h => ?_
           cases h; exact lj 4 (by kernel_rfl)
          cases h; exact lj 5 (by kernel_rfl)
         cases h; exact lj 9 (by kernel_rfl)
        cases h; exact lj 13 (by kernel_rfl)
       cases h; exact lj 20 (by kernel_rfl)
      cases h; exact lj 24 (by kernel_rfl)
     cases h; exact lj 29 (by kernel_rfl)
    cases h; exact lj 34 (by kernel_rfl)
   cases h; exact lj 38 (by kernel_rfl)
  cases h; exact lj 42 (by kernel_rfl)
 obtain rfl := Option.some.inj h; exact lh 1 ⟨145, [(0, (fB (v14)))], [(0, (.was p0 [1] q0 w0)), (1, (.glb GV))], [0, 1], []⟩ (le_a (by kernel_rfl)) rfl rfl (by kernel_rfl) (by kernel_rfl)

def synthesisref02_at (a0 : ByteArray) (a1 : Int) : Option (Int) := (bif (decide (a1 < (a0.size : Int))) then (Option.bind (byt a0 a1) fun v1 => (some v1)) else (some 0))
def synthesisref02_digit (a0 : Int) : Option (Int) := (Option.bind ((bif (decide (48 ≤ a0)) then (some ((decide (a0 ≤ 57)))) else (some (false))) : Option ((Bool))) fun (v2 : (Bool)) => (bif v2 then (some (w64 (wu8 (a0 - 48)))) else (Option.bind ((bif (decide (97 ≤ a0)) then (some ((decide (a0 ≤ 102)))) else (some (false))) : Option ((Bool))) fun (v4 : (Bool)) => (bif v4 then (some (w64 ((w64 (wu8 (a0 - 97))) + 10))) else (some (-1))))))
end Go.Proofs.YtijkipikefpopaaDoor
