/- Typed programs and what computes them. -/
import Derived.Test.YtfhmljjkhjifeaaGreatDoorZ3
set_option linter.unusedVariables false
set_option linter.unusedSimpArgs false
set_option maxRecDepth 100000
namespace Go.Proofs.YtfhmljjkhjifeaaGreatDoor
open Go Go.RowKit Go.Proofs
set_option maxHeartbeats 2000000
attribute [local irreducible] NStep StepA EStep LeSt
def synthesislaw11_sums_h_m0 (p0 : Env) (q0 : Nat → Prop) (w0 : World) : List (Nat × AObj) := [(0, (.was p0 [] q0 w0)), (1, (.box 26 [(fS ((⟨#[]⟩ : ByteArray))), (.fz (.atom (.slice none 0 0))), (.fz (.atom (.slice none 0 0))), (.fz (.atom (.slice none 0 0)))]))]
def synthesislaw11_sums_h  : Option (Unit) := (some ())
theorem synthesislaw11_sums_h_ok  (r : Unit) (h : synthesislaw11_sums_h  = some r) : HCall Tryz.prog 32 ([] ++ []) [] [] (.ret (.agg [(fS ((⟨#[110]⟩ : ByteArray))), (.lim 1 (List.length (([2] : List (Int)))) (List.map eI (([2] : List (Int))))), (.lim 2 (List.length (([(Sy.mk ((⟨#[83]⟩ : ByteArray)) (2))] : List (Sy)))) (List.map eSy (([(Sy.mk ((⟨#[83]⟩ : ByteArray)) (2))] : List (Sy))))), (.lim 9 (List.length (([(Ru.mk (0) (1) (0) ((Va.mk (0) (0) ((⟨#[]⟩ : ByteArray)) (([] : List Va)))) ((⟨#[]⟩ : ByteArray)) (([] : List Int))), (Ru.mk (0) (3) (0) ((Va.mk (0) (0) ((⟨#[]⟩ : ByteArray)) (([] : List Va)))) ((⟨#[97, 100, 100]⟩ : ByteArray)) (([0, 0] : List (Int))))] : List (Ru)))) (List.map eRu (([(Ru.mk (0) (1) (0) ((Va.mk (0) (0) ((⟨#[]⟩ : ByteArray)) (([] : List Va)))) ((⟨#[]⟩ : ByteArray)) (([] : List Int))), (Ru.mk (0) (3) (0) ((Va.mk (0) (0) ((⟨#[]⟩ : ByteArray)) (([] : List Va)))) ((⟨#[97, 100, 100]⟩ : ByteArray)) (([0, 0] : List (Int))))] : List (Ru)))))])) [(1, (.box 26 [(fS ((⟨#[110]⟩ : ByteArray))), (.lim 1 (List.length (([2] : List (Int)))) (List.map eI (([2] : List (Int))))), (.lim 2 (List.length (([(Sy.mk ((⟨#[83]⟩ : ByteArray)) (2))] : List (Sy)))) (List.map eSy (([(Sy.mk ((⟨#[83]⟩ : ByteArray)) (2))] : List (Sy))))), (.lim 9 (List.length (([(Ru.mk (0) (1) (0) ((Va.mk (0) (0) ((⟨#[]⟩ : ByteArray)) (([] : List Va)))) ((⟨#[]⟩ : ByteArray)) (([] : List Int))), (Ru.mk (0) (3) (0) ((Va.mk (0) (0) ((⟨#[]⟩ : ByteArray)) (([] : List Va)))) ((⟨#[97, 100, 100]⟩ : ByteArray)) (([0, 0] : List (Int))))] : List (Ru)))) (List.map eRu (([(Ru.mk (0) (1) (0) ((Va.mk (0) (0) ((⟨#[]⟩ : ByteArray)) (([] : List Va)))) ((⟨#[]⟩ : ByteArray)) (([] : List Int))), (Ru.mk (0) (3) (0) ((Va.mk (0) (0) ((⟨#[]⟩ : ByteArray)) (([] : List Va)))) ((⟨#[97, 100, 100]⟩ : ByteArray)) (([0, 0] : List (Int))))] : List (Ru)))))]))] [1] := by
 unfold synthesislaw11_sums_h at h
 refine hcx (gi := 0) Tryz.func32 (by kernel_rfl) (by kernel_rfl) (by kernel_rfl) (by kernel_rfl) (by kernel_rfl) (by kernel_rfl) (by kernel_rfl) (by kernel_rfl) ?_
 intro p0 q0 w0
 refine wle 12 ((le_a (by kernel_rfl) : LeSt _ ⟨9, [(0, (.ref 1 0 0)), (1, (.lim 1 (List.length (([2] : List (Int)))) (List.map eI (([2] : List (Int)))))), (3, (.lim 2 (List.length (([(Sy.mk ((⟨#[83]⟩ : ByteArray)) (2))] : List (Sy)))) (List.map eSy (([(Sy.mk ((⟨#[83]⟩ : ByteArray)) (2))] : List (Sy)))))), (4, (.fz (eRu ((Ru.mk (0) (1) (0) ((Va.mk (0) (0) ((⟨#[]⟩ : ByteArray)) (([] : List Va)))) ((⟨#[]⟩ : ByteArray)) (([] : List Int))))))), (6, (.agg [(fI (0)), (fI (3)), (fI (0)), (fI (0)), (fI (0)), (fS ((⟨#[]⟩ : ByteArray))), (.fz (.atom (.slice none 0 0))), (fS ((⟨#[97, 100, 100]⟩ : ByteArray))), (.lim 1 (List.length (([0, 0] : List (Int)))) (List.map eI (([0, 0] : List (Int)))))]))], (synthesislaw11_sums_h_m0 p0 q0 w0), [1, 0], []⟩)) (by kernel_rfl) ?_
 refine wle 0 ((le_a (by kernel_rfl) : LeSt _ ⟨9, [(0, (.ref 1 0 0)), (1, (.lim 1 (List.length (([2] : List (Int)))) (List.map eI (([2] : List (Int)))))), (3, (.lim 2 (List.length (([(Sy.mk ((⟨#[83]⟩ : ByteArray)) (2))] : List (Sy)))) (List.map eSy (([(Sy.mk ((⟨#[83]⟩ : ByteArray)) (2))] : List (Sy)))))), (4, (.fz (eRu ((Ru.mk (0) (1) (0) ((Va.mk (0) (0) ((⟨#[]⟩ : ByteArray)) (([] : List Va)))) ((⟨#[]⟩ : ByteArray)) (([] : List Int))))))), (6, (.fz (eRu ((Ru.mk (0) (3) (0) ((Va.mk (0) (0) ((⟨#[]⟩ : ByteArray)) (([] : List Va)))) ((⟨#[97, 100, 100]⟩ : ByteArray)) (([0, 0] : List (Int))))))))], (synthesislaw11_sums_h_m0 p0 q0 w0), [1, 0], []⟩)) (by kernel_rfl) ?_
 obtain rfl := Option.some.inj h; exact lh 5 ⟨9, [(0, (.ref 1 0 0))], [(0, (.was p0 [] q0 w0)), (1, (.box 26 [(fS ((⟨#[110]⟩ : ByteArray))), (.lim 1 (List.length (([2] : List (Int)))) (List.map eI (([2] : List (Int))))), (.lim 2 (List.length (([(Sy.mk ((⟨#[83]⟩ : ByteArray)) (2))] : List (Sy)))) (List.map eSy (([(Sy.mk ((⟨#[83]⟩ : ByteArray)) (2))] : List (Sy))))), (.lim 9 (List.length (([(Ru.mk (0) (1) (0) ((Va.mk (0) (0) ((⟨#[]⟩ : ByteArray)) (([] : List Va)))) ((⟨#[]⟩ : ByteArray)) (([] : List Int))), (Ru.mk (0) (3) (0) ((Va.mk (0) (0) ((⟨#[]⟩ : ByteArray)) (([] : List Va)))) ((⟨#[97, 100, 100]⟩ : ByteArray)) (([0, 0] : List (Int))))] : List (Ru)))) (List.map eRu (([(Ru.mk (0) (1) (0) ((Va.mk (0) (0) ((⟨#[]⟩ : ByteArray)) (([] : List Va)))) ((⟨#[]⟩ : ByteArray)) (([] : List Int))), (Ru.mk (0) (3) (0) ((Va.mk (0) (0) ((⟨#[]⟩ : ByteArray)) (([] : List Va)))) ((⟨#[97, 100, 100]⟩ : ByteArray)) (([0, 0] : List (Int))))] : List (Ru)))))]))], [0, 1], []⟩ (le_a (by kernel_rfl)) rfl rfl (by kernel_rfl) (by kernel_rfl)

def strings_Builder_copyCheck_h (a0 : List Int) : Option (Unit) := (some ())
theorem strings_Builder_copyCheck_h_ok (a0 : List Int) (r : Unit) (h : strings_Builder_copyCheck_h a0 = some r) : HCall Tryz.prog 91 ([(.ref 1 0 0)] ++ []) [(1, (.box 80 [(.opt 1), (.row 2 (List.length (a0)))])), (2, (.frow 5 1 (List.map eU8 (a0))))] [1, 2] (.ret (.fz (.tup []))) [(1, (.box 80 [(.opt 1), (.row 2 (List.length (a0)))])), (2, (.frow 5 1 (List.map eU8 (a0))))] [1, 2] := by
 unfold strings_Builder_copyCheck_h at h
 refine hcx (gi := 0) Tryz.func91 (by kernel_rfl) (by kernel_rfl) (by kernel_rfl) (by kernel_rfl) (by kernel_rfl) (by kernel_rfl) (by kernel_rfl) (by kernel_rfl) ?_
 intro p0 q0 w0
 refine opc 0 (id := 1) (e := 80) (cells := [(.row 2 (List.length (a0)))]) (by kernel_rfl) (by kernel_rfl) ?_ ?_
 ·refine nst 6 (n_nilnil (t := 78) (x := (.tmp 5)) (y := (.const (.pointer none))) (yt := 78) (te := 80) false (by kernel_rfl) (by kernel_rfl) (by kernel_rfl) (by kernel_rfl)) (by kernel_rfl) ?_
  refine nst 5 (n_tounsafe (src := 78) (t := 113) (x := (.tmp 8)) (te := 80) (id := 1) (j := Tryz.t80) (e := 80) (cells := [(.fz (.atom (.pointer none))), (.row 2 (List.length (a0)))]) (by kernel_rfl) (by kernel_rfl) (by kernel_rfl) (by kernel_rfl) (by kernel_rfl) (by kernel_rfl) (by kernel_rfl) (by kernel_rfl)) (by kernel_rfl) ?_
  refine nst 0 (n_noescape (f := 103) (ts := #[113]) (X := (.tmp 9)) (fn := Tryz.f103) (by kernel_rfl) Tryz.func103 (by kernel_rfl) (by kernel_rfl) (by kernel_rfl) (by kernel_rfl)) (by kernel_rfl) ?_
  refine nst 0 (n_fromunsafe (src := 113) (t := 78) (x := (.tmp 10)) (u := 80) (id := 1) (j := Tryz.t80) (e := 80) (cells := [(.fz (.atom (.pointer none))), (.row 2 (List.length (a0)))]) (by kernel_rfl) (by kernel_rfl) (by kernel_rfl) (by kernel_rfl) (by kernel_rfl) (by kernel_rfl) (by kernel_rfl)) (by kernel_rfl) ?_
  obtain rfl := Option.some.inj h; exact lh 4 ⟨20, [], [(0, (.was p0 [1, 2] q0 w0)), (1, (.box 80 [(.opt 1), (.row 2 (List.length (a0)))])), (2, (.frow 5 1 (List.map eU8 (a0))))], [0, 1, 2], []⟩ (LeSt.trans (le_optcell (id := 1) (e2 := 80) (cells := [(.ref 1 0 0), (.row 2 (List.length (a0)))]) (cells' := [.opt 1, (.row 2 (List.length (a0)))]) (by kernel_rfl) (by kernel_rfl)) (le_a (by kernel_rfl))) rfl rfl (by kernel_rfl) (by kernel_rfl)
 ·refine nst 6 (n_ptrnil (t := 78) (x := (.tmp 5)) (y := (.const (.pointer none))) (yt := 78) (te := 80) (id := 1) (off := 0) (e := 80) (cells := [(.ref 1 0 0), (.row 2 (List.length (a0)))]) false (by kernel_rfl) (by kernel_rfl) (by kernel_rfl) (by kernel_rfl) (by kernel_rfl)) (by kernel_rfl) ?_
  refine nst 9 (n_ptrsame (t := 78) (x := (.tmp 17)) (y := (.tmp 18)) (yt := 78) (te := 80) (id := 1) (off := 0) (j := Tryz.t80) (e := 80) (cells := [(.ref 1 0 0), (.row 2 (List.length (a0)))]) true (by kernel_rfl) (by kernel_rfl) (by kernel_rfl) (by kernel_rfl) (by kernel_rfl) (by kernel_rfl)) (by kernel_rfl) ?_
  obtain rfl := Option.some.inj h; exact lh 3 ⟨20, [], [(0, (.was p0 [1, 2] q0 w0)), (1, (.box 80 [(.opt 1), (.row 2 (List.length (a0)))])), (2, (.frow 5 1 (List.map eU8 (a0))))], [0, 1, 2], []⟩ (LeSt.trans (le_optcell (id := 1) (e2 := 80) (cells := [(.ref 1 0 0), (.row 2 (List.length (a0)))]) (cells' := [.opt 1, (.row 2 (List.length (a0)))]) (by kernel_rfl) (by kernel_rfl)) (le_a (by kernel_rfl))) rfl rfl (by kernel_rfl) (by kernel_rfl)

def strings_Builder_WriteString_h (a0 : List Int) (a1 : ByteArray) : Option ((List Int)) := (Option.bind (strings_Builder_copyCheck_h (a0)) fun v1 => (Option.bind (appS a0 a1) fun v2 => (some (v2))))
theorem strings_Builder_WriteString_h_ok (a0 : List Int) (a1 : ByteArray) (r : (List Int)) (h : strings_Builder_WriteString_h a0 a1 = some r) : HCall Tryz.prog 71 ([(.ref 1 0 0), (fS (a1))] ++ []) [(1, (.box 80 [(.opt 1), (.row 2 (List.length (a0)))])), (2, (.frow 5 1 (List.map eU8 (a0))))] [1, 2] (.ret (.fz (.tup [(eI ((a1.size : Int))), (.atom .nilIface)]))) [(1, (.box 80 [(.opt 1), (.row 2 (List.length (r)))])), (2, (.frow 5 1 (List.map eU8 (r))))] [1, 2] := by
 unfold strings_Builder_WriteString_h at h
 refine hcx (gi := 0) Tryz.func71 (by kernel_rfl) (by kernel_rfl) (by kernel_rfl) (by kernel_rfl) (by kernel_rfl) (by kernel_rfl) (by kernel_rfl) (by kernel_rfl) ?_
 intro p0 q0 w0
 refine hcl 8 [.one .keep] [(1, 1), (2, 2)] [(1, 1), (2, 2)] [1, 2] h (strings_Builder_copyCheck_h_ok _) (fun _ => by kernel_rfl) fun v1 h => ?_
 obtain ⟨v2, hv2, h⟩ := Option.bind_eq_some_iff.1 h
 refine sst 9 (s_appText (t := 64) (u := 9) (x := (.tmp 12)) (y := (.tmp 13)) (d := tt64) (e := 5) (i := Tryz.t5) (xs := a0) (s := a1) (id := 2) (n := List.length (a0)) hv2 tt_ok (by kernel_rfl) (by kernel_rfl) (by kernel_rfl) (by kernel_rfl) (by kernel_rfl) (by kernel_rfl) (by kernel_rfl) (by kernel_rfl) (by kernel_rfl) (by kernel_rfl) rfl (by kernel_rfl)) (by kernel_rfl) ?_
 obtain rfl := Option.some.inj h; exact lh 12 ⟨19, [(4, (fI ((a1.size : Int)))), (5, (.fz (.atom .nilIface)))], [(0, (.was p0 [1, 2] q0 w0)), (1, (.box 80 [(.opt 1), (.row 2 (List.length (v2)))])), (2, (.frow 5 1 (List.map eU8 (v2))))], [0, 1, 2], []⟩ (le_a (by kernel_rfl)) rfl rfl (by kernel_rfl) (by kernel_rfl)

def internal_strconv_Itoa_h (a0 : Int) : Option ((ByteArray)) := (Option.bind (itoaB a0 10) fun v1 => (some (v1)))
theorem internal_strconv_Itoa_h_ok (a0 : Int) (r : (ByteArray)) (h : internal_strconv_Itoa_h a0 = some r) : HCall Tryz.prog 92 ([(fI (a0))] ++ []) [(1, (.glb GV))] [1] (.ret (fS (r))) [(1, (.glb GV))] [1] := by
 unfold internal_strconv_Itoa_h at h
 refine hcx (gi := 0) Tryz.func92 (by kernel_rfl) (by kernel_rfl) (by kernel_rfl) (by kernel_rfl) (by kernel_rfl) (by kernel_rfl) (by kernel_rfl) (by kernel_rfl) ?_
 intro p0 q0 w0
 obtain ⟨v1, hv1, h⟩ := Option.bind_eq_some_iff.1 h
 refine nst 7 (n_itoa (f := 104) (ts := #[2, 3]) (X := (.tmp 3)) (Y := (.const (.int .i64 10))) (n := a0) (b := 10) (v := v1) (g := 0) (m := 0) (gs := GV) (vs := gv0) (id := 1) hv1 itoa_gv ⟨_, Tryz.func104, by kernel_rfl, by kernel_rfl⟩ (by kernel_rfl) (by kernel_rfl) (by kernel_rfl) (by kernel_rfl) (by kernel_rfl) (by kernel_rfl)) (by kernel_rfl) ?_
 obtain rfl := Option.some.inj h; exact lh 3 ⟨5, [(2, (fS (v1)))], [(0, (.was p0 [1] q0 w0)), (1, (.glb GV))], [0, 1], []⟩ (le_a (by kernel_rfl)) rfl rfl (by kernel_rfl) (by kernel_rfl)

def strconv_Itoa_h (a0 : Int) : Option ((ByteArray)) := (Option.bind (internal_strconv_Itoa_h (a0)) fun v1 => (some (v1)))
theorem strconv_Itoa_h_ok (a0 : Int) (r : (ByteArray)) (h : strconv_Itoa_h a0 = some r) : HCall Tryz.prog 72 ([(fI (a0))] ++ []) [(1, (.glb GV))] [1] (.ret (fS (r))) [(1, (.glb GV))] [1] := by
 unfold strconv_Itoa_h at h
 refine hcx (gi := 0) Tryz.func72 (by kernel_rfl) (by kernel_rfl) (by kernel_rfl) (by kernel_rfl) (by kernel_rfl) (by kernel_rfl) (by kernel_rfl) (by kernel_rfl) ?_
 intro p0 q0 w0
 refine hcl 7 [.one .keep] [(1, 1)] [(1, 1)] [1] h (internal_strconv_Itoa_h_ok _) (fun _ => by kernel_rfl) fun v1 h => ?_
 obtain rfl := Option.some.inj h; exact lh 3 ⟨5, [(2, (fS (v1)))], [(0, (.was p0 [1] q0 w0)), (1, (.glb GV))], [0, 1], []⟩ (le_a (by kernel_rfl)) rfl rfl (by kernel_rfl) (by kernel_rfl)

def grammar_text_1_h (a0 : Int) (a1 : List Int) : Option ((List Int)) := (Option.bind (strconv_Itoa_h (a0)) fun v1 => (Option.bind (strings_Builder_WriteString_h (a1) (v1)) fun v2 => (some (v2))))
theorem grammar_text_1_h_ok (a0 : Int) (a1 : List Int) (r : (List Int)) (h : grammar_text_1_h a0 a1 = some r) : HCall Tryz.prog 70 ([(fI (a0))] ++ [(.ref 2 0 0)]) [(1, (.glb GV)), (2, (.box 80 [(.opt 2), (.row 3 (List.length (a1)))])), (3, (.frow 5 1 (List.map eU8 (a1))))] [1, 2, 3] (.ret (.fz (.tup []))) [(1, (.glb GV)), (2, (.box 80 [(.opt 2), (.row 3 (List.length (r)))])), (3, (.frow 5 1 (List.map eU8 (r))))] [1, 2, 3] := by
 unfold grammar_text_1_h at h
 refine hcx (gi := 0) Tryz.func70 (by kernel_rfl) (by kernel_rfl) (by kernel_rfl) (by kernel_rfl) (by kernel_rfl) (by kernel_rfl) (by kernel_rfl) (by kernel_rfl) ?_
 intro p0 q0 w0
 refine hcl 2 [.one .keep] [(1, 1)] [(1, 1)] [1] h (strconv_Itoa_h_ok _) (fun _ => by kernel_rfl) fun v1 h => ?_
 refine hcl 0 [.one .keep, .one .keep] [(2, 1), (3, 2)] [(1, 2), (2, 3)] [1, 2] h (strings_Builder_WriteString_h_ok _ _) (fun _ => by kernel_rfl) fun v2 h => ?_
 obtain rfl := Option.some.inj h; exact lh 1 ⟨6, [], [(0, (.was p0 [1, 2, 3] q0 w0)), (1, (.glb GV)), (2, (.box 80 [(.opt 2), (.row 3 (List.length (v2)))])), (3, (.frow 5 1 (List.map eU8 (v2))))], [0, 1, 2, 3], []⟩ (le_a (by kernel_rfl)) rfl rfl (by kernel_rfl) (by kernel_rfl)

def strings_Builder_WriteByte_h (a0 : List Int) (a1 : Int) : Option ((List Int)) := (Option.bind (strings_Builder_copyCheck_h (a0)) fun v1 => (Option.bind (app 1 a0 ([a1] : List (Int))) fun v2 => (some (v2))))
theorem strings_Builder_WriteByte_h_ok (a0 : List Int) (a1 : Int) (r : (List Int)) (h : strings_Builder_WriteByte_h a0 a1 = some r) : HCall Tryz.prog 73 ([(.ref 1 0 0), (.fz (eU8 (a1)))] ++ []) [(1, (.box 80 [(.opt 1), (.row 2 (List.length (a0)))])), (2, (.frow 5 1 (List.map eU8 (a0))))] [1, 2] (.ret (.fz (.atom .nilIface))) [(1, (.box 80 [(.opt 1), (.row 2 (List.length (r)))])), (2, (.frow 5 1 (List.map eU8 (r))))] [1, 2] := by
 unfold strings_Builder_WriteByte_h at h
 refine hcx (gi := 0) Tryz.func73 (by kernel_rfl) (by kernel_rfl) (by kernel_rfl) (by kernel_rfl) (by kernel_rfl) (by kernel_rfl) (by kernel_rfl) (by kernel_rfl) ?_
 intro p0 q0 w0
 refine hcl 7 [.one .keep] [(1, 1), (2, 2)] [(1, 1), (2, 2)] [1, 2] h (strings_Builder_copyCheck_h_ok _) (fun _ => by kernel_rfl) fun v1 h => ?_
 refine ap nU8 10 h (by kernel_rfl) fun v2 h => ?_
 obtain rfl := Option.some.inj h; exact lh 9 ⟨17, [(4, (.fz (.atom .nilIface)))], [(0, (.was p0 [1, 2] q0 w0)), (1, (.box 80 [(.opt 1), (.row 2 (List.length (v2)))])), (2, (.frow 5 1 (List.map eU8 (v2))))], [0, 1, 2], []⟩ (le_a (by kernel_rfl)) rfl rfl (by kernel_rfl) (by kernel_rfl)

def strconv_FormatInt_h (a0 : Int) (a1 : Int) : Option ((ByteArray)) := (Option.bind (itoaB a0 a1) fun v1 => (some (v1)))
theorem strconv_FormatInt_h_ok (a0 : Int) (a1 : Int) (r : (ByteArray)) (h : strconv_FormatInt_h a0 a1 = some r) : HCall Tryz.prog 124 ([(fI (a0)), (fI (a1))] ++ []) [(1, (.glb GV))] [1] (.ret (fS (r))) [(1, (.glb GV))] [1] := by
 unfold strconv_FormatInt_h at h
 refine hcx (gi := 0) Tryz.func124 (by kernel_rfl) (by kernel_rfl) (by kernel_rfl) (by kernel_rfl) (by kernel_rfl) (by kernel_rfl) (by kernel_rfl) (by kernel_rfl) ?_
 intro p0 q0 w0
 obtain ⟨v1, hv1, h⟩ := Option.bind_eq_some_iff.1 h
 refine nst 8 (n_itoa (f := 104) (ts := #[2, 3]) (X := (.tmp 5)) (Y := (.tmp 6)) (n := a0) (b := a1) (v := v1) (g := 0) (m := 0) (gs := GV) (vs := gv0) (id := 1) hv1 itoa_gv ⟨_, Tryz.func104, by kernel_rfl, by kernel_rfl⟩ (by kernel_rfl) (by kernel_rfl) (by kernel_rfl) (by kernel_rfl) (by kernel_rfl) (by kernel_rfl)) (by kernel_rfl) ?_
 obtain rfl := Option.some.inj h; exact lh 3 ⟨8, [(4, (fS (v1)))], [(0, (.was p0 [1] q0 w0)), (1, (.glb GV))], [0, 1], []⟩ (le_a (by kernel_rfl)) rfl rfl (by kernel_rfl) (by kernel_rfl)

def literal_hexadecimal_h (a0 : List Int) (a1 : Int) : Option ((List Int)) := (Option.bind (byt (⟨#[48, 49, 50, 51, 52, 53, 54, 55, 56, 57, 97, 98, 99, 100, 101, 102]⟩ : ByteArray) (Int.fdiv a1 (2 ^ (4 : Nat)))) fun v1 => (Option.bind (strings_Builder_WriteByte_h (a0) (v1)) fun v2 => (Option.bind (byt (⟨#[48, 49, 50, 51, 52, 53, 54, 55, 56, 57, 97, 98, 99, 100, 101, 102]⟩ : ByteArray) (iand .u8 a1 15)) fun v3 => (Option.bind (strings_Builder_WriteByte_h (v2) (v3)) fun v4 => (some (v4))))))
theorem literal_hexadecimal_h_ok (a0 : List Int) (a1 : Int) (r : (List Int)) (h : literal_hexadecimal_h a0 a1 = some r) : HCall Tryz.prog 125 ([(.ref 1 0 0), (.fz (eU8 (a1)))] ++ []) [(1, (.box 80 [(.opt 1), (.row 2 (List.length (a0)))])), (2, (.frow 5 1 (List.map eU8 (a0))))] [1, 2] (.ret (.fz (.tup []))) [(1, (.box 80 [(.opt 1), (.row 2 (List.length (r)))])), (2, (.frow 5 1 (List.map eU8 (r))))] [1, 2] := by
 unfold literal_hexadecimal_h at h
 refine hcx (gi := 0) Tryz.func125 (by kernel_rfl) (by kernel_rfl) (by kernel_rfl) (by kernel_rfl) (by kernel_rfl) (by kernel_rfl) (by kernel_rfl) (by kernel_rfl) ?_
 intro p0 q0 w0
 refine byx 5 h (by kernel_rfl) fun v1 h => ?_
 refine hcl 0 [.one .keep, .one .keep] [(1, 1), (2, 2)] [(1, 1), (2, 2)] [1, 2] h (strings_Builder_WriteByte_h_ok _ _) (fun _ => by kernel_rfl) fun v2 h => ?_
 refine byx 5 h (by kernel_rfl) fun v3 h => ?_
 refine hcl 0 [.one .keep, .one .keep] [(1, 1), (2, 2)] [(1, 1), (2, 2)] [1, 2] h (strings_Builder_WriteByte_h_ok _ _) (fun _ => by kernel_rfl) fun v4 h => ?_
 obtain rfl := Option.some.inj h; exact lh 1 ⟨14, [], [(0, (.was p0 [1, 2] q0 w0)), (1, (.box 80 [(.opt 1), (.row 2 (List.length (v4)))])), (2, (.frow 5 1 (List.map eU8 (v4))))], [0, 1, 2], []⟩ (le_a (by kernel_rfl)) rfl rfl (by kernel_rfl) (by kernel_rfl)

def unicode_utf8_decodeRuneInStringSlow_h (a0 : ByteArray) : Option ((Int) × (Int)) := (bif (decide ((a0.size : Int) < 1)) then (some (65533, 0)) else (Option.bind (byt a0 0) fun v1 => (Option.bind (idx gt4 v1) fun v2 => (bif (decide (240 ≤ v2)) then (Option.bind (byt a0 0) fun v3 => (some ((ior .i32 (iandnot .i32 (IntKind.i32.wrap v3) (Int.fdiv (IntKind.i32.wrap ((IntKind.i32.wrap v2) * 2 ^ (31 : Nat))) (2 ^ (31 : Nat)))) (iand .i32 65533 (Int.fdiv (IntKind.i32.wrap ((IntKind.i32.wrap v2) * 2 ^ (31 : Nat))) (2 ^ (31 : Nat))))), 1))) else (Option.bind (idx gt5 (Int.fdiv v2 (2 ^ (4 : Nat)))) fun v4 => (bif (decide ((a0.size : Int) < (w64 (iand .u8 v2 7)))) then (some (65533, 1)) else (Option.bind (byt a0 1) fun v5 => (Option.bind ((bif (decide (v5 < v4.f_lo)) then (some (true)) else (some ((decide (v4.f_hi < v5))))) : Option ((Bool))) fun (v7 : (Bool)) => (bif v7 then (some (65533, 1)) else (bif (decide ((w64 (iand .u8 v2 7)) ≤ 2)) then (some ((ior .i32 (IntKind.i32.wrap ((IntKind.i32.wrap (iand .u8 v1 31)) * 2 ^ (6 : Nat))) (IntKind.i32.wrap (iand .u8 v5 63))), 2)) else (Option.bind (byt a0 2) fun v8 => (Option.bind ((bif (decide (v8 < 128)) then (some (true)) else (some ((decide (191 < v8))))) : Option ((Bool))) fun (v10 : (Bool)) => (bif v10 then (some (65533, 1)) else (bif (decide ((w64 (iand .u8 v2 7)) ≤ 3)) then (some ((ior .i32 (ior .i32 (IntKind.i32.wrap ((IntKind.i32.wrap (iand .u8 v1 15)) * 2 ^ (12 : Nat))) (IntKind.i32.wrap ((IntKind.i32.wrap (iand .u8 v5 63)) * 2 ^ (6 : Nat)))) (IntKind.i32.wrap (iand .u8 v8 63))), 3)) else (Option.bind (byt a0 3) fun v11 => (Option.bind ((bif (decide (v11 < 128)) then (some (true)) else (some ((decide (191 < v11))))) : Option ((Bool))) fun (v13 : (Bool)) => (bif v13 then (some (65533, 1)) else (some ((ior .i32 (ior .i32 (ior .i32 (IntKind.i32.wrap ((IntKind.i32.wrap (iand .u8 v1 7)) * 2 ^ (18 : Nat))) (IntKind.i32.wrap ((IntKind.i32.wrap (iand .u8 v5 63)) * 2 ^ (12 : Nat)))) (IntKind.i32.wrap ((IntKind.i32.wrap (iand .u8 v8 63)) * 2 ^ (6 : Nat)))) (IntKind.i32.wrap (iand .u8 v11 63))), 4)))))))))))))))))))
theorem unicode_utf8_decodeRuneInStringSlow_h_ok (a0 : ByteArray) (r : (Int) × (Int)) (h : unicode_utf8_decodeRuneInStringSlow_h a0 = some r) : HCall Tryz.prog 135 ([(fS (a0))] ++ []) [(1, (.glb GV))] [1] (.ret (.fz (.tup [(eI32 (r.1)), (eI (r.2))]))) [(1, (.glb GV))] [1] := by
 unfold unicode_utf8_decodeRuneInStringSlow_h at h
 refine hcx (gi := 0) Tryz.func135 (by kernel_rfl) (by kernel_rfl) (by kernel_rfl) (by kernel_rfl) (by kernel_rfl) (by kernel_rfl) (by kernel_rfl) (by kernel_rfl) ?_
 intro p0 q0 w0
 refine cd 17 h (by kernel_rfl) (fun h => ?_) fun h => ?_
 ·obtain rfl := Option.some.inj h; exact lh 6 ⟨117, [(2, (.fz (eI32 (65533)))), (3, (fI (0)))], [(0, (.was p0 [1] q0 w0)), (1, (.glb GV))], [0, 1], []⟩ (le_a (by kernel_rfl)) rfl rfl (by kernel_rfl) (by kernel_rfl)
 refine byx 4 h (by kernel_rfl) fun v1 h => ?_
 obtain ⟨v2, hv2, h⟩ := Option.bind_eq_some_iff.1 h
 refine nst 5 (n_gidx nU8 (xs := gt4) (v := v2) (g := 4) (m := 3) (n := 256) (gs := GV) (vs := gv4) (Y := (.tmp 19)) (k := .u8) (i := v1) (t := 148) (e := 5) (de := tt5) (id := 1) hv2 (by kernel_rfl) tt_ok Tryz.underlying148 (by kernel_rfl) (by kernel_rfl) (by kernel_rfl) (by decide) (by kernel_rfl) (by kernel_rfl) (by kernel_rfl) gt4_v gt4_1 (by kernel_rfl)) (by kernel_rfl) ?_
 refine cd 9 h (by kernel_rfl) (fun h => ?_) fun h => ?_
 ·refine byx 11 h (by kernel_rfl) fun v3 h => ?_
  obtain rfl := Option.some.inj h; exact lh 10 ⟨117, [(2, (.fz (eI32 ((ior .i32 (iandnot .i32 (IntKind.i32.wrap v3) (Int.fdiv (IntKind.i32.wrap ((IntKind.i32.wrap v2) * 2 ^ (31 : Nat))) (2 ^ (31 : Nat)))) (iand .i32 65533 (Int.fdiv (IntKind.i32.wrap ((IntKind.i32.wrap v2) * 2 ^ (31 : Nat))) (2 ^ (31 : Nat))))))))), (3, (fI (1)))], [(0, (.was p0 [1] q0 w0)), (1, (.glb GV))], [0, 1], []⟩ (le_a (by kernel_rfl)) rfl rfl (by kernel_rfl) (by kernel_rfl)
 obtain ⟨v4, hv4, h⟩ := Option.bind_eq_some_iff.1 h
 refine nst 12 (n_gidx nS_utf8_acceptRange (xs := gt5) (v := v4) (g := 5) (m := 4) (n := 16) (gs := GV) (vs := gv5) (Y := (.tmp 40)) (k := .u8) (i := (Int.fdiv v2 (2 ^ (4 : Nat)))) (t := 151) (e := 150) (de := tt150) (id := 1) hv4 (by kernel_rfl) tt_ok Tryz.underlying151 (by kernel_rfl) (by kernel_rfl) (by kernel_rfl) (by decide) (by kernel_rfl) (by kernel_rfl) (by kernel_rfl) gt5_v gt5_1 (by kernel_rfl)) (by kernel_rfl) ?_
 refine cd 11 h (by kernel_rfl) (fun h => ?_) fun h => ?_
 ·obtain rfl := Option.some.inj h; exact lh 6 ⟨117, [(2, (.fz (eI32 (65533)))), (3, (fI (1)))], [(0, (.was p0 [1] q0 w0)), (1, (.glb GV))], [0, 1], []⟩ (le_a (by kernel_rfl)) rfl rfl (by kernel_rfl) (by kernel_rfl)
 refine byx 4 h (by kernel_rfl) fun v5 h => ?_
 refine jn1 4 .normal (fun v7 => ⟨117, [(0, (fS (a0))), (5, (.fz (eU8 (v1)))), (8, (fI ((w64 (iand .u8 v2 7))))), (10, (.fz (eU8 (v5)))), (57, (fB (v7)))], [(0, (.was p0 [1] q0 w0)), (1, (.glb GV))], [0, 1], []⟩) h (by kernel_rfl) (fun v7 h => ?_) fun v7 h => ?_
 ·refine gd 6 h (by kernel_rfl) (fun h => ?_) fun h => ?_
  ·cases h; exact lj 6 (by kernel_rfl)
  cases h; exact lj 6 (by kernel_rfl)
 refine cd 0 h (by kernel_rfl) (fun h => ?_) fun h => ?_
 ·obtain rfl := Option.some.inj h; exact lh 6 ⟨117, [(2, (.fz (eI32 (65533)))), (3, (fI (1)))], [(0, (.was p0 [1] q0 w0)), (1, (.glb GV))], [0, 1], []⟩ (le_a (by kernel_rfl)) rfl rfl (by kernel_rfl) (by kernel_rfl)
 refine cd 7 h (by kernel_rfl) (fun h => ?_) fun h => ?_
 ·obtain rfl := Option.some.inj h; exact lh 14 ⟨117, [(2, (.fz (eI32 ((ior .i32 (IntKind.i32.wrap ((IntKind.i32.wrap (iand .u8 v1 31)) * 2 ^ (6 : Nat))) (IntKind.i32.wrap (iand .u8 v5 63))))))), (3, (fI (2)))], [(0, (.was p0 [1] q0 w0)), (1, (.glb GV))], [0, 1], []⟩ (le_a (by kernel_rfl)) rfl rfl (by kernel_rfl) (by kernel_rfl)
 refine byx 4 h (by kernel_rfl) fun v8 h => ?_
 refine jn1 4 .normal (fun v10 => ⟨117, [(0, (fS (a0))), (5, (.fz (eU8 (v1)))), (8, (fI ((w64 (iand .u8 v2 7))))), (10, (.fz (eU8 (v5)))), (11, (.fz (eU8 (v8)))), (75, (fB (v10)))], [(0, (.was p0 [1] q0 w0)), (1, (.glb GV))], [0, 1], []⟩) h (by kernel_rfl) (fun v10 h => ?_) fun v10 h => ?_
 ·refine gd 4 h (by kernel_rfl) (fun h => ?_) fun h => ?_
  ·cases h; exact lj 4 (by kernel_rfl)
  cases h; exact lj 4 (by kernel_rfl)
 refine cd 0 h (by kernel_rfl) (fun h => ?_) fun h => ?_
 ·obtain rfl := Option.some.inj h; exact lh 6 ⟨117, [(2, (.fz (eI32 (65533)))), (3, (fI (1)))], [(0, (.was p0 [1] q0 w0)), (1, (.glb GV))], [0, 1], []⟩ (le_a (by kernel_rfl)) rfl rfl (by kernel_rfl) (by kernel_rfl)
 refine cd 7 h (by kernel_rfl) (fun h => ?_) fun h => ?_
 ·obtain rfl := Option.some.inj h; exact lh 19 ⟨117, [(2, (.fz (eI32 ((ior .i32 (ior .i32 (IntKind.i32.wrap ((IntKind.i32.wrap (iand .u8 v1 15)) * 2 ^ (12 : Nat))) (IntKind.i32.wrap ((IntKind.i32.wrap (iand .u8 v5 63)) * 2 ^ (6 : Nat)))) (IntKind.i32.wrap (iand .u8 v8 63))))))), (3, (fI (3)))], [(0, (.was p0 [1] q0 w0)), (1, (.glb GV))], [0, 1], []⟩ (le_a (by kernel_rfl)) rfl rfl (by kernel_rfl) (by kernel_rfl)
 refine byx 4 h (by kernel_rfl) fun v11 h => ?_
 refine jn1 4 .normal (fun v13 => ⟨117, [(5, (.fz (eU8 (v1)))), (10, (.fz (eU8 (v5)))), (11, (.fz (eU8 (v8)))), (12, (.fz (eU8 (v11)))), (98, (fB (v13)))], [(0, (.was p0 [1] q0 w0)), (1, (.glb GV))], [0, 1], []⟩) h (by kernel_rfl) (fun v13 h => ?_) fun v13 h => ?_
 ·refine gd 4 h (by kernel_rfl) (fun h => ?_) fun h => ?_
  ·cases h; exact lj 4 (by kernel_rfl)
  cases h; exact lj 4 (by kernel_rfl)
 refine cd 0 h (by kernel_rfl) (fun h => ?_) fun h => ?_
 ·obtain rfl := Option.some.inj h; exact lh 6 ⟨117, [(2, (.fz (eI32 (65533)))), (3, (fI (1)))], [(0, (.was p0 [1] q0 w0)), (1, (.glb GV))], [0, 1], []⟩ (le_a (by kernel_rfl)) rfl rfl (by kernel_rfl) (by kernel_rfl)
 obtain rfl := Option.some.inj h; exact lh 25 ⟨117, [(2, (.fz (eI32 ((ior .i32 (ior .i32 (ior .i32 (IntKind.i32.wrap ((IntKind.i32.wrap (iand .u8 v1 7)) * 2 ^ (18 : Nat))) (IntKind.i32.wrap ((IntKind.i32.wrap (iand .u8 v5 63)) * 2 ^ (12 : Nat)))) (IntKind.i32.wrap ((IntKind.i32.wrap (iand .u8 v8 63)) * 2 ^ (6 : Nat)))) (IntKind.i32.wrap (iand .u8 v11 63))))))), (3, (fI (4)))], [(0, (.was p0 [1] q0 w0)), (1, (.glb GV))], [0, 1], []⟩ (le_a (by kernel_rfl)) rfl rfl (by kernel_rfl) (by kernel_rfl)

def unicode_utf8_DecodeRuneInString_h (a0 : ByteArray) : Option ((Int) × (Int)) := (Option.bind ((bif (!(a0.toList == (⟨#[]⟩ : ByteArray).toList)) then (Option.bind (byt a0 0) fun v1 => (some ((decide (v1 < 128))))) else (some (false))) : Option ((Bool))) fun (v3 : (Bool)) => (bif v3 then (Option.bind (byt a0 0) fun v4 => (some ((IntKind.i32.wrap v4), 1))) else (Option.bind (unicode_utf8_decodeRuneInStringSlow_h (a0)) fun v5 => (some (v5.1, v5.2)))))
theorem unicode_utf8_DecodeRuneInString_h_ok (a0 : ByteArray) (r : (Int) × (Int)) (h : unicode_utf8_DecodeRuneInString_h a0 = some r) : HCall Tryz.prog 133 ([(fS (a0))] ++ []) [(1, (.glb GV))] [1] (.ret (.fz (.tup [(eI32 (r.1)), (eI (r.2))]))) [(1, (.glb GV))] [1] := by
 unfold unicode_utf8_DecodeRuneInString_h at h
 refine hcx (gi := 0) Tryz.func133 (by kernel_rfl) (by kernel_rfl) (by kernel_rfl) (by kernel_rfl) (by kernel_rfl) (by kernel_rfl) (by kernel_rfl) (by kernel_rfl) ?_
 intro p0 q0 w0
 refine jn1 7 .normal (fun v3 => ⟨19, [(0, (fS (a0))), (10, (fB (v3)))], [(0, (.was p0 [1] q0 w0)), (1, (.glb GV))], [0, 1], []⟩) h (by kernel_rfl) (fun v3 h => ?_) fun v3 h => ?_
 ·refine gd 4 h (by kernel_rfl) (fun h => ?_) fun h => ?_
  ·refine byx 1 h (by kernel_rfl) fun v1 h => ?_
   cases h; exact lj 3 (by kernel_rfl)
  cases h; exact lj 5 (by kernel_rfl)
 refine cd 0 h (by kernel_rfl) (fun h => ?_) fun h => ?_
 ·refine byx 3 h (by kernel_rfl) fun v4 h => ?_
  obtain rfl := Option.some.inj h; exact lh 5 ⟨19, [(2, (.fz (eI32 ((IntKind.i32.wrap v4))))), (3, (fI (1)))], [(0, (.was p0 [1] q0 w0)), (1, (.glb GV))], [0, 1], []⟩ (le_a (by kernel_rfl)) rfl rfl (by kernel_rfl) (by kernel_rfl)
 refine hcl 2 [.one .keep] [(1, 1)] [(1, 1)] [1] h (unicode_utf8_decodeRuneInStringSlow_h_ok _) (fun _ => by kernel_rfl) fun v5 h => ?_
 obtain rfl := Option.some.inj h; exact lh 7 ⟨19, [(2, (.fz (eI32 (v5.1)))), (3, (fI (v5.2)))], [(0, (.was p0 [1] q0 w0)), (1, (.glb GV))], [0, 1], []⟩ (le_a (by kernel_rfl)) rfl rfl (by kernel_rfl) (by kernel_rfl)

def strings_Builder_String_h (a0 : List Int) : Option (Unit) := (some ())
theorem strings_Builder_String_h_ok (a0 : List Int) (r : Unit) (h : strings_Builder_String_h a0 = some r) : HCall Tryz.prog 75 ([(.ref 1 0 0)] ++ []) [(1, (.box 80 [(.opt 1), (.row 2 (List.length (a0)))])), (2, (.frow 5 1 (List.map eU8 (a0))))] [1, 2] (.ret (fS ((toBA a0)))) [(1, (.box 80 [(.opt 1), (.row 2 0)]))] [1, 2] := by
 unfold strings_Builder_String_h at h
 refine hcx (gi := 0) Tryz.func75 (by kernel_rfl) (by kernel_rfl) (by kernel_rfl) (by kernel_rfl) (by kernel_rfl) (by kernel_rfl) (by kernel_rfl) (by kernel_rfl) ?_
 intro p0 q0 w0
 refine dw 5 10 (by kernel_rfl) ?_
 refine nst 4 (n_sliceData (x := (.tmp 6)) (ts := #[64]) (id := 2) (e' := 5) (e := 5) (size := 1) (n := List.length (a0)) (xs := List.map eU8 (a0)) (by kernel_rfl) (by kernel_rfl) (by kernel_rfl) (by kernel_rfl) (by simp)) (by kernel_rfl) ?_
 refine nst 4 (n_len_row (t := 64) (x := (.tmp 11)) (d := tt64) (id := 2) (e2 := 5) (e := 5) (size := 1) (n := List.length (a0)) (xs := List.map eU8 (a0)) tt_ok (by kernel_rfl) (by kernel_rfl) rfl (by kernel_rfl) (by kernel_rfl) (by simp)) (by kernel_rfl) ?_
 refine sst 1 (s_unsafeString (x := (.tmp 7)) (y := (.tmp 12)) (pt := 101) (it := 3) (e := 5) (id := 2) (xs := a0) (by kernel_rfl) (by kernel_rfl) (by kernel_rfl) (by kernel_rfl) (by kernel_rfl) rfl (by kernel_rfl)) (by kernel_rfl) ?_
 refine wle 0 ((le_co (ids := [0, 1, 2]) (ts := [(12, .one .keep), (13, .one .keep)]) (os := [(0, []), (1, [.keep, .zr])]) (by kernel_rfl) : LeSt _ ⟨14, [(12, (fI ((List.length (a0) : Int)))), (13, (fS ((toBA a0))))], [(0, (.was p0 [1, 2] q0 w0)), (1, (.box 80 [(.opt 1), (.row 2 0)]))], [0, 1, 2], []⟩)) (by kernel_rfl) ?_
 obtain rfl := Option.some.inj h; exact lh 3 ⟨14, [(2, (fS ((toBA a0))))], [(0, (.was p0 [1, 2] q0 w0)), (1, (.box 80 [(.opt 1), (.row 2 0)]))], [0, 1, 2], []⟩ (le_a (by kernel_rfl)) rfl rfl (by kernel_rfl) (by kernel_rfl)

def literal_Quote_h_l1 (v13 : List Int) (v14 : (Int) × (List Int)) : Option (((Int) × (List Int)) ⊕ ((List Int))) := (bif (decide (v14.1 < (List.length v13 : Int))) then (Option.bind (idx v13 v14.1) fun v15 => (Option.bind (strings_Builder_WriteString_h (v14.2) ((⟨#[92, 120]⟩ : ByteArray))) fun v16 => (Option.bind (literal_hexadecimal_h (v16) (v15)) fun v17 => (some (.inl ((w64 (v14.1 + 1)), v17)))))) else (some (.inr (v14.2))))
def literal_Quote_h_l2 (a0 : ByteArray) (v2 : (List Int) × (Nat)) : Option (((List Int) × (Nat)) ⊕ ((List Int))) := (bif decide (v2.2 < ByteArray.size a0) then (Option.bind ((Option.bind ((bif ((((Utf8.decode a0 v2.2).1 : Nat) : Int) == 34) then (some (true)) else (some (((((Utf8.decode a0 v2.2).1 : Nat) : Int) == 92)))) : Option ((Bool))) fun (v5 : (Bool)) => (bif v5 then (Option.bind (strings_Builder_WriteByte_h (v2.1) (92)) fun v6 => (Option.bind (strings_Builder_WriteByte_h (v6) ((wu8 (((Utf8.decode a0 v2.2).1 : Nat) : Int)))) fun v7 => (some (v7)))) else (Option.bind (literal_plain ((((Utf8.decode a0 v2.2).1 : Nat) : Int))) fun v8 => (bif v8 then (Option.bind (strings_Builder_WriteByte_h (v2.1) ((wu8 (((Utf8.decode a0 v2.2).1 : Nat) : Int)))) fun v9 => (some (v9))) else (Option.bind (cutS a0 ((v2.2 : Nat) : Int) a0.size) fun v10 => (Option.bind (unicode_utf8_DecodeRuneInString_h (v10)) fun v11 => (Option.bind (cutS a0 ((v2.2 : Nat) : Int) (w64 (((v2.2 : Nat) : Int) + v11.2))) fun v12 => (Option.bind (s2b v12) fun v13 => (Option.bind (loopN (literal_Quote_h_l1 v13) fuel (0, v2.1)) fun (v19 : (List Int)) => (some (v19))))))))))) : Option ((List Int))) fun (v21 : (List Int)) => (some (.inl (v21, (v2.2 + (Utf8.decode a0 v2.2).2))))) else (some (.inr (v2.1))))
def literal_Quote_h (a0 : ByteArray) : Option ((ByteArray)) := (Option.bind (strings_Builder_WriteByte_h (([] : List (Int))) (34)) fun v1 => (Option.bind (loopN (literal_Quote_h_l2 a0) fuel (v1, 0)) fun (v23 : (List Int)) => (Option.bind (strings_Builder_WriteByte_h (v23) (34)) fun v24 => (Option.bind (strings_Builder_String_h (v24)) fun v25 => (some ((toBA (v24))))))))
theorem literal_Quote_h_ok (a0 : ByteArray) (r : (ByteArray)) (h : literal_Quote_h a0 = some r) : HCall Tryz.prog 126 ([(fS (a0))] ++ []) [(1, (.glb GV))] [1] (.ret (fS (r))) [(1, (.glb GV))] [1] := by
 unfold literal_Quote_h at h
 refine hcx (gi := 0) Tryz.func126 (by kernel_rfl) (by kernel_rfl) (by kernel_rfl) (by kernel_rfl) (by kernel_rfl) (by kernel_rfl) (by kernel_rfl) (by kernel_rfl) ?_
 intro p0 q0 w0
 refine wle 7 (le_nilcell (e := 5) (size := 1) (id2 := 2) (j := 1) (id := 3) (e2 := 80) (cells := [(.fz (.atom (.pointer none))), (.fz (.atom (.slice none 0 0)))]) (by kernel_rfl) (by kernel_rfl) (by kernel_rfl) (by kernel_rfl)) (by kernel_rfl) ?_
 refine wle 0 (le_optcell (id := 2) (e2 := 80) (cells := [(.fz (.atom (.pointer none))), (.row 3 (List.length (([] : List (Int)))))]) (cells' := [.opt 2, (.row 3 (List.length (([] : List (Int)))))]) (by kernel_rfl) (by kernel_rfl)) (by kernel_rfl) ?_
 refine hcl 3 [.one .keep, .one .keep] [(2, 1), (3, 2)] [(1, 2), (2, 3)] [1, 2] h (strings_Builder_WriteByte_h_ok _ _) (fun _ => by kernel_rfl) fun v1 h => ?_
 refine sst 5 (e_range (t := 9) (X := (.tmp 11)) (s := a0) (d := tt9) (id := 4) tt_ok (by kernel_rfl) (by kernel_rfl) (by kernel_rfl) (by kernel_rfl) (by kernel_rfl)) (by kernel_rfl) ?_
 refine lp1 2 (fun v2 => ⟨59, [(0, (fS (a0))), (3, (.ref 2 0 0)), (12, (.ref 4 0 0))], [(0, (.was p0 [1] q0 w0)), (1, (.glb GV)), (2, (.box 80 [(.opt 2), (.row 3 (List.length (v2.1)))])), (3, (.frow 5 1 (List.map eU8 (v2.1)))), (4, (.sit (a0) (v2.2)))], [4, 3, 2, 0, 1], []⟩) (.exit 0) (fun v23 => ⟨59, [(3, (.ref 2 0 0))], [(0, (.was p0 [1] q0 w0)), (1, (.glb GV)), (2, (.box 80 [(.opt 2), (.row 3 (List.length (v23)))])), (3, (.frow 5 1 (List.map eU8 (v23))))], [3, 2, 0, 1], []⟩) h (by kernel_rfl) (by kernel_rfl) (fun v2 r h => ?_) fun v23 h => ?_
 ·unfold literal_Quote_h_l2 at h
  refine wle 2 (LeSt.refl) (by kernel_rfl) ?_
  rcases bif_two h with ⟨hN3, h⟩ | ⟨hN3, h⟩
  ·refine sst 0 (e_next (X := (.tmp 12)) (s := a0) (pos := v2.2) (id := 4) hN3 (by kernel_rfl) (by kernel_rfl) (by kernel_rfl)) (by kernel_rfl) ?_
   refine jn1 14 .normal (fun v21 => ⟨59, [(0, (fS (a0))), (3, (.ref 2 0 0)), (12, (.ref 4 0 0))], [(0, (.was p0 [1] q0 w0)), (1, (.glb GV)), (2, (.box 80 [(.opt 2), (.row 3 (List.length (v21)))])), (3, (.frow 5 1 (List.map eU8 (v21)))), (4, (.sit (a0) ((v2.2 + (Utf8.decode a0 v2.2).2))))], [4, 3, 2, 0, 1], []⟩) h (by kernel_rfl) (fun v21 h => ?_) fun v21 h => ?_
   ·refine jn1 1 .normal (fun v5 => ⟨59, [(0, (fS (a0))), (3, (.ref 2 0 0)), (4, (fI (((v2.2 : Nat) : Int)))), (5, (.fz (eI32 ((((Utf8.decode a0 v2.2).1 : Nat) : Int))))), (12, (.ref 4 0 0)), (40, (fB (v5)))], [(0, (.was p0 [1] q0 w0)), (1, (.glb GV)), (2, (.box 80 [(.opt 2), (.row 3 (List.length (v2.1)))])), (3, (.frow 5 1 (List.map eU8 (v2.1)))), (4, (.sit (a0) ((v2.2 + (Utf8.decode a0 v2.2).2))))], [4, 3, 2, 0, 1], []⟩) h (by kernel_rfl) (fun v5 h => ?_) fun v5 h => ?_
    ·refine gd 4 h (by kernel_rfl) (fun h => ?_) fun h => ?_
     ·cases h; exact lj 5 (by kernel_rfl)
     cases h; exact lj 5 (by kernel_rfl)
    refine cd 0 h (by kernel_rfl) (fun h => ?_) fun h => ?_
    ·refine hcl 2 [.one .keep, .one .keep] [(2, 1), (3, 2)] [(1, 2), (2, 3)] [1, 2] h (strings_Builder_WriteByte_h_ok _ _) (fun _ => by kernel_rfl) fun v6 h => ?_
     refine hcl 4 [.one .keep, .one .keep] [(2, 1), (3, 2)] [(1, 2), (2, 3)] [1, 2] h (strings_Builder_WriteByte_h_ok _ _) (fun _ => by kernel_rfl) fun v7 h => ?_
     cases h; exact lj 1 (by kernel_rfl)
    refine cl 3 h (literal_plain_ok _) (by kernel_rfl) fun v8 h => ?_
    refine cd 2 h (by kernel_rfl) (fun h => ?_) fun h => ?_
    ·refine hcl 3 [.one .keep, .one .keep] [(2, 1), (3, 2)] [(1, 2), (2, 3)] [1, 2] h (strings_Builder_WriteByte_h_ok _ _) (fun _ => by kernel_rfl) fun v9 h => ?_
     cases h; exact lj 1 (by kernel_rfl)
    obtain ⟨v10, hv10, h⟩ := Option.bind_eq_some_iff.1 h
    refine nst 4 (s_cutS (t := 9) (x := (.tmp 18)) (lo := (some (.tmp 19))) (hi := none) (d := tt9) (s := a0) (l := (some ((v2.2 : Nat) : Int))) (h := none) hv10 tt_ok (by kernel_rfl) (by kernel_rfl) (by kernel_rfl) (by kernel_rfl) (by kernel_rfl) (by kernel_rfl)) (by kernel_rfl) ?_
    refine hcl 0 [.one .keep] [(1, 1)] [(1, 1)] [1] h (unicode_utf8_DecodeRuneInString_h_ok _) (fun _ => by kernel_rfl) fun v11 h => ?_
    obtain ⟨v12, hv12, h⟩ := Option.bind_eq_some_iff.1 h
    refine nst 13 (s_cutS (t := 9) (x := (.tmp 24)) (lo := (some (.tmp 25))) (hi := (some (.tmp 28))) (d := tt9) (s := a0) (l := (some ((v2.2 : Nat) : Int))) (h := (some (w64 (((v2.2 : Nat) : Int) + v11.2)))) hv12 tt_ok (by kernel_rfl) (by kernel_rfl) (by kernel_rfl) (by kernel_rfl) (by kernel_rfl) (by kernel_rfl)) (by kernel_rfl) ?_
    obtain ⟨v13, hv13, h⟩ := Option.bind_eq_some_iff.1 h
    refine nst 0 (s_s2b (sr := 9) (t := 64) (x := (.tmp 29)) (s := v12) (e := 5) (ds := tt9) (d := tt64) (de := tt5) hv13 tt_ok (by kernel_rfl) (by kernel_rfl) (by kernel_rfl) (by kernel_rfl) (by kernel_rfl) (by kernel_rfl) (by kernel_rfl) (by kernel_rfl)) (by kernel_rfl) ?_
    refine lp1 4 (fun v14 => ⟨59, [(0, (fS (a0))), (3, (.ref 2 0 0)), (12, (.ref 4 0 0)), (30, (.fz ((eL 1 eU8) (v13)))), (31, (fI ((List.length v13 : Int)))), (32, (fI (v14.1)))], [(0, (.was p0 [1] q0 w0)), (1, (.glb GV)), (2, (.box 80 [(.opt 2), (.row 3 (List.length (v14.2)))])), (3, (.frow 5 1 (List.map eU8 (v14.2)))), (4, (.sit (a0) ((v2.2 + (Utf8.decode a0 v2.2).2))))], [4, 3, 2, 0, 1], []⟩) (.exit 3) (fun v19 => ⟨59, [(0, (fS (a0))), (3, (.ref 2 0 0)), (12, (.ref 4 0 0))], [(0, (.was p0 [1] q0 w0)), (1, (.glb GV)), (2, (.box 80 [(.opt 2), (.row 3 (List.length (v19)))])), (3, (.frow 5 1 (List.map eU8 (v19)))), (4, (.sit (a0) ((v2.2 + (Utf8.decode a0 v2.2).2))))], [4, 3, 2, 0, 1], []⟩) h (by kernel_rfl) (by kernel_rfl) (fun v14 r h => ?_) fun v19 h => ?_
    ·unfold literal_Quote_h_l1 at h
     refine cd 5 h (by kernel_rfl) (fun h => ?_) fun h => ?_
     ·refine ix nU8 5 h (by kernel_rfl) fun v15 h => ?_
      refine hcl 5 [.one .keep, .one .keep] [(2, 1), (3, 2)] [(1, 2), (2, 3)] [1, 2] h (strings_Builder_WriteString_h_ok _ _) (fun _ => by kernel_rfl) fun v16 h => ?_
      refine hcl 3 [.one .keep, .one .keep] [(2, 1), (3, 2)] [(1, 2), (2, 3)] [1, 2] h (literal_hexadecimal_h_ok _ _) (fun _ => by kernel_rfl) fun v17 h => ?_
      cases h; exact lj 5 (by kernel_rfl)
     cases h; exact lo 1 (by kernel_rfl)
    cases h; exact lj 0 (by kernel_rfl)
   cases h; exact lj 0 (by kernel_rfl)
  ·refine sst 0 (e_nextEnd (X := (.tmp 12)) (s := a0) (pos := v2.2) (id := 4) hN3 (by kernel_rfl) (by kernel_rfl) (by kernel_rfl)) (by kernel_rfl) ?_
   cases h; exact lo 5 (by kernel_rfl)
 refine hcl 2 [.one .keep, .one .keep] [(2, 1), (3, 2)] [(1, 2), (2, 3)] [1, 2] h (strings_Builder_WriteByte_h_ok _ _) (fun _ => by kernel_rfl) fun v24 h => ?_
 refine hcl 3 [.one .keep] [(2, 1), (3, 2)] [(1, 2), (2, 3)] [1, 2] h (strings_Builder_String_h_ok _) (fun _ => by kernel_rfl) fun v25 h => ?_
 obtain rfl := Option.some.inj h; exact lh 3 ⟨59, [(2, (fS ((toBA (v24)))))], [(0, (.was p0 [1] q0 w0)), (1, (.glb GV))], [0, 1], []⟩ (le_a (by kernel_rfl)) rfl rfl (by kernel_rfl) (by kernel_rfl)

def literal_write_h2_m0 (p0 : Env) (q0 : Nat → Prop) (w0 : World) (a0 : List Int) (a1 : Va) : List (Nat × AObj) := [(0, (.was p0 [1, 2, 3] q0 w0)), (1, (.glb GV)), (2, (.box 80 [(.opt 2), (.row 3 (List.length (a0)))])), (3, (.frow 5 1 (List.map eU8 (a0)))), (4, (.box 45 [(fI (a1.type)), (fI (a1.num)), (fS (a1.text)), (.fz ((eL 4 eVaR) (a1.items)))]))]
def literal_write_h2 (r31 : (List Int) → (List Va) → Option ((List Int))) (a0 : List Int) (a1 : Va) : Option ((List Int)) := (Option.bind ((Option.bind ((Option.bind ((bif (a1.type == 1) then (Option.bind (strconv_FormatBool ((a1.num == 1))) fun v1 => (Option.bind (strings_Builder_WriteString_h (a0) (v1)) fun v2 => (some (.inr (.inl (v2)))))) else (bif (a1.type == 2) then (Option.bind (strconv_FormatInt_h (a1.num) (10)) fun v3 => (Option.bind (strings_Builder_WriteString_h (a0) (v3)) fun v4 => (some (.inr (.inl (v4)))))) else (bif (a1.type == 4) then (Option.bind (strings_Builder_WriteString_h (a0) ((⟨#[48, 120]⟩ : ByteArray))) fun v5 => (Option.bind (literal_hexadecimal_h (v5) ((wu8 a1.num))) fun v6 => (some (.inr (.inl (v6)))))) else (bif (a1.type == 8) then (Option.bind (strings_Builder_WriteByte_h (a0) (114)) fun v7 => (some (.inl (v7)))) else (bif (a1.type == 3) then (some (.inr (.inr (.inl ())))) else (some (.inr (.inr (.inr ()))))))))) : Option ((((List Int)) ⊕ ((((List Int)) ⊕ (((Unit) ⊕ (Unit)))))))) fun (v8 : (((List Int)) ⊕ ((((List Int)) ⊕ (((Unit) ⊕ (Unit))))))) => Sum.elim (fun v9 => (some (.inl (v9)))) (Sum.elim (fun v10 => (some (.inr (.inl (v10))))) (Sum.elim (fun v11 => (some (.inl (a0)))) (fun v12 => (some (.inr (.inr ())))))) v8) : Option ((((List Int)) ⊕ ((((List Int)) ⊕ (Unit)))))) fun (v13 : (((List Int)) ⊕ ((((List Int)) ⊕ (Unit))))) => Sum.elim (fun v14 => (Option.bind (literal_Quote_h (a1.text)) fun v15 => (Option.bind (strings_Builder_WriteString_h (v14) (v15)) fun v16 => (some (v16))))) (Sum.elim (fun v17 => (some (v17))) (fun v18 => (Option.bind (literal_brackets (a1.type)) fun v19 => (Option.bind (strings_Builder_WriteString_h (a0) (v19.1)) fun v20 => (Option.bind (r31 (v20) (a1.items)) fun v21 => (Option.bind (strings_Builder_WriteString_h (v21) (v19.2)) fun v22 => (some (v22)))))))) v13) : Option ((List Int))) fun (v24 : (List Int)) => (some (v24)))
theorem literal_write_h2_ok (r31 : (List Int) → (List Va) → Option ((List Int))) (ih31 : ∀ (x0 : List Int) (x1 : List Va) r, r31 x0 x1 = some r → HCall Tryz.prog 105 ([(.ref 2 0 0), (.fz ((eL 4 eVaR) (x1)))] ++ []) [(1, (.glb GV)), (2, (.box 80 [(.opt 2), (.row 3 (List.length (x0)))])), (3, (.frow 5 1 (List.map eU8 (x0))))] [1, 2, 3] (.ret (.fz (.tup []))) [(1, (.glb GV)), (2, (.box 80 [(.opt 2), (.row 3 (List.length (r)))])), (3, (.frow 5 1 (List.map eU8 (r))))] [1, 2, 3]) (a0 : List Int) (a1 : Va) (r : (List Int)) (h : literal_write_h2 r31 a0 a1 = some r) : HCall Tryz.prog 115 ([(.ref 2 0 0), (.fz (eVa (a1)))] ++ []) [(1, (.glb GV)), (2, (.box 80 [(.opt 2), (.row 3 (List.length (a0)))])), (3, (.frow 5 1 (List.map eU8 (a0))))] [1, 2, 3] (.ret (.fz (.tup []))) [(1, (.glb GV)), (2, (.box 80 [(.opt 2), (.row 3 (List.length (r)))])), (3, (.frow 5 1 (List.map eU8 (r))))] [1, 2, 3] := by
 unfold literal_write_h2 at h
 refine hcx (gi := 0) Tryz.func115 (by kernel_rfl) (by kernel_rfl) (by kernel_rfl) (by kernel_rfl) (by kernel_rfl) (by kernel_rfl) (by kernel_rfl) (by kernel_rfl) ?_
 intro p0 q0 w0
 refine jn1 10 (.exit 0) (fun v24 => ⟨59, [], [(0, (.was p0 [1, 2, 3] q0 w0)), (1, (.glb GV)), (2, (.box 80 [(.opt 2), (.row 3 (List.length (v24)))])), (3, (.frow 5 1 (List.map eU8 (v24))))], [0, 1, 2, 3], []⟩) h (by kernel_rfl) (fun v24 h => ?_) fun v24 h => ?_
 ·refine jnQ 3 (fun v13 e st => Sum.elim (fun p => e = .normal ∧ LeSt st ⟨59, [(0, (.ref 2 0 0)), (3, (.ref 4 0 0))], [(0, (.was p0 [1, 2, 3] q0 w0)), (1, (.glb GV)), (2, (.box 80 [(.opt 2), (.row 3 (List.length (p)))])), (3, (.frow 5 1 (List.map eU8 (p)))), (4, (.box 45 [(fI (a1.type)), (fI (a1.num)), (fS (a1.text)), (.fz ((eL 4 eVaR) (a1.items)))]))], [4, 0, 1, 2, 3], []⟩) (Sum.elim (fun p => e = .exit 0 ∧ LeSt st ⟨59, [], [(0, (.was p0 [1, 2, 3] q0 w0)), (1, (.glb GV)), (2, (.box 80 [(.opt 2), (.row 3 (List.length (p)))])), (3, (.frow 5 1 (List.map eU8 (p))))], [0, 1, 2, 3], []⟩) (fun p => e = .exit 6 ∧ LeSt st ⟨59, [(0, (.ref 2 0 0)), (3, (.ref 4 0 0))], (literal_write_h2_m0 p0 q0 w0 a0 a1), [4, 0, 1, 2, 3], []⟩)) v13) h (by kernel_rfl) (fun v13 h => ?_) fun v13 h e st' hq => ?_
  ·refine jnQ 1 (fun v8 e st => Sum.elim (fun p => e = .normal ∧ LeSt st ⟨59, [(0, (.ref 2 0 0)), (3, (.ref 4 0 0))], [(0, (.was p0 [1, 2, 3] q0 w0)), (1, (.glb GV)), (2, (.box 80 [(.opt 2), (.row 3 (List.length (p)))])), (3, (.frow 5 1 (List.map eU8 (p)))), (4, (.box 45 [(fI (a1.type)), (fI (a1.num)), (fS (a1.text)), (.fz ((eL 4 eVaR) (a1.items)))]))], [4, 0, 1, 2, 3], []⟩) (Sum.elim (fun p => e = .exit 0 ∧ LeSt st ⟨59, [], [(0, (.was p0 [1, 2, 3] q0 w0)), (1, (.glb GV)), (2, (.box 80 [(.opt 2), (.row 3 (List.length (p)))])), (3, (.frow 5 1 (List.map eU8 (p))))], [0, 1, 2, 3], []⟩) (Sum.elim (fun p => e = .exit 5 ∧ LeSt st ⟨59, [(0, (.ref 2 0 0)), (3, (.ref 4 0 0))], (literal_write_h2_m0 p0 q0 w0 a0 a1), [4, 0, 1, 2, 3], []⟩) (fun p => e = .exit 6 ∧ LeSt st ⟨59, [(0, (.ref 2 0 0)), (3, (.ref 4 0 0))], (literal_write_h2_m0 p0 q0 w0 a0 a1), [4, 0, 1, 2, 3], []⟩))) v8) h (by kernel_rfl) (fun v8 h => ?_) fun v8 h e st' hq => ?_
   ·refine cd 15 h (by kernel_rfl) (fun h => ?_) fun h => ?_
    ·refine cl 7 h (strconv_FormatBool_ok _) (by kernel_rfl) fun v1 h => ?_
     refine hcl 0 [.one .keep, .one .keep] [(2, 1), (3, 2)] [(1, 2), (2, 3)] [1, 2] h (strings_Builder_WriteString_h_ok _ _) (fun _ => by kernel_rfl) fun v2 h => ?_
     cases h; exact lj 2 (by kernel_rfl)
    refine cd 7 h (by kernel_rfl) (fun h => ?_) fun h => ?_
    ·refine hcl 6 [.one .keep, .one .keep] [(1, 1)] [(1, 1)] [1] h (strconv_FormatInt_h_ok _ _) (fun _ => by kernel_rfl) fun v3 h => ?_
     refine hcl 0 [.one .keep, .one .keep] [(2, 1), (3, 2)] [(1, 2), (2, 3)] [1, 2] h (strings_Builder_WriteString_h_ok _ _) (fun _ => by kernel_rfl) fun v4 h => ?_
     cases h; exact lj 2 (by kernel_rfl)
    refine cd 7 h (by kernel_rfl) (fun h => ?_) fun h => ?_
    ·refine hcl 5 [.one .keep, .one .keep] [(2, 1), (3, 2)] [(1, 2), (2, 3)] [1, 2] h (strings_Builder_WriteString_h_ok _ _) (fun _ => by kernel_rfl) fun v5 h => ?_
     refine hcl 6 [.one .keep, .one .keep] [(2, 1), (3, 2)] [(1, 2), (2, 3)] [1, 2] h (literal_hexadecimal_h_ok _ _) (fun _ => by kernel_rfl) fun v6 h => ?_
     cases h; exact lj 2 (by kernel_rfl)
    refine cd 7 h (by kernel_rfl) (fun h => ?_) fun h => ?_
    ·refine hcl 3 [.one .keep, .one .keep] [(2, 1), (3, 2)] [(1, 2), (2, 3)] [1, 2] h (strings_Builder_WriteByte_h_ok _ _) (fun _ => by kernel_rfl) fun v7 h => ?_
     cases h; exact lj 1 (by kernel_rfl)
    refine cd 6 h (by kernel_rfl) (fun h => ?_) fun h => ?_
    ·cases h; exact lj 1 (by kernel_rfl)
    cases h; exact lj 2 (by kernel_rfl)
   rcases v8 with v9 | (v10 | (v11 | v12))
   ·try simp only [Sum.elim_inl, Sum.elim_inr] at h
    obtain ⟨rfl, hle⟩ := hq
    refine ⟨_, hle, ?_⟩
    cases h; exact lj 0 (by kernel_rfl)
   ·try simp only [Sum.elim_inl, Sum.elim_inr] at h
    obtain ⟨rfl, hle⟩ := hq
    refine ⟨_, hle, ?_⟩
    cases h; exact lj 0 (by kernel_rfl)
   ·try simp only [Sum.elim_inl, Sum.elim_inr] at h
    obtain ⟨rfl, hle⟩ := hq
    refine ⟨_, hle, ?_⟩
    cases h; exact lj 0 (by kernel_rfl)
   ·try simp only [Sum.elim_inl, Sum.elim_inr] at h
    obtain ⟨rfl, hle⟩ := hq
    refine ⟨_, hle, ?_⟩
    cases h; exact lj 0 (by kernel_rfl)
  rcases v13 with v14 | (v17 | v18)
  ·try simp only [Sum.elim_inl, Sum.elim_inr] at h
   obtain ⟨rfl, hle⟩ := hq
   refine ⟨_, hle, ?_⟩
   refine hcl 5 [.one .keep] [(1, 1)] [(1, 1)] [1] h (literal_Quote_h_ok _) (fun _ => by kernel_rfl) fun v15 h => ?_
   refine hcl 0 [.one .keep, .one .keep] [(2, 1), (3, 2)] [(1, 2), (2, 3)] [1, 2] h (strings_Builder_WriteString_h_ok _ _) (fun _ => by kernel_rfl) fun v16 h => ?_
   cases h; exact lj 2 (by kernel_rfl)
  ·try simp only [Sum.elim_inl, Sum.elim_inr] at h
   obtain ⟨rfl, hle⟩ := hq
   refine ⟨_, hle, ?_⟩
   cases h; exact lj 0 (by kernel_rfl)
  ·try simp only [Sum.elim_inl, Sum.elim_inr] at h
   obtain ⟨rfl, hle⟩ := hq
   refine ⟨_, hle, ?_⟩
   refine cl 5 h (literal_brackets_ok _) (by kernel_rfl) fun v19 h => ?_
   refine hcl 10 [.one .keep, .one .keep] [(2, 1), (3, 2)] [(1, 2), (2, 3)] [1, 2] h (strings_Builder_WriteString_h_ok _ _) (fun _ => by kernel_rfl) fun v20 h => ?_
   refine hcl 6 [.one .keep, .one .keep] [(1, 1), (2, 2), (3, 3)] [(1, 1), (2, 2), (3, 3)] [1, 2, 3] h (ih31 _ _) (fun _ => by kernel_rfl) fun v21 h => ?_
   refine hcl 4 [.one .keep, .one .keep] [(2, 1), (3, 2)] [(1, 2), (2, 3)] [1, 2] h (strings_Builder_WriteString_h_ok _ _) (fun _ => by kernel_rfl) fun v22 h => ?_
   cases h; exact lj 2 (by kernel_rfl)
 obtain rfl := Option.some.inj h; exact lh 0 ⟨59, [], [(0, (.was p0 [1, 2, 3] q0 w0)), (1, (.glb GV)), (2, (.box 80 [(.opt 2), (.row 3 (List.length (v24)))])), (3, (.frow 5 1 (List.map eU8 (v24))))], [0, 1, 2, 3], []⟩ (le_a (by kernel_rfl)) rfl rfl (by kernel_rfl) (by kernel_rfl)

def literal_writeAll_h_l1 (a1 : List Va) (r31 : (List Int) → (List Va) → Option ((List Int))) (v1 : (Int) × (List Int)) : Option (((Int) × (List Int)) ⊕ ((List Int))) := (bif (decide (v1.1 < (List.length a1 : Int))) then (Option.bind (idx a1 v1.1) fun v2 => (Option.bind ((bif (decide (0 < v1.1)) then (Option.bind (strings_Builder_WriteString_h (v1.2) ((⟨#[44, 32]⟩ : ByteArray))) fun v3 => (some (v3))) else (some (v1.2))) : Option ((List Int))) fun (v5 : (List Int)) => (Option.bind (literal_write_h2 (r31) (v5) (v2)) fun v6 => (some (.inl ((w64 (v1.1 + 1)), v6)))))) else (some (.inr (v1.2))))
def literal_writeAll_h_b (r31 : (List Int) → (List Va) → Option ((List Int))) (a0 : List Int) (a1 : List Va) : Option ((List Int)) := (Option.bind (loopN (literal_writeAll_h_l1 a1 r31) fuel (0, a0)) fun (v8 : (List Int)) => (some (v8)))
theorem literal_writeAll_h_b_ok (r31 : (List Int) → (List Va) → Option ((List Int))) (ih31 : ∀ (x0 : List Int) (x1 : List Va) r, r31 x0 x1 = some r → HCall Tryz.prog 105 ([(.ref 2 0 0), (.fz ((eL 4 eVaR) (x1)))] ++ []) [(1, (.glb GV)), (2, (.box 80 [(.opt 2), (.row 3 (List.length (x0)))])), (3, (.frow 5 1 (List.map eU8 (x0))))] [1, 2, 3] (.ret (.fz (.tup []))) [(1, (.glb GV)), (2, (.box 80 [(.opt 2), (.row 3 (List.length (r)))])), (3, (.frow 5 1 (List.map eU8 (r))))] [1, 2, 3]) (a0 : List Int) (a1 : List Va) (r : (List Int)) (h : literal_writeAll_h_b r31 a0 a1 = some r) : HCall Tryz.prog 105 ([(.ref 2 0 0), (.fz ((eL 4 eVaR) (a1)))] ++ []) [(1, (.glb GV)), (2, (.box 80 [(.opt 2), (.row 3 (List.length (a0)))])), (3, (.frow 5 1 (List.map eU8 (a0))))] [1, 2, 3] (.ret (.fz (.tup []))) [(1, (.glb GV)), (2, (.box 80 [(.opt 2), (.row 3 (List.length (r)))])), (3, (.frow 5 1 (List.map eU8 (r))))] [1, 2, 3] := by
 unfold literal_writeAll_h_b at h
 refine hcx (gi := 0) Tryz.func105 (by kernel_rfl) (by kernel_rfl) (by kernel_rfl) (by kernel_rfl) (by kernel_rfl) (by kernel_rfl) (by kernel_rfl) (by kernel_rfl) ?_
 intro p0 q0 w0
 refine lp1 7 (fun v1 => ⟨21, [(0, (.ref 2 0 0)), (6, (.fz ((eL 4 eVaR) (a1)))), (7, (fI ((List.length a1 : Int)))), (8, (fI (v1.1)))], [(0, (.was p0 [1, 2, 3] q0 w0)), (1, (.glb GV)), (2, (.box 80 [(.opt 2), (.row 3 (List.length (v1.2)))])), (3, (.frow 5 1 (List.map eU8 (v1.2))))], [0, 1, 2, 3], []⟩) (.exit 0) (fun v8 => ⟨21, [], [(0, (.was p0 [1, 2, 3] q0 w0)), (1, (.glb GV)), (2, (.box 80 [(.opt 2), (.row 3 (List.length (v8)))])), (3, (.frow 5 1 (List.map eU8 (v8))))], [0, 1, 2, 3], []⟩) h (by kernel_rfl) (by kernel_rfl) (fun v1 r h => ?_) fun v8 h => ?_
 ·unfold literal_writeAll_h_l1 at h
  refine cd 5 h (by kernel_rfl) (fun h => ?_) fun h => ?_
  ·refine ix nVaR 6 h (by kernel_rfl) fun v2 h => ?_
   refine jn1 6 .normal (fun v5 => ⟨21, [(0, (.ref 2 0 0)), (5, (.ref 4 0 0)), (6, (.fz ((eL 4 eVaR) (a1)))), (7, (fI ((List.length a1 : Int)))), (8, (fI (v1.1)))], [(0, (.was p0 [1, 2, 3] q0 w0)), (1, (.glb GV)), (2, (.box 80 [(.opt 2), (.row 3 (List.length (v5)))])), (3, (.frow 5 1 (List.map eU8 (v5)))), (4, (.box 45 [(fI (v2.type)), (fI (v2.num)), (fS (v2.text)), (.fz ((eL 4 eVaR) (v2.items)))]))], [4, 0, 1, 2, 3], []⟩) h (by kernel_rfl) (fun v5 h => ?_) fun v5 h => ?_
   ·refine cd 5 h (by kernel_rfl) (fun h => ?_) fun h => ?_
    ·refine hcl 2 [.one .keep, .one .keep] [(2, 1), (3, 2)] [(1, 2), (2, 3)] [1, 2] h (strings_Builder_WriteString_h_ok _ _) (fun _ => by kernel_rfl) fun v3 h => ?_
     cases h; exact lj 1 (by kernel_rfl)
    cases h; exact lj 1 (by kernel_rfl)
   refine hcl 3 [.one .keep, .one .keep] [(1, 1), (2, 2), (3, 3)] [(1, 1), (2, 2), (3, 3)] [1, 2, 3] h (literal_write_h2_ok (r31) (ih31) _ _) (fun _ => by kernel_rfl) fun v6 h => ?_
   cases h; exact lj 5 (by kernel_rfl)
  cases h; exact lo 1 (by kernel_rfl)
 obtain rfl := Option.some.inj h; exact lh 0 ⟨21, [], [(0, (.was p0 [1, 2, 3] q0 w0)), (1, (.glb GV)), (2, (.box 80 [(.opt 2), (.row 3 (List.length (v8)))])), (3, (.frow 5 1 (List.map eU8 (v8))))], [0, 1, 2, 3], []⟩ (le_a (by kernel_rfl)) rfl rfl (by kernel_rfl) (by kernel_rfl)
def literal_writeAll_h : Nat → (List Int) → (List Va) → Option ((List Int))
  | 0 => fun _ _ => none
  | n + 1 => literal_writeAll_h_b (literal_writeAll_h n)
theorem literal_writeAll_h_ok : ∀ n : Nat, ∀ (x0 : List Int) (x1 : List Va) r, literal_writeAll_h n x0 x1 = some r → HCall Tryz.prog 105 ([(.ref 2 0 0), (.fz ((eL 4 eVaR) (x1)))] ++ []) [(1, (.glb GV)), (2, (.box 80 [(.opt 2), (.row 3 (List.length (x0)))])), (3, (.frow 5 1 (List.map eU8 (x0))))] [1, 2, 3] (.ret (.fz (.tup []))) [(1, (.glb GV)), (2, (.box 80 [(.opt 2), (.row 3 (List.length (r)))])), (3, (.frow 5 1 (List.map eU8 (r))))] [1, 2, 3]
  | 0 => fun _ _ _ h => by cases h
  | n + 1 => fun a0 a1 r h => literal_writeAll_h_b_ok (literal_writeAll_h n) (literal_writeAll_h_ok n) a0 a1 r h

def literal_PrintAll_h_l1 (a0 : List Va) (v1 : (Int)) : Option (((Int)) ⊕ (((Unit) ⊕ ((Int))))) := (bif (decide (v1 < (List.length a0 : Int))) then (Option.bind (idx a0 v1) fun v2 => (Option.bind (value_Check fuel (v2)) fun v3 => (bif (v3 != 0) then (some (.inr (.inr (v3)))) else (some (.inl ((w64 (v1 + 1)))))))) else (some (.inr (.inl ()))))
def literal_PrintAll_h (a0 : List Va) : Option ((ByteArray) × (Int)) := (Option.bind (loopN (literal_PrintAll_h_l1 a0) fuel (0)) fun (v4 : ((Unit) ⊕ ((Int)))) => Sum.elim (fun v5 => (Option.bind (literal_writeAll_h fuel (([] : List (Int))) (a0)) fun v6 => (Option.bind (strings_Builder_String_h (v6)) fun v7 => (some ((toBA (v6)), 0))))) (fun v8 => (some ((⟨#[]⟩ : ByteArray), v8))) v4)
theorem literal_PrintAll_h_ok (a0 : List Va) (r : (ByteArray) × (Int)) (h : literal_PrintAll_h a0 = some r) : HCall Tryz.prog 93 ([(.fz ((eL 4 eVaR) (a0)))] ++ []) [(1, (.glb GV))] [1] (.ret (.fz (.tup [(eS (r.1)), (eI (r.2))]))) [(1, (.glb GV))] [1] := by
 unfold literal_PrintAll_h at h
 refine hcx (gi := 0) Tryz.func93 (by kernel_rfl) (by kernel_rfl) (by kernel_rfl) (by kernel_rfl) (by kernel_rfl) (by kernel_rfl) (by kernel_rfl) (by kernel_rfl) ?_
 intro p0 q0 w0
 refine lpx 13 (fun v1 => ⟨23, [(0, (.fz ((eL 4 eVaR) (a0)))), (8, (.fz ((eL 4 eVaR) (a0)))), (9, (fI ((List.length a0 : Int)))), (10, (fI (v1)))], [(0, (.was p0 [1] q0 w0)), (1, (.glb GV))], [0, 1], []⟩) (fun v4 e st => Sum.elim (fun p => e = .exit 0 ∧ LeSt st ⟨23, [(0, (.fz ((eL 4 eVaR) (a0))))], [(0, (.was p0 [1] q0 w0)), (1, (.glb GV))], [0, 1], []⟩) (fun p => e = .ret ∧ LeSt st ⟨23, [(2, (fS ((⟨#[]⟩ : ByteArray)))), (3, (fI (p)))], [(0, (.was p0 [1] q0 w0)), (1, (.glb GV))], [0, 1], []⟩) v4) h (by kernel_rfl) (le_a (by kernel_rfl)) (fun v1 r h => ?_) fun v4 h e st' hq => ?_
 ·unfold literal_PrintAll_h_l1 at h
  refine cd 5 h (by kernel_rfl) (fun h => ?_) fun h => ?_
  ·refine ix nVaR 5 h (by kernel_rfl) fun v2 h => ?_
   refine cl 7 h (value_Check_ok _ _) (by kernel_rfl) fun v3 h => ?_
   refine cd 7 h (by kernel_rfl) (fun h => ?_) fun h => ?_
   ·cases h; exact lo 7 (by kernel_rfl)
   cases h; exact lj 5 (by kernel_rfl)
  cases h; exact lo 1 (by kernel_rfl)
 rcases v4 with v5 | v8
 ·try simp only [Sum.elim_inl, Sum.elim_inr] at h
  obtain ⟨rfl, hle⟩ := hq
  refine ⟨_, hle, ?_⟩
  refine wle 3 (le_nilcell (e := 5) (size := 1) (id2 := 2) (j := 1) (id := 3) (e2 := 80) (cells := [(.fz (.atom (.pointer none))), (.fz (.atom (.slice none 0 0)))]) (by kernel_rfl) (by kernel_rfl) (by kernel_rfl) (by kernel_rfl)) (by kernel_rfl) ?_
  refine wle 0 (le_optcell (id := 2) (e2 := 80) (cells := [(.fz (.atom (.pointer none))), (.row 3 (List.length (([] : List (Int)))))]) (cells' := [.opt 2, (.row 3 (List.length (([] : List (Int)))))]) (by kernel_rfl) (by kernel_rfl)) (by kernel_rfl) ?_
  refine hcl 4 [.one .keep, .one .keep] [(1, 1), (2, 2), (3, 3)] [(1, 1), (2, 2), (3, 3)] [1, 2, 3] h (literal_writeAll_h_ok fuel _ _) (fun _ => by kernel_rfl) fun v6 h => ?_
  refine hcl 3 [.one .keep] [(2, 1), (3, 2)] [(1, 2), (2, 3)] [1, 2] h (strings_Builder_String_h_ok _) (fun _ => by kernel_rfl) fun v7 h => ?_
  obtain rfl := Option.some.inj h; exact lh 4 ⟨23, [(2, (fS ((toBA (v6))))), (3, (fI (0)))], [(0, (.was p0 [1] q0 w0)), (1, (.glb GV))], [0, 1], []⟩ (le_a (by kernel_rfl)) rfl rfl (by kernel_rfl) (by kernel_rfl)
 ·try simp only [Sum.elim_inl, Sum.elim_inr] at h
  obtain ⟨rfl, hle⟩ := hq
  refine ⟨_, hle, ?_⟩
  obtain rfl := Option.some.inj h; exact lh 0 ⟨23, [(2, (fS ((⟨#[]⟩ : ByteArray)))), (3, (fI (v8)))], [(0, (.was p0 [1] q0 w0)), (1, (.glb GV))], [0, 1], []⟩ (le_a (by kernel_rfl)) rfl rfl (by kernel_rfl) (by kernel_rfl)

def literal_Print_h (a0 : Va) : Option ((ByteArray) × (Int)) := (Option.bind (literal_PrintAll_h (([a0] : List (Va)))) fun v1 => (some (v1.1, v1.2)))
theorem literal_Print_h_ok (a0 : Va) (r : (ByteArray) × (Int)) (h : literal_Print_h a0 = some r) : HCall Tryz.prog 74 ([(.fz (eVa (a0)))] ++ []) [(1, (.glb GV))] [1] (.ret (.fz (.tup [(eS (r.1)), (eI (r.2))]))) [(1, (.glb GV))] [1] := by
 unfold literal_Print_h at h
 refine hcx (gi := 0) Tryz.func74 (by kernel_rfl) (by kernel_rfl) (by kernel_rfl) (by kernel_rfl) (by kernel_rfl) (by kernel_rfl) (by kernel_rfl) (by kernel_rfl) ?_
 intro p0 q0 w0
 refine wle 10 (le_eq (t := 5) (x := .lim 4 1 [eVa (a0)]) (y := .lim 4 1 (List.map eVaR ([a0] : List (Va)))) (by kernel_rfl) (by simp only [List.map, eVaR_eq])) (by kernel_rfl) ?_
 refine hcl 0 [(.one (.sl 4))] [(1, 1)] [(1, 1)] [1] h (literal_PrintAll_h_ok _) (fun _ => by kernel_rfl) fun v1 h => ?_
 obtain rfl := Option.some.inj h; exact lh 6 ⟨9, [(2, (fS (v1.1))), (3, (fI (v1.2)))], [(0, (.was p0 [1] q0 w0)), (1, (.glb GV))], [0, 1], []⟩ (le_a (by kernel_rfl)) rfl rfl (by kernel_rfl) (by kernel_rfl)

def grammar_text_h_l1 (v20 : Ru) (v29 : (Int) × (List Int)) : Option (((Int) × (List Int)) ⊕ ((List Int))) := (bif (decide (v29.1 < (List.length v20.args : Int))) then (Option.bind (idx v20.args v29.1) fun v30 => (Option.bind (grammar_text_1_h (v30) (v29.2)) fun v31 => (Option.bind (strings_Builder_WriteByte_h (v31) (44)) fun v32 => (some (.inl ((w64 (v29.1 + 1)), v32)))))) else (some (.inr (v29.2))))
def grammar_text_h_l2 (a0 : La) (v19 : (Int) × (List Int)) : Option (((Int) × (List Int)) ⊕ ((List Int))) := (bif (decide (v19.1 < (List.length a0.rules : Int))) then (Option.bind (idx a0.rules v19.1) fun v20 => (Option.bind (grammar_text_1_h (v20.symbol) (v19.2)) fun v21 => (Option.bind (strings_Builder_WriteByte_h (v21) (61)) fun v22 => (Option.bind ((bif (v20.kind == 1) then (Option.bind (strings_Builder_WriteString_h (v22) ((⟨#[105, 110]⟩ : ByteArray))) fun v23 => (Option.bind (grammar_text_1_h (v20.input) (v23)) fun v24 => (some (v24)))) else (bif (v20.kind == 2) then (Option.bind (literal_Print_h (v20.const)) fun v25 => (Option.bind (strings_Builder_WriteString_h (v22) (v25.1)) fun v26 => (some (v26)))) else (Option.bind (cat v20.op (⟨#[40]⟩ : ByteArray)) fun v27 => (Option.bind (strings_Builder_WriteString_h (v22) (v27)) fun v28 => (Option.bind (loopN (grammar_text_h_l1 v20) fuel (0, v28)) fun (v34 : (List Int)) => (Option.bind (strings_Builder_WriteByte_h (v34) (41)) fun v35 => (some (v35)))))))) : Option ((List Int))) fun (v37 : (List Int)) => (Option.bind (strings_Builder_WriteByte_h (v37) (10)) fun v38 => (some (.inl ((w64 (v19.1 + 1)), v38)))))))) else (some (.inr (v19.2))))
def grammar_text_h_l3 (a0 : La) (v10 : (Int) × (List Int)) : Option (((Int) × (List Int)) ⊕ ((List Int))) := (bif (decide (v10.1 < (List.length a0.symbols : Int))) then (Option.bind (idx a0.symbols v10.1) fun v11 => (Option.bind (cat v11.name (⟨#[58]⟩ : ByteArray)) fun v12 => (Option.bind (strings_Builder_WriteString_h (v10.2) (v12)) fun v13 => (Option.bind (grammar_text_1_h (v11.type) (v13)) fun v14 => (Option.bind (strings_Builder_WriteByte_h (v14) (44)) fun v15 => (some (.inl ((w64 (v10.1 + 1)), v15)))))))) else (some (.inr (v10.2))))
def grammar_text_h_l4 (a0 : La) (v3 : (Int) × (List Int)) : Option (((Int) × (List Int)) ⊕ ((List Int))) := (bif (decide (v3.1 < (List.length a0.inputs : Int))) then (Option.bind (idx a0.inputs v3.1) fun v4 => (Option.bind (grammar_text_1_h (v4) (v3.2)) fun v5 => (Option.bind (strings_Builder_WriteByte_h (v5) (44)) fun v6 => (some (.inl ((w64 (v3.1 + 1)), v6)))))) else (some (.inr (v3.2))))
def grammar_text_h (a0 : La) : Option ((ByteArray)) := (Option.bind (cat a0.name (⟨#[10]⟩ : ByteArray)) fun v1 => (Option.bind (strings_Builder_WriteString_h (([] : List (Int))) (v1)) fun v2 => (Option.bind (loopN (grammar_text_h_l4 a0) fuel (0, v2)) fun (v8 : (List Int)) => (Option.bind (strings_Builder_WriteByte_h (v8) (10)) fun v9 => (Option.bind (loopN (grammar_text_h_l3 a0) fuel (0, v9)) fun (v17 : (List Int)) => (Option.bind (strings_Builder_WriteByte_h (v17) (10)) fun v18 => (Option.bind (loopN (grammar_text_h_l2 a0) fuel (0, v18)) fun (v40 : (List Int)) => (Option.bind (strings_Builder_String_h (v40)) fun v41 => (some ((toBA (v40))))))))))))
theorem grammar_text_h_ok (a0 : La) (r : (ByteArray)) (h : grammar_text_h a0 = some r) : HCall Tryz.prog 51 ([(.fz (eLa (a0)))] ++ []) [(1, (.glb GV))] [1] (.ret (fS (r))) [(1, (.glb GV))] [1] := by
 unfold grammar_text_h at h
 refine hcx (gi := 0) Tryz.func51 (by kernel_rfl) (by kernel_rfl) (by kernel_rfl) (by kernel_rfl) (by kernel_rfl) (by kernel_rfl) (by kernel_rfl) (by kernel_rfl) ?_
 intro p0 q0 w0
 refine wle 8 (le_nilcell (e := 5) (size := 1) (id2 := 3) (j := 1) (id := 4) (e2 := 80) (cells := [(.fz (.atom (.pointer none))), (.fz (.atom (.slice none 0 0)))]) (by kernel_rfl) (by kernel_rfl) (by kernel_rfl) (by kernel_rfl)) (by kernel_rfl) ?_
 refine wle 0 (le_optcell (id := 3) (e2 := 80) (cells := [(.fz (.atom (.pointer none))), (.row 4 (List.length (([] : List (Int)))))]) (cells' := [.opt 3, (.row 4 (List.length (([] : List (Int)))))]) (by kernel_rfl) (by kernel_rfl)) (by kernel_rfl) ?_
 obtain ⟨v1, hv1, h⟩ := Option.bind_eq_some_iff.1 h
 refine nst 10 (s_cat (t := 9) (X := (.tmp 17)) (Y := (.const (.string ⟨#[10]⟩))) (yt := 9) (s := a0.name) (u := (⟨#[10]⟩ : ByteArray)) hv1 (by kernel_rfl) (by kernel_rfl) (by kernel_rfl)) (by kernel_rfl) ?_
 refine hcl 0 [.one .keep, .one .keep] [(3, 1), (4, 2)] [(1, 3), (2, 4)] [1, 2] h (strings_Builder_WriteString_h_ok _ _) (fun _ => by kernel_rfl) fun v2 h => ?_
 refine lp1 10 (fun v3 => ⟨102, [(1, (.ref 2 0 0)), (3, (.ref 3 0 0)), (4, (.fn 70 [(.ref 3 0 0)])), (21, (.fz ((eL 1 eI) (a0.inputs)))), (22, (fI ((List.length a0.inputs : Int)))), (23, (fI (v3.1)))], [(0, (.was p0 [1] q0 w0)), (1, (.glb GV)), (2, (.box 26 [(fS (a0.name)), (.fz ((eL 1 eI) (a0.inputs))), (.fz ((eL 2 eSy) (a0.symbols))), (.fz ((eL 9 eRu) (a0.rules)))])), (3, (.box 80 [(.opt 3), (.row 4 (List.length (v3.2)))])), (4, (.frow 5 1 (List.map eU8 (v3.2))))], [4, 3, 2, 0, 1], []⟩) (.exit 0) (fun v8 => ⟨102, [(1, (.ref 2 0 0)), (3, (.ref 3 0 0)), (4, (.fn 70 [(.ref 3 0 0)]))], [(0, (.was p0 [1] q0 w0)), (1, (.glb GV)), (2, (.box 26 [(fS (a0.name)), (.fz ((eL 1 eI) (a0.inputs))), (.fz ((eL 2 eSy) (a0.symbols))), (.fz ((eL 9 eRu) (a0.rules)))])), (3, (.box 80 [(.opt 3), (.row 4 (List.length (v8)))])), (4, (.frow 5 1 (List.map eU8 (v8))))], [4, 3, 2, 0, 1], []⟩) h (by kernel_rfl) (by kernel_rfl) (fun v3 r h => ?_) fun v8 h => ?_
 ·unfold grammar_text_h_l4 at h
  refine cd 5 h (by kernel_rfl) (fun h => ?_) fun h => ?_
  ·refine ix nI 5 h (by kernel_rfl) fun v4 h => ?_
   refine hcl 7 [.one .keep] [(1, 1), (3, 2), (4, 3)] [(1, 1), (2, 3), (3, 4)] [1, 2, 3] h (grammar_text_1_h_ok _ _) (fun _ => by kernel_rfl) fun v5 h => ?_
   refine hcl 2 [.one .keep, .one .keep] [(3, 1), (4, 2)] [(1, 3), (2, 4)] [1, 2] h (strings_Builder_WriteByte_h_ok _ _) (fun _ => by kernel_rfl) fun v6 h => ?_
   cases h; exact lj 5 (by kernel_rfl)
  cases h; exact lo 1 (by kernel_rfl)
 refine hcl 2 [.one .keep, .one .keep] [(3, 1), (4, 2)] [(1, 3), (2, 4)] [1, 2] h (strings_Builder_WriteByte_h_ok _ _) (fun _ => by kernel_rfl) fun v9 h => ?_
 refine lp1 10 (fun v10 => ⟨102, [(1, (.ref 2 0 0)), (3, (.ref 3 0 0)), (4, (.fn 70 [(.ref 3 0 0)])), (34, (.fz ((eL 2 eSy) (a0.symbols)))), (35, (fI ((List.length a0.symbols : Int)))), (36, (fI (v10.1)))], [(0, (.was p0 [1] q0 w0)), (1, (.glb GV)), (2, (.box 26 [(fS (a0.name)), (.fz ((eL 1 eI) (a0.inputs))), (.fz ((eL 2 eSy) (a0.symbols))), (.fz ((eL 9 eRu) (a0.rules)))])), (3, (.box 80 [(.opt 3), (.row 4 (List.length (v10.2)))])), (4, (.frow 5 1 (List.map eU8 (v10.2))))], [4, 3, 2, 0, 1], []⟩) (.exit 2) (fun v17 => ⟨102, [(1, (.ref 2 0 0)), (3, (.ref 3 0 0)), (4, (.fn 70 [(.ref 3 0 0)]))], [(0, (.was p0 [1] q0 w0)), (1, (.glb GV)), (2, (.box 26 [(fS (a0.name)), (.fz ((eL 1 eI) (a0.inputs))), (.fz ((eL 2 eSy) (a0.symbols))), (.fz ((eL 9 eRu) (a0.rules)))])), (3, (.box 80 [(.opt 3), (.row 4 (List.length (v17)))])), (4, (.frow 5 1 (List.map eU8 (v17))))], [4, 3, 2, 0, 1], []⟩) h (by kernel_rfl) (by kernel_rfl) (fun v10 r h => ?_) fun v17 h => ?_
 ·unfold grammar_text_h_l3 at h
  refine cd 5 h (by kernel_rfl) (fun h => ?_) fun h => ?_
  ·refine ix nSy 5 h (by kernel_rfl) fun v11 h => ?_
   obtain ⟨v12, hv12, h⟩ := Option.bind_eq_some_iff.1 h
   refine nst 8 (s_cat (t := 9) (X := (.tmp 41)) (Y := (.const (.string ⟨#[58]⟩))) (yt := 9) (s := v11.name) (u := (⟨#[58]⟩ : ByteArray)) hv12 (by kernel_rfl) (by kernel_rfl) (by kernel_rfl)) (by kernel_rfl) ?_
   refine hcl 0 [.one .keep, .one .keep] [(3, 1), (4, 2)] [(1, 3), (2, 4)] [1, 2] h (strings_Builder_WriteString_h_ok _ _) (fun _ => by kernel_rfl) fun v13 h => ?_
   refine hcl 6 [.one .keep] [(1, 1), (3, 2), (4, 3)] [(1, 1), (2, 3), (3, 4)] [1, 2, 3] h (grammar_text_1_h_ok _ _) (fun _ => by kernel_rfl) fun v14 h => ?_
   refine hcl 2 [.one .keep, .one .keep] [(3, 1), (4, 2)] [(1, 3), (2, 4)] [1, 2] h (strings_Builder_WriteByte_h_ok _ _) (fun _ => by kernel_rfl) fun v15 h => ?_
   cases h; exact lj 5 (by kernel_rfl)
  cases h; exact lo 1 (by kernel_rfl)
 refine hcl 2 [.one .keep, .one .keep] [(3, 1), (4, 2)] [(1, 3), (2, 4)] [1, 2] h (strings_Builder_WriteByte_h_ok _ _) (fun _ => by kernel_rfl) fun v18 h => ?_
 refine lp1 10 (fun v19 => ⟨102, [(3, (.ref 3 0 0)), (4, (.fn 70 [(.ref 3 0 0)])), (52, (.fz ((eL 9 eRu) (a0.rules)))), (53, (fI ((List.length a0.rules : Int)))), (54, (fI (v19.1)))], [(0, (.was p0 [1] q0 w0)), (1, (.glb GV)), (3, (.box 80 [(.opt 3), (.row 4 (List.length (v19.2)))])), (4, (.frow 5 1 (List.map eU8 (v19.2))))], [4, 3, 0, 1], []⟩) (.exit 4) (fun v40 => ⟨102, [(3, (.ref 3 0 0))], [(0, (.was p0 [1] q0 w0)), (1, (.glb GV)), (3, (.box 80 [(.opt 3), (.row 4 (List.length (v40)))])), (4, (.frow 5 1 (List.map eU8 (v40))))], [4, 3, 0, 1], []⟩) h (by kernel_rfl) (by kernel_rfl) (fun v19 r h => ?_) fun v40 h => ?_
 ·unfold grammar_text_h_l2 at h
  refine cd 5 h (by kernel_rfl) (fun h => ?_) fun h => ?_
  ·refine ix nRu 5 h (by kernel_rfl) fun v20 h => ?_
   refine hcl 9 [.one .keep] [(1, 1), (3, 2), (4, 3)] [(1, 1), (2, 3), (3, 4)] [1, 2, 3] h (grammar_text_1_h_ok _ _) (fun _ => by kernel_rfl) fun v21 h => ?_
   refine hcl 3 [.one .keep, .one .keep] [(3, 1), (4, 2)] [(1, 3), (2, 4)] [1, 2] h (strings_Builder_WriteByte_h_ok _ _) (fun _ => by kernel_rfl) fun v22 h => ?_
   refine jn1 8 .normal (fun v37 => ⟨102, [(3, (.ref 3 0 0)), (4, (.fn 70 [(.ref 3 0 0)])), (52, (.fz ((eL 9 eRu) (a0.rules)))), (53, (fI ((List.length a0.rules : Int)))), (54, (fI (v19.1)))], [(0, (.was p0 [1] q0 w0)), (1, (.glb GV)), (3, (.box 80 [(.opt 3), (.row 4 (List.length (v37)))])), (4, (.frow 5 1 (List.map eU8 (v37))))], [4, 3, 0, 1], []⟩) h (by kernel_rfl) (fun v37 h => ?_) fun v37 h => ?_
   ·refine cd 5 h (by kernel_rfl) (fun h => ?_) fun h => ?_
    ·refine hcl 2 [.one .keep, .one .keep] [(3, 1), (4, 2)] [(1, 3), (2, 4)] [1, 2] h (strings_Builder_WriteString_h_ok _ _) (fun _ => by kernel_rfl) fun v23 h => ?_
     refine hcl 5 [.one .keep] [(1, 1), (3, 2), (4, 3)] [(1, 1), (2, 3), (3, 4)] [1, 2, 3] h (grammar_text_1_h_ok _ _) (fun _ => by kernel_rfl) fun v24 h => ?_
     cases h; exact lj 1 (by kernel_rfl)
    refine cd 5 h (by kernel_rfl) (fun h => ?_) fun h => ?_
    ·refine hcl 4 [.one .keep] [(1, 1)] [(1, 1)] [1] h (literal_Print_h_ok _) (fun _ => by kernel_rfl) fun v25 h => ?_
     refine hcl 8 [.one .keep, .one .keep] [(3, 1), (4, 2)] [(1, 3), (2, 4)] [1, 2] h (strings_Builder_WriteString_h_ok _ _) (fun _ => by kernel_rfl) fun v26 h => ?_
     cases h; exact lj 1 (by kernel_rfl)
    obtain ⟨v27, hv27, h⟩ := Option.bind_eq_some_iff.1 h
    refine nst 4 (s_cat (t := 9) (X := (.tmp 66)) (Y := (.const (.string ⟨#[40]⟩))) (yt := 9) (s := v20.op) (u := (⟨#[40]⟩ : ByteArray)) hv27 (by kernel_rfl) (by kernel_rfl) (by kernel_rfl)) (by kernel_rfl) ?_
    refine hcl 0 [.one .keep, .one .keep] [(3, 1), (4, 2)] [(1, 3), (2, 4)] [1, 2] h (strings_Builder_WriteString_h_ok _ _) (fun _ => by kernel_rfl) fun v28 h => ?_
    refine lp1 10 (fun v29 => ⟨102, [(3, (.ref 3 0 0)), (4, (.fn 70 [(.ref 3 0 0)])), (52, (.fz ((eL 9 eRu) (a0.rules)))), (53, (fI ((List.length a0.rules : Int)))), (54, (fI (v19.1))), (70, (.fz ((eL 1 eI) (v20.args)))), (71, (fI ((List.length v20.args : Int)))), (72, (fI (v29.1)))], [(0, (.was p0 [1] q0 w0)), (1, (.glb GV)), (3, (.box 80 [(.opt 3), (.row 4 (List.length (v29.2)))])), (4, (.frow 5 1 (List.map eU8 (v29.2))))], [4, 3, 0, 1], []⟩) (.exit 7) (fun v34 => ⟨102, [(3, (.ref 3 0 0)), (4, (.fn 70 [(.ref 3 0 0)])), (52, (.fz ((eL 9 eRu) (a0.rules)))), (53, (fI ((List.length a0.rules : Int)))), (54, (fI (v19.1)))], [(0, (.was p0 [1] q0 w0)), (1, (.glb GV)), (3, (.box 80 [(.opt 3), (.row 4 (List.length (v34)))])), (4, (.frow 5 1 (List.map eU8 (v34))))], [4, 3, 0, 1], []⟩) h (by kernel_rfl) (by kernel_rfl) (fun v29 r h => ?_) fun v34 h => ?_
    ·unfold grammar_text_h_l1 at h
     refine cd 5 h (by kernel_rfl) (fun h => ?_) fun h => ?_
     ·refine ix nI 5 h (by kernel_rfl) fun v30 h => ?_
      refine hcl 7 [.one .keep] [(1, 1), (3, 2), (4, 3)] [(1, 1), (2, 3), (3, 4)] [1, 2, 3] h (grammar_text_1_h_ok _ _) (fun _ => by kernel_rfl) fun v31 h => ?_
      refine hcl 2 [.one .keep, .one .keep] [(3, 1), (4, 2)] [(1, 3), (2, 4)] [1, 2] h (strings_Builder_WriteByte_h_ok _ _) (fun _ => by kernel_rfl) fun v32 h => ?_
      cases h; exact lj 5 (by kernel_rfl)
     cases h; exact lo 1 (by kernel_rfl)
    refine hcl 1 [.one .keep, .one .keep] [(3, 1), (4, 2)] [(1, 3), (2, 4)] [1, 2] h (strings_Builder_WriteByte_h_ok _ _) (fun _ => by kernel_rfl) fun v35 h => ?_
    cases h; exact lj 1 (by kernel_rfl)
   refine hcl 1 [.one .keep, .one .keep] [(3, 1), (4, 2)] [(1, 3), (2, 4)] [1, 2] h (strings_Builder_WriteByte_h_ok _ _) (fun _ => by kernel_rfl) fun v38 h => ?_
   cases h; exact lj 5 (by kernel_rfl)
  cases h; exact lo 1 (by kernel_rfl)
 refine hcl 2 [.one .keep] [(3, 1), (4, 2)] [(1, 3), (2, 4)] [1, 2] h (strings_Builder_String_h_ok _) (fun _ => by kernel_rfl) fun v41 h => ?_
 obtain rfl := Option.some.inj h; exact lh 3 ⟨102, [(2, (fS ((toBA (v40)))))], [(0, (.was p0 [1] q0 w0)), (1, (.glb GV))], [0, 1], []⟩ (le_a (by kernel_rfl)) rfl rfl (by kernel_rfl) (by kernel_rfl)

def grammar_Fingerprint_h_l1 (v3 : List Int) (v4 : (Int) × (Int)) : Option (((Int) × (Int)) ⊕ ((Int))) := (bif (decide (v4.2 < (List.length v3 : Int))) then (Option.bind (idx v3 v4.2) fun v5 => (some (.inl ((wu64 ((ixor .u64 v4.1 (wu64 v5)) * 1099511628211)), (w64 (v4.2 + 1)))))) else (some (.inr (v4.1))))
def grammar_Fingerprint_h (a0 : La) : Option ((Int) × (Int)) := (Option.bind (grammar_Check (a0)) fun v1 => (bif (v1 != 0) then (some (0, v1)) else (Option.bind (grammar_text_h (a0)) fun v2 => (Option.bind (s2b v2) fun v3 => (Option.bind (loopN (grammar_Fingerprint_h_l1 v3) fuel (14695981039346656037, 0)) fun (v7 : (Int)) => (some (v7, 0)))))))
theorem grammar_Fingerprint_h_ok (a0 : La) (r : (Int) × (Int)) (h : grammar_Fingerprint_h a0 = some r) : HCall Tryz.prog 27 ([(.fz (eLa (a0)))] ++ []) [(1, (.glb GV))] [1] (.ret (.fz (.tup [(eU64 (r.1)), (eI (r.2))]))) [(1, (.glb GV))] [1] := by
 unfold grammar_Fingerprint_h at h
 refine hcx (gi := 0) Tryz.func27 (by kernel_rfl) (by kernel_rfl) (by kernel_rfl) (by kernel_rfl) (by kernel_rfl) (by kernel_rfl) (by kernel_rfl) (by kernel_rfl) ?_
 intro p0 q0 w0
 refine cl 10 h (grammar_Check_ok _) (by kernel_rfl) fun v1 h => ?_
 refine cd 7 h (by kernel_rfl) (fun h => ?_) fun h => ?_
 ·obtain rfl := Option.some.inj h; exact lh 7 ⟨28, [(2, (.fz (eU64 (0)))), (3, (fI (v1)))], [(0, (.was p0 [1] q0 w0)), (1, (.glb GV))], [0, 1], []⟩ (le_a (by kernel_rfl)) rfl rfl (by kernel_rfl) (by kernel_rfl)
 refine hcl 9 [.one .keep] [(1, 1)] [(1, 1)] [1] h (grammar_text_h_ok _) (fun _ => by kernel_rfl) fun v2 h => ?_
 obtain ⟨v3, hv3, h⟩ := Option.bind_eq_some_iff.1 h
 refine nst 0 (s_s2b (sr := 9) (t := 64) (x := (.tmp 14)) (s := v2) (e := 5) (ds := tt9) (d := tt64) (de := tt5) hv3 tt_ok (by kernel_rfl) (by kernel_rfl) (by kernel_rfl) (by kernel_rfl) (by kernel_rfl) (by kernel_rfl) (by kernel_rfl) (by kernel_rfl)) (by kernel_rfl) ?_
 refine lp1 4 (fun v4 => ⟨28, [(5, (.fz (eU64 (v4.1)))), (15, (.fz ((eL 1 eU8) (v3)))), (16, (fI ((List.length v3 : Int)))), (17, (fI (v4.2)))], [(0, (.was p0 [1] q0 w0)), (1, (.glb GV))], [0, 1], []⟩) (.exit 0) (fun v7 => ⟨28, [(5, (.fz (eU64 (v7))))], [(0, (.was p0 [1] q0 w0)), (1, (.glb GV))], [0, 1], []⟩) h (by kernel_rfl) (by kernel_rfl) (fun v4 r h => ?_) fun v7 h => ?_
 ·unfold grammar_Fingerprint_h_l1 at h
  refine cd 5 h (by kernel_rfl) (fun h => ?_) fun h => ?_
  ·refine ix nU8 5 h (by kernel_rfl) fun v5 h => ?_
   cases h; exact lj 15 (by kernel_rfl)
  cases h; exact lo 1 (by kernel_rfl)
 obtain rfl := Option.some.inj h; exact lh 7 ⟨28, [(2, (.fz (eU64 (v7)))), (3, (fI (0)))], [(0, (.was p0 [1] q0 w0)), (1, (.glb GV))], [0, 1], []⟩ (le_a (by kernel_rfl)) rfl rfl (by kernel_rfl) (by kernel_rfl)

def synthesislaw11_awake_h3  : Option ((Bool)) := (Option.bind (synthesislaw11_sums_h ) fun v1 => (Option.bind (grammar_Productive ((La.mk ((⟨#[110]⟩ : ByteArray)) (([2] : List (Int))) (([(Sy.mk ((⟨#[83]⟩ : ByteArray)) (2))] : List (Sy))) (([(Ru.mk (0) (1) (0) ((Va.mk (0) (0) ((⟨#[]⟩ : ByteArray)) (([] : List Va)))) ((⟨#[]⟩ : ByteArray)) (([] : List Int))), (Ru.mk (0) (3) (0) ((Va.mk (0) (0) ((⟨#[]⟩ : ByteArray)) (([] : List Va)))) ((⟨#[97, 100, 100]⟩ : ByteArray)) (([0, 0] : List (Int))))] : List (Ru)))))) fun v2 => (Option.bind (grammar_Reachable ((La.mk ((⟨#[110]⟩ : ByteArray)) (([2] : List (Int))) (([(Sy.mk ((⟨#[83]⟩ : ByteArray)) (2))] : List (Sy))) (([(Ru.mk (0) (1) (0) ((Va.mk (0) (0) ((⟨#[]⟩ : ByteArray)) (([] : List Va)))) ((⟨#[]⟩ : ByteArray)) (([] : List Int))), (Ru.mk (0) (3) (0) ((Va.mk (0) (0) ((⟨#[]⟩ : ByteArray)) (([] : List Va)))) ((⟨#[97, 100, 100]⟩ : ByteArray)) (([0, 0] : List (Int))))] : List (Ru)))))) fun v3 => (Option.bind (grammar_Recursive ((La.mk ((⟨#[110]⟩ : ByteArray)) (([2] : List (Int))) (([(Sy.mk ((⟨#[83]⟩ : ByteArray)) (2))] : List (Sy))) (([(Ru.mk (0) (1) (0) ((Va.mk (0) (0) ((⟨#[]⟩ : ByteArray)) (([] : List Va)))) ((⟨#[]⟩ : ByteArray)) (([] : List Int))), (Ru.mk (0) (3) (0) ((Va.mk (0) (0) ((⟨#[]⟩ : ByteArray)) (([] : List Va)))) ((⟨#[97, 100, 100]⟩ : ByteArray)) (([0, 0] : List (Int))))] : List (Ru)))))) fun v4 => (Option.bind (synthesislaw11_sums_h ) fun v5 => (Option.bind (appN 24 ([(Sy.mk ((⟨#[83]⟩ : ByteArray)) (2))] : List (Sy)) ([(Sy.mk ((⟨#[65]⟩ : ByteArray)) (2))] : List (Sy))) fun v6 => (Option.bind (appN 120 ([(Ru.mk (0) (1) (0) ((Va.mk (0) (0) ((⟨#[]⟩ : ByteArray)) (([] : List Va)))) ((⟨#[]⟩ : ByteArray)) (([] : List Int))), (Ru.mk (0) (3) (0) ((Va.mk (0) (0) ((⟨#[]⟩ : ByteArray)) (([] : List Va)))) ((⟨#[97, 100, 100]⟩ : ByteArray)) (([0, 0] : List (Int))))] : List (Ru)) ([(Ru.mk (0) (3) (0) ((Va.mk (0) (0) ((⟨#[]⟩ : ByteArray)) (([] : List Va)))) ((⟨#[110, 101, 103]⟩ : ByteArray)) (([1] : List (Int)))), (Ru.mk (1) (3) (0) ((Va.mk (0) (0) ((⟨#[]⟩ : ByteArray)) (([] : List Va)))) ((⟨#[110, 101, 103]⟩ : ByteArray)) (([1] : List (Int))))] : List (Ru))) fun v7 => (Option.bind (grammar_Productive ((La.mk ((⟨#[110]⟩ : ByteArray)) (([2] : List (Int))) (v6) (v7)))) fun v8 => (Option.bind (grammar_Reachable ((La.mk ((⟨#[110]⟩ : ByteArray)) (([2] : List (Int))) (v6) (v7)))) fun v9 => (Option.bind (grammar_Trim ((La.mk ((⟨#[110]⟩ : ByteArray)) (([2] : List (Int))) (v6) (v7)))) fun v10 => (Option.bind (synthesislaw11_sums_h ) fun v11 => (Option.bind (appN 120 ([(Ru.mk (0) (1) (0) ((Va.mk (0) (0) ((⟨#[]⟩ : ByteArray)) (([] : List Va)))) ((⟨#[]⟩ : ByteArray)) (([] : List Int))), (Ru.mk (0) (3) (0) ((Va.mk (0) (0) ((⟨#[]⟩ : ByteArray)) (([] : List Va)))) ((⟨#[97, 100, 100]⟩ : ByteArray)) (([0, 0] : List (Int))))] : List (Ru)) ([(Ru.mk (0) (1) (0) ((Va.mk (0) (0) ((⟨#[]⟩ : ByteArray)) (([] : List Va)))) ((⟨#[]⟩ : ByteArray)) (([] : List Int)))] : List (Ru))) fun v12 => (Option.bind (grammar_Fingerprint_h ((La.mk ((⟨#[110]⟩ : ByteArray)) (([2] : List (Int))) (([(Sy.mk ((⟨#[83]⟩ : ByteArray)) (2))] : List (Sy))) (([(Ru.mk (0) (1) (0) ((Va.mk (0) (0) ((⟨#[]⟩ : ByteArray)) (([] : List Va)))) ((⟨#[]⟩ : ByteArray)) (([] : List Int))), (Ru.mk (0) (3) (0) ((Va.mk (0) (0) ((⟨#[]⟩ : ByteArray)) (([] : List Va)))) ((⟨#[97, 100, 100]⟩ : ByteArray)) (([0, 0] : List (Int))))] : List (Ru)))))) fun v13 => (Option.bind ((bif ((List.length v2 : Int) != 1) then (some (true)) else (bif ((List.length v3 : Int) != 1) then (some (true)) else (bif ((List.length v4 : Int) != 1) then (some (true)) else (bif ((List.length v8 : Int) != 2) then (some (true)) else (bif ((List.length v9 : Int) != 2) then (some (true)) else (bif (v10.2.2 != 0) then (some (true)) else (some ((v13.2 != 0))))))))) : Option ((Bool))) fun (v15 : (Bool)) => (bif v15 then (some (false)) else (Option.bind ((Option.bind (grammar_Check ((La.mk ((⟨#[110]⟩ : ByteArray)) (([2] : List (Int))) (([(Sy.mk ((⟨#[83]⟩ : ByteArray)) (2))] : List (Sy))) (([(Ru.mk (0) (1) (0) ((Va.mk (0) (0) ((⟨#[]⟩ : ByteArray)) (([] : List Va)))) ((⟨#[]⟩ : ByteArray)) (([] : List Int))), (Ru.mk (0) (3) (0) ((Va.mk (0) (0) ((⟨#[]⟩ : ByteArray)) (([] : List Va)))) ((⟨#[97, 100, 100]⟩ : ByteArray)) (([0, 0] : List (Int))))] : List (Ru)))))) fun v16 => (bif (v16 == 0) then (Option.bind (idx v2 0) fun v17 => (bif v17 then (Option.bind (idx v3 0) fun v18 => (bif v18 then (Option.bind (idx v4 0) fun v19 => (bif v19 then (Option.bind (idx v8 1) fun v20 => (bif (!v20) then (Option.bind (idx v9 1) fun v21 => (bif v21 then (Option.bind (grammar_Same (v10.1) ((La.mk ((⟨#[110]⟩ : ByteArray)) (([2] : List (Int))) (([(Sy.mk ((⟨#[83]⟩ : ByteArray)) (2))] : List (Sy))) (([(Ru.mk (0) (1) (0) ((Va.mk (0) (0) ((⟨#[]⟩ : ByteArray)) (([] : List Va)))) ((⟨#[]⟩ : ByteArray)) (([] : List Int))), (Ru.mk (0) (3) (0) ((Va.mk (0) (0) ((⟨#[]⟩ : ByteArray)) (([] : List Va)))) ((⟨#[97, 100, 100]⟩ : ByteArray)) (([0, 0] : List (Int))))] : List (Ru)))))) fun v22 => (bif v22 then (bif ((List.length v10.2.1 : Int) == 2) then (Option.bind (grammar_Check ((La.mk ((⟨#[110]⟩ : ByteArray)) (([2] : List (Int))) (([(Sy.mk ((⟨#[83]⟩ : ByteArray)) (2))] : List (Sy))) (v12)))) fun v23 => (bif (v23 == 6) then (Option.bind (grammar_Of ((La.mk ((⟨#[110]⟩ : ByteArray)) (([2] : List (Int))) (v6) (v7))) (1)) fun v24 => (some (((List.length v24 : Int) == 1)))) else (some (false)))) else (some (false))) else (some (false)))) else (some (false)))) else (some (false)))) else (some (false)))) else (some (false)))) else (some (false)))) else (some (false)))) : Option ((Bool))) fun (v26 : (Bool)) => (some (v26))))))))))))))))))
theorem synthesislaw11_awake_h3_ok  (r : (Bool)) (h : synthesislaw11_awake_h3  = some r) : HCall Tryz.prog 11 ([] ++ []) [(1, (.glb GV))] [1] (.ret (fB (r))) [(1, (.glb GV))] [1] := by
 unfold synthesislaw11_awake_h3 at h
 refine hcx (gi := 0) Tryz.func11 (by kernel_rfl) (by kernel_rfl) (by kernel_rfl) (by kernel_rfl) (by kernel_rfl) (by kernel_rfl) (by kernel_rfl) (by kernel_rfl) ?_
 intro p0 q0 w0
 refine hcl 6 [] [] [(1, 2)] [] h (synthesislaw11_sums_h_ok) (fun _ => by kernel_rfl) fun v1 h => ?_
 refine dw 4 5 (by kernel_rfl) ?_
 refine cl 1 h (grammar_Productive_ok _) (by kernel_rfl) fun v2 h => ?_
 refine cl 1 h (grammar_Reachable_ok _) (by kernel_rfl) fun v3 h => ?_
 refine cl 2 h (grammar_Recursive_ok _) (by kernel_rfl) fun v4 h => ?_
 refine hcl 6 [] [] [(1, 4)] [] h (synthesislaw11_sums_h_ok) (fun _ => by kernel_rfl) fun v5 h => ?_
 obtain ⟨v6, hv6, h⟩ := Option.bind_eq_some_iff.1 h
 refine sst 9 (s_appLit (t := 23) (X := (.tmp 23)) (Y := (.tmp 25)) (d := tt23) (e := 49) (de := tt49) (enc := eSy) (xs := ([(Sy.mk ((⟨#[83]⟩ : ByteArray)) (2))] : List (Sy))) (ys := ([(Sy.mk ((⟨#[65]⟩ : ByteArray)) (2))] : List (Sy))) (n := List.length ([(Sy.mk ((⟨#[83]⟩ : ByteArray)) (2))] : List (Sy))) (m := List.length ([(Sy.mk ((⟨#[65]⟩ : ByteArray)) (2))] : List (Sy))) (id := 6) hv6 tt_ok (by kernel_rfl) (by kernel_rfl) (by kernel_rfl) (by kernel_rfl) (by kernel_rfl) (by kernel_rfl) (by kernel_rfl) (by kernel_rfl) (.inr (by kernel_rfl)) (by kernel_rfl)) (by kernel_rfl) ?_
 refine wle 11 ((le_a (by kernel_rfl) : LeSt _ ⟨140, [(1, (.ref 3 0 0)), (2, (.fz ((eL 1 eB) (v2)))), (3, (.fz ((eL 1 eB) (v3)))), (4, (.fz ((eL 1 eB) (v4)))), (5, (.ref 5 0 0)), (29, (.lim 9 (List.length (([(Ru.mk (0) (1) (0) ((Va.mk (0) (0) ((⟨#[]⟩ : ByteArray)) (([] : List Va)))) ((⟨#[]⟩ : ByteArray)) (([] : List Int))), (Ru.mk (0) (3) (0) ((Va.mk (0) (0) ((⟨#[]⟩ : ByteArray)) (([] : List Va)))) ((⟨#[97, 100, 100]⟩ : ByteArray)) (([0, 0] : List (Int))))] : List (Ru)))) (List.map eRu (([(Ru.mk (0) (1) (0) ((Va.mk (0) (0) ((⟨#[]⟩ : ByteArray)) (([] : List Va)))) ((⟨#[]⟩ : ByteArray)) (([] : List Int))), (Ru.mk (0) (3) (0) ((Va.mk (0) (0) ((⟨#[]⟩ : ByteArray)) (([] : List Va)))) ((⟨#[97, 100, 100]⟩ : ByteArray)) (([0, 0] : List (Int))))] : List (Ru)))))), (31, (.fz (eRu ((Ru.mk (0) (3) (0) ((Va.mk (0) (0) ((⟨#[]⟩ : ByteArray)) (([] : List Va)))) ((⟨#[110, 101, 103]⟩ : ByteArray)) (([1] : List (Int)))))))), (33, (.agg [(fI (1)), (fI (3)), (fI (0)), (fI (0)), (fI (0)), (fS ((⟨#[]⟩ : ByteArray))), (.fz (.atom (.slice none 0 0))), (fS ((⟨#[110, 101, 103]⟩ : ByteArray))), (.lim 1 (List.length (([1] : List (Int)))) (List.map eI (([1] : List (Int)))))]))], [(0, (.was p0 [1] q0 w0)), (1, (.glb GV)), (3, (.box 26 [(fS ((⟨#[110]⟩ : ByteArray))), (.lim 1 (List.length (([2] : List (Int)))) (List.map eI (([2] : List (Int))))), (.lim 2 (List.length (([(Sy.mk ((⟨#[83]⟩ : ByteArray)) (2))] : List (Sy)))) (List.map eSy (([(Sy.mk ((⟨#[83]⟩ : ByteArray)) (2))] : List (Sy))))), (.lim 9 (List.length (([(Ru.mk (0) (1) (0) ((Va.mk (0) (0) ((⟨#[]⟩ : ByteArray)) (([] : List Va)))) ((⟨#[]⟩ : ByteArray)) (([] : List Int))), (Ru.mk (0) (3) (0) ((Va.mk (0) (0) ((⟨#[]⟩ : ByteArray)) (([] : List Va)))) ((⟨#[97, 100, 100]⟩ : ByteArray)) (([0, 0] : List (Int))))] : List (Ru)))) (List.map eRu (([(Ru.mk (0) (1) (0) ((Va.mk (0) (0) ((⟨#[]⟩ : ByteArray)) (([] : List Va)))) ((⟨#[]⟩ : ByteArray)) (([] : List Int))), (Ru.mk (0) (3) (0) ((Va.mk (0) (0) ((⟨#[]⟩ : ByteArray)) (([] : List Va)))) ((⟨#[97, 100, 100]⟩ : ByteArray)) (([0, 0] : List (Int))))] : List (Ru)))))])), (5, (.box 26 [(fS ((⟨#[110]⟩ : ByteArray))), (.lim 1 (List.length (([2] : List (Int)))) (List.map eI (([2] : List (Int))))), (.row 6 (List.length (v6))), (.lim 9 (List.length (([(Ru.mk (0) (1) (0) ((Va.mk (0) (0) ((⟨#[]⟩ : ByteArray)) (([] : List Va)))) ((⟨#[]⟩ : ByteArray)) (([] : List Int))), (Ru.mk (0) (3) (0) ((Va.mk (0) (0) ((⟨#[]⟩ : ByteArray)) (([] : List Va)))) ((⟨#[97, 100, 100]⟩ : ByteArray)) (([0, 0] : List (Int))))] : List (Ru)))) (List.map eRu (([(Ru.mk (0) (1) (0) ((Va.mk (0) (0) ((⟨#[]⟩ : ByteArray)) (([] : List Va)))) ((⟨#[]⟩ : ByteArray)) (([] : List Int))), (Ru.mk (0) (3) (0) ((Va.mk (0) (0) ((⟨#[]⟩ : ByteArray)) (([] : List Va)))) ((⟨#[97, 100, 100]⟩ : ByteArray)) (([0, 0] : List (Int))))] : List (Ru)))))])), (6, (.frow 49 2 (List.map eSy (v6))))], [6, 5, 3, 0, 1], []⟩)) (by kernel_rfl) ?_
 refine wle 0 ((le_a (by kernel_rfl) : LeSt _ ⟨140, [(1, (.ref 3 0 0)), (2, (.fz ((eL 1 eB) (v2)))), (3, (.fz ((eL 1 eB) (v3)))), (4, (.fz ((eL 1 eB) (v4)))), (5, (.ref 5 0 0)), (29, (.lim 9 (List.length (([(Ru.mk (0) (1) (0) ((Va.mk (0) (0) ((⟨#[]⟩ : ByteArray)) (([] : List Va)))) ((⟨#[]⟩ : ByteArray)) (([] : List Int))), (Ru.mk (0) (3) (0) ((Va.mk (0) (0) ((⟨#[]⟩ : ByteArray)) (([] : List Va)))) ((⟨#[97, 100, 100]⟩ : ByteArray)) (([0, 0] : List (Int))))] : List (Ru)))) (List.map eRu (([(Ru.mk (0) (1) (0) ((Va.mk (0) (0) ((⟨#[]⟩ : ByteArray)) (([] : List Va)))) ((⟨#[]⟩ : ByteArray)) (([] : List Int))), (Ru.mk (0) (3) (0) ((Va.mk (0) (0) ((⟨#[]⟩ : ByteArray)) (([] : List Va)))) ((⟨#[97, 100, 100]⟩ : ByteArray)) (([0, 0] : List (Int))))] : List (Ru)))))), (31, (.fz (eRu ((Ru.mk (0) (3) (0) ((Va.mk (0) (0) ((⟨#[]⟩ : ByteArray)) (([] : List Va)))) ((⟨#[110, 101, 103]⟩ : ByteArray)) (([1] : List (Int)))))))), (33, (.fz (eRu ((Ru.mk (1) (3) (0) ((Va.mk (0) (0) ((⟨#[]⟩ : ByteArray)) (([] : List Va)))) ((⟨#[110, 101, 103]⟩ : ByteArray)) (([1] : List (Int))))))))], [(0, (.was p0 [1] q0 w0)), (1, (.glb GV)), (3, (.box 26 [(fS ((⟨#[110]⟩ : ByteArray))), (.lim 1 (List.length (([2] : List (Int)))) (List.map eI (([2] : List (Int))))), (.lim 2 (List.length (([(Sy.mk ((⟨#[83]⟩ : ByteArray)) (2))] : List (Sy)))) (List.map eSy (([(Sy.mk ((⟨#[83]⟩ : ByteArray)) (2))] : List (Sy))))), (.lim 9 (List.length (([(Ru.mk (0) (1) (0) ((Va.mk (0) (0) ((⟨#[]⟩ : ByteArray)) (([] : List Va)))) ((⟨#[]⟩ : ByteArray)) (([] : List Int))), (Ru.mk (0) (3) (0) ((Va.mk (0) (0) ((⟨#[]⟩ : ByteArray)) (([] : List Va)))) ((⟨#[97, 100, 100]⟩ : ByteArray)) (([0, 0] : List (Int))))] : List (Ru)))) (List.map eRu (([(Ru.mk (0) (1) (0) ((Va.mk (0) (0) ((⟨#[]⟩ : ByteArray)) (([] : List Va)))) ((⟨#[]⟩ : ByteArray)) (([] : List Int))), (Ru.mk (0) (3) (0) ((Va.mk (0) (0) ((⟨#[]⟩ : ByteArray)) (([] : List Va)))) ((⟨#[97, 100, 100]⟩ : ByteArray)) (([0, 0] : List (Int))))] : List (Ru)))))])), (5, (.box 26 [(fS ((⟨#[110]⟩ : ByteArray))), (.lim 1 (List.length (([2] : List (Int)))) (List.map eI (([2] : List (Int))))), (.row 6 (List.length (v6))), (.lim 9 (List.length (([(Ru.mk (0) (1) (0) ((Va.mk (0) (0) ((⟨#[]⟩ : ByteArray)) (([] : List Va)))) ((⟨#[]⟩ : ByteArray)) (([] : List Int))), (Ru.mk (0) (3) (0) ((Va.mk (0) (0) ((⟨#[]⟩ : ByteArray)) (([] : List Va)))) ((⟨#[97, 100, 100]⟩ : ByteArray)) (([0, 0] : List (Int))))] : List (Ru)))) (List.map eRu (([(Ru.mk (0) (1) (0) ((Va.mk (0) (0) ((⟨#[]⟩ : ByteArray)) (([] : List Va)))) ((⟨#[]⟩ : ByteArray)) (([] : List Int))), (Ru.mk (0) (3) (0) ((Va.mk (0) (0) ((⟨#[]⟩ : ByteArray)) (([] : List Va)))) ((⟨#[97, 100, 100]⟩ : ByteArray)) (([0, 0] : List (Int))))] : List (Ru)))))])), (6, (.frow 49 2 (List.map eSy (v6))))], [6, 5, 3, 0, 1], []⟩)) (by kernel_rfl) ?_
 obtain ⟨v7, hv7, h⟩ := Option.bind_eq_some_iff.1 h
 refine sst 1 (s_appLit (t := 24) (X := (.tmp 29)) (Y := (.tmp 34)) (d := tt24) (e := 47) (de := tt47) (enc := eRu) (xs := ([(Ru.mk (0) (1) (0) ((Va.mk (0) (0) ((⟨#[]⟩ : ByteArray)) (([] : List Va)))) ((⟨#[]⟩ : ByteArray)) (([] : List Int))), (Ru.mk (0) (3) (0) ((Va.mk (0) (0) ((⟨#[]⟩ : ByteArray)) (([] : List Va)))) ((⟨#[97, 100, 100]⟩ : ByteArray)) (([0, 0] : List (Int))))] : List (Ru))) (ys := ([(Ru.mk (0) (3) (0) ((Va.mk (0) (0) ((⟨#[]⟩ : ByteArray)) (([] : List Va)))) ((⟨#[110, 101, 103]⟩ : ByteArray)) (([1] : List (Int)))), (Ru.mk (1) (3) (0) ((Va.mk (0) (0) ((⟨#[]⟩ : ByteArray)) (([] : List Va)))) ((⟨#[110, 101, 103]⟩ : ByteArray)) (([1] : List (Int))))] : List (Ru))) (n := List.length ([(Ru.mk (0) (1) (0) ((Va.mk (0) (0) ((⟨#[]⟩ : ByteArray)) (([] : List Va)))) ((⟨#[]⟩ : ByteArray)) (([] : List Int))), (Ru.mk (0) (3) (0) ((Va.mk (0) (0) ((⟨#[]⟩ : ByteArray)) (([] : List Va)))) ((⟨#[97, 100, 100]⟩ : ByteArray)) (([0, 0] : List (Int))))] : List (Ru))) (m := List.length ([(Ru.mk (0) (3) (0) ((Va.mk (0) (0) ((⟨#[]⟩ : ByteArray)) (([] : List Va)))) ((⟨#[110, 101, 103]⟩ : ByteArray)) (([1] : List (Int)))), (Ru.mk (1) (3) (0) ((Va.mk (0) (0) ((⟨#[]⟩ : ByteArray)) (([] : List Va)))) ((⟨#[110, 101, 103]⟩ : ByteArray)) (([1] : List (Int))))] : List (Ru))) (id := 7) hv7 tt_ok (by kernel_rfl) (by kernel_rfl) (by kernel_rfl) (by kernel_rfl) (by kernel_rfl) (by kernel_rfl) (by kernel_rfl) (by kernel_rfl) (.inr (by kernel_rfl)) (by kernel_rfl)) (by kernel_rfl) ?_
 refine wle 4 (le_freezeCell (e2 := 26) (id2 := 5) (j := 2) (id := 6) (n := List.length (v6)) (e := 49) (size := 2) (xs := List.map eSy (v6)) (cells := [(fS ((⟨#[110]⟩ : ByteArray))), (.lim 1 (List.length (([2] : List (Int)))) (List.map eI (([2] : List (Int))))), (.row 6 (List.length (v6))), (.row 7 (List.length (v7)))]) (by kernel_rfl) (by kernel_rfl) (by kernel_rfl) (by simp)) (by kernel_rfl) ?_
 refine wle 0 (le_freezeCell (e2 := 26) (id2 := 5) (j := 3) (id := 7) (n := List.length (v7)) (e := 47) (size := 9) (xs := List.map eRu (v7)) (cells := [(fS ((⟨#[110]⟩ : ByteArray))), (.lim 1 (List.length (([2] : List (Int)))) (List.map eI (([2] : List (Int))))), (.fz ((eL 2 eSy) (v6))), (.row 7 (List.length (v7)))]) (by kernel_rfl) (by kernel_rfl) (by kernel_rfl) (by simp)) (by kernel_rfl) ?_
 refine dw 0 3 (by kernel_rfl) ?_
 refine cl 1 h (grammar_Productive_ok _) (by kernel_rfl) fun v8 h => ?_
 refine cl 2 h (grammar_Reachable_ok _) (by kernel_rfl) fun v9 h => ?_
 refine cl 6 h (grammar_Trim_ok _) (by kernel_rfl) fun v10 h => ?_
 refine hcl 11 [] [] [(1, 9)] [] h (synthesislaw11_sums_h_ok) (fun _ => by kernel_rfl) fun v11 h => ?_
 refine wle 8 ((le_a (by kernel_rfl) : LeSt _ ⟨140, [(1, (.ref 3 0 0)), (2, (.fz ((eL 1 eB) (v2)))), (3, (.fz ((eL 1 eB) (v3)))), (4, (.fz ((eL 1 eB) (v4)))), (5, (.ref 5 0 0)), (6, (.fz ((eL 1 eB) (v8)))), (7, (.fz ((eL 1 eB) (v9)))), (8, (.ref 8 0 0)), (9, (.fz ((eL 1 eI) (v10.2.1)))), (10, (fI (v10.2.2))), (11, (.ref 10 0 0)), (49, (.lim 9 (List.length (([(Ru.mk (0) (1) (0) ((Va.mk (0) (0) ((⟨#[]⟩ : ByteArray)) (([] : List Va)))) ((⟨#[]⟩ : ByteArray)) (([] : List Int))), (Ru.mk (0) (3) (0) ((Va.mk (0) (0) ((⟨#[]⟩ : ByteArray)) (([] : List Va)))) ((⟨#[97, 100, 100]⟩ : ByteArray)) (([0, 0] : List (Int))))] : List (Ru)))) (List.map eRu (([(Ru.mk (0) (1) (0) ((Va.mk (0) (0) ((⟨#[]⟩ : ByteArray)) (([] : List Va)))) ((⟨#[]⟩ : ByteArray)) (([] : List Int))), (Ru.mk (0) (3) (0) ((Va.mk (0) (0) ((⟨#[]⟩ : ByteArray)) (([] : List Va)))) ((⟨#[97, 100, 100]⟩ : ByteArray)) (([0, 0] : List (Int))))] : List (Ru)))))), (50, (.fz (eRu ((Ru.mk (0) (1) (0) ((Va.mk (0) (0) ((⟨#[]⟩ : ByteArray)) (([] : List Va)))) ((⟨#[]⟩ : ByteArray)) (([] : List Int)))))))], [(0, (.was p0 [1] q0 w0)), (1, (.glb GV)), (3, (.box 26 [(fS ((⟨#[110]⟩ : ByteArray))), (.lim 1 (List.length (([2] : List (Int)))) (List.map eI (([2] : List (Int))))), (.lim 2 (List.length (([(Sy.mk ((⟨#[83]⟩ : ByteArray)) (2))] : List (Sy)))) (List.map eSy (([(Sy.mk ((⟨#[83]⟩ : ByteArray)) (2))] : List (Sy))))), (.lim 9 (List.length (([(Ru.mk (0) (1) (0) ((Va.mk (0) (0) ((⟨#[]⟩ : ByteArray)) (([] : List Va)))) ((⟨#[]⟩ : ByteArray)) (([] : List Int))), (Ru.mk (0) (3) (0) ((Va.mk (0) (0) ((⟨#[]⟩ : ByteArray)) (([] : List Va)))) ((⟨#[97, 100, 100]⟩ : ByteArray)) (([0, 0] : List (Int))))] : List (Ru)))) (List.map eRu (([(Ru.mk (0) (1) (0) ((Va.mk (0) (0) ((⟨#[]⟩ : ByteArray)) (([] : List Va)))) ((⟨#[]⟩ : ByteArray)) (([] : List Int))), (Ru.mk (0) (3) (0) ((Va.mk (0) (0) ((⟨#[]⟩ : ByteArray)) (([] : List Va)))) ((⟨#[97, 100, 100]⟩ : ByteArray)) (([0, 0] : List (Int))))] : List (Ru)))))])), (5, (.box 26 [(fS ((⟨#[110]⟩ : ByteArray))), (.lim 1 (List.length (([2] : List (Int)))) (List.map eI (([2] : List (Int))))), (.fz ((eL 2 eSy) (v6))), (.fz ((eL 9 eRu) (v7)))])), (8, (.box 26 [(fS (v10.1.name)), (.fz ((eL 1 eI) (v10.1.inputs))), (.fz ((eL 2 eSy) (v10.1.symbols))), (.fz ((eL 9 eRu) (v10.1.rules)))])), (10, (.box 26 [(fS ((⟨#[110]⟩ : ByteArray))), (.lim 1 (List.length (([2] : List (Int)))) (List.map eI (([2] : List (Int))))), (.lim 2 (List.length (([(Sy.mk ((⟨#[83]⟩ : ByteArray)) (2))] : List (Sy)))) (List.map eSy (([(Sy.mk ((⟨#[83]⟩ : ByteArray)) (2))] : List (Sy))))), (.lim 9 (List.length (([(Ru.mk (0) (1) (0) ((Va.mk (0) (0) ((⟨#[]⟩ : ByteArray)) (([] : List Va)))) ((⟨#[]⟩ : ByteArray)) (([] : List Int))), (Ru.mk (0) (3) (0) ((Va.mk (0) (0) ((⟨#[]⟩ : ByteArray)) (([] : List Va)))) ((⟨#[97, 100, 100]⟩ : ByteArray)) (([0, 0] : List (Int))))] : List (Ru)))) (List.map eRu (([(Ru.mk (0) (1) (0) ((Va.mk (0) (0) ((⟨#[]⟩ : ByteArray)) (([] : List Va)))) ((⟨#[]⟩ : ByteArray)) (([] : List Int))), (Ru.mk (0) (3) (0) ((Va.mk (0) (0) ((⟨#[]⟩ : ByteArray)) (([] : List Va)))) ((⟨#[97, 100, 100]⟩ : ByteArray)) (([0, 0] : List (Int))))] : List (Ru)))))]))], [10, 8, 5, 3, 0, 1], []⟩)) (by kernel_rfl) ?_
 obtain ⟨v12, hv12, h⟩ := Option.bind_eq_some_iff.1 h
 refine sst 1 (s_appLit (t := 24) (X := (.tmp 49)) (Y := (.tmp 51)) (d := tt24) (e := 47) (de := tt47) (enc := eRu) (xs := ([(Ru.mk (0) (1) (0) ((Va.mk (0) (0) ((⟨#[]⟩ : ByteArray)) (([] : List Va)))) ((⟨#[]⟩ : ByteArray)) (([] : List Int))), (Ru.mk (0) (3) (0) ((Va.mk (0) (0) ((⟨#[]⟩ : ByteArray)) (([] : List Va)))) ((⟨#[97, 100, 100]⟩ : ByteArray)) (([0, 0] : List (Int))))] : List (Ru))) (ys := ([(Ru.mk (0) (1) (0) ((Va.mk (0) (0) ((⟨#[]⟩ : ByteArray)) (([] : List Va)))) ((⟨#[]⟩ : ByteArray)) (([] : List Int)))] : List (Ru))) (n := List.length ([(Ru.mk (0) (1) (0) ((Va.mk (0) (0) ((⟨#[]⟩ : ByteArray)) (([] : List Va)))) ((⟨#[]⟩ : ByteArray)) (([] : List Int))), (Ru.mk (0) (3) (0) ((Va.mk (0) (0) ((⟨#[]⟩ : ByteArray)) (([] : List Va)))) ((⟨#[97, 100, 100]⟩ : ByteArray)) (([0, 0] : List (Int))))] : List (Ru))) (m := List.length ([(Ru.mk (0) (1) (0) ((Va.mk (0) (0) ((⟨#[]⟩ : ByteArray)) (([] : List Va)))) ((⟨#[]⟩ : ByteArray)) (([] : List Int)))] : List (Ru))) (id := 11) hv12 tt_ok (by kernel_rfl) (by kernel_rfl) (by kernel_rfl) (by kernel_rfl) (by kernel_rfl) (by kernel_rfl) (by kernel_rfl) (by kernel_rfl) (.inr (by kernel_rfl)) (by kernel_rfl)) (by kernel_rfl) ?_
 refine hcl 6 [(.ag [.keep, .sl 1, .sl 2, .sl 9])] [(1, 1)] [(1, 1)] [1] h (grammar_Fingerprint_h_ok _) (fun _ => by kernel_rfl) fun v13 h => ?_
 refine jn1 8 .normal (fun v15 => ⟨140, [(1, (.ref 3 0 0)), (2, (.fz ((eL 1 eB) (v2)))), (3, (.fz ((eL 1 eB) (v3)))), (4, (.fz ((eL 1 eB) (v4)))), (5, (.ref 5 0 0)), (6, (.fz ((eL 1 eB) (v8)))), (7, (.fz ((eL 1 eB) (v9)))), (8, (.ref 8 0 0)), (9, (.fz ((eL 1 eI) (v10.2.1)))), (11, (.ref 10 0 0)), (89, (fB (v15)))], [(0, (.was p0 [1] q0 w0)), (1, (.glb GV)), (3, (.box 26 [(fS ((⟨#[110]⟩ : ByteArray))), (.lim 1 (List.length (([2] : List (Int)))) (List.map eI (([2] : List (Int))))), (.lim 2 (List.length (([(Sy.mk ((⟨#[83]⟩ : ByteArray)) (2))] : List (Sy)))) (List.map eSy (([(Sy.mk ((⟨#[83]⟩ : ByteArray)) (2))] : List (Sy))))), (.lim 9 (List.length (([(Ru.mk (0) (1) (0) ((Va.mk (0) (0) ((⟨#[]⟩ : ByteArray)) (([] : List Va)))) ((⟨#[]⟩ : ByteArray)) (([] : List Int))), (Ru.mk (0) (3) (0) ((Va.mk (0) (0) ((⟨#[]⟩ : ByteArray)) (([] : List Va)))) ((⟨#[97, 100, 100]⟩ : ByteArray)) (([0, 0] : List (Int))))] : List (Ru)))) (List.map eRu (([(Ru.mk (0) (1) (0) ((Va.mk (0) (0) ((⟨#[]⟩ : ByteArray)) (([] : List Va)))) ((⟨#[]⟩ : ByteArray)) (([] : List Int))), (Ru.mk (0) (3) (0) ((Va.mk (0) (0) ((⟨#[]⟩ : ByteArray)) (([] : List Va)))) ((⟨#[97, 100, 100]⟩ : ByteArray)) (([0, 0] : List (Int))))] : List (Ru)))))])), (5, (.box 26 [(fS ((⟨#[110]⟩ : ByteArray))), (.lim 1 (List.length (([2] : List (Int)))) (List.map eI (([2] : List (Int))))), (.fz ((eL 2 eSy) (v6))), (.fz ((eL 9 eRu) (v7)))])), (8, (.box 26 [(fS (v10.1.name)), (.fz ((eL 1 eI) (v10.1.inputs))), (.fz ((eL 2 eSy) (v10.1.symbols))), (.fz ((eL 9 eRu) (v10.1.rules)))])), (10, (.box 26 [(fS ((⟨#[110]⟩ : ByteArray))), (.lim 1 (List.length (([2] : List (Int)))) (List.map eI (([2] : List (Int))))), (.lim 2 (List.length (([(Sy.mk ((⟨#[83]⟩ : ByteArray)) (2))] : List (Sy)))) (List.map eSy (([(Sy.mk ((⟨#[83]⟩ : ByteArray)) (2))] : List (Sy))))), (.row 11 (List.length (v12)))])), (11, (.frow 47 9 (List.map eRu (v12))))], [11, 10, 8, 5, 3, 0, 1], []⟩) h (by kernel_rfl) (fun v15 h => ?_) fun v15 h => ?_
 ·refine gd 5 h (by kernel_rfl) (fun h => ?_) fun h => ?_
  ·cases h; exact lj 28 (by kernel_rfl)
  refine gd 5 h (by kernel_rfl) (fun h => ?_) fun h => ?_
  ·cases h; exact lj 23 (by kernel_rfl)
  refine gd 5 h (by kernel_rfl) (fun h => ?_) fun h => ?_
  ·cases h; exact lj 18 (by kernel_rfl)
  refine gd 5 h (by kernel_rfl) (fun h => ?_) fun h => ?_
  ·cases h; exact lj 13 (by kernel_rfl)
  refine gd 5 h (by kernel_rfl) (fun h => ?_) fun h => ?_
  ·cases h; exact lj 8 (by kernel_rfl)
  refine gd 4 h (by kernel_rfl) (fun h => ?_) fun h => ?_
  ·cases h; exact lj 4 (by kernel_rfl)
  cases h; exact lj 4 (by kernel_rfl)
 refine cd 0 h (by kernel_rfl) (fun h => ?_) fun h => ?_
 ·obtain rfl := Option.some.inj h; exact lh 5 ⟨140, [(0, (fB (false)))], [(0, (.was p0 [1] q0 w0)), (1, (.glb GV))], [0, 1], []⟩ (le_a (by kernel_rfl)) rfl rfl (by kernel_rfl) (by kernel_rfl)
 refine jn1 2 .normal (fun v26 => ⟨140, [(0, (fB (v26)))], [(0, (.was p0 [1] q0 w0)), (1, (.glb GV))], [0, 1], []⟩) h (by kernel_rfl) (fun v26 h => ?_) fun v26 h => ?_
 ·refine cl 2 h (grammar_Check_ok _) (by kernel_rfl) fun v16 h => ?_
  refine gd 2 h (by kernel_rfl) (fun h => ?_) fun h => ?_
  ·refine ix nB 1 h (by kernel_rfl) fun v17 h => ?_
   refine gd 3 h (by kernel_rfl) (fun h => ?_) fun h => ?_
   ·refine ix nB 1 h (by kernel_rfl) fun v18 h => ?_
    refine gd 3 h (by kernel_rfl) (fun h => ?_) fun h => ?_
    ·refine ix nB 1 h (by kernel_rfl) fun v19 h => ?_
     refine gd 3 h (by kernel_rfl) (fun h => ?_) fun h => ?_
     ·refine ix nB 1 h (by kernel_rfl) fun v20 h => ?_
      refine gd 4 h (by kernel_rfl) (fun h => ?_) fun h => ?_
      ·refine ix nB 1 h (by kernel_rfl) fun v21 h => ?_
       refine gd 3 h (by kernel_rfl) (fun h => ?_) fun h => ?_
       ·refine cl 2 h (grammar_Same_ok _ _) (by kernel_rfl) fun v22 h => ?_
        refine gd 2 h (by kernel_rfl) (fun h => ?_) fun h => ?_
        ·refine gd 5 h (by kernel_rfl) (fun h => ?_) fun h => ?_
         ·refine wle 1 (LeSt.trans (show LeSt _ ⟨140, [(5, (.ref 5 0 0)), (129, (fB (true))), (130, (.agg [(fS ((⟨#[110]⟩ : ByteArray))), (.lim 1 (List.length (([2] : List (Int)))) (List.map eI (([2] : List (Int))))), (.lim 2 (List.length (([(Sy.mk ((⟨#[83]⟩ : ByteArray)) (2))] : List (Sy)))) (List.map eSy (([(Sy.mk ((⟨#[83]⟩ : ByteArray)) (2))] : List (Sy))))), (.row 11 (List.length (v12)))]))], [(0, (.was p0 [1] q0 w0)), (1, (.glb GV)), (5, (.box 26 [(fS ((⟨#[110]⟩ : ByteArray))), (.lim 1 (List.length (([2] : List (Int)))) (List.map eI (([2] : List (Int))))), (.fz ((eL 2 eSy) (v6))), (.fz ((eL 9 eRu) (v7)))])), (11, (.frow 47 9 (List.map eRu (v12))))], [11, 5, 0, 1], []⟩ from le_a (by kernel_rfl)) (LeSt.trans (le_frz 11 (n := List.length (v12)) (k := 1) (e := 47) (size := 9) (xs := List.map eRu (v12)) (by kernel_rfl) (by simp) (by kernel_rfl)) (show LeSt _ ⟨140, [(5, (.ref 5 0 0)), (129, (fB (true))), (130, (.agg [(fS ((⟨#[110]⟩ : ByteArray))), (.lim 1 (List.length (([2] : List (Int)))) (List.map eI (([2] : List (Int))))), (.lim 2 (List.length (([(Sy.mk ((⟨#[83]⟩ : ByteArray)) (2))] : List (Sy)))) (List.map eSy (([(Sy.mk ((⟨#[83]⟩ : ByteArray)) (2))] : List (Sy))))), (.fz ((eL 9 eRu) (v12)))]))], [(0, (.was p0 [1] q0 w0)), (1, (.glb GV)), (5, (.box 26 [(fS ((⟨#[110]⟩ : ByteArray))), (.lim 1 (List.length (([2] : List (Int)))) (List.map eI (([2] : List (Int))))), (.fz ((eL 2 eSy) (v6))), (.fz ((eL 9 eRu) (v7)))]))], [11, 5, 0, 1], []⟩ from le_a (by kernel_rfl)))) (by kernel_rfl) ?_
          refine cl 0 h (grammar_Check_ok _) (by kernel_rfl) fun v23 h => ?_
          refine gd 3 h (by kernel_rfl) (fun h => ?_) fun h => ?_
          ·refine cl 1 h (grammar_Of_ok _ _) (by kernel_rfl) fun v24 h => ?_
           cases h; exact lj 5 (by kernel_rfl)
          cases h; exact lj 7 (by kernel_rfl)
         cases h; exact lj 12 (by kernel_rfl)
        cases h; exact lj 17 (by kernel_rfl)
       cases h; exact lj 22 (by kernel_rfl)
      cases h; exact lj 27 (by kernel_rfl)
     cases h; exact lj 33 (by kernel_rfl)
    cases h; exact lj 38 (by kernel_rfl)
   cases h; exact lj 43 (by kernel_rfl)
  cases h; exact lj 48 (by kernel_rfl)
 cases h; exact lh 1 ⟨140, [(0, (fB (r)))], [(0, (.was p0 [1] q0 w0)), (1, (.glb GV))], [0, 1], []⟩ (le_a (by kernel_rfl)) rfl rfl (by kernel_rfl) (by kernel_rfl)

end Go.Proofs.YtfhmljjkhjifeaaGreatDoor
