/- Typed programs and what computes them. -/
import Derived.Test.YtaeicmnimjfbaaaZ7
set_option linter.unusedVariables false
set_option linter.unusedSimpArgs false
set_option maxRecDepth 100000
namespace Go.Proofs.Ytaeicmnimjfbaaa
open Go Go.RowKit Go.Proofs
def term_Compare_1_h (a0 : Tm) : Option (Unit) := (some ())
theorem term_Compare_1_h_ok (a0 : Tm) (r : Unit) (h : term_Compare_1_h a0 = some r) : HCall Try.prog 105 ([(.fz (eTm (a0)))] ++ []) [] [] (.ret (fI ((List.length a0.args : Int)))) [] [] := by
 unfold term_Compare_1_h at h
 refine hcall_introQ (g := 0) tt_ok Try.func105 rfl (by kernel_rfl) (by kernel_rfl) (by kernel_rfl) (by kernel_rfl) (by kernel_rfl) (by kernel_rfl) (by kernel_rfl) ?_
 intro p0 q0 w0
 refine awp_le (st' := ⟨6, [(0, (.fz (eTm (a0))))], [(0, (.was p0 [] q0 w0))], [0]⟩) (le_ck (by kernel_rfl)) ?_
 refine awp_seq ?_
 refine awp_region ?_
 refine l_rk 2 tt_ok ⟨6, [(1, (.ref 1 0 0))], [(0, (.was p0 [] q0 w0)), (1, (.box 42 [(fI (a0.rule)), (.fz ((eL 2 eTmR) (a0.args)))]))], [1, 0]⟩ (by kernel_rfl) ?_
 refine l_nil ?_
 refine awp_seq ?_
 refine awp_region ?_
 refine l_rk 4 tt_ok ⟨6, [(2, (fI ((List.length a0.args : Int))))], [(0, (.was p0 [] q0 w0))], [0]⟩ (by kernel_rfl) ?_
 refine l_nil ?_
 refine awp_ret ?_
 obtain rfl := Option.some.inj h
 exact hQ_ret (st2 := ⟨6, [(2, (fI ((List.length a0.args : Int))))], [(0, (.was p0 [] q0 w0))], [0]⟩) (le_ck (by kernel_rfl)) rfl rfl (.inr rfl) (by kernel_rfl)

def term_collect_h4_m0 (p0 : Env) (q0 : Nat → Prop) (w0 : World) (a0 : List Int) (a1 : Tm) : List (Nat × AObj) := [(0, (.was p0 [1] q0 w0)), (1, (.frow 3 1 (List.map eI (a0)))), (2, (.box 42 [(fI (a1.rule)), (.fz ((eL 2 eTmR) (a1.args)))]))]
def term_collect_h4_l1 (a1 : Tm) (r9 : (List Int) → (Tm) → Option ((List Int))) (v3 : (Int) × (List Int)) : Option (((Int) × (List Int)) ⊕ ((List Int))) := (bif (decide (v3.1 < (List.length a1.args : Int))) then (Option.bind (idx a1.args v3.1) fun v4 => (Option.bind (r9 (v3.2) (v4)) fun v5 => (some (.inl ((w64 (v3.1 + 1)), v5))))) else (some (.inr (v3.2))))
def term_collect_h4_b (r9 : (List Int) → (Tm) → Option ((List Int))) (a0 : List Int) (a1 : Tm) : Option ((List Int)) := (Option.bind (term_Compare_1_h (a1)) fun v1 => (Option.bind (app 8 a0 ([(List.length a1.args : Int)] : List (Int))) fun v2 => (Option.bind (loopN (term_collect_h4_l1 a1 r9) fuel (0, v2)) fun (v7 : (List Int)) => (some (v7)))))
theorem term_collect_h4_b_ok (r9 : (List Int) → (Tm) → Option ((List Int))) (ih9 : ∀ (x0 : List Int) (x1 : Tm) r, r9 x0 x1 = some r → HCall Try.prog 102 ([(.row 1 (List.length (x0))), (.fz (eTm (x1))), (.fn 105 [])] ++ []) [(1, (.frow 3 1 (List.map eI (x0))))] [1] (.ret (.row 1 (List.length (r)))) [(1, (.frow 3 1 (List.map eI (r))))] [1]) (a0 : List Int) (a1 : Tm) (r : (List Int)) (h : term_collect_h4_b r9 a0 a1 = some r) : HCall Try.prog 102 ([(.row 1 (List.length (a0))), (.fz (eTm (a1))), (.fn 105 [])] ++ []) [(1, (.frow 3 1 (List.map eI (a0))))] [1] (.ret (.row 1 (List.length (r)))) [(1, (.frow 3 1 (List.map eI (r))))] [1] := by
 unfold term_collect_h4_b at h
 refine hcall_introQ (g := 0) tt_ok Try.func102 rfl (by kernel_rfl) (by kernel_rfl) (by kernel_rfl) (by kernel_rfl) (by kernel_rfl) (by kernel_rfl) (by kernel_rfl) ?_
 intro p0 q0 w0
 refine awp_le (st' := ⟨28, [(0, (.row 1 (List.length (a0)))), (1, (.fz (eTm (a1)))), (2, (.fn 105 []))], [(0, (.was p0 [1] q0 w0)), (1, (.frow 3 1 (List.map eI (a0))))], [0, 1]⟩) (le_ck (by kernel_rfl)) ?_
 refine awp_seq ?_
 refine awp_region ?_
 refine l_rk 2 tt_ok ⟨28, [(0, (.row 1 (List.length (a0)))), (2, (.fn 105 [])), (4, (.ref 2 0 0))], (term_collect_h4_m0 p0 q0 w0 a0 a1), [2, 0, 1]⟩ (by kernel_rfl) ?_
 refine l_nil ?_
 refine awp_seq ?_
 refine awp_region ?_
 refine l_rk 3 tt_ok ⟨28, [(2, (.fn 105 [])), (4, (.ref 2 0 0)), (9, (.row 1 (List.length (a0)))), (10, (.fn 105 [])), (11, (.fz (eTm (a1))))], (term_collect_h4_m0 p0 q0 w0 a0 a1), [2, 0, 1]⟩ (by kernel_rfl) ?_
 obtain ⟨v1, hv1, h⟩ := Option.bind_eq_some_iff.1 h
 refine l_step (h_step (f := 105) (cap := []) (cs := [.one .keep]) (keys := []) [] [] rfl (by kernel_rfl) (term_Compare_1_h_ok (a1) _ hv1) (by kernel_rfl) (by kernel_rfl) (by kernel_rfl) (by kernel_rfl)) (by kernel_rfl) (dst_of (by kernel_rfl)) ?_
 refine l_rk 1 tt_ok ⟨28, [(2, (.fn 105 [])), (4, (.ref 2 0 0)), (9, (.row 1 (List.length (a0)))), (13, (.lim 1 (List.length (([(List.length a1.args : Int)] : List (Int)))) (List.map eI (([(List.length a1.args : Int)] : List (Int))))))], (term_collect_h4_m0 p0 q0 w0 a0 a1), [2, 0, 1]⟩ (by kernel_rfl) ?_
 obtain ⟨v2, hv2, h⟩ := Option.bind_eq_some_iff.1 h
 refine l_step (s_append (d := tt23) (e := 3) (de := tt3) (enc := eI) (xs := a0) (ys := ([(List.length a1.args : Int)] : List (Int))) (m := List.length ([(List.length a1.args : Int)] : List (Int))) (id := 1) (n := List.length (a0)) hv2 tt_ok rfl (by kernel_rfl) (by kernel_rfl) (by kernel_rfl) (by kernel_rfl) (by kernel_rfl) (by kernel_rfl) (by kernel_rfl) (by kernel_rfl) rfl (.inr (by kernel_rfl))) (by kernel_rfl) (dst_of (by kernel_rfl)) ?_
 refine l_rk 1 tt_ok ⟨28, [(0, (.row 1 (List.length (v2)))), (2, (.fn 105 [])), (4, (.ref 2 0 0))], [(0, (.was p0 [1] q0 w0)), (1, (.frow 3 1 (List.map eI (v2)))), (2, (.box 42 [(fI (a1.rule)), (.fz ((eL 2 eTmR) (a1.args)))]))], [2, 0, 1]⟩ (by kernel_rfl) ?_
 refine l_nil ?_
 refine awp_seq ?_
 refine awp_seq ?_
 refine awp_region ?_
 refine l_rk 4 tt_ok ⟨28, [(0, (.row 1 (List.length (v2)))), (2, (.fn 105 [])), (16, (.fz ((eL 2 eTmR) (a1.args)))), (17, (fI ((List.length a1.args : Int)))), (18, (fI (0)))], [(0, (.was p0 [1] q0 w0)), (1, (.frow 3 1 (List.map eI (v2))))], [0, 1]⟩ (by kernel_rfl) ?_
 refine l_nil ?_
 refine awp_block ?_
 obtain ⟨v7, hj, h⟩ := Option.bind_eq_some_iff.1 h
 refine awp_join (Qa := fun e st => e = .exit 0 ∧ LeSt st ⟨28, [(0, (.row 1 (List.length (v7))))], [(0, (.was p0 [1] q0 w0)), (1, (.frow 3 1 (List.map eI (v7))))], [0, 1]⟩) ?_ ?_
 ·refine awp_loopS (stOf := fun v3 => ⟨28, [(0, (.row 1 (List.length (v3.2)))), (2, (.fn 105 [])), (16, (.fz ((eL 2 eTmR) (a1.args)))), (17, (fI ((List.length a1.args : Int)))), (18, (fI (v3.1)))], [(0, (.was p0 [1] q0 w0)), (1, (.frow 3 1 (List.map eI (v3.2))))], [0, 1]⟩) (Qb := fun j e st => e = .exit 0 ∧ LeSt st ⟨28, [(0, (.row 1 (List.length (j))))], [(0, (.was p0 [1] q0 w0)), (1, (.frow 3 1 (List.map eI (j))))], [0, 1]⟩) hj (le_ck (by kernel_rfl)) ?_
  clear hj h
  intro v3 r h
  unfold term_collect_h4_l1 at h
  refine awp_seq ?_
  refine awp_region ?_
  refine l_rk 1 tt_ok ⟨28, [(0, (.row 1 (List.length (v3.2)))), (2, (.fn 105 [])), (16, (.fz ((eL 2 eTmR) (a1.args)))), (17, (fI ((List.length a1.args : Int)))), (18, (fI (v3.1))), (19, (fB ((decide (v3.1 < (List.length a1.args : Int))))))], [(0, (.was p0 [1] q0 w0)), (1, (.frow 3 1 (List.map eI (v3.2))))], [0, 1]⟩ (by kernel_rfl) ?_
  refine l_nil ?_
  refine awp_seq ?_
  rcases cond_some h with ⟨hb, h⟩ | ⟨hb, h⟩
  ·refine awp_cond_t (b := (decide (v3.1 < (List.length a1.args : Int)))) (by kernel_rfl) hb ?_
   refine awp_skip ?_
   refine awp_seq ?_
   refine awp_block ?_
   refine awp_seq ?_
   refine awp_region ?_
   obtain ⟨v4, hv4, h⟩ := Option.bind_eq_some_iff.1 h
   refine l_step ((s_index (k := .i64) (d := tt40) (e := 42) (de := tt42) (enc := eTmR) hv4 tt_ok rfl (by kernel_rfl) (by kernel_rfl) (by kernel_rfl) (by kernel_rfl) len_eTmR (by kernel_rfl) (cells_eTmR v4)).step) (by kernel_rfl) (dst_of (by kernel_rfl)) ?_
   refine l_rk 3 tt_ok ⟨28, [(0, (.row 1 (List.length (v3.2)))), (2, (.fn 105 [])), (8, (.ref 2 0 0)), (16, (.fz ((eL 2 eTmR) (a1.args)))), (17, (fI ((List.length a1.args : Int)))), (18, (fI (v3.1)))], [(0, (.was p0 [1] q0 w0)), (1, (.frow 3 1 (List.map eI (v3.2)))), (2, (.box 42 [(fI (v4.rule)), (.fz ((eL 2 eTmR) (v4.args)))]))], [2, 0, 1]⟩ (by kernel_rfl) ?_
   refine l_nil ?_
   refine awp_region ?_
   refine l_rk 3 tt_ok ⟨28, [(2, (.fn 105 [])), (16, (.fz ((eL 2 eTmR) (a1.args)))), (17, (fI ((List.length a1.args : Int)))), (18, (fI (v3.1))), (22, (.row 1 (List.length (v3.2)))), (23, (.fz (eTm (v4)))), (24, (.fn 105 []))], [(0, (.was p0 [1] q0 w0)), (1, (.frow 3 1 (List.map eI (v3.2))))], [0, 1]⟩ (by kernel_rfl) ?_
   obtain ⟨v5, hv5, h⟩ := Option.bind_eq_some_iff.1 h
   refine l_step (h_step (f := 102) (cap := []) (cs := [.one .keep, .one .keep, .one .keep]) (keys := [1]) [(1, 1)] [(1, 1)] rfl (by kernel_rfl) (ih9 (v3.2) (v4) _ hv5) (by kernel_rfl) (by kernel_rfl) (by kernel_rfl) (by kernel_rfl)) (by kernel_rfl) (dst_of (by kernel_rfl)) ?_
   refine l_rk 1 tt_ok ⟨28, [(0, (.row 1 (List.length (v5)))), (2, (.fn 105 [])), (16, (.fz ((eL 2 eTmR) (a1.args)))), (17, (fI ((List.length a1.args : Int)))), (18, (fI (v3.1)))], [(0, (.was p0 [1] q0 w0)), (1, (.frow 3 1 (List.map eI (v5))))], [0, 1]⟩ (by kernel_rfl) ?_
   refine l_nil ?_
   refine awp_region ?_
   refine l_rk 2 tt_ok ⟨28, [(0, (.row 1 (List.length (v5)))), (2, (.fn 105 [])), (16, (.fz ((eL 2 eTmR) (a1.args)))), (17, (fI ((List.length a1.args : Int)))), (18, (fI ((w64 (v3.1 + 1)))))], [(0, (.was p0 [1] q0 w0)), (1, (.frow 3 1 (List.map eI (v5))))], [0, 1]⟩ (by kernel_rfl) ?_
   refine l_nil ?_
   obtain rfl := Option.some.inj h
   exact And.intro rfl (le_ck (by kernel_rfl))
  ·refine awp_cond_f (b := (decide (v3.1 < (List.length a1.args : Int)))) (by kernel_rfl) hb ?_
   refine awp_exit ?_
   obtain rfl := Option.some.inj h
   exact And.intro (And.intro (fun h => nomatch h) (fun h => nomatch h)) (And.intro rfl (le_ck (by kernel_rfl)))
 ·clear hj
  intro e st' hq
  obtain ⟨rfl, hle⟩ := hq
  refine ⟨_, hle, ?_⟩
  refine awp_seq ?_
  refine awp_region ?_
  refine l_rk 2 tt_ok ⟨28, [(6, (.row 1 (List.length (v7))))], [(0, (.was p0 [1] q0 w0)), (1, (.frow 3 1 (List.map eI (v7))))], [0, 1]⟩ (by kernel_rfl) ?_
  refine l_nil ?_
  refine awp_ret ?_
  obtain rfl := Option.some.inj h
  exact hQ_ret (st2 := ⟨28, [(6, (.row 1 (List.length (v7))))], [(0, (.was p0 [1] q0 w0)), (1, (.frow 3 1 (List.map eI (v7))))], [0, 1]⟩) (le_ck (by kernel_rfl)) rfl rfl (.inr rfl) (by kernel_rfl)
def term_collect_h4 : Nat → (List Int) → (Tm) → Option ((List Int))
  | 0 => fun _ _ => none
  | n + 1 => term_collect_h4_b (term_collect_h4 n)
theorem term_collect_h4_ok : ∀ n : Nat, ∀ (x0 : List Int) (x1 : Tm) r, term_collect_h4 n x0 x1 = some r → HCall Try.prog 102 ([(.row 1 (List.length (x0))), (.fz (eTm (x1))), (.fn 105 [])] ++ []) [(1, (.frow 3 1 (List.map eI (x0))))] [1] (.ret (.row 1 (List.length (r)))) [(1, (.frow 3 1 (List.map eI (r))))] [1]
  | 0 => fun _ _ _ h => by cases h
  | n + 1 => fun a0 a1 r h => term_collect_h4_b_ok (term_collect_h4 n) (term_collect_h4_ok n) a0 a1 r h

def term_collect_h3_l1 (a0 : Tm) (v3 : (Int) × (List Int)) : Option (((Int) × (List Int)) ⊕ ((List Int))) := (bif (decide (v3.1 < (List.length a0.args : Int))) then (Option.bind (idx a0.args v3.1) fun v4 => (Option.bind (term_collect_h4 fuel (v3.2) (v4)) fun v5 => (some (.inl ((w64 (v3.1 + 1)), v5))))) else (some (.inr (v3.2))))
def term_collect_h3 (a0 : Tm) : Option ((List Int)) := (Option.bind (term_Compare_1_h (a0)) fun v1 => (Option.bind (app 8 ([] : List (Int)) ([(List.length a0.args : Int)] : List (Int))) fun v2 => (Option.bind (loopN (term_collect_h3_l1 a0) fuel (0, v2)) fun (v7 : (List Int)) => (some (v7)))))
theorem term_collect_h3_ok (a0 : Tm) (r : (List Int)) (h : term_collect_h3 a0 = some r) : HCall Try.prog 102 ([(.fz (.atom (.slice none 0 0))), (.fz (eTm (a0))), (.fn 105 [])] ++ []) [] [] (.ret (.row 2 (List.length (r)))) [(2, (.frow 3 1 (List.map eI (r))))] [2] := by
 unfold term_collect_h3 at h
 refine hcall_introQ (g := 0) tt_ok Try.func102 rfl (by kernel_rfl) (by kernel_rfl) (by kernel_rfl) (by kernel_rfl) (by kernel_rfl) (by kernel_rfl) (by kernel_rfl) ?_
 intro p0 q0 w0
 refine awp_le (st' := ⟨28, [(0, (.fz (.atom (.slice none 0 0)))), (1, (.fz (eTm (a0)))), (2, (.fn 105 []))], [(0, (.was p0 [] q0 w0))], [0]⟩) (le_ck (by kernel_rfl)) ?_
 refine awp_seq ?_
 refine awp_region ?_
 refine l_rk 2 tt_ok ⟨28, [(0, (.fz (.atom (.slice none 0 0)))), (2, (.fn 105 [])), (4, (.ref 1 0 0))], [(0, (.was p0 [] q0 w0)), (1, (.box 42 [(fI (a0.rule)), (.fz ((eL 2 eTmR) (a0.args)))]))], [1, 0]⟩ (by kernel_rfl) ?_
 refine l_nil ?_
 refine awp_seq ?_
 refine awp_region ?_
 refine l_rk 3 tt_ok ⟨28, [(2, (.fn 105 [])), (4, (.ref 1 0 0)), (9, (.fz (.atom (.slice none 0 0)))), (10, (.fn 105 [])), (11, (.fz (eTm (a0))))], [(0, (.was p0 [] q0 w0)), (1, (.box 42 [(fI (a0.rule)), (.fz ((eL 2 eTmR) (a0.args)))]))], [1, 0]⟩ (by kernel_rfl) ?_
 obtain ⟨v1, hv1, h⟩ := Option.bind_eq_some_iff.1 h
 refine l_step (h_step (f := 105) (cap := []) (cs := [.one .keep]) (keys := []) [] [] rfl (by kernel_rfl) (term_Compare_1_h_ok (a0) _ hv1) (by kernel_rfl) (by kernel_rfl) (by kernel_rfl) (by kernel_rfl)) (by kernel_rfl) (dst_of (by kernel_rfl)) ?_
 refine l_rk 1 tt_ok ⟨28, [(2, (.fn 105 [])), (4, (.ref 1 0 0)), (9, (.fz (.atom (.slice none 0 0)))), (13, (.lim 1 (List.length (([(List.length a0.args : Int)] : List (Int)))) (List.map eI (([(List.length a0.args : Int)] : List (Int))))))], [(0, (.was p0 [] q0 w0)), (1, (.box 42 [(fI (a0.rule)), (.fz ((eL 2 eTmR) (a0.args)))]))], [1, 0]⟩ (by kernel_rfl) ?_
 obtain ⟨v2, hv2, h⟩ := Option.bind_eq_some_iff.1 h
 refine l_le (le_nilrow (e := 3) (size := 1) (t := 9) (id := 2) (by decide) (by kernel_rfl) (by kernel_rfl)) ?_
 refine l_step (s_append (d := tt23) (e := 3) (de := tt3) (enc := eI) (xs := ([] : List (Int))) (ys := ([(List.length a0.args : Int)] : List (Int))) (m := List.length ([(List.length a0.args : Int)] : List (Int))) (id := 2) (n := List.length (([] : List (Int)))) hv2 tt_ok rfl (by kernel_rfl) (by kernel_rfl) (by kernel_rfl) (by kernel_rfl) (by kernel_rfl) (by kernel_rfl) (by kernel_rfl) (by kernel_rfl) rfl (.inr (by kernel_rfl))) (by kernel_rfl) (dst_of (by kernel_rfl)) ?_
 refine l_rk 1 tt_ok ⟨28, [(0, (.row 2 (List.length (v2)))), (2, (.fn 105 [])), (4, (.ref 1 0 0))], [(0, (.was p0 [] q0 w0)), (1, (.box 42 [(fI (a0.rule)), (.fz ((eL 2 eTmR) (a0.args)))])), (2, (.frow 3 1 (List.map eI (v2))))], [2, 1, 0]⟩ (by kernel_rfl) ?_
 refine l_nil ?_
 refine awp_seq ?_
 refine awp_seq ?_
 refine awp_region ?_
 refine l_rk 4 tt_ok ⟨28, [(0, (.row 2 (List.length (v2)))), (2, (.fn 105 [])), (16, (.fz ((eL 2 eTmR) (a0.args)))), (17, (fI ((List.length a0.args : Int)))), (18, (fI (0)))], [(0, (.was p0 [] q0 w0)), (2, (.frow 3 1 (List.map eI (v2))))], [2, 0]⟩ (by kernel_rfl) ?_
 refine l_nil ?_
 refine awp_block ?_
 obtain ⟨v7, hj, h⟩ := Option.bind_eq_some_iff.1 h
 refine awp_join (Qa := fun e st => e = .exit 0 ∧ LeSt st ⟨28, [(0, (.row 2 (List.length (v7))))], [(0, (.was p0 [] q0 w0)), (2, (.frow 3 1 (List.map eI (v7))))], [2, 0]⟩) ?_ ?_
 ·refine awp_loopS (stOf := fun v3 => ⟨28, [(0, (.row 2 (List.length (v3.2)))), (2, (.fn 105 [])), (16, (.fz ((eL 2 eTmR) (a0.args)))), (17, (fI ((List.length a0.args : Int)))), (18, (fI (v3.1)))], [(0, (.was p0 [] q0 w0)), (2, (.frow 3 1 (List.map eI (v3.2))))], [2, 0]⟩) (Qb := fun j e st => e = .exit 0 ∧ LeSt st ⟨28, [(0, (.row 2 (List.length (j))))], [(0, (.was p0 [] q0 w0)), (2, (.frow 3 1 (List.map eI (j))))], [2, 0]⟩) hj (le_ck (by kernel_rfl)) ?_
  clear hj h
  intro v3 r h
  unfold term_collect_h3_l1 at h
  refine awp_seq ?_
  refine awp_region ?_
  refine l_rk 1 tt_ok ⟨28, [(0, (.row 2 (List.length (v3.2)))), (2, (.fn 105 [])), (16, (.fz ((eL 2 eTmR) (a0.args)))), (17, (fI ((List.length a0.args : Int)))), (18, (fI (v3.1))), (19, (fB ((decide (v3.1 < (List.length a0.args : Int))))))], [(0, (.was p0 [] q0 w0)), (2, (.frow 3 1 (List.map eI (v3.2))))], [2, 0]⟩ (by kernel_rfl) ?_
  refine l_nil ?_
  refine awp_seq ?_
  rcases cond_some h with ⟨hb, h⟩ | ⟨hb, h⟩
  ·refine awp_cond_t (b := (decide (v3.1 < (List.length a0.args : Int)))) (by kernel_rfl) hb ?_
   refine awp_skip ?_
   refine awp_seq ?_
   refine awp_block ?_
   refine awp_seq ?_
   refine awp_region ?_
   obtain ⟨v4, hv4, h⟩ := Option.bind_eq_some_iff.1 h
   refine l_step ((s_index (k := .i64) (d := tt40) (e := 42) (de := tt42) (enc := eTmR) hv4 tt_ok rfl (by kernel_rfl) (by kernel_rfl) (by kernel_rfl) (by kernel_rfl) len_eTmR (by kernel_rfl) (cells_eTmR v4)).step) (by kernel_rfl) (dst_of (by kernel_rfl)) ?_
   refine l_rk 3 tt_ok ⟨28, [(0, (.row 2 (List.length (v3.2)))), (2, (.fn 105 [])), (8, (.ref 3 0 0)), (16, (.fz ((eL 2 eTmR) (a0.args)))), (17, (fI ((List.length a0.args : Int)))), (18, (fI (v3.1)))], [(0, (.was p0 [] q0 w0)), (2, (.frow 3 1 (List.map eI (v3.2)))), (3, (.box 42 [(fI (v4.rule)), (.fz ((eL 2 eTmR) (v4.args)))]))], [3, 2, 0]⟩ (by kernel_rfl) ?_
   refine l_nil ?_
   refine awp_region ?_
   refine l_rk 3 tt_ok ⟨28, [(2, (.fn 105 [])), (16, (.fz ((eL 2 eTmR) (a0.args)))), (17, (fI ((List.length a0.args : Int)))), (18, (fI (v3.1))), (22, (.row 2 (List.length (v3.2)))), (23, (.fz (eTm (v4)))), (24, (.fn 105 []))], [(0, (.was p0 [] q0 w0)), (2, (.frow 3 1 (List.map eI (v3.2))))], [2, 0]⟩ (by kernel_rfl) ?_
   obtain ⟨v5, hv5, h⟩ := Option.bind_eq_some_iff.1 h
   refine l_step (h_step (f := 102) (cap := []) (cs := [.one .keep, .one .keep, .one .keep]) (keys := [1]) [(2, 1)] [(1, 2)] rfl (by kernel_rfl) (term_collect_h4_ok fuel (v3.2) (v4) _ hv5) (by kernel_rfl) (by kernel_rfl) (by kernel_rfl) (by kernel_rfl)) (by kernel_rfl) (dst_of (by kernel_rfl)) ?_
   refine l_rk 1 tt_ok ⟨28, [(0, (.row 2 (List.length (v5)))), (2, (.fn 105 [])), (16, (.fz ((eL 2 eTmR) (a0.args)))), (17, (fI ((List.length a0.args : Int)))), (18, (fI (v3.1)))], [(0, (.was p0 [] q0 w0)), (2, (.frow 3 1 (List.map eI (v5))))], [2, 0]⟩ (by kernel_rfl) ?_
   refine l_nil ?_
   refine awp_region ?_
   refine l_rk 2 tt_ok ⟨28, [(0, (.row 2 (List.length (v5)))), (2, (.fn 105 [])), (16, (.fz ((eL 2 eTmR) (a0.args)))), (17, (fI ((List.length a0.args : Int)))), (18, (fI ((w64 (v3.1 + 1)))))], [(0, (.was p0 [] q0 w0)), (2, (.frow 3 1 (List.map eI (v5))))], [2, 0]⟩ (by kernel_rfl) ?_
   refine l_nil ?_
   obtain rfl := Option.some.inj h
   exact And.intro rfl (le_ck (by kernel_rfl))
  ·refine awp_cond_f (b := (decide (v3.1 < (List.length a0.args : Int)))) (by kernel_rfl) hb ?_
   refine awp_exit ?_
   obtain rfl := Option.some.inj h
   exact And.intro (And.intro (fun h => nomatch h) (fun h => nomatch h)) (And.intro rfl (le_ck (by kernel_rfl)))
 ·clear hj
  intro e st' hq
  obtain ⟨rfl, hle⟩ := hq
  refine ⟨_, hle, ?_⟩
  refine awp_seq ?_
  refine awp_region ?_
  refine l_rk 2 tt_ok ⟨28, [(6, (.row 2 (List.length (v7))))], [(0, (.was p0 [] q0 w0)), (2, (.frow 3 1 (List.map eI (v7))))], [2, 0]⟩ (by kernel_rfl) ?_
  refine l_nil ?_
  refine awp_ret ?_
  obtain rfl := Option.some.inj h
  exact hQ_ret (st2 := ⟨28, [(6, (.row 2 (List.length (v7))))], [(0, (.was p0 [] q0 w0)), (2, (.frow 3 1 (List.map eI (v7))))], [0, 2]⟩) (le_ck (by kernel_rfl)) rfl rfl (.inr rfl) (by kernel_rfl)

def term_Compare_m0 (a0 : Tm) (a1 : Tm) : List (Nat × AObj) := [(1, (.box 42 [(fI (a0.rule)), (.fz ((eL 2 eTmR) (a0.args)))])), (2, (.box 42 [(fI (a1.rule)), (.fz ((eL 2 eTmR) (a1.args)))]))]
def term_Compare_l1 (a1 : Tm) (v9 : (Int) × (List Int)) : Option (((Int) × (List Int)) ⊕ ((List Int))) := (bif (decide (v9.1 < (List.length a1.args : Int))) then (Option.bind (idx a1.args v9.1) fun v10 => (Option.bind (term_collect_h4 fuel (v9.2) (v10)) fun v11 => (some (.inl ((w64 (v9.1 + 1)), v11))))) else (some (.inr (v9.2))))
def term_Compare (a0 : Tm) (a1 : Tm) : Option (Int) := (Option.bind (term_Size fuel (a0)) fun v1 => (Option.bind (term_Size fuel (a1)) fun v2 => (bif (decide (v1 < v2)) then (some (-1)) else (bif (decide (v2 < v1)) then (some 1) else (Option.bind (term_Rules (a0)) fun v3 => (Option.bind (term_Rules (a1)) fun v4 => (Option.bind (term_lexical (v3) (v4)) fun v5 => (bif (v5 != 0) then (some v5) else (Option.bind (term_collect_h3 (a0)) fun v6 => (Option.bind (term_Compare_1_h (a1)) fun v7 => (Option.bind (app 8 ([] : List (Int)) ([(List.length a1.args : Int)] : List (Int))) fun v8 => (Option.bind (loopN (term_Compare_l1 a1) fuel (0, v8)) fun (v13 : (List Int)) => (Option.bind (term_lexical (v6) (v13)) fun v14 => (some v14))))))))))))))
theorem term_Compare_ok (a0 : Tm) (a1 : Tm) (r : Int) (h : term_Compare a0 a1 = some r) : PCall Try.prog 43 [eTm a0, eTm a1] (eI (r)) := by
 unfold term_Compare at h
 refine pcall_intro (T := TT) tt_ok [.one .keep] Try.func43 rfl (by kernel_rfl) (by kernel_rfl) ?_
 refine awp_le (st' := ⟨36, [(0, (.fz (eTm (a0)))), (1, (.fz (eTm (a1))))], [], []⟩) (le_ck (by kernel_rfl)) ?_
 refine awp_seq ?_
 refine awp_region ?_
 refine l_rk 3 tt_ok ⟨36, [(2, (.ref 1 0 0)), (3, (.ref 2 0 0))], (term_Compare_m0 a0 a1), [2, 1]⟩ (by kernel_rfl) ?_
 refine l_nil ?_
 refine awp_seq ?_
 obtain ⟨v1, hv1, h⟩ := Option.bind_eq_some_iff.1 h
 refine awp_drawn (by kernel_rfl) [(.fz (eTm (a0))), (fI (v1)), (.fz (eTm (a1)))] (by kernel_rfl) ?_
 refine ⟨.inl ⟨by kernel_rfl, (nstep_ok tt_ok (by kernel_rfl))⟩, ?_⟩
 refine ⟨.inl ⟨by kernel_rfl, (n_call (ys := [eTm (a0)]) (cs := [(.one .keep)]) rfl (by kernel_rfl) (term_Size_ok fuel (a0) _ hv1))⟩, ?_⟩
 refine ⟨.inl ⟨by kernel_rfl, (nstep_ok tt_ok (by kernel_rfl))⟩, ?_⟩
 refine l_rk 0 tt_ok ⟨36, [(2, (.ref 1 0 0)), (3, (.ref 2 0 0)), (10, (fI (v1))), (11, (.fz (eTm (a1))))], (term_Compare_m0 a0 a1), [2, 1]⟩ (by kernel_rfl) ?_
 obtain ⟨v2, hv2, h⟩ := Option.bind_eq_some_iff.1 h
 refine l_step ((n_call (ys := [eTm (a1)]) (cs := [(.one .keep)]) rfl (by kernel_rfl) (term_Size_ok fuel (a1) _ hv2)).step) (by kernel_rfl) (dst_of (by kernel_rfl)) ?_
 refine l_rk 2 tt_ok ⟨36, [(2, (.ref 1 0 0)), (3, (.ref 2 0 0)), (5, (fI (v1))), (6, (fI (v2)))], (term_Compare_m0 a0 a1), [2, 1]⟩ (by kernel_rfl) ?_
 refine l_nil ?_
 refine awp_seq ?_
 refine awp_block ?_
 refine awp_seq ?_
 refine awp_region ?_
 refine l_rk 4 tt_ok ⟨36, [(2, (.ref 1 0 0)), (3, (.ref 2 0 0)), (5, (fI (v1))), (6, (fI (v2))), (13, (fB ((decide (v1 < v2)))))], (term_Compare_m0 a0 a1), [2, 1]⟩ (by kernel_rfl) ?_
 refine l_nil ?_
 rcases cond_some h with ⟨hb, h⟩ | ⟨hb, h⟩
 ·refine awp_cond_t (b := (decide (v1 < v2))) (by kernel_rfl) hb ?_
  refine awp_seq ?_
  refine awp_region ?_
  refine l_rk 1 tt_ok ⟨36, [(4, (fI ((-1))))], [], []⟩ (by kernel_rfl) ?_
  refine l_nil ?_
  refine awp_ret ?_
  obtain rfl := Option.some.inj h
  exact (show retX _ _ _ _ = some _ from by kernel_rfl)
 ·refine awp_cond_f (b := (decide (v1 < v2))) (by kernel_rfl) hb ?_
  refine awp_seq ?_
  refine awp_region ?_
  refine l_rk 4 tt_ok ⟨36, [(2, (.ref 1 0 0)), (3, (.ref 2 0 0)), (17, (fB ((decide (v2 < v1)))))], (term_Compare_m0 a0 a1), [2, 1]⟩ (by kernel_rfl) ?_
  refine l_nil ?_
  rcases cond_some h with ⟨hb, h⟩ | ⟨hb, h⟩
  ·refine awp_cond_t (b := (decide (v2 < v1))) (by kernel_rfl) hb ?_
   refine awp_seq ?_
   refine awp_region ?_
   refine l_rk 1 tt_ok ⟨36, [(4, (fI (1)))], [], []⟩ (by kernel_rfl) ?_
   refine l_nil ?_
   refine awp_ret ?_
   obtain rfl := Option.some.inj h
   exact (show retX _ _ _ _ = some _ from by kernel_rfl)
  ·refine awp_cond_f (b := (decide (v2 < v1))) (by kernel_rfl) hb ?_
   refine awp_skip ?_
   refine awp_seq ?_
   refine awp_seq ?_
   obtain ⟨v3, hv3, h⟩ := Option.bind_eq_some_iff.1 h
   refine awp_drawn (by kernel_rfl) [(.fz (eTm (a0))), (.fz ((eL 1 eI) (v3))), (.fz (eTm (a1)))] (by kernel_rfl) ?_
   refine ⟨.inl ⟨by kernel_rfl, (nstep_ok tt_ok (by kernel_rfl))⟩, ?_⟩
   refine ⟨.inl ⟨by kernel_rfl, (n_call (ys := [eTm (a0)]) (cs := [(.one .keep)]) rfl (by kernel_rfl) (term_Rules_ok (a0) _ hv3))⟩, ?_⟩
   refine ⟨.inl ⟨by kernel_rfl, (nstep_ok tt_ok (by kernel_rfl))⟩, ?_⟩
   refine l_rk 0 tt_ok ⟨36, [(2, (.ref 1 0 0)), (3, (.ref 2 0 0)), (22, (.fz ((eL 1 eI) (v3)))), (23, (.fz (eTm (a1))))], (term_Compare_m0 a0 a1), [2, 1]⟩ (by kernel_rfl) ?_
   obtain ⟨v4, hv4, h⟩ := Option.bind_eq_some_iff.1 h
   refine l_step ((n_call (ys := [eTm (a1)]) (cs := [(.one .keep)]) rfl (by kernel_rfl) (term_Rules_ok (a1) _ hv4)).step) (by kernel_rfl) (dst_of (by kernel_rfl)) ?_
   obtain ⟨v5, hv5, h⟩ := Option.bind_eq_some_iff.1 h
   refine l_step ((n_call (ys := [(eL 1 eI) (v3), (eL 1 eI) (v4)]) (cs := [(.one (.sl 1)), (.one (.sl 1))]) rfl (by kernel_rfl) (term_lexical_ok (v3) (v4) _ hv5)).step) (by kernel_rfl) (dst_of (by kernel_rfl)) ?_
   refine l_rk 1 tt_ok ⟨36, [(2, (.ref 1 0 0)), (3, (.ref 2 0 0)), (7, (fI (v5)))], (term_Compare_m0 a0 a1), [2, 1]⟩ (by kernel_rfl) ?_
   refine l_nil ?_
   refine awp_seq ?_
   refine awp_region ?_
   refine l_rk 2 tt_ok ⟨36, [(2, (.ref 1 0 0)), (3, (.ref 2 0 0)), (7, (fI (v5))), (27, (fB ((v5 != 0))))], (term_Compare_m0 a0 a1), [2, 1]⟩ (by kernel_rfl) ?_
   refine l_nil ?_
   rcases cond_some h with ⟨hb, h⟩ | ⟨hb, h⟩
   ·refine awp_cond_t (b := (v5 != 0)) (by kernel_rfl) hb ?_
    refine awp_seq ?_
    refine awp_region ?_
    refine l_rk 2 tt_ok ⟨36, [(4, (fI (v5)))], [], []⟩ (by kernel_rfl) ?_
    refine l_nil ?_
    refine awp_ret ?_
    obtain rfl := Option.some.inj h
    exact (show retX _ _ _ _ = some _ from by kernel_rfl)
   ·refine awp_cond_f (b := (v5 != 0)) (by kernel_rfl) hb ?_
    refine awp_skip ?_
    refine awp_seq ?_
    refine awp_region ?_
    refine l_rk 1 tt_ok ⟨36, [(2, (.ref 1 0 0)), (3, (.ref 2 0 0)), (8, (.fn 105 []))], (term_Compare_m0 a0 a1), [2, 1]⟩ (by kernel_rfl) ?_
    refine l_nil ?_
    refine awp_seq ?_
    obtain ⟨v6, hv6, h⟩ := Option.bind_eq_some_iff.1 h
    refine awp_drawn (by kernel_rfl) [(.fz (eTm (a0))), (.fn 105 []), (.fz ((eL 1 eI) (v6))), (.fz (eTm (a1))), (.fn 105 [])] (by kernel_rfl) ?_
    refine ⟨.inl ⟨by kernel_rfl, (nstep_ok tt_ok (by kernel_rfl))⟩, ?_⟩
    refine ⟨.inl ⟨by kernel_rfl, (nstep_ok tt_ok (by kernel_rfl))⟩, ?_⟩
    refine ⟨.inl ⟨by kernel_rfl, (n_hcall (cs := [.one .keep, .one .keep, .one .keep]) rfl (by kernel_rfl) (term_collect_h3_ok (a0) _ hv6) (.inr ⟨2, _, 3, 1, List.map eI (v6), rfl, by kernel_rfl, by simp, rfl⟩))⟩, ?_⟩
    refine ⟨.inl ⟨by kernel_rfl, (nstep_ok tt_ok (by kernel_rfl))⟩, ?_⟩
    refine ⟨.inl ⟨by kernel_rfl, (nstep_ok tt_ok (by kernel_rfl))⟩, ?_⟩
    refine l_rk 0 tt_ok ⟨36, [(31, (.fz ((eL 1 eI) (v6)))), (32, (.fz (eTm (a1)))), (33, (.fn 105 []))], [], []⟩ (by kernel_rfl) ?_
    refine l_le (le_ck (by kernel_rfl) : LeSt _ ⟨36, [(31, (.fz ((eL 1 eI) (v6)))), (32, (.fz (eTm (a1)))), (33, (.fn 105 []))], [], []⟩) ?_
    refine l_inline (f := 102) (fn := Try.f102) (n := 28) (g := 1) (cap := []) («as» := [(.fz (.atom (.slice none 0 0))), (.fz (eTm (a1))), (.fn 105 [])]) rfl (by kernel_rfl) (by kernel_rfl) (dst_of (by kernel_rfl)) Try.func102 rfl (by kernel_rfl) (by kernel_rfl) (by kernel_rfl) (by kernel_rfl) (by kernel_rfl) ?_
    intro gs1
    refine awp_le (st' := ⟨28, [(0, (.fz (.atom (.slice none 0 0)))), (1, (.fz (eTm (a1)))), (2, (.fn 105 []))], [(1, (.gho gs1 [(.fz ((eL 1 eI) (v6))), (.fz (eTm (a1))), (.fn 105 [])]))], [1]⟩) (le_ck (by kernel_rfl)) ?_
    refine awp_seq ?_
    refine awp_region ?_
    refine l_rk 2 tt_ok ⟨28, [(0, (.fz (.atom (.slice none 0 0)))), (2, (.fn 105 [])), (4, (.ref 2 0 0))], [(1, (.gho gs1 [(.fz ((eL 1 eI) (v6))), (.fz (eTm (a1))), (.fn 105 [])])), (2, (.box 42 [(fI (a1.rule)), (.fz ((eL 2 eTmR) (a1.args)))]))], [2, 1]⟩ (by kernel_rfl) ?_
    refine l_nil ?_
    refine awp_seq ?_
    refine awp_region ?_
    refine l_rk 3 tt_ok ⟨28, [(2, (.fn 105 [])), (4, (.ref 2 0 0)), (9, (.fz (.atom (.slice none 0 0)))), (10, (.fn 105 [])), (11, (.fz (eTm (a1))))], [(1, (.gho gs1 [(.fz ((eL 1 eI) (v6))), (.fz (eTm (a1))), (.fn 105 [])])), (2, (.box 42 [(fI (a1.rule)), (.fz ((eL 2 eTmR) (a1.args)))]))], [2, 1]⟩ (by kernel_rfl) ?_
    obtain ⟨v7, hv7, h⟩ := Option.bind_eq_some_iff.1 h
    refine l_step (h_step (f := 105) (cap := []) (cs := [.one .keep]) (keys := []) [] [] rfl (by kernel_rfl) (term_Compare_1_h_ok (a1) _ hv7) (by kernel_rfl) (by kernel_rfl) (by kernel_rfl) (by kernel_rfl)) (by kernel_rfl) (dst_of (by kernel_rfl)) ?_
    refine l_rk 1 tt_ok ⟨28, [(2, (.fn 105 [])), (4, (.ref 2 0 0)), (9, (.fz (.atom (.slice none 0 0)))), (13, (.lim 1 (List.length (([(List.length a1.args : Int)] : List (Int)))) (List.map eI (([(List.length a1.args : Int)] : List (Int))))))], [(1, (.gho gs1 [(.fz ((eL 1 eI) (v6))), (.fz (eTm (a1))), (.fn 105 [])])), (2, (.box 42 [(fI (a1.rule)), (.fz ((eL 2 eTmR) (a1.args)))]))], [2, 1]⟩ (by kernel_rfl) ?_
    obtain ⟨v8, hv8, h⟩ := Option.bind_eq_some_iff.1 h
    refine l_le (le_nilrow (e := 3) (size := 1) (t := 9) (id := 3) (by decide) (by kernel_rfl) (by kernel_rfl)) ?_
    refine l_step (s_append (d := tt23) (e := 3) (de := tt3) (enc := eI) (xs := ([] : List (Int))) (ys := ([(List.length a1.args : Int)] : List (Int))) (m := List.length ([(List.length a1.args : Int)] : List (Int))) (id := 3) (n := List.length (([] : List (Int)))) hv8 tt_ok rfl (by kernel_rfl) (by kernel_rfl) (by kernel_rfl) (by kernel_rfl) (by kernel_rfl) (by kernel_rfl) (by kernel_rfl) (by kernel_rfl) rfl (.inr (by kernel_rfl))) (by kernel_rfl) (dst_of (by kernel_rfl)) ?_
    refine l_rk 1 tt_ok ⟨28, [(0, (.row 3 (List.length (v8)))), (2, (.fn 105 [])), (4, (.ref 2 0 0))], [(1, (.gho gs1 [(.fz ((eL 1 eI) (v6))), (.fz (eTm (a1))), (.fn 105 [])])), (2, (.box 42 [(fI (a1.rule)), (.fz ((eL 2 eTmR) (a1.args)))])), (3, (.frow 3 1 (List.map eI (v8))))], [3, 2, 1]⟩ (by kernel_rfl) ?_
    refine l_nil ?_
    refine awp_seq ?_
    refine awp_seq ?_
    refine awp_region ?_
    refine l_rk 4 tt_ok ⟨28, [(0, (.row 3 (List.length (v8)))), (2, (.fn 105 [])), (16, (.fz ((eL 2 eTmR) (a1.args)))), (17, (fI ((List.length a1.args : Int)))), (18, (fI (0)))], [(1, (.gho gs1 [(.fz ((eL 1 eI) (v6))), (.fz (eTm (a1))), (.fn 105 [])])), (3, (.frow 3 1 (List.map eI (v8))))], [3, 1]⟩ (by kernel_rfl) ?_
    refine l_nil ?_
    refine awp_block ?_
    obtain ⟨v13, hj, h⟩ := Option.bind_eq_some_iff.1 h
    refine awp_join (Qa := fun e st => e = .exit 0 ∧ LeSt st ⟨28, [(0, (.row 3 (List.length (v13))))], [(1, (.gho gs1 [(.fz ((eL 1 eI) (v6))), (.fz (eTm (a1))), (.fn 105 [])])), (3, (.frow 3 1 (List.map eI (v13))))], [3, 1]⟩) ?_ ?_
    ·refine awp_loopS (stOf := fun v9 => ⟨28, [(0, (.row 3 (List.length (v9.2)))), (2, (.fn 105 [])), (16, (.fz ((eL 2 eTmR) (a1.args)))), (17, (fI ((List.length a1.args : Int)))), (18, (fI (v9.1)))], [(1, (.gho gs1 [(.fz ((eL 1 eI) (v6))), (.fz (eTm (a1))), (.fn 105 [])])), (3, (.frow 3 1 (List.map eI (v9.2))))], [3, 1]⟩) (Qb := fun j e st => e = .exit 0 ∧ LeSt st ⟨28, [(0, (.row 3 (List.length (j))))], [(1, (.gho gs1 [(.fz ((eL 1 eI) (v6))), (.fz (eTm (a1))), (.fn 105 [])])), (3, (.frow 3 1 (List.map eI (j))))], [3, 1]⟩) hj (le_ck (by kernel_rfl)) ?_
     clear hj h
     intro v9 r h
     unfold term_Compare_l1 at h
     refine awp_seq ?_
     refine awp_region ?_
     refine l_rk 1 tt_ok ⟨28, [(0, (.row 3 (List.length (v9.2)))), (2, (.fn 105 [])), (16, (.fz ((eL 2 eTmR) (a1.args)))), (17, (fI ((List.length a1.args : Int)))), (18, (fI (v9.1))), (19, (fB ((decide (v9.1 < (List.length a1.args : Int))))))], [(1, (.gho gs1 [(.fz ((eL 1 eI) (v6))), (.fz (eTm (a1))), (.fn 105 [])])), (3, (.frow 3 1 (List.map eI (v9.2))))], [3, 1]⟩ (by kernel_rfl) ?_
     refine l_nil ?_
     refine awp_seq ?_
     rcases cond_some h with ⟨hb, h⟩ | ⟨hb, h⟩
     ·refine awp_cond_t (b := (decide (v9.1 < (List.length a1.args : Int)))) (by kernel_rfl) hb ?_
      refine awp_skip ?_
      refine awp_seq ?_
      refine awp_block ?_
      refine awp_seq ?_
      refine awp_region ?_
      obtain ⟨v10, hv10, h⟩ := Option.bind_eq_some_iff.1 h
      refine l_step ((s_index (k := .i64) (d := tt40) (e := 42) (de := tt42) (enc := eTmR) hv10 tt_ok rfl (by kernel_rfl) (by kernel_rfl) (by kernel_rfl) (by kernel_rfl) len_eTmR (by kernel_rfl) (cells_eTmR v10)).step) (by kernel_rfl) (dst_of (by kernel_rfl)) ?_
      refine l_rk 3 tt_ok ⟨28, [(0, (.row 3 (List.length (v9.2)))), (2, (.fn 105 [])), (8, (.ref 4 0 0)), (16, (.fz ((eL 2 eTmR) (a1.args)))), (17, (fI ((List.length a1.args : Int)))), (18, (fI (v9.1)))], [(1, (.gho gs1 [(.fz ((eL 1 eI) (v6))), (.fz (eTm (a1))), (.fn 105 [])])), (3, (.frow 3 1 (List.map eI (v9.2)))), (4, (.box 42 [(fI (v10.rule)), (.fz ((eL 2 eTmR) (v10.args)))]))], [4, 3, 1]⟩ (by kernel_rfl) ?_
      refine l_nil ?_
      refine awp_region ?_
      refine l_rk 3 tt_ok ⟨28, [(2, (.fn 105 [])), (16, (.fz ((eL 2 eTmR) (a1.args)))), (17, (fI ((List.length a1.args : Int)))), (18, (fI (v9.1))), (22, (.row 3 (List.length (v9.2)))), (23, (.fz (eTm (v10)))), (24, (.fn 105 []))], [(1, (.gho gs1 [(.fz ((eL 1 eI) (v6))), (.fz (eTm (a1))), (.fn 105 [])])), (3, (.frow 3 1 (List.map eI (v9.2))))], [3, 1]⟩ (by kernel_rfl) ?_
      obtain ⟨v11, hv11, h⟩ := Option.bind_eq_some_iff.1 h
      refine l_step (h_step (f := 102) (cap := []) (cs := [.one .keep, .one .keep, .one .keep]) (keys := [1]) [(3, 1)] [(1, 3)] rfl (by kernel_rfl) (term_collect_h4_ok fuel (v9.2) (v10) _ hv11) (by kernel_rfl) (by kernel_rfl) (by kernel_rfl) (by kernel_rfl)) (by kernel_rfl) (dst_of (by kernel_rfl)) ?_
      refine l_rk 1 tt_ok ⟨28, [(0, (.row 3 (List.length (v11)))), (2, (.fn 105 [])), (16, (.fz ((eL 2 eTmR) (a1.args)))), (17, (fI ((List.length a1.args : Int)))), (18, (fI (v9.1)))], [(1, (.gho gs1 [(.fz ((eL 1 eI) (v6))), (.fz (eTm (a1))), (.fn 105 [])])), (3, (.frow 3 1 (List.map eI (v11))))], [3, 1]⟩ (by kernel_rfl) ?_
      refine l_nil ?_
      refine awp_region ?_
      refine l_rk 2 tt_ok ⟨28, [(0, (.row 3 (List.length (v11)))), (2, (.fn 105 [])), (16, (.fz ((eL 2 eTmR) (a1.args)))), (17, (fI ((List.length a1.args : Int)))), (18, (fI ((w64 (v9.1 + 1)))))], [(1, (.gho gs1 [(.fz ((eL 1 eI) (v6))), (.fz (eTm (a1))), (.fn 105 [])])), (3, (.frow 3 1 (List.map eI (v11))))], [3, 1]⟩ (by kernel_rfl) ?_
      refine l_nil ?_
      obtain rfl := Option.some.inj h
      exact And.intro rfl (le_ck (by kernel_rfl))
     ·refine awp_cond_f (b := (decide (v9.1 < (List.length a1.args : Int)))) (by kernel_rfl) hb ?_
      refine awp_exit ?_
      obtain rfl := Option.some.inj h
      exact And.intro (And.intro (fun h => nomatch h) (fun h => nomatch h)) (And.intro rfl (le_ck (by kernel_rfl)))
    ·clear hj
     intro e st' hq
     obtain ⟨rfl, hle⟩ := hq
     refine ⟨_, hle, ?_⟩
     refine awp_seq ?_
     refine awp_region ?_
     refine l_rk 2 tt_ok ⟨28, [(6, (.row 3 (List.length (v13))))], [(1, (.gho gs1 [(.fz ((eL 1 eI) (v6))), (.fz (eTm (a1))), (.fn 105 [])])), (3, (.frow 3 1 (List.map eI (v13))))], [3, 1]⟩ (by kernel_rfl) ?_
     refine l_nil ?_
     refine awp_ret ?_
     refine (show inlQ _ _ _ _ _ _ _ _ _ _ _ _ from ⟨.inr rfl, [(.fz ((eL 1 eI) (v6))), (.fz (eTm (a1))), (.fn 105 [])], (.row 3 (List.length (v13))), (by kernel_rfl), (.inr ⟨6, by kernel_rfl, by kernel_rfl⟩), ?_⟩)
     refine l_le (le_freezeTs (id := 3) (n := List.length (v13)) (e := 3) (size := 1) (xs := List.map eI (v13)) [34] ⟨by kernel_rfl, trivial⟩ (by kernel_rfl) (by simp)) ?_
     obtain ⟨v14, hv14, h⟩ := Option.bind_eq_some_iff.1 h
     refine l_step ((n_call (ys := [(eL 1 eI) (v6), (eL 1 eI) (v13)]) (cs := [(.one (.sl 1)), (.one (.sl 1))]) rfl (by kernel_rfl) (term_lexical_ok (v6) (v13) _ hv14)).step) (by kernel_rfl) (dst_of (by kernel_rfl)) ?_
     refine l_rk 1 tt_ok ⟨36, [(4, (fI (v14)))], [], []⟩ (by kernel_rfl) ?_
     refine l_nil ?_
     refine awp_ret ?_
     obtain rfl := Option.some.inj h
     exact (show retX _ _ _ _ = some _ from by kernel_rfl)

def term_Depth_l1 (a0 : Tm) (r93 : (Tm) → Option (Int)) (v1 : (Int) × (Int)) : Option (((Int) × (Int)) ⊕ ((Int))) := (bif (decide (v1.2 < (List.length a0.args : Int))) then (Option.bind (idx a0.args v1.2) fun v2 => (Option.bind (r93 (v2)) fun v3 => (some (.inl ((imax v1.1 v3), (w64 (v1.2 + 1))))))) else (some (.inr (v1.1))))
def term_Depth_b (r93 : (Tm) → Option (Int)) (a0 : Tm) : Option (Int) := (Option.bind (loopN (term_Depth_l1 a0 r93) fuel (0, 0)) fun (v5 : (Int)) => (some (w64 (v5 + 1))))
theorem term_Depth_b_ok (r93 : (Tm) → Option (Int)) (ih93 : ∀ (x0 : Tm) r, r93 x0 = some r → PCall Try.prog 93 [eTm x0] (eI (r))) (a0 : Tm) (r : Int) (h : term_Depth_b r93 a0 = some r) : PCall Try.prog 93 [eTm a0] (eI (r)) := by
 unfold term_Depth_b at h
 refine pcall_intro (T := TT) tt_ok [.one .keep] Try.func93 rfl (by kernel_rfl) (by kernel_rfl) ?_
 refine awp_le (st' := ⟨20, [(0, (.fz (eTm (a0))))], [], []⟩) (le_ck (by kernel_rfl)) ?_
 refine awp_seq ?_
 refine awp_region ?_
 refine l_rk 2 tt_ok ⟨20, [(1, (.ref 1 0 0))], [(1, (.box 42 [(fI (a0.rule)), (.fz ((eL 2 eTmR) (a0.args)))]))], [1]⟩ (by kernel_rfl) ?_
 refine l_nil ?_
 refine awp_seq ?_
 refine awp_region ?_
 refine l_rk 1 tt_ok ⟨20, [(1, (.ref 1 0 0)), (3, (fI (0)))], [(1, (.box 42 [(fI (a0.rule)), (.fz ((eL 2 eTmR) (a0.args)))]))], [1]⟩ (by kernel_rfl) ?_
 refine l_nil ?_
 refine awp_seq ?_
 refine awp_seq ?_
 refine awp_region ?_
 refine l_rk 4 tt_ok ⟨20, [(3, (fI (0))), (7, (.fz ((eL 2 eTmR) (a0.args)))), (8, (fI ((List.length a0.args : Int)))), (9, (fI (0)))], [], []⟩ (by kernel_rfl) ?_
 refine l_nil ?_
 refine awp_block ?_
 obtain ⟨v5, hj, h⟩ := Option.bind_eq_some_iff.1 h
 refine awp_join (Qa := fun e st => e = .exit 0 ∧ LeSt st ⟨20, [(3, (fI (v5)))], [], []⟩) ?_ ?_
 ·refine awp_loopS (stOf := fun v1 => ⟨20, [(3, (fI (v1.1))), (7, (.fz ((eL 2 eTmR) (a0.args)))), (8, (fI ((List.length a0.args : Int)))), (9, (fI (v1.2)))], [], []⟩) (Qb := fun j e st => e = .exit 0 ∧ LeSt st ⟨20, [(3, (fI (j)))], [], []⟩) hj (le_ck (by kernel_rfl)) ?_
  clear hj h
  intro v1 r h
  unfold term_Depth_l1 at h
  refine awp_seq ?_
  refine awp_region ?_
  refine l_rk 1 tt_ok ⟨20, [(3, (fI (v1.1))), (7, (.fz ((eL 2 eTmR) (a0.args)))), (8, (fI ((List.length a0.args : Int)))), (9, (fI (v1.2))), (10, (fB ((decide (v1.2 < (List.length a0.args : Int))))))], [], []⟩ (by kernel_rfl) ?_
  refine l_nil ?_
  refine awp_seq ?_
  rcases cond_some h with ⟨hb, h⟩ | ⟨hb, h⟩
  ·refine awp_cond_t (b := (decide (v1.2 < (List.length a0.args : Int)))) (by kernel_rfl) hb ?_
   refine awp_skip ?_
   refine awp_seq ?_
   refine awp_block ?_
   refine awp_seq ?_
   refine awp_region ?_
   obtain ⟨v2, hv2, h⟩ := Option.bind_eq_some_iff.1 h
   refine l_step ((s_index (k := .i64) (d := tt40) (e := 42) (de := tt42) (enc := eTmR) hv2 tt_ok rfl (by kernel_rfl) (by kernel_rfl) (by kernel_rfl) (by kernel_rfl) len_eTmR (by kernel_rfl) (cells_eTmR v2)).step) (by kernel_rfl) (dst_of (by kernel_rfl)) ?_
   refine l_rk 3 tt_ok ⟨20, [(3, (fI (v1.1))), (5, (.ref 1 0 0)), (7, (.fz ((eL 2 eTmR) (a0.args)))), (8, (fI ((List.length a0.args : Int)))), (9, (fI (v1.2)))], [(1, (.box 42 [(fI (v2.rule)), (.fz ((eL 2 eTmR) (v2.args)))]))], [1]⟩ (by kernel_rfl) ?_
   refine l_nil ?_
   refine awp_region ?_
   refine l_rk 2 tt_ok ⟨20, [(7, (.fz ((eL 2 eTmR) (a0.args)))), (8, (fI ((List.length a0.args : Int)))), (9, (fI (v1.2))), (13, (fI (v1.1))), (14, (.fz (eTm (v2))))], [], []⟩ (by kernel_rfl) ?_
   obtain ⟨v3, hv3, h⟩ := Option.bind_eq_some_iff.1 h
   refine l_step ((n_call (ys := [eTm (v2)]) (cs := [(.one .keep)]) rfl (by kernel_rfl) (ih93 (v2) _ hv3)).step) (by kernel_rfl) (dst_of (by kernel_rfl)) ?_
   refine l_step ((s_max (k := .i64) (k' := .i64) (m := v1.1) (n := v3) rfl (by kernel_rfl) (by kernel_rfl)).step) (by kernel_rfl) (dst_of (by kernel_rfl)) ?_
   refine l_rk 1 tt_ok ⟨20, [(3, (fI ((imax v1.1 v3)))), (7, (.fz ((eL 2 eTmR) (a0.args)))), (8, (fI ((List.length a0.args : Int)))), (9, (fI (v1.2)))], [], []⟩ (by kernel_rfl) ?_
   refine l_nil ?_
   refine awp_region ?_
   refine l_rk 2 tt_ok ⟨20, [(3, (fI ((imax v1.1 v3)))), (7, (.fz ((eL 2 eTmR) (a0.args)))), (8, (fI ((List.length a0.args : Int)))), (9, (fI ((w64 (v1.2 + 1)))))], [], []⟩ (by kernel_rfl) ?_
   refine l_nil ?_
   obtain rfl := Option.some.inj h
   exact And.intro rfl (le_ck (by kernel_rfl))
  ·refine awp_cond_f (b := (decide (v1.2 < (List.length a0.args : Int)))) (by kernel_rfl) hb ?_
   refine awp_exit ?_
   obtain rfl := Option.some.inj h
   exact And.intro (And.intro (fun h => nomatch h) (fun h => nomatch h)) (And.intro rfl (le_ck (by kernel_rfl)))
 ·clear hj
  intro e st' hq
  obtain ⟨rfl, hle⟩ := hq
  refine ⟨_, hle, ?_⟩
  refine awp_seq ?_
  refine awp_region ?_
  refine l_rk 3 tt_ok ⟨20, [(2, (fI ((w64 (v5 + 1)))))], [], []⟩ (by kernel_rfl) ?_
  refine l_nil ?_
  refine awp_ret ?_
  obtain rfl := Option.some.inj h
  exact (show retX _ _ _ _ = some _ from by kernel_rfl)
def term_Depth : Nat → (Tm) → Option (Int)
  | 0 => fun _ => none
  | n + 1 => term_Depth_b (term_Depth n)
theorem term_Depth_ok : ∀ (n : Nat) (x0 : Tm) r, term_Depth n x0 = some r → PCall Try.prog 93 [eTm x0] (eI (r))
  | 0, _, _, h => by cases h
  | n + 1, x0, r, h => term_Depth_b_ok (term_Depth n) (term_Depth_ok n) x0 r h

def synthesislaw13_alive  : Option (Bool) := (Option.bind ((Option.bind (term_Size fuel ((Tm.mk (1) (([(Tm.mk (0) (([] : List Tm))), (Tm.mk (0) (([] : List Tm)))] : List (Tm)))))) fun v1 => (bif (v1 == 3) then (Option.bind (term_Depth fuel ((Tm.mk (1) (([(Tm.mk (0) (([] : List Tm))), (Tm.mk (0) (([] : List Tm)))] : List (Tm)))))) fun v2 => (bif (v2 == 2) then (Option.bind (idx ([(Tm.mk (0) (([] : List Tm))), (Tm.mk (0) (([] : List Tm)))] : List (Tm)) 0) fun v3 => (Option.bind (term_Compare ((Tm.mk (1) (([(Tm.mk (0) (([] : List Tm))), (Tm.mk (0) (([] : List Tm)))] : List (Tm))))) (v3)) fun v4 => (some ((v4 == 1))))) else (some (false)))) else (some (false)))) : Option ((Bool))) fun (v6 : (Bool)) => (some v6))
theorem synthesislaw13_alive_ok  (r : Bool) (h : synthesislaw13_alive  = some r) : PCall Try.prog 38 [] (eB (r)) := by
 unfold synthesislaw13_alive at h
 refine pcall_intro (T := TT) tt_ok [.one .keep] Try.func38 rfl (by kernel_rfl) (by kernel_rfl) ?_
 refine awp_le (st' := ⟨23, [], [], []⟩) (le_ck (by kernel_rfl)) ?_
 refine awp_seq ?_
 refine awp_region ?_
 refine l_rk 1 tt_ok ⟨23, [], [], []⟩ (by kernel_rfl) ?_
 refine l_nil ?_
 refine awp_seq ?_
 refine awp_region ?_
 refine l_rk 2 tt_ok ⟨23, [(2, (.fz (.agg [(eI (0)), (.atom (.slice none 0 0))]))), (3, (.fz (.agg [(eI (0)), (.atom (.slice none 0 0))])))], [], []⟩ (by kernel_rfl) ?_
 refine l_le (le_co (ids := []) (ts := [(2, (.ag [.keep, .sl 2])), (3, .one .keep)]) (os := []) (by kernel_rfl) : LeSt _ ⟨23, [(2, (.fz (eTm ((Tm.mk (0) (([] : List Tm))))))), (3, (.fz (.agg [(eI (0)), (.atom (.slice none 0 0))])))], [], []⟩) ?_
 refine l_le (le_co (ids := []) (ts := [(2, .one .keep), (3, (.ag [.keep, .sl 2]))]) (os := []) (by kernel_rfl) : LeSt _ ⟨23, [(2, (.fz (eTm ((Tm.mk (0) (([] : List Tm))))))), (3, (.fz (eTm ((Tm.mk (0) (([] : List Tm)))))))], [], []⟩) ?_
 refine l_step (xstep_ok (c := .lim 2 2 [eTm ((Tm.mk (0) (([] : List Tm)))), eTm ((Tm.mk (0) (([] : List Tm))))]) (h := []) (i := []) tt_ok (by kernel_rfl)) (by kernel_rfl) (dst_of (by kernel_rfl)) ?_
 refine l_le (le_eq (t := 4) (x := .lim 2 2 [eTm ((Tm.mk (0) (([] : List Tm)))), eTm ((Tm.mk (0) (([] : List Tm))))]) (y := .lim 2 2 (List.map eTmR ([(Tm.mk (0) (([] : List Tm))), (Tm.mk (0) (([] : List Tm)))] : List (Tm)))) (by kernel_rfl) (by simp only [List.map, eTmR_eq])) ?_
 refine l_rk 3 tt_ok ⟨23, [(1, (.ref 1 0 0))], [(1, (.box 42 [(fI (1)), (.lim 2 (List.length (([(Tm.mk (0) (([] : List Tm))), (Tm.mk (0) (([] : List Tm)))] : List (Tm)))) (List.map eTmR (([(Tm.mk (0) (([] : List Tm))), (Tm.mk (0) (([] : List Tm)))] : List (Tm)))))]))], [1]⟩ (by kernel_rfl) ?_
 refine l_nil ?_
 refine awp_seq ?_
 obtain ⟨v6, hj, h⟩ := Option.bind_eq_some_iff.1 h
 refine awp_join (Qa := fun e st => e = .normal ∧ LeSt st ⟨23, [(0, (fB (v6)))], [], []⟩) ?_ ?_
 ·replace h := hj
  clear hj
  obtain ⟨v1, hv1, h⟩ := Option.bind_eq_some_iff.1 h
  rcases cond_some h with ⟨hb3, h⟩ | ⟨hb3, h⟩
  ·obtain ⟨v2, hv2, h⟩ := Option.bind_eq_some_iff.1 h
   rcases cond_some h with ⟨hb8, h⟩ | ⟨hb8, h⟩
   ·obtain ⟨v3, hv3, h⟩ := Option.bind_eq_some_iff.1 h
    refine awp_drawn (by kernel_rfl) [(.agg [(fI (1)), (.lim 2 (List.length (([(Tm.mk (0) (([] : List Tm))), (Tm.mk (0) (([] : List Tm)))] : List (Tm)))) (List.map eTmR (([(Tm.mk (0) (([] : List Tm))), (Tm.mk (0) (([] : List Tm)))] : List (Tm)))))]), (fI (v1)), (fB ((v1 == 3))), (fB (true)), (.agg [(fI (1)), (.lim 2 (List.length (([(Tm.mk (0) (([] : List Tm))), (Tm.mk (0) (([] : List Tm)))] : List (Tm)))) (List.map eTmR (([(Tm.mk (0) (([] : List Tm))), (Tm.mk (0) (([] : List Tm)))] : List (Tm)))))]), (fI (v2)), (fB ((v2 == 2))), (fB ((v2 == 2))), (fB (true)), (.agg [(fI (1)), (.lim 2 (List.length (([(Tm.mk (0) (([] : List Tm))), (Tm.mk (0) (([] : List Tm)))] : List (Tm)))) (List.map eTmR (([(Tm.mk (0) (([] : List Tm))), (Tm.mk (0) (([] : List Tm)))] : List (Tm)))))]), (.ref 1 0 1), (.lim 2 (List.length (([(Tm.mk (0) (([] : List Tm))), (Tm.mk (0) (([] : List Tm)))] : List (Tm)))) (List.map eTmR (([(Tm.mk (0) (([] : List Tm))), (Tm.mk (0) (([] : List Tm)))] : List (Tm))))), (.fz (.fp [(eI (v3.rule)), ((eL 2 eTmR) (v3.args))])), (.fz (eTm (v3)))] (by kernel_rfl) ?_
    refine ⟨.inl ⟨by kernel_rfl, (nstep_ok tt_ok (by kernel_rfl))⟩, ?_⟩
    refine ⟨.inl ⟨by kernel_rfl, (n_call (ys := [eTm ((Tm.mk (1) (([(Tm.mk (0) (([] : List Tm))), (Tm.mk (0) (([] : List Tm)))] : List (Tm)))))]) (cs := [(.ag [.keep, .sl 2])]) rfl (by kernel_rfl) (term_Size_ok fuel ((Tm.mk (1) (([(Tm.mk (0) (([] : List Tm))), (Tm.mk (0) (([] : List Tm)))] : List (Tm))))) _ hv1))⟩, ?_⟩
    refine ⟨.inl ⟨by kernel_rfl, (nstep_ok tt_ok (by kernel_rfl))⟩, ?_⟩
    refine ⟨.inl ⟨by kernel_rfl, (NStep.eqv (nstep_ok tt_ok (by kernel_rfl)) (congrArg (fun b => AV.fz (eB b)) hb3))⟩, ?_⟩
    refine ⟨.inl ⟨by kernel_rfl, (nstep_ok tt_ok (by kernel_rfl))⟩, ?_⟩
    refine ⟨.inl ⟨by kernel_rfl, (n_call (ys := [eTm ((Tm.mk (1) (([(Tm.mk (0) (([] : List Tm))), (Tm.mk (0) (([] : List Tm)))] : List (Tm)))))]) (cs := [(.ag [.keep, .sl 2])]) rfl (by kernel_rfl) (term_Depth_ok fuel ((Tm.mk (1) (([(Tm.mk (0) (([] : List Tm))), (Tm.mk (0) (([] : List Tm)))] : List (Tm))))) _ hv2))⟩, ?_⟩
    refine ⟨.inl ⟨by kernel_rfl, (nstep_ok tt_ok (by kernel_rfl))⟩, ?_⟩
    refine ⟨.inl ⟨by kernel_rfl, (nstep_ok tt_ok (by kernel_rfl))⟩, ?_⟩
    refine ⟨.inl ⟨by kernel_rfl, (NStep.eqv (nstep_ok tt_ok (by kernel_rfl)) (congrArg (fun b => AV.fz (eB b)) hb8))⟩, ?_⟩
    refine ⟨.inl ⟨by kernel_rfl, (nstep_ok tt_ok (by kernel_rfl))⟩, ?_⟩
    refine ⟨.inl ⟨by kernel_rfl, (nstep_ok tt_ok (by kernel_rfl))⟩, ?_⟩
    refine ⟨.inl ⟨by kernel_rfl, (nstep_ok tt_ok (by kernel_rfl))⟩, ?_⟩
    refine ⟨.inl ⟨by kernel_rfl, (s_index (k := .i64) (d := tt40) (e := 42) (de := tt42) (enc := eTmR) hv3 tt_ok rfl (by kernel_rfl) (by kernel_rfl) (by kernel_rfl) (by kernel_rfl) len_eTmR (by kernel_rfl) (cells_eTmR v3))⟩, ?_⟩
    refine ⟨.inl ⟨by kernel_rfl, (nstep_ok tt_ok (by kernel_rfl))⟩, ?_⟩
    refine l_rk 0 tt_ok ⟨23, [(14, (fB (true))), (15, (.agg [(fI (1)), (.lim 2 (List.length (([(Tm.mk (0) (([] : List Tm))), (Tm.mk (0) (([] : List Tm)))] : List (Tm)))) (List.map eTmR (([(Tm.mk (0) (([] : List Tm))), (Tm.mk (0) (([] : List Tm)))] : List (Tm)))))])), (19, (.fz (eTm (v3))))], [], []⟩ (by kernel_rfl) ?_
    obtain ⟨v4, hv4, h⟩ := Option.bind_eq_some_iff.1 h
    refine l_step ((n_call (ys := [eTm ((Tm.mk (1) (([(Tm.mk (0) (([] : List Tm))), (Tm.mk (0) (([] : List Tm)))] : List (Tm))))), eTm (v3)]) (cs := [(.ag [.keep, .sl 2]), (.one .keep)]) rfl (by kernel_rfl) (term_Compare_ok ((Tm.mk (1) (([(Tm.mk (0) (([] : List Tm))), (Tm.mk (0) (([] : List Tm)))] : List (Tm))))) (v3) _ hv4)).step) (by kernel_rfl) (dst_of (by kernel_rfl)) ?_
    refine l_rk 3 tt_ok ⟨23, [(0, (fB ((v4 == 1))))], [], []⟩ (by kernel_rfl) ?_
    refine l_nil ?_
    obtain rfl := Option.some.inj h
    exact And.intro rfl (le_ck (by kernel_rfl))
   ·refine awp_drawn (by kernel_rfl) [(.agg [(fI (1)), (.lim 2 (List.length (([(Tm.mk (0) (([] : List Tm))), (Tm.mk (0) (([] : List Tm)))] : List (Tm)))) (List.map eTmR (([(Tm.mk (0) (([] : List Tm))), (Tm.mk (0) (([] : List Tm)))] : List (Tm)))))]), (fI (v1)), (fB ((v1 == 3))), (fB (true)), (.agg [(fI (1)), (.lim 2 (List.length (([(Tm.mk (0) (([] : List Tm))), (Tm.mk (0) (([] : List Tm)))] : List (Tm)))) (List.map eTmR (([(Tm.mk (0) (([] : List Tm))), (Tm.mk (0) (([] : List Tm)))] : List (Tm)))))]), (fI (v2)), (fB ((v2 == 2))), (fB ((v2 == 2))), (fB (false)), (.fz (.tup [])), (.fz (.tup [])), (.fz (.tup [])), (.fz (.tup [])), (.fz (.tup []))] (by kernel_rfl) ?_
    refine ⟨.inl ⟨by kernel_rfl, (nstep_ok tt_ok (by kernel_rfl))⟩, ?_⟩
    refine ⟨.inl ⟨by kernel_rfl, (n_call (ys := [eTm ((Tm.mk (1) (([(Tm.mk (0) (([] : List Tm))), (Tm.mk (0) (([] : List Tm)))] : List (Tm)))))]) (cs := [(.ag [.keep, .sl 2])]) rfl (by kernel_rfl) (term_Size_ok fuel ((Tm.mk (1) (([(Tm.mk (0) (([] : List Tm))), (Tm.mk (0) (([] : List Tm)))] : List (Tm))))) _ hv1))⟩, ?_⟩
    refine ⟨.inl ⟨by kernel_rfl, (nstep_ok tt_ok (by kernel_rfl))⟩, ?_⟩
    refine ⟨.inl ⟨by kernel_rfl, (NStep.eqv (nstep_ok tt_ok (by kernel_rfl)) (congrArg (fun b => AV.fz (eB b)) hb3))⟩, ?_⟩
    refine ⟨.inl ⟨by kernel_rfl, (nstep_ok tt_ok (by kernel_rfl))⟩, ?_⟩
    refine ⟨.inl ⟨by kernel_rfl, (n_call (ys := [eTm ((Tm.mk (1) (([(Tm.mk (0) (([] : List Tm))), (Tm.mk (0) (([] : List Tm)))] : List (Tm)))))]) (cs := [(.ag [.keep, .sl 2])]) rfl (by kernel_rfl) (term_Depth_ok fuel ((Tm.mk (1) (([(Tm.mk (0) (([] : List Tm))), (Tm.mk (0) (([] : List Tm)))] : List (Tm))))) _ hv2))⟩, ?_⟩
    refine ⟨.inl ⟨by kernel_rfl, (nstep_ok tt_ok (by kernel_rfl))⟩, ?_⟩
    refine ⟨.inl ⟨by kernel_rfl, (nstep_ok tt_ok (by kernel_rfl))⟩, ?_⟩
    refine ⟨.inl ⟨by kernel_rfl, (NStep.eqv (nstep_ok tt_ok (by kernel_rfl)) (congrArg (fun b => AV.fz (eB b)) hb8))⟩, ?_⟩
    refine ⟨.inr ⟨by kernel_rfl, rfl⟩, ?_⟩
    refine ⟨.inr ⟨by kernel_rfl, rfl⟩, ?_⟩
    refine ⟨.inr ⟨by kernel_rfl, rfl⟩, ?_⟩
    refine ⟨.inr ⟨by kernel_rfl, rfl⟩, ?_⟩
    refine ⟨.inr ⟨by kernel_rfl, rfl⟩, ?_⟩
    refine l_rk 4 tt_ok ⟨23, [(0, (fB (false)))], [], []⟩ (by kernel_rfl) ?_
    refine l_nil ?_
    obtain rfl := Option.some.inj h
    exact And.intro rfl (le_ck (by kernel_rfl))
  ·refine awp_drawn (by kernel_rfl) [(.agg [(fI (1)), (.lim 2 (List.length (([(Tm.mk (0) (([] : List Tm))), (Tm.mk (0) (([] : List Tm)))] : List (Tm)))) (List.map eTmR (([(Tm.mk (0) (([] : List Tm))), (Tm.mk (0) (([] : List Tm)))] : List (Tm)))))]), (fI (v1)), (fB ((v1 == 3))), (fB (false)), (.fz (.tup [])), (.fz (.tup [])), (.fz (.tup [])), (fB (false)), (fB (false)), (.fz (.tup [])), (.fz (.tup [])), (.fz (.tup [])), (.fz (.tup [])), (.fz (.tup []))] (by kernel_rfl) ?_
   refine ⟨.inl ⟨by kernel_rfl, (nstep_ok tt_ok (by kernel_rfl))⟩, ?_⟩
   refine ⟨.inl ⟨by kernel_rfl, (n_call (ys := [eTm ((Tm.mk (1) (([(Tm.mk (0) (([] : List Tm))), (Tm.mk (0) (([] : List Tm)))] : List (Tm)))))]) (cs := [(.ag [.keep, .sl 2])]) rfl (by kernel_rfl) (term_Size_ok fuel ((Tm.mk (1) (([(Tm.mk (0) (([] : List Tm))), (Tm.mk (0) (([] : List Tm)))] : List (Tm))))) _ hv1))⟩, ?_⟩
   refine ⟨.inl ⟨by kernel_rfl, (nstep_ok tt_ok (by kernel_rfl))⟩, ?_⟩
   refine ⟨.inl ⟨by kernel_rfl, (NStep.eqv (nstep_ok tt_ok (by kernel_rfl)) (congrArg (fun b => AV.fz (eB b)) hb3))⟩, ?_⟩
   refine ⟨.inr ⟨by kernel_rfl, rfl⟩, ?_⟩
   refine ⟨.inr ⟨by kernel_rfl, rfl⟩, ?_⟩
   refine ⟨.inr ⟨by kernel_rfl, rfl⟩, ?_⟩
   refine ⟨.inl ⟨by kernel_rfl, (nstep_ok tt_ok (by kernel_rfl))⟩, ?_⟩
   refine ⟨.inl ⟨by kernel_rfl, (nstep_ok tt_ok (by kernel_rfl))⟩, ?_⟩
   refine ⟨.inr ⟨by kernel_rfl, rfl⟩, ?_⟩
   refine ⟨.inr ⟨by kernel_rfl, rfl⟩, ?_⟩
   refine ⟨.inr ⟨by kernel_rfl, rfl⟩, ?_⟩
   refine ⟨.inr ⟨by kernel_rfl, rfl⟩, ?_⟩
   refine ⟨.inr ⟨by kernel_rfl, rfl⟩, ?_⟩
   refine l_rk 4 tt_ok ⟨23, [(0, (fB (false)))], [], []⟩ (by kernel_rfl) ?_
   refine l_nil ?_
   obtain rfl := Option.some.inj h
   exact And.intro rfl (le_ck (by kernel_rfl))
 ·clear hj
  intro e st' hq
  obtain ⟨rfl, hle⟩ := hq
  refine ⟨_, hle, ?_⟩
  refine awp_ret ?_
  obtain rfl := Option.some.inj h
  exact (show retX _ _ _ _ = some _ from by kernel_rfl)

def synthesislaw13_TermChecks (a0 : La) (a1 : Int) (a2 : Tm) : Option (Bool) := (Option.bind ((Option.bind (synthesisref13_Few (a0)) fun v1 => (bif (!v1) then (Option.bind (synthesislaw13_alive ) fun v2 => (some (v2))) else (Option.bind (synthesislaw13_small (([a2] : List (Tm)))) fun v3 => (bif (!v3) then (Option.bind (synthesislaw13_alive ) fun v4 => (some (v4))) else (Option.bind (term_Check (a0) (a1) (a2)) fun v5 => (Option.bind (synthesisref13_Check (a0) (a1) (a2)) fun v6 => (bif (v5 == v6) then (Option.bind (synthesislaw13_alive ) fun v7 => (some (v7))) else (some (false))))))))) : Option ((Bool))) fun (v9 : (Bool)) => (some v9))
theorem synthesislaw13_TermChecks_ok (a0 : La) (a1 : Int) (a2 : Tm) (r : Bool) (h : synthesislaw13_TermChecks a0 a1 a2 = some r) : PCall Try.prog 7 [eLa a0, eI a1, eTm a2] (eB (r)) := by
 unfold synthesislaw13_TermChecks at h
 refine pcall_intro (T := TT) tt_ok [.one .keep] Try.func7 rfl (by kernel_rfl) (by kernel_rfl) ?_
 refine awp_le (st' := ⟨30, [(0, (.fz (eLa (a0)))), (1, (fI (a1))), (2, (.fz (eTm (a2))))], [], []⟩) (le_ck (by kernel_rfl)) ?_
 refine awp_seq ?_
 refine awp_region ?_
 refine l_rk 3 tt_ok ⟨30, [(1, (fI (a1))), (3, (.ref 1 0 0)), (5, (.ref 2 0 0))], [(1, (.box 27 [(fS (a0.name)), (.fz ((eL 1 eI) (a0.inputs))), (.fz ((eL 2 eSy) (a0.symbols))), (.fz ((eL 9 eRu) (a0.rules)))])), (2, (.box 42 [(fI (a2.rule)), (.fz ((eL 2 eTmR) (a2.args)))]))], [2, 1]⟩ (by kernel_rfl) ?_
 refine l_nil ?_
 refine awp_seq ?_
 obtain ⟨v9, hj, h⟩ := Option.bind_eq_some_iff.1 h
 refine awp_join (Qa := fun e st => e = .normal ∧ LeSt st ⟨30, [(6, (fB (v9)))], [], []⟩) ?_ ?_
 ·replace h := hj
  clear hj
  obtain ⟨v1, hv1, h⟩ := Option.bind_eq_some_iff.1 h
  rcases cond_some h with ⟨hb3, h⟩ | ⟨hb3, h⟩
  ·refine awp_drawn (by kernel_rfl) [(.fz (eLa (a0))), (fB (v1)), (fB ((!v1))), (fB (true)), (.fz (.tup [])), (.fz (.tup [])), (.fz (.tup [])), (.fz (.tup [])), (fB (true)), (fB (true)), (.fz (.tup [])), (.fz (.tup [])), (.fz (.tup [])), (.fz (.tup [])), (.fz (.tup [])), (.fz (.tup [])), (.fz (.tup []))] (by kernel_rfl) ?_
   refine ⟨.inl ⟨by kernel_rfl, (nstep_ok tt_ok (by kernel_rfl))⟩, ?_⟩
   refine ⟨.inl ⟨by kernel_rfl, (n_call (ys := [eLa (a0)]) (cs := [(.one .keep)]) rfl (by kernel_rfl) (synthesisref13_Few_ok (a0) _ hv1))⟩, ?_⟩
   refine ⟨.inl ⟨by kernel_rfl, (nstep_ok tt_ok (by kernel_rfl))⟩, ?_⟩
   refine ⟨.inl ⟨by kernel_rfl, (NStep.eqv (nstep_ok tt_ok (by kernel_rfl)) (congrArg (fun b => AV.fz (eB b)) hb3))⟩, ?_⟩
   refine ⟨.inr ⟨by kernel_rfl, rfl⟩, ?_⟩
   refine ⟨.inr ⟨by kernel_rfl, rfl⟩, ?_⟩
   refine ⟨.inr ⟨by kernel_rfl, rfl⟩, ?_⟩
   refine ⟨.inr ⟨by kernel_rfl, rfl⟩, ?_⟩
   refine ⟨.inl ⟨by kernel_rfl, (nstep_ok tt_ok (by kernel_rfl))⟩, ?_⟩
   refine ⟨.inl ⟨by kernel_rfl, (nstep_ok tt_ok (by kernel_rfl))⟩, ?_⟩
   refine ⟨.inr ⟨by kernel_rfl, rfl⟩, ?_⟩
   refine ⟨.inr ⟨by kernel_rfl, rfl⟩, ?_⟩
   refine ⟨.inr ⟨by kernel_rfl, rfl⟩, ?_⟩
   refine ⟨.inr ⟨by kernel_rfl, rfl⟩, ?_⟩
   refine ⟨.inr ⟨by kernel_rfl, rfl⟩, ?_⟩
   refine ⟨.inr ⟨by kernel_rfl, rfl⟩, ?_⟩
   refine ⟨.inr ⟨by kernel_rfl, rfl⟩, ?_⟩
   refine l_rk 4 tt_ok ⟨30, [(27, (fB (true)))], [], []⟩ (by kernel_rfl) ?_
   obtain ⟨v2, hv2, h⟩ := Option.bind_eq_some_iff.1 h
   refine l_step ((n_call (ys := []) (cs := []) rfl (by kernel_rfl) (synthesislaw13_alive_ok  _ hv2)).step) (by kernel_rfl) (dst_of (by kernel_rfl)) ?_
   refine l_rk 2 tt_ok ⟨30, [(6, (fB (v2)))], [], []⟩ (by kernel_rfl) ?_
   refine l_nil ?_
   obtain rfl := Option.some.inj h
   exact And.intro rfl (le_ck (by kernel_rfl))
  ·obtain ⟨v3, hv3, h⟩ := Option.bind_eq_some_iff.1 h
   rcases cond_some h with ⟨hb9, h⟩ | ⟨hb9, h⟩
   ·refine awp_drawn (by kernel_rfl) [(.fz (eLa (a0))), (fB (v1)), (fB ((!v1))), (fB (false)), (.fz (eTm (a2))), (.lim 2 (List.length (([a2] : List (Tm)))) (List.map eTmR (([a2] : List (Tm))))), (fB (v3)), (fB ((!v3))), (fB ((!v3))), (fB (true)), (.fz (.tup [])), (.fz (.tup [])), (.fz (.tup [])), (.fz (.tup [])), (.fz (.tup [])), (.fz (.tup [])), (.fz (.tup []))] (by kernel_rfl) ?_
    refine ⟨.inl ⟨by kernel_rfl, (nstep_ok tt_ok (by kernel_rfl))⟩, ?_⟩
    refine ⟨.inl ⟨by kernel_rfl, (n_call (ys := [eLa (a0)]) (cs := [(.one .keep)]) rfl (by kernel_rfl) (synthesisref13_Few_ok (a0) _ hv1))⟩, ?_⟩
    refine ⟨.inl ⟨by kernel_rfl, (nstep_ok tt_ok (by kernel_rfl))⟩, ?_⟩
    refine ⟨.inl ⟨by kernel_rfl, (NStep.eqv (nstep_ok tt_ok (by kernel_rfl)) (congrArg (fun b => AV.fz (eB b)) hb3))⟩, ?_⟩
    refine ⟨.inl ⟨by kernel_rfl, (nstep_ok tt_ok (by kernel_rfl))⟩, ?_⟩
    refine ⟨.inl ⟨by kernel_rfl, ((nstep_co (st' := ⟨30, [(11, (.fz (eTm (a2))))], [], []⟩) (ids := []) (ts := [(11, (.one .keep))]) (by kernel_rfl) (nstep_ok (c := .lim 2 1 [eTm (a2)]) tt_ok (by kernel_rfl))).eqv (show AV.lim 2 1 [eTm (a2)] = .lim 2 1 (List.map eTmR ([a2] : List (Tm))) by simp only [List.map, eTmR_eq]))⟩, ?_⟩
    refine ⟨.inl ⟨by kernel_rfl, (n_call (ys := [(eL 2 eTmR) (([a2] : List (Tm)))]) (cs := [(.one (.sl 2))]) rfl (by kernel_rfl) (synthesislaw13_small_ok (([a2] : List (Tm))) _ hv3))⟩, ?_⟩
    refine ⟨.inl ⟨by kernel_rfl, (nstep_ok tt_ok (by kernel_rfl))⟩, ?_⟩
    refine ⟨.inl ⟨by kernel_rfl, (nstep_ok tt_ok (by kernel_rfl))⟩, ?_⟩
    refine ⟨.inl ⟨by kernel_rfl, (NStep.eqv (nstep_ok tt_ok (by kernel_rfl)) (congrArg (fun b => AV.fz (eB b)) hb9))⟩, ?_⟩
    refine ⟨.inr ⟨by kernel_rfl, rfl⟩, ?_⟩
    refine ⟨.inr ⟨by kernel_rfl, rfl⟩, ?_⟩
    refine ⟨.inr ⟨by kernel_rfl, rfl⟩, ?_⟩
    refine ⟨.inr ⟨by kernel_rfl, rfl⟩, ?_⟩
    refine ⟨.inr ⟨by kernel_rfl, rfl⟩, ?_⟩
    refine ⟨.inr ⟨by kernel_rfl, rfl⟩, ?_⟩
    refine ⟨.inr ⟨by kernel_rfl, rfl⟩, ?_⟩
    refine l_rk 4 tt_ok ⟨30, [(27, (fB (true)))], [], []⟩ (by kernel_rfl) ?_
    obtain ⟨v4, hv4, h⟩ := Option.bind_eq_some_iff.1 h
    refine l_step ((n_call (ys := []) (cs := []) rfl (by kernel_rfl) (synthesislaw13_alive_ok  _ hv4)).step) (by kernel_rfl) (dst_of (by kernel_rfl)) ?_
    refine l_rk 2 tt_ok ⟨30, [(6, (fB (v4)))], [], []⟩ (by kernel_rfl) ?_
    refine l_nil ?_
    obtain rfl := Option.some.inj h
    exact And.intro rfl (le_ck (by kernel_rfl))
   ·obtain ⟨v5, hv5, h⟩ := Option.bind_eq_some_iff.1 h
    refine awp_drawn (by kernel_rfl) [(.fz (eLa (a0))), (fB (v1)), (fB ((!v1))), (fB (false)), (.fz (eTm (a2))), (.lim 2 (List.length (([a2] : List (Tm)))) (List.map eTmR (([a2] : List (Tm))))), (fB (v3)), (fB ((!v3))), (fB ((!v3))), (fB (false)), (.fz (eLa (a0))), (fI (a1)), (.fz (eTm (a2))), (fI (v5)), (.fz (eLa (a0))), (fI (a1)), (.fz (eTm (a2)))] (by kernel_rfl) ?_
    refine ⟨.inl ⟨by kernel_rfl, (nstep_ok tt_ok (by kernel_rfl))⟩, ?_⟩
    refine ⟨.inl ⟨by kernel_rfl, (n_call (ys := [eLa (a0)]) (cs := [(.one .keep)]) rfl (by kernel_rfl) (synthesisref13_Few_ok (a0) _ hv1))⟩, ?_⟩
    refine ⟨.inl ⟨by kernel_rfl, (nstep_ok tt_ok (by kernel_rfl))⟩, ?_⟩
    refine ⟨.inl ⟨by kernel_rfl, (NStep.eqv (nstep_ok tt_ok (by kernel_rfl)) (congrArg (fun b => AV.fz (eB b)) hb3))⟩, ?_⟩
    refine ⟨.inl ⟨by kernel_rfl, (nstep_ok tt_ok (by kernel_rfl))⟩, ?_⟩
    refine ⟨.inl ⟨by kernel_rfl, ((nstep_co (st' := ⟨30, [(11, (.fz (eTm (a2))))], [], []⟩) (ids := []) (ts := [(11, (.one .keep))]) (by kernel_rfl) (nstep_ok (c := .lim 2 1 [eTm (a2)]) tt_ok (by kernel_rfl))).eqv (show AV.lim 2 1 [eTm (a2)] = .lim 2 1 (List.map eTmR ([a2] : List (Tm))) by simp only [List.map, eTmR_eq]))⟩, ?_⟩
    refine ⟨.inl ⟨by kernel_rfl, (n_call (ys := [(eL 2 eTmR) (([a2] : List (Tm)))]) (cs := [(.one (.sl 2))]) rfl (by kernel_rfl) (synthesislaw13_small_ok (([a2] : List (Tm))) _ hv3))⟩, ?_⟩
    refine ⟨.inl ⟨by kernel_rfl, (nstep_ok tt_ok (by kernel_rfl))⟩, ?_⟩
    refine ⟨.inl ⟨by kernel_rfl, (nstep_ok tt_ok (by kernel_rfl))⟩, ?_⟩
    refine ⟨.inl ⟨by kernel_rfl, (NStep.eqv (nstep_ok tt_ok (by kernel_rfl)) (congrArg (fun b => AV.fz (eB b)) hb9))⟩, ?_⟩
    refine ⟨.inl ⟨by kernel_rfl, (nstep_ok tt_ok (by kernel_rfl))⟩, ?_⟩
    refine ⟨.inl ⟨by kernel_rfl, (nstep_ok tt_ok (by kernel_rfl))⟩, ?_⟩
    refine ⟨.inl ⟨by kernel_rfl, (nstep_ok tt_ok (by kernel_rfl))⟩, ?_⟩
    refine ⟨.inl ⟨by kernel_rfl, (n_call (ys := [eLa (a0), eI (a1), eTm (a2)]) (cs := [(.one .keep), (.one (.keep)), (.one .keep)]) rfl (by kernel_rfl) (term_Check_ok (a0) (a1) (a2) _ hv5))⟩, ?_⟩
    refine ⟨.inl ⟨by kernel_rfl, (nstep_ok tt_ok (by kernel_rfl))⟩, ?_⟩
    refine ⟨.inl ⟨by kernel_rfl, (nstep_ok tt_ok (by kernel_rfl))⟩, ?_⟩
    refine ⟨.inl ⟨by kernel_rfl, (nstep_ok tt_ok (by kernel_rfl))⟩, ?_⟩
    refine l_rk 0 tt_ok ⟨30, [(16, (fB (false))), (20, (fI (v5))), (21, (.fz (eLa (a0)))), (22, (fI (a1))), (23, (.fz (eTm (a2))))], [], []⟩ (by kernel_rfl) ?_
    obtain ⟨v6, hv6, h⟩ := Option.bind_eq_some_iff.1 h
    refine l_step ((n_call (ys := [eLa (a0), eI (a1), eTm (a2)]) (cs := [(.one .keep), (.one (.keep)), (.one .keep)]) rfl (by kernel_rfl) (synthesisref13_Check_ok (a0) (a1) (a2) _ hv6)).step) (by kernel_rfl) (dst_of (by kernel_rfl)) ?_
    refine l_rk 3 tt_ok ⟨30, [(27, (fB ((v5 == v6))))], [], []⟩ (by kernel_rfl) ?_
    rcases cond_some h with ⟨hb, h⟩ | ⟨hb, h⟩
    ·refine l_le (le_eq (t := 27) (x := .fz (eB (v5 == v6))) (y := .fz (eB true)) (by kernel_rfl) (congrArg (fun b => AV.fz (eB b)) hb)) ?_
     obtain ⟨v7, hv7, h⟩ := Option.bind_eq_some_iff.1 h
     refine l_step ((n_call (ys := []) (cs := []) rfl (by kernel_rfl) (synthesislaw13_alive_ok  _ hv7)).step) (by kernel_rfl) (dst_of (by kernel_rfl)) ?_
     refine l_rk 2 tt_ok ⟨30, [(6, (fB (v7)))], [], []⟩ (by kernel_rfl) ?_
     refine l_nil ?_
     obtain rfl := Option.some.inj h
     exact And.intro rfl (le_ck (by kernel_rfl))
    ·refine l_le (le_eq (t := 27) (x := .fz (eB (v5 == v6))) (y := .fz (eB false)) (by kernel_rfl) (congrArg (fun b => AV.fz (eB b)) hb)) ?_
     refine l_rk 3 tt_ok ⟨30, [(6, (fB (false)))], [], []⟩ (by kernel_rfl) ?_
     refine l_nil ?_
     obtain rfl := Option.some.inj h
     exact And.intro rfl (le_ck (by kernel_rfl))
 ·clear hj
  intro e st' hq
  obtain ⟨rfl, hle⟩ := hq
  refine ⟨_, hle, ?_⟩
  refine awp_ret ?_
  obtain rfl := Option.some.inj h
  exact (show retX _ _ _ _ = some _ from by kernel_rfl)
end Go.Proofs.Ytaeicmnimjfbaaa
