/- Typed programs and what computes them. -/
import Derived.Test.YtaeicmnimjfbaaaZ1
set_option linter.unusedVariables false
set_option linter.unusedSimpArgs false
set_option maxRecDepth 100000
namespace Go.Proofs.Ytaeicmnimjfbaaa
open Go Go.RowKit Go.Proofs
def strings_Builder_copyCheck_h_m0 (p0 : Env) (q0 : Nat → Prop) (w0 : World) (a0 : List Int) : List (Nat × AObj) := [(0, (.was p0 [1, 2] q0 w0)), (1, (.box 138 [(.ref 1 0 0), (.row 2 (List.length (a0)))])), (2, (.frow 5 1 (List.map eU8 (a0))))]
def strings_Builder_copyCheck_h (a0 : List Int) : Option (Unit) := (some ())
theorem strings_Builder_copyCheck_h_ok (a0 : List Int) (r : Unit) (h : strings_Builder_copyCheck_h a0 = some r) : HCall Try.prog 174 ([(.ref 1 0 0)] ++ []) [(1, (.box 138 [(.opt 1), (.row 2 (List.length (a0)))])), (2, (.frow 5 1 (List.map eU8 (a0))))] [1, 2] (.ret (.fz (.tup []))) [(1, (.box 138 [(.opt 1), (.row 2 (List.length (a0)))])), (2, (.frow 5 1 (List.map eU8 (a0))))] [1, 2] := by
 unfold strings_Builder_copyCheck_h at h
 refine hcall_introQ (g := 0) tt_ok Try.func174 rfl (by kernel_rfl) (by kernel_rfl) (by kernel_rfl) (by kernel_rfl) (by kernel_rfl) (by kernel_rfl) (by kernel_rfl) ?_
 intro p0 q0 w0
 refine awp_le (st' := ⟨20, [(0, (.ref 1 0 0))], [(0, (.was p0 [1, 2] q0 w0)), (1, (.box 138 [(.opt 1), (.row 2 (List.length (a0)))])), (2, (.frow 5 1 (List.map eU8 (a0))))], [0, 1, 2]⟩) (le_ck (by kernel_rfl)) ?_
 refine awp_optcases (id := 1) (e := 138) (cells := [(.row 2 (List.length (a0)))]) (by kernel_rfl) ?_ ?_
 ·refine awp_seq ?_
  refine awp_region ?_
  refine l_rk 4 tt_ok ⟨20, [(0, (.ref 1 0 0)), (5, (.fz (.atom (.pointer none))))], [(0, (.was p0 [1, 2] q0 w0)), (1, (.box 138 [(.fz (.atom (.pointer none))), (.row 2 (List.length (a0)))])), (2, (.frow 5 1 (List.map eU8 (a0))))], [0, 1, 2]⟩ (by kernel_rfl) ?_
  refine l_step ((n_nilnil (te := 138) false rfl (by kernel_rfl) (by kernel_rfl) (by kernel_rfl)).step) (by kernel_rfl) (dst_of (by kernel_rfl)) ?_
  refine l_nil ?_
  refine awp_cond_t (by kernel_rfl) rfl ?_
  refine awp_region ?_
  refine l_rk 2 tt_ok ⟨20, [(7, (.ref 1 0 0)), (8, (.ref 1 0 0))], [(0, (.was p0 [1, 2] q0 w0)), (1, (.box 138 [(.fz (.atom (.pointer none))), (.row 2 (List.length (a0)))])), (2, (.frow 5 1 (List.map eU8 (a0))))], [0, 1, 2]⟩ (by kernel_rfl) ?_
  refine l_step ((n_tounsafe (te := 138) (id := 1) (j := Try.t138) (e := 138) (cells := [(.fz (.atom (.pointer none))), (.row 2 (List.length (a0)))]) rfl (by kernel_rfl) (by kernel_rfl) (by kernel_rfl) (by kernel_rfl) (by kernel_rfl) (by kernel_rfl) (by kernel_rfl)).step) (by kernel_rfl) (dst_of (by kernel_rfl)) ?_
  refine l_step ((n_noescape (fn := Try.f189) rfl Try.func189 (by kernel_rfl) (by kernel_rfl) (by kernel_rfl) (by kernel_rfl)).step) (by kernel_rfl) (dst_of (by kernel_rfl)) ?_
  refine l_step ((n_fromunsafe (u := 138) (id := 1) (j := Try.t138) (e := 138) (cells := [(.fz (.atom (.pointer none))), (.row 2 (List.length (a0)))]) rfl (by kernel_rfl) (by kernel_rfl) (by kernel_rfl) (by kernel_rfl) (by kernel_rfl) (by kernel_rfl)).step) (by kernel_rfl) (dst_of (by kernel_rfl)) ?_
  refine l_rk 3 tt_ok ⟨20, [], (strings_Builder_copyCheck_h_m0 p0 q0 w0 a0), [0, 1, 2]⟩ (by kernel_rfl) ?_
  refine l_nil ?_
  obtain rfl := Option.some.inj h
  exact hQ_ret (st2 := ⟨20, [], [(0, (.was p0 [1, 2] q0 w0)), (1, (.box 138 [(.opt 1), (.row 2 (List.length (a0)))])), (2, (.frow 5 1 (List.map eU8 (a0))))], [0, 1, 2]⟩) (LeSt.trans (le_optcell (id := 1) (e2 := 138) (cells := [(.ref 1 0 0), (.row 2 (List.length (a0)))]) (cells' := [.opt 1, (.row 2 (List.length (a0)))]) (by kernel_rfl) (by kernel_rfl)) (le_ck (by kernel_rfl))) rfl rfl (.inl rfl) (by kernel_rfl)
 ·refine awp_seq ?_
  refine awp_region ?_
  refine l_rk 4 tt_ok ⟨20, [(0, (.ref 1 0 0)), (5, (.ref 1 0 0))], (strings_Builder_copyCheck_h_m0 p0 q0 w0 a0), [0, 1, 2]⟩ (by kernel_rfl) ?_
  refine l_step ((n_ptrnil (te := 138) (id := 1) (off := 0) (e := 138) (cells := [(.ref 1 0 0), (.row 2 (List.length (a0)))]) false rfl (by kernel_rfl) (by kernel_rfl) (by kernel_rfl) (by kernel_rfl)).step) (by kernel_rfl) (dst_of (by kernel_rfl)) ?_
  refine l_nil ?_
  refine awp_cond_f (by kernel_rfl) rfl ?_
  refine awp_seq ?_
  refine awp_region ?_
  refine l_rk 5 tt_ok ⟨20, [(17, (.ref 1 0 0)), (18, (.ref 1 0 0))], (strings_Builder_copyCheck_h_m0 p0 q0 w0 a0), [0, 1, 2]⟩ (by kernel_rfl) ?_
  refine l_step ((n_ptrsame (te := 138) (id := 1) (off := 0) (j := Try.t138) (e := 138) (cells := [(.ref 1 0 0), (.row 2 (List.length (a0)))]) true rfl (by kernel_rfl) (by kernel_rfl) (by kernel_rfl) (by kernel_rfl) (by kernel_rfl)).step) (by kernel_rfl) (dst_of (by kernel_rfl)) ?_
  refine l_nil ?_
  refine awp_cond_f (by kernel_rfl) rfl ?_
  refine awp_skip ?_
  obtain rfl := Option.some.inj h
  exact hQ_ret (st2 := ⟨20, [], [(0, (.was p0 [1, 2] q0 w0)), (1, (.box 138 [(.opt 1), (.row 2 (List.length (a0)))])), (2, (.frow 5 1 (List.map eU8 (a0))))], [0, 1, 2]⟩) (LeSt.trans (le_optcell (id := 1) (e2 := 138) (cells := [(.ref 1 0 0), (.row 2 (List.length (a0)))]) (cells' := [.opt 1, (.row 2 (List.length (a0)))]) (by kernel_rfl) (by kernel_rfl)) (le_ck (by kernel_rfl))) rfl rfl (.inl rfl) (by kernel_rfl)

def strings_Builder_WriteByte_h (a0 : List Int) (a1 : Int) : Option ((List Int)) := (Option.bind (strings_Builder_copyCheck_h (a0)) fun v1 => (Option.bind (app 1 (a0) ([a1] : List (Int))) fun v2 => (some (v2))))
theorem strings_Builder_WriteByte_h_ok (a0 : List Int) (a1 : Int) (r : (List Int)) (h : strings_Builder_WriteByte_h a0 a1 = some r) : HCall Try.prog 134 ([(.ref 1 0 0), (.fz (eU8 (a1)))] ++ []) [(1, (.box 138 [(.opt 1), (.row 2 (List.length (a0)))])), (2, (.frow 5 1 (List.map eU8 (a0))))] [1, 2] (.ret (.fz (.atom .nilIface))) [(1, (.box 138 [(.opt 1), (.row 2 (List.length (r)))])), (2, (.frow 5 1 (List.map eU8 (r))))] [1, 2] := by
 unfold strings_Builder_WriteByte_h at h
 refine hcall_introQ (g := 0) tt_ok Try.func134 rfl (by kernel_rfl) (by kernel_rfl) (by kernel_rfl) (by kernel_rfl) (by kernel_rfl) (by kernel_rfl) (by kernel_rfl) ?_
 intro p0 q0 w0
 refine awp_le (st' := ⟨17, [(0, (.ref 1 0 0)), (1, (.fz (eU8 (a1))))], [(0, (.was p0 [1, 2] q0 w0)), (1, (.box 138 [(.opt 1), (.row 2 (List.length (a0)))])), (2, (.frow 5 1 (List.map eU8 (a0))))], [0, 1, 2]⟩) (le_ck (by kernel_rfl)) ?_
 refine awp_seq ?_
 refine awp_region ?_
 refine l_rk 1 tt_ok ⟨17, [(0, (.ref 1 0 0)), (1, (.fz (eU8 (a1))))], [(0, (.was p0 [1, 2] q0 w0)), (1, (.box 138 [(.opt 1), (.row 2 (List.length (a0)))])), (2, (.frow 5 1 (List.map eU8 (a0))))], [0, 1, 2]⟩ (by kernel_rfl) ?_
 refine l_nil ?_
 refine awp_seq ?_
 refine awp_region ?_
 refine l_rk 1 tt_ok ⟨17, [(0, (.ref 1 0 0)), (1, (.fz (eU8 (a1)))), (5, (.ref 1 0 0))], [(0, (.was p0 [1, 2] q0 w0)), (1, (.box 138 [(.opt 1), (.row 2 (List.length (a0)))])), (2, (.frow 5 1 (List.map eU8 (a0))))], [0, 1, 2]⟩ (by kernel_rfl) ?_
 obtain ⟨v1, hv1, h⟩ := Option.bind_eq_some_iff.1 h
 refine l_step (h_step (f := 174) (cap := []) (cs := [.one .keep]) (keys := [1, 2]) [(1, 1), (2, 2)] [(1, 1), (2, 2)] rfl (by kernel_rfl) (strings_Builder_copyCheck_h_ok (a0) _ hv1) (by kernel_rfl) (by kernel_rfl) (by kernel_rfl) (by kernel_rfl)) (by kernel_rfl) (dst_of (by kernel_rfl)) ?_
 refine l_nil ?_
 refine awp_seq ?_
 refine awp_region ?_
 refine l_rk 7 tt_ok ⟨17, [(7, (.ref 1 0 0)), (11, (.row 2 (List.length ((a0))))), (13, (.lim 1 (List.length (([a1] : List (Int)))) (List.map eU8 (([a1] : List (Int))))))], [(0, (.was p0 [1, 2] q0 w0)), (1, (.box 138 [(.opt 1), (.row 2 (List.length ((a0))))])), (2, (.frow 5 1 (List.map eU8 ((a0)))))], [0, 1, 2]⟩ (by kernel_rfl) ?_
 obtain ⟨v2, hv2, h⟩ := Option.bind_eq_some_iff.1 h
 refine l_step (s_append (d := tt136) (e := 5) (de := tt5) (enc := eU8) (xs := (a0)) (ys := ([a1] : List (Int))) (m := List.length ([a1] : List (Int))) (id := 2) (n := List.length ((a0))) hv2 tt_ok rfl (by kernel_rfl) (by kernel_rfl) (by kernel_rfl) (by kernel_rfl) (by kernel_rfl) (by kernel_rfl) (by kernel_rfl) (by kernel_rfl) rfl (.inr (by kernel_rfl))) (by kernel_rfl) (dst_of (by kernel_rfl)) ?_
 refine l_rk 3 tt_ok ⟨17, [], [(0, (.was p0 [1, 2] q0 w0)), (1, (.box 138 [(.opt 1), (.row 2 (List.length (v2)))])), (2, (.frow 5 1 (List.map eU8 (v2))))], [0, 1, 2]⟩ (by kernel_rfl) ?_
 refine l_nil ?_
 refine awp_seq ?_
 refine awp_region ?_
 refine l_rk 1 tt_ok ⟨17, [(4, (.fz (.atom .nilIface)))], [(0, (.was p0 [1, 2] q0 w0)), (1, (.box 138 [(.opt 1), (.row 2 (List.length (v2)))])), (2, (.frow 5 1 (List.map eU8 (v2))))], [0, 1, 2]⟩ (by kernel_rfl) ?_
 refine l_nil ?_
 refine awp_ret ?_
 obtain rfl := Option.some.inj h
 exact hQ_ret (st2 := ⟨17, [(4, (.fz (.atom .nilIface)))], [(0, (.was p0 [1, 2] q0 w0)), (1, (.box 138 [(.opt 1), (.row 2 (List.length (v2)))])), (2, (.frow 5 1 (List.map eU8 (v2))))], [0, 1, 2]⟩) (le_ck (by kernel_rfl)) rfl rfl (.inr rfl) (by kernel_rfl)

def strings_Builder_Len_h_m0 (p0 : Env) (q0 : Nat → Prop) (w0 : World) (a0 : List Int) : List (Nat × AObj) := [(0, (.was p0 [1, 2] q0 w0)), (1, (.box 138 [(.opt 1), (.row 2 (List.length (a0)))])), (2, (.frow 5 1 (List.map eU8 (a0))))]
def strings_Builder_Len_h (a0 : List Int) : Option (Unit) := (some ())
theorem strings_Builder_Len_h_ok (a0 : List Int) (r : Unit) (h : strings_Builder_Len_h a0 = some r) : HCall Try.prog 135 ([(.ref 1 0 0)] ++ []) [(1, (.box 138 [(.opt 1), (.row 2 (List.length (a0)))])), (2, (.frow 5 1 (List.map eU8 (a0))))] [1, 2] (.ret (fI ((List.length (a0) : Int)))) [(1, (.box 138 [(.opt 1), (.row 2 (List.length (a0)))])), (2, (.frow 5 1 (List.map eU8 (a0))))] [1, 2] := by
 unfold strings_Builder_Len_h at h
 refine hcall_introQ (g := 0) tt_ok Try.func135 rfl (by kernel_rfl) (by kernel_rfl) (by kernel_rfl) (by kernel_rfl) (by kernel_rfl) (by kernel_rfl) (by kernel_rfl) ?_
 intro p0 q0 w0
 refine awp_le (st' := ⟨8, [(0, (.ref 1 0 0))], (strings_Builder_Len_h_m0 p0 q0 w0 a0), [0, 1, 2]⟩) (le_ck (by kernel_rfl)) ?_
 refine awp_seq ?_
 refine awp_region ?_
 refine l_rk 1 tt_ok ⟨8, [(0, (.ref 1 0 0))], (strings_Builder_Len_h_m0 p0 q0 w0 a0), [0, 1, 2]⟩ (by kernel_rfl) ?_
 refine l_nil ?_
 refine awp_seq ?_
 refine awp_region ?_
 refine l_rk 4 tt_ok ⟨8, [(6, (.row 2 (List.length (a0))))], (strings_Builder_Len_h_m0 p0 q0 w0 a0), [0, 1, 2]⟩ (by kernel_rfl) ?_
 refine l_step ((n_len_row (d := tt136) (id := 2) (e2 := 5) (e := 5) (size := 1) (n := List.length (a0)) (xs := List.map eU8 (a0)) tt_ok rfl (by kernel_rfl) rfl (by kernel_rfl) (by kernel_rfl) (by simp)).step) (by kernel_rfl) (dst_of (by kernel_rfl)) ?_
 refine l_rk 1 tt_ok ⟨8, [(2, (fI ((List.length (a0) : Int))))], (strings_Builder_Len_h_m0 p0 q0 w0 a0), [0, 1, 2]⟩ (by kernel_rfl) ?_
 refine l_nil ?_
 refine awp_ret ?_
 obtain rfl := Option.some.inj h
 exact hQ_ret (st2 := ⟨8, [(2, (fI ((List.length (a0) : Int))))], (strings_Builder_Len_h_m0 p0 q0 w0 a0), [0, 1, 2]⟩) (le_ck (by kernel_rfl)) rfl rfl (.inr rfl) (by kernel_rfl)

def strings_Builder_String_h_m0 (p0 : Env) (q0 : Nat → Prop) (w0 : World) (a0 : List Int) : List (Nat × AObj) := [(0, (.was p0 [1, 2] q0 w0)), (1, (.box 138 [(.opt 1), (.row 2 (List.length (a0)))])), (2, (.frow 5 1 (List.map eU8 (a0))))]
def strings_Builder_String_h (a0 : List Int) : Option (Unit) := (some ())
theorem strings_Builder_String_h_ok (a0 : List Int) (r : Unit) (h : strings_Builder_String_h a0 = some r) : HCall Try.prog 136 ([(.ref 1 0 0)] ++ []) [(1, (.box 138 [(.opt 1), (.row 2 (List.length (a0)))])), (2, (.frow 5 1 (List.map eU8 (a0))))] [1, 2] (.ret (fS ((toBA a0)))) [(1, (.box 138 [(.opt 1), (.row 2 0)]))] [1, 2] := by
 unfold strings_Builder_String_h at h
 refine hcall_introQ (g := 0) tt_ok Try.func136 rfl (by kernel_rfl) (by kernel_rfl) (by kernel_rfl) (by kernel_rfl) (by kernel_rfl) (by kernel_rfl) (by kernel_rfl) ?_
 intro p0 q0 w0
 refine awp_le (st' := ⟨14, [(0, (.ref 1 0 0))], (strings_Builder_String_h_m0 p0 q0 w0 a0), [0, 1, 2]⟩) (le_ck (by kernel_rfl)) ?_
 refine awp_seq ?_
 refine awp_region ?_
 refine l_rk 1 tt_ok ⟨14, [(0, (.ref 1 0 0))], (strings_Builder_String_h_m0 p0 q0 w0 a0), [0, 1, 2]⟩ (by kernel_rfl) ?_
 refine l_nil ?_
 refine awp_seq ?_
 refine awp_drawn (by kernel_rfl) [(.ref 1 0 0), (.ref 1 0 0), (.ref 1 0 1), (.row 2 (List.length (a0))), (.sdp 2 (List.length (a0))), (.ref 1 0 0), (.ref 1 0 0), (.ref 1 0 1), (.row 2 (List.length (a0))), (fI ((List.length (a0) : Int)))] (by kernel_rfl) ?_
 refine ⟨.inl ⟨by kernel_rfl, (nstep_ok tt_ok (by kernel_rfl))⟩, ?_⟩
 refine ⟨.inl ⟨by kernel_rfl, (nstep_ok tt_ok (by kernel_rfl))⟩, ?_⟩
 refine ⟨.inl ⟨by kernel_rfl, (nstep_ok tt_ok (by kernel_rfl))⟩, ?_⟩
 refine ⟨.inl ⟨by kernel_rfl, (nstep_ok tt_ok (by kernel_rfl))⟩, ?_⟩
 refine ⟨.inl ⟨by kernel_rfl, (n_sliceData (id := 2) (e' := 5) (e := 5) (size := 1) (n := List.length (a0)) (xs := List.map eU8 (a0)) rfl (by kernel_rfl) (by kernel_rfl) (by kernel_rfl) (by simp))⟩, ?_⟩
 refine ⟨.inl ⟨by kernel_rfl, (nstep_ok tt_ok (by kernel_rfl))⟩, ?_⟩
 refine ⟨.inl ⟨by kernel_rfl, (nstep_ok tt_ok (by kernel_rfl))⟩, ?_⟩
 refine ⟨.inl ⟨by kernel_rfl, (nstep_ok tt_ok (by kernel_rfl))⟩, ?_⟩
 refine ⟨.inl ⟨by kernel_rfl, (nstep_ok tt_ok (by kernel_rfl))⟩, ?_⟩
 refine ⟨.inl ⟨by kernel_rfl, (n_len_row (d := tt136) (id := 2) (e2 := 5) (e := 5) (size := 1) (n := List.length (a0)) (xs := List.map eU8 (a0)) tt_ok rfl (by kernel_rfl) rfl (by kernel_rfl) (by kernel_rfl) (by simp))⟩, ?_⟩
 refine l_rk 0 tt_ok ⟨14, [(7, (.sdp 2 (List.length (a0)))), (12, (fI ((List.length (a0) : Int))))], (strings_Builder_String_h_m0 p0 q0 w0 a0), [0, 1, 2]⟩ (by kernel_rfl) ?_
 refine l_step (s_unsafeString (e := 5) (id := 2) (xs := a0) rfl (by kernel_rfl) (by kernel_rfl) (by kernel_rfl) (by kernel_rfl) rfl (by kernel_rfl)) (by kernel_rfl) (dst_of (by kernel_rfl)) ?_
 refine l_le (le_co (ids := [0, 1, 2]) (ts := [(12, .one .keep), (13, .one .keep)]) (os := [(0, []), (1, [.keep, .zr])]) (by kernel_rfl) : LeSt _ ⟨14, [(12, (fI ((List.length (a0) : Int)))), (13, (fS ((toBA a0))))], [(0, (.was p0 [1, 2] q0 w0)), (1, (.box 138 [(.opt 1), (.row 2 0)]))], [0, 1, 2]⟩) ?_
 refine l_rk 1 tt_ok ⟨14, [(2, (fS ((toBA a0))))], [(0, (.was p0 [1, 2] q0 w0)), (1, (.box 138 [(.opt 1), (.row 2 0)]))], [0, 1, 2]⟩ (by kernel_rfl) ?_
 refine l_nil ?_
 refine awp_ret ?_
 obtain rfl := Option.some.inj h
 exact hQ_ret (st2 := ⟨14, [(2, (fS ((toBA a0))))], [(0, (.was p0 [1, 2] q0 w0)), (1, (.box 138 [(.opt 1), (.row 2 0)]))], [0, 1, 2]⟩) (le_ck (by kernel_rfl)) rfl rfl (.inr rfl) (by kernel_rfl)

def pattern_Literal_m0 (v1 : (Int) × (List Int)) : List (Nat × AObj) := [(1, (.box 138 [(.opt 1), (.row 2 (List.length (v1.2)))])), (2, (.frow 5 1 (List.map eU8 (v1.2))))]
def pattern_Literal_l1 (a0 : ByteArray) (v1 : (Int) × (List Int)) : Option (((Int) × (List Int)) ⊕ ((((List Int)) ⊕ (ByteArray)))) := (bif (decide (v1.1 < (a0.size : Int))) then (Option.bind (byt a0 v1.1) fun v2 => (Option.bind (pattern_inside (v2)) fun v3 => (bif (!v3) then (some (.inr (.inr (⟨#[]⟩ : ByteArray)))) else (Option.bind ((Option.bind (byt a0 v1.1) fun v4 => (Option.bind (pattern_special (v4)) fun v5 => (bif v5 then (Option.bind (strings_Builder_WriteByte_h (v1.2) (92)) fun v6 => (some (v6))) else (some (v1.2))))) : Option ((List Int))) fun (v8 : (List Int)) => (Option.bind (byt a0 v1.1) fun v9 => (Option.bind (strings_Builder_WriteByte_h (v8) (v9)) fun v10 => (some (.inl ((w64 (v1.1 + 1)), v10))))))))) else (some (.inr (.inl (v1.2)))))
def pattern_Literal (a0 : ByteArray) : Option (ByteArray) := (bif (a0.toList == (⟨#[]⟩ : ByteArray).toList) then (some (⟨#[40, 41]⟩ : ByteArray)) else (Option.bind (loopN (pattern_Literal_l1 a0) fuel (0, ([] : List (Int)))) fun (v11 : (((List Int)) ⊕ (ByteArray))) => Sum.elim (fun v12 => (Option.bind (strings_Builder_Len_h (v12)) fun v13 => (bif (decide (40 < (List.length ((v12)) : Int))) then (some (⟨#[]⟩ : ByteArray)) else (Option.bind (strings_Builder_String_h ((v12))) fun v14 => (some (toBA ((v12)))))))) (fun v15 => (some v15)) v11))
theorem pattern_Literal_ok (a0 : ByteArray) (r : ByteArray) (h : pattern_Literal a0 = some r) : PCall Try.prog 78 [eS a0] (eS (r)) := by
 unfold pattern_Literal at h
 refine pcall_intro (T := TT) tt_ok [.one .keep] Try.func78 rfl (by kernel_rfl) (by kernel_rfl) ?_
 refine awp_le (st' := ⟨30, [(0, (fS (a0)))], [], []⟩) (le_ck (by kernel_rfl)) ?_
 refine awp_seq ?_
 refine awp_region ?_
 refine l_rk 1 tt_ok ⟨30, [(0, (fS (a0)))], [], []⟩ (by kernel_rfl) ?_
 refine l_nil ?_
 refine awp_seq ?_
 refine awp_seq ?_
 refine awp_region ?_
 refine l_rk 2 tt_ok ⟨30, [(0, (fS (a0))), (6, (fB ((a0.toList == (⟨#[]⟩ : ByteArray).toList))))], [], []⟩ (by kernel_rfl) ?_
 refine l_nil ?_
 rcases cond_some h with ⟨hb, h⟩ | ⟨hb, h⟩
 ·refine awp_cond_t (b := (a0.toList == (⟨#[]⟩ : ByteArray).toList)) (by kernel_rfl) hb ?_
  refine awp_seq ?_
  refine awp_region ?_
  refine l_rk 1 tt_ok ⟨30, [(2, (fS ((⟨#[40, 41]⟩ : ByteArray))))], [], []⟩ (by kernel_rfl) ?_
  refine l_nil ?_
  refine awp_ret ?_
  obtain rfl := Option.some.inj h
  exact (show retX _ _ _ _ = some _ from by kernel_rfl)
 ·refine awp_cond_f (b := (a0.toList == (⟨#[]⟩ : ByteArray).toList)) (by kernel_rfl) hb ?_
  refine awp_skip ?_
  refine awp_seq ?_
  refine awp_region ?_
  refine l_rk 1 tt_ok ⟨30, [(0, (fS (a0))), (3, (.ref 1 0 0))], [(1, (.box 138 [(.fz (.atom (.pointer none))), (.fz (.atom (.slice none 0 0)))]))], [1]⟩ (by kernel_rfl) ?_
  refine l_le (le_nilcell (e := 5) (size := 1) (id2 := 1) (j := 1) (id := 2) (e2 := 138) (cells := [(.fz (.atom (.pointer none))), (.fz (.atom (.slice none 0 0)))]) (by kernel_rfl) (by kernel_rfl) (by kernel_rfl) (by kernel_rfl)) ?_
  refine l_le (le_optcell (id := 1) (e2 := 138) (cells := [(.fz (.atom (.pointer none))), (.row 2 (List.length (([] : List (Int)))))]) (cells' := [.opt 1, (.row 2 (List.length (([] : List (Int)))))]) (by kernel_rfl) (by kernel_rfl)) ?_
  refine l_nil ?_
  refine awp_seq ?_
  refine awp_seq ?_
  refine awp_region ?_
  refine l_rk 3 tt_ok ⟨30, [(0, (fS (a0))), (3, (.ref 1 0 0)), (8, (fI ((a0.size : Int)))), (9, (fI (0)))], [(1, (.box 138 [(.opt 1), (.row 2 (List.length (([] : List (Int)))))])), (2, (.frow 5 1 (List.map eU8 (([] : List (Int))))))], [2, 1]⟩ (by kernel_rfl) ?_
  refine l_nil ?_
  refine awp_block ?_
  obtain ⟨v11, hj, h⟩ := Option.bind_eq_some_iff.1 h
  refine awp_join (Qa := fun e st => Sum.elim (fun p => e = .exit 0 ∧ LeSt st ⟨30, [(3, (.ref 1 0 0))], [(1, (.box 138 [(.opt 1), (.row 2 (List.length (p)))])), (2, (.frow 5 1 (List.map eU8 (p))))], [2, 1]⟩) (fun p => e = .ret ∧ retX TT st Try.f78.results.toList [.one .keep] = some (eS (p))) v11) ?_ ?_
  ·refine awp_loopS (stOf := fun v1 => ⟨30, [(0, (fS (a0))), (3, (.ref 1 0 0)), (8, (fI ((a0.size : Int)))), (9, (fI (v1.1)))], (pattern_Literal_m0 v1), [2, 1]⟩) (Qb := fun j e st => Sum.elim (fun p => e = .exit 0 ∧ LeSt st ⟨30, [(3, (.ref 1 0 0))], [(1, (.box 138 [(.opt 1), (.row 2 (List.length (p)))])), (2, (.frow 5 1 (List.map eU8 (p))))], [2, 1]⟩) (fun p => e = .ret ∧ retX TT st Try.f78.results.toList [.one .keep] = some (eS (p))) j) hj (le_ck (by kernel_rfl)) ?_
   clear hj h
   intro v1 r h
   unfold pattern_Literal_l1 at h
   refine awp_seq ?_
   refine awp_region ?_
   refine l_rk 1 tt_ok ⟨30, [(0, (fS (a0))), (3, (.ref 1 0 0)), (8, (fI ((a0.size : Int)))), (9, (fI (v1.1))), (10, (fB ((decide (v1.1 < (a0.size : Int))))))], (pattern_Literal_m0 v1), [2, 1]⟩ (by kernel_rfl) ?_
   refine l_nil ?_
   refine awp_seq ?_
   rcases cond_some h with ⟨hb, h⟩ | ⟨hb, h⟩
   ·refine awp_cond_t (b := (decide (v1.1 < (a0.size : Int)))) (by kernel_rfl) hb ?_
    refine awp_skip ?_
    refine awp_seq ?_
    refine awp_block ?_
    refine awp_seq ?_
    refine awp_region ?_
    refine l_rk 2 tt_ok ⟨30, [(0, (fS (a0))), (3, (.ref 1 0 0)), (4, (fI (v1.1))), (8, (fI ((a0.size : Int)))), (9, (fI (v1.1)))], (pattern_Literal_m0 v1), [2, 1]⟩ (by kernel_rfl) ?_
    refine l_nil ?_
    refine awp_seq ?_
    refine awp_seq ?_
    refine awp_region ?_
    refine l_rk 2 tt_ok ⟨30, [(0, (fS (a0))), (3, (.ref 1 0 0)), (4, (fI (v1.1))), (8, (fI ((a0.size : Int)))), (9, (fI (v1.1))), (12, (fS (a0))), (13, (fI (v1.1)))], (pattern_Literal_m0 v1), [2, 1]⟩ (by kernel_rfl) ?_
    obtain ⟨v2, hv2, h⟩ := Option.bind_eq_some_iff.1 h
    refine l_step ((s_byte (k := .i64) (d := tt9) (s := a0) hv2 tt_ok rfl (by kernel_rfl) (by kernel_rfl) (by kernel_rfl) (by kernel_rfl)).step) (by kernel_rfl) (dst_of (by kernel_rfl)) ?_
    obtain ⟨v3, hv3, h⟩ := Option.bind_eq_some_iff.1 h
    refine l_step ((n_call (ys := [eU8 (v2)]) (cs := [(.one (.keep))]) rfl (by kernel_rfl) (pattern_inside_ok (v2) _ hv3)).step) (by kernel_rfl) (dst_of (by kernel_rfl)) ?_
    refine l_rk 1 tt_ok ⟨30, [(0, (fS (a0))), (3, (.ref 1 0 0)), (4, (fI (v1.1))), (8, (fI ((a0.size : Int)))), (9, (fI (v1.1))), (16, (fB ((!v3))))], (pattern_Literal_m0 v1), [2, 1]⟩ (by kernel_rfl) ?_
    refine l_nil ?_
    rcases cond_some h with ⟨hb, h⟩ | ⟨hb, h⟩
    ·refine awp_cond_t (b := (!v3)) (by kernel_rfl) hb ?_
     refine awp_seq ?_
     refine awp_region ?_
     refine l_rk 1 tt_ok ⟨30, [(2, (fS ((⟨#[]⟩ : ByteArray))))], [], []⟩ (by kernel_rfl) ?_
     refine l_nil ?_
     refine awp_ret ?_
     obtain rfl := Option.some.inj h
     exact And.intro (And.intro (fun h => nomatch h) (fun h => nomatch h)) (And.intro rfl (show retX _ _ _ _ = some _ from by kernel_rfl))
    ·refine awp_cond_f (b := (!v3)) (by kernel_rfl) hb ?_
     refine awp_skip ?_
     refine awp_seq ?_
     obtain ⟨v8, hj, h⟩ := Option.bind_eq_some_iff.1 h
     refine awp_join (Qa := fun e st => e = .normal ∧ LeSt st ⟨30, [(0, (fS (a0))), (3, (.ref 1 0 0)), (4, (fI (v1.1))), (8, (fI ((a0.size : Int)))), (9, (fI (v1.1)))], [(1, (.box 138 [(.opt 1), (.row 2 (List.length (v8)))])), (2, (.frow 5 1 (List.map eU8 (v8))))], [2, 1]⟩) ?_ ?_
     ·replace h := hj
      clear hj
      refine awp_seq ?_
      refine awp_region ?_
      refine l_rk 2 tt_ok ⟨30, [(0, (fS (a0))), (3, (.ref 1 0 0)), (4, (fI (v1.1))), (8, (fI ((a0.size : Int)))), (9, (fI (v1.1))), (17, (fS (a0))), (18, (fI (v1.1)))], (pattern_Literal_m0 v1), [2, 1]⟩ (by kernel_rfl) ?_
      obtain ⟨v4, hv4, h⟩ := Option.bind_eq_some_iff.1 h
      refine l_step ((s_byte (k := .i64) (d := tt9) (s := a0) hv4 tt_ok rfl (by kernel_rfl) (by kernel_rfl) (by kernel_rfl) (by kernel_rfl)).step) (by kernel_rfl) (dst_of (by kernel_rfl)) ?_
      obtain ⟨v5, hv5, h⟩ := Option.bind_eq_some_iff.1 h
      refine l_step ((n_call (ys := [eU8 (v4)]) (cs := [(.one (.keep))]) rfl (by kernel_rfl) (pattern_special_ok (v4) _ hv5)).step) (by kernel_rfl) (dst_of (by kernel_rfl)) ?_
      refine l_nil ?_
      rcases cond_some h with ⟨hb, h⟩ | ⟨hb, h⟩
      ·refine awp_cond_t (b := v5) (by kernel_rfl) hb ?_
       refine awp_region ?_
       obtain ⟨v6, hv6, h⟩ := Option.bind_eq_some_iff.1 h
       refine l_step (h_step (f := 134) (cap := []) (cs := [.one .keep, .one .keep]) (keys := [1, 2]) [(1, 1), (2, 2)] [(1, 1), (2, 2)] rfl (by kernel_rfl) (strings_Builder_WriteByte_h_ok (v1.2) (92) _ hv6) (by kernel_rfl) (by kernel_rfl) (by kernel_rfl) (by kernel_rfl)) (by kernel_rfl) (dst_of (by kernel_rfl)) ?_
       refine l_nil ?_
       obtain rfl := Option.some.inj h
       exact And.intro rfl (le_ck (by kernel_rfl))
      ·refine awp_cond_f (b := v5) (by kernel_rfl) hb ?_
       refine awp_skip ?_
       obtain rfl := Option.some.inj h
       exact And.intro rfl (le_ck (by kernel_rfl))
     ·clear hj
      intro e st' hq
      obtain ⟨rfl, hle⟩ := hq
      refine ⟨_, hle, ?_⟩
      refine awp_region ?_
      refine l_rk 2 tt_ok ⟨30, [(0, (fS (a0))), (3, (.ref 1 0 0)), (8, (fI ((a0.size : Int)))), (9, (fI (v1.1))), (22, (fS (a0))), (23, (fI (v1.1)))], [(1, (.box 138 [(.opt 1), (.row 2 (List.length (v8)))])), (2, (.frow 5 1 (List.map eU8 (v8))))], [2, 1]⟩ (by kernel_rfl) ?_
      obtain ⟨v9, hv9, h⟩ := Option.bind_eq_some_iff.1 h
      refine l_step ((s_byte (k := .i64) (d := tt9) (s := a0) hv9 tt_ok rfl (by kernel_rfl) (by kernel_rfl) (by kernel_rfl) (by kernel_rfl)).step) (by kernel_rfl) (dst_of (by kernel_rfl)) ?_
      obtain ⟨v10, hv10, h⟩ := Option.bind_eq_some_iff.1 h
      refine l_step (h_step (f := 134) (cap := []) (cs := [.one .keep, .one .keep]) (keys := [1, 2]) [(1, 1), (2, 2)] [(1, 1), (2, 2)] rfl (by kernel_rfl) (strings_Builder_WriteByte_h_ok (v8) (v9) _ hv10) (by kernel_rfl) (by kernel_rfl) (by kernel_rfl) (by kernel_rfl)) (by kernel_rfl) (dst_of (by kernel_rfl)) ?_
      refine l_nil ?_
      refine awp_region ?_
      refine l_rk 2 tt_ok ⟨30, [(0, (fS (a0))), (3, (.ref 1 0 0)), (8, (fI ((a0.size : Int)))), (9, (fI ((w64 (v1.1 + 1)))))], [(1, (.box 138 [(.opt 1), (.row 2 (List.length (v10)))])), (2, (.frow 5 1 (List.map eU8 (v10))))], [2, 1]⟩ (by kernel_rfl) ?_
      refine l_nil ?_
      obtain rfl := Option.some.inj h
      exact And.intro rfl (le_ck (by kernel_rfl))
   ·refine awp_cond_f (b := (decide (v1.1 < (a0.size : Int)))) (by kernel_rfl) hb ?_
    refine awp_exit ?_
    obtain rfl := Option.some.inj h
    exact And.intro (And.intro (fun h => nomatch h) (fun h => nomatch h)) (And.intro rfl (le_ck (by kernel_rfl)))
  ·clear hj
   intro e st' hq
   rcases v11 with v12 | v15
   ·try simp only [Sum.elim_inl, Sum.elim_inr] at h
    obtain ⟨rfl, hle⟩ := hq
    refine ⟨_, hle, ?_⟩
    refine awp_seq ?_
    refine awp_seq ?_
    refine awp_region ?_
    obtain ⟨v13, hv13, h⟩ := Option.bind_eq_some_iff.1 h
    refine l_step (h_step (f := 135) (cap := []) (cs := [.one .keep]) (keys := [1, 2]) [(1, 1), (2, 2)] [(1, 1), (2, 2)] rfl (by kernel_rfl) (strings_Builder_Len_h_ok (v12) _ hv13) (by kernel_rfl) (by kernel_rfl) (by kernel_rfl) (by kernel_rfl)) (by kernel_rfl) (dst_of (by kernel_rfl)) ?_
    refine l_rk 1 tt_ok ⟨30, [(3, (.ref 1 0 0)), (28, (fB ((decide (40 < (List.length ((v12)) : Int))))))], [(1, (.box 138 [(.opt 1), (.row 2 (List.length ((v12))))])), (2, (.frow 5 1 (List.map eU8 ((v12)))))], [2, 1]⟩ (by kernel_rfl) ?_
    refine l_nil ?_
    rcases cond_some h with ⟨hb, h⟩ | ⟨hb, h⟩
    ·refine awp_cond_t (b := (decide (40 < (List.length ((v12)) : Int)))) (by kernel_rfl) hb ?_
     refine awp_seq ?_
     refine awp_region ?_
     refine l_rk 1 tt_ok ⟨30, [(2, (fS ((⟨#[]⟩ : ByteArray))))], [], []⟩ (by kernel_rfl) ?_
     refine l_nil ?_
     refine awp_ret ?_
     obtain rfl := Option.some.inj h
     exact (show retX _ _ _ _ = some _ from by kernel_rfl)
    ·refine awp_cond_f (b := (decide (40 < (List.length ((v12)) : Int)))) (by kernel_rfl) hb ?_
     refine awp_skip ?_
     refine awp_seq ?_
     refine awp_region ?_
     obtain ⟨v14, hv14, h⟩ := Option.bind_eq_some_iff.1 h
     refine l_step (h_step (f := 136) (cap := []) (cs := [.one .keep]) (keys := [1, 2]) [(1, 1), (2, 2)] [(1, 1), (2, 2)] rfl (by kernel_rfl) (strings_Builder_String_h_ok ((v12)) _ hv14) (by kernel_rfl) (by kernel_rfl) (by kernel_rfl) (by kernel_rfl)) (by kernel_rfl) (dst_of (by kernel_rfl)) ?_
     refine l_rk 1 tt_ok ⟨30, [(2, (fS ((toBA ((v12))))))], [], []⟩ (by kernel_rfl) ?_
     refine l_nil ?_
     refine awp_ret ?_
     obtain rfl := Option.some.inj h
     exact (show retX _ _ _ _ = some _ from by kernel_rfl)
   ·try simp only [Sum.elim_inl, Sum.elim_inr] at h
    obtain ⟨rfl, hret⟩ := hq
    refine ⟨_, LeSt.refl, ?_⟩
    obtain rfl := Option.some.inj h
    exact hret

def languages_Patterns_m0 (v3 : (Int) × (List Va)) : List (Nat × AObj) := [(1, (.box 27 [(fS ((⟨#[]⟩ : ByteArray))), (.fz (.atom (.slice none 0 0))), (.fz (.atom (.slice none 0 0))), (.fz (.atom (.slice none 0 0)))])), (2, (.frow 65 4 (List.map eVaR (v3.2))))]
def languages_Patterns_m1 : List (Nat × AObj) := [(1, (.box 27 [(fS ((⟨#[]⟩ : ByteArray))), (.fz (.atom (.slice none 0 0))), (.fz (.atom (.slice none 0 0))), (.fz (.atom (.slice none 0 0)))]))]
def languages_Patterns_l1 (a0 : ByteArray) (v3 : (Int) × (List Va)) (v8 : (Int)) : Option (((Int)) ⊕ (((Unit) ⊕ ((La) × (Int))))) := (bif (decide (v8 < v3.1)) then (Option.bind (byt a0 v8) fun v9 => (Option.bind (byt a0 v3.1) fun v10 => (bif (v9 == v10) then (some (.inr (.inr ((La.mk ((⟨#[]⟩ : ByteArray)) (([] : List Int)) (([] : List Sy)) (([] : List Ru))), 6)))) else (some (.inl ((w64 (v8 + 1)))))))) else (some (.inr (.inl ()))))
def languages_Patterns_l2 (a0 : ByteArray) (v3 : (Int) × (List Va)) : Option (((Int) × (List Va)) ⊕ ((((List Va)) ⊕ ((La) × (Int))))) := (bif (decide (v3.1 < (a0.size : Int))) then (Option.bind ((Option.bind (byt a0 v3.1) fun v4 => (bif (decide (v4 < 32)) then (some (true)) else (Option.bind (byt a0 v3.1) fun v5 => (some ((decide (126 < v5))))))) : Option ((Bool))) fun (v7 : (Bool)) => (bif v7 then (some (.inr (.inr ((La.mk ((⟨#[]⟩ : ByteArray)) (([] : List Int)) (([] : List Sy)) (([] : List Ru))), 1)))) else (Option.bind (loopN (languages_Patterns_l1 a0 v3) fuel (0)) fun (v11 : ((Unit) ⊕ ((La) × (Int)))) => Sum.elim (fun v12 => (Option.bind (cutS a0 v3.1 (w64 (v3.1 + 1))) fun v13 => (Option.bind (pattern_Literal (v13)) fun v14 => (Option.bind (value_OfPattern (v14)) fun v15 => (Option.bind (app 56 v3.2 ([v15] : List (Va))) fun v16 => (some (.inl ((w64 (v3.1 + 1)), v16)))))))) (fun v17 => (some (.inr (.inr v17)))) v11))) else (some (.inr (.inl (v3.2)))))
def languages_Patterns (a0 : ByteArray) : Option ((La) × (Int)) := (Option.bind ((bif (decide ((a0.size : Int) < 1)) then (some (true)) else (some ((decide (16 < (a0.size : Int)))))) : Option ((Bool))) fun (v2 : (Bool)) => (bif v2 then (some ((La.mk ((⟨#[]⟩ : ByteArray)) (([] : List Int)) (([] : List Sy)) (([] : List Ru))), 2)) else (Option.bind (loopN (languages_Patterns_l2 a0) fuel (0, ([] : List (Va)))) fun (v18 : (((List Va)) ⊕ ((La) × (Int)))) => Sum.elim (fun v19 => (Option.bind (languages_begin_h ((⟨#[112, 97, 116, 116, 101, 114, 110, 115]⟩ : ByteArray)) (3) (([(Sy.mk ((⟨#[116, 101, 115, 116]⟩ : ByteArray)) (1)), (Sy.mk ((⟨#[116, 101, 120, 116]⟩ : ByteArray)) (3)), (Sy.mk ((⟨#[112, 97, 116, 116, 101, 114, 110]⟩ : ByteArray)) (8))] : List (Sy)))) fun v20 => (Option.bind (languages_writer_ops_h (((⟨#[112, 97, 116, 116, 101, 114, 110, 115]⟩ : ByteArray))) (([(3)] : List (Int))) ((([(Sy.mk ((⟨#[116, 101, 115, 116]⟩ : ByteArray)) (1)), (Sy.mk ((⟨#[116, 101, 120, 116]⟩ : ByteArray)) (3)), (Sy.mk ((⟨#[112, 97, 116, 116, 101, 114, 110]⟩ : ByteArray)) (8))] : List (Sy)))) (([] : List (Ru))) (0) (([1, 2] : List (Int))) (([(⟨#[109, 97, 116, 99, 104, 101, 115]⟩ : ByteArray)] : List (ByteArray)))) fun v21 => (Option.bind (languages_writer_input_h ((((⟨#[112, 97, 116, 116, 101, 114, 110, 115]⟩ : ByteArray)))) ((([(3)] : List (Int)))) (((([(Sy.mk ((⟨#[116, 101, 115, 116]⟩ : ByteArray)) (1)), (Sy.mk ((⟨#[116, 101, 120, 116]⟩ : ByteArray)) (3)), (Sy.mk ((⟨#[112, 97, 116, 116, 101, 114, 110]⟩ : ByteArray)) (8))] : List (Sy))))) (v21) (1)) fun v22 => (Option.bind (languages_writer_constants_h (((((⟨#[112, 97, 116, 116, 101, 114, 110, 115]⟩ : ByteArray))))) (((([(3)] : List (Int))))) ((((([(Sy.mk ((⟨#[116, 101, 115, 116]⟩ : ByteArray)) (1)), (Sy.mk ((⟨#[116, 101, 120, 116]⟩ : ByteArray)) (3)), (Sy.mk ((⟨#[112, 97, 116, 116, 101, 114, 110]⟩ : ByteArray)) (8))] : List (Sy)))))) (v22) (2) (v19)) fun v23 => (Option.bind (languages_writer_ops_h ((((((⟨#[112, 97, 116, 116, 101, 114, 110, 115]⟩ : ByteArray)))))) ((((([(3)] : List (Int)))))) (((((([(Sy.mk ((⟨#[116, 101, 115, 116]⟩ : ByteArray)) (1)), (Sy.mk ((⟨#[116, 101, 120, 116]⟩ : ByteArray)) (3)), (Sy.mk ((⟨#[112, 97, 116, 116, 101, 114, 110]⟩ : ByteArray)) (8))] : List (Sy))))))) (v23) (2) (([2, 2] : List (Int))) (([(⟨#[112, 99, 97, 116]⟩ : ByteArray), (⟨#[112, 97, 108, 116]⟩ : ByteArray)] : List (ByteArray)))) fun v24 => (Option.bind (languages_writer_ops_h (((((((⟨#[112, 97, 116, 116, 101, 114, 110, 115]⟩ : ByteArray))))))) (((((([(3)] : List (Int))))))) ((((((([(Sy.mk ((⟨#[116, 101, 115, 116]⟩ : ByteArray)) (1)), (Sy.mk ((⟨#[116, 101, 120, 116]⟩ : ByteArray)) (3)), (Sy.mk ((⟨#[112, 97, 116, 116, 101, 114, 110]⟩ : ByteArray)) (8))] : List (Sy)))))))) (v24) (2) (([2] : List (Int))) (([(⟨#[112, 115, 116, 97, 114]⟩ : ByteArray)] : List (ByteArray)))) fun v25 => (some ((La.mk ((((((((⟨#[112, 97, 116, 116, 101, 114, 110, 115]⟩ : ByteArray)))))))) ((((((([(3)] : List (Int)))))))) (((((((([(Sy.mk ((⟨#[116, 101, 115, 116]⟩ : ByteArray)) (1)), (Sy.mk ((⟨#[116, 101, 120, 116]⟩ : ByteArray)) (3)), (Sy.mk ((⟨#[112, 97, 116, 116, 101, 114, 110]⟩ : ByteArray)) (8))] : List (Sy))))))))) (v25)), 0))))))))) (fun v26 => (some v26)) v18)))
theorem languages_Patterns_ok (a0 : ByteArray) (r : (La) × (Int)) (h : languages_Patterns a0 = some r) : PCall Try.prog 26 [eS a0] (.tup [eLa (r.1), eI (r.2)]) := by
 unfold languages_Patterns at h
 refine pcall_intro (T := TT) tt_ok [.ag [.keep, .sl 1, .sl 2, .sl 9], .one .keep] Try.func26 rfl (by kernel_rfl) (by kernel_rfl) ?_
 refine awp_le (st' := ⟨83, [(0, (fS (a0)))], [], []⟩) (le_ck (by kernel_rfl)) ?_
 refine awp_seq ?_
 refine awp_region ?_
 refine l_rk 2 tt_ok ⟨83, [(0, (fS (a0))), (2, (.ref 1 0 0))], (languages_Patterns_m1), [1]⟩ (by kernel_rfl) ?_
 refine l_nil ?_
 refine awp_seq ?_
 refine awp_seq ?_
 obtain ⟨v2, hj, h⟩ := Option.bind_eq_some_iff.1 h
 refine awp_join (Qa := fun e st => e = .normal ∧ LeSt st ⟨83, [(0, (fS (a0))), (2, (.ref 1 0 0)), (15, (fB (v2)))], (languages_Patterns_m1), [1]⟩) ?_ ?_
 ·replace h := hj
  clear hj
  refine awp_region ?_
  refine l_rk 4 tt_ok ⟨83, [(0, (fS (a0))), (2, (.ref 1 0 0)), (11, (fB ((decide ((a0.size : Int) < 1)))))], (languages_Patterns_m1), [1]⟩ (by kernel_rfl) ?_
  rcases cond_some h with ⟨hb, h⟩ | ⟨hb, h⟩
  ·refine l_le (le_eq (t := 11) (x := .fz (eB (decide ((a0.size : Int) < 1)))) (y := .fz (eB true)) (by kernel_rfl) (congrArg (fun b => AV.fz (eB b)) hb)) ?_
   refine l_rk 4 tt_ok ⟨83, [(0, (fS (a0))), (2, (.ref 1 0 0)), (15, (fB (true)))], (languages_Patterns_m1), [1]⟩ (by kernel_rfl) ?_
   refine l_nil ?_
   obtain rfl := Option.some.inj h
   exact And.intro rfl (le_ck (by kernel_rfl))
  ·refine l_le (le_eq (t := 11) (x := .fz (eB (decide ((a0.size : Int) < 1)))) (y := .fz (eB false)) (by kernel_rfl) (congrArg (fun b => AV.fz (eB b)) hb)) ?_
   refine l_rk 4 tt_ok ⟨83, [(0, (fS (a0))), (2, (.ref 1 0 0)), (15, (fB ((decide (16 < (a0.size : Int))))))], (languages_Patterns_m1), [1]⟩ (by kernel_rfl) ?_
   refine l_nil ?_
   obtain rfl := Option.some.inj h
   exact And.intro rfl (le_ck (by kernel_rfl))
 ·clear hj
  intro e st' hq
  obtain ⟨rfl, hle⟩ := hq
  refine ⟨_, hle, ?_⟩
  rcases cond_some h with ⟨hb, h⟩ | ⟨hb, h⟩
  ·refine awp_cond_t (b := v2) (by kernel_rfl) hb ?_
   refine awp_seq ?_
   refine awp_region ?_
   refine l_rk 3 tt_ok ⟨83, [(2, (.ref 1 0 0)), (3, (fI (2)))], (languages_Patterns_m1), [1]⟩ (by kernel_rfl) ?_
   refine l_nil ?_
   refine awp_ret ?_
   obtain rfl := Option.some.inj h
   exact (show retX _ _ _ _ = some _ from by kernel_rfl)
  ·refine awp_cond_f (b := v2) (by kernel_rfl) hb ?_
   refine awp_skip ?_
   refine awp_seq ?_
   refine awp_region ?_
   refine l_rk 1 tt_ok ⟨83, [(0, (fS (a0))), (2, (.ref 1 0 0)), (4, (.fz (.atom (.slice none 0 0))))], (languages_Patterns_m1), [1]⟩ (by kernel_rfl) ?_
   refine l_nil ?_
   refine awp_seq ?_
   refine awp_seq ?_
   refine awp_region ?_
   refine l_rk 3 tt_ok ⟨83, [(0, (fS (a0))), (2, (.ref 1 0 0)), (4, (.fz (.atom (.slice none 0 0)))), (18, (fI ((a0.size : Int)))), (19, (fI (0)))], (languages_Patterns_m1), [1]⟩ (by kernel_rfl) ?_
   refine l_nil ?_
   refine awp_block ?_
   refine awp_le (le_nilrow (e := 65) (size := 4) (t := 4) (id := 2) (by decide) (by kernel_rfl) (by kernel_rfl)) ?_
   obtain ⟨v18, hj, h⟩ := Option.bind_eq_some_iff.1 h
   refine awp_join (Qa := fun e st => Sum.elim (fun p => e = .exit 0 ∧ LeSt st ⟨83, [(2, (.ref 1 0 0)), (4, (.row 2 (List.length (p))))], [(1, (.box 27 [(fS ((⟨#[]⟩ : ByteArray))), (.fz (.atom (.slice none 0 0))), (.fz (.atom (.slice none 0 0))), (.fz (.atom (.slice none 0 0)))])), (2, (.frow 65 4 (List.map eVaR (p))))], [2, 1]⟩) (fun p => e = .ret ∧ retX TT st Try.f26.results.toList [.ag [.keep, .sl 1, .sl 2, .sl 9], .one .keep] = some (.tup [eLa (p.1), eI (p.2)])) v18) ?_ ?_
   ·refine awp_loopS (stOf := fun v3 => ⟨83, [(0, (fS (a0))), (2, (.ref 1 0 0)), (4, (.row 2 (List.length (v3.2)))), (18, (fI ((a0.size : Int)))), (19, (fI (v3.1)))], (languages_Patterns_m0 v3), [2, 1]⟩) (Qb := fun j e st => Sum.elim (fun p => e = .exit 0 ∧ LeSt st ⟨83, [(2, (.ref 1 0 0)), (4, (.row 2 (List.length (p))))], [(1, (.box 27 [(fS ((⟨#[]⟩ : ByteArray))), (.fz (.atom (.slice none 0 0))), (.fz (.atom (.slice none 0 0))), (.fz (.atom (.slice none 0 0)))])), (2, (.frow 65 4 (List.map eVaR (p))))], [2, 1]⟩) (fun p => e = .ret ∧ retX TT st Try.f26.results.toList [.ag [.keep, .sl 1, .sl 2, .sl 9], .one .keep] = some (.tup [eLa (p.1), eI (p.2)])) j) hj (le_ck (by kernel_rfl)) ?_
    clear hj h
    intro v3 r h
    unfold languages_Patterns_l2 at h
    refine awp_seq ?_
    refine awp_region ?_
    refine l_rk 1 tt_ok ⟨83, [(0, (fS (a0))), (2, (.ref 1 0 0)), (4, (.row 2 (List.length (v3.2)))), (18, (fI ((a0.size : Int)))), (19, (fI (v3.1))), (20, (fB ((decide (v3.1 < (a0.size : Int))))))], (languages_Patterns_m0 v3), [2, 1]⟩ (by kernel_rfl) ?_
    refine l_nil ?_
    refine awp_seq ?_
    rcases cond_some h with ⟨hb, h⟩ | ⟨hb, h⟩
    ·refine awp_cond_t (b := (decide (v3.1 < (a0.size : Int)))) (by kernel_rfl) hb ?_
     refine awp_skip ?_
     refine awp_seq ?_
     refine awp_block ?_
     refine awp_seq ?_
     refine awp_region ?_
     refine l_rk 2 tt_ok ⟨83, [(0, (fS (a0))), (2, (.ref 1 0 0)), (4, (.row 2 (List.length (v3.2)))), (5, (fI (v3.1))), (18, (fI ((a0.size : Int)))), (19, (fI (v3.1)))], (languages_Patterns_m0 v3), [2, 1]⟩ (by kernel_rfl) ?_
     refine l_nil ?_
     refine awp_seq ?_
     refine awp_seq ?_
     obtain ⟨v7, hj, h⟩ := Option.bind_eq_some_iff.1 h
     refine awp_join (Qa := fun e st => e = .normal ∧ LeSt st ⟨83, [(0, (fS (a0))), (2, (.ref 1 0 0)), (4, (.row 2 (List.length (v3.2)))), (5, (fI (v3.1))), (18, (fI ((a0.size : Int)))), (19, (fI (v3.1))), (31, (fB (v7)))], (languages_Patterns_m0 v3), [2, 1]⟩) ?_ ?_
     ·replace h := hj
      clear hj
      refine awp_region ?_
      refine l_rk 2 tt_ok ⟨83, [(0, (fS (a0))), (2, (.ref 1 0 0)), (4, (.row 2 (List.length (v3.2)))), (5, (fI (v3.1))), (18, (fI ((a0.size : Int)))), (19, (fI (v3.1))), (22, (fS (a0))), (23, (fI (v3.1)))], (languages_Patterns_m0 v3), [2, 1]⟩ (by kernel_rfl) ?_
      obtain ⟨v4, hv4, h⟩ := Option.bind_eq_some_iff.1 h
      refine l_step ((s_byte (k := .i64) (d := tt9) (s := a0) hv4 tt_ok rfl (by kernel_rfl) (by kernel_rfl) (by kernel_rfl) (by kernel_rfl)).step) (by kernel_rfl) (dst_of (by kernel_rfl)) ?_
      refine l_rk 2 tt_ok ⟨83, [(0, (fS (a0))), (2, (.ref 1 0 0)), (4, (.row 2 (List.length (v3.2)))), (5, (fI (v3.1))), (18, (fI ((a0.size : Int)))), (19, (fI (v3.1))), (26, (fB ((decide (v4 < 32)))))], (languages_Patterns_m0 v3), [2, 1]⟩ (by kernel_rfl) ?_
      rcases cond_some h with ⟨hb, h⟩ | ⟨hb, h⟩
      ·refine l_le (le_eq (t := 26) (x := .fz (eB (decide (v4 < 32)))) (y := .fz (eB true)) (by kernel_rfl) (congrArg (fun b => AV.fz (eB b)) hb)) ?_
       refine l_rk 5 tt_ok ⟨83, [(0, (fS (a0))), (2, (.ref 1 0 0)), (4, (.row 2 (List.length (v3.2)))), (5, (fI (v3.1))), (18, (fI ((a0.size : Int)))), (19, (fI (v3.1))), (31, (fB (true)))], (languages_Patterns_m0 v3), [2, 1]⟩ (by kernel_rfl) ?_
       refine l_nil ?_
       obtain rfl := Option.some.inj h
       exact And.intro rfl (le_ck (by kernel_rfl))
      ·refine l_le (le_eq (t := 26) (x := .fz (eB (decide (v4 < 32)))) (y := .fz (eB false)) (by kernel_rfl) (congrArg (fun b => AV.fz (eB b)) hb)) ?_
       refine l_rk 2 tt_ok ⟨83, [(0, (fS (a0))), (2, (.ref 1 0 0)), (4, (.row 2 (List.length (v3.2)))), (5, (fI (v3.1))), (18, (fI ((a0.size : Int)))), (19, (fI (v3.1))), (26, (fB (false))), (27, (fS (a0))), (28, (fI (v3.1)))], (languages_Patterns_m0 v3), [2, 1]⟩ (by kernel_rfl) ?_
       obtain ⟨v5, hv5, h⟩ := Option.bind_eq_some_iff.1 h
       refine l_step ((s_byte (k := .i64) (d := tt9) (s := a0) hv5 tt_ok rfl (by kernel_rfl) (by kernel_rfl) (by kernel_rfl) (by kernel_rfl)).step) (by kernel_rfl) (dst_of (by kernel_rfl)) ?_
       refine l_rk 2 tt_ok ⟨83, [(0, (fS (a0))), (2, (.ref 1 0 0)), (4, (.row 2 (List.length (v3.2)))), (5, (fI (v3.1))), (18, (fI ((a0.size : Int)))), (19, (fI (v3.1))), (31, (fB ((decide (126 < v5)))))], (languages_Patterns_m0 v3), [2, 1]⟩ (by kernel_rfl) ?_
       refine l_nil ?_
       obtain rfl := Option.some.inj h
       exact And.intro rfl (le_ck (by kernel_rfl))
     ·clear hj
      intro e st' hq
      obtain ⟨rfl, hle⟩ := hq
      refine ⟨_, hle, ?_⟩
      rcases cond_some h with ⟨hb, h⟩ | ⟨hb, h⟩
      ·refine awp_cond_t (b := v7) (by kernel_rfl) hb ?_
       refine awp_seq ?_
       refine awp_region ?_
       refine l_rk 3 tt_ok ⟨83, [(2, (.ref 1 0 0)), (3, (fI (1)))], (languages_Patterns_m1), [1]⟩ (by kernel_rfl) ?_
       refine l_nil ?_
       refine awp_ret ?_
       obtain rfl := Option.some.inj h
       exact And.intro (And.intro (fun h => nomatch h) (fun h => nomatch h)) (And.intro rfl (show retX _ _ _ _ = some _ from by kernel_rfl))
      ·refine awp_cond_f (b := v7) (by kernel_rfl) hb ?_
       refine awp_skip ?_
       refine awp_seq ?_
       refine awp_seq ?_
       refine awp_region ?_
       refine l_rk 2 tt_ok ⟨83, [(0, (fS (a0))), (2, (.ref 1 0 0)), (4, (.row 2 (List.length (v3.2)))), (5, (fI (v3.1))), (18, (fI ((a0.size : Int)))), (19, (fI (v3.1))), (33, (fI (v3.1))), (34, (fI (0)))], (languages_Patterns_m0 v3), [2, 1]⟩ (by kernel_rfl) ?_
       refine l_nil ?_
       refine awp_block ?_
       obtain ⟨v11, hj, h⟩ := Option.bind_eq_some_iff.1 h
       refine awp_join (Qa := fun e st => Sum.elim (fun p => e = .exit 2 ∧ LeSt st ⟨83, [(0, (fS (a0))), (2, (.ref 1 0 0)), (4, (.row 2 (List.length (v3.2)))), (5, (fI (v3.1))), (18, (fI ((a0.size : Int)))), (19, (fI (v3.1)))], (languages_Patterns_m0 v3), [2, 1]⟩) (fun p => e = .ret ∧ retX TT st Try.f26.results.toList [.ag [.keep, .sl 1, .sl 2, .sl 9], .one .keep] = some (.tup [eLa (p.1), eI (p.2)])) v11) ?_ ?_
       ·refine awp_loopS (stOf := fun v8 => ⟨83, [(0, (fS (a0))), (2, (.ref 1 0 0)), (4, (.row 2 (List.length (v3.2)))), (5, (fI (v3.1))), (18, (fI ((a0.size : Int)))), (19, (fI (v3.1))), (33, (fI (v3.1))), (34, (fI (v8)))], (languages_Patterns_m0 v3), [2, 1]⟩) (Qb := fun j e st => Sum.elim (fun p => e = .exit 2 ∧ LeSt st ⟨83, [(0, (fS (a0))), (2, (.ref 1 0 0)), (4, (.row 2 (List.length (v3.2)))), (5, (fI (v3.1))), (18, (fI ((a0.size : Int)))), (19, (fI (v3.1)))], (languages_Patterns_m0 v3), [2, 1]⟩) (fun p => e = .ret ∧ retX TT st Try.f26.results.toList [.ag [.keep, .sl 1, .sl 2, .sl 9], .one .keep] = some (.tup [eLa (p.1), eI (p.2)])) j) hj (le_ck (by kernel_rfl)) ?_
        clear hj h
        intro v8 r h
        unfold languages_Patterns_l1 at h
        refine awp_seq ?_
        refine awp_region ?_
        refine l_rk 1 tt_ok ⟨83, [(0, (fS (a0))), (2, (.ref 1 0 0)), (4, (.row 2 (List.length (v3.2)))), (5, (fI (v3.1))), (18, (fI ((a0.size : Int)))), (19, (fI (v3.1))), (33, (fI (v3.1))), (34, (fI (v8))), (35, (fB ((decide (v8 < v3.1)))))], (languages_Patterns_m0 v3), [2, 1]⟩ (by kernel_rfl) ?_
        refine l_nil ?_
        refine awp_seq ?_
        rcases cond_some h with ⟨hb, h⟩ | ⟨hb, h⟩
        ·refine awp_cond_t (b := (decide (v8 < v3.1))) (by kernel_rfl) hb ?_
         refine awp_skip ?_
         refine awp_seq ?_
         refine awp_block ?_
         refine awp_seq ?_
         refine awp_region ?_
         refine l_rk 2 tt_ok ⟨83, [(0, (fS (a0))), (2, (.ref 1 0 0)), (4, (.row 2 (List.length (v3.2)))), (5, (fI (v3.1))), (6, (fI (v8))), (18, (fI ((a0.size : Int)))), (19, (fI (v3.1))), (33, (fI (v3.1))), (34, (fI (v8)))], (languages_Patterns_m0 v3), [2, 1]⟩ (by kernel_rfl) ?_
         refine l_nil ?_
         refine awp_seq ?_
         obtain ⟨v9, hv9, h⟩ := Option.bind_eq_some_iff.1 h
         obtain ⟨v10, hv10, h⟩ := Option.bind_eq_some_iff.1 h
         refine awp_drawn (by kernel_rfl) [(fS (a0)), (fI (v8)), (.fz (eU8 (v9))), (fS (a0)), (fI (v3.1)), (.fz (eU8 (v10)))] (by kernel_rfl) ?_
         refine ⟨.inl ⟨by kernel_rfl, (nstep_ok tt_ok (by kernel_rfl))⟩, ?_⟩
         refine ⟨.inl ⟨by kernel_rfl, (nstep_ok tt_ok (by kernel_rfl))⟩, ?_⟩
         refine ⟨.inl ⟨by kernel_rfl, (s_byte (k := .i64) (d := tt9) (s := a0) hv9 tt_ok rfl (by kernel_rfl) (by kernel_rfl) (by kernel_rfl) (by kernel_rfl))⟩, ?_⟩
         refine ⟨.inl ⟨by kernel_rfl, (nstep_ok tt_ok (by kernel_rfl))⟩, ?_⟩
         refine ⟨.inl ⟨by kernel_rfl, (nstep_ok tt_ok (by kernel_rfl))⟩, ?_⟩
         refine ⟨.inl ⟨by kernel_rfl, (s_byte (k := .i64) (d := tt9) (s := a0) hv10 tt_ok rfl (by kernel_rfl) (by kernel_rfl) (by kernel_rfl) (by kernel_rfl))⟩, ?_⟩
         refine l_rk 1 tt_ok ⟨83, [(0, (fS (a0))), (2, (.ref 1 0 0)), (4, (.row 2 (List.length (v3.2)))), (5, (fI (v3.1))), (18, (fI ((a0.size : Int)))), (19, (fI (v3.1))), (33, (fI (v3.1))), (34, (fI (v8))), (43, (fB ((v9 == v10))))], (languages_Patterns_m0 v3), [2, 1]⟩ (by kernel_rfl) ?_
         refine l_nil ?_
         rcases cond_some h with ⟨hb, h⟩ | ⟨hb, h⟩
         ·refine awp_cond_t (b := (v9 == v10)) (by kernel_rfl) hb ?_
          refine awp_seq ?_
          refine awp_region ?_
          refine l_rk 3 tt_ok ⟨83, [(2, (.ref 1 0 0)), (3, (fI (6)))], (languages_Patterns_m1), [1]⟩ (by kernel_rfl) ?_
          refine l_nil ?_
          refine awp_ret ?_
          obtain rfl := Option.some.inj h
          exact And.intro (And.intro (fun h => nomatch h) (fun h => nomatch h)) (And.intro rfl (show retX _ _ _ _ = some _ from by kernel_rfl))
         ·refine awp_cond_f (b := (v9 == v10)) (by kernel_rfl) hb ?_
          refine awp_skip ?_
          refine awp_region ?_
          refine l_rk 2 tt_ok ⟨83, [(0, (fS (a0))), (2, (.ref 1 0 0)), (4, (.row 2 (List.length (v3.2)))), (5, (fI (v3.1))), (18, (fI ((a0.size : Int)))), (19, (fI (v3.1))), (33, (fI (v3.1))), (34, (fI ((w64 (v8 + 1)))))], (languages_Patterns_m0 v3), [2, 1]⟩ (by kernel_rfl) ?_
          refine l_nil ?_
          obtain rfl := Option.some.inj h
          exact And.intro rfl (le_ck (by kernel_rfl))
        ·refine awp_cond_f (b := (decide (v8 < v3.1))) (by kernel_rfl) hb ?_
         refine awp_exit ?_
         obtain rfl := Option.some.inj h
         exact And.intro (And.intro (fun h => nomatch h) (fun h => nomatch h)) (And.intro rfl (le_ck (by kernel_rfl)))
       ·clear hj
        intro e st' hq
        rcases v11 with v12 | v17
        ·try simp only [Sum.elim_inl, Sum.elim_inr] at h
         obtain ⟨rfl, hle⟩ := hq
         refine ⟨_, hle, ?_⟩
         refine awp_region ?_
         refine l_rk 5 tt_ok ⟨83, [(0, (fS (a0))), (2, (.ref 1 0 0)), (18, (fI ((a0.size : Int)))), (19, (fI (v3.1))), (46, (.row 2 (List.length (v3.2)))), (47, (fS (a0))), (48, (fI (v3.1))), (50, (fI ((w64 (v3.1 + 1)))))], (languages_Patterns_m0 v3), [2, 1]⟩ (by kernel_rfl) ?_
         obtain ⟨v13, hv13, h⟩ := Option.bind_eq_some_iff.1 h
         refine l_step ((s_cutS (d := tt9) (s := a0) (l := (some v3.1)) (h := (some (w64 (v3.1 + 1)))) hv13 tt_ok rfl (by kernel_rfl) (by kernel_rfl) (by kernel_rfl) (by kernel_rfl) (by kernel_rfl)).step) (by kernel_rfl) (dst_of (by kernel_rfl)) ?_
         obtain ⟨v14, hv14, h⟩ := Option.bind_eq_some_iff.1 h
         refine l_step ((n_call (ys := [eS (v13)]) (cs := [(.one (.keep))]) rfl (by kernel_rfl) (pattern_Literal_ok (v13) _ hv14)).step) (by kernel_rfl) (dst_of (by kernel_rfl)) ?_
         obtain ⟨v15, hv15, h⟩ := Option.bind_eq_some_iff.1 h
         refine l_step ((n_call (ys := [eS (v14)]) (cs := [(.one (.keep))]) rfl (by kernel_rfl) (value_OfPattern_ok (v14) _ hv15)).step) (by kernel_rfl) (dst_of (by kernel_rfl)) ?_
         refine l_step (xstep_ok (c := .lim 4 1 [eVa (v15)]) (h := [(1, (.box 27 [(fS ((⟨#[]⟩ : ByteArray))), (.fz (.atom (.slice none 0 0))), (.fz (.atom (.slice none 0 0))), (.fz (.atom (.slice none 0 0)))])), (2, (.frow 65 4 (List.map eVaR (v3.2))))]) (i := [2, 1]) tt_ok (by kernel_rfl)) (by kernel_rfl) (dst_of (by kernel_rfl)) ?_
         refine l_le (le_eq (t := 54) (x := .lim 4 1 [eVa (v15)]) (y := .lim 4 1 (List.map eVaR ([v15] : List (Va)))) (by kernel_rfl) (by simp only [List.map, eVaR_eq])) ?_
         obtain ⟨v16, hv16, h⟩ := Option.bind_eq_some_iff.1 h
         refine l_step (s_append (d := tt63) (e := 65) (de := tt65) (enc := eVaR) (xs := v3.2) (ys := ([v15] : List (Va))) (m := List.length ([v15] : List (Va))) (id := 2) (n := List.length (v3.2)) hv16 tt_ok rfl (by kernel_rfl) (by kernel_rfl) (by kernel_rfl) (by kernel_rfl) (by kernel_rfl) (by kernel_rfl) (by kernel_rfl) (by kernel_rfl) rfl (.inr (by kernel_rfl))) (by kernel_rfl) (dst_of (by kernel_rfl)) ?_
         refine l_rk 1 tt_ok ⟨83, [(0, (fS (a0))), (2, (.ref 1 0 0)), (4, (.row 2 (List.length (v16)))), (18, (fI ((a0.size : Int)))), (19, (fI (v3.1)))], [(1, (.box 27 [(fS ((⟨#[]⟩ : ByteArray))), (.fz (.atom (.slice none 0 0))), (.fz (.atom (.slice none 0 0))), (.fz (.atom (.slice none 0 0)))])), (2, (.frow 65 4 (List.map eVaR (v16))))], [2, 1]⟩ (by kernel_rfl) ?_
         refine l_nil ?_
         refine awp_region ?_
         refine l_rk 2 tt_ok ⟨83, [(0, (fS (a0))), (2, (.ref 1 0 0)), (4, (.row 2 (List.length (v16)))), (18, (fI ((a0.size : Int)))), (19, (fI ((w64 (v3.1 + 1)))))], [(1, (.box 27 [(fS ((⟨#[]⟩ : ByteArray))), (.fz (.atom (.slice none 0 0))), (.fz (.atom (.slice none 0 0))), (.fz (.atom (.slice none 0 0)))])), (2, (.frow 65 4 (List.map eVaR (v16))))], [2, 1]⟩ (by kernel_rfl) ?_
         refine l_nil ?_
         obtain rfl := Option.some.inj h
         exact And.intro rfl (le_ck (by kernel_rfl))
        ·try simp only [Sum.elim_inl, Sum.elim_inr] at h
         obtain ⟨rfl, hret⟩ := hq
         refine ⟨_, LeSt.refl, ?_⟩
         obtain rfl := Option.some.inj h
         exact And.intro (And.intro (fun h => nomatch h) (fun h => nomatch h)) (And.intro rfl hret)
    ·refine awp_cond_f (b := (decide (v3.1 < (a0.size : Int)))) (by kernel_rfl) hb ?_
     refine awp_exit ?_
     obtain rfl := Option.some.inj h
     exact And.intro (And.intro (fun h => nomatch h) (fun h => nomatch h)) (And.intro rfl (le_ck (by kernel_rfl)))
   ·clear hj
    intro e st' hq
    rcases v18 with v19 | v26
    ·try simp only [Sum.elim_inl, Sum.elim_inr] at h
     obtain ⟨rfl, hle⟩ := hq
     refine ⟨_, hle, ?_⟩
     refine awp_seq ?_
     refine awp_region ?_
     refine l_rk 4 tt_ok ⟨83, [(2, (.ref 1 0 0)), (4, (.row 2 (List.length (v19)))), (60, (.lim 2 (List.length (([(Sy.mk ((⟨#[116, 101, 115, 116]⟩ : ByteArray)) (1)), (Sy.mk ((⟨#[116, 101, 120, 116]⟩ : ByteArray)) (3)), (Sy.mk ((⟨#[112, 97, 116, 116, 101, 114, 110]⟩ : ByteArray)) (8))] : List (Sy)))) (List.map eSy (([(Sy.mk ((⟨#[116, 101, 115, 116]⟩ : ByteArray)) (1)), (Sy.mk ((⟨#[116, 101, 120, 116]⟩ : ByteArray)) (3)), (Sy.mk ((⟨#[112, 97, 116, 116, 101, 114, 110]⟩ : ByteArray)) (8))] : List (Sy))))))], [(1, (.box 27 [(fS ((⟨#[]⟩ : ByteArray))), (.fz (.atom (.slice none 0 0))), (.fz (.atom (.slice none 0 0))), (.fz (.atom (.slice none 0 0)))])), (2, (.frow 65 4 (List.map eVaR (v19))))], [2, 1]⟩ (by kernel_rfl) ?_
     obtain ⟨v20, hv20, h⟩ := Option.bind_eq_some_iff.1 h
     refine l_step (h_step (f := 65) (cap := []) (cs := [.one .keep, .one .keep, (.one (.sl 2))]) (keys := []) [] [(1, 3), (2, 4)] rfl (by kernel_rfl) (languages_begin_h_ok ((⟨#[112, 97, 116, 116, 101, 114, 110, 115]⟩ : ByteArray)) (3) (([(Sy.mk ((⟨#[116, 101, 115, 116]⟩ : ByteArray)) (1)), (Sy.mk ((⟨#[116, 101, 120, 116]⟩ : ByteArray)) (3)), (Sy.mk ((⟨#[112, 97, 116, 116, 101, 114, 110]⟩ : ByteArray)) (8))] : List (Sy))) _ hv20) (by kernel_rfl) (by kernel_rfl) (by kernel_rfl) (by kernel_rfl)) (by kernel_rfl) (dst_of (by kernel_rfl)) ?_
     refine l_rk 1 tt_ok ⟨83, [(2, (.ref 1 0 0)), (4, (.row 2 (List.length (v19)))), (7, (.ref 3 0 0))], [(1, (.box 27 [(fS ((⟨#[]⟩ : ByteArray))), (.fz (.atom (.slice none 0 0))), (.fz (.atom (.slice none 0 0))), (.fz (.atom (.slice none 0 0)))])), (2, (.frow 65 4 (List.map eVaR (v19)))), (3, (.box 83 [(fS (((⟨#[112, 97, 116, 116, 101, 114, 110, 115]⟩ : ByteArray)))), (.lim 1 (List.length (([(3)] : List (Int)))) (List.map eI (([(3)] : List (Int))))), (.fz ((eL 2 eSy) ((([(Sy.mk ((⟨#[116, 101, 115, 116]⟩ : ByteArray)) (1)), (Sy.mk ((⟨#[116, 101, 120, 116]⟩ : ByteArray)) (3)), (Sy.mk ((⟨#[112, 97, 116, 116, 101, 114, 110]⟩ : ByteArray)) (8))] : List (Sy)))))), (.row 4 (List.length (([] : List (Ru)))))])), (4, (.frow 67 9 (List.map eRu (([] : List (Ru))))))], [3, 4, 2, 1]⟩ (by kernel_rfl) ?_
     refine l_nil ?_
     refine awp_seq ?_
     refine awp_region ?_
     refine l_rk 3 tt_ok ⟨83, [(2, (.ref 1 0 0)), (4, (.row 2 (List.length (v19)))), (7, (.ref 3 0 0)), (62, (.ref 3 0 0)), (63, (.lim 1 (List.length (([1, 2] : List (Int)))) (List.map eI (([1, 2] : List (Int)))))), (64, (.lim 1 (List.length (([(⟨#[109, 97, 116, 99, 104, 101, 115]⟩ : ByteArray)] : List (ByteArray)))) (List.map eS (([(⟨#[109, 97, 116, 99, 104, 101, 115]⟩ : ByteArray)] : List (ByteArray))))))], [(1, (.box 27 [(fS ((⟨#[]⟩ : ByteArray))), (.fz (.atom (.slice none 0 0))), (.fz (.atom (.slice none 0 0))), (.fz (.atom (.slice none 0 0)))])), (2, (.frow 65 4 (List.map eVaR (v19)))), (3, (.box 83 [(fS (((⟨#[112, 97, 116, 116, 101, 114, 110, 115]⟩ : ByteArray)))), (.lim 1 (List.length (([(3)] : List (Int)))) (List.map eI (([(3)] : List (Int))))), (.fz ((eL 2 eSy) ((([(Sy.mk ((⟨#[116, 101, 115, 116]⟩ : ByteArray)) (1)), (Sy.mk ((⟨#[116, 101, 120, 116]⟩ : ByteArray)) (3)), (Sy.mk ((⟨#[112, 97, 116, 116, 101, 114, 110]⟩ : ByteArray)) (8))] : List (Sy)))))), (.row 4 (List.length (([] : List (Ru)))))])), (4, (.frow 67 9 (List.map eRu (([] : List (Ru))))))], [3, 4, 2, 1]⟩ (by kernel_rfl) ?_
     obtain ⟨v21, hv21, h⟩ := Option.bind_eq_some_iff.1 h
     refine l_le (le_co (ids := [3, 4, 2, 1]) (ts := [(2, .one .keep), (4, .one .keep), (7, .one .keep), (62, .one .keep), (63, .one .keep), (64, .one .keep)]) (os := [(1, []), (2, []), (3, [.keep, .sl 1]), (4, [])]) (by kernel_rfl) : LeSt _ ⟨83, [(2, (.ref 1 0 0)), (4, (.row 2 (List.length (v19)))), (7, (.ref 3 0 0)), (62, (.ref 3 0 0)), (63, (.lim 1 (List.length (([1, 2] : List (Int)))) (List.map eI (([1, 2] : List (Int)))))), (64, (.lim 1 (List.length (([(⟨#[109, 97, 116, 99, 104, 101, 115]⟩ : ByteArray)] : List (ByteArray)))) (List.map eS (([(⟨#[109, 97, 116, 99, 104, 101, 115]⟩ : ByteArray)] : List (ByteArray))))))], [(1, (.box 27 [(fS ((⟨#[]⟩ : ByteArray))), (.fz (.atom (.slice none 0 0))), (.fz (.atom (.slice none 0 0))), (.fz (.atom (.slice none 0 0)))])), (2, (.frow 65 4 (List.map eVaR (v19)))), (3, (.box 83 [(fS (((⟨#[112, 97, 116, 116, 101, 114, 110, 115]⟩ : ByteArray)))), (.fz ((eL 1 eI) (([(3)] : List (Int))))), (.fz ((eL 2 eSy) ((([(Sy.mk ((⟨#[116, 101, 115, 116]⟩ : ByteArray)) (1)), (Sy.mk ((⟨#[116, 101, 120, 116]⟩ : ByteArray)) (3)), (Sy.mk ((⟨#[112, 97, 116, 116, 101, 114, 110]⟩ : ByteArray)) (8))] : List (Sy)))))), (.row 4 (List.length (([] : List (Ru)))))])), (4, (.frow 67 9 (List.map eRu (([] : List (Ru))))))], [3, 4, 2, 1]⟩) ?_
     refine l_step (h_step (f := 68) (cap := []) (cs := [.one .keep, .one .keep, (.one (.sl 1)), (.one (.sl 1))]) (keys := [1, 2]) [(3, 1), (4, 2)] [(1, 3), (2, 4)] rfl (by kernel_rfl) (languages_writer_ops_h_ok (((⟨#[112, 97, 116, 116, 101, 114, 110, 115]⟩ : ByteArray))) (([(3)] : List (Int))) ((([(Sy.mk ((⟨#[116, 101, 115, 116]⟩ : ByteArray)) (1)), (Sy.mk ((⟨#[116, 101, 120, 116]⟩ : ByteArray)) (3)), (Sy.mk ((⟨#[112, 97, 116, 116, 101, 114, 110]⟩ : ByteArray)) (8))] : List (Sy)))) (([] : List (Ru))) (0) (([1, 2] : List (Int))) (([(⟨#[109, 97, 116, 99, 104, 101, 115]⟩ : ByteArray)] : List (ByteArray))) _ hv21) (by kernel_rfl) (by kernel_rfl) (by kernel_rfl) (by kernel_rfl)) (by kernel_rfl) (dst_of (by kernel_rfl)) ?_
     refine l_nil ?_
     refine awp_seq ?_
     refine awp_region ?_
     refine l_rk 1 tt_ok ⟨83, [(2, (.ref 1 0 0)), (4, (.row 2 (List.length (v19)))), (7, (.ref 3 0 0)), (66, (.ref 3 0 0))], [(1, (.box 27 [(fS ((⟨#[]⟩ : ByteArray))), (.fz (.atom (.slice none 0 0))), (.fz (.atom (.slice none 0 0))), (.fz (.atom (.slice none 0 0)))])), (2, (.frow 65 4 (List.map eVaR (v19)))), (3, (.box 83 [(fS ((((⟨#[112, 97, 116, 116, 101, 114, 110, 115]⟩ : ByteArray))))), (.fz ((eL 1 eI) ((([(3)] : List (Int)))))), (.fz ((eL 2 eSy) (((([(Sy.mk ((⟨#[116, 101, 115, 116]⟩ : ByteArray)) (1)), (Sy.mk ((⟨#[116, 101, 120, 116]⟩ : ByteArray)) (3)), (Sy.mk ((⟨#[112, 97, 116, 116, 101, 114, 110]⟩ : ByteArray)) (8))] : List (Sy))))))), (.row 4 (List.length (v21)))])), (4, (.frow 67 9 (List.map eRu (v21))))], [3, 4, 2, 1]⟩ (by kernel_rfl) ?_
     obtain ⟨v22, hv22, h⟩ := Option.bind_eq_some_iff.1 h
     refine l_step (h_step (f := 66) (cap := []) (cs := [.one .keep, .one .keep]) (keys := [1, 2]) [(3, 1), (4, 2)] [(1, 3), (2, 4)] rfl (by kernel_rfl) (languages_writer_input_h_ok ((((⟨#[112, 97, 116, 116, 101, 114, 110, 115]⟩ : ByteArray)))) ((([(3)] : List (Int)))) (((([(Sy.mk ((⟨#[116, 101, 115, 116]⟩ : ByteArray)) (1)), (Sy.mk ((⟨#[116, 101, 120, 116]⟩ : ByteArray)) (3)), (Sy.mk ((⟨#[112, 97, 116, 116, 101, 114, 110]⟩ : ByteArray)) (8))] : List (Sy))))) (v21) (1) _ hv22) (by kernel_rfl) (by kernel_rfl) (by kernel_rfl) (by kernel_rfl)) (by kernel_rfl) (dst_of (by kernel_rfl)) ?_
     refine l_nil ?_
     refine awp_seq ?_
     refine awp_region ?_
     refine l_rk 2 tt_ok ⟨83, [(2, (.ref 1 0 0)), (7, (.ref 3 0 0)), (68, (.ref 3 0 0)), (69, (.row 2 (List.length (v19))))], [(1, (.box 27 [(fS ((⟨#[]⟩ : ByteArray))), (.fz (.atom (.slice none 0 0))), (.fz (.atom (.slice none 0 0))), (.fz (.atom (.slice none 0 0)))])), (2, (.frow 65 4 (List.map eVaR (v19)))), (3, (.box 83 [(fS (((((⟨#[112, 97, 116, 116, 101, 114, 110, 115]⟩ : ByteArray)))))), (.fz ((eL 1 eI) (((([(3)] : List (Int))))))), (.fz ((eL 2 eSy) ((((([(Sy.mk ((⟨#[116, 101, 115, 116]⟩ : ByteArray)) (1)), (Sy.mk ((⟨#[116, 101, 120, 116]⟩ : ByteArray)) (3)), (Sy.mk ((⟨#[112, 97, 116, 116, 101, 114, 110]⟩ : ByteArray)) (8))] : List (Sy)))))))), (.row 4 (List.length (v22)))])), (4, (.frow 67 9 (List.map eRu (v22))))], [3, 4, 2, 1]⟩ (by kernel_rfl) ?_
     refine l_le (le_freezeTs (id := 2) (n := List.length (v19)) (e := 65) (size := 4) (xs := List.map eVaR (v19)) [69] ⟨by kernel_rfl, trivial⟩ (by kernel_rfl) (by simp)) ?_
     obtain ⟨v23, hv23, h⟩ := Option.bind_eq_some_iff.1 h
     refine l_step (h_step (f := 67) (cap := []) (cs := [.one .keep, .one .keep, .one .keep]) (keys := [1, 2]) [(3, 1), (4, 2)] [(1, 3), (2, 4)] rfl (by kernel_rfl) (languages_writer_constants_h_ok (((((⟨#[112, 97, 116, 116, 101, 114, 110, 115]⟩ : ByteArray))))) (((([(3)] : List (Int))))) ((((([(Sy.mk ((⟨#[116, 101, 115, 116]⟩ : ByteArray)) (1)), (Sy.mk ((⟨#[116, 101, 120, 116]⟩ : ByteArray)) (3)), (Sy.mk ((⟨#[112, 97, 116, 116, 101, 114, 110]⟩ : ByteArray)) (8))] : List (Sy)))))) (v22) (2) (v19) _ hv23) (by kernel_rfl) (by kernel_rfl) (by kernel_rfl) (by kernel_rfl)) (by kernel_rfl) (dst_of (by kernel_rfl)) ?_
     refine l_nil ?_
     refine awp_seq ?_
     refine awp_region ?_
     refine l_rk 3 tt_ok ⟨83, [(2, (.ref 1 0 0)), (7, (.ref 3 0 0)), (71, (.ref 3 0 0)), (72, (.lim 1 (List.length (([2, 2] : List (Int)))) (List.map eI (([2, 2] : List (Int)))))), (73, (.lim 1 (List.length (([(⟨#[112, 99, 97, 116]⟩ : ByteArray), (⟨#[112, 97, 108, 116]⟩ : ByteArray)] : List (ByteArray)))) (List.map eS (([(⟨#[112, 99, 97, 116]⟩ : ByteArray), (⟨#[112, 97, 108, 116]⟩ : ByteArray)] : List (ByteArray))))))], [(1, (.box 27 [(fS ((⟨#[]⟩ : ByteArray))), (.fz (.atom (.slice none 0 0))), (.fz (.atom (.slice none 0 0))), (.fz (.atom (.slice none 0 0)))])), (3, (.box 83 [(fS ((((((⟨#[112, 97, 116, 116, 101, 114, 110, 115]⟩ : ByteArray))))))), (.fz ((eL 1 eI) ((((([(3)] : List (Int)))))))), (.fz ((eL 2 eSy) (((((([(Sy.mk ((⟨#[116, 101, 115, 116]⟩ : ByteArray)) (1)), (Sy.mk ((⟨#[116, 101, 120, 116]⟩ : ByteArray)) (3)), (Sy.mk ((⟨#[112, 97, 116, 116, 101, 114, 110]⟩ : ByteArray)) (8))] : List (Sy))))))))), (.row 4 (List.length (v23)))])), (4, (.frow 67 9 (List.map eRu (v23))))], [3, 4, 1]⟩ (by kernel_rfl) ?_
     obtain ⟨v24, hv24, h⟩ := Option.bind_eq_some_iff.1 h
     refine l_step (h_step (f := 68) (cap := []) (cs := [.one .keep, .one .keep, (.one (.sl 1)), (.one (.sl 1))]) (keys := [1, 2]) [(3, 1), (4, 2)] [(1, 3), (2, 4)] rfl (by kernel_rfl) (languages_writer_ops_h_ok ((((((⟨#[112, 97, 116, 116, 101, 114, 110, 115]⟩ : ByteArray)))))) ((((([(3)] : List (Int)))))) (((((([(Sy.mk ((⟨#[116, 101, 115, 116]⟩ : ByteArray)) (1)), (Sy.mk ((⟨#[116, 101, 120, 116]⟩ : ByteArray)) (3)), (Sy.mk ((⟨#[112, 97, 116, 116, 101, 114, 110]⟩ : ByteArray)) (8))] : List (Sy))))))) (v23) (2) (([2, 2] : List (Int))) (([(⟨#[112, 99, 97, 116]⟩ : ByteArray), (⟨#[112, 97, 108, 116]⟩ : ByteArray)] : List (ByteArray))) _ hv24) (by kernel_rfl) (by kernel_rfl) (by kernel_rfl) (by kernel_rfl)) (by kernel_rfl) (dst_of (by kernel_rfl)) ?_
     refine l_nil ?_
     refine awp_seq ?_
     refine awp_region ?_
     refine l_rk 3 tt_ok ⟨83, [(2, (.ref 1 0 0)), (7, (.ref 3 0 0)), (75, (.ref 3 0 0)), (76, (.lim 1 (List.length (([2] : List (Int)))) (List.map eI (([2] : List (Int)))))), (77, (.lim 1 (List.length (([(⟨#[112, 115, 116, 97, 114]⟩ : ByteArray)] : List (ByteArray)))) (List.map eS (([(⟨#[112, 115, 116, 97, 114]⟩ : ByteArray)] : List (ByteArray))))))], [(1, (.box 27 [(fS ((⟨#[]⟩ : ByteArray))), (.fz (.atom (.slice none 0 0))), (.fz (.atom (.slice none 0 0))), (.fz (.atom (.slice none 0 0)))])), (3, (.box 83 [(fS (((((((⟨#[112, 97, 116, 116, 101, 114, 110, 115]⟩ : ByteArray)))))))), (.fz ((eL 1 eI) (((((([(3)] : List (Int))))))))), (.fz ((eL 2 eSy) ((((((([(Sy.mk ((⟨#[116, 101, 115, 116]⟩ : ByteArray)) (1)), (Sy.mk ((⟨#[116, 101, 120, 116]⟩ : ByteArray)) (3)), (Sy.mk ((⟨#[112, 97, 116, 116, 101, 114, 110]⟩ : ByteArray)) (8))] : List (Sy)))))))))), (.row 4 (List.length (v24)))])), (4, (.frow 67 9 (List.map eRu (v24))))], [3, 4, 1]⟩ (by kernel_rfl) ?_
     obtain ⟨v25, hv25, h⟩ := Option.bind_eq_some_iff.1 h
     refine l_step (h_step (f := 68) (cap := []) (cs := [.one .keep, .one .keep, (.one (.sl 1)), (.one (.sl 1))]) (keys := [1, 2]) [(3, 1), (4, 2)] [(1, 3), (2, 4)] rfl (by kernel_rfl) (languages_writer_ops_h_ok (((((((⟨#[112, 97, 116, 116, 101, 114, 110, 115]⟩ : ByteArray))))))) (((((([(3)] : List (Int))))))) ((((((([(Sy.mk ((⟨#[116, 101, 115, 116]⟩ : ByteArray)) (1)), (Sy.mk ((⟨#[116, 101, 120, 116]⟩ : ByteArray)) (3)), (Sy.mk ((⟨#[112, 97, 116, 116, 101, 114, 110]⟩ : ByteArray)) (8))] : List (Sy)))))))) (v24) (2) (([2] : List (Int))) (([(⟨#[112, 115, 116, 97, 114]⟩ : ByteArray)] : List (ByteArray))) _ hv25) (by kernel_rfl) (by kernel_rfl) (by kernel_rfl) (by kernel_rfl)) (by kernel_rfl) (dst_of (by kernel_rfl)) ?_
     refine l_nil ?_
     refine awp_seq ?_
     refine awp_region ?_
     refine l_rk 6 tt_ok ⟨83, [(2, (.ref 1 0 0)), (3, (fI (0)))], [(1, (.box 27 [(fS ((((((((⟨#[112, 97, 116, 116, 101, 114, 110, 115]⟩ : ByteArray))))))))), (.fz ((eL 1 eI) ((((((([(3)] : List (Int)))))))))), (.fz ((eL 2 eSy) (((((((([(Sy.mk ((⟨#[116, 101, 115, 116]⟩ : ByteArray)) (1)), (Sy.mk ((⟨#[116, 101, 120, 116]⟩ : ByteArray)) (3)), (Sy.mk ((⟨#[112, 97, 116, 116, 101, 114, 110]⟩ : ByteArray)) (8))] : List (Sy))))))))))), (.row 4 (List.length (v25)))])), (4, (.frow 67 9 (List.map eRu (v25))))], [4, 1]⟩ (by kernel_rfl) ?_
     refine l_nil ?_
     refine awp_le (le_freezeCell (e2 := 27) (id2 := 1) (j := 3) (id := 4) (n := List.length (v25)) (e := 67) (size := 9) (xs := List.map eRu (v25)) (cells := [(fS ((((((((⟨#[112, 97, 116, 116, 101, 114, 110, 115]⟩ : ByteArray))))))))), (.fz ((eL 1 eI) ((((((([(3)] : List (Int)))))))))), (.fz ((eL 2 eSy) (((((((([(Sy.mk ((⟨#[116, 101, 115, 116]⟩ : ByteArray)) (1)), (Sy.mk ((⟨#[116, 101, 120, 116]⟩ : ByteArray)) (3)), (Sy.mk ((⟨#[112, 97, 116, 116, 101, 114, 110]⟩ : ByteArray)) (8))] : List (Sy))))))))))), (.row 4 (List.length (v25)))]) (by kernel_rfl) (by kernel_rfl) (by kernel_rfl) (by simp)) ?_
     refine awp_ret ?_
     obtain rfl := Option.some.inj h
     exact (show retX _ _ _ _ = some _ from by kernel_rfl)
    ·try simp only [Sum.elim_inl, Sum.elim_inr] at h
     obtain ⟨rfl, hret⟩ := hq
     refine ⟨_, LeSt.refl, ?_⟩
     obtain rfl := Option.some.inj h
     exact hret

def languages_Lists_m0 : List (Nat × AObj) := [(1, (.box 27 [(fS ((⟨#[]⟩ : ByteArray))), (.fz (.atom (.slice none 0 0))), (.fz (.atom (.slice none 0 0))), (.fz (.atom (.slice none 0 0)))])), (2, (.box 83 [(fS (((⟨#[108, 105, 115, 116, 115]⟩ : ByteArray)))), (.lim 1 (List.length (([(5)] : List (Int)))) (List.map eI (([(5)] : List (Int))))), (.fz ((eL 2 eSy) ((([(Sy.mk ((⟨#[108, 105, 115, 116]⟩ : ByteArray)) (5)), (Sy.mk ((⟨#[110, 117, 109, 98, 101, 114]⟩ : ByteArray)) (2))] : List (Sy)))))), (.row 3 (List.length (([] : List (Ru)))))])), (3, (.frow 67 9 (List.map eRu (([] : List (Ru))))))]
def languages_Lists_m1 : List (Nat × AObj) := [(1, (.box 27 [(fS ((⟨#[]⟩ : ByteArray))), (.fz (.atom (.slice none 0 0))), (.fz (.atom (.slice none 0 0))), (.fz (.atom (.slice none 0 0)))]))]
def languages_Lists (a0 : List Int) : Option ((La) × (Int)) := (Option.bind (languages_integers (a0)) fun v1 => (Option.bind (languages_checked (v1)) fun v2 => (bif (v2 != 0) then (some ((La.mk ((⟨#[]⟩ : ByteArray)) (([] : List Int)) (([] : List Sy)) (([] : List Ru))), v2)) else (Option.bind (languages_begin_h ((⟨#[108, 105, 115, 116, 115]⟩ : ByteArray)) (5) (([(Sy.mk ((⟨#[108, 105, 115, 116]⟩ : ByteArray)) (5)), (Sy.mk ((⟨#[110, 117, 109, 98, 101, 114]⟩ : ByteArray)) (2))] : List (Sy)))) fun v3 => (Option.bind (languages_writer_input_h (((⟨#[108, 105, 115, 116, 115]⟩ : ByteArray))) (([(5)] : List (Int))) ((([(Sy.mk ((⟨#[108, 105, 115, 116]⟩ : ByteArray)) (5)), (Sy.mk ((⟨#[110, 117, 109, 98, 101, 114]⟩ : ByteArray)) (2))] : List (Sy)))) (([] : List (Ru))) (0)) fun v4 => (Option.bind (languages_writer_ops_h ((((⟨#[108, 105, 115, 116, 115]⟩ : ByteArray)))) ((([(5)] : List (Int)))) (((([(Sy.mk ((⟨#[108, 105, 115, 116]⟩ : ByteArray)) (5)), (Sy.mk ((⟨#[110, 117, 109, 98, 101, 114]⟩ : ByteArray)) (2))] : List (Sy))))) (v4) (0) (([0, 1] : List (Int))) (([(⟨#[116, 97, 107, 101]⟩ : ByteArray), (⟨#[100, 114, 111, 112]⟩ : ByteArray), (⟨#[115, 104, 105, 102, 116]⟩ : ByteArray), (⟨#[115, 99, 97, 108, 101]⟩ : ByteArray), (⟨#[97, 98, 111, 118, 101]⟩ : ByteArray)] : List (ByteArray)))) fun v5 => (Option.bind (languages_writer_ops_h (((((⟨#[108, 105, 115, 116, 115]⟩ : ByteArray))))) (((([(5)] : List (Int))))) ((((([(Sy.mk ((⟨#[108, 105, 115, 116]⟩ : ByteArray)) (5)), (Sy.mk ((⟨#[110, 117, 109, 98, 101, 114]⟩ : ByteArray)) (2))] : List (Sy)))))) (v5) (0) (([0] : List (Int))) (([(⟨#[114, 101, 118, 101, 114, 115, 101]⟩ : ByteArray), (⟨#[115, 111, 114, 116]⟩ : ByteArray), (⟨#[117, 110, 105, 113, 117, 101]⟩ : ByteArray), (⟨#[101, 118, 101, 110]⟩ : ByteArray), (⟨#[114, 117, 110, 110, 105, 110, 103]⟩ : ByteArray)] : List (ByteArray)))) fun v6 => (Option.bind (languages_writer_ops_h ((((((⟨#[108, 105, 115, 116, 115]⟩ : ByteArray)))))) ((((([(5)] : List (Int)))))) (((((([(Sy.mk ((⟨#[108, 105, 115, 116]⟩ : ByteArray)) (5)), (Sy.mk ((⟨#[110, 117, 109, 98, 101, 114]⟩ : ByteArray)) (2))] : List (Sy))))))) (v6) (0) (([0, 0] : List (Int))) (([(⟨#[122, 105, 112]⟩ : ByteArray), (⟨#[97, 112, 112, 101, 110, 100]⟩ : ByteArray)] : List (ByteArray)))) fun v7 => (Option.bind (languages_integers (a0)) fun v8 => (Option.bind (languages_writer_constants_h (((((((⟨#[108, 105, 115, 116, 115]⟩ : ByteArray))))))) (((((([(5)] : List (Int))))))) ((((((([(Sy.mk ((⟨#[108, 105, 115, 116]⟩ : ByteArray)) (5)), (Sy.mk ((⟨#[110, 117, 109, 98, 101, 114]⟩ : ByteArray)) (2))] : List (Sy)))))))) (v7) (1) (v8)) fun v9 => (Option.bind (languages_writer_ops_h ((((((((⟨#[108, 105, 115, 116, 115]⟩ : ByteArray)))))))) ((((((([(5)] : List (Int)))))))) (((((((([(Sy.mk ((⟨#[108, 105, 115, 116]⟩ : ByteArray)) (5)), (Sy.mk ((⟨#[110, 117, 109, 98, 101, 114]⟩ : ByteArray)) (2))] : List (Sy))))))))) (v9) (1) (([0] : List (Int))) (([(⟨#[104, 101, 97, 100]⟩ : ByteArray), (⟨#[108, 97, 115, 116]⟩ : ByteArray), (⟨#[115, 117, 109]⟩ : ByteArray), (⟨#[109, 97, 120, 105, 109, 117, 109]⟩ : ByteArray), (⟨#[109, 105, 110, 105, 109, 117, 109]⟩ : ByteArray), (⟨#[108, 101, 110, 103, 116, 104]⟩ : ByteArray)] : List (ByteArray)))) fun v10 => (Option.bind (languages_writer_ops_h (((((((((⟨#[108, 105, 115, 116, 115]⟩ : ByteArray))))))))) (((((((([(5)] : List (Int))))))))) ((((((((([(Sy.mk ((⟨#[108, 105, 115, 116]⟩ : ByteArray)) (5)), (Sy.mk ((⟨#[110, 117, 109, 98, 101, 114]⟩ : ByteArray)) (2))] : List (Sy)))))))))) (v10) (1) (([0, 1] : List (Int))) (([(⟨#[101, 108, 101, 109, 101, 110, 116]⟩ : ByteArray), (⟨#[99, 111, 117, 110, 116]⟩ : ByteArray)] : List (ByteArray)))) fun v11 => (some ((La.mk ((((((((((⟨#[108, 105, 115, 116, 115]⟩ : ByteArray)))))))))) ((((((((([(5)] : List (Int)))))))))) (((((((((([(Sy.mk ((⟨#[108, 105, 115, 116]⟩ : ByteArray)) (5)), (Sy.mk ((⟨#[110, 117, 109, 98, 101, 114]⟩ : ByteArray)) (2))] : List (Sy))))))))))) (v11)), 0))))))))))))))
theorem languages_Lists_ok (a0 : List Int) (r : (La) × (Int)) (h : languages_Lists a0 = some r) : PCall Try.prog 28 [(eL 1 eI) a0] (.tup [eLa (r.1), eI (r.2)]) := by
 unfold languages_Lists at h
 refine pcall_intro (T := TT) tt_ok [.ag [.keep, .sl 1, .sl 2, .sl 9], .one .keep] Try.func28 rfl (by kernel_rfl) (by kernel_rfl) ?_
 refine awp_le (st' := ⟨47, [(0, (.fz ((eL 1 eI) (a0))))], [], []⟩) (le_ck (by kernel_rfl)) ?_
 refine awp_seq ?_
 refine awp_region ?_
 refine l_rk 2 tt_ok ⟨47, [(0, (.fz ((eL 1 eI) (a0)))), (2, (.ref 1 0 0))], (languages_Lists_m1), [1]⟩ (by kernel_rfl) ?_
 refine l_nil ?_
 refine awp_seq ?_
 refine awp_seq ?_
 refine awp_region ?_
 refine l_rk 1 tt_ok ⟨47, [(0, (.fz ((eL 1 eI) (a0)))), (2, (.ref 1 0 0)), (6, (.fz ((eL 1 eI) (a0))))], (languages_Lists_m1), [1]⟩ (by kernel_rfl) ?_
 obtain ⟨v1, hv1, h⟩ := Option.bind_eq_some_iff.1 h
 refine l_step ((n_call (ys := [(eL 1 eI) (a0)]) (cs := [(.one (.sl 1))]) rfl (by kernel_rfl) (languages_integers_ok (a0) _ hv1)).step) (by kernel_rfl) (dst_of (by kernel_rfl)) ?_
 obtain ⟨v2, hv2, h⟩ := Option.bind_eq_some_iff.1 h
 refine l_step ((n_call (ys := [(eL 4 eVaR) (v1)]) (cs := [(.one (.sl 4))]) rfl (by kernel_rfl) (languages_checked_ok (v1) _ hv2)).step) (by kernel_rfl) (dst_of (by kernel_rfl)) ?_
 refine l_rk 1 tt_ok ⟨47, [(0, (.fz ((eL 1 eI) (a0)))), (2, (.ref 1 0 0)), (4, (fI (v2)))], (languages_Lists_m1), [1]⟩ (by kernel_rfl) ?_
 refine l_nil ?_
 refine awp_seq ?_
 refine awp_region ?_
 refine l_rk 2 tt_ok ⟨47, [(0, (.fz ((eL 1 eI) (a0)))), (2, (.ref 1 0 0)), (4, (fI (v2))), (10, (fB ((v2 != 0))))], (languages_Lists_m1), [1]⟩ (by kernel_rfl) ?_
 refine l_nil ?_
 rcases cond_some h with ⟨hb, h⟩ | ⟨hb, h⟩
 ·refine awp_cond_t (b := (v2 != 0)) (by kernel_rfl) hb ?_
  refine awp_seq ?_
  refine awp_region ?_
  refine l_rk 4 tt_ok ⟨47, [(2, (.ref 1 0 0)), (3, (fI (v2)))], (languages_Lists_m1), [1]⟩ (by kernel_rfl) ?_
  refine l_nil ?_
  refine awp_ret ?_
  obtain rfl := Option.some.inj h
  exact (show retX _ _ _ _ = some _ from by kernel_rfl)
 ·refine awp_cond_f (b := (v2 != 0)) (by kernel_rfl) hb ?_
  refine awp_skip ?_
  refine awp_seq ?_
  refine awp_region ?_
  refine l_rk 3 tt_ok ⟨47, [(0, (.fz ((eL 1 eI) (a0)))), (2, (.ref 1 0 0)), (15, (.lim 2 (List.length (([(Sy.mk ((⟨#[108, 105, 115, 116]⟩ : ByteArray)) (5)), (Sy.mk ((⟨#[110, 117, 109, 98, 101, 114]⟩ : ByteArray)) (2))] : List (Sy)))) (List.map eSy (([(Sy.mk ((⟨#[108, 105, 115, 116]⟩ : ByteArray)) (5)), (Sy.mk ((⟨#[110, 117, 109, 98, 101, 114]⟩ : ByteArray)) (2))] : List (Sy))))))], (languages_Lists_m1), [1]⟩ (by kernel_rfl) ?_
  obtain ⟨v3, hv3, h⟩ := Option.bind_eq_some_iff.1 h
  refine l_step (h_step (f := 65) (cap := []) (cs := [.one .keep, .one .keep, (.one (.sl 2))]) (keys := []) [] [(1, 2), (2, 3)] rfl (by kernel_rfl) (languages_begin_h_ok ((⟨#[108, 105, 115, 116, 115]⟩ : ByteArray)) (5) (([(Sy.mk ((⟨#[108, 105, 115, 116]⟩ : ByteArray)) (5)), (Sy.mk ((⟨#[110, 117, 109, 98, 101, 114]⟩ : ByteArray)) (2))] : List (Sy))) _ hv3) (by kernel_rfl) (by kernel_rfl) (by kernel_rfl) (by kernel_rfl)) (by kernel_rfl) (dst_of (by kernel_rfl)) ?_
  refine l_rk 1 tt_ok ⟨47, [(0, (.fz ((eL 1 eI) (a0)))), (2, (.ref 1 0 0)), (5, (.ref 2 0 0))], (languages_Lists_m0), [2, 3, 1]⟩ (by kernel_rfl) ?_
  refine l_nil ?_
  refine awp_seq ?_
  refine awp_region ?_
  refine l_rk 1 tt_ok ⟨47, [(0, (.fz ((eL 1 eI) (a0)))), (2, (.ref 1 0 0)), (5, (.ref 2 0 0)), (17, (.ref 2 0 0))], (languages_Lists_m0), [2, 3, 1]⟩ (by kernel_rfl) ?_
  obtain ⟨v4, hv4, h⟩ := Option.bind_eq_some_iff.1 h
  refine l_le (le_co (ids := [2, 3, 1]) (ts := [(0, .one .keep), (2, .one .keep), (5, .one .keep), (17, .one .keep)]) (os := [(1, []), (2, [.keep, .sl 1]), (3, [])]) (by kernel_rfl) : LeSt _ ⟨47, [(0, (.fz ((eL 1 eI) (a0)))), (2, (.ref 1 0 0)), (5, (.ref 2 0 0)), (17, (.ref 2 0 0))], [(1, (.box 27 [(fS ((⟨#[]⟩ : ByteArray))), (.fz (.atom (.slice none 0 0))), (.fz (.atom (.slice none 0 0))), (.fz (.atom (.slice none 0 0)))])), (2, (.box 83 [(fS (((⟨#[108, 105, 115, 116, 115]⟩ : ByteArray)))), (.fz ((eL 1 eI) (([(5)] : List (Int))))), (.fz ((eL 2 eSy) ((([(Sy.mk ((⟨#[108, 105, 115, 116]⟩ : ByteArray)) (5)), (Sy.mk ((⟨#[110, 117, 109, 98, 101, 114]⟩ : ByteArray)) (2))] : List (Sy)))))), (.row 3 (List.length (([] : List (Ru)))))])), (3, (.frow 67 9 (List.map eRu (([] : List (Ru))))))], [2, 3, 1]⟩) ?_
  refine l_step (h_step (f := 66) (cap := []) (cs := [.one .keep, .one .keep]) (keys := [1, 2]) [(2, 1), (3, 2)] [(1, 2), (2, 3)] rfl (by kernel_rfl) (languages_writer_input_h_ok (((⟨#[108, 105, 115, 116, 115]⟩ : ByteArray))) (([(5)] : List (Int))) ((([(Sy.mk ((⟨#[108, 105, 115, 116]⟩ : ByteArray)) (5)), (Sy.mk ((⟨#[110, 117, 109, 98, 101, 114]⟩ : ByteArray)) (2))] : List (Sy)))) (([] : List (Ru))) (0) _ hv4) (by kernel_rfl) (by kernel_rfl) (by kernel_rfl) (by kernel_rfl)) (by kernel_rfl) (dst_of (by kernel_rfl)) ?_
  refine l_nil ?_
  refine awp_seq ?_
  refine awp_region ?_
  refine l_rk 3 tt_ok ⟨47, [(0, (.fz ((eL 1 eI) (a0)))), (2, (.ref 1 0 0)), (5, (.ref 2 0 0)), (19, (.ref 2 0 0)), (20, (.lim 1 (List.length (([0, 1] : List (Int)))) (List.map eI (([0, 1] : List (Int)))))), (21, (.lim 1 (List.length (([(⟨#[116, 97, 107, 101]⟩ : ByteArray), (⟨#[100, 114, 111, 112]⟩ : ByteArray), (⟨#[115, 104, 105, 102, 116]⟩ : ByteArray), (⟨#[115, 99, 97, 108, 101]⟩ : ByteArray), (⟨#[97, 98, 111, 118, 101]⟩ : ByteArray)] : List (ByteArray)))) (List.map eS (([(⟨#[116, 97, 107, 101]⟩ : ByteArray), (⟨#[100, 114, 111, 112]⟩ : ByteArray), (⟨#[115, 104, 105, 102, 116]⟩ : ByteArray), (⟨#[115, 99, 97, 108, 101]⟩ : ByteArray), (⟨#[97, 98, 111, 118, 101]⟩ : ByteArray)] : List (ByteArray))))))], [(1, (.box 27 [(fS ((⟨#[]⟩ : ByteArray))), (.fz (.atom (.slice none 0 0))), (.fz (.atom (.slice none 0 0))), (.fz (.atom (.slice none 0 0)))])), (2, (.box 83 [(fS ((((⟨#[108, 105, 115, 116, 115]⟩ : ByteArray))))), (.fz ((eL 1 eI) ((([(5)] : List (Int)))))), (.fz ((eL 2 eSy) (((([(Sy.mk ((⟨#[108, 105, 115, 116]⟩ : ByteArray)) (5)), (Sy.mk ((⟨#[110, 117, 109, 98, 101, 114]⟩ : ByteArray)) (2))] : List (Sy))))))), (.row 3 (List.length (v4)))])), (3, (.frow 67 9 (List.map eRu (v4))))], [2, 3, 1]⟩ (by kernel_rfl) ?_
  obtain ⟨v5, hv5, h⟩ := Option.bind_eq_some_iff.1 h
  refine l_step (h_step (f := 68) (cap := []) (cs := [.one .keep, .one .keep, (.one (.sl 1)), (.one (.sl 1))]) (keys := [1, 2]) [(2, 1), (3, 2)] [(1, 2), (2, 3)] rfl (by kernel_rfl) (languages_writer_ops_h_ok ((((⟨#[108, 105, 115, 116, 115]⟩ : ByteArray)))) ((([(5)] : List (Int)))) (((([(Sy.mk ((⟨#[108, 105, 115, 116]⟩ : ByteArray)) (5)), (Sy.mk ((⟨#[110, 117, 109, 98, 101, 114]⟩ : ByteArray)) (2))] : List (Sy))))) (v4) (0) (([0, 1] : List (Int))) (([(⟨#[116, 97, 107, 101]⟩ : ByteArray), (⟨#[100, 114, 111, 112]⟩ : ByteArray), (⟨#[115, 104, 105, 102, 116]⟩ : ByteArray), (⟨#[115, 99, 97, 108, 101]⟩ : ByteArray), (⟨#[97, 98, 111, 118, 101]⟩ : ByteArray)] : List (ByteArray))) _ hv5) (by kernel_rfl) (by kernel_rfl) (by kernel_rfl) (by kernel_rfl)) (by kernel_rfl) (dst_of (by kernel_rfl)) ?_
  refine l_nil ?_
  refine awp_seq ?_
  refine awp_region ?_
  refine l_rk 3 tt_ok ⟨47, [(0, (.fz ((eL 1 eI) (a0)))), (2, (.ref 1 0 0)), (5, (.ref 2 0 0)), (23, (.ref 2 0 0)), (24, (.lim 1 (List.length (([0] : List (Int)))) (List.map eI (([0] : List (Int)))))), (25, (.lim 1 (List.length (([(⟨#[114, 101, 118, 101, 114, 115, 101]⟩ : ByteArray), (⟨#[115, 111, 114, 116]⟩ : ByteArray), (⟨#[117, 110, 105, 113, 117, 101]⟩ : ByteArray), (⟨#[101, 118, 101, 110]⟩ : ByteArray), (⟨#[114, 117, 110, 110, 105, 110, 103]⟩ : ByteArray)] : List (ByteArray)))) (List.map eS (([(⟨#[114, 101, 118, 101, 114, 115, 101]⟩ : ByteArray), (⟨#[115, 111, 114, 116]⟩ : ByteArray), (⟨#[117, 110, 105, 113, 117, 101]⟩ : ByteArray), (⟨#[101, 118, 101, 110]⟩ : ByteArray), (⟨#[114, 117, 110, 110, 105, 110, 103]⟩ : ByteArray)] : List (ByteArray))))))], [(1, (.box 27 [(fS ((⟨#[]⟩ : ByteArray))), (.fz (.atom (.slice none 0 0))), (.fz (.atom (.slice none 0 0))), (.fz (.atom (.slice none 0 0)))])), (2, (.box 83 [(fS (((((⟨#[108, 105, 115, 116, 115]⟩ : ByteArray)))))), (.fz ((eL 1 eI) (((([(5)] : List (Int))))))), (.fz ((eL 2 eSy) ((((([(Sy.mk ((⟨#[108, 105, 115, 116]⟩ : ByteArray)) (5)), (Sy.mk ((⟨#[110, 117, 109, 98, 101, 114]⟩ : ByteArray)) (2))] : List (Sy)))))))), (.row 3 (List.length (v5)))])), (3, (.frow 67 9 (List.map eRu (v5))))], [2, 3, 1]⟩ (by kernel_rfl) ?_
  obtain ⟨v6, hv6, h⟩ := Option.bind_eq_some_iff.1 h
  refine l_step (h_step (f := 68) (cap := []) (cs := [.one .keep, .one .keep, (.one (.sl 1)), (.one (.sl 1))]) (keys := [1, 2]) [(2, 1), (3, 2)] [(1, 2), (2, 3)] rfl (by kernel_rfl) (languages_writer_ops_h_ok (((((⟨#[108, 105, 115, 116, 115]⟩ : ByteArray))))) (((([(5)] : List (Int))))) ((((([(Sy.mk ((⟨#[108, 105, 115, 116]⟩ : ByteArray)) (5)), (Sy.mk ((⟨#[110, 117, 109, 98, 101, 114]⟩ : ByteArray)) (2))] : List (Sy)))))) (v5) (0) (([0] : List (Int))) (([(⟨#[114, 101, 118, 101, 114, 115, 101]⟩ : ByteArray), (⟨#[115, 111, 114, 116]⟩ : ByteArray), (⟨#[117, 110, 105, 113, 117, 101]⟩ : ByteArray), (⟨#[101, 118, 101, 110]⟩ : ByteArray), (⟨#[114, 117, 110, 110, 105, 110, 103]⟩ : ByteArray)] : List (ByteArray))) _ hv6) (by kernel_rfl) (by kernel_rfl) (by kernel_rfl) (by kernel_rfl)) (by kernel_rfl) (dst_of (by kernel_rfl)) ?_
  refine l_nil ?_
  refine awp_seq ?_
  refine awp_region ?_
  refine l_rk 3 tt_ok ⟨47, [(0, (.fz ((eL 1 eI) (a0)))), (2, (.ref 1 0 0)), (5, (.ref 2 0 0)), (27, (.ref 2 0 0)), (28, (.lim 1 (List.length (([0, 0] : List (Int)))) (List.map eI (([0, 0] : List (Int)))))), (29, (.lim 1 (List.length (([(⟨#[122, 105, 112]⟩ : ByteArray), (⟨#[97, 112, 112, 101, 110, 100]⟩ : ByteArray)] : List (ByteArray)))) (List.map eS (([(⟨#[122, 105, 112]⟩ : ByteArray), (⟨#[97, 112, 112, 101, 110, 100]⟩ : ByteArray)] : List (ByteArray))))))], [(1, (.box 27 [(fS ((⟨#[]⟩ : ByteArray))), (.fz (.atom (.slice none 0 0))), (.fz (.atom (.slice none 0 0))), (.fz (.atom (.slice none 0 0)))])), (2, (.box 83 [(fS ((((((⟨#[108, 105, 115, 116, 115]⟩ : ByteArray))))))), (.fz ((eL 1 eI) ((((([(5)] : List (Int)))))))), (.fz ((eL 2 eSy) (((((([(Sy.mk ((⟨#[108, 105, 115, 116]⟩ : ByteArray)) (5)), (Sy.mk ((⟨#[110, 117, 109, 98, 101, 114]⟩ : ByteArray)) (2))] : List (Sy))))))))), (.row 3 (List.length (v6)))])), (3, (.frow 67 9 (List.map eRu (v6))))], [2, 3, 1]⟩ (by kernel_rfl) ?_
  obtain ⟨v7, hv7, h⟩ := Option.bind_eq_some_iff.1 h
  refine l_step (h_step (f := 68) (cap := []) (cs := [.one .keep, .one .keep, (.one (.sl 1)), (.one (.sl 1))]) (keys := [1, 2]) [(2, 1), (3, 2)] [(1, 2), (2, 3)] rfl (by kernel_rfl) (languages_writer_ops_h_ok ((((((⟨#[108, 105, 115, 116, 115]⟩ : ByteArray)))))) ((((([(5)] : List (Int)))))) (((((([(Sy.mk ((⟨#[108, 105, 115, 116]⟩ : ByteArray)) (5)), (Sy.mk ((⟨#[110, 117, 109, 98, 101, 114]⟩ : ByteArray)) (2))] : List (Sy))))))) (v6) (0) (([0, 0] : List (Int))) (([(⟨#[122, 105, 112]⟩ : ByteArray), (⟨#[97, 112, 112, 101, 110, 100]⟩ : ByteArray)] : List (ByteArray))) _ hv7) (by kernel_rfl) (by kernel_rfl) (by kernel_rfl) (by kernel_rfl)) (by kernel_rfl) (dst_of (by kernel_rfl)) ?_
  refine l_nil ?_
  refine awp_seq ?_
  refine awp_region ?_
  refine l_rk 2 tt_ok ⟨47, [(2, (.ref 1 0 0)), (5, (.ref 2 0 0)), (31, (.ref 2 0 0)), (32, (.fz ((eL 1 eI) (a0))))], [(1, (.box 27 [(fS ((⟨#[]⟩ : ByteArray))), (.fz (.atom (.slice none 0 0))), (.fz (.atom (.slice none 0 0))), (.fz (.atom (.slice none 0 0)))])), (2, (.box 83 [(fS (((((((⟨#[108, 105, 115, 116, 115]⟩ : ByteArray)))))))), (.fz ((eL 1 eI) (((((([(5)] : List (Int))))))))), (.fz ((eL 2 eSy) ((((((([(Sy.mk ((⟨#[108, 105, 115, 116]⟩ : ByteArray)) (5)), (Sy.mk ((⟨#[110, 117, 109, 98, 101, 114]⟩ : ByteArray)) (2))] : List (Sy)))))))))), (.row 3 (List.length (v7)))])), (3, (.frow 67 9 (List.map eRu (v7))))], [2, 3, 1]⟩ (by kernel_rfl) ?_
  obtain ⟨v8, hv8, h⟩ := Option.bind_eq_some_iff.1 h
  refine l_step ((n_call (ys := [(eL 1 eI) (a0)]) (cs := [(.one (.sl 1))]) rfl (by kernel_rfl) (languages_integers_ok (a0) _ hv8)).step) (by kernel_rfl) (dst_of (by kernel_rfl)) ?_
  obtain ⟨v9, hv9, h⟩ := Option.bind_eq_some_iff.1 h
  refine l_step (h_step (f := 67) (cap := []) (cs := [.one .keep, .one .keep, .one .keep]) (keys := [1, 2]) [(2, 1), (3, 2)] [(1, 2), (2, 3)] rfl (by kernel_rfl) (languages_writer_constants_h_ok (((((((⟨#[108, 105, 115, 116, 115]⟩ : ByteArray))))))) (((((([(5)] : List (Int))))))) ((((((([(Sy.mk ((⟨#[108, 105, 115, 116]⟩ : ByteArray)) (5)), (Sy.mk ((⟨#[110, 117, 109, 98, 101, 114]⟩ : ByteArray)) (2))] : List (Sy)))))))) (v7) (1) (v8) _ hv9) (by kernel_rfl) (by kernel_rfl) (by kernel_rfl) (by kernel_rfl)) (by kernel_rfl) (dst_of (by kernel_rfl)) ?_
  refine l_nil ?_
  refine awp_seq ?_
  refine awp_region ?_
  refine l_rk 3 tt_ok ⟨47, [(2, (.ref 1 0 0)), (5, (.ref 2 0 0)), (35, (.ref 2 0 0)), (36, (.lim 1 (List.length (([0] : List (Int)))) (List.map eI (([0] : List (Int)))))), (37, (.lim 1 (List.length (([(⟨#[104, 101, 97, 100]⟩ : ByteArray), (⟨#[108, 97, 115, 116]⟩ : ByteArray), (⟨#[115, 117, 109]⟩ : ByteArray), (⟨#[109, 97, 120, 105, 109, 117, 109]⟩ : ByteArray), (⟨#[109, 105, 110, 105, 109, 117, 109]⟩ : ByteArray), (⟨#[108, 101, 110, 103, 116, 104]⟩ : ByteArray)] : List (ByteArray)))) (List.map eS (([(⟨#[104, 101, 97, 100]⟩ : ByteArray), (⟨#[108, 97, 115, 116]⟩ : ByteArray), (⟨#[115, 117, 109]⟩ : ByteArray), (⟨#[109, 97, 120, 105, 109, 117, 109]⟩ : ByteArray), (⟨#[109, 105, 110, 105, 109, 117, 109]⟩ : ByteArray), (⟨#[108, 101, 110, 103, 116, 104]⟩ : ByteArray)] : List (ByteArray))))))], [(1, (.box 27 [(fS ((⟨#[]⟩ : ByteArray))), (.fz (.atom (.slice none 0 0))), (.fz (.atom (.slice none 0 0))), (.fz (.atom (.slice none 0 0)))])), (2, (.box 83 [(fS ((((((((⟨#[108, 105, 115, 116, 115]⟩ : ByteArray))))))))), (.fz ((eL 1 eI) ((((((([(5)] : List (Int)))))))))), (.fz ((eL 2 eSy) (((((((([(Sy.mk ((⟨#[108, 105, 115, 116]⟩ : ByteArray)) (5)), (Sy.mk ((⟨#[110, 117, 109, 98, 101, 114]⟩ : ByteArray)) (2))] : List (Sy))))))))))), (.row 3 (List.length (v9)))])), (3, (.frow 67 9 (List.map eRu (v9))))], [2, 3, 1]⟩ (by kernel_rfl) ?_
  obtain ⟨v10, hv10, h⟩ := Option.bind_eq_some_iff.1 h
  refine l_step (h_step (f := 68) (cap := []) (cs := [.one .keep, .one .keep, (.one (.sl 1)), (.one (.sl 1))]) (keys := [1, 2]) [(2, 1), (3, 2)] [(1, 2), (2, 3)] rfl (by kernel_rfl) (languages_writer_ops_h_ok ((((((((⟨#[108, 105, 115, 116, 115]⟩ : ByteArray)))))))) ((((((([(5)] : List (Int)))))))) (((((((([(Sy.mk ((⟨#[108, 105, 115, 116]⟩ : ByteArray)) (5)), (Sy.mk ((⟨#[110, 117, 109, 98, 101, 114]⟩ : ByteArray)) (2))] : List (Sy))))))))) (v9) (1) (([0] : List (Int))) (([(⟨#[104, 101, 97, 100]⟩ : ByteArray), (⟨#[108, 97, 115, 116]⟩ : ByteArray), (⟨#[115, 117, 109]⟩ : ByteArray), (⟨#[109, 97, 120, 105, 109, 117, 109]⟩ : ByteArray), (⟨#[109, 105, 110, 105, 109, 117, 109]⟩ : ByteArray), (⟨#[108, 101, 110, 103, 116, 104]⟩ : ByteArray)] : List (ByteArray))) _ hv10) (by kernel_rfl) (by kernel_rfl) (by kernel_rfl) (by kernel_rfl)) (by kernel_rfl) (dst_of (by kernel_rfl)) ?_
  refine l_nil ?_
  refine awp_seq ?_
  refine awp_region ?_
  refine l_rk 3 tt_ok ⟨47, [(2, (.ref 1 0 0)), (5, (.ref 2 0 0)), (39, (.ref 2 0 0)), (40, (.lim 1 (List.length (([0, 1] : List (Int)))) (List.map eI (([0, 1] : List (Int)))))), (41, (.lim 1 (List.length (([(⟨#[101, 108, 101, 109, 101, 110, 116]⟩ : ByteArray), (⟨#[99, 111, 117, 110, 116]⟩ : ByteArray)] : List (ByteArray)))) (List.map eS (([(⟨#[101, 108, 101, 109, 101, 110, 116]⟩ : ByteArray), (⟨#[99, 111, 117, 110, 116]⟩ : ByteArray)] : List (ByteArray))))))], [(1, (.box 27 [(fS ((⟨#[]⟩ : ByteArray))), (.fz (.atom (.slice none 0 0))), (.fz (.atom (.slice none 0 0))), (.fz (.atom (.slice none 0 0)))])), (2, (.box 83 [(fS (((((((((⟨#[108, 105, 115, 116, 115]⟩ : ByteArray)))))))))), (.fz ((eL 1 eI) (((((((([(5)] : List (Int))))))))))), (.fz ((eL 2 eSy) ((((((((([(Sy.mk ((⟨#[108, 105, 115, 116]⟩ : ByteArray)) (5)), (Sy.mk ((⟨#[110, 117, 109, 98, 101, 114]⟩ : ByteArray)) (2))] : List (Sy)))))))))))), (.row 3 (List.length (v10)))])), (3, (.frow 67 9 (List.map eRu (v10))))], [2, 3, 1]⟩ (by kernel_rfl) ?_
  obtain ⟨v11, hv11, h⟩ := Option.bind_eq_some_iff.1 h
  refine l_step (h_step (f := 68) (cap := []) (cs := [.one .keep, .one .keep, (.one (.sl 1)), (.one (.sl 1))]) (keys := [1, 2]) [(2, 1), (3, 2)] [(1, 2), (2, 3)] rfl (by kernel_rfl) (languages_writer_ops_h_ok (((((((((⟨#[108, 105, 115, 116, 115]⟩ : ByteArray))))))))) (((((((([(5)] : List (Int))))))))) ((((((((([(Sy.mk ((⟨#[108, 105, 115, 116]⟩ : ByteArray)) (5)), (Sy.mk ((⟨#[110, 117, 109, 98, 101, 114]⟩ : ByteArray)) (2))] : List (Sy)))))))))) (v10) (1) (([0, 1] : List (Int))) (([(⟨#[101, 108, 101, 109, 101, 110, 116]⟩ : ByteArray), (⟨#[99, 111, 117, 110, 116]⟩ : ByteArray)] : List (ByteArray))) _ hv11) (by kernel_rfl) (by kernel_rfl) (by kernel_rfl) (by kernel_rfl)) (by kernel_rfl) (dst_of (by kernel_rfl)) ?_
  refine l_nil ?_
  refine awp_seq ?_
  refine awp_region ?_
  refine l_rk 6 tt_ok ⟨47, [(2, (.ref 1 0 0)), (3, (fI (0)))], [(1, (.box 27 [(fS ((((((((((⟨#[108, 105, 115, 116, 115]⟩ : ByteArray))))))))))), (.fz ((eL 1 eI) ((((((((([(5)] : List (Int)))))))))))), (.fz ((eL 2 eSy) (((((((((([(Sy.mk ((⟨#[108, 105, 115, 116]⟩ : ByteArray)) (5)), (Sy.mk ((⟨#[110, 117, 109, 98, 101, 114]⟩ : ByteArray)) (2))] : List (Sy))))))))))))), (.row 3 (List.length (v11)))])), (3, (.frow 67 9 (List.map eRu (v11))))], [3, 1]⟩ (by kernel_rfl) ?_
  refine l_nil ?_
  refine awp_le (le_freezeCell (e2 := 27) (id2 := 1) (j := 3) (id := 3) (n := List.length (v11)) (e := 67) (size := 9) (xs := List.map eRu (v11)) (cells := [(fS ((((((((((⟨#[108, 105, 115, 116, 115]⟩ : ByteArray))))))))))), (.fz ((eL 1 eI) ((((((((([(5)] : List (Int)))))))))))), (.fz ((eL 2 eSy) (((((((((([(Sy.mk ((⟨#[108, 105, 115, 116]⟩ : ByteArray)) (5)), (Sy.mk ((⟨#[110, 117, 109, 98, 101, 114]⟩ : ByteArray)) (2))] : List (Sy))))))))))))), (.row 3 (List.length (v11)))]) (by kernel_rfl) (by kernel_rfl) (by kernel_rfl) (by simp)) ?_
  refine awp_ret ?_
  obtain rfl := Option.some.inj h
  exact (show retX _ _ _ _ = some _ from by kernel_rfl)

def value_OfBits (a0 : Int) : Option (Va) := (some (Va.mk (4) (a0) ((⟨#[]⟩ : ByteArray)) (([] : List Va))))
theorem value_OfBits_ok (a0 : Int) (r : Va) (h : value_OfBits a0 = some r) : PCall Try.prog 81 [eI a0] (eVa (r)) := by
 unfold value_OfBits at h
 refine pcall_intro (T := TT) tt_ok [.ag [.keep, .keep, .keep, .sl 4]] Try.func81 rfl (by kernel_rfl) (by kernel_rfl) ?_
 refine awp_le (st' := ⟨5, [(0, (fI (a0)))], [], []⟩) (le_ck (by kernel_rfl)) ?_
 refine awp_seq ?_
 refine awp_region ?_
 refine l_rk 1 tt_ok ⟨5, [(0, (fI (a0))), (2, (.ref 1 0 0))], [(1, (.box 65 [(fI (0)), (fI (0)), (fS ((⟨#[]⟩ : ByteArray))), (.fz (.atom (.slice none 0 0)))]))], [1]⟩ (by kernel_rfl) ?_
 refine l_nil ?_
 refine awp_seq ?_
 refine awp_region ?_
 refine l_rk 3 tt_ok ⟨5, [(2, (.ref 1 0 0))], [(1, (.box 65 [(fI (4)), (fI (a0)), (fS ((⟨#[]⟩ : ByteArray))), (.fz (.atom (.slice none 0 0)))]))], [1]⟩ (by kernel_rfl) ?_
 refine l_nil ?_
 refine awp_ret ?_
 obtain rfl := Option.some.inj h
 exact (show retX _ _ _ _ = some _ from by kernel_rfl)
end Go.Proofs.Ytaeicmnimjfbaaa
