/- Typed programs and what computes them. -/
import Derived.Test.YtijkipikefpopaaDoorZ0
set_option linter.unusedVariables false
set_option linter.unusedSimpArgs false
set_option maxRecDepth 100000
namespace Go.Proofs.YtijkipikefpopaaDoor
open Go Go.RowKit Go.Proofs
attribute [local irreducible] NStep StepA EStep LeSt
structure S_literal_reader where
  f_s : ByteArray
  f_at : Int
def literal_reader_peek_h (a0 : S_literal_reader) : Option ((Int)) := (bif (decide (a0.f_at < (a0.f_s.size : Int))) then (Option.bind (byt a0.f_s a0.f_at) fun v1 => (some (v1))) else (some (0)))
theorem literal_reader_peek_h_ok (a0 : S_literal_reader) (r : (Int)) (h : literal_reader_peek_h a0 = some r) : HCall Tryd.prog 39 ([(.ref 1 0 0)] ++ []) [(1, (.box 49 [(fS (a0.f_s)), (fI (a0.f_at))]))] [1] (.ret (.fz (eU8 (r)))) [(1, (.box 49 [(fS (a0.f_s)), (fI (a0.f_at))]))] [1] := by
 unfold literal_reader_peek_h at h
 refine hcx (gi := 0) Tryd.func39 (by kernel_rfl) (by kernel_rfl) (by kernel_rfl) (by kernel_rfl) (by kernel_rfl) (by kernel_rfl) (by kernel_rfl) (by kernel_rfl) ?_
 intro p0 q0 w0
 refine dw 6 9 (by kernel_rfl) ?_
 refine cd 12 h (by kernel_rfl) (fun h => ?_) fun h => ?_
 ·refine dw 1 8 (by kernel_rfl) ?_
  refine byx 9 h (by kernel_rfl) fun v1 h => ?_
  obtain rfl := Option.some.inj h; exact lh 3 ⟨22, [(2, (.fz (eU8 (v1))))], [(0, (.was p0 [1] q0 w0)), (1, (.box 49 [(fS (a0.f_s)), (fI (a0.f_at))]))], [0, 1], []⟩ (le_a (by kernel_rfl)) rfl rfl (by kernel_rfl) (by kernel_rfl)
 obtain rfl := Option.some.inj h; exact lh 6 ⟨22, [(2, (.fz (eU8 (0))))], [(0, (.was p0 [1] q0 w0)), (1, (.box 49 [(fS (a0.f_s)), (fI (a0.f_at))]))], [0, 1], []⟩ (le_a (by kernel_rfl)) rfl rfl (by kernel_rfl) (by kernel_rfl)

def literal_reader_word_h_l1 (a0 : S_literal_reader) (a1 : ByteArray) (v1 : (Int) × (Int)) : Option (((Int) × (Int)) ⊕ ((((Int)) ⊕ ((Int))))) := (bif (decide (v1.1 < (a1.size : Int))) then (Option.bind ((bif (decide ((a0.f_s.size : Int) ≤ v1.2)) then (some (true)) else (Option.bind (byt a0.f_s v1.2) fun v2 => (Option.bind (byt a1 v1.1) fun v3 => (some ((v2 != v3)))))) : Option ((Bool))) fun (v5 : (Bool)) => (bif v5 then (some (.inr (.inr (v1.2)))) else (some (.inl ((w64 (v1.1 + 1)), (w64 (v1.2 + 1))))))) else (some (.inr (.inl (v1.2)))))
def literal_reader_word_h (a0 : S_literal_reader) (a1 : ByteArray) : Option ((Bool) × (Int)) := (Option.bind (loopN (literal_reader_word_h_l1 a0 a1) fuel (0, a0.f_at)) fun (v6 : (((Int)) ⊕ ((Int)))) => Sum.elim (fun v7 => (some (true, v7))) (fun v8 => (some (false, v8))) v6)
theorem literal_reader_word_h_ok (a0 : S_literal_reader) (a1 : ByteArray) (r : (Bool) × (Int)) (h : literal_reader_word_h a0 a1 = some r) : HCall Tryd.prog 37 ([(.ref 1 0 0), (fS (a1))] ++ []) [(1, (.box 49 [(fS (a0.f_s)), (fI (a0.f_at))]))] [1] (.ret (fB (r.1))) [(1, (.box 49 [(fS (a0.f_s)), (fI (r.2))]))] [1] := by
 unfold literal_reader_word_h at h
 refine hcx (gi := 0) Tryd.func37 (by kernel_rfl) (by kernel_rfl) (by kernel_rfl) (by kernel_rfl) (by kernel_rfl) (by kernel_rfl) (by kernel_rfl) (by kernel_rfl) ?_
 intro p0 q0 w0
 refine lpx 12 (fun v1 => ⟨44, [(0, (.ref 1 0 0)), (1, (fS (a1))), (7, (fI ((a1.size : Int)))), (8, (fI (v1.1)))], [(0, (.was p0 [1] q0 w0)), (1, (.box 49 [(fS (a0.f_s)), (fI (v1.2))]))], [0, 1], []⟩) (fun v6 e st => Sum.elim (fun p => e = .exit 0 ∧ LeSt st ⟨44, [], [(0, (.was p0 [1] q0 w0)), (1, (.box 49 [(fS (a0.f_s)), (fI (p))]))], [0, 1], []⟩) (fun p => e = .ret ∧ LeSt st ⟨44, [(4, (fB (false)))], [(0, (.was p0 [1] q0 w0)), (1, (.box 49 [(fS (a0.f_s)), (fI (p))]))], [0, 1], []⟩) v6) h (by kernel_rfl) (le_a (by kernel_rfl)) (fun v1 r h => ?_) fun v6 h e st' hq => ?_
 ·unfold literal_reader_word_h_l1 at h
  refine cd 5 h (by kernel_rfl) (fun h => ?_) fun h => ?_
  ·refine jn1 10 .normal (fun v5 => ⟨44, [(0, (.ref 1 0 0)), (1, (fS (a1))), (7, (fI ((a1.size : Int)))), (8, (fI (v1.1))), (35, (fB (v5)))], [(0, (.was p0 [1] q0 w0)), (1, (.box 49 [(fS (a0.f_s)), (fI (v1.2))]))], [0, 1], []⟩) h (by kernel_rfl) (fun v5 h => ?_) fun v5 h => ?_
   ·refine dw 0 23 (by kernel_rfl) ?_
    refine gd 11 h (by kernel_rfl) (fun h => ?_) fun h => ?_
    ·cases h; exact lj 16 (by kernel_rfl)
    refine byx 8 h (by kernel_rfl) fun v2 h => ?_
    refine byx 2 h (by kernel_rfl) fun v3 h => ?_
    cases h; exact lj 4 (by kernel_rfl)
   refine cd 0 h (by kernel_rfl) (fun h => ?_) fun h => ?_
   ·cases h; exact lo 5 (by kernel_rfl)
   cases h; exact lj 15 (by kernel_rfl)
  cases h; exact lo 1 (by kernel_rfl)
 rcases v6 with v7 | v8
 ·try simp only [Sum.elim_inl, Sum.elim_inr] at h
  obtain ⟨rfl, hle⟩ := hq
  refine ⟨_, hle, ?_⟩
  obtain rfl := Option.some.inj h; exact lh 5 ⟨44, [(4, (fB (true)))], [(0, (.was p0 [1] q0 w0)), (1, (.box 49 [(fS (a0.f_s)), (fI (v7))]))], [0, 1], []⟩ (le_a (by kernel_rfl)) rfl rfl (by kernel_rfl) (by kernel_rfl)
 ·try simp only [Sum.elim_inl, Sum.elim_inr] at h
  obtain ⟨rfl, hle⟩ := hq
  refine ⟨_, hle, ?_⟩
  obtain rfl := Option.some.inj h; exact lh 0 ⟨44, [(4, (fB (false)))], [(0, (.was p0 [1] q0 w0)), (1, (.box 49 [(fS (a0.f_s)), (fI (v8))]))], [0, 1], []⟩ (le_a (by kernel_rfl)) rfl rfl (by kernel_rfl) (by kernel_rfl)

def strings_Builder_Len_h (a0 : List Int) : Option (Unit) := (some ())
theorem strings_Builder_Len_h_ok (a0 : List Int) (r : Unit) (h : strings_Builder_Len_h a0 = some r) : HCall Tryd.prog 76 ([(.ref 1 0 0)] ++ []) [(1, (.box 58 [(.opt 1), (.row 2 (List.length (a0)))])), (2, (.frow 5 1 (List.map eU8 (a0))))] [1, 2] (.ret (fI ((List.length (a0) : Int)))) [(1, (.box 58 [(.opt 1), (.row 2 (List.length (a0)))])), (2, (.frow 5 1 (List.map eU8 (a0))))] [1, 2] := by
 unfold strings_Builder_Len_h at h
 refine hcx (gi := 0) Tryd.func76 (by kernel_rfl) (by kernel_rfl) (by kernel_rfl) (by kernel_rfl) (by kernel_rfl) (by kernel_rfl) (by kernel_rfl) (by kernel_rfl) ?_
 intro p0 q0 w0
 refine nst 10 (n_len_row (t := 56) (x := (.tmp 6)) (d := tt56) (id := 2) (e2 := 5) (e := 5) (size := 1) (n := List.length (a0)) (xs := List.map eU8 (a0)) tt_ok (by kernel_rfl) (by kernel_rfl) rfl (by kernel_rfl) (by kernel_rfl) (by simp)) (by kernel_rfl) ?_
 obtain rfl := Option.some.inj h; exact lh 3 ⟨8, [(2, (fI ((List.length (a0) : Int))))], [(0, (.was p0 [1, 2] q0 w0)), (1, (.box 58 [(.opt 1), (.row 2 (List.length (a0)))])), (2, (.frow 5 1 (List.map eU8 (a0))))], [0, 1, 2], []⟩ (le_a (by kernel_rfl)) rfl rfl (by kernel_rfl) (by kernel_rfl)

def strings_Builder_String_h (a0 : List Int) : Option (Unit) := (some ())
theorem strings_Builder_String_h_ok (a0 : List Int) (r : Unit) (h : strings_Builder_String_h a0 = some r) : HCall Tryd.prog 35 ([(.ref 1 0 0)] ++ []) [(1, (.box 58 [(.opt 1), (.row 2 (List.length (a0)))])), (2, (.frow 5 1 (List.map eU8 (a0))))] [1, 2] (.ret (fS ((toBA a0)))) [(1, (.box 58 [(.opt 1), (.row 2 0)]))] [1, 2] := by
 unfold strings_Builder_String_h at h
 refine hcx (gi := 0) Tryd.func35 (by kernel_rfl) (by kernel_rfl) (by kernel_rfl) (by kernel_rfl) (by kernel_rfl) (by kernel_rfl) (by kernel_rfl) (by kernel_rfl) ?_
 intro p0 q0 w0
 refine dw 5 10 (by kernel_rfl) ?_
 refine nst 4 (n_sliceData (x := (.tmp 6)) (ts := #[56]) (id := 2) (e' := 5) (e := 5) (size := 1) (n := List.length (a0)) (xs := List.map eU8 (a0)) (by kernel_rfl) (by kernel_rfl) (by kernel_rfl) (by kernel_rfl) (by simp)) (by kernel_rfl) ?_
 refine nst 4 (n_len_row (t := 56) (x := (.tmp 11)) (d := tt56) (id := 2) (e2 := 5) (e := 5) (size := 1) (n := List.length (a0)) (xs := List.map eU8 (a0)) tt_ok (by kernel_rfl) (by kernel_rfl) rfl (by kernel_rfl) (by kernel_rfl) (by simp)) (by kernel_rfl) ?_
 refine sst 1 (s_unsafeString (x := (.tmp 7)) (y := (.tmp 12)) (pt := 98) (it := 3) (e := 5) (id := 2) (xs := a0) (by kernel_rfl) (by kernel_rfl) (by kernel_rfl) (by kernel_rfl) (by kernel_rfl) rfl (by kernel_rfl)) (by kernel_rfl) ?_
 refine wle 0 ((le_co (ids := [0, 1, 2]) (ts := [(12, .one .keep), (13, .one .keep)]) (os := [(0, []), (1, [.keep, .zr])]) (by kernel_rfl) : LeSt _ ⟨14, [(12, (fI ((List.length (a0) : Int)))), (13, (fS ((toBA a0))))], [(0, (.was p0 [1, 2] q0 w0)), (1, (.box 58 [(.opt 1), (.row 2 0)]))], [0, 1, 2], []⟩)) (by kernel_rfl) ?_
 obtain rfl := Option.some.inj h; exact lh 3 ⟨14, [(2, (fS ((toBA a0))))], [(0, (.was p0 [1, 2] q0 w0)), (1, (.box 58 [(.opt 1), (.row 2 0)]))], [0, 1, 2], []⟩ (le_a (by kernel_rfl)) rfl rfl (by kernel_rfl) (by kernel_rfl)

def strings_Builder_copyCheck_h (a0 : List Int) : Option (Unit) := (some ())
theorem strings_Builder_copyCheck_h_ok (a0 : List Int) (r : Unit) (h : strings_Builder_copyCheck_h a0 = some r) : HCall Tryd.prog 74 ([(.ref 1 0 0)] ++ []) [(1, (.box 58 [(.opt 1), (.row 2 (List.length (a0)))])), (2, (.frow 5 1 (List.map eU8 (a0))))] [1, 2] (.ret (.fz (.tup []))) [(1, (.box 58 [(.opt 1), (.row 2 (List.length (a0)))])), (2, (.frow 5 1 (List.map eU8 (a0))))] [1, 2] := by
 unfold strings_Builder_copyCheck_h at h
 refine hcx (gi := 0) Tryd.func74 (by kernel_rfl) (by kernel_rfl) (by kernel_rfl) (by kernel_rfl) (by kernel_rfl) (by kernel_rfl) (by kernel_rfl) (by kernel_rfl) ?_
 intro p0 q0 w0
 refine opc 0 (id := 1) (e := 58) (cells := [(.row 2 (List.length (a0)))]) (by kernel_rfl) (by kernel_rfl) ?_ ?_
 ·refine nst 6 (n_nilnil (t := 55) (x := (.tmp 5)) (y := (.const (.pointer none))) (yt := 55) (te := 58) false (by kernel_rfl) (by kernel_rfl) (by kernel_rfl) (by kernel_rfl)) (by kernel_rfl) ?_
  refine nst 5 (n_tounsafe (src := 55) (t := 106) (x := (.tmp 8)) (te := 58) (id := 1) (j := Tryd.t58) (e := 58) (cells := [(.fz (.atom (.pointer none))), (.row 2 (List.length (a0)))]) (by kernel_rfl) (by kernel_rfl) (by kernel_rfl) (by kernel_rfl) (by kernel_rfl) (by kernel_rfl) (by kernel_rfl) (by kernel_rfl)) (by kernel_rfl) ?_
  refine nst 0 (n_noescape (f := 84) (ts := #[106]) (X := (.tmp 9)) (fn := Tryd.f84) (by kernel_rfl) Tryd.func84 (by kernel_rfl) (by kernel_rfl) (by kernel_rfl) (by kernel_rfl)) (by kernel_rfl) ?_
  refine nst 0 (n_fromunsafe (src := 106) (t := 55) (x := (.tmp 10)) (u := 58) (id := 1) (j := Tryd.t58) (e := 58) (cells := [(.fz (.atom (.pointer none))), (.row 2 (List.length (a0)))]) (by kernel_rfl) (by kernel_rfl) (by kernel_rfl) (by kernel_rfl) (by kernel_rfl) (by kernel_rfl) (by kernel_rfl)) (by kernel_rfl) ?_
  obtain rfl := Option.some.inj h; exact lh 4 ⟨20, [], [(0, (.was p0 [1, 2] q0 w0)), (1, (.box 58 [(.opt 1), (.row 2 (List.length (a0)))])), (2, (.frow 5 1 (List.map eU8 (a0))))], [0, 1, 2], []⟩ (LeSt.trans (le_optcell (id := 1) (e2 := 58) (cells := [(.ref 1 0 0), (.row 2 (List.length (a0)))]) (cells' := [.opt 1, (.row 2 (List.length (a0)))]) (by kernel_rfl) (by kernel_rfl)) (le_a (by kernel_rfl))) rfl rfl (by kernel_rfl) (by kernel_rfl)
 ·refine nst 6 (n_ptrnil (t := 55) (x := (.tmp 5)) (y := (.const (.pointer none))) (yt := 55) (te := 58) (id := 1) (off := 0) (e := 58) (cells := [(.ref 1 0 0), (.row 2 (List.length (a0)))]) false (by kernel_rfl) (by kernel_rfl) (by kernel_rfl) (by kernel_rfl) (by kernel_rfl)) (by kernel_rfl) ?_
  refine nst 9 (n_ptrsame (t := 55) (x := (.tmp 17)) (y := (.tmp 18)) (yt := 55) (te := 58) (id := 1) (off := 0) (j := Tryd.t58) (e := 58) (cells := [(.ref 1 0 0), (.row 2 (List.length (a0)))]) true (by kernel_rfl) (by kernel_rfl) (by kernel_rfl) (by kernel_rfl) (by kernel_rfl) (by kernel_rfl)) (by kernel_rfl) ?_
  obtain rfl := Option.some.inj h; exact lh 3 ⟨20, [], [(0, (.was p0 [1, 2] q0 w0)), (1, (.box 58 [(.opt 1), (.row 2 (List.length (a0)))])), (2, (.frow 5 1 (List.map eU8 (a0))))], [0, 1, 2], []⟩ (LeSt.trans (le_optcell (id := 1) (e2 := 58) (cells := [(.ref 1 0 0), (.row 2 (List.length (a0)))]) (cells' := [.opt 1, (.row 2 (List.length (a0)))]) (by kernel_rfl) (by kernel_rfl)) (le_a (by kernel_rfl))) rfl rfl (by kernel_rfl) (by kernel_rfl)

def strings_Builder_WriteByte_h (a0 : List Int) (a1 : Int) : Option ((List Int)) := (Option.bind (strings_Builder_copyCheck_h (a0)) fun v1 => (Option.bind (app 1 a0 ([a1] : List (Int))) fun v2 => (some (v2))))
theorem strings_Builder_WriteByte_h_ok (a0 : List Int) (a1 : Int) (r : (List Int)) (h : strings_Builder_WriteByte_h a0 a1 = some r) : HCall Tryd.prog 42 ([(.ref 1 0 0), (.fz (eU8 (a1)))] ++ []) [(1, (.box 58 [(.opt 1), (.row 2 (List.length (a0)))])), (2, (.frow 5 1 (List.map eU8 (a0))))] [1, 2] (.ret (.fz (.atom .nilIface))) [(1, (.box 58 [(.opt 1), (.row 2 (List.length (r)))])), (2, (.frow 5 1 (List.map eU8 (r))))] [1, 2] := by
 unfold strings_Builder_WriteByte_h at h
 refine hcx (gi := 0) Tryd.func42 (by kernel_rfl) (by kernel_rfl) (by kernel_rfl) (by kernel_rfl) (by kernel_rfl) (by kernel_rfl) (by kernel_rfl) (by kernel_rfl) ?_
 intro p0 q0 w0
 refine hcl 7 [.one .keep] [(1, 1), (2, 2)] [(1, 1), (2, 2)] [1, 2] h (strings_Builder_copyCheck_h_ok _) (fun _ => by kernel_rfl) fun v1 h => ?_
 refine ap nU8 10 h (by kernel_rfl) fun v2 h => ?_
 obtain rfl := Option.some.inj h; exact lh 9 ⟨17, [(4, (.fz (.atom .nilIface)))], [(0, (.was p0 [1, 2] q0 w0)), (1, (.box 58 [(.opt 1), (.row 2 (List.length (v2)))])), (2, (.frow 5 1 (List.map eU8 (v2))))], [0, 1, 2], []⟩ (le_a (by kernel_rfl)) rfl rfl (by kernel_rfl) (by kernel_rfl)

def literal_reader_text_h_m0 (p0 : Env) (q0 : Nat → Prop) (w0 : World) (a0 : S_literal_reader) (v2 : (Int) × (List Int)) : List (Nat × AObj) := [(0, (.was p0 [1] q0 w0)), (1, (.box 49 [(fS (a0.f_s)), (fI (v2.1))])), (2, (.box 58 [(.opt 2), (.row 3 (List.length (v2.2)))])), (3, (.frow 5 1 (List.map eU8 (v2.2))))]
def literal_reader_text_h_l1 (a0 : S_literal_reader) (a1 : Int) (a2 : Int) (v2 : (Int) × (List Int)) : Option (((Int) × (List Int)) ⊕ ((((Int)) ⊕ ((ByteArray) × (Bool) × (Int))))) := (bif (decide (v2.1 < (a0.f_s.size : Int))) then (Option.bind (byt a0.f_s v2.1) fun v3 => (Option.bind ((Option.bind ((bif (v3 == 34) then (Option.bind (strings_Builder_Len_h (v2.2)) fun v4 => (some ((decide (a1 ≤ (List.length ((v2.2)) : Int)))))) else (some (false))) : Option ((Bool))) fun (v6 : (Bool)) => (bif v6 then (Option.bind (strings_Builder_String_h (v2.2)) fun v7 => (some (.inr ((toBA (v2.2)), true, (w64 (v2.1 + 1)))))) else (Option.bind ((bif (v3 == 34) then (some (true)) else (Option.bind (strings_Builder_Len_h (v2.2)) fun v8 => (bif ((List.length ((v2.2)) : Int) == a2) then (some (true)) else (Option.bind (literal_plain ((IntKind.i32.wrap v3))) fun v9 => (some ((!v9))))))) : Option ((Bool))) fun (v11 : (Bool)) => (bif v11 then (some (.inr ((⟨#[]⟩ : ByteArray), false, v2.1))) else (bif (v3 == 92) then (Option.bind (literal_reader_peek_h ((S_literal_reader.mk (a0.f_s) ((w64 (v2.1 + 1)))))) fun v12 => (Option.bind ((bif (v12 != 34) then (some ((v12 != 92))) else (some (false))) : Option ((Bool))) fun (v14 : (Bool)) => (bif v14 then (some (.inr ((⟨#[]⟩ : ByteArray), false, (w64 (v2.1 + 1))))) else (some (.inl (v12, (w64 (v2.1 + 1)))))))) else (some (.inl (v3, v2.1)))))))) : Option ((((Int) × (Int)) ⊕ ((ByteArray) × (Bool) × (Int))))) fun (v15 : (((Int) × (Int)) ⊕ ((ByteArray) × (Bool) × (Int)))) => Sum.elim (fun v16 => (Option.bind (strings_Builder_WriteByte_h (v2.2) (v16.1)) fun v17 => (some (.inl ((w64 (v16.2 + 1)), v17))))) (fun v18 => (some (.inr (.inr (v18.1, v18.2.1, v18.2.2))))) v15)) else (some (.inr (.inl (v2.1)))))
def literal_reader_text_h (a0 : S_literal_reader) (a1 : Int) (a2 : Int) : Option ((ByteArray) × (Bool) × (Int)) := (Option.bind (literal_reader_word_h (a0) ((⟨#[34]⟩ : ByteArray))) fun v1 => (bif (!v1.1) then (some ((⟨#[]⟩ : ByteArray), false, v1.2)) else (Option.bind (loopN (literal_reader_text_h_l1 a0 a1 a2) fuel (v1.2, ([] : List (Int)))) fun (v19 : (((Int)) ⊕ ((ByteArray) × (Bool) × (Int)))) => Sum.elim (fun v20 => (some ((⟨#[]⟩ : ByteArray), false, v20))) (fun v21 => (some (v21.1, v21.2.1, v21.2.2))) v19)))
theorem literal_reader_text_h_ok (a0 : S_literal_reader) (a1 : Int) (a2 : Int) (r : (ByteArray) × (Bool) × (Int)) (h : literal_reader_text_h a0 a1 a2 = some r) : HCall Tryd.prog 53 ([(.ref 1 0 0), (fI (a1)), (fI (a2))] ++ []) [(1, (.box 49 [(fS (a0.f_s)), (fI (a0.f_at))]))] [1] (.ret (.fz (.tup [(eS (r.1)), (eB (r.2.1))]))) [(1, (.box 49 [(fS (a0.f_s)), (fI (r.2.2))]))] [1] := by
 unfold literal_reader_text_h at h
 refine hcx (gi := 0) Tryd.func53 (by kernel_rfl) (by kernel_rfl) (by kernel_rfl) (by kernel_rfl) (by kernel_rfl) (by kernel_rfl) (by kernel_rfl) (by kernel_rfl) ?_
 intro p0 q0 w0
 refine hcl 9 [.one .keep, .one .keep] [(1, 1)] [(1, 1)] [1] h (literal_reader_word_h_ok _ _) (fun _ => by kernel_rfl) fun v1 h => ?_
 refine cd 2 h (by kernel_rfl) (fun h => ?_) fun h => ?_
 ·obtain rfl := Option.some.inj h; exact lh 6 ⟨89, [(6, (fS ((⟨#[]⟩ : ByteArray)))), (7, (fB (false)))], [(0, (.was p0 [1] q0 w0)), (1, (.box 49 [(fS (a0.f_s)), (fI (v1.2))]))], [0, 1], []⟩ (le_a (by kernel_rfl)) rfl rfl (by kernel_rfl) (by kernel_rfl)
 refine wle 4 (le_nilcell (e := 5) (size := 1) (id2 := 2) (j := 1) (id := 3) (e2 := 58) (cells := [(.fz (.atom (.pointer none))), (.fz (.atom (.slice none 0 0)))]) (by kernel_rfl) (by kernel_rfl) (by kernel_rfl) (by kernel_rfl)) (by kernel_rfl) ?_
 refine wle 0 (le_optcell (id := 2) (e2 := 58) (cells := [(.fz (.atom (.pointer none))), (.row 3 (List.length (([] : List (Int)))))]) (cells' := [.opt 2, (.row 3 (List.length (([] : List (Int)))))]) (by kernel_rfl) (by kernel_rfl)) (by kernel_rfl) ?_
 refine lpx 3 (fun v2 => ⟨89, [(0, (.ref 1 0 0)), (1, (fI (a1))), (2, (fI (a2))), (8, (.ref 2 0 0))], (literal_reader_text_h_m0 p0 q0 w0 a0 v2), [3, 2, 0, 1], []⟩) (fun v19 e st => Sum.elim (fun p => e = .exit 0 ∧ LeSt st ⟨89, [], [(0, (.was p0 [1] q0 w0)), (1, (.box 49 [(fS (a0.f_s)), (fI (p))]))], [0, 1], []⟩) (fun p => e = .ret ∧ LeSt st ⟨89, [(6, (fS (p.1))), (7, (fB (p.2.1)))], [(0, (.was p0 [1] q0 w0)), (1, (.box 49 [(fS (a0.f_s)), (fI (p.2.2))]))], [0, 1], []⟩) v19) h (by kernel_rfl) (le_a (by kernel_rfl)) (fun v2 r h => ?_) fun v19 h e st' hq => ?_
 ·unfold literal_reader_text_h_l1 at h
  refine dw 2 9 (by kernel_rfl) ?_
  refine cd 12 h (by kernel_rfl) (fun h => ?_) fun h => ?_
  ·refine dw 3 8 (by kernel_rfl) ?_
   refine byx 9 h (by kernel_rfl) fun v3 h => ?_
   refine jnQ 4 (fun v15 e st => Sum.elim (fun p => e = .normal ∧ LeSt st ⟨89, [(0, (.ref 1 0 0)), (1, (fI (a1))), (2, (fI (a2))), (8, (.ref 2 0 0)), (9, (.fz (eU8 (p.1))))], [(0, (.was p0 [1] q0 w0)), (1, (.box 49 [(fS (a0.f_s)), (fI (p.2))])), (2, (.box 58 [(.opt 2), (.row 3 (List.length (v2.2)))])), (3, (.frow 5 1 (List.map eU8 (v2.2))))], [3, 2, 0, 1], []⟩) (fun p => e = .ret ∧ LeSt st ⟨89, [(6, (fS (p.1))), (7, (fB (p.2.1)))], [(0, (.was p0 [1] q0 w0)), (1, (.box 49 [(fS (a0.f_s)), (fI (p.2.2))]))], [0, 1], []⟩) v15) h (by kernel_rfl) (fun v15 h => ?_) fun v15 h e st' hq => ?_
   ·refine jn1 1 .normal (fun v6 => ⟨89, [(0, (.ref 1 0 0)), (1, (fI (a1))), (2, (fI (a2))), (8, (.ref 2 0 0)), (9, (.fz (eU8 (v3)))), (32, (fB (v6)))], (literal_reader_text_h_m0 p0 q0 w0 a0 v2), [3, 2, 0, 1], []⟩) h (by kernel_rfl) (fun v6 h => ?_) fun v6 h => ?_
    ·refine gd 4 h (by kernel_rfl) (fun h => ?_) fun h => ?_
     ·refine hcl 0 [.one .keep] [(2, 1), (3, 2)] [(1, 2), (2, 3)] [1, 2] h (strings_Builder_Len_h_ok _) (fun _ => by kernel_rfl) fun v4 h => ?_
      cases h; exact lj 5 (by kernel_rfl)
     cases h; exact lj 6 (by kernel_rfl)
    refine cd 0 h (by kernel_rfl) (fun h => ?_) fun h => ?_
    ·refine hcl 13 [.one .keep] [(2, 1), (3, 2)] [(1, 2), (2, 3)] [1, 2] h (strings_Builder_String_h_ok _) (fun _ => by kernel_rfl) fun v7 h => ?_
     cases h; exact lj 4 (by kernel_rfl)
    refine jn1 1 .normal (fun v11 => ⟨89, [(0, (.ref 1 0 0)), (1, (fI (a1))), (2, (fI (a2))), (8, (.ref 2 0 0)), (9, (.fz (eU8 (v3)))), (48, (fB (v11)))], (literal_reader_text_h_m0 p0 q0 w0 a0 v2), [3, 2, 0, 1], []⟩) h (by kernel_rfl) (fun v11 h => ?_) fun v11 h => ?_
    ·refine gd 4 h (by kernel_rfl) (fun h => ?_) fun h => ?_
     ·cases h; exact lj 12 (by kernel_rfl)
     refine hcl 0 [.one .keep] [(2, 1), (3, 2)] [(1, 2), (2, 3)] [1, 2] h (strings_Builder_Len_h_ok _) (fun _ => by kernel_rfl) fun v8 h => ?_
     refine gd 4 h (by kernel_rfl) (fun h => ?_) fun h => ?_
     ·cases h; exact lj 7 (by kernel_rfl)
     refine cl 2 h (literal_plain_ok _) (by kernel_rfl) fun v9 h => ?_
     cases h; exact lj 4 (by kernel_rfl)
    refine cd 0 h (by kernel_rfl) (fun h => ?_) fun h => ?_
    ·cases h; exact lj 6 (by kernel_rfl)
    refine cd 6 h (by kernel_rfl) (fun h => ?_) fun h => ?_
    ·refine hcl 14 [.one .keep] [(1, 1)] [(1, 1)] [1] h (literal_reader_peek_h_ok _) (fun _ => by kernel_rfl) fun v12 h => ?_
     refine jn1 3 .normal (fun v14 => ⟨89, [(0, (.ref 1 0 0)), (1, (fI (a1))), (2, (fI (a2))), (8, (.ref 2 0 0)), (9, (.fz (eU8 (v12)))), (79, (fB (v14)))], [(0, (.was p0 [1] q0 w0)), (1, (.box 49 [(fS (a0.f_s)), (fI ((w64 (v2.1 + 1))))])), (2, (.box 58 [(.opt 2), (.row 3 (List.length (v2.2)))])), (3, (.frow 5 1 (List.map eU8 (v2.2))))], [3, 2, 0, 1], []⟩) h (by kernel_rfl) (fun v14 h => ?_) fun v14 h => ?_
     ·refine gd 4 h (by kernel_rfl) (fun h => ?_) fun h => ?_
      ·cases h; exact lj 4 (by kernel_rfl)
      cases h; exact lj 4 (by kernel_rfl)
     refine cd 0 h (by kernel_rfl) (fun h => ?_) fun h => ?_
     ·cases h; exact lj 6 (by kernel_rfl)
     cases h; exact lj 1 (by kernel_rfl)
    cases h; exact lj 1 (by kernel_rfl)
   rcases v15 with v16 | v18
   ·try simp only [Sum.elim_inl, Sum.elim_inr] at h
    obtain ⟨rfl, hle⟩ := hq
    refine ⟨_, hle, ?_⟩
    refine hcl 3 [.one .keep, .one .keep] [(2, 1), (3, 2)] [(1, 2), (2, 3)] [1, 2] h (strings_Builder_WriteByte_h_ok _ _) (fun _ => by kernel_rfl) fun v17 h => ?_
    cases h; exact lj 11 (by kernel_rfl)
   ·try simp only [Sum.elim_inl, Sum.elim_inr] at h
    obtain ⟨rfl, hle⟩ := hq
    refine ⟨_, hle, ?_⟩
    cases h; exact lo 0 (by kernel_rfl)
  cases h; exact lo 1 (by kernel_rfl)
 rcases v19 with v20 | v21
 ·try simp only [Sum.elim_inl, Sum.elim_inr] at h
  obtain ⟨rfl, hle⟩ := hq
  refine ⟨_, hle, ?_⟩
  obtain rfl := Option.some.inj h; exact lh 6 ⟨89, [(6, (fS ((⟨#[]⟩ : ByteArray)))), (7, (fB (false)))], [(0, (.was p0 [1] q0 w0)), (1, (.box 49 [(fS (a0.f_s)), (fI (v20))]))], [0, 1], []⟩ (le_a (by kernel_rfl)) rfl rfl (by kernel_rfl) (by kernel_rfl)
 ·try simp only [Sum.elim_inl, Sum.elim_inr] at h
  obtain ⟨rfl, hle⟩ := hq
  refine ⟨_, hle, ?_⟩
  obtain rfl := Option.some.inj h; exact lh 0 ⟨89, [(6, (fS (v21.1))), (7, (fB (v21.2.1)))], [(0, (.was p0 [1] q0 w0)), (1, (.box 49 [(fS (a0.f_s)), (fI (v21.2.2))]))], [0, 1], []⟩ (le_a (by kernel_rfl)) rfl rfl (by kernel_rfl) (by kernel_rfl)

def literal_reader_number_h_l1 (a0 : S_literal_reader) (v8 : (Int) × (Int) × (Int)) : Option (((Int) × (Int) × (Int)) ⊕ ((Int) × (Int))) := (Option.bind ((bif (decide (48 ≤ v8.2.1)) then (bif (decide (v8.2.1 ≤ 57)) then (bif (decide (0 < v8.1)) then (some ((decide ((w64 ((w64 (10 * v8.1)) + (w64 (wu8 (v8.2.1 - 48))))) ≤ 1000000)))) else (bif (decide (48 < v8.2.1)) then (some ((decide ((w64 ((w64 (10 * v8.1)) + (w64 (wu8 (v8.2.1 - 48))))) ≤ 1000000)))) else (some (false)))) else (some (false))) else (some (false))) : Option ((Bool))) fun (v10 : (Bool)) => (bif v10 then (Option.bind (literal_reader_peek_h ((S_literal_reader.mk (a0.f_s) ((w64 (v8.2.2 + 1)))))) fun v11 => (some (.inl ((w64 ((w64 (10 * v8.1)) + (w64 (wu8 (v8.2.1 - 48))))), v11, (w64 (v8.2.2 + 1)))))) else (some (.inr (v8.1, v8.2.2)))))
def literal_reader_number_h (a0 : S_literal_reader) : Option ((Bool) × (Int) × (Int)) := (Option.bind ((Option.bind (literal_reader_peek_h (a0)) fun v1 => (bif (v1 == 45) then (some ((-1), (w64 (a0.f_at + 1)))) else (some (1, a0.f_at)))) : Option ((Int) × (Int))) fun (v3 : (Int) × (Int)) => (Option.bind ((bif (v3.1 == 1) then (Option.bind (literal_reader_peek_h ((S_literal_reader.mk (a0.f_s) (v3.2)))) fun v4 => (some ((v4 == 48)))) else (some (false))) : Option ((Bool))) fun (v6 : (Bool)) => (bif v6 then (some (true, (w64 (v3.2 + 1)), 0)) else (Option.bind (literal_reader_peek_h ((S_literal_reader.mk (a0.f_s) (v3.2)))) fun v7 => (Option.bind (loopN (literal_reader_number_h_l1 a0) fuel (0, v7, v3.2)) fun (v13 : (Int) × (Int)) => (some ((decide (0 < v13.1)), v13.2, (w64 (v3.1 * v13.1)))))))))
theorem literal_reader_number_h_ok (a0 : S_literal_reader) (r : (Bool) × (Int) × (Int)) (h : literal_reader_number_h a0 = some r) : HCall Tryd.prog 55 ([(.ref 1 0 0)] ++ []) [(1, (.box 49 [(fS (a0.f_s)), (fI (a0.f_at))]))] [1] (.ret (.fz (.tup [(.agg [(eI (2)), (eI (r.2.2)), (eS ((⟨#[]⟩ : ByteArray))), (.atom (.slice none 0 0))]), (eB (r.1))]))) [(1, (.box 49 [(fS (a0.f_s)), (fI (r.2.1))])), (2, (.box 24 [(fI (2)), (fI (r.2.2)), (fS ((⟨#[]⟩ : ByteArray))), (.fz (.atom (.slice none 0 0)))]))] [1, 2] := by
 unfold literal_reader_number_h at h
 refine hcx (gi := 0) Tryd.func55 (by kernel_rfl) (by kernel_rfl) (by kernel_rfl) (by kernel_rfl) (by kernel_rfl) (by kernel_rfl) (by kernel_rfl) (by kernel_rfl) ?_
 intro p0 q0 w0
 refine jn1 10 .normal (fun v3 => ⟨78, [(0, (.ref 1 0 0)), (2, (.ref 2 0 0)), (4, (fI (v3.1)))], [(0, (.was p0 [1] q0 w0)), (1, (.box 49 [(fS (a0.f_s)), (fI (v3.2))])), (2, (.box 24 [(fI (0)), (fI (0)), (fS ((⟨#[]⟩ : ByteArray))), (.fz (.atom (.slice none 0 0)))]))], [2, 0, 1], []⟩) h (by kernel_rfl) (fun v3 h => ?_) fun v3 h => ?_
 ·refine hcl 3 [.one .keep] [(1, 1)] [(1, 1)] [1] h (literal_reader_peek_h_ok _) (fun _ => by kernel_rfl) fun v1 h => ?_
  refine cd 2 h (by kernel_rfl) (fun h => ?_) fun h => ?_
  ·cases h; exact lj 14 (by kernel_rfl)
  cases h; exact lj 1 (by kernel_rfl)
 refine jn1 2 .normal (fun v6 => ⟨78, [(0, (.ref 1 0 0)), (2, (.ref 2 0 0)), (4, (fI (v3.1))), (23, (fB (v6)))], [(0, (.was p0 [1] q0 w0)), (1, (.box 49 [(fS (a0.f_s)), (fI (v3.2))])), (2, (.box 24 [(fI (0)), (fI (0)), (fS ((⟨#[]⟩ : ByteArray))), (.fz (.atom (.slice none 0 0)))]))], [2, 0, 1], []⟩) h (by kernel_rfl) (fun v6 h => ?_) fun v6 h => ?_
 ·refine gd 4 h (by kernel_rfl) (fun h => ?_) fun h => ?_
  ·refine hcl 1 [.one .keep] [(1, 1)] [(1, 1)] [1] h (literal_reader_peek_h_ok _) (fun _ => by kernel_rfl) fun v4 h => ?_
   cases h; exact lj 3 (by kernel_rfl)
  cases h; exact lj 5 (by kernel_rfl)
 refine cd 0 h (by kernel_rfl) (fun h => ?_) fun h => ?_
 ·obtain rfl := Option.some.inj h; exact lh 18 ⟨78, [(2, (.ref 2 0 0)), (3, (fB (true)))], [(0, (.was p0 [1] q0 w0)), (1, (.box 49 [(fS (a0.f_s)), (fI ((w64 (v3.2 + 1))))])), (2, (.box 24 [(fI (2)), (fI (0)), (fS ((⟨#[]⟩ : ByteArray))), (.fz (.atom (.slice none 0 0)))]))], [0, 1, 2], []⟩ (le_a (by kernel_rfl)) rfl rfl (by kernel_rfl) (by kernel_rfl)
 refine hcl 9 [.one .keep] [(1, 1)] [(1, 1)] [1] h (literal_reader_peek_h_ok _) (fun _ => by kernel_rfl) fun v7 h => ?_
 refine lp1 3 (fun v8 => ⟨78, [(0, (.ref 1 0 0)), (2, (.ref 2 0 0)), (4, (fI (v3.1))), (5, (fI (v8.1))), (6, (.fz (eU8 (v8.2.1))))], [(0, (.was p0 [1] q0 w0)), (1, (.box 49 [(fS (a0.f_s)), (fI (v8.2.2))])), (2, (.box 24 [(fI (0)), (fI (0)), (fS ((⟨#[]⟩ : ByteArray))), (.fz (.atom (.slice none 0 0)))]))], [2, 0, 1], []⟩) (.exit 0) (fun v13 => ⟨78, [(2, (.ref 2 0 0)), (4, (fI (v3.1))), (5, (fI (v13.1)))], [(0, (.was p0 [1] q0 w0)), (1, (.box 49 [(fS (a0.f_s)), (fI (v13.2))])), (2, (.box 24 [(fI (0)), (fI (0)), (fS ((⟨#[]⟩ : ByteArray))), (.fz (.atom (.slice none 0 0)))]))], [2, 0, 1], []⟩) h (by kernel_rfl) (by kernel_rfl) (fun v8 r h => ?_) fun v13 h => ?_
 ·unfold literal_reader_number_h_l1 at h
  refine jn1 2 .normal (fun v10 => ⟨78, [(0, (.ref 1 0 0)), (2, (.ref 2 0 0)), (4, (fI (v3.1))), (5, (fI (v8.1))), (6, (.fz (eU8 (v8.2.1)))), (56, (fB (v10)))], [(0, (.was p0 [1] q0 w0)), (1, (.box 49 [(fS (a0.f_s)), (fI (v8.2.2))])), (2, (.box 24 [(fI (0)), (fI (0)), (fS ((⟨#[]⟩ : ByteArray))), (.fz (.atom (.slice none 0 0)))]))], [2, 0, 1], []⟩) h (by kernel_rfl) (fun v10 h => ?_) fun v10 h => ?_
  ·refine gd 4 h (by kernel_rfl) (fun h => ?_) fun h => ?_
   ·refine gd 4 h (by kernel_rfl) (fun h => ?_) fun h => ?_
    ·refine gd 3 h (by kernel_rfl) (fun h => ?_) fun h => ?_
     ·cases h; exact lj 14 (by kernel_rfl)
     refine gd 5 h (by kernel_rfl) (fun h => ?_) fun h => ?_
     ·cases h; exact lj 9 (by kernel_rfl)
     cases h; exact lj 9 (by kernel_rfl)
    cases h; exact lj 17 (by kernel_rfl)
   cases h; exact lj 21 (by kernel_rfl)
  refine cd 0 h (by kernel_rfl) (fun h => ?_) fun h => ?_
  ·refine hcl 25 [.one .keep] [(1, 1)] [(1, 1)] [1] h (literal_reader_peek_h_ok _) (fun _ => by kernel_rfl) fun v11 h => ?_
   cases h; exact lj 2 (by kernel_rfl)
  cases h; exact lo 1 (by kernel_rfl)
 obtain rfl := Option.some.inj h; exact lh 12 ⟨78, [(2, (.ref 2 0 0)), (3, (fB ((decide (0 < v13.1)))))], [(0, (.was p0 [1] q0 w0)), (1, (.box 49 [(fS (a0.f_s)), (fI (v13.2))])), (2, (.box 24 [(fI (2)), (fI ((w64 (v3.1 * v13.1)))), (fS ((⟨#[]⟩ : ByteArray))), (.fz (.atom (.slice none 0 0)))]))], [0, 1, 2], []⟩ (le_a (by kernel_rfl)) rfl rfl (by kernel_rfl) (by kernel_rfl)

def literal_reader_list_h_l1 (a0 : S_literal_reader) (a2 : Int) (a3 : Int) (v3 : (Int) × (List Va)) : Option (((Int) × (List Va)) ⊕ ((List Va) × (Bool) × (Int))) := (Option.bind (literal_reader_number_h ((S_literal_reader.mk (a0.f_s) (v3.1)))) fun v4 => (bif (!v4.1) then (some (.inr (([] : List Va), false, v4.2.1))) else (Option.bind (app 56 v3.2 ([(Va.mk (2) (v4.2.2) ((⟨#[]⟩ : ByteArray)) (([] : List Va)))] : List (Va))) fun v5 => (Option.bind (literal_reader_peek_h ((S_literal_reader.mk (a0.f_s) (v4.2.1)))) fun v6 => (bif (v6 == a2) then (some (.inr (v5, true, (w64 (v4.2.1 + 1))))) else (Option.bind ((bif ((List.length (v5) : Int) == a3) then (some (true, v4.2.1)) else (Option.bind (literal_reader_word_h ((S_literal_reader.mk (a0.f_s) (v4.2.1))) ((⟨#[44, 32]⟩ : ByteArray))) fun v7 => (some ((!v7.1), v7.2)))) : Option ((Bool) × (Int))) fun (v9 : (Bool) × (Int)) => (bif v9.1 then (some (.inr (([] : List Va), false, v9.2))) else (some (.inl (v9.2, v5))))))))))
def literal_reader_list_h (a0 : S_literal_reader) (a1 : Int) (a2 : Int) (a3 : Int) : Option ((List Va) × (Bool) × (Int)) := (Option.bind (literal_reader_word_h (a0) ((Utf8.encode a1))) fun v1 => (bif (!v1.1) then (some (([] : List Va), false, v1.2)) else (Option.bind (literal_reader_peek_h ((S_literal_reader.mk (a0.f_s) (v1.2)))) fun v2 => (bif (v2 == a2) then (some (([] : List Va), true, (w64 (v1.2 + 1)))) else (Option.bind (loopN (literal_reader_list_h_l1 a0 a2 a3) fuel (v1.2, ([] : List (Va)))) fun (v11 : (List Va) × (Bool) × (Int)) => (some (v11.1, v11.2.1, v11.2.2)))))))
theorem literal_reader_list_h_ok (a0 : S_literal_reader) (a1 : Int) (a2 : Int) (a3 : Int) (r : (List Va) × (Bool) × (Int)) (h : literal_reader_list_h a0 a1 a2 a3 = some r) : HCall Tryd.prog 54 ([(.ref 1 0 0), (.fz (eU8 (a1))), (.fz (eU8 (a2))), (fI (a3)), (.mth 55 [(.ref 1 0 0)])] ++ []) [(1, (.box 49 [(fS (a0.f_s)), (fI (a0.f_at))]))] [1] (.ret (.fz (.tup [((eL 4 eVaR) (r.1)), (eB (r.2.1))]))) [(1, (.box 49 [(fS (a0.f_s)), (fI (r.2.2))]))] [1] := by
 unfold literal_reader_list_h at h
 refine hcx (gi := 0) Tryd.func54 (by kernel_rfl) (by kernel_rfl) (by kernel_rfl) (by kernel_rfl) (by kernel_rfl) (by kernel_rfl) (by kernel_rfl) (by kernel_rfl) ?_
 intro p0 q0 w0
 refine nst 10 (s_convR (sr := 5) (t := 9) (x := (.tmp 16)) (ds := tt5) (d := tt9) (k := .u8) (n := a1) tt_ok (by kernel_rfl) (by kernel_rfl) (by kernel_rfl) (by kernel_rfl) (by kernel_rfl) (by kernel_rfl)) (by kernel_rfl) ?_
 refine hcl 0 [.one .keep, .one .keep] [(1, 1)] [(1, 1)] [1] h (literal_reader_word_h_ok _ _) (fun _ => by kernel_rfl) fun v1 h => ?_
 refine cd 2 h (by kernel_rfl) (fun h => ?_) fun h => ?_
 ·obtain rfl := Option.some.inj h; exact lh 6 ⟨63, [(10, (.fz ((eL 4 eVaR) (([] : List Va))))), (11, (fB (false)))], [(0, (.was p0 [1] q0 w0)), (1, (.box 49 [(fS (a0.f_s)), (fI (v1.2))]))], [0, 1], []⟩ (le_a (by kernel_rfl)) rfl rfl (by kernel_rfl) (by kernel_rfl)
 refine hcl 5 [.one .keep] [(1, 1)] [(1, 1)] [1] h (literal_reader_peek_h_ok _) (fun _ => by kernel_rfl) fun v2 h => ?_
 refine cd 3 h (by kernel_rfl) (fun h => ?_) fun h => ?_
 ·obtain rfl := Option.some.inj h; exact lh 17 ⟨63, [(10, (.fz ((eL 4 eVaR) (([] : List Va))))), (11, (fB (true)))], [(0, (.was p0 [1] q0 w0)), (1, (.box 49 [(fS (a0.f_s)), (fI ((w64 (v1.2 + 1))))]))], [0, 1], []⟩ (le_a (by kernel_rfl)) rfl rfl (by kernel_rfl) (by kernel_rfl)
 refine wle 6 (le_nilrow (e := 24) (size := 4) (t := 12) (id := 2) (by decide) (by kernel_rfl) (by kernel_rfl)) (by kernel_rfl) ?_
 refine lp1 0 (fun v3 => ⟨63, [(0, (.ref 1 0 0)), (2, (.fz (eU8 (a2)))), (3, (fI (a3))), (4, (.mth 55 [(.ref 1 0 0)])), (12, (.row 2 (List.length (v3.2))))], [(0, (.was p0 [1] q0 w0)), (1, (.box 49 [(fS (a0.f_s)), (fI (v3.1))])), (2, (.frow 24 4 (List.map eVaR (v3.2))))], [2, 0, 1], []⟩) .ret (fun v11 => ⟨63, [(10, (.fz ((eL 4 eVaR) (v11.1)))), (11, (fB (v11.2.1)))], [(0, (.was p0 [1] q0 w0)), (1, (.box 49 [(fS (a0.f_s)), (fI (v11.2.2))]))], [0, 1], []⟩) h (by kernel_rfl) (by kernel_rfl) (fun v3 r h => ?_) fun v11 h => ?_
 ·unfold literal_reader_list_h_l1 at h
  refine hcl 4 [] [(1, 1)] [(1, 1), (2, 3)] [1] h (literal_reader_number_h_ok _) (fun _ => by kernel_rfl) fun v4 h => ?_
  refine cd 13 h (by kernel_rfl) (fun h => ?_) fun h => ?_
  ·cases h; exact lo 6 (by kernel_rfl)
  refine wle 5 ((le_a (by kernel_rfl) : LeSt _ ⟨63, [(0, (.ref 1 0 0)), (2, (.fz (eU8 (a2)))), (3, (fI (a3))), (4, (.mth 55 [(.ref 1 0 0)])), (38, (.row 2 (List.length (v3.2)))), (39, (.fz (eVa ((Va.mk (2) (v4.2.2) ((⟨#[]⟩ : ByteArray)) (([] : List Va)))))))], [(0, (.was p0 [1] q0 w0)), (1, (.box 49 [(fS (a0.f_s)), (fI (v4.2.1))])), (2, (.frow 24 4 (List.map eVaR (v3.2))))], [2, 0, 1], []⟩)) (by kernel_rfl) ?_
  refine wle 1 (le_eq (t := 40) (x := .lim 4 1 [eVa ((Va.mk (2) (v4.2.2) ((⟨#[]⟩ : ByteArray)) (([] : List Va))))]) (y := .lim 4 1 (List.map eVaR ([(Va.mk (2) (v4.2.2) ((⟨#[]⟩ : ByteArray)) (([] : List Va)))] : List (Va)))) (by kernel_rfl) (by simp only [List.map, eVaR_eq])) (by kernel_rfl) ?_
  refine ap nVaR 0 h (by kernel_rfl) fun v5 h => ?_
  refine hcl 6 [.one .keep] [(1, 1)] [(1, 1)] [1] h (literal_reader_peek_h_ok _) (fun _ => by kernel_rfl) fun v6 h => ?_
  refine cd 3 h (by kernel_rfl) (fun h => ?_) fun h => ?_
  ·refine wle 17 (le_freezeTs (id := 2) (n := List.length (v5)) (e := 24) (size := 4) (xs := List.map eVaR (v5)) [10] ⟨by kernel_rfl, trivial⟩ (by kernel_rfl) (by simp)) (by kernel_rfl) ?_
   cases h; exact lo 1 (by kernel_rfl)
  refine jn1 2 .normal (fun v9 => ⟨63, [(0, (.ref 1 0 0)), (2, (.fz (eU8 (a2)))), (3, (fI (a3))), (4, (.mth 55 [(.ref 1 0 0)])), (12, (.row 2 (List.length (v5)))), (62, (fB (v9.1)))], [(0, (.was p0 [1] q0 w0)), (1, (.box 49 [(fS (a0.f_s)), (fI (v9.2))])), (2, (.frow 24 4 (List.map eVaR (v5))))], [2, 0, 1], []⟩) h (by kernel_rfl) (fun v9 h => ?_) fun v9 h => ?_
  ·refine nst 2 (n_len_row (t := 22) (x := (.tmp 54)) (d := tt22) (id := 2) (e2 := 24) (e := 24) (size := 4) (n := List.length (v5)) (xs := List.map eVaR (v5)) tt_ok (by kernel_rfl) (by kernel_rfl) rfl (by kernel_rfl) (by kernel_rfl) (by simp)) (by kernel_rfl) ?_
   refine gd 3 h (by kernel_rfl) (fun h => ?_) fun h => ?_
   ·cases h; exact lj 5 (by kernel_rfl)
   refine hcl 1 [.one .keep, .one .keep] [(1, 1)] [(1, 1)] [1] h (literal_reader_word_h_ok _ _) (fun _ => by kernel_rfl) fun v7 h => ?_
   cases h; exact lj 3 (by kernel_rfl)
  refine cd 0 h (by kernel_rfl) (fun h => ?_) fun h => ?_
  ·cases h; exact lo 6 (by kernel_rfl)
  cases h; exact lj 1 (by kernel_rfl)
 obtain rfl := Option.some.inj h; exact lh 0 ⟨63, [(10, (.fz ((eL 4 eVaR) (v11.1)))), (11, (fB (v11.2.1)))], [(0, (.was p0 [1] q0 w0)), (1, (.box 49 [(fS (a0.f_s)), (fI (v11.2.2))]))], [0, 1], []⟩ (le_a (by kernel_rfl)) rfl rfl (by kernel_rfl) (by kernel_rfl)

def literal_reader_element_h (a0 : S_literal_reader) : Option ((Bool) × (Int) × (ByteArray)) := (Option.bind (literal_reader_text_h (a0) (0) (64)) fun v1 => (some (v1.2.1, v1.2.2, v1.1)))
theorem literal_reader_element_h_ok (a0 : S_literal_reader) (r : (Bool) × (Int) × (ByteArray)) (h : literal_reader_element_h a0 = some r) : HCall Tryd.prog 56 ([(.ref 1 0 0)] ++ []) [(1, (.box 49 [(fS (a0.f_s)), (fI (a0.f_at))]))] [1] (.ret (.fz (.tup [(.agg [(eI (3)), (eI (0)), (eS (r.2.2)), (.atom (.slice none 0 0))]), (eB (r.1))]))) [(1, (.box 49 [(fS (a0.f_s)), (fI (r.2.1))])), (2, (.box 24 [(fI (3)), (fI (0)), (fS (r.2.2)), (.fz (.atom (.slice none 0 0)))]))] [1, 2] := by
 unfold literal_reader_element_h at h
 refine hcx (gi := 0) Tryd.func56 (by kernel_rfl) (by kernel_rfl) (by kernel_rfl) (by kernel_rfl) (by kernel_rfl) (by kernel_rfl) (by kernel_rfl) (by kernel_rfl) ?_
 intro p0 q0 w0
 refine hcl 8 [.one .keep, .one .keep, .one .keep] [(1, 1)] [(1, 1)] [1] h (literal_reader_text_h_ok _ _ _) (fun _ => by kernel_rfl) fun v1 h => ?_
 obtain rfl := Option.some.inj h; exact lh 15 ⟨14, [(2, (.ref 2 0 0)), (3, (fB (v1.2.1)))], [(0, (.was p0 [1] q0 w0)), (1, (.box 49 [(fS (a0.f_s)), (fI (v1.2.2))])), (2, (.box 24 [(fI (3)), (fI (0)), (fS (v1.1)), (.fz (.atom (.slice none 0 0)))]))], [0, 1, 2], []⟩ (le_a (by kernel_rfl)) rfl rfl (by kernel_rfl) (by kernel_rfl)

def literal_reader_list_h2_l1 (a0 : S_literal_reader) (a2 : Int) (a3 : Int) (v3 : (Int) × (List Va)) : Option (((Int) × (List Va)) ⊕ ((List Va) × (Bool) × (Int))) := (Option.bind (literal_reader_element_h ((S_literal_reader.mk (a0.f_s) (v3.1)))) fun v4 => (bif (!v4.1) then (some (.inr (([] : List Va), false, v4.2.1))) else (Option.bind (app 56 v3.2 ([(Va.mk (3) (0) (v4.2.2) (([] : List Va)))] : List (Va))) fun v5 => (Option.bind (literal_reader_peek_h ((S_literal_reader.mk (a0.f_s) (v4.2.1)))) fun v6 => (bif (v6 == a2) then (some (.inr (v5, true, (w64 (v4.2.1 + 1))))) else (Option.bind ((bif ((List.length (v5) : Int) == a3) then (some (true, v4.2.1)) else (Option.bind (literal_reader_word_h ((S_literal_reader.mk (a0.f_s) (v4.2.1))) ((⟨#[44, 32]⟩ : ByteArray))) fun v7 => (some ((!v7.1), v7.2)))) : Option ((Bool) × (Int))) fun (v9 : (Bool) × (Int)) => (bif v9.1 then (some (.inr (([] : List Va), false, v9.2))) else (some (.inl (v9.2, v5))))))))))
def literal_reader_list_h2 (a0 : S_literal_reader) (a1 : Int) (a2 : Int) (a3 : Int) : Option ((List Va) × (Bool) × (Int)) := (Option.bind (literal_reader_word_h (a0) ((Utf8.encode a1))) fun v1 => (bif (!v1.1) then (some (([] : List Va), false, v1.2)) else (Option.bind (literal_reader_peek_h ((S_literal_reader.mk (a0.f_s) (v1.2)))) fun v2 => (bif (v2 == a2) then (some (([] : List Va), true, (w64 (v1.2 + 1)))) else (Option.bind (loopN (literal_reader_list_h2_l1 a0 a2 a3) fuel (v1.2, ([] : List (Va)))) fun (v11 : (List Va) × (Bool) × (Int)) => (some (v11.1, v11.2.1, v11.2.2)))))))
theorem literal_reader_list_h2_ok (a0 : S_literal_reader) (a1 : Int) (a2 : Int) (a3 : Int) (r : (List Va) × (Bool) × (Int)) (h : literal_reader_list_h2 a0 a1 a2 a3 = some r) : HCall Tryd.prog 54 ([(.ref 1 0 0), (.fz (eU8 (a1))), (.fz (eU8 (a2))), (fI (a3)), (.mth 56 [(.ref 1 0 0)])] ++ []) [(1, (.box 49 [(fS (a0.f_s)), (fI (a0.f_at))]))] [1] (.ret (.fz (.tup [((eL 4 eVaR) (r.1)), (eB (r.2.1))]))) [(1, (.box 49 [(fS (a0.f_s)), (fI (r.2.2))]))] [1] := by
 unfold literal_reader_list_h2 at h
 refine hcx (gi := 0) Tryd.func54 (by kernel_rfl) (by kernel_rfl) (by kernel_rfl) (by kernel_rfl) (by kernel_rfl) (by kernel_rfl) (by kernel_rfl) (by kernel_rfl) ?_
 intro p0 q0 w0
 refine nst 10 (s_convR (sr := 5) (t := 9) (x := (.tmp 16)) (ds := tt5) (d := tt9) (k := .u8) (n := a1) tt_ok (by kernel_rfl) (by kernel_rfl) (by kernel_rfl) (by kernel_rfl) (by kernel_rfl) (by kernel_rfl)) (by kernel_rfl) ?_
 refine hcl 0 [.one .keep, .one .keep] [(1, 1)] [(1, 1)] [1] h (literal_reader_word_h_ok _ _) (fun _ => by kernel_rfl) fun v1 h => ?_
 refine cd 2 h (by kernel_rfl) (fun h => ?_) fun h => ?_
 ·obtain rfl := Option.some.inj h; exact lh 6 ⟨63, [(10, (.fz ((eL 4 eVaR) (([] : List Va))))), (11, (fB (false)))], [(0, (.was p0 [1] q0 w0)), (1, (.box 49 [(fS (a0.f_s)), (fI (v1.2))]))], [0, 1], []⟩ (le_a (by kernel_rfl)) rfl rfl (by kernel_rfl) (by kernel_rfl)
 refine hcl 5 [.one .keep] [(1, 1)] [(1, 1)] [1] h (literal_reader_peek_h_ok _) (fun _ => by kernel_rfl) fun v2 h => ?_
 refine cd 3 h (by kernel_rfl) (fun h => ?_) fun h => ?_
 ·obtain rfl := Option.some.inj h; exact lh 17 ⟨63, [(10, (.fz ((eL 4 eVaR) (([] : List Va))))), (11, (fB (true)))], [(0, (.was p0 [1] q0 w0)), (1, (.box 49 [(fS (a0.f_s)), (fI ((w64 (v1.2 + 1))))]))], [0, 1], []⟩ (le_a (by kernel_rfl)) rfl rfl (by kernel_rfl) (by kernel_rfl)
 refine wle 6 (le_nilrow (e := 24) (size := 4) (t := 12) (id := 2) (by decide) (by kernel_rfl) (by kernel_rfl)) (by kernel_rfl) ?_
 refine lp1 0 (fun v3 => ⟨63, [(0, (.ref 1 0 0)), (2, (.fz (eU8 (a2)))), (3, (fI (a3))), (4, (.mth 56 [(.ref 1 0 0)])), (12, (.row 2 (List.length (v3.2))))], [(0, (.was p0 [1] q0 w0)), (1, (.box 49 [(fS (a0.f_s)), (fI (v3.1))])), (2, (.frow 24 4 (List.map eVaR (v3.2))))], [2, 0, 1], []⟩) .ret (fun v11 => ⟨63, [(10, (.fz ((eL 4 eVaR) (v11.1)))), (11, (fB (v11.2.1)))], [(0, (.was p0 [1] q0 w0)), (1, (.box 49 [(fS (a0.f_s)), (fI (v11.2.2))]))], [0, 1], []⟩) h (by kernel_rfl) (by kernel_rfl) (fun v3 r h => ?_) fun v11 h => ?_
 ·unfold literal_reader_list_h2_l1 at h
  refine hcl 4 [] [(1, 1)] [(1, 1), (2, 3)] [1] h (literal_reader_element_h_ok _) (fun _ => by kernel_rfl) fun v4 h => ?_
  refine cd 13 h (by kernel_rfl) (fun h => ?_) fun h => ?_
  ·cases h; exact lo 6 (by kernel_rfl)
  refine wle 5 ((le_a (by kernel_rfl) : LeSt _ ⟨63, [(0, (.ref 1 0 0)), (2, (.fz (eU8 (a2)))), (3, (fI (a3))), (4, (.mth 56 [(.ref 1 0 0)])), (38, (.row 2 (List.length (v3.2)))), (39, (.fz (eVa ((Va.mk (3) (0) (v4.2.2) (([] : List Va)))))))], [(0, (.was p0 [1] q0 w0)), (1, (.box 49 [(fS (a0.f_s)), (fI (v4.2.1))])), (2, (.frow 24 4 (List.map eVaR (v3.2))))], [2, 0, 1], []⟩)) (by kernel_rfl) ?_
  refine wle 1 (le_eq (t := 40) (x := .lim 4 1 [eVa ((Va.mk (3) (0) (v4.2.2) (([] : List Va))))]) (y := .lim 4 1 (List.map eVaR ([(Va.mk (3) (0) (v4.2.2) (([] : List Va)))] : List (Va)))) (by kernel_rfl) (by simp only [List.map, eVaR_eq])) (by kernel_rfl) ?_
  refine ap nVaR 0 h (by kernel_rfl) fun v5 h => ?_
  refine hcl 6 [.one .keep] [(1, 1)] [(1, 1)] [1] h (literal_reader_peek_h_ok _) (fun _ => by kernel_rfl) fun v6 h => ?_
  refine cd 3 h (by kernel_rfl) (fun h => ?_) fun h => ?_
  ·refine wle 17 (le_freezeTs (id := 2) (n := List.length (v5)) (e := 24) (size := 4) (xs := List.map eVaR (v5)) [10] ⟨by kernel_rfl, trivial⟩ (by kernel_rfl) (by simp)) (by kernel_rfl) ?_
   cases h; exact lo 1 (by kernel_rfl)
  refine jn1 2 .normal (fun v9 => ⟨63, [(0, (.ref 1 0 0)), (2, (.fz (eU8 (a2)))), (3, (fI (a3))), (4, (.mth 56 [(.ref 1 0 0)])), (12, (.row 2 (List.length (v5)))), (62, (fB (v9.1)))], [(0, (.was p0 [1] q0 w0)), (1, (.box 49 [(fS (a0.f_s)), (fI (v9.2))])), (2, (.frow 24 4 (List.map eVaR (v5))))], [2, 0, 1], []⟩) h (by kernel_rfl) (fun v9 h => ?_) fun v9 h => ?_
  ·refine nst 2 (n_len_row (t := 22) (x := (.tmp 54)) (d := tt22) (id := 2) (e2 := 24) (e := 24) (size := 4) (n := List.length (v5)) (xs := List.map eVaR (v5)) tt_ok (by kernel_rfl) (by kernel_rfl) rfl (by kernel_rfl) (by kernel_rfl) (by simp)) (by kernel_rfl) ?_
   refine gd 3 h (by kernel_rfl) (fun h => ?_) fun h => ?_
   ·cases h; exact lj 5 (by kernel_rfl)
   refine hcl 1 [.one .keep, .one .keep] [(1, 1)] [(1, 1)] [1] h (literal_reader_word_h_ok _ _) (fun _ => by kernel_rfl) fun v7 h => ?_
   cases h; exact lj 3 (by kernel_rfl)
  refine cd 0 h (by kernel_rfl) (fun h => ?_) fun h => ?_
  ·cases h; exact lo 6 (by kernel_rfl)
  cases h; exact lj 1 (by kernel_rfl)
 obtain rfl := Option.some.inj h; exact lh 0 ⟨63, [(10, (.fz ((eL 4 eVaR) (v11.1)))), (11, (fB (v11.2.1)))], [(0, (.was p0 [1] q0 w0)), (1, (.box 49 [(fS (a0.f_s)), (fI (v11.2.2))]))], [0, 1], []⟩ (le_a (by kernel_rfl)) rfl rfl (by kernel_rfl) (by kernel_rfl)

def literal_reader_rows_h (a0 : S_literal_reader) : Option (Unit) := (some ())
theorem literal_reader_rows_h_ok (a0 : S_literal_reader) (r : Unit) (h : literal_reader_rows_h a0 = some r) : HCall Tryd.prog 57 ([(.ref 1 0 0)] ++ []) [(1, (.box 49 [(fS (a0.f_s)), (fI (a0.f_at))]))] [1] (.ret (.fn 77 [(.ref 2 0 0), (.ref 3 0 0)])) [(1, (.box 49 [(fS (a0.f_s)), (fI (a0.f_at))])), (2, (.box 47 [(.ref 1 0 0)])), (3, (.box 3 [(fI (0))]))] [1, 2, 3] := by
 unfold literal_reader_rows_h at h
 refine hcx (gi := 0) Tryd.func57 (by kernel_rfl) (by kernel_rfl) (by kernel_rfl) (by kernel_rfl) (by kernel_rfl) (by kernel_rfl) (by kernel_rfl) (by kernel_rfl) ?_
 intro p0 q0 w0
 obtain rfl := Option.some.inj h; exact lh 16 ⟨5, [(2, (.fn 77 [(.ref 2 0 0), (.ref 3 0 0)]))], [(0, (.was p0 [1] q0 w0)), (1, (.box 49 [(fS (a0.f_s)), (fI (a0.f_at))])), (2, (.box 47 [(.ref 1 0 0)])), (3, (.box 3 [(fI (0))]))], [0, 1, 2, 3], []⟩ (le_a (by kernel_rfl)) rfl rfl (by kernel_rfl) (by kernel_rfl)

def literal_reader_rows_1_h_l1 (a0 : S_literal_reader) (a1 : Int) (v2 : (Int) × (List Va)) : Option (((Int) × (List Va)) ⊕ ((Bool) × (Int) × (Int) × (Int) × (List Va))) := (Option.bind (literal_reader_element_h ((S_literal_reader.mk (a0.f_s) (v2.1)))) fun v3 => (bif (!v3.1) then (some (.inr (false, v3.2.1, a1, 0, ([] : List Va)))) else (Option.bind (app 56 v2.2 ([(Va.mk (3) (0) (v3.2.2) (([] : List Va)))] : List (Va))) fun v4 => (Option.bind ((Option.bind (literal_reader_peek_h ((S_literal_reader.mk (a0.f_s) (v3.2.1)))) fun v5 => (bif (v5 == 125) then (bif (a1 == 0) then (some (true)) else (some (((List.length (v4) : Int) == a1)))) else (some (false)))) : Option ((Bool))) fun (v7 : (Bool)) => (bif v7 then (some (.inr (true, (w64 (v3.2.1 + 1)), (List.length (v4) : Int), 6, v4))) else (Option.bind ((bif ((List.length (v4) : Int) == 8) then (some (true, v3.2.1)) else (bif ((List.length (v4) : Int) == a1) then (some (true, v3.2.1)) else (Option.bind (literal_reader_word_h ((S_literal_reader.mk (a0.f_s) (v3.2.1))) ((⟨#[44, 32]⟩ : ByteArray))) fun v8 => (some ((!v8.1), v8.2))))) : Option ((Bool) × (Int))) fun (v10 : (Bool) × (Int)) => (bif v10.1 then (some (.inr (false, v10.2, a1, 0, ([] : List Va)))) else (some (.inl (v10.2, v4))))))))))
def literal_reader_rows_1_h (a0 : S_literal_reader) (a1 : Int) : Option ((Bool) × (Int) × (Int) × (Int) × (List Va)) := (Option.bind (literal_reader_word_h (a0) ((⟨#[123]⟩ : ByteArray))) fun v1 => (bif (!v1.1) then (some (false, v1.2, a1, 0, ([] : List Va))) else (Option.bind (loopN (literal_reader_rows_1_h_l1 a0 a1) fuel (v1.2, ([] : List (Va)))) fun (v12 : (Bool) × (Int) × (Int) × (Int) × (List Va)) => (some (v12.1, v12.2.1, v12.2.2.1, v12.2.2.2.1, v12.2.2.2.2)))))
theorem literal_reader_rows_1_h_ok (a0 : S_literal_reader) (a1 : Int) (r : (Bool) × (Int) × (Int) × (Int) × (List Va)) (h : literal_reader_rows_1_h a0 a1 = some r) : HCall Tryd.prog 77 ([] ++ [(.ref 1 0 0), (.ref 3 0 0)]) [(1, (.box 47 [(.ref 2 0 0)])), (2, (.box 49 [(fS (a0.f_s)), (fI (a0.f_at))])), (3, (.box 3 [(fI (a1))]))] [1, 2, 3] (.ret (.fz (.tup [(.agg [(eI (r.2.2.2.1)), (eI (0)), (eS ((⟨#[]⟩ : ByteArray))), ((eL 4 eVaR) (r.2.2.2.2))]), (eB (r.1))]))) [(1, (.box 47 [(.ref 2 0 0)])), (2, (.box 49 [(fS (a0.f_s)), (fI (r.2.1))])), (3, (.box 3 [(fI (r.2.2.1))])), (4, (.box 24 [(fI (r.2.2.2.1)), (fI (0)), (fS ((⟨#[]⟩ : ByteArray))), (.fz ((eL 4 eVaR) (r.2.2.2.2)))]))] [1, 2, 3, 4] := by
 unfold literal_reader_rows_1_h at h
 refine hcx (gi := 0) Tryd.func77 (by kernel_rfl) (by kernel_rfl) (by kernel_rfl) (by kernel_rfl) (by kernel_rfl) (by kernel_rfl) (by kernel_rfl) (by kernel_rfl) ?_
 intro p0 q0 w0
 refine hcl 9 [.one .keep, .one .keep] [(2, 1)] [(1, 2)] [1] h (literal_reader_word_h_ok _ _) (fun _ => by kernel_rfl) fun v1 h => ?_
 refine cd 2 h (by kernel_rfl) (fun h => ?_) fun h => ?_
 ·obtain rfl := Option.some.inj h; exact lh 7 ⟨64, [(2, (.ref 4 0 0)), (3, (fB (false)))], [(0, (.was p0 [1, 2, 3] q0 w0)), (1, (.box 47 [(.ref 2 0 0)])), (2, (.box 49 [(fS (a0.f_s)), (fI (v1.2))])), (3, (.box 3 [(fI (a1))])), (4, (.box 24 [(fI (0)), (fI (0)), (fS ((⟨#[]⟩ : ByteArray))), (.fz ((eL 4 eVaR) (([] : List Va))))]))], [0, 1, 2, 3, 4], []⟩ (le_a (by kernel_rfl)) rfl rfl (by kernel_rfl) (by kernel_rfl)
 refine wle 8 (le_nilcell (e2 := 24) (e := 24) (size := 4) (id2 := 5) (j := 3) (id := 6) (cells := [(fI (6)), (fI (0)), (fS ((⟨#[]⟩ : ByteArray))), (.fz (.atom (.slice none 0 0)))]) (by kernel_rfl) (by kernel_rfl) (by kernel_rfl) (by kernel_rfl)) (by kernel_rfl) ?_
 refine lp1 0 (fun v2 => ⟨64, [(0, (.ref 1 0 0)), (1, (.ref 3 0 0)), (2, (.ref 4 0 0)), (4, (.ref 5 0 0))], [(0, (.was p0 [1, 2, 3] q0 w0)), (1, (.box 47 [(.ref 2 0 0)])), (2, (.box 49 [(fS (a0.f_s)), (fI (v2.1))])), (3, (.box 3 [(fI (a1))])), (4, (.box 24 [(fI (0)), (fI (0)), (fS ((⟨#[]⟩ : ByteArray))), (.fz (.atom (.slice none 0 0)))])), (5, (.box 24 [(fI (6)), (fI (0)), (fS ((⟨#[]⟩ : ByteArray))), (.row 6 (List.length (v2.2)))])), (6, (.frow 24 4 (List.map eVaR (v2.2))))], [6, 5, 4, 0, 1, 2, 3], []⟩) .ret (fun v12 => ⟨64, [(2, (.ref 4 0 0)), (3, (fB (v12.1)))], [(0, (.was p0 [1, 2, 3] q0 w0)), (1, (.box 47 [(.ref 2 0 0)])), (2, (.box 49 [(fS (a0.f_s)), (fI (v12.2.1))])), (3, (.box 3 [(fI (v12.2.2.1))])), (4, (.box 24 [(fI (v12.2.2.2.1)), (fI (0)), (fS ((⟨#[]⟩ : ByteArray))), (.fz ((eL 4 eVaR) (v12.2.2.2.2)))]))], [4, 0, 1, 2, 3], []⟩) h (by kernel_rfl) (by kernel_rfl) (fun v2 r h => ?_) fun v12 h => ?_
 ·unfold literal_reader_rows_1_h_l1 at h
  refine hcl 4 [.one .keep] [(2, 1)] [(1, 2), (2, 7)] [1] h (literal_reader_element_h_ok _) (fun _ => by kernel_rfl) fun v3 h => ?_
  refine cd 13 h (by kernel_rfl) (fun h => ?_) fun h => ?_
  ·cases h; exact lo 7 (by kernel_rfl)
  refine wle 6 ((le_a (by kernel_rfl) : LeSt _ ⟨64, [(0, (.ref 1 0 0)), (1, (.ref 3 0 0)), (2, (.ref 4 0 0)), (4, (.ref 5 0 0)), (22, (.row 6 (List.length (v2.2)))), (23, (.fz (eVa ((Va.mk (3) (0) (v3.2.2) (([] : List Va)))))))], [(0, (.was p0 [1, 2, 3] q0 w0)), (1, (.box 47 [(.ref 2 0 0)])), (2, (.box 49 [(fS (a0.f_s)), (fI (v3.2.1))])), (3, (.box 3 [(fI (a1))])), (4, (.box 24 [(fI (0)), (fI (0)), (fS ((⟨#[]⟩ : ByteArray))), (.fz (.atom (.slice none 0 0)))])), (5, (.box 24 [(fI (6)), (fI (0)), (fS ((⟨#[]⟩ : ByteArray))), (.row 6 (List.length (v2.2)))])), (6, (.frow 24 4 (List.map eVaR (v2.2))))], [6, 5, 4, 0, 1, 2, 3], []⟩)) (by kernel_rfl) ?_
  refine wle 1 (le_eq (t := 24) (x := .lim 4 1 [eVa ((Va.mk (3) (0) (v3.2.2) (([] : List Va))))]) (y := .lim 4 1 (List.map eVaR ([(Va.mk (3) (0) (v3.2.2) (([] : List Va)))] : List (Va)))) (by kernel_rfl) (by simp only [List.map, eVaR_eq])) (by kernel_rfl) ?_
  refine ap nVaR 0 h (by kernel_rfl) fun v4 h => ?_
  refine nst 7 (n_len_row (t := 22) (x := (.tmp 28)) (d := tt22) (id := 6) (e2 := 24) (e := 24) (size := 4) (n := List.length (v4)) (xs := List.map eVaR (v4)) tt_ok (by kernel_rfl) (by kernel_rfl) rfl (by kernel_rfl) (by kernel_rfl) (by simp)) (by kernel_rfl) ?_
  refine jn1 4 .normal (fun v7 => ⟨64, [(0, (.ref 1 0 0)), (1, (.ref 3 0 0)), (2, (.ref 4 0 0)), (4, (.ref 5 0 0)), (7, (fI ((List.length (v4) : Int)))), (41, (fB (v7)))], [(0, (.was p0 [1, 2, 3] q0 w0)), (1, (.box 47 [(.ref 2 0 0)])), (2, (.box 49 [(fS (a0.f_s)), (fI (v3.2.1))])), (3, (.box 3 [(fI (a1))])), (4, (.box 24 [(fI (0)), (fI (0)), (fS ((⟨#[]⟩ : ByteArray))), (.fz (.atom (.slice none 0 0)))])), (5, (.box 24 [(fI (6)), (fI (0)), (fS ((⟨#[]⟩ : ByteArray))), (.row 6 (List.length (v4)))])), (6, (.frow 24 4 (List.map eVaR (v4))))], [6, 5, 4, 0, 1, 2, 3], []⟩) h (by kernel_rfl) (fun v7 h => ?_) fun v7 h => ?_
  ·refine hcl 2 [.one .keep] [(2, 1)] [(1, 2)] [1] h (literal_reader_peek_h_ok _) (fun _ => by kernel_rfl) fun v5 h => ?_
   refine gd 2 h (by kernel_rfl) (fun h => ?_) fun h => ?_
   ·refine gd 3 h (by kernel_rfl) (fun h => ?_) fun h => ?_
    ·cases h; exact lj 6 (by kernel_rfl)
    cases h; exact lj 6 (by kernel_rfl)
   cases h; exact lj 9 (by kernel_rfl)
  refine cd 0 h (by kernel_rfl) (fun h => ?_) fun h => ?_
  ·refine wle 22 (le_freezeCell (e2 := 24) (id2 := 4) (j := 3) (id := 6) (n := List.length (v4)) (e := 24) (size := 4) (xs := List.map eVaR (v4)) (cells := [(fI (6)), (fI (0)), (fS ((⟨#[]⟩ : ByteArray))), (.row 6 (List.length (v4)))]) (by kernel_rfl) (by kernel_rfl) (by kernel_rfl) (by simp)) (by kernel_rfl) ?_
   cases h; exact lo 1 (by kernel_rfl)
  refine jn1 2 .normal (fun v10 => ⟨64, [(0, (.ref 1 0 0)), (1, (.ref 3 0 0)), (2, (.ref 4 0 0)), (4, (.ref 5 0 0)), (62, (fB (v10.1)))], [(0, (.was p0 [1, 2, 3] q0 w0)), (1, (.box 47 [(.ref 2 0 0)])), (2, (.box 49 [(fS (a0.f_s)), (fI (v10.2))])), (3, (.box 3 [(fI (a1))])), (4, (.box 24 [(fI (0)), (fI (0)), (fS ((⟨#[]⟩ : ByteArray))), (.fz (.atom (.slice none 0 0)))])), (5, (.box 24 [(fI (6)), (fI (0)), (fS ((⟨#[]⟩ : ByteArray))), (.row 6 (List.length (v4)))])), (6, (.frow 24 4 (List.map eVaR (v4))))], [6, 5, 4, 0, 1, 2, 3], []⟩) h (by kernel_rfl) (fun v10 h => ?_) fun v10 h => ?_
  ·refine gd 4 h (by kernel_rfl) (fun h => ?_) fun h => ?_
   ·cases h; exact lj 10 (by kernel_rfl)
   refine gd 5 h (by kernel_rfl) (fun h => ?_) fun h => ?_
   ·cases h; exact lj 5 (by kernel_rfl)
   refine hcl 1 [.one .keep, .one .keep] [(2, 1)] [(1, 2)] [1] h (literal_reader_word_h_ok _ _) (fun _ => by kernel_rfl) fun v8 h => ?_
   cases h; exact lj 3 (by kernel_rfl)
  refine cd 0 h (by kernel_rfl) (fun h => ?_) fun h => ?_
  ·cases h; exact lo 7 (by kernel_rfl)
  cases h; exact lj 1 (by kernel_rfl)
 obtain rfl := Option.some.inj h; exact lh 0 ⟨64, [(2, (.ref 4 0 0)), (3, (fB (v12.1)))], [(0, (.was p0 [1, 2, 3] q0 w0)), (1, (.box 47 [(.ref 2 0 0)])), (2, (.box 49 [(fS (a0.f_s)), (fI (v12.2.1))])), (3, (.box 3 [(fI (v12.2.2.1))])), (4, (.box 24 [(fI (v12.2.2.2.1)), (fI (0)), (fS ((⟨#[]⟩ : ByteArray))), (.fz ((eL 4 eVaR) (v12.2.2.2.2)))]))], [0, 1, 2, 3, 4], []⟩ (le_a (by kernel_rfl)) rfl rfl (by kernel_rfl) (by kernel_rfl)

def literal_reader_list_h3_l1 (a0 : S_literal_reader) (a2 : Int) (a3 : Int) (v3 : (Int) × (Int) × (List Va)) : Option (((Int) × (Int) × (List Va)) ⊕ ((List Va) × (Bool) × (Int) × (Int))) := (Option.bind (literal_reader_rows_1_h ((S_literal_reader.mk (a0.f_s) (v3.1))) (v3.2.1)) fun v4 => (bif (!v4.1) then (some (.inr (([] : List Va), false, v4.2.1, v4.2.2.1))) else (Option.bind (app 56 v3.2.2 ([(Va.mk (v4.2.2.2.1) (0) ((⟨#[]⟩ : ByteArray)) (v4.2.2.2.2))] : List (Va))) fun v5 => (Option.bind (literal_reader_peek_h ((S_literal_reader.mk (a0.f_s) (v4.2.1)))) fun v6 => (bif (v6 == a2) then (some (.inr (v5, true, (w64 (v4.2.1 + 1)), v4.2.2.1))) else (Option.bind ((bif ((List.length (v5) : Int) == a3) then (some (true, v4.2.1)) else (Option.bind (literal_reader_word_h ((S_literal_reader.mk (a0.f_s) (v4.2.1))) ((⟨#[44, 32]⟩ : ByteArray))) fun v7 => (some ((!v7.1), v7.2)))) : Option ((Bool) × (Int))) fun (v9 : (Bool) × (Int)) => (bif v9.1 then (some (.inr (([] : List Va), false, v9.2, v4.2.2.1))) else (some (.inl (v9.2, v4.2.2.1, v5))))))))))
def literal_reader_list_h3 (a0 : S_literal_reader) (a1 : Int) (a2 : Int) (a3 : Int) (a4 : Int) : Option ((List Va) × (Bool) × (Int) × (Int)) := (Option.bind (literal_reader_word_h (a0) ((Utf8.encode a1))) fun v1 => (bif (!v1.1) then (some (([] : List Va), false, v1.2, a4)) else (Option.bind (literal_reader_peek_h ((S_literal_reader.mk (a0.f_s) (v1.2)))) fun v2 => (bif (v2 == a2) then (some (([] : List Va), true, (w64 (v1.2 + 1)), a4)) else (Option.bind (loopN (literal_reader_list_h3_l1 a0 a2 a3) fuel (v1.2, a4, ([] : List (Va)))) fun (v11 : (List Va) × (Bool) × (Int) × (Int)) => (some (v11.1, v11.2.1, v11.2.2.1, v11.2.2.2)))))))
theorem literal_reader_list_h3_ok (a0 : S_literal_reader) (a1 : Int) (a2 : Int) (a3 : Int) (a4 : Int) (r : (List Va) × (Bool) × (Int) × (Int)) (h : literal_reader_list_h3 a0 a1 a2 a3 a4 = some r) : HCall Tryd.prog 54 ([(.ref 1 0 0), (.fz (eU8 (a1))), (.fz (eU8 (a2))), (fI (a3)), (.fn 77 [(.ref 2 0 0), (.ref 3 0 0)])] ++ []) [(1, (.box 49 [(fS (a0.f_s)), (fI (a0.f_at))])), (2, (.box 47 [(.ref 1 0 0)])), (3, (.box 3 [(fI (a4))]))] [1, 2, 3] (.ret (.fz (.tup [((eL 4 eVaR) (r.1)), (eB (r.2.1))]))) [(1, (.box 49 [(fS (a0.f_s)), (fI (r.2.2.1))])), (2, (.box 47 [(.ref 1 0 0)])), (3, (.box 3 [(fI (r.2.2.2))]))] [1, 2, 3] := by
 unfold literal_reader_list_h3 at h
 refine hcx (gi := 0) Tryd.func54 (by kernel_rfl) (by kernel_rfl) (by kernel_rfl) (by kernel_rfl) (by kernel_rfl) (by kernel_rfl) (by kernel_rfl) (by kernel_rfl) ?_
 intro p0 q0 w0
 refine nst 10 (s_convR (sr := 5) (t := 9) (x := (.tmp 16)) (ds := tt5) (d := tt9) (k := .u8) (n := a1) tt_ok (by kernel_rfl) (by kernel_rfl) (by kernel_rfl) (by kernel_rfl) (by kernel_rfl) (by kernel_rfl)) (by kernel_rfl) ?_
 refine hcl 0 [.one .keep, .one .keep] [(1, 1)] [(1, 1)] [1] h (literal_reader_word_h_ok _ _) (fun _ => by kernel_rfl) fun v1 h => ?_
 refine cd 2 h (by kernel_rfl) (fun h => ?_) fun h => ?_
 ·obtain rfl := Option.some.inj h; exact lh 6 ⟨63, [(10, (.fz ((eL 4 eVaR) (([] : List Va))))), (11, (fB (false)))], [(0, (.was p0 [1, 2, 3] q0 w0)), (1, (.box 49 [(fS (a0.f_s)), (fI (v1.2))])), (2, (.box 47 [(.ref 1 0 0)])), (3, (.box 3 [(fI (a4))]))], [0, 1, 2, 3], []⟩ (le_a (by kernel_rfl)) rfl rfl (by kernel_rfl) (by kernel_rfl)
 refine hcl 5 [.one .keep] [(1, 1)] [(1, 1)] [1] h (literal_reader_peek_h_ok _) (fun _ => by kernel_rfl) fun v2 h => ?_
 refine cd 3 h (by kernel_rfl) (fun h => ?_) fun h => ?_
 ·obtain rfl := Option.some.inj h; exact lh 17 ⟨63, [(10, (.fz ((eL 4 eVaR) (([] : List Va))))), (11, (fB (true)))], [(0, (.was p0 [1, 2, 3] q0 w0)), (1, (.box 49 [(fS (a0.f_s)), (fI ((w64 (v1.2 + 1))))])), (2, (.box 47 [(.ref 1 0 0)])), (3, (.box 3 [(fI (a4))]))], [0, 1, 2, 3], []⟩ (le_a (by kernel_rfl)) rfl rfl (by kernel_rfl) (by kernel_rfl)
 refine wle 6 (le_nilrow (e := 24) (size := 4) (t := 12) (id := 4) (by decide) (by kernel_rfl) (by kernel_rfl)) (by kernel_rfl) ?_
 refine lp1 0 (fun v3 => ⟨63, [(0, (.ref 1 0 0)), (2, (.fz (eU8 (a2)))), (3, (fI (a3))), (4, (.fn 77 [(.ref 2 0 0), (.ref 3 0 0)])), (12, (.row 4 (List.length (v3.2.2))))], [(0, (.was p0 [1, 2, 3] q0 w0)), (1, (.box 49 [(fS (a0.f_s)), (fI (v3.1))])), (2, (.box 47 [(.ref 1 0 0)])), (3, (.box 3 [(fI (v3.2.1))])), (4, (.frow 24 4 (List.map eVaR (v3.2.2))))], [4, 0, 1, 2, 3], []⟩) .ret (fun v11 => ⟨63, [(10, (.fz ((eL 4 eVaR) (v11.1)))), (11, (fB (v11.2.1)))], [(0, (.was p0 [1, 2, 3] q0 w0)), (1, (.box 49 [(fS (a0.f_s)), (fI (v11.2.2.1))])), (2, (.box 47 [(.ref 1 0 0)])), (3, (.box 3 [(fI (v11.2.2.2))]))], [0, 1, 2, 3], []⟩) h (by kernel_rfl) (by kernel_rfl) (fun v3 r h => ?_) fun v11 h => ?_
 ·unfold literal_reader_list_h3_l1 at h
  refine hcl 4 [] [(2, 1), (1, 2), (3, 3)] [(1, 2), (2, 1), (3, 3), (4, 5)] [1, 2, 3] h (literal_reader_rows_1_h_ok _ _) (fun _ => by kernel_rfl) fun v4 h => ?_
  refine cd 13 h (by kernel_rfl) (fun h => ?_) fun h => ?_
  ·cases h; exact lo 6 (by kernel_rfl)
  refine wle 5 ((le_a (by kernel_rfl) : LeSt _ ⟨63, [(0, (.ref 1 0 0)), (2, (.fz (eU8 (a2)))), (3, (fI (a3))), (4, (.fn 77 [(.ref 2 0 0), (.ref 3 0 0)])), (38, (.row 4 (List.length (v3.2.2)))), (39, (.fz (eVa ((Va.mk (v4.2.2.2.1) (0) ((⟨#[]⟩ : ByteArray)) (v4.2.2.2.2))))))], [(0, (.was p0 [1, 2, 3] q0 w0)), (1, (.box 49 [(fS (a0.f_s)), (fI (v4.2.1))])), (2, (.box 47 [(.ref 1 0 0)])), (3, (.box 3 [(fI (v4.2.2.1))])), (4, (.frow 24 4 (List.map eVaR (v3.2.2))))], [4, 0, 1, 2, 3], []⟩)) (by kernel_rfl) ?_
  refine wle 1 (le_eq (t := 40) (x := .lim 4 1 [eVa ((Va.mk (v4.2.2.2.1) (0) ((⟨#[]⟩ : ByteArray)) (v4.2.2.2.2)))]) (y := .lim 4 1 (List.map eVaR ([(Va.mk (v4.2.2.2.1) (0) ((⟨#[]⟩ : ByteArray)) (v4.2.2.2.2))] : List (Va)))) (by kernel_rfl) (by simp only [List.map, eVaR_eq])) (by kernel_rfl) ?_
  refine ap nVaR 0 h (by kernel_rfl) fun v5 h => ?_
  refine hcl 6 [.one .keep] [(1, 1)] [(1, 1)] [1] h (literal_reader_peek_h_ok _) (fun _ => by kernel_rfl) fun v6 h => ?_
  refine cd 3 h (by kernel_rfl) (fun h => ?_) fun h => ?_
  ·refine wle 17 (le_freezeTs (id := 4) (n := List.length (v5)) (e := 24) (size := 4) (xs := List.map eVaR (v5)) [10] ⟨by kernel_rfl, trivial⟩ (by kernel_rfl) (by simp)) (by kernel_rfl) ?_
   cases h; exact lo 1 (by kernel_rfl)
  refine jn1 2 .normal (fun v9 => ⟨63, [(0, (.ref 1 0 0)), (2, (.fz (eU8 (a2)))), (3, (fI (a3))), (4, (.fn 77 [(.ref 2 0 0), (.ref 3 0 0)])), (12, (.row 4 (List.length (v5)))), (62, (fB (v9.1)))], [(0, (.was p0 [1, 2, 3] q0 w0)), (1, (.box 49 [(fS (a0.f_s)), (fI (v9.2))])), (2, (.box 47 [(.ref 1 0 0)])), (3, (.box 3 [(fI (v4.2.2.1))])), (4, (.frow 24 4 (List.map eVaR (v5))))], [4, 0, 1, 2, 3], []⟩) h (by kernel_rfl) (fun v9 h => ?_) fun v9 h => ?_
  ·refine nst 2 (n_len_row (t := 22) (x := (.tmp 54)) (d := tt22) (id := 4) (e2 := 24) (e := 24) (size := 4) (n := List.length (v5)) (xs := List.map eVaR (v5)) tt_ok (by kernel_rfl) (by kernel_rfl) rfl (by kernel_rfl) (by kernel_rfl) (by simp)) (by kernel_rfl) ?_
   refine gd 3 h (by kernel_rfl) (fun h => ?_) fun h => ?_
   ·cases h; exact lj 5 (by kernel_rfl)
   refine hcl 1 [.one .keep, .one .keep] [(1, 1)] [(1, 1)] [1] h (literal_reader_word_h_ok _ _) (fun _ => by kernel_rfl) fun v7 h => ?_
   cases h; exact lj 3 (by kernel_rfl)
  refine cd 0 h (by kernel_rfl) (fun h => ?_) fun h => ?_
  ·cases h; exact lo 6 (by kernel_rfl)
  cases h; exact lj 1 (by kernel_rfl)
 obtain rfl := Option.some.inj h; exact lh 0 ⟨63, [(10, (.fz ((eL 4 eVaR) (v11.1)))), (11, (fB (v11.2.1)))], [(0, (.was p0 [1, 2, 3] q0 w0)), (1, (.box 49 [(fS (a0.f_s)), (fI (v11.2.2.1))])), (2, (.box 47 [(.ref 1 0 0)])), (3, (.box 3 [(fI (v11.2.2.2))]))], [0, 1, 2, 3], []⟩ (le_a (by kernel_rfl)) rfl rfl (by kernel_rfl) (by kernel_rfl)

def literal_reader_bits_h_l1 (a0 : S_literal_reader) (v1 : (Int) × (Int) × (Int)) : Option (((Int) × (Int) × (Int)) ⊕ ((((Int) × (Int)) ⊕ ((Int))))) := (bif (decide (v1.2.1 < 2)) then (Option.bind (literal_reader_peek_h ((S_literal_reader.mk (a0.f_s) (v1.2.2)))) fun v2 => (Option.bind (literal_hex (v2)) fun v3 => (Option.bind ((bif (decide ((a0.f_s.size : Int) ≤ v1.2.2)) then (some (true)) else (some ((decide (v3 < 0))))) : Option ((Bool))) fun (v5 : (Bool)) => (bif v5 then (some (.inr (.inr (v1.2.2)))) else (some (.inl ((w64 ((w64 (16 * v1.1)) + v3)), (w64 (v1.2.1 + 1)), (w64 (v1.2.2 + 1))))))))) else (some (.inr (.inl (v1.1, v1.2.2)))))
def literal_reader_bits_h (a0 : S_literal_reader) : Option ((Bool) × (Int) × (Int) × (Int)) := (Option.bind (loopN (literal_reader_bits_h_l1 a0) fuel (0, 0, (w64 (a0.f_at + 2)))) fun (v6 : (((Int) × (Int)) ⊕ ((Int)))) => Sum.elim (fun v7 => (some (true, v7.2, 4, v7.1))) (fun v8 => (some (false, v8, 0, 0))) v6)
theorem literal_reader_bits_h_ok (a0 : S_literal_reader) (r : (Bool) × (Int) × (Int) × (Int)) (h : literal_reader_bits_h a0 = some r) : HCall Tryd.prog 59 ([(.ref 1 0 0)] ++ []) [(1, (.box 49 [(fS (a0.f_s)), (fI (a0.f_at))]))] [1] (.ret (.fz (.tup [(.agg [(eI (r.2.2.1)), (eI (r.2.2.2)), (eS ((⟨#[]⟩ : ByteArray))), (.atom (.slice none 0 0))]), (eB (r.1))]))) [(1, (.box 49 [(fS (a0.f_s)), (fI (r.2.1))])), (2, (.box 24 [(fI (r.2.2.1)), (fI (r.2.2.2)), (fS ((⟨#[]⟩ : ByteArray))), (.fz (.atom (.slice none 0 0)))]))] [1, 2] := by
 unfold literal_reader_bits_h at h
 refine hcx (gi := 0) Tryd.func59 (by kernel_rfl) (by kernel_rfl) (by kernel_rfl) (by kernel_rfl) (by kernel_rfl) (by kernel_rfl) (by kernel_rfl) (by kernel_rfl) ?_
 intro p0 q0 w0
 refine lpx 26 (fun v1 => ⟨47, [(0, (.ref 1 0 0)), (2, (.ref 2 0 0)), (4, (fI (v1.1))), (13, (fI (v1.2.1)))], [(0, (.was p0 [1] q0 w0)), (1, (.box 49 [(fS (a0.f_s)), (fI (v1.2.2))])), (2, (.box 24 [(fI (0)), (fI (0)), (fS ((⟨#[]⟩ : ByteArray))), (.fz (.atom (.slice none 0 0)))]))], [2, 0, 1], []⟩) (fun v6 e st => Sum.elim (fun p => e = .exit 0 ∧ LeSt st ⟨47, [(2, (.ref 2 0 0)), (4, (fI (p.1)))], [(0, (.was p0 [1] q0 w0)), (1, (.box 49 [(fS (a0.f_s)), (fI (p.2))])), (2, (.box 24 [(fI (0)), (fI (0)), (fS ((⟨#[]⟩ : ByteArray))), (.fz (.atom (.slice none 0 0)))]))], [2, 0, 1], []⟩) (fun p => e = .ret ∧ LeSt st ⟨47, [(2, (.ref 2 0 0)), (3, (fB (false)))], [(0, (.was p0 [1] q0 w0)), (1, (.box 49 [(fS (a0.f_s)), (fI (p))])), (2, (.box 24 [(fI (0)), (fI (0)), (fS ((⟨#[]⟩ : ByteArray))), (.fz (.atom (.slice none 0 0)))]))], [2, 0, 1], []⟩) v6) h (by kernel_rfl) (le_a (by kernel_rfl)) (fun v1 r h => ?_) fun v6 h e st' hq => ?_
 ·unfold literal_reader_bits_h_l1 at h
  refine cd 5 h (by kernel_rfl) (fun h => ?_) fun h => ?_
  ·refine hcl 6 [.one .keep] [(1, 1)] [(1, 1)] [1] h (literal_reader_peek_h_ok _) (fun _ => by kernel_rfl) fun v2 h => ?_
   refine cl 0 h (literal_hex_ok _) (by kernel_rfl) fun v3 h => ?_
   refine jn1 4 .normal (fun v5 => ⟨47, [(0, (.ref 1 0 0)), (2, (.ref 2 0 0)), (4, (fI (v1.1))), (5, (fI (v3))), (13, (fI (v1.2.1))), (31, (fB (v5)))], [(0, (.was p0 [1] q0 w0)), (1, (.box 49 [(fS (a0.f_s)), (fI (v1.2.2))])), (2, (.box 24 [(fI (0)), (fI (0)), (fS ((⟨#[]⟩ : ByteArray))), (.fz (.atom (.slice none 0 0)))]))], [2, 0, 1], []⟩) h (by kernel_rfl) (fun v5 h => ?_) fun v5 h => ?_
   ·refine dw 0 9 (by kernel_rfl) ?_
    refine gd 12 h (by kernel_rfl) (fun h => ?_) fun h => ?_
    ·cases h; exact lj 4 (by kernel_rfl)
    cases h; exact lj 4 (by kernel_rfl)
   refine cd 0 h (by kernel_rfl) (fun h => ?_) fun h => ?_
   ·cases h; exact lo 7 (by kernel_rfl)
   cases h; exact lj 23 (by kernel_rfl)
  cases h; exact lo 1 (by kernel_rfl)
 rcases v6 with v7 | v8
 ·try simp only [Sum.elim_inl, Sum.elim_inr] at h
  obtain ⟨rfl, hle⟩ := hq
  refine ⟨_, hle, ?_⟩
  obtain rfl := Option.some.inj h; exact lh 8 ⟨47, [(2, (.ref 2 0 0)), (3, (fB (true)))], [(0, (.was p0 [1] q0 w0)), (1, (.box 49 [(fS (a0.f_s)), (fI (v7.2))])), (2, (.box 24 [(fI (4)), (fI (v7.1)), (fS ((⟨#[]⟩ : ByteArray))), (.fz (.atom (.slice none 0 0)))]))], [0, 1, 2], []⟩ (le_a (by kernel_rfl)) rfl rfl (by kernel_rfl) (by kernel_rfl)
 ·try simp only [Sum.elim_inl, Sum.elim_inr] at h
  obtain ⟨rfl, hle⟩ := hq
  refine ⟨_, hle, ?_⟩
  obtain rfl := Option.some.inj h; exact lh 0 ⟨47, [(2, (.ref 2 0 0)), (3, (fB (false)))], [(0, (.was p0 [1] q0 w0)), (1, (.box 49 [(fS (a0.f_s)), (fI (v8))])), (2, (.box 24 [(fI (0)), (fI (0)), (fS ((⟨#[]⟩ : ByteArray))), (.fz (.atom (.slice none 0 0)))]))], [0, 1, 2], []⟩ (le_a (by kernel_rfl)) rfl rfl (by kernel_rfl) (by kernel_rfl)

def literal_reader_value_h (a0 : S_literal_reader) : Option ((Bool) × (Int) × (Int) × (Int) × (ByteArray) × (List Va)) := (Option.bind (literal_reader_peek_h (a0)) fun v1 => (Option.bind ((bif (v1 == 116) then (Option.bind (literal_reader_word_h (a0) ((⟨#[116, 114, 117, 101]⟩ : ByteArray))) fun v2 => (some (.inr (v2.1, v2.2, 1, 1, (⟨#[]⟩ : ByteArray), ([] : List Va))))) else (bif (v1 == 102) then (Option.bind (literal_reader_word_h (a0) ((⟨#[102, 97, 108, 115, 101]⟩ : ByteArray))) fun v3 => (some (.inr (v3.1, v3.2, 1, 0, (⟨#[]⟩ : ByteArray), ([] : List Va))))) else (bif (v1 == 34) then (Option.bind (literal_reader_text_h (a0) (0) (64)) fun v4 => (some (.inr (v4.2.1, v4.2.2, 3, 0, v4.1, ([] : List Va))))) else (bif (v1 == 114) then (Option.bind (literal_reader_text_h ((S_literal_reader.mk (a0.f_s) ((w64 (a0.f_at + 1))))) (1) (40)) fun v5 => (some (.inr (v5.2.1, v5.2.2, 8, 0, v5.1, ([] : List Va))))) else (bif (v1 == 91) then (Option.bind (literal_reader_list_h (a0) (91) (93) (16)) fun v6 => (some (.inr (v6.2.1, v6.2.2, 5, 0, (⟨#[]⟩ : ByteArray), v6.1)))) else (bif (v1 == 123) then (Option.bind (literal_reader_list_h2 (a0) (123) (125) (16)) fun v7 => (some (.inr (v7.2.1, v7.2.2, 6, 0, (⟨#[]⟩ : ByteArray), v7.1)))) else (bif (v1 == 60) then (Option.bind (literal_reader_rows_h (a0)) fun v8 => (Option.bind (literal_reader_list_h3 (a0) (60) (62) (8) (0)) fun v9 => (some (.inr (v9.2.1, v9.2.2.1, 7, 0, (⟨#[]⟩ : ByteArray), v9.1))))) else (bif (v1 == 48) then (Option.bind (cutS a0.f_s a0.f_at a0.f_s.size) fun v10 => (Option.bind (strings_HasPrefix (v10) ((⟨#[48, 120]⟩ : ByteArray))) fun v11 => (bif v11 then (Option.bind (literal_reader_bits_h (a0)) fun v12 => (some (.inr (v12.1, v12.2.1, v12.2.2.1, v12.2.2.2, (⟨#[]⟩ : ByteArray), ([] : List Va))))) else (some (.inl ()))))) else (some (.inl ())))))))))) : Option (((Unit) ⊕ ((Bool) × (Int) × (Int) × (Int) × (ByteArray) × (List Va))))) fun (v13 : ((Unit) ⊕ ((Bool) × (Int) × (Int) × (Int) × (ByteArray) × (List Va)))) => Sum.elim (fun v14 => (Option.bind (literal_reader_number_h (a0)) fun v15 => (some (v15.1, v15.2.1, 2, v15.2.2, (⟨#[]⟩ : ByteArray), ([] : List Va))))) (fun v16 => (some (v16.1, v16.2.1, v16.2.2.1, v16.2.2.2.1, v16.2.2.2.2.1, v16.2.2.2.2.2))) v13))
theorem literal_reader_value_h_ok (a0 : S_literal_reader) (r : (Bool) × (Int) × (Int) × (Int) × (ByteArray) × (List Va)) (h : literal_reader_value_h a0 = some r) : HCall Tryd.prog 30 ([(.ref 1 0 0)] ++ []) [(1, (.box 49 [(fS (a0.f_s)), (fI (a0.f_at))]))] [1] (.ret (.fz (.tup [(.agg [(eI (r.2.2.1)), (eI (r.2.2.2.1)), (eS (r.2.2.2.2.1)), ((eL 4 eVaR) (r.2.2.2.2.2))]), (eB (r.1))]))) [(1, (.box 49 [(fS (a0.f_s)), (fI (r.2.1))])), (2, (.box 24 [(fI (r.2.2.1)), (fI (r.2.2.2.1)), (fS (r.2.2.2.2.1)), (.fz ((eL 4 eVaR) (r.2.2.2.2.2)))]))] [1, 2] := by
 unfold literal_reader_value_h at h
 refine hcx (gi := 0) Tryd.func30 (by kernel_rfl) (by kernel_rfl) (by kernel_rfl) (by kernel_rfl) (by kernel_rfl) (by kernel_rfl) (by kernel_rfl) (by kernel_rfl) ?_
 intro p0 q0 w0
 refine hcl 9 [.one .keep] [(1, 1)] [(1, 1)] [1] h (literal_reader_peek_h_ok _) (fun _ => by kernel_rfl) fun v1 h => ?_
 refine jnQ 7 (fun v13 e st => Sum.elim (fun p => e = .normal ∧ LeSt st ⟨111, [(0, (.ref 1 0 0)), (2, (.ref 2 0 0))], [(0, (.was p0 [1] q0 w0)), (1, (.box 49 [(fS (a0.f_s)), (fI (a0.f_at))])), (2, (.box 24 [(fI (0)), (fI (0)), (fS ((⟨#[]⟩ : ByteArray))), (.fz (.atom (.slice none 0 0)))]))], [2, 0, 1], []⟩) (fun p => e = .ret ∧ LeSt st ⟨111, [(2, (.ref 2 0 0)), (3, (fB (p.1)))], [(0, (.was p0 [1] q0 w0)), (1, (.box 49 [(fS (a0.f_s)), (fI (p.2.1))])), (2, (.box 24 [(fI (p.2.2.1)), (fI (p.2.2.2.1)), (fS (p.2.2.2.2.1)), (.fz ((eL 4 eVaR) (p.2.2.2.2.2)))]))], [2, 0, 1], []⟩) v13) h (by kernel_rfl) (fun v13 h => ?_) fun v13 h e st' hq => ?_
 ·refine cd 5 h (by kernel_rfl) (fun h => ?_) fun h => ?_
  ·refine hcl 4 [.one .keep, .one .keep] [(1, 1)] [(1, 1)] [1] h (literal_reader_word_h_ok _ _) (fun _ => by kernel_rfl) fun v2 h => ?_
   cases h; exact lj 4 (by kernel_rfl)
  refine cd 5 h (by kernel_rfl) (fun h => ?_) fun h => ?_
  ·refine hcl 4 [.one .keep, .one .keep] [(1, 1)] [(1, 1)] [1] h (literal_reader_word_h_ok _ _) (fun _ => by kernel_rfl) fun v3 h => ?_
   cases h; exact lj 4 (by kernel_rfl)
  refine cd 5 h (by kernel_rfl) (fun h => ?_) fun h => ?_
  ·refine hcl 3 [.one .keep, .one .keep, .one .keep] [(1, 1)] [(1, 1)] [1] h (literal_reader_text_h_ok _ _ _) (fun _ => by kernel_rfl) fun v4 h => ?_
   cases h; exact lj 15 (by kernel_rfl)
  refine cd 5 h (by kernel_rfl) (fun h => ?_) fun h => ?_
  ·refine hcl 14 [.one .keep, .one .keep, .one .keep] [(1, 1)] [(1, 1)] [1] h (literal_reader_text_h_ok _ _ _) (fun _ => by kernel_rfl) fun v5 h => ?_
   cases h; exact lj 15 (by kernel_rfl)
  refine cd 5 h (by kernel_rfl) (fun h => ?_) fun h => ?_
  ·refine hcl 5 [.one .keep, .one .keep, .one .keep, .one .keep, .one .keep] [(1, 1)] [(1, 1)] [1] h (literal_reader_list_h_ok _ _ _ _) (fun _ => by kernel_rfl) fun v6 h => ?_
   cases h; exact lj 15 (by kernel_rfl)
  refine cd 5 h (by kernel_rfl) (fun h => ?_) fun h => ?_
  ·refine hcl 5 [.one .keep, .one .keep, .one .keep, .one .keep, .one .keep] [(1, 1)] [(1, 1)] [1] h (literal_reader_list_h2_ok _ _ _ _) (fun _ => by kernel_rfl) fun v7 h => ?_
   cases h; exact lj 15 (by kernel_rfl)
  refine cd 5 h (by kernel_rfl) (fun h => ?_) fun h => ?_
  ·refine hcl 4 [.one .keep] [(1, 1)] [(1, 1), (2, 3), (3, 4)] [1] h (literal_reader_rows_h_ok _) (fun _ => by kernel_rfl) fun v8 h => ?_
   refine hcl 0 [.one .keep, .one .keep, .one .keep, .one .keep, .one .keep] [(1, 1), (3, 2), (4, 3)] [(1, 1), (2, 3), (3, 4)] [1, 2, 3] h (literal_reader_list_h3_ok _ _ _ _ _) (fun _ => by kernel_rfl) fun v9 h => ?_
   cases h; exact lj 15 (by kernel_rfl)
  refine cd 5 h (by kernel_rfl) (fun h => ?_) fun h => ?_
  ·refine dw 1 8 (by kernel_rfl) ?_
   obtain ⟨v10, hv10, h⟩ := Option.bind_eq_some_iff.1 h
   refine nst 9 (s_cutS (t := 9) (x := (.tmp 96)) (lo := (some (.tmp 100))) (hi := none) (d := tt9) (s := a0.f_s) (l := (some a0.f_at)) (h := none) hv10 tt_ok (by kernel_rfl) (by kernel_rfl) (by kernel_rfl) (by kernel_rfl) (by kernel_rfl) (by kernel_rfl)) (by kernel_rfl) ?_
   refine cl 0 h (strings_HasPrefix_ok _ _) (by kernel_rfl) fun v11 h => ?_
   refine cd 1 h (by kernel_rfl) (fun h => ?_) fun h => ?_
   ·refine hcl 3 [.one .keep] [(1, 1)] [(1, 1), (2, 3)] [1] h (literal_reader_bits_h_ok _) (fun _ => by kernel_rfl) fun v12 h => ?_
    cases h; exact lj 6 (by kernel_rfl)
   cases h; exact lj 1 (by kernel_rfl)
  cases h; exact lj 1 (by kernel_rfl)
 rcases v13 with v14 | v16
 ·try simp only [Sum.elim_inl, Sum.elim_inr] at h
  obtain ⟨rfl, hle⟩ := hq
  refine ⟨_, hle, ?_⟩
  refine hcl 3 [.one .keep] [(1, 1)] [(1, 1), (2, 3)] [1] h (literal_reader_number_h_ok _) (fun _ => by kernel_rfl) fun v15 h => ?_
  obtain rfl := Option.some.inj h; exact lh 6 ⟨111, [(2, (.ref 2 0 0)), (3, (fB (v15.1)))], [(0, (.was p0 [1] q0 w0)), (1, (.box 49 [(fS (a0.f_s)), (fI (v15.2.1))])), (2, (.box 24 [(fI (2)), (fI (v15.2.2)), (fS ((⟨#[]⟩ : ByteArray))), (.fz ((eL 4 eVaR) (([] : List Va))))]))], [0, 1, 2], []⟩ (le_a (by kernel_rfl)) rfl rfl (by kernel_rfl) (by kernel_rfl)
 ·try simp only [Sum.elim_inl, Sum.elim_inr] at h
  obtain ⟨rfl, hle⟩ := hq
  refine ⟨_, hle, ?_⟩
  obtain rfl := Option.some.inj h; exact lh 0 ⟨111, [(2, (.ref 2 0 0)), (3, (fB (v16.1)))], [(0, (.was p0 [1] q0 w0)), (1, (.box 49 [(fS (a0.f_s)), (fI (v16.2.1))])), (2, (.box 24 [(fI (v16.2.2.1)), (fI (v16.2.2.2.1)), (fS (v16.2.2.2.2.1)), (.fz ((eL 4 eVaR) (v16.2.2.2.2.2)))]))], [0, 1, 2], []⟩ (le_a (by kernel_rfl)) rfl rfl (by kernel_rfl) (by kernel_rfl)

def literal_Parse (a0 : ByteArray) : Option ((Va) × (Int) × (Int)) := (Option.bind (literal_reader_value_h ((S_literal_reader.mk (a0) (0)))) fun v1 => (Option.bind ((bif (!v1.1) then (some (true)) else (some ((decide (v1.2.1 < (a0.size : Int)))))) : Option ((Bool))) fun (v3 : (Bool)) => (bif v3 then (some ((Va.mk (0) (0) ((⟨#[]⟩ : ByteArray)) (([] : List Va))), v1.2.1, 8)) else (some ((Va.mk (v1.2.2.1) (v1.2.2.2.1) (v1.2.2.2.2.1) (v1.2.2.2.2.2)), 0, 0)))))
theorem literal_Parse_ok (a0 : ByteArray) (r : (Va) × (Int) × (Int)) (h : literal_Parse a0 = some r) : PCall Tryd.prog 14 [eS a0] (.tup [eVa (r.1), eI (r.2.1), eI (r.2.2)]) := by
 unfold literal_Parse at h
 refine pcl [.ag [.keep, .keep, .keep, .sl 4], .one .keep, .one .keep] Tryd.func14 (by kernel_rfl) (by kernel_rfl) (by kernel_rfl) ?_
 refine hcl 16 [.one .keep] [(2, 1)] [(1, 2), (2, 3)] [1] h (literal_reader_value_h_ok _) (fun _ => by kernel_rfl) fun v1 h => ?_
 refine jn1 9 .normal (fun v3 => ⟨33, [(2, (.ref 1 0 0)), (5, (.ref 2 0 0)), (6, (.ref 4 0 0)), (26, (fB (v3)))], [(1, (.box 24 [(fI (0)), (fI (0)), (fS ((⟨#[]⟩ : ByteArray))), (.fz (.atom (.slice none 0 0)))])), (2, (.box 49 [(fS (a0)), (fI (v1.2.1))])), (4, (.box 24 [(fI (v1.2.2.1)), (fI (v1.2.2.2.1)), (fS (v1.2.2.2.2.1)), (.fz ((eL 4 eVaR) (v1.2.2.2.2.2)))]))], [4, 2, 1], []⟩) h (by kernel_rfl) (fun v3 h => ?_) fun v3 h => ?_
 ·refine gd 4 h (by kernel_rfl) (fun h => ?_) fun h => ?_
  ·cases h; exact lj 9 (by kernel_rfl)
  cases h; exact lj 9 (by kernel_rfl)
 refine cd 0 h (by kernel_rfl) (fun h => ?_) fun h => ?_
 ·refine dz 1 6 [5] [1] (List.range 5) (by kernel_rfl) ?_
  cases h; exact lq 11 (by kernel_rfl)
 cases h; exact lq 9 (by kernel_rfl)

def literal_ParseAll_l1 (a0 : ByteArray) (v1 : (Int) × (List Va)) : Option (((Int) × (List Va)) ⊕ ((List Va) × (Int) × (Int))) := (Option.bind (literal_reader_value_h ((S_literal_reader.mk (a0) (v1.1)))) fun v2 => (bif (!v2.1) then (some (.inr (([] : List Va), v2.2.1, 8))) else (Option.bind (app 56 v1.2 ([(Va.mk (v2.2.2.1) (v2.2.2.2.1) (v2.2.2.2.2.1) (v2.2.2.2.2.2))] : List (Va))) fun v3 => (bif (v2.2.1 == (a0.size : Int)) then (some (.inr (v3, 0, 0))) else (Option.bind (literal_reader_word_h ((S_literal_reader.mk (a0) (v2.2.1))) ((⟨#[44, 32]⟩ : ByteArray))) fun v4 => (bif (!v4.1) then (some (.inr (([] : List Va), v4.2, 8))) else (some (.inl (v4.2, v3)))))))))
def literal_ParseAll (a0 : ByteArray) : Option ((List Va) × (Int) × (Int)) := (bif (a0.toList == (⟨#[]⟩ : ByteArray).toList) then (some (([] : List Va), 0, 0)) else (Option.bind (loopN (literal_ParseAll_l1 a0) fuel (0, ([] : List (Va)))) fun (v6 : (List Va) × (Int) × (Int)) => (some v6)))
theorem literal_ParseAll_ok (a0 : ByteArray) (r : (List Va) × (Int) × (Int)) (h : literal_ParseAll a0 = some r) : PCall Tryd.prog 20 [eS a0] (.tup [(eL 4 eVaR) (r.1), eI (r.2.1), eI (r.2.2)]) := by
 unfold literal_ParseAll at h
 refine pcl [.one (.sl 4), .one .keep, .one .keep] Tryd.func20 (by kernel_rfl) (by kernel_rfl) (by kernel_rfl) ?_
 refine cd 12 h (by kernel_rfl) (fun h => ?_) fun h => ?_
 ·cases h; exact lq 7 (by kernel_rfl)
 refine wle 13 (le_nilrow (e := 24) (size := 4) (t := 6) (id := 2) (by decide) (by kernel_rfl) (by kernel_rfl)) (by kernel_rfl) ?_
 refine lpx 0 (fun v1 => ⟨44, [(0, (fS (a0))), (5, (.ref 1 0 0)), (6, (.row 2 (List.length (v1.2))))], [(1, (.box 49 [(fS (a0)), (fI (v1.1))])), (2, (.frow 24 4 (List.map eVaR (v1.2))))], [2, 1], []⟩) (fun v6 e st => e = .ret ∧ retX TT st Tryd.f20.results.toList [.one (.sl 4), .one .keep, .one .keep] = some (.tup [(eL 4 eVaR) (v6.1), eI (v6.2.1), eI (v6.2.2)])) h (by kernel_rfl) (le_a (by kernel_rfl)) (fun v1 r h => ?_) fun v6 h e st' hq => ?_
 ·unfold literal_ParseAll_l1 at h
  refine hcl 4 [.one .keep] [(1, 1)] [(1, 1), (2, 3)] [1] h (literal_reader_value_h_ok _) (fun _ => by kernel_rfl) fun v2 h => ?_
  refine cd 13 h (by kernel_rfl) (fun h => ?_) fun h => ?_
  ·refine dw 1 5 (by kernel_rfl) ?_
   cases h; exact lor 10 (by kernel_rfl)
  refine wle 5 ((le_a (by kernel_rfl) : LeSt _ ⟨44, [(0, (fS (a0))), (5, (.ref 1 0 0)), (25, (.row 2 (List.length (v1.2)))), (26, (.fz (eVa ((Va.mk (v2.2.2.1) (v2.2.2.2.1) (v2.2.2.2.2.1) (v2.2.2.2.2.2))))))], [(1, (.box 49 [(fS (a0)), (fI (v2.2.1))])), (2, (.frow 24 4 (List.map eVaR (v1.2))))], [2, 1], []⟩)) (by kernel_rfl) ?_
  refine wle 1 (le_eq (t := 27) (x := .lim 4 1 [eVa ((Va.mk (v2.2.2.1) (v2.2.2.2.1) (v2.2.2.2.2.1) (v2.2.2.2.2.2)))]) (y := .lim 4 1 (List.map eVaR ([(Va.mk (v2.2.2.1) (v2.2.2.2.1) (v2.2.2.2.2.1) (v2.2.2.2.2.2))] : List (Va)))) (by kernel_rfl) (by simp only [List.map, eVaR_eq])) (by kernel_rfl) ?_
  refine ap nVaR 0 h (by kernel_rfl) fun v3 h => ?_
  refine cd 13 h (by kernel_rfl) (fun h => ?_) fun h => ?_
  ·refine wle 7 (le_freeze (t := 2) (id := 2) (n := List.length (v3)) (e := 24) (size := 4) (xs := List.map eVaR (v3)) (by kernel_rfl) (by kernel_rfl) (by simp)) (by kernel_rfl) ?_
   cases h; exact lor 1 (by kernel_rfl)
  refine hcl 4 [.one .keep, .one .keep] [(1, 1)] [(1, 1)] [1] h (literal_reader_word_h_ok _ _) (fun _ => by kernel_rfl) fun v4 h => ?_
  refine cd 2 h (by kernel_rfl) (fun h => ?_) fun h => ?_
  ·refine dw 1 5 (by kernel_rfl) ?_
   cases h; exact lor 10 (by kernel_rfl)
  cases h; exact lj 1 (by kernel_rfl)
 obtain ⟨rfl, hret⟩ := hq
 refine ⟨_, LeSt.refl, ?_⟩
 cases h; exact lv hret

def literal_reader_escaped_h (a0 : S_literal_reader) : Option ((Int) × (Bool) × (Int)) := (Option.bind (literal_reader_peek_h (a0)) fun v1 => (Option.bind ((bif (decide ((a0.f_s.size : Int) ≤ a0.f_at)) then (some (true)) else (bif (v1 != 34) then (bif (v1 != 92) then (some ((v1 != 120))) else (some (false))) else (some (false)))) : Option ((Bool))) fun (v3 : (Bool)) => (bif v3 then (some (0, false, a0.f_at)) else (bif (v1 != 120) then (some (v1, true, (w64 (a0.f_at + 1)))) else (Option.bind (literal_reader_peek_h ((S_literal_reader.mk (a0.f_s) ((w64 (a0.f_at + 1)))))) fun v4 => (Option.bind (literal_hex (v4)) fun v5 => (Option.bind ((bif (decide ((a0.f_s.size : Int) ≤ (w64 (a0.f_at + 1)))) then (some (true)) else (bif (decide (v5 < 0)) then (some (true)) else (bif (decide (2 ≤ v5)) then (some ((decide (v5 ≤ 6)))) else (some (false))))) : Option ((Bool))) fun (v7 : (Bool)) => (bif v7 then (some (0, false, (w64 (a0.f_at + 1)))) else (Option.bind (literal_reader_peek_h ((S_literal_reader.mk (a0.f_s) ((w64 ((w64 (a0.f_at + 1)) + 1)))))) fun v8 => (Option.bind (literal_hex (v8)) fun v9 => (Option.bind ((bif (decide ((a0.f_s.size : Int) ≤ (w64 ((w64 (a0.f_at + 1)) + 1)))) then (some (true)) else (bif (decide (v9 < 0)) then (some (true)) else (Option.bind (literal_plain ((IntKind.i32.wrap (w64 ((w64 (16 * v5)) + v9))))) fun v10 => (some (v10))))) : Option ((Bool))) fun (v12 : (Bool)) => (bif v12 then (some (0, false, (w64 ((w64 (a0.f_at + 1)) + 1)))) else (some ((wu8 (w64 ((w64 (16 * v5)) + v9))), true, (w64 ((w64 ((w64 (a0.f_at + 1)) + 1)) + 1))))))))))))))))
theorem literal_reader_escaped_h_ok (a0 : S_literal_reader) (r : (Int) × (Bool) × (Int)) (h : literal_reader_escaped_h a0 = some r) : HCall Tryd.prog 41 ([(.ref 1 0 0)] ++ []) [(1, (.box 49 [(fS (a0.f_s)), (fI (a0.f_at))]))] [1] (.ret (.fz (.tup [(eU8 (r.1)), (eB (r.2.1))]))) [(1, (.box 49 [(fS (a0.f_s)), (fI (r.2.2))]))] [1] := by
 unfold literal_reader_escaped_h at h
 refine hcx (gi := 0) Tryd.func41 (by kernel_rfl) (by kernel_rfl) (by kernel_rfl) (by kernel_rfl) (by kernel_rfl) (by kernel_rfl) (by kernel_rfl) (by kernel_rfl) ?_
 intro p0 q0 w0
 refine hcl 8 [.one .keep] [(1, 1)] [(1, 1)] [1] h (literal_reader_peek_h_ok _) (fun _ => by kernel_rfl) fun v1 h => ?_
 refine jn1 4 .normal (fun v3 => ⟨110, [(0, (.ref 1 0 0)), (4, (.fz (eU8 (v1)))), (30, (fB (v3)))], [(0, (.was p0 [1] q0 w0)), (1, (.box 49 [(fS (a0.f_s)), (fI (a0.f_at))]))], [0, 1], []⟩) h (by kernel_rfl) (fun v3 h => ?_) fun v3 h => ?_
 ·refine dw 0 9 (by kernel_rfl) ?_
  refine gd 12 h (by kernel_rfl) (fun h => ?_) fun h => ?_
  ·cases h; exact lj 12 (by kernel_rfl)
  refine gd 3 h (by kernel_rfl) (fun h => ?_) fun h => ?_
  ·refine gd 4 h (by kernel_rfl) (fun h => ?_) fun h => ?_
   ·cases h; exact lj 5 (by kernel_rfl)
   cases h; exact lj 5 (by kernel_rfl)
  cases h; exact lj 9 (by kernel_rfl)
 refine cd 0 h (by kernel_rfl) (fun h => ?_) fun h => ?_
 ·obtain rfl := Option.some.inj h; exact lh 6 ⟨110, [(2, (.fz (eU8 (0)))), (3, (fB (false)))], [(0, (.was p0 [1] q0 w0)), (1, (.box 49 [(fS (a0.f_s)), (fI (a0.f_at))]))], [0, 1], []⟩ (le_a (by kernel_rfl)) rfl rfl (by kernel_rfl) (by kernel_rfl)
 refine cd 18 h (by kernel_rfl) (fun h => ?_) fun h => ?_
 ·obtain rfl := Option.some.inj h; exact lh 7 ⟨110, [(2, (.fz (eU8 (v1)))), (3, (fB (true)))], [(0, (.was p0 [1] q0 w0)), (1, (.box 49 [(fS (a0.f_s)), (fI ((w64 (a0.f_at + 1))))]))], [0, 1], []⟩ (le_a (by kernel_rfl)) rfl rfl (by kernel_rfl) (by kernel_rfl)
 refine hcl 4 [.one .keep] [(1, 1)] [(1, 1)] [1] h (literal_reader_peek_h_ok _) (fun _ => by kernel_rfl) fun v4 h => ?_
 refine cl 0 h (literal_hex_ok _) (by kernel_rfl) fun v5 h => ?_
 refine jn1 4 .normal (fun v7 => ⟨110, [(0, (.ref 1 0 0)), (5, (fI (v5))), (65, (fB (v7)))], [(0, (.was p0 [1] q0 w0)), (1, (.box 49 [(fS (a0.f_s)), (fI ((w64 (a0.f_at + 1))))]))], [0, 1], []⟩) h (by kernel_rfl) (fun v7 h => ?_) fun v7 h => ?_
 ·refine dw 0 9 (by kernel_rfl) ?_
  refine gd 12 h (by kernel_rfl) (fun h => ?_) fun h => ?_
  ·cases h; exact lj 12 (by kernel_rfl)
  refine gd 4 h (by kernel_rfl) (fun h => ?_) fun h => ?_
  ·cases h; exact lj 8 (by kernel_rfl)
  refine gd 3 h (by kernel_rfl) (fun h => ?_) fun h => ?_
  ·cases h; exact lj 5 (by kernel_rfl)
  cases h; exact lj 5 (by kernel_rfl)
 refine cd 0 h (by kernel_rfl) (fun h => ?_) fun h => ?_
 ·obtain rfl := Option.some.inj h; exact lh 6 ⟨110, [(2, (.fz (eU8 (0)))), (3, (fB (false)))], [(0, (.was p0 [1] q0 w0)), (1, (.box 49 [(fS (a0.f_s)), (fI ((w64 (a0.f_at + 1))))]))], [0, 1], []⟩ (le_a (by kernel_rfl)) rfl rfl (by kernel_rfl) (by kernel_rfl)
 refine hcl 15 [.one .keep] [(1, 1)] [(1, 1)] [1] h (literal_reader_peek_h_ok _) (fun _ => by kernel_rfl) fun v8 h => ?_
 refine cl 0 h (literal_hex_ok _) (by kernel_rfl) fun v9 h => ?_
 refine jn1 4 .normal (fun v12 => ⟨110, [(0, (.ref 1 0 0)), (5, (fI (v5))), (6, (fI (v9))), (97, (fB (v12)))], [(0, (.was p0 [1] q0 w0)), (1, (.box 49 [(fS (a0.f_s)), (fI ((w64 ((w64 (a0.f_at + 1)) + 1))))]))], [0, 1], []⟩) h (by kernel_rfl) (fun v12 h => ?_) fun v12 h => ?_
 ·refine dw 0 18 (by kernel_rfl) ?_
  refine gd 11 h (by kernel_rfl) (fun h => ?_) fun h => ?_
  ·cases h; exact lj 13 (by kernel_rfl)
  refine gd 4 h (by kernel_rfl) (fun h => ?_) fun h => ?_
  ·cases h; exact lj 9 (by kernel_rfl)
  refine cl 6 h (literal_plain_ok _) (by kernel_rfl) fun v10 h => ?_
  cases h; exact lj 2 (by kernel_rfl)
 refine cd 0 h (by kernel_rfl) (fun h => ?_) fun h => ?_
 ·obtain rfl := Option.some.inj h; exact lh 6 ⟨110, [(2, (.fz (eU8 (0)))), (3, (fB (false)))], [(0, (.was p0 [1] q0 w0)), (1, (.box 49 [(fS (a0.f_s)), (fI ((w64 ((w64 (a0.f_at + 1)) + 1))))]))], [0, 1], []⟩ (le_a (by kernel_rfl)) rfl rfl (by kernel_rfl) (by kernel_rfl)
 obtain rfl := Option.some.inj h; exact lh 23 ⟨110, [(2, (.fz (eU8 ((wu8 (w64 ((w64 (16 * v5)) + v9))))))), (3, (fB (true)))], [(0, (.was p0 [1] q0 w0)), (1, (.box 49 [(fS (a0.f_s)), (fI ((w64 ((w64 ((w64 (a0.f_at + 1)) + 1)) + 1))))]))], [0, 1], []⟩ (le_a (by kernel_rfl)) rfl rfl (by kernel_rfl) (by kernel_rfl)

def literal_Unquote_l1 (a0 : ByteArray) (v2 : (Bool) × (Int) × (List Int)) : Option (((Bool) × (Int) × (List Int)) ⊕ ((((Int)) ⊕ ((ByteArray) × (Int) × (Int))))) := (bif v2.1 then (Option.bind (literal_reader_peek_h ((S_literal_reader.mk (a0) (v2.2.1)))) fun v3 => (Option.bind ((bif (decide ((a0.size : Int) ≤ v2.2.1)) then (some (true)) else (Option.bind (literal_plain ((IntKind.i32.wrap v3))) fun v4 => (some ((!v4))))) : Option ((Bool))) fun (v6 : (Bool)) => (bif v6 then (some (.inr (.inl (v2.2.1)))) else (bif (v3 == 34) then (bif (decide ((w64 (v2.2.1 + 1)) < (a0.size : Int))) then (some (.inr (.inl ((w64 (v2.2.1 + 1)))))) else (Option.bind (strings_Builder_String_h (v2.2.2)) fun v7 => (some (.inr (.inr ((toBA (v2.2.2)), 0, 0)))))) else (Option.bind ((bif (v3 == 92) then (Option.bind (literal_reader_escaped_h ((S_literal_reader.mk (a0) ((w64 (v2.2.1 + 1)))))) fun v8 => (some (v8.2.1, v8.1, v8.2.2))) else (some (v2.1, v3, (w64 (v2.2.1 + 1))))) : Option ((Bool) × (Int) × (Int))) fun (v10 : (Bool) × (Int) × (Int)) => (Option.bind (strings_Builder_WriteByte_h (v2.2.2) (v10.2.1)) fun v11 => (some (.inl (v10.1, v10.2.2, v11))))))))) else (some (.inr (.inl (v2.2.1)))))
def literal_Unquote (a0 : ByteArray) : Option ((ByteArray) × (Int) × (Int)) := (Option.bind (literal_reader_word_h ((S_literal_reader.mk (a0) (0))) ((⟨#[34]⟩ : ByteArray))) fun v1 => (Option.bind (loopN (literal_Unquote_l1 a0) fuel (v1.1, v1.2, ([] : List (Int)))) fun (v12 : (((Int)) ⊕ ((ByteArray) × (Int) × (Int)))) => Sum.elim (fun v13 => (some ((⟨#[]⟩ : ByteArray), v13, 8))) (fun v14 => (some v14)) v12))
theorem literal_Unquote_ok (a0 : ByteArray) (r : (ByteArray) × (Int) × (Int)) (h : literal_Unquote a0 = some r) : PCall Tryd.prog 23 [eS a0] (.tup [eS (r.1), eI (r.2.1), eI (r.2.2)]) := by
 unfold literal_Unquote at h
 refine pcl [.one .keep, .one .keep, .one .keep] Tryd.func23 (by kernel_rfl) (by kernel_rfl) (by kernel_rfl) ?_
 refine wle 16 (le_nilcell (e := 5) (size := 1) (id2 := 2) (j := 1) (id := 3) (e2 := 58) (cells := [(.fz (.atom (.pointer none))), (.fz (.atom (.slice none 0 0)))]) (by kernel_rfl) (by kernel_rfl) (by kernel_rfl) (by kernel_rfl)) (by kernel_rfl) ?_
 refine wle 0 (le_optcell (id := 2) (e2 := 58) (cells := [(.fz (.atom (.pointer none))), (.row 3 (List.length (([] : List (Int)))))]) (cells' := [.opt 2, (.row 3 (List.length (([] : List (Int)))))]) (by kernel_rfl) (by kernel_rfl)) (by kernel_rfl) ?_
 refine hcl 4 [.one .keep, .one .keep] [(1, 1)] [(1, 1)] [1] h (literal_reader_word_h_ok _ _) (fun _ => by kernel_rfl) fun v1 h => ?_
 refine lpx 4 (fun v2 => ⟨60, [(0, (fS (a0))), (5, (.ref 1 0 0)), (6, (.ref 2 0 0)), (7, (fB (v2.1)))], [(1, (.box 49 [(fS (a0)), (fI (v2.2.1))])), (2, (.box 58 [(.opt 2), (.row 3 (List.length (v2.2.2)))])), (3, (.frow 5 1 (List.map eU8 (v2.2.2))))], [3, 2, 1], []⟩) (fun v12 e st => Sum.elim (fun p => e = .exit 0 ∧ LeSt st ⟨60, [(5, (.ref 1 0 0))], [(1, (.box 49 [(fS (a0)), (fI (p))]))], [1], []⟩) (fun p => e = .ret ∧ retX TT st Tryd.f23.results.toList [.one .keep, .one .keep, .one .keep] = some (.tup [eS (p.1), eI (p.2.1), eI (p.2.2)])) v12) h (by kernel_rfl) (le_a (by kernel_rfl)) (fun v2 r h => ?_) fun v12 h e st' hq => ?_
 ·unfold literal_Unquote_l1 at h
  refine cd 5 h (by kernel_rfl) (fun h => ?_) fun h => ?_
  ·refine hcl 5 [.one .keep] [(1, 1)] [(1, 1)] [1] h (literal_reader_peek_h_ok _) (fun _ => by kernel_rfl) fun v3 h => ?_
   refine jn1 4 .normal (fun v6 => ⟨60, [(0, (fS (a0))), (5, (.ref 1 0 0)), (6, (.ref 2 0 0)), (7, (fB (v2.1))), (8, (.fz (eU8 (v3)))), (29, (fB (v6)))], [(1, (.box 49 [(fS (a0)), (fI (v2.2.1))])), (2, (.box 58 [(.opt 2), (.row 3 (List.length (v2.2.2)))])), (3, (.frow 5 1 (List.map eU8 (v2.2.2))))], [3, 2, 1], []⟩) h (by kernel_rfl) (fun v6 h => ?_) fun v6 h => ?_
   ·refine gd 9 h (by kernel_rfl) (fun h => ?_) fun h => ?_
    ·cases h; exact lj 6 (by kernel_rfl)
    refine cl 2 h (literal_plain_ok _) (by kernel_rfl) fun v4 h => ?_
    cases h; exact lj 3 (by kernel_rfl)
   refine cd 0 h (by kernel_rfl) (fun h => ?_) fun h => ?_
   ·cases h; exact lo 1 (by kernel_rfl)
   refine cd 18 h (by kernel_rfl) (fun h => ?_) fun h => ?_
   ·refine cd 11 h (by kernel_rfl) (fun h => ?_) fun h => ?_
    ·cases h; exact lo 1 (by kernel_rfl)
    refine hcl 3 [.one .keep] [(2, 1), (3, 2)] [(1, 2), (2, 3)] [1, 2] h (strings_Builder_String_h_ok _) (fun _ => by kernel_rfl) fun v7 h => ?_
    cases h; exact lor 5 (by kernel_rfl)
   refine jn1 2 .normal (fun v10 => ⟨60, [(0, (fS (a0))), (5, (.ref 1 0 0)), (6, (.ref 2 0 0)), (7, (fB (v10.1))), (8, (.fz (eU8 (v10.2.1))))], [(1, (.box 49 [(fS (a0)), (fI (v10.2.2))])), (2, (.box 58 [(.opt 2), (.row 3 (List.length (v2.2.2)))])), (3, (.frow 5 1 (List.map eU8 (v2.2.2))))], [3, 2, 1], []⟩) h (by kernel_rfl) (fun v10 h => ?_) fun v10 h => ?_
   ·refine cd 5 h (by kernel_rfl) (fun h => ?_) fun h => ?_
    ·refine hcl 2 [.one .keep] [(1, 1)] [(1, 1)] [1] h (literal_reader_escaped_h_ok _) (fun _ => by kernel_rfl) fun v8 h => ?_
     cases h; exact lj 6 (by kernel_rfl)
    cases h; exact lj 1 (by kernel_rfl)
   refine hcl 2 [.one .keep, .one .keep] [(2, 1), (3, 2)] [(1, 2), (2, 3)] [1, 2] h (strings_Builder_WriteByte_h_ok _ _) (fun _ => by kernel_rfl) fun v11 h => ?_
   cases h; exact lj 1 (by kernel_rfl)
  cases h; exact lo 1 (by kernel_rfl)
 rcases v12 with v13 | v14
 ·try simp only [Sum.elim_inl, Sum.elim_inr] at h
  obtain ⟨rfl, hle⟩ := hq
  refine ⟨_, hle, ?_⟩
  refine dw 1 5 (by kernel_rfl) ?_
  cases h; exact lq 10 (by kernel_rfl)
 ·try simp only [Sum.elim_inl, Sum.elim_inr] at h
  obtain ⟨rfl, hret⟩ := hq
  refine ⟨_, LeSt.refl, ?_⟩
  cases h; exact lv hret

def synthesisref01_within (a0 : Int) (a1 : Int) (a2 : Int) : Option (Int) := (Option.bind ((bif (decide (a0 < a1)) then (some (true)) else (some ((decide (a2 < a0))))) : Option ((Bool))) fun (v2 : (Bool)) => (bif v2 then (some 1) else (some 0)))
def synthesisref01_plain_l1 (a0 : ByteArray) (v3 : (Int)) : Option (((Int)) ⊕ (((Unit) ⊕ (Int)))) := (bif (decide (v3 < (a0.size : Int))) then (Option.bind ((Option.bind (byt a0 v3) fun v4 => (bif (decide (v4 < 32)) then (some (true)) else (Option.bind (byt a0 v3) fun v5 => (some ((decide (126 < v5))))))) : Option ((Bool))) fun (v7 : (Bool)) => (bif v7 then (some (.inr (.inr 1))) else (some (.inl ((w64 (v3 + 1))))))) else (some (.inr (.inl ()))))
def synthesisref01_plain (a0 : ByteArray) (a1 : Int) (a2 : Int) : Option (Int) := (Option.bind ((bif (decide ((a0.size : Int) < a1)) then (some (true)) else (some ((decide (a2 < (a0.size : Int)))))) : Option ((Bool))) fun (v2 : (Bool)) => (bif v2 then (some 2) else (Option.bind (loopN (synthesisref01_plain_l1 a0) fuel (0)) fun (v8 : ((Unit) ⊕ (Int))) => Sum.elim (fun v9 => (some 0)) (fun v10 => (some v10)) v8)))
end Go.Proofs.YtijkipikefpopaaDoor
