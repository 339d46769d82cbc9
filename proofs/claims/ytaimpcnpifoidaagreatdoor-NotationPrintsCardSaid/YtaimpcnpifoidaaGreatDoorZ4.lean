import Derived.Test.YtaimpcnpifoidaaGreatDoorZ3
set_option linter.unusedVariables false
set_option linter.unusedSimpArgs false
set_option maxRecDepth 100000
namespace Go.Proofs.YtaimpcnpifoidaaGreatDoor
open Go Go.RowKit Go.Proofs
set_option maxHeartbeats 2000000
attribute [local irreducible] NStep kcr km3 LeSt
def kb0 (a0 : Va) (a1 : Va) : Option (Bool) := (Option.bind (ka0 fuel (a0) (a1)) fun v1 => (some (v1 == 0)))
theorem kkn (a0 : Va) (a1 : Va) (r : Bool) (h : kb0 a0 a1 = some r) : kac Tryz.prog 90 [eVa a0, eVa a1] (eB (r)) := by
 unfold kb0 at h
 refine pcl [.one .keep] Tryz.func90 ?_
 refine cl 10 h (kn8 _ _ _) (by kernel_rfl) fun v1 h => ?_
 cases h; exact lq 4
def kcx (a0 : Ru) (a1 : Ru) : Option (Bool) := (Option.bind ((bif (a0.symbol == a1.symbol) then (bif (a0.kind == a1.kind) then (bif (a0.input == a1.input) then (bif (a0.op.toList == a1.op.toList) then (Option.bind (kb9 (a0.args) (a1.args)) fun v1 => (bif v1 then (Option.bind (kb0 (a0.const) (a1.const)) fun v2 => (some (v2))) else (some (false)))) else (some (false))) else (some (false))) else (some (false))) else (some (false))) : Option ((Bool))) fun (v4 : (Bool)) => (some v4))
theorem kje (a0 : Ru) (a1 : Ru) (r : Bool) (h : kcx a0 a1 = some r) : kac Tryz.prog 49 [eRu a0, eRu a1] (eB (r)) := by
 unfold kcx at h
 refine pcl [.one .keep] Tryz.func49 ?_
 refine jn1 7 .normal (fun v4 => ⟨45, [(4, (fB (v4)))], [], [], []⟩) h (fun v4 h => ?_) fun v4 h => ?_
 ·refine gd 7 h (fun h => ?_) fun h => ?_
  ·refine gd 7 h (fun h => ?_) fun h => ?_
   ·refine gd 7 h (fun h => ?_) fun h => ?_
    ·refine gd 7 h (fun h => ?_) fun h => ?_
     ·refine cl 4 h (kja _ _) (by kernel_rfl) fun v1 h => ?_
      refine gd 2 h (fun h => ?_) fun h => ?_
      ·refine cl 4 h (kkn _ _) (by kernel_rfl) fun v2 h => ?_
       cases h; exact lj 3
      cases h; exact lj 8
     cases h; exact lj 15
    cases h; exact lj 22
   cases h; exact lj 29
  cases h; exact lj 36
 cases h; exact lq 1
def kga (a0 : La) (a1 : La) : List (Nat × AObj) := [(1, (.box 26 [(fS (a0.name)), (.fz ((eL 1 eI) (a0.inputs))), (.fz ((eL 2 eSy) (a0.symbols))), (.fz ((eL 9 eRu) (a0.rules)))])), (2, (.box 26 [(fS (a1.name)), (.fz ((eL 1 eI) (a1.inputs))), (.fz ((eL 2 eSy) (a1.symbols))), (.fz ((eL 9 eRu) (a1.rules)))]))]
def kla (a0 : La) (a1 : La) (v9 : (Int)) : Option (((Int)) ⊕ (((Unit) ⊕ (Bool)))) := (bif (decide (v9 < (List.length a0.rules : Int))) then (Option.bind (idx a0.rules v9) fun v10 => (Option.bind (idx a1.rules v9) fun v11 => (Option.bind (kcx (v10) (v11)) fun v12 => (bif (!v12) then (some (.inr (.inr false))) else (some (.inl ((w64 (v9 + 1))))))))) else (some (.inr (.inl ()))))
def kk0 (a0 : La) (a1 : La) (v4 : (Int)) : Option (((Int)) ⊕ (((Unit) ⊕ (Bool)))) := (bif (decide (v4 < (List.length a0.symbols : Int))) then (Option.bind (idx a0.symbols v4) fun v5 => (Option.bind (idx a1.symbols v4) fun v6 => (bif (!((v5.name.toList == v6.name.toList) && ((v5.type == v6.type) && true))) then (some (.inr (.inr false))) else (some (.inl ((w64 (v4 + 1)))))))) else (some (.inr (.inl ()))))
def kjj (a0 : La) (a1 : La) : Option (Bool) := (Option.bind ((bif (!(a0.name.toList == a1.name.toList)) then (some (true)) else (Option.bind (kb9 (a0.inputs) (a1.inputs)) fun v1 => (bif (!v1) then (some (true)) else (bif ((List.length a0.symbols : Int) != (List.length a1.symbols : Int)) then (some (true)) else (some (((List.length a0.rules : Int) != (List.length a1.rules : Int)))))))) : Option ((Bool))) fun (v3 : (Bool)) => (bif v3 then (some false) else (Option.bind (kaa (kk0 a0 a1) fuel (0)) fun (v7 : ((Unit) ⊕ (Bool))) => Sum.elim (fun v8 => (Option.bind (kaa (kla a0 a1) fuel (0)) fun (v13 : ((Unit) ⊕ (Bool))) => Sum.elim (fun v14 => (some true)) (fun v15 => (some v15)) v13)) (fun v16 => (some v16)) v7)))
theorem kql (a0 : La) (a1 : La) (r : Bool) (h : kjj a0 a1 = some r) : kac Tryz.prog 21 [eLa a0, eLa a1] (eB (r)) := by
 unfold kjj at h
 refine pcl [.one .keep] Tryz.func21 ?_
 refine jn1 8 .normal (fun v3 => ⟨75, [(2, (.ref 1 0 0)), (3, (.ref 2 0 0)), (37, (fB (v3)))], (kga a0 a1), [2, 1], []⟩) h (fun v3 h => ?_) fun v3 h => ?_
 ·refine gd 7 h (fun h => ?_) fun h => ?_
  ·cases h; exact lj 26
  refine cl 4 h (kja _ _) (by kernel_rfl) fun v1 h => ?_
  refine gd 3 h (fun h => ?_) fun h => ?_
  ·cases h; exact lj 18
  refine gd 9 h (fun h => ?_) fun h => ?_
  ·cases h; exact lj 9
  cases h; exact lj 9
 refine cd 0 h (fun h => ?_) fun h => ?_
 ·cases h; exact lq 5
 refine lpx 7 (fun v4 => ⟨75, [(2, (.ref 1 0 0)), (3, (.ref 2 0 0)), (5, (fI (v4)))], (kga a0 a1), [2, 1], []⟩) (fun v7 e st => Sum.elim (fun p => e = .exit 0 ∧ LeSt st ⟨75, [(2, (.ref 1 0 0)), (3, (.ref 2 0 0))], (kga a0 a1), [2, 1], []⟩) (fun p => e = .ret ∧ retX TT st Tryz.f21.results.toList [.one .keep] = some (eB (p))) v7) h (by kernel_rfl) (le_a) (fun v4 r h => ?_) fun v7 h e st' hq => ?_
 ·unfold kk0 at h
  refine cd 9 h (fun h => ?_) fun h => ?_
  ·refine dw 4 10 ?_
   refine ix nSy 3 h fun v5 h => ?_
   refine ix nSy 4 h fun v6 h => ?_
   refine nst 2 (k4b (t := 92) (x := (.tmp 49)) (y := (.tmp 54)) (yt := 92) (d := tt92) (xs := [(eS (v5.name)), (eI (v5.type))]) (ys := [(eS (v6.name)), (eI (v6.type))]) (r := ((v5.name.toList == v6.name.toList) && ((v5.type == v6.type) && true))) true kbh (by kernel_rfl) (by kernel_rfl) rfl) ?_
   refine cd 1 h (fun h => ?_) fun h => ?_
   ·cases h; exact lor 5
   cases h; exact lj 6
  cases h; exact lo 1 (by kernel_rfl)
 rcases v7 with v8 | v16
 ·try simp only [Sum.elim_inl, Sum.elim_inr] at h
  obtain ⟨rfl, hle⟩ := hq
  refine ⟨_, hle, ?_⟩
  refine lpx 6 (fun v9 => ⟨75, [(2, (.ref 1 0 0)), (3, (.ref 2 0 0)), (6, (fI (v9)))], (kga a0 a1), [2, 1], []⟩) (fun v13 e st => Sum.elim (fun p => e = .exit 2 ∧ LeSt st ⟨75, [], [], [], []⟩) (fun p => e = .ret ∧ retX TT st Tryz.f21.results.toList [.one .keep] = some (eB (p))) v13) h (by kernel_rfl) (le_a) (fun v9 r h => ?_) fun v13 h e st' hq => ?_
  ·unfold kla at h
   refine cd 9 h (fun h => ?_) fun h => ?_
   ·refine dw 4 10 ?_
    refine ix nRu 3 h fun v10 h => ?_
    refine ix nRu 4 h fun v11 h => ?_
    refine cl 2 h (kje _ _) (by kernel_rfl) fun v12 h => ?_
    refine cd 2 h (fun h => ?_) fun h => ?_
    ·cases h; exact lor 5
    cases h; exact lj 6
   cases h; exact lo 1 (by kernel_rfl)
  rcases v13 with v14 | v15
  ·try simp only [Sum.elim_inl, Sum.elim_inr] at h
   obtain ⟨rfl, hle⟩ := hq
   refine ⟨_, hle, ?_⟩
   cases h; exact lq 5
  ·try simp only [Sum.elim_inl, Sum.elim_inr] at h
   obtain ⟨rfl, hret⟩ := hq
   refine ⟨_, LeSt.refl, ?_⟩
   cases h; exact lv hret
 ·try simp only [Sum.elim_inl, Sum.elim_inr] at h
  obtain ⟨rfl, hret⟩ := hq
  refine ⟨_, LeSt.refl, ?_⟩
  cases h; exact lv hret
def kk3 : List (Nat × AObj) := [(1, (.box 26 [(fS ((⟨#[]⟩ : ByteArray))), (.fz (.atom (.slice none 0 0))), (.fz (.atom (.slice none 0 0))), (.fz (.atom (.slice none 0 0)))]))]
def kji  : Option (La) := (some (La.mk ((⟨#[110]⟩ : ByteArray)) (([2] : List (Int))) (([(Sy.mk ((⟨#[83]⟩ : ByteArray)) (2))] : List (Sy))) (([(Ru.mk (0) (1) (0) ((Va.mk (0) (0) ((⟨#[]⟩ : ByteArray)) (([] : List Va)))) ((⟨#[]⟩ : ByteArray)) (([] : List Int))), (Ru.mk (0) (3) (0) ((Va.mk (0) (0) ((⟨#[]⟩ : ByteArray)) (([] : List Va)))) ((⟨#[97, 100, 100]⟩ : ByteArray)) (([0, 0] : List (Int))))] : List (Ru)))))
theorem kqf  (r : La) (h : kji  = some r) : kac Tryz.prog 24 [] (eLa (r)) := by
 unfold kji at h
 refine pcl [.ag [.keep, .sl 1, .sl 2, .sl 9]] Tryz.func24 ?_
 refine wle 12 ((le_a : LeSt _ ⟨9, [(0, (.ref 1 0 0)), (1, (.lim 1 (List.length (([2] : List (Int)))) (List.map eI (([2] : List (Int)))))), (3, (.lim 2 (List.length (([(Sy.mk ((⟨#[83]⟩ : ByteArray)) (2))] : List (Sy)))) (List.map eSy (([(Sy.mk ((⟨#[83]⟩ : ByteArray)) (2))] : List (Sy)))))), (4, (.fz (eRu ((Ru.mk (0) (1) (0) ((Va.mk (0) (0) ((⟨#[]⟩ : ByteArray)) (([] : List Va)))) ((⟨#[]⟩ : ByteArray)) (([] : List Int))))))), (6, (.agg [(fI (0)), (fI (3)), (fI (0)), (fI (0)), (fI (0)), (fS ((⟨#[]⟩ : ByteArray))), (.fz (.atom (.slice none 0 0))), (fS ((⟨#[97, 100, 100]⟩ : ByteArray))), (.lim 1 (List.length (([0, 0] : List (Int)))) (List.map eI (([0, 0] : List (Int)))))]))], (kk3), [1], []⟩)) ?_
 refine wle 0 ((le_a : LeSt _ ⟨9, [(0, (.ref 1 0 0)), (1, (.lim 1 (List.length (([2] : List (Int)))) (List.map eI (([2] : List (Int)))))), (3, (.lim 2 (List.length (([(Sy.mk ((⟨#[83]⟩ : ByteArray)) (2))] : List (Sy)))) (List.map eSy (([(Sy.mk ((⟨#[83]⟩ : ByteArray)) (2))] : List (Sy)))))), (4, (.fz (eRu ((Ru.mk (0) (1) (0) ((Va.mk (0) (0) ((⟨#[]⟩ : ByteArray)) (([] : List Va)))) ((⟨#[]⟩ : ByteArray)) (([] : List Int))))))), (6, (.fz (eRu ((Ru.mk (0) (3) (0) ((Va.mk (0) (0) ((⟨#[]⟩ : ByteArray)) (([] : List Va)))) ((⟨#[97, 100, 100]⟩ : ByteArray)) (([0, 0] : List (Int))))))))], (kk3), [1], []⟩)) ?_
 cases h; exact lq 5
def kiz  : Option (List ByteArray) := (some ([(⟨#[98, 111, 111, 108]⟩ : ByteArray), (⟨#[105, 110, 116]⟩ : ByteArray), (⟨#[116, 101, 120, 116]⟩ : ByteArray), (⟨#[98, 105, 116, 115]⟩ : ByteArray), (⟨#[105, 110, 116, 115]⟩ : ByteArray), (⟨#[116, 101, 120, 116, 115]⟩ : ByteArray), (⟨#[116, 97, 98, 108, 101]⟩ : ByteArray), (⟨#[112, 97, 116, 116, 101, 114, 110]⟩ : ByteArray)] : List (ByteArray)))
theorem kpo  (r : List ByteArray) (h : kiz  = some r) : kac Tryz.prog 55 [] ((eL 1 eS) (r)) := by
 unfold kiz at h
 refine pcl [.one (.sl 1)] Tryz.func55 ?_
 cases h; exact lq 10
def khs (a0 : Int) : Option (ByteArray) := (Option.bind ((bif (decide (a0 < 1)) then (some (true)) else (some ((decide (8 < a0))))) : Option ((Bool))) fun (v2 : (Bool)) => (bif v2 then (some (⟨#[]⟩ : ByteArray)) else (Option.bind (kiz ) fun v3 => (Option.bind (idx v3 (w64 (a0 - 1))) fun v4 => (some v4)))))
theorem knv (a0 : Int) (r : ByteArray) (h : khs a0 = some r) : kac Tryz.prog 25 [eI a0] (eS (r)) := by
 unfold khs at h
 refine pcl [.one .keep] Tryz.func25 ?_
 refine jn1 6 .normal (fun v2 => ⟨14, [(0, (fI (a0))), (8, (fB (v2)))], [], [], []⟩) h (fun v2 h => ?_) fun v2 h => ?_
 ·refine gd 4 h (fun h => ?_) fun h => ?_
  ·cases h; exact lj 4
  cases h; exact lj 4
 refine cd 0 h (fun h => ?_) fun h => ?_
 ·cases h; exact lq 5
 refine cl 3 h (kpo) (by kernel_rfl) fun v3 h => ?_
 refine ix nS 2 h fun v4 h => ?_
 cases h; exact lq 4
def kbz (a0 : ByteArray) (v1 : (Int)) : Option (((Int)) ⊕ (((Unit) ⊕ (Bool)))) := (bif (decide (v1 < (a0.size : Int))) then (Option.bind ((Option.bind (byt a0 v1) fun v2 => (bif (decide (97 ≤ v2)) then (Option.bind (byt a0 v1) fun v3 => (bif (decide (v3 ≤ 122)) then (some (true)) else (Option.bind (byt a0 v1) fun v4 => (bif (decide (65 ≤ v4)) then (Option.bind (byt a0 v1) fun v5 => (some ((decide (v5 ≤ 90))))) else (some (false)))))) else (Option.bind (byt a0 v1) fun v6 => (bif (decide (65 ≤ v6)) then (Option.bind (byt a0 v1) fun v7 => (some ((decide (v7 ≤ 90))))) else (some (false)))))) : Option ((Bool))) fun (v9 : (Bool)) => (Option.bind ((bif (!v9) then (bif (v1 == 0) then (some (true)) else (Option.bind (byt a0 v1) fun v10 => (bif (v10 != 45) then (Option.bind (byt a0 v1) fun v11 => (bif (decide (v11 < 48)) then (some (true)) else (Option.bind (byt a0 v1) fun v12 => (some ((decide (57 < v12))))))) else (some (false))))) else (some (false))) : Option ((Bool))) fun (v14 : (Bool)) => (bif v14 then (some (.inr (.inr false))) else (some (.inl ((w64 (v1 + 1)))))))) else (some (.inr (.inl ()))))
def kdc (a0 : ByteArray) : Option (Bool) := (Option.bind (kaa (kbz a0) fuel (0)) fun (v15 : ((Unit) ⊕ (Bool))) => Sum.elim (fun v16 => (Option.bind ((bif (decide (1 ≤ (a0.size : Int))) then (some ((decide ((a0.size : Int) ≤ 24)))) else (some (false))) : Option ((Bool))) fun (v18 : (Bool)) => (some v18))) (fun v19 => (some v19)) v15)
theorem kk7 (a0 : ByteArray) (r : Bool) (h : kdc a0 = some r) : kac Tryz.prog 52 [eS a0] (eB (r)) := by
 unfold kdc at h
 refine pcl [.one .keep] Tryz.func52 ?_
 refine lpx 10 (fun v1 => ⟨65, [(0, (fS (a0))), (3, (fI (v1)))], [], [], []⟩) (fun v15 e st => Sum.elim (fun p => e = .exit 0 ∧ LeSt st ⟨65, [(0, (fS (a0)))], [], [], []⟩) (fun p => e = .ret ∧ retX TT st Tryz.f52.results.toList [.one .keep] = some (eB (p))) v15) h (by kernel_rfl) (le_a) (fun v1 r h => ?_) fun v15 h e st' hq => ?_
 ·unfold kbz at h
  refine cd 8 h (fun h => ?_) fun h => ?_
  ·refine jn1 4 .normal (fun v9 => ⟨65, [(0, (fS (a0))), (3, (fI (v1))), (4, (fB (v9)))], [], [], []⟩) h (fun v9 h => ?_) fun v9 h => ?_
   ·refine byx 3 h fun v2 h => ?_
    refine gd 2 h (fun h => ?_) fun h => ?_
    ·refine byx 2 h fun v3 h => ?_
     refine gd 3 h (fun h => ?_) fun h => ?_
     ·cases h; exact lj 13
     refine byx 2 h fun v4 h => ?_
     refine gd 2 h (fun h => ?_) fun h => ?_
     ·refine byx 2 h fun v5 h => ?_
      cases h; exact lj 5
     cases h; exact lj 8
    refine byx 8 h fun v6 h => ?_
    refine gd 2 h (fun h => ?_) fun h => ?_
    ·refine byx 2 h fun v7 h => ?_
     cases h; exact lj 5
    cases h; exact lj 8
   refine jn1 1 .normal (fun v14 => ⟨65, [(0, (fS (a0))), (3, (fI (v1))), (56, (fB (v14)))], [], [], []⟩) h (fun v14 h => ?_) fun v14 h => ?_
   ·refine gd 4 h (fun h => ?_) fun h => ?_
    ·refine gd 3 h (fun h => ?_) fun h => ?_
     ·cases h; exact lj 19
     refine byx 2 h fun v10 h => ?_
     refine gd 2 h (fun h => ?_) fun h => ?_
     ·refine byx 2 h fun v11 h => ?_
      refine gd 2 h (fun h => ?_) fun h => ?_
      ·cases h; exact lj 9
      refine byx 2 h fun v12 h => ?_
      cases h; exact lj 6
     cases h; exact lj 14
    cases h; exact lj 22
   refine cd 0 h (fun h => ?_) fun h => ?_
   ·cases h; exact lor 5
   cases h; exact lj 6
  cases h; exact lo 1 (by kernel_rfl)
 rcases v15 with v16 | v19
 ·try simp only [Sum.elim_inl, Sum.elim_inr] at h
  obtain ⟨rfl, hle⟩ := hq
  refine ⟨_, hle, ?_⟩
  refine jn1 1 .normal (fun v18 => ⟨65, [(2, (fB (v18)))], [], [], []⟩) h (fun v18 h => ?_) fun v18 h => ?_
  ·refine gd 5 h (fun h => ?_) fun h => ?_
   ·cases h; exact lj 6
   cases h; exact lj 6
  cases h; exact lq 1
 ·try simp only [Sum.elim_inl, Sum.elim_inr] at h
  obtain ⟨rfl, hret⟩ := hq
  refine ⟨_, LeSt.refl, ?_⟩
  cases h; exact lv hret
def ker (a0 : Int) : Option (Bool) := (Option.bind ((bif (decide (1 ≤ a0)) then (some ((decide (a0 ≤ 8)))) else (some (false))) : Option ((Bool))) fun (v2 : (Bool)) => (some v2))
theorem kkm (a0 : Int) (r : Bool) (h : ker a0 = some r) : kac Tryz.prog 53 [eI a0] (eB (r)) := by
 unfold ker at h
 refine pcl [.one .keep] Tryz.func53 ?_
 refine jn1 5 .normal (fun v2 => ⟨9, [(2, (fB (v2)))], [], [], []⟩) h (fun v2 h => ?_) fun v2 h => ?_
 ·refine gd 4 h (fun h => ?_) fun h => ?_
  ·cases h; exact lj 5
  cases h; exact lj 5
 cases h; exact lq 1
def kb4 (a0 : Ru) : Option (Bool) := (Option.bind (kb0 (a0.const) ((Va.mk (0) (0) ((⟨#[]⟩ : ByteArray)) (([] : List Va))))) fun v1 => (bif (a0.kind == 1) then (Option.bind ((bif v1 then (bif (a0.op.toList == (⟨#[]⟩ : ByteArray).toList) then (some (((List.length a0.args : Int) == 0))) else (some (false))) else (some (false))) : Option ((Bool))) fun (v3 : (Bool)) => (some v3)) else (bif (a0.kind == 2) then (Option.bind ((bif (a0.input == 0) then (bif (a0.op.toList == (⟨#[]⟩ : ByteArray).toList) then (some (((List.length a0.args : Int) == 0))) else (some (false))) else (some (false))) : Option ((Bool))) fun (v5 : (Bool)) => (some v5)) else (Option.bind ((bif (a0.input == 0) then (some (v1)) else (some (false))) : Option ((Bool))) fun (v7 : (Bool)) => (some v7)))))
theorem kqn (a0 : Ru) (r : Bool) (h : kb4 a0 = some r) : kac Tryz.prog 95 [eRu a0] (eB (r)) := by
 unfold kb4 at h
 refine pcl [.one .keep] Tryz.func95 ?_
 refine cl 10 h (kkn _ _) (by kernel_rfl) fun v1 h => ?_
 refine cd 14 h (fun h => ?_) fun h => ?_
 ·refine jn1 1 .normal (fun v3 => ⟨46, [(2, (fB (v3)))], [], [], []⟩) h (fun v3 h => ?_) fun v3 h => ?_
  ·refine gd 3 h (fun h => ?_) fun h => ?_
   ·refine gd 5 h (fun h => ?_) fun h => ?_
    ·cases h; exact lj 7
    cases h; exact lj 7
   cases h; exact lj 12
  cases h; exact lq 1
 refine cd 5 h (fun h => ?_) fun h => ?_
 ·refine jn1 1 .normal (fun v5 => ⟨46, [(2, (fB (v5)))], [], [], []⟩) h (fun v5 h => ?_) fun v5 h => ?_
  ·refine gd 5 h (fun h => ?_) fun h => ?_
   ·refine gd 5 h (fun h => ?_) fun h => ?_
    ·cases h; exact lj 7
    cases h; exact lj 7
   cases h; exact lj 12
  cases h; exact lq 1
 refine jn1 2 .normal (fun v7 => ⟨46, [(2, (fB (v7)))], [], [], []⟩) h (fun v7 h => ?_) fun v7 h => ?_
 ·refine gd 5 h (fun h => ?_) fun h => ?_
  ·cases h; exact lj 4
  cases h; exact lj 4
 cases h; exact lq 1
def kdf (a0 : Int) (a1 : Int) (a2 : Int) : Option (Int) := (Option.bind ((bif (decide (a0 < a1)) then (some (true)) else (some ((decide (a2 < a0))))) : Option ((Bool))) fun (v2 : (Bool)) => (bif v2 then (some 1) else (some 0)))
theorem khf (a0 : Int) (a1 : Int) (a2 : Int) (r : Int) (h : kdf a0 a1 a2 = some r) : kac Tryz.prog 133 [eI a0, eI a1, eI a2] (eI (r)) := by
 unfold kdf at h
 refine pcl [.one .keep] Tryz.func133 ?_
 refine jn1 6 .normal (fun v2 => ⟨15, [(14, (fB (v2)))], [], [], []⟩) h (fun v2 h => ?_) fun v2 h => ?_
 ·refine gd 5 h (fun h => ?_) fun h => ?_
  ·cases h; exact lj 5
  cases h; exact lj 5
 refine cd 0 h (fun h => ?_) fun h => ?_
 ·cases h; exact lq 5
 cases h; exact lq 6
def kcy (a0 : ByteArray) (v3 : (Int)) : Option (((Int)) ⊕ (((Unit) ⊕ (Int)))) := (bif (decide (v3 < (a0.size : Int))) then (Option.bind ((Option.bind (byt a0 v3) fun v4 => (bif (decide (v4 < 32)) then (some (true)) else (Option.bind (byt a0 v3) fun v5 => (some ((decide (126 < v5))))))) : Option ((Bool))) fun (v7 : (Bool)) => (bif v7 then (some (.inr (.inr 1))) else (some (.inl ((w64 (v3 + 1))))))) else (some (.inr (.inl ()))))
def kes (a0 : ByteArray) (a1 : Int) (a2 : Int) : Option (Int) := (Option.bind ((bif (decide ((a0.size : Int) < a1)) then (some (true)) else (some ((decide (a2 < (a0.size : Int)))))) : Option ((Bool))) fun (v2 : (Bool)) => (bif v2 then (some 2) else (Option.bind (kaa (kcy a0) fuel (0)) fun (v8 : ((Unit) ⊕ (Int))) => Sum.elim (fun v9 => (some 0)) (fun v10 => (some v10)) v8)))
theorem kkr (a0 : ByteArray) (a1 : Int) (a2 : Int) (r : Int) (h : kes a0 a1 a2 = some r) : kac Tryz.prog 134 [eS a0, eI a1, eI a2] (eI (r)) := by
 unfold kes at h
 refine pcl [.one .keep] Tryz.func134 ?_
 refine jn1 6 .normal (fun v2 => ⟨34, [(0, (fS (a0))), (17, (fB (v2)))], [], [], []⟩) h (fun v2 h => ?_) fun v2 h => ?_
 ·refine gd 6 h (fun h => ?_) fun h => ?_
  ·cases h; exact lj 6
  cases h; exact lj 6
 refine cd 0 h (fun h => ?_) fun h => ?_
 ·cases h; exact lq 5
 refine lpx 7 (fun v3 => ⟨34, [(0, (fS (a0))), (7, (fI (v3)))], [], [], []⟩) (fun v8 e st => Sum.elim (fun p => e = .exit 0 ∧ LeSt st ⟨34, [], [], [], []⟩) (fun p => e = .ret ∧ retX TT st Tryz.f134.results.toList [.one .keep] = some (eI (p))) v8) h (by kernel_rfl) (le_a) (fun v3 r h => ?_) fun v8 h e st' hq => ?_
 ·unfold kcy at h
  refine cd 8 h (fun h => ?_) fun h => ?_
  ·refine jn1 4 .normal (fun v7 => ⟨34, [(0, (fS (a0))), (7, (fI (v3))), (33, (fB (v7)))], [], [], []⟩) h (fun v7 h => ?_) fun v7 h => ?_
   ·refine byx 3 h fun v4 h => ?_
    refine gd 2 h (fun h => ?_) fun h => ?_
    ·cases h; exact lj 6
    refine byx 2 h fun v5 h => ?_
    cases h; exact lj 3
   refine cd 0 h (fun h => ?_) fun h => ?_
   ·cases h; exact lor 5
   cases h; exact lj 6
  cases h; exact lo 1 (by kernel_rfl)
 rcases v8 with v9 | v10
 ·try simp only [Sum.elim_inl, Sum.elim_inr] at h
  obtain ⟨rfl, hle⟩ := hq
  refine ⟨_, hle, ?_⟩
  cases h; exact lq 5
 ·try simp only [Sum.elim_inl, Sum.elim_inr] at h
  obtain ⟨rfl, hret⟩ := hq
  refine ⟨_, LeSt.refl, ?_⟩
  cases h; exact lv hret
def kft (a0 : Va) : List (Nat × AObj) := [(1, (.box 43 [(fI (a0.type)), (fI (a0.num)), (fS (a0.text)), (.fz ((eL 4 eVaR) (a0.items)))]))]
def kax (r96 : (Va) → Option (Int)) (r135 : (List Va) → (Int) → Option (Int)) (r136 : (List Va) → Option (Int)) (a0 : Va) : Option (Int) := (Option.bind ((bif (decide (a0.type < 1)) then (some (true)) else (some ((decide (8 < a0.type))))) : Option ((Bool))) fun (v2 : (Bool)) => (bif v2 then (some 3) else (Option.bind ((bif (a0.type == 1) then (some (true)) else (bif (a0.type == 2) then (some (true)) else (some ((a0.type == 4))))) : Option ((Bool))) fun (v4 : (Bool)) => (Option.bind ((bif (a0.type == 3) then (some (true)) else (some ((a0.type == 8)))) : Option ((Bool))) fun (v6 : (Bool)) => (Option.bind ((bif (!v4) then (bif (a0.num != 0) then (some (true)) else (bif (!v6) then (bif (!(a0.text.toList == (⟨#[]⟩ : ByteArray).toList)) then (some (true)) else (bif v4 then (some ((decide (0 < (List.length a0.items : Int))))) else (bif v6 then (some ((decide (0 < (List.length a0.items : Int))))) else (some (false))))) else (bif v4 then (some ((decide (0 < (List.length a0.items : Int))))) else (bif v6 then (some ((decide (0 < (List.length a0.items : Int))))) else (some (false)))))) else (bif (!v6) then (bif (!(a0.text.toList == (⟨#[]⟩ : ByteArray).toList)) then (some (true)) else (bif v4 then (some ((decide (0 < (List.length a0.items : Int))))) else (bif v6 then (some ((decide (0 < (List.length a0.items : Int))))) else (some (false))))) else (bif v4 then (some ((decide (0 < (List.length a0.items : Int))))) else (bif v6 then (some ((decide (0 < (List.length a0.items : Int))))) else (some (false)))))) : Option ((Bool))) fun (v8 : (Bool)) => (bif v8 then (some 4) else (bif (a0.type == 1) then (Option.bind (kdf (a0.num) (0) (1)) fun v9 => (some v9)) else (bif (a0.type == 2) then (Option.bind (kdf (a0.num) ((-1000000)) (1000000)) fun v10 => (some v10)) else (bif (a0.type == 4) then (Option.bind (kdf (a0.num) (0) (255)) fun v11 => (some v11)) else (bif (a0.type == 3) then (Option.bind (kes (a0.text) (0) (64)) fun v12 => (some v12)) else (bif (a0.type == 8) then (Option.bind (kes (a0.text) (1) (40)) fun v13 => (some v13)) else (bif (a0.type == 5) then (Option.bind (r135 (a0.items) (2)) fun v14 => (some v14)) else (bif (a0.type == 6) then (Option.bind (r135 (a0.items) (3)) fun v15 => (some v15)) else (Option.bind (r136 (a0.items)) fun v16 => (some v16)))))))))))))))
theorem koc (r96 : (Va) → Option (Int)) (r135 : (List Va) → (Int) → Option (Int)) (r136 : (List Va) → Option (Int)) (ih96 : ∀ (x0 : Va) r, r96 x0 = some r → kac Tryz.prog 96 [eVa x0] (eI (r))) (ih135 : ∀ (x0 : List Va) (x1 : Int) r, r135 x0 x1 = some r → kac Tryz.prog 135 [(eL 4 eVaR) x0, eI x1] (eI (r))) (ih136 : ∀ (x0 : List Va) r, r136 x0 = some r → kac Tryz.prog 136 [(eL 4 eVaR) x0] (eI (r))) (a0 : Va) (r : Int) (h : kax r96 r135 r136 a0 = some r) : kac Tryz.prog 96 [eVa a0] (eI (r)) := by
 unfold kax at h
 refine pcl [.one .keep] Tryz.func96 ?_
 refine jn1 7 .normal (fun v2 => ⟨102, [(1, (.ref 1 0 0)), (12, (fB (v2)))], (kft a0), [1], []⟩) h (fun v2 h => ?_) fun v2 h => ?_
 ·refine gd 5 h (fun h => ?_) fun h => ?_
  ·cases h; exact lj 5
  cases h; exact lj 5
 refine cd 0 h (fun h => ?_) fun h => ?_
 ·cases h; exact lq 5
 refine jn1 2 .normal (fun v4 => ⟨102, [(1, (.ref 1 0 0)), (3, (fB (v4)))], (kft a0), [1], []⟩) h (fun v4 h => ?_) fun v4 h => ?_
 ·refine gd 5 h (fun h => ?_) fun h => ?_
  ·cases h; exact lj 11
  refine gd 5 h (fun h => ?_) fun h => ?_
  ·cases h; exact lj 6
  cases h; exact lj 6
 refine jn1 1 .normal (fun v6 => ⟨102, [(1, (.ref 1 0 0)), (3, (fB (v4))), (4, (fB (v6)))], (kft a0), [1], []⟩) h (fun v6 h => ?_) fun v6 h => ?_
 ·refine gd 5 h (fun h => ?_) fun h => ?_
  ·cases h; exact lj 6
  cases h; exact lj 6
 refine jn1 2 .normal (fun v8 => ⟨102, [(1, (.ref 1 0 0)), (61, (fB (v8)))], (kft a0), [1], []⟩) h (fun v8 h => ?_) fun v8 h => ?_
 ·refine gd 4 h (fun h => ?_) fun h => ?_
  ·refine gd 5 h (fun h => ?_) fun h => ?_
   ·cases h; exact lj 21
   refine gd 3 h (fun h => ?_) fun h => ?_
   ·refine gd 6 h (fun h => ?_) fun h => ?_
    ·cases h; exact lj 12
    refine gd 2 h (fun h => ?_) fun h => ?_
    ·cases h; exact lj 10
    refine gd 3 h (fun h => ?_) fun h => ?_
    ·cases h; exact lj 7
    cases h; exact lj 7
   refine gd 8 h (fun h => ?_) fun h => ?_
   ·cases h; exact lj 10
   refine gd 3 h (fun h => ?_) fun h => ?_
   ·cases h; exact lj 7
   cases h; exact lj 7
  refine gd 8 h (fun h => ?_) fun h => ?_
  ·refine gd 6 h (fun h => ?_) fun h => ?_
   ·cases h; exact lj 12
   refine gd 2 h (fun h => ?_) fun h => ?_
   ·cases h; exact lj 10
   refine gd 3 h (fun h => ?_) fun h => ?_
   ·cases h; exact lj 7
   cases h; exact lj 7
  refine gd 8 h (fun h => ?_) fun h => ?_
  ·cases h; exact lj 10
  refine gd 3 h (fun h => ?_) fun h => ?_
  ·cases h; exact lj 7
  cases h; exact lj 7
 refine cd 0 h (fun h => ?_) fun h => ?_
 ·cases h; exact lq 5
 refine cd 13 h (fun h => ?_) fun h => ?_
 ·refine cl 4 h (khf _ _ _) (by kernel_rfl) fun v9 h => ?_
  cases h; exact lq 3
 refine cd 5 h (fun h => ?_) fun h => ?_
 ·refine cl 4 h (khf _ _ _) (by kernel_rfl) fun v10 h => ?_
  cases h; exact lq 3
 refine cd 5 h (fun h => ?_) fun h => ?_
 ·refine cl 4 h (khf _ _ _) (by kernel_rfl) fun v11 h => ?_
  cases h; exact lq 3
 refine cd 5 h (fun h => ?_) fun h => ?_
 ·refine cl 4 h (kkr _ _ _) (by kernel_rfl) fun v12 h => ?_
  cases h; exact lq 3
 refine cd 5 h (fun h => ?_) fun h => ?_
 ·refine cl 4 h (kkr _ _ _) (by kernel_rfl) fun v13 h => ?_
  cases h; exact lq 3
 refine cd 5 h (fun h => ?_) fun h => ?_
 ·refine cl 4 h (ih135 _ _) (by kernel_rfl) fun v14 h => ?_
  cases h; exact lq 3
 refine cd 5 h (fun h => ?_) fun h => ?_
 ·refine cl 4 h (ih135 _ _) (by kernel_rfl) fun v15 h => ?_
  cases h; exact lq 3
 refine cl 5 h (ih136 _) (by kernel_rfl) fun v16 h => ?_
 cases h; exact lq 3
def kba (a0 : List Va) (a1 : Int) (r96 : (Va) → Option (Int)) (v1 : (Int)) : Option (((Int)) ⊕ (((Unit) ⊕ (Int)))) := (bif (decide (v1 < (List.length a0 : Int))) then (Option.bind (idx a0 v1) fun v2 => (bif (v2.type != a1) then (some (.inr (.inr 3))) else (Option.bind (idx a0 v1) fun v3 => (Option.bind (r96 (v3)) fun v4 => (bif (v4 != 0) then (some (.inr (.inr v4))) else (some (.inl ((w64 (v1 + 1)))))))))) else (some (.inr (.inl ()))))
def kc7 (r96 : (Va) → Option (Int)) (r135 : (List Va) → (Int) → Option (Int)) (r136 : (List Va) → Option (Int)) (a0 : List Va) (a1 : Int) : Option (Int) := (bif (decide (16 < (List.length a0 : Int))) then (some 2) else (Option.bind (kaa (kba a0 a1 r96) fuel (0)) fun (v5 : ((Unit) ⊕ (Int))) => Sum.elim (fun v6 => (some 0)) (fun v7 => (some v7)) v5))
theorem kmz (r96 : (Va) → Option (Int)) (r135 : (List Va) → (Int) → Option (Int)) (r136 : (List Va) → Option (Int)) (ih96 : ∀ (x0 : Va) r, r96 x0 = some r → kac Tryz.prog 96 [eVa x0] (eI (r))) (ih135 : ∀ (x0 : List Va) (x1 : Int) r, r135 x0 x1 = some r → kac Tryz.prog 135 [(eL 4 eVaR) x0, eI x1] (eI (r))) (ih136 : ∀ (x0 : List Va) r, r136 x0 = some r → kac Tryz.prog 136 [(eL 4 eVaR) x0] (eI (r))) (a0 : List Va) (a1 : Int) (r : Int) (h : kc7 r96 r135 r136 a0 a1 = some r) : kac Tryz.prog 135 [(eL 4 eVaR) a0, eI a1] (eI (r)) := by
 unfold kc7 at h
 refine pcl [.one .keep] Tryz.func135 ?_
 refine cd 11 h (fun h => ?_) fun h => ?_
 ·cases h; exact lq 5
 refine lpx 7 (fun v1 => ⟨31, [(0, (.fz ((eL 4 eVaR) (a0)))), (1, (fI (a1))), (5, (fI (v1)))], [], [], []⟩) (fun v5 e st => Sum.elim (fun p => e = .exit 0 ∧ LeSt st ⟨31, [], [], [], []⟩) (fun p => e = .ret ∧ retX TT st Tryz.f135.results.toList [.one .keep] = some (eI (p))) v5) h (by kernel_rfl) (le_a) (fun v1 r h => ?_) fun v5 h e st' hq => ?_
 ·unfold kba at h
  refine cd 8 h (fun h => ?_) fun h => ?_
  ·refine ix nVaR 8 h fun v2 h => ?_
   refine cd 5 h (fun h => ?_) fun h => ?_
   ·cases h; exact lor 5
   refine ix nVaR 5 h fun v3 h => ?_
   refine cl 1 h (ih96 _) (by kernel_rfl) fun v4 h => ?_
   refine cd 7 h (fun h => ?_) fun h => ?_
   ·cases h; exact lor 6
   cases h; exact lj 6
  cases h; exact lo 1 (by kernel_rfl)
 rcases v5 with v6 | v7
 ·try simp only [Sum.elim_inl, Sum.elim_inr] at h
  obtain ⟨rfl, hle⟩ := hq
  refine ⟨_, hle, ?_⟩
  cases h; exact lq 5
 ·try simp only [Sum.elim_inl, Sum.elim_inr] at h
  obtain ⟨rfl, hret⟩ := hq
  refine ⟨_, LeSt.refl, ?_⟩
  cases h; exact lv hret
def kbk (a0 : List Va) (r96 : (Va) → Option (Int)) (v1 : (Int)) : Option (((Int)) ⊕ (((Unit) ⊕ (Int)))) := (bif (decide (v1 < (List.length a0 : Int))) then (Option.bind (idx a0 v1) fun v2 => (bif (v2.type != 6) then (some (.inr (.inr 3))) else (Option.bind (idx a0 v1) fun v3 => (Option.bind ((bif (decide ((List.length v3.items : Int) < 1)) then (some (true)) else (bif (decide (8 < (List.length v3.items : Int))) then (some (true)) else (Option.bind (idx a0 0) fun v4 => (some (((List.length v3.items : Int) != (List.length v4.items : Int))))))) : Option ((Bool))) fun (v6 : (Bool)) => (bif v6 then (some (.inr (.inr 2))) else (Option.bind (idx a0 v1) fun v7 => (Option.bind (r96 (v7)) fun v8 => (bif (v8 != 0) then (some (.inr (.inr v8))) else (some (.inl ((w64 (v1 + 1))))))))))))) else (some (.inr (.inl ()))))
def kei (r96 : (Va) → Option (Int)) (r135 : (List Va) → (Int) → Option (Int)) (r136 : (List Va) → Option (Int)) (a0 : List Va) : Option (Int) := (bif (decide (8 < (List.length a0 : Int))) then (some 2) else (Option.bind (kaa (kbk a0 r96) fuel (0)) fun (v9 : ((Unit) ⊕ (Int))) => Sum.elim (fun v10 => (some 0)) (fun v11 => (some v11)) v9))
theorem kou (r96 : (Va) → Option (Int)) (r135 : (List Va) → (Int) → Option (Int)) (r136 : (List Va) → Option (Int)) (ih96 : ∀ (x0 : Va) r, r96 x0 = some r → kac Tryz.prog 96 [eVa x0] (eI (r))) (ih135 : ∀ (x0 : List Va) (x1 : Int) r, r135 x0 x1 = some r → kac Tryz.prog 135 [(eL 4 eVaR) x0, eI x1] (eI (r))) (ih136 : ∀ (x0 : List Va) r, r136 x0 = some r → kac Tryz.prog 136 [(eL 4 eVaR) x0] (eI (r))) (a0 : List Va) (r : Int) (h : kei r96 r135 r136 a0 = some r) : kac Tryz.prog 136 [(eL 4 eVaR) a0] (eI (r)) := by
 unfold kei at h
 refine pcl [.one .keep] Tryz.func136 ?_
 refine cd 11 h (fun h => ?_) fun h => ?_
 ·cases h; exact lq 5
 refine lpx 7 (fun v1 => ⟨50, [(0, (.fz ((eL 4 eVaR) (a0)))), (3, (fI (v1)))], [], [], []⟩) (fun v9 e st => Sum.elim (fun p => e = .exit 0 ∧ LeSt st ⟨50, [], [], [], []⟩) (fun p => e = .ret ∧ retX TT st Tryz.f136.results.toList [.one .keep] = some (eI (p))) v9) h (by kernel_rfl) (le_a) (fun v1 r h => ?_) fun v9 h e st' hq => ?_
 ·unfold kbk at h
  refine cd 8 h (fun h => ?_) fun h => ?_
  ·refine ix nVaR 8 h fun v2 h => ?_
   refine cd 4 h (fun h => ?_) fun h => ?_
   ·cases h; exact lor 5
   refine ix nVaR 6 h fun v3 h => ?_
   refine jn1 6 .normal (fun v6 => ⟨50, [(0, (.fz ((eL 4 eVaR) (a0)))), (3, (fI (v1))), (41, (fB (v6)))], [], [], []⟩) h (fun v6 h => ?_) fun v6 h => ?_
   ·refine gd 4 h (fun h => ?_) fun h => ?_
    ·cases h; exact lj 13
    refine gd 4 h (fun h => ?_) fun h => ?_
    ·cases h; exact lj 9
    refine ix nVaR 2 h fun v4 h => ?_
    cases h; exact lj 6
   refine cd 0 h (fun h => ?_) fun h => ?_
   ·cases h; exact lor 5
   refine ix nVaR 5 h fun v7 h => ?_
   refine cl 1 h (ih96 _) (by kernel_rfl) fun v8 h => ?_
   refine cd 7 h (fun h => ?_) fun h => ?_
   ·cases h; exact lor 6
   cases h; exact lj 6
  cases h; exact lo 1 (by kernel_rfl)
 rcases v9 with v10 | v11
 ·try simp only [Sum.elim_inl, Sum.elim_inr] at h
  obtain ⟨rfl, hle⟩ := hq
  refine ⟨_, hle, ?_⟩
  cases h; exact lq 5
 ·try simp only [Sum.elim_inl, Sum.elim_inr] at h
  obtain ⟨rfl, hret⟩ := hq
  refine ⟨_, LeSt.refl, ?_⟩
  cases h; exact lv hret
def ka5 : Nat → ((Va) → Option (Int)) × ((List Va) → (Int) → Option (Int)) × ((List Va) → Option (Int))
  | 0 => (fun _ => none, fun _ _ => none, fun _ => none)
  | n + 1 => (kax ((ka5 n).1) ((ka5 n).2.1) ((ka5 n).2.2), kc7 ((ka5 n).1) ((ka5 n).2.1) ((ka5 n).2.2), kei ((ka5 n).1) ((ka5 n).2.1) ((ka5 n).2.2))
def kas (n : Nat) : (Va) → Option (Int) := (ka5 n).1
def kdt (n : Nat) : (List Va) → (Int) → Option (Int) := (ka5 n).2.1
def kev (n : Nat) : (List Va) → Option (Int) := (ka5 n).2.2
theorem ka7 : ∀ n : Nat, (∀ (x0 : Va) r, kas n x0 = some r → kac Tryz.prog 96 [eVa x0] (eI (r))) ∧ (∀ (x0 : List Va) (x1 : Int) r, kdt n x0 x1 = some r → kac Tryz.prog 135 [(eL 4 eVaR) x0, eI x1] (eI (r))) ∧ (∀ (x0 : List Va) r, kev n x0 = some r → kac Tryz.prog 136 [(eL 4 eVaR) x0] (eI (r)))
  | 0 => ⟨(fun _ _ h => nomatch h), (fun _ _ _ h => nomatch h), (fun _ _ h => nomatch h)⟩
  | n + 1 => ⟨(koc _ _ _ ((ka7 n).1) ((ka7 n).2.1) ((ka7 n).2.2)), (kmz _ _ _ ((ka7 n).1) ((ka7 n).2.1) ((ka7 n).2.2)), (kou _ _ _ ((ka7 n).1) ((ka7 n).2.1) ((ka7 n).2.2))⟩
theorem kkq (n : Nat) : ∀ (x0 : Va) r, kas n x0 = some r → kac Tryz.prog 96 [eVa x0] (eI (r)) := (ka7 n).1
structure S_ar3_str where
  f_0 : ByteArray
  f_1 : ByteArray
  f_2 : ByteArray
def kma (x : S_ar3_str) : FV := .agg [eS (x.f_0), eS (x.f_1), eS (x.f_2)]
def kvu : En S_ar3_str := ⟨kma, 3, fun x => (kma x).cells, fun _ => rfl, fun _ => rfl⟩
def kcg (a0 : ByteArray) : Option (List S_ar3_str) := (bif (a0.toList == (⟨#[108, 111, 103, 105, 99]⟩ : ByteArray).toList) then (some ([(S_ar3_str.mk ((⟨#[97, 110, 100]⟩ : ByteArray)) ((⟨#[66, 66]⟩ : ByteArray)) ((⟨#[66]⟩ : ByteArray))), (S_ar3_str.mk ((⟨#[111, 114]⟩ : ByteArray)) ((⟨#[66, 66]⟩ : ByteArray)) ((⟨#[66]⟩ : ByteArray))), (S_ar3_str.mk ((⟨#[110, 111, 116]⟩ : ByteArray)) ((⟨#[66]⟩ : ByteArray)) ((⟨#[66]⟩ : ByteArray))), (S_ar3_str.mk ((⟨#[105, 102, 105, 110, 116]⟩ : ByteArray)) ((⟨#[66, 73, 73]⟩ : ByteArray)) ((⟨#[73]⟩ : ByteArray))), (S_ar3_str.mk ((⟨#[105, 102, 116, 101, 120, 116]⟩ : ByteArray)) ((⟨#[66, 84, 84]⟩ : ByteArray)) ((⟨#[84]⟩ : ByteArray))), (S_ar3_str.mk ((⟨#[105, 102, 98, 105, 116, 115]⟩ : ByteArray)) ((⟨#[66, 86, 86]⟩ : ByteArray)) ((⟨#[86]⟩ : ByteArray)))] : List (S_ar3_str))) else (bif (a0.toList == (⟨#[110, 117, 109, 98, 101, 114, 115]⟩ : ByteArray).toList) then (some ([(S_ar3_str.mk ((⟨#[97, 100, 100]⟩ : ByteArray)) ((⟨#[73, 73]⟩ : ByteArray)) ((⟨#[73]⟩ : ByteArray))), (S_ar3_str.mk ((⟨#[115, 117, 98]⟩ : ByteArray)) ((⟨#[73, 73]⟩ : ByteArray)) ((⟨#[73]⟩ : ByteArray))), (S_ar3_str.mk ((⟨#[109, 117, 108]⟩ : ByteArray)) ((⟨#[73, 73]⟩ : ByteArray)) ((⟨#[73]⟩ : ByteArray))), (S_ar3_str.mk ((⟨#[110, 101, 103]⟩ : ByteArray)) ((⟨#[73]⟩ : ByteArray)) ((⟨#[73]⟩ : ByteArray))), (S_ar3_str.mk ((⟨#[109, 105, 110]⟩ : ByteArray)) ((⟨#[73, 73]⟩ : ByteArray)) ((⟨#[73]⟩ : ByteArray))), (S_ar3_str.mk ((⟨#[109, 97, 120]⟩ : ByteArray)) ((⟨#[73, 73]⟩ : ByteArray)) ((⟨#[73]⟩ : ByteArray))), (S_ar3_str.mk ((⟨#[101, 113, 105, 110, 116]⟩ : ByteArray)) ((⟨#[73, 73]⟩ : ByteArray)) ((⟨#[66]⟩ : ByteArray))), (S_ar3_str.mk ((⟨#[108, 101, 115, 115]⟩ : ByteArray)) ((⟨#[73, 73]⟩ : ByteArray)) ((⟨#[66]⟩ : ByteArray)))] : List (S_ar3_str))) else (bif (a0.toList == (⟨#[116, 101, 120, 116, 115]⟩ : ByteArray).toList) then (some ([(S_ar3_str.mk ((⟨#[99, 111, 110, 99, 97, 116]⟩ : ByteArray)) ((⟨#[84, 84]⟩ : ByteArray)) ((⟨#[84]⟩ : ByteArray))), (S_ar3_str.mk ((⟨#[115, 108, 105, 99, 101]⟩ : ByteArray)) ((⟨#[84, 73, 73]⟩ : ByteArray)) ((⟨#[84]⟩ : ByteArray))), (S_ar3_str.mk ((⟨#[108, 101, 110]⟩ : ByteArray)) ((⟨#[84]⟩ : ByteArray)) ((⟨#[73]⟩ : ByteArray))), (S_ar3_str.mk ((⟨#[117, 112, 112, 101, 114]⟩ : ByteArray)) ((⟨#[84]⟩ : ByteArray)) ((⟨#[84]⟩ : ByteArray))), (S_ar3_str.mk ((⟨#[108, 111, 119, 101, 114]⟩ : ByteArray)) ((⟨#[84]⟩ : ByteArray)) ((⟨#[84]⟩ : ByteArray))), (S_ar3_str.mk ((⟨#[116, 114, 105, 109]⟩ : ByteArray)) ((⟨#[84]⟩ : ByteArray)) ((⟨#[84]⟩ : ByteArray))), (S_ar3_str.mk ((⟨#[102, 105, 110, 100]⟩ : ByteArray)) ((⟨#[84, 84]⟩ : ByteArray)) ((⟨#[73]⟩ : ByteArray))), (S_ar3_str.mk ((⟨#[114, 101, 112, 108, 97, 99, 101]⟩ : ByteArray)) ((⟨#[84, 84, 84]⟩ : ByteArray)) ((⟨#[84]⟩ : ByteArray))), (S_ar3_str.mk ((⟨#[119, 111, 114, 100]⟩ : ByteArray)) ((⟨#[84, 73]⟩ : ByteArray)) ((⟨#[84]⟩ : ByteArray))), (S_ar3_str.mk ((⟨#[99, 104, 97, 114]⟩ : ByteArray)) ((⟨#[84, 73]⟩ : ByteArray)) ((⟨#[84]⟩ : ByteArray))), (S_ar3_str.mk ((⟨#[114, 101, 112, 101, 97, 116]⟩ : ByteArray)) ((⟨#[84, 73]⟩ : ByteArray)) ((⟨#[84]⟩ : ByteArray))), (S_ar3_str.mk ((⟨#[115, 104, 111, 119]⟩ : ByteArray)) ((⟨#[73]⟩ : ByteArray)) ((⟨#[84]⟩ : ByteArray))), (S_ar3_str.mk ((⟨#[114, 101, 97, 100]⟩ : ByteArray)) ((⟨#[84]⟩ : ByteArray)) ((⟨#[73]⟩ : ByteArray))), (S_ar3_str.mk ((⟨#[101, 113, 116, 101, 120, 116]⟩ : ByteArray)) ((⟨#[84, 84]⟩ : ByteArray)) ((⟨#[66]⟩ : ByteArray))), (S_ar3_str.mk ((⟨#[115, 112, 108, 105, 116]⟩ : ByteArray)) ((⟨#[84, 84]⟩ : ByteArray)) ((⟨#[83]⟩ : ByteArray))), (S_ar3_str.mk ((⟨#[106, 111, 105, 110]⟩ : ByteArray)) ((⟨#[83, 84]⟩ : ByteArray)) ((⟨#[84]⟩ : ByteArray))), (S_ar3_str.mk ((⟨#[105, 116, 101, 109]⟩ : ByteArray)) ((⟨#[83, 73]⟩ : ByteArray)) ((⟨#[84]⟩ : ByteArray))), (S_ar3_str.mk ((⟨#[115, 111, 114, 116, 116, 101, 120, 116, 115]⟩ : ByteArray)) ((⟨#[83]⟩ : ByteArray)) ((⟨#[83]⟩ : ByteArray))), (S_ar3_str.mk ((⟨#[114, 101, 118, 116, 101, 120, 116, 115]⟩ : ByteArray)) ((⟨#[83]⟩ : ByteArray)) ((⟨#[83]⟩ : ByteArray)))] : List (S_ar3_str))) else (bif (a0.toList == (⟨#[112, 97, 116, 116, 101, 114, 110, 115]⟩ : ByteArray).toList) then (some ([(S_ar3_str.mk ((⟨#[115, 116, 97, 114, 116]⟩ : ByteArray)) ((⟨#[84, 80, 73]⟩ : ByteArray)) ((⟨#[73]⟩ : ByteArray))), (S_ar3_str.mk ((⟨#[101, 110, 100]⟩ : ByteArray)) ((⟨#[84, 80, 73]⟩ : ByteArray)) ((⟨#[73]⟩ : ByteArray))), (S_ar3_str.mk ((⟨#[101, 120, 116, 114, 97, 99, 116]⟩ : ByteArray)) ((⟨#[84, 80, 73]⟩ : ByteArray)) ((⟨#[84]⟩ : ByteArray))), (S_ar3_str.mk ((⟨#[101, 114, 97, 115, 101]⟩ : ByteArray)) ((⟨#[84, 80]⟩ : ByteArray)) ((⟨#[84]⟩ : ByteArray))), (S_ar3_str.mk ((⟨#[111, 99, 99, 117, 114, 115]⟩ : ByteArray)) ((⟨#[84, 80]⟩ : ByteArray)) ((⟨#[73]⟩ : ByteArray))), (S_ar3_str.mk ((⟨#[109, 97, 116, 99, 104, 101, 115]⟩ : ByteArray)) ((⟨#[84, 80]⟩ : ByteArray)) ((⟨#[66]⟩ : ByteArray))), (S_ar3_str.mk ((⟨#[112, 108, 105, 116]⟩ : ByteArray)) ((⟨#[84]⟩ : ByteArray)) ((⟨#[80]⟩ : ByteArray))), (S_ar3_str.mk ((⟨#[112, 99, 97, 116]⟩ : ByteArray)) ((⟨#[80, 80]⟩ : ByteArray)) ((⟨#[80]⟩ : ByteArray))), (S_ar3_str.mk ((⟨#[112, 97, 108, 116]⟩ : ByteArray)) ((⟨#[80, 80]⟩ : ByteArray)) ((⟨#[80]⟩ : ByteArray))), (S_ar3_str.mk ((⟨#[112, 115, 116, 97, 114]⟩ : ByteArray)) ((⟨#[80]⟩ : ByteArray)) ((⟨#[80]⟩ : ByteArray)))] : List (S_ar3_str))) else (bif (a0.toList == (⟨#[108, 105, 115, 116, 115]⟩ : ByteArray).toList) then (some ([(S_ar3_str.mk ((⟨#[104, 101, 97, 100]⟩ : ByteArray)) ((⟨#[76]⟩ : ByteArray)) ((⟨#[73]⟩ : ByteArray))), (S_ar3_str.mk ((⟨#[108, 97, 115, 116]⟩ : ByteArray)) ((⟨#[76]⟩ : ByteArray)) ((⟨#[73]⟩ : ByteArray))), (S_ar3_str.mk ((⟨#[116, 97, 107, 101]⟩ : ByteArray)) ((⟨#[76, 73]⟩ : ByteArray)) ((⟨#[76]⟩ : ByteArray))), (S_ar3_str.mk ((⟨#[100, 114, 111, 112]⟩ : ByteArray)) ((⟨#[76, 73]⟩ : ByteArray)) ((⟨#[76]⟩ : ByteArray))), (S_ar3_str.mk ((⟨#[114, 101, 118, 101, 114, 115, 101]⟩ : ByteArray)) ((⟨#[76]⟩ : ByteArray)) ((⟨#[76]⟩ : ByteArray))), (S_ar3_str.mk ((⟨#[115, 111, 114, 116]⟩ : ByteArray)) ((⟨#[76]⟩ : ByteArray)) ((⟨#[76]⟩ : ByteArray))), (S_ar3_str.mk ((⟨#[117, 110, 105, 113, 117, 101]⟩ : ByteArray)) ((⟨#[76]⟩ : ByteArray)) ((⟨#[76]⟩ : ByteArray))), (S_ar3_str.mk ((⟨#[115, 117, 109]⟩ : ByteArray)) ((⟨#[76]⟩ : ByteArray)) ((⟨#[73]⟩ : ByteArray))), (S_ar3_str.mk ((⟨#[115, 104, 105, 102, 116]⟩ : ByteArray)) ((⟨#[76, 73]⟩ : ByteArray)) ((⟨#[76]⟩ : ByteArray))), (S_ar3_str.mk ((⟨#[115, 99, 97, 108, 101]⟩ : ByteArray)) ((⟨#[76, 73]⟩ : ByteArray)) ((⟨#[76]⟩ : ByteArray))), (S_ar3_str.mk ((⟨#[97, 98, 111, 118, 101]⟩ : ByteArray)) ((⟨#[76, 73]⟩ : ByteArray)) ((⟨#[76]⟩ : ByteArray))), (S_ar3_str.mk ((⟨#[101, 118, 101, 110]⟩ : ByteArray)) ((⟨#[76]⟩ : ByteArray)) ((⟨#[76]⟩ : ByteArray))), (S_ar3_str.mk ((⟨#[122, 105, 112]⟩ : ByteArray)) ((⟨#[76, 76]⟩ : ByteArray)) ((⟨#[76]⟩ : ByteArray))), (S_ar3_str.mk ((⟨#[97, 112, 112, 101, 110, 100]⟩ : ByteArray)) ((⟨#[76, 76]⟩ : ByteArray)) ((⟨#[76]⟩ : ByteArray))), (S_ar3_str.mk ((⟨#[101, 108, 101, 109, 101, 110, 116]⟩ : ByteArray)) ((⟨#[76, 73]⟩ : ByteArray)) ((⟨#[73]⟩ : ByteArray))), (S_ar3_str.mk ((⟨#[99, 111, 117, 110, 116]⟩ : ByteArray)) ((⟨#[76, 73]⟩ : ByteArray)) ((⟨#[73]⟩ : ByteArray))), (S_ar3_str.mk ((⟨#[109, 97, 120, 105, 109, 117, 109]⟩ : ByteArray)) ((⟨#[76]⟩ : ByteArray)) ((⟨#[73]⟩ : ByteArray))), (S_ar3_str.mk ((⟨#[109, 105, 110, 105, 109, 117, 109]⟩ : ByteArray)) ((⟨#[76]⟩ : ByteArray)) ((⟨#[73]⟩ : ByteArray))), (S_ar3_str.mk ((⟨#[114, 117, 110, 110, 105, 110, 103]⟩ : ByteArray)) ((⟨#[76]⟩ : ByteArray)) ((⟨#[76]⟩ : ByteArray))), (S_ar3_str.mk ((⟨#[108, 101, 110, 103, 116, 104]⟩ : ByteArray)) ((⟨#[76]⟩ : ByteArray)) ((⟨#[73]⟩ : ByteArray)))] : List (S_ar3_str))) else (bif (a0.toList == (⟨#[116, 97, 98, 108, 101, 115]⟩ : ByteArray).toList) then (some ([(S_ar3_str.mk ((⟨#[116, 114, 97, 110, 115, 112, 111, 115, 101]⟩ : ByteArray)) ((⟨#[77]⟩ : ByteArray)) ((⟨#[77]⟩ : ByteArray))), (S_ar3_str.mk ((⟨#[114, 111, 119]⟩ : ByteArray)) ((⟨#[77, 73]⟩ : ByteArray)) ((⟨#[83]⟩ : ByteArray))), (S_ar3_str.mk ((⟨#[99, 111, 108, 117, 109, 110]⟩ : ByteArray)) ((⟨#[77, 73]⟩ : ByteArray)) ((⟨#[83]⟩ : ByteArray))), (S_ar3_str.mk ((⟨#[100, 114, 111, 112, 114, 111, 119]⟩ : ByteArray)) ((⟨#[77, 73]⟩ : ByteArray)) ((⟨#[77]⟩ : ByteArray))), (S_ar3_str.mk ((⟨#[100, 114, 111, 112, 99, 111, 108, 117, 109, 110]⟩ : ByteArray)) ((⟨#[77, 73]⟩ : ByteArray)) ((⟨#[77]⟩ : ByteArray))), (S_ar3_str.mk ((⟨#[115, 111, 114, 116, 116, 97, 98, 108, 101]⟩ : ByteArray)) ((⟨#[77, 73]⟩ : ByteArray)) ((⟨#[77]⟩ : ByteArray))), (S_ar3_str.mk ((⟨#[102, 105, 108, 108]⟩ : ByteArray)) ((⟨#[77]⟩ : ByteArray)) ((⟨#[77]⟩ : ByteArray))), (S_ar3_str.mk ((⟨#[117, 110, 112, 105, 118, 111, 116]⟩ : ByteArray)) ((⟨#[77, 73]⟩ : ByteArray)) ((⟨#[77]⟩ : ByteArray))), (S_ar3_str.mk ((⟨#[112, 105, 118, 111, 116]⟩ : ByteArray)) ((⟨#[77]⟩ : ByteArray)) ((⟨#[77]⟩ : ByteArray))), (S_ar3_str.mk ((⟨#[99, 101, 108, 108]⟩ : ByteArray)) ((⟨#[77, 73, 73]⟩ : ByteArray)) ((⟨#[84]⟩ : ByteArray))), (S_ar3_str.mk ((⟨#[115, 116, 97, 99, 107]⟩ : ByteArray)) ((⟨#[77, 77]⟩ : ByteArray)) ((⟨#[77]⟩ : ByteArray))), (S_ar3_str.mk ((⟨#[98, 101, 115, 105, 100, 101]⟩ : ByteArray)) ((⟨#[77, 77]⟩ : ByteArray)) ((⟨#[77]⟩ : ByteArray))), (S_ar3_str.mk ((⟨#[115, 112, 108, 105, 116, 99, 111, 108, 117, 109, 110]⟩ : ByteArray)) ((⟨#[77, 73, 84]⟩ : ByteArray)) ((⟨#[77]⟩ : ByteArray)))] : List (S_ar3_str))) else (some ([(S_ar3_str.mk ((⟨#[98, 97, 110, 100]⟩ : ByteArray)) ((⟨#[86, 86]⟩ : ByteArray)) ((⟨#[86]⟩ : ByteArray))), (S_ar3_str.mk ((⟨#[98, 111, 114]⟩ : ByteArray)) ((⟨#[86, 86]⟩ : ByteArray)) ((⟨#[86]⟩ : ByteArray))), (S_ar3_str.mk ((⟨#[98, 120, 111, 114]⟩ : ByteArray)) ((⟨#[86, 86]⟩ : ByteArray)) ((⟨#[86]⟩ : ByteArray))), (S_ar3_str.mk ((⟨#[98, 110, 111, 116]⟩ : ByteArray)) ((⟨#[86]⟩ : ByteArray)) ((⟨#[86]⟩ : ByteArray))), (S_ar3_str.mk ((⟨#[98, 97, 100, 100]⟩ : ByteArray)) ((⟨#[86, 86]⟩ : ByteArray)) ((⟨#[86]⟩ : ByteArray))), (S_ar3_str.mk ((⟨#[98, 115, 117, 98]⟩ : ByteArray)) ((⟨#[86, 86]⟩ : ByteArray)) ((⟨#[86]⟩ : ByteArray))), (S_ar3_str.mk ((⟨#[98, 109, 117, 108]⟩ : ByteArray)) ((⟨#[86, 86]⟩ : ByteArray)) ((⟨#[86]⟩ : ByteArray))), (S_ar3_str.mk ((⟨#[98, 108, 101, 102, 116]⟩ : ByteArray)) ((⟨#[86, 73]⟩ : ByteArray)) ((⟨#[86]⟩ : ByteArray))), (S_ar3_str.mk ((⟨#[98, 114, 105, 103, 104, 116]⟩ : ByteArray)) ((⟨#[86, 73]⟩ : ByteArray)) ((⟨#[86]⟩ : ByteArray))), (S_ar3_str.mk ((⟨#[98, 97, 114, 105, 116, 104]⟩ : ByteArray)) ((⟨#[86, 73]⟩ : ByteArray)) ((⟨#[86]⟩ : ByteArray))), (S_ar3_str.mk ((⟨#[111, 110, 101, 115]⟩ : ByteArray)) ((⟨#[86]⟩ : ByteArray)) ((⟨#[73]⟩ : ByteArray))), (S_ar3_str.mk ((⟨#[101, 113, 98, 105, 116, 115]⟩ : ByteArray)) ((⟨#[86, 86]⟩ : ByteArray)) ((⟨#[66]⟩ : ByteArray)))] : List (S_ar3_str)))))))))
theorem kjo (a0 : ByteArray) (r : List S_ar3_str) (h : kcg a0 = some r) : kac Tryz.prog 119 [eS a0] ((eL 3 kma) (r)) := by
 unfold kcg at h
 refine pcl [.one (.sl 3)] Tryz.func119 ?_
 refine cd 15 h (fun h => ?_) fun h => ?_
 ·cases h; exact lq 12
 refine cd 5 h (fun h => ?_) fun h => ?_
 ·cases h; exact lq 14
 refine cd 5 h (fun h => ?_) fun h => ?_
 ·cases h; exact lq 25
 refine cd 5 h (fun h => ?_) fun h => ?_
 ·cases h; exact lq 16
 refine cd 5 h (fun h => ?_) fun h => ?_
 ·cases h; exact lq 26
 refine cd 5 h (fun h => ?_) fun h => ?_
 ·cases h; exact lq 19
 cases h; exact lq 19
def synthesisref09_families  : Option (List ByteArray) := (some ([(⟨#[108, 111, 103, 105, 99]⟩ : ByteArray), (⟨#[110, 117, 109, 98, 101, 114, 115]⟩ : ByteArray), (⟨#[116, 101, 120, 116, 115]⟩ : ByteArray), (⟨#[112, 97, 116, 116, 101, 114, 110, 115]⟩ : ByteArray), (⟨#[108, 105, 115, 116, 115]⟩ : ByteArray), (⟨#[116, 97, 98, 108, 101, 115]⟩ : ByteArray), (⟨#[98, 105, 116, 115]⟩ : ByteArray)] : List (ByteArray)))
theorem kny  (r : List ByteArray) (h : synthesisref09_families  = some r) : kac Tryz.prog 149 [] ((eL 1 eS) (r)) := by
 unfold synthesisref09_families at h
 refine pcl [.one (.sl 1)] Tryz.func149 ?_
 cases h; exact lq 10
def kdg (a0 : ByteArray) (v3 : ByteArray) (v4 : List S_ar3_str) (v5 : (Int)) : Option (((Int)) ⊕ (((Unit) ⊕ (ByteArray)))) := (bif (decide (v5 < (List.length v4 : Int))) then (Option.bind (idx v4 v5) fun v6 => (bif (v6.f_0.toList == a0.toList) then (some (.inr (.inr v3))) else (some (.inl ((w64 (v5 + 1))))))) else (some (.inr (.inl ()))))
def kdi (a0 : ByteArray) (v1 : List ByteArray) (v2 : (Int)) : Option (((Int)) ⊕ (((Unit) ⊕ (ByteArray)))) := (bif (decide (v2 < (List.length v1 : Int))) then (Option.bind (idx v1 v2) fun v3 => (Option.bind (kcg (v3)) fun v4 => (Option.bind (kaa (kdg a0 v3 v4) fuel (0)) fun (v7 : ((Unit) ⊕ (ByteArray))) => Sum.elim (fun v8 => (some (.inl ((w64 (v2 + 1)))))) (fun v9 => (some (.inr (.inr v9)))) v7))) else (some (.inr (.inl ()))))
def kgr (a0 : ByteArray) : Option (ByteArray) := (Option.bind (synthesisref09_families ) fun v1 => (Option.bind (kaa (kdi a0 v1) fuel (0)) fun (v10 : ((Unit) ⊕ (ByteArray))) => Sum.elim (fun v11 => (some (⟨#[]⟩ : ByteArray))) (fun v12 => (some v12)) v10))
theorem koo (a0 : ByteArray) (r : ByteArray) (h : kgr a0 = some r) : kac Tryz.prog 118 [eS a0] (eS (r)) := by
 unfold kgr at h
 refine pcl [.one .keep] Tryz.func118 ?_
 refine cl 7 h (kny) (by kernel_rfl) fun v1 h => ?_
 refine lpx 4 (fun v2 => ⟨27, [(0, (fS (a0))), (7, (.fz ((eL 1 eS) (v1)))), (8, (fI ((List.length v1 : Int)))), (9, (fI (v2)))], [], [], []⟩) (fun v10 e st => Sum.elim (fun p => e = .exit 0 ∧ LeSt st ⟨27, [], [], [], []⟩) (fun p => e = .ret ∧ retX TT st Tryz.f118.results.toList [.one .keep] = some (eS (p))) v10) h (by kernel_rfl) (le_a) (fun v2 r h => ?_) fun v10 h e st' hq => ?_
 ·unfold kdi at h
  refine cd 5 h (fun h => ?_) fun h => ?_
  ·refine ix nS 5 h fun v3 h => ?_
   refine cl 6 h (kjo _) (by kernel_rfl) fun v4 h => ?_
   refine lpx 4 (fun v5 => ⟨27, [(0, (fS (a0))), (4, (fS (v3))), (7, (.fz ((eL 1 eS) (v1)))), (8, (fI ((List.length v1 : Int)))), (9, (fI (v2))), (14, (.fz ((eL 3 kma) (v4)))), (15, (fI ((List.length v4 : Int)))), (16, (fI (v5)))], [], [], []⟩) (fun v7 e st => Sum.elim (fun p => e = .exit 2 ∧ LeSt st ⟨27, [(0, (fS (a0))), (7, (.fz ((eL 1 eS) (v1)))), (8, (fI ((List.length v1 : Int)))), (9, (fI (v2)))], [], [], []⟩) (fun p => e = .ret ∧ retX TT st Tryz.f118.results.toList [.one .keep] = some (eS (p))) v7) h (by kernel_rfl) (le_a) (fun v5 r h => ?_) fun v7 h e st' hq => ?_
   ·unfold kdg at h
    refine cd 5 h (fun h => ?_) fun h => ?_
    ·refine ix kvu 5 h fun v6 h => ?_
     refine cd 11 h (fun h => ?_) fun h => ?_
     ·cases h; exact lor 6
     cases h; exact lj 5
    cases h; exact lo 1 (by kernel_rfl)
   rcases v7 with v8 | v9
   ·try simp only [Sum.elim_inl, Sum.elim_inr] at h
    obtain ⟨rfl, hle⟩ := hq
    refine ⟨_, hle, ?_⟩
    cases h; exact lj 4
   ·try simp only [Sum.elim_inl, Sum.elim_inr] at h
    obtain ⟨rfl, hret⟩ := hq
    refine ⟨_, LeSt.refl, ?_⟩
    cases h; exact lvo hret
  cases h; exact lo 1 (by kernel_rfl)
 rcases v10 with v11 | v12
 ·try simp only [Sum.elim_inl, Sum.elim_inr] at h
  obtain ⟨rfl, hle⟩ := hq
  refine ⟨_, hle, ?_⟩
  cases h; exact lq 5
 ·try simp only [Sum.elim_inl, Sum.elim_inr] at h
  obtain ⟨rfl, hret⟩ := hq
  refine ⟨_, LeSt.refl, ?_⟩
  cases h; exact lv hret
def kjw (a0 : Int) (v1 : (Int)) : Option (((Int)) ⊕ (((Unit) ⊕ (Int)))) := (bif (decide (v1 < ((⟨#[66, 73, 84, 86, 76, 83, 77, 80]⟩ : ByteArray).size : Int))) then (Option.bind (byt (⟨#[66, 73, 84, 86, 76, 83, 77, 80]⟩ : ByteArray) v1) fun v2 => (bif (v2 == a0) then (some (.inr (.inr (w64 (v1 + 1))))) else (some (.inl ((w64 (v1 + 1))))))) else (some (.inr (.inl ()))))
def kgx (a0 : Int) : Option (Int) := (Option.bind (kaa (kjw a0) fuel (0)) fun (v3 : ((Unit) ⊕ (Int))) => Sum.elim (fun v4 => (some 0)) (fun v5 => (some v5)) v3)
theorem kkb (a0 : Int) (r : Int) (h : kgx a0 = some r) : kac Tryz.prog 120 [eU8 a0] (eI (r)) := by
 unfold kgx at h
 refine pcl [.one .keep] Tryz.func120 ?_
 refine lpx 14 (fun v1 => ⟨18, [(0, (.fz (eU8 (a0)))), (3, (fS ((⟨#[66, 73, 84, 86, 76, 83, 77, 80]⟩ : ByteArray)))), (4, (fI (v1)))], [], [], []⟩) (fun v3 e st => Sum.elim (fun p => e = .exit 0 ∧ LeSt st ⟨18, [], [], [], []⟩) (fun p => e = .ret ∧ retX TT st Tryz.f120.results.toList [.one .keep] = some (eI (p))) v3) h (by kernel_rfl) (le_a) (fun v1 r h => ?_) fun v3 h e st' hq => ?_
 ·unfold kjw at h
  refine cd 8 h (fun h => ?_) fun h => ?_
  ·refine byx 7 h fun v2 h => ?_
   refine cd 3 h (fun h => ?_) fun h => ?_
   ·cases h; exact lor 7
   cases h; exact lj 6
  cases h; exact lo 1 (by kernel_rfl)
 rcases v3 with v4 | v5
 ·try simp only [Sum.elim_inl, Sum.elim_inr] at h
  obtain ⟨rfl, hle⟩ := hq
  refine ⟨_, hle, ?_⟩
  cases h; exact lq 5
 ·try simp only [Sum.elim_inl, Sum.elim_inr] at h
  obtain ⟨rfl, hret⟩ := hq
  refine ⟨_, LeSt.refl, ?_⟩
  cases h; exact lv hret
def kkz (v4 : S_ar3_str) (v7 : (Int) × (List Int)) : Option (((Int) × (List Int)) ⊕ ((List Int))) := (bif (decide (v7.1 < (v4.f_1.size : Int))) then (Option.bind (byt v4.f_1 v7.1) fun v8 => (Option.bind (kgx (v8)) fun v9 => (Option.bind (app 8 v7.2 ([v9] : List (Int))) fun v10 => (some (.inl ((w64 (v7.1 + 1)), v10)))))) else (some (.inr (v7.2))))
def kk8 (a0 : ByteArray) (v2 : List S_ar3_str) (v3 : (Int)) : Option (((Int)) ⊕ (((Unit) ⊕ ((S_api_Operator) × (Bool))))) := (bif (decide (v3 < (List.length v2 : Int))) then (Option.bind (idx v2 v3) fun v4 => (bif (v4.f_0.toList == a0.toList) then (Option.bind (byt v4.f_2 0) fun v5 => (Option.bind (kgx (v5)) fun v6 => (Option.bind (kaa (kkz v4) fuel (0, ([] : List (Int)))) fun (v12 : (List Int)) => (some (.inr (.inr ((S_api_Operator.mk (a0) (v12) (v6)), true))))))) else (some (.inl ((w64 (v3 + 1))))))) else (some (.inr (.inl ()))))
def kbg (a0 : ByteArray) : Option ((S_api_Operator) × (Bool)) := (Option.bind (kgr (a0)) fun v1 => (bif (v1.toList == (⟨#[]⟩ : ByteArray).toList) then (some ((S_api_Operator.mk ((⟨#[]⟩ : ByteArray)) (([] : List Int)) (0)), false)) else (Option.bind (kcg (v1)) fun v2 => (Option.bind (kaa (kk8 a0 v2) fuel (0)) fun (v13 : ((Unit) ⊕ ((S_api_Operator) × (Bool)))) => Sum.elim (fun v14 => (some ((S_api_Operator.mk ((⟨#[]⟩ : ByteArray)) (([] : List Int)) (0)), false))) (fun v15 => (some v15)) v13))))
theorem kqi (a0 : ByteArray) (r : (S_api_Operator) × (Bool)) (h : kbg a0 = some r) : kac Tryz.prog 79 [eS a0] (.tup [kl4 (r.1), eB (r.2)]) := by
 unfold kbg at h
 refine pcl [.ag [.keep, .sl 1, .keep], .one .keep] Tryz.func79 ?_
 refine cl 8 h (koo _) (by kernel_rfl) fun v1 h => ?_
 refine cd 8 h (fun h => ?_) fun h => ?_
 ·cases h; exact lq 7
 refine cl 5 h (kjo _) (by kernel_rfl) fun v2 h => ?_
 refine lpx 4 (fun v3 => ⟨51, [(0, (fS (a0))), (2, (.ref 1 0 0)), (15, (.fz ((eL 3 kma) (v2)))), (16, (fI ((List.length v2 : Int)))), (17, (fI (v3)))], [(1, (.box 134 [(fS ((⟨#[]⟩ : ByteArray))), (.fz (.atom (.slice none 0 0))), (fI (0))]))], [1], []⟩) (fun v13 e st => Sum.elim (fun p => e = .exit 0 ∧ LeSt st ⟨51, [(2, (.ref 1 0 0))], [(1, (.box 134 [(fS ((⟨#[]⟩ : ByteArray))), (.fz (.atom (.slice none 0 0))), (fI (0))]))], [1], []⟩) (fun p => e = .ret ∧ retX TT st Tryz.f79.results.toList [.ag [.keep, .sl 1, .keep], .one .keep] = some (.tup [kl4 (p.1), eB (p.2)])) v13) h (by kernel_rfl) (le_a) (fun v3 r h => ?_) fun v13 h e st' hq => ?_
 ·unfold kk8 at h
  refine cd 5 h (fun h => ?_) fun h => ?_
  ·refine ix kvu 5 h fun v4 h => ?_
   refine cd 11 h (fun h => ?_) fun h => ?_
   ·refine byx 5 h fun v5 h => ?_
    refine cl 0 h (kkb _) (by kernel_rfl) fun v6 h => ?_
    refine wle 10 (kdy (e2 := 134) (e := 3) (size := 1) (id2 := 3) (j := 1) (id := 4) (cells := [(fS (a0)), (.fz (.atom (.slice none 0 0))), (fI (v6))])) ?_
    refine lp1 0 (fun v7 => ⟨51, [(2, (.ref 1 0 0)), (6, (.ref 2 0 0)), (7, (.ref 3 0 0)), (8, (fI (v7.1)))], [(1, (.box 134 [(fS ((⟨#[]⟩ : ByteArray))), (.fz (.atom (.slice none 0 0))), (fI (0))])), (2, (.box 169 [(fS (v4.f_0)), (fS (v4.f_1)), (fS (v4.f_2))])), (3, (.box 134 [(fS (a0)), (.row 4 (List.length (v7.2))), (fI (v6))])), (4, (.frow 3 1 (List.map eI (v7.2))))], [4, 3, 2, 1], []⟩) (.exit 2) (fun v12 => ⟨51, [(2, (.ref 1 0 0)), (7, (.ref 3 0 0))], [(1, (.box 134 [(fS ((⟨#[]⟩ : ByteArray))), (.fz (.atom (.slice none 0 0))), (fI (0))])), (3, (.box 134 [(fS (a0)), (.row 4 (List.length (v12))), (fI (v6))])), (4, (.frow 3 1 (List.map eI (v12))))], [4, 3, 1], []⟩) h (fun v7 r h => ?_) fun v12 h => ?_
    ·unfold kkz at h
     refine cd 9 h (fun h => ?_) fun h => ?_
     ·refine dw 3 8 ?_
      refine byx 5 h fun v8 h => ?_
      refine cl 0 h (kkb _) (by kernel_rfl) fun v9 h => ?_
      refine ap nI 2 h fun v10 h => ?_
      cases h; exact lj 8
     cases h; exact lo 1 (by kernel_rfl)
    refine wle 6 (khu (e2 := 134) (id2 := 1) (j := 1) (id := 4) (n := List.length (v12)) (e := 3) (size := 1) (xs := List.map eI (v12)) (cells := [(fS (a0)), (.row 4 (List.length (v12))), (fI (v6))]) (by kernel_rfl) (by kernel_rfl) (by kernel_rfl) (by simp)) ?_
    cases h; exact lor 1
   cases h; exact lj 5
  cases h; exact lo 1 (by kernel_rfl)
 rcases v13 with v14 | v15
 ·try simp only [Sum.elim_inl, Sum.elim_inr] at h
  obtain ⟨rfl, hle⟩ := hq
  refine ⟨_, hle, ?_⟩
  cases h; exact lq 7
 ·try simp only [Sum.elim_inl, Sum.elim_inr] at h
  obtain ⟨rfl, hret⟩ := hq
  refine ⟨_, LeSt.refl, ?_⟩
  cases h; exact lv hret
def kgl (a0 : La) (a1 : Ru) (v1 : (S_api_Operator) × (Bool)) : List (Nat × AObj) := [(1, (.box 26 [(fS (a0.name)), (.fz ((eL 1 eI) (a0.inputs))), (.fz ((eL 2 eSy) (a0.symbols))), (.fz ((eL 9 eRu) (a0.rules)))])), (2, (.box 45 [(fI (a1.symbol)), (fI (a1.kind)), (fI (a1.input)), (fI (a1.const.type)), (fI (a1.const.num)), (fS (a1.const.text)), (.fz ((eL 4 eVaR) (a1.const.items))), (fS (a1.op)), (.fz ((eL 1 eI) (a1.args)))])), (3, (.box 134 [(fS (v1.1.f_Name)), (.fz ((eL 1 eI) (v1.1.f_Args))), (fI (v1.1.f_Result))]))]
def kay (a0 : La) (a1 : Ru) (v1 : (S_api_Operator) × (Bool)) (v2 : (Int)) : Option (((Int)) ⊕ (((Unit) ⊕ (Int)))) := (bif (decide (v2 < (List.length a1.args : Int))) then (Option.bind ((Option.bind (idx a1.args v2) fun v3 => (bif (decide (v3 < 0)) then (some (true)) else (Option.bind (idx a1.args v2) fun v4 => (some ((decide ((List.length a0.symbols : Int) ≤ v4))))))) : Option ((Bool))) fun (v6 : (Bool)) => (bif v6 then (some (.inr (.inr 1))) else (Option.bind (idx a1.args v2) fun v7 => (Option.bind (idx a0.symbols v7) fun v8 => (Option.bind (idx v1.1.f_Args v2) fun v9 => (bif (v8.type != v9) then (some (.inr (.inr 3))) else (some (.inl ((w64 (v2 + 1))))))))))) else (some (.inr (.inl ()))))
def kb3 (a0 : La) (a1 : Ru) : Option (Int) := (Option.bind (kbg (a1.op)) fun v1 => (bif (!v1.2) then (some 5) else (bif ((List.length a1.args : Int) != (List.length v1.1.f_Args : Int)) then (some 2) else (Option.bind (kaa (kay a0 a1 v1) fuel (0)) fun (v10 : ((Unit) ⊕ (Int))) => Sum.elim (fun v11 => (Option.bind (idx a0.symbols a1.symbol) fun v12 => (bif (v12.type != v1.1.f_Result) then (some 3) else (some 0)))) (fun v13 => (some v13)) v10))))
theorem knc (a0 : La) (a1 : Ru) (r : Int) (h : kb3 a0 a1 = some r) : kac Tryz.prog 97 [eLa a0, eRu a1] (eI (r)) := by
 unfold kb3 at h
 refine pcl [.one .keep] Tryz.func97 ?_
 refine cl 10 h (kqi _) (by kernel_rfl) fun v1 h => ?_
 refine cd 13 h (fun h => ?_) fun h => ?_
 ·cases h; exact lq 5
 refine cd 12 h (fun h => ?_) fun h => ?_
 ·cases h; exact lq 5
 refine lpx 7 (fun v2 => ⟨73, [(2, (.ref 1 0 0)), (3, (.ref 2 0 0)), (5, (.ref 3 0 0)), (7, (fI (v2)))], (kgl a0 a1 v1), [3, 2, 1], []⟩) (fun v10 e st => Sum.elim (fun p => e = .exit 0 ∧ LeSt st ⟨73, [(2, (.ref 1 0 0)), (3, (.ref 2 0 0)), (5, (.ref 3 0 0))], (kgl a0 a1 v1), [3, 2, 1], []⟩) (fun p => e = .ret ∧ retX TT st Tryz.f97.results.toList [.one .keep] = some (eI (p))) v10) h (by kernel_rfl) (le_a) (fun v2 r h => ?_) fun v10 h e st' hq => ?_
 ·unfold kay at h
  refine cd 9 h (fun h => ?_) fun h => ?_
  ·refine jn1 5 .normal (fun v6 => ⟨73, [(2, (.ref 1 0 0)), (3, (.ref 2 0 0)), (5, (.ref 3 0 0)), (7, (fI (v2))), (46, (fB (v6)))], (kgl a0 a1 v1), [3, 2, 1], []⟩) h (fun v6 h => ?_) fun v6 h => ?_
   ·refine dw 0 15 ?_
    refine ix nI 3 h fun v3 h => ?_
    refine gd 3 h (fun h => ?_) fun h => ?_
    ·cases h; exact lj 12
    refine ix nI 3 h fun v4 h => ?_
    cases h; exact lj 8
   refine cd 0 h (fun h => ?_) fun h => ?_
   ·cases h; exact lor 5
   refine dw 2 15 ?_
   refine ix nI 5 h fun v7 h => ?_
   refine ix nSy 1 h fun v8 h => ?_
   refine ix nI 5 h fun v9 h => ?_
   refine cd 4 h (fun h => ?_) fun h => ?_
   ·cases h; exact lor 5
   cases h; exact lj 6
  cases h; exact lo 1 (by kernel_rfl)
 rcases v10 with v11 | v13
 ·try simp only [Sum.elim_inl, Sum.elim_inr] at h
  obtain ⟨rfl, hle⟩ := hq
  refine ⟨_, hle, ?_⟩
  refine dw 2 9 ?_
  refine ix nSy 4 h fun v12 h => ?_
  refine cd 7 h (fun h => ?_) fun h => ?_
  ·cases h; exact lq 5
  cases h; exact lq 6
 ·try simp only [Sum.elim_inl, Sum.elim_inr] at h
  obtain ⟨rfl, hret⟩ := hq
  refine ⟨_, LeSt.refl, ?_⟩
  cases h; exact lv hret
def kh7 (a0 : La) (a1 : Ru) : List (Nat × AObj) := [(1, (.box 26 [(fS (a0.name)), (.fz ((eL 1 eI) (a0.inputs))), (.fz ((eL 2 eSy) (a0.symbols))), (.fz ((eL 9 eRu) (a0.rules)))])), (2, (.box 45 [(fI (a1.symbol)), (fI (a1.kind)), (fI (a1.input)), (fI (a1.const.type)), (fI (a1.const.num)), (fS (a1.const.text)), (.fz ((eL 4 eVaR) (a1.const.items))), (fS (a1.op)), (.fz ((eL 1 eI) (a1.args)))]))]
def kb5 (a0 : La) (a1 : Ru) : Option (Int) := (Option.bind ((bif (decide (a1.symbol < 0)) then (some (true)) else (some ((decide ((List.length a0.symbols : Int) ≤ a1.symbol))))) : Option ((Bool))) fun (v2 : (Bool)) => (bif v2 then (some 1) else (Option.bind ((bif (decide (a1.kind < 1)) then (some (true)) else (bif (decide (3 < a1.kind)) then (some (true)) else (Option.bind (kb4 (a1)) fun v3 => (some ((!v3)))))) : Option ((Bool))) fun (v5 : (Bool)) => (bif v5 then (some 4) else (Option.bind (idx a0.symbols a1.symbol) fun v6 => (bif (a1.kind == 1) then (Option.bind ((bif (decide (a1.input < 0)) then (some (true)) else (some ((decide ((List.length a0.inputs : Int) ≤ a1.input))))) : Option ((Bool))) fun (v8 : (Bool)) => (bif v8 then (some 1) else (Option.bind (idx a0.inputs a1.input) fun v9 => (bif (v9 != v6.type) then (some 3) else (some 0))))) else (bif (a1.kind == 2) then (Option.bind (kas fuel (a1.const)) fun v10 => (bif (v10 != 0) then (some v10) else (bif (a1.const.type != v6.type) then (some 3) else (some 0)))) else (Option.bind (kb3 (a0) (a1)) fun v11 => (some v11)))))))))
theorem kqe (a0 : La) (a1 : Ru) (r : Int) (h : kb5 a0 a1 = some r) : kac Tryz.prog 54 [eLa a0, eRu a1] (eI (r)) := by
 unfold kb5 at h
 refine pcl [.one .keep] Tryz.func54 ?_
 refine jn1 8 .normal (fun v2 => ⟨77, [(2, (.ref 1 0 0)), (3, (.ref 2 0 0)), (17, (fB (v2)))], (kh7 a0 a1), [2, 1], []⟩) h (fun v2 h => ?_) fun v2 h => ?_
 ·refine gd 5 h (fun h => ?_) fun h => ?_
  ·cases h; exact lj 8
  cases h; exact lj 8
 refine cd 0 h (fun h => ?_) fun h => ?_
 ·cases h; exact lq 5
 refine jn1 3 .normal (fun v5 => ⟨77, [(2, (.ref 1 0 0)), (3, (.ref 2 0 0)), (30, (fB (v5)))], (kh7 a0 a1), [2, 1], []⟩) h (fun v5 h => ?_) fun v5 h => ?_
 ·refine gd 5 h (fun h => ?_) fun h => ?_
  ·cases h; exact lj 10
  refine gd 5 h (fun h => ?_) fun h => ?_
  ·cases h; exact lj 5
  refine cl 1 h (kqn _) (by kernel_rfl) fun v3 h => ?_
  cases h; exact lj 3
 refine cd 0 h (fun h => ?_) fun h => ?_
 ·cases h; exact lq 5
 refine ix nSy 7 h fun v6 h => ?_
 refine cd 16 h (fun h => ?_) fun h => ?_
 ·refine jn1 2 .normal (fun v8 => ⟨77, [(2, (.ref 1 0 0)), (3, (.ref 2 0 0)), (5, (fI (v6.type))), (52, (fB (v8)))], (kh7 a0 a1), [2, 1], []⟩) h (fun v8 h => ?_) fun v8 h => ?_
  ·refine gd 5 h (fun h => ?_) fun h => ?_
   ·cases h; exact lj 8
   cases h; exact lj 8
  refine cd 0 h (fun h => ?_) fun h => ?_
  ·cases h; exact lq 5
  refine ix nI 8 h fun v9 h => ?_
  refine cd 4 h (fun h => ?_) fun h => ?_
  ·cases h; exact lq 5
  cases h; exact lq 6
 refine cd 5 h (fun h => ?_) fun h => ?_
 ·refine cl 5 h (kkq _ _) (by kernel_rfl) fun v10 h => ?_
  refine cd 7 h (fun h => ?_) fun h => ?_
  ·cases h; exact lq 6
  refine cd 10 h (fun h => ?_) fun h => ?_
  ·cases h; exact lq 5
  cases h; exact lq 6
 refine cl 5 h (knc _ _) (by kernel_rfl) fun v11 h => ?_
 cases h; exact lq 3
def kbn (a0 : La) : List (Nat × AObj) := [(1, (.box 26 [(fS (a0.name)), (.fz ((eL 1 eI) (a0.inputs))), (.fz ((eL 2 eSy) (a0.symbols))), (.fz ((eL 9 eRu) (a0.rules)))]))]
def kbu (a0 : La) (v9 : (Int)) (v12 : (Int)) : Option (((Int)) ⊕ (((Unit) ⊕ (Int)))) := (bif (decide (v12 < v9)) then (Option.bind (idx a0.symbols v12) fun v13 => (Option.bind (idx a0.symbols v9) fun v14 => (bif (v13.name.toList == v14.name.toList) then (some (.inr (.inr 6))) else (some (.inl ((w64 (v12 + 1)))))))) else (some (.inr (.inl ()))))
def kbm (a0 : La) (v22 : (Int)) (v25 : (Int)) : Option (((Int)) ⊕ (((Unit) ⊕ (Int)))) := (bif (decide (v25 < v22)) then (Option.bind (idx a0.rules v25) fun v26 => (Option.bind (idx a0.rules v22) fun v27 => (Option.bind (kcx (v26) (v27)) fun v28 => (bif v28 then (some (.inr (.inr 6))) else (some (.inl ((w64 (v25 + 1))))))))) else (some (.inr (.inl ()))))
def kau (a0 : La) (v22 : (Int)) : Option (((Int)) ⊕ (((Unit) ⊕ (Int)))) := (bif (decide (v22 < (List.length a0.rules : Int))) then (Option.bind (idx a0.rules v22) fun v23 => (Option.bind (kb5 (a0) (v23)) fun v24 => (bif (v24 != 0) then (some (.inr (.inr v24))) else (Option.bind (kaa (kbm a0 v22) fuel (0)) fun (v29 : ((Unit) ⊕ (Int))) => Sum.elim (fun v30 => (some (.inl ((w64 (v22 + 1)))))) (fun v31 => (some (.inr (.inr v31)))) v29)))) else (some (.inr (.inl ()))))
def kb7 (a0 : La) (v9 : (Int)) : Option (((Int)) ⊕ (((Unit) ⊕ (Int)))) := (bif (decide (v9 < (List.length a0.symbols : Int))) then (Option.bind (idx a0.symbols v9) fun v10 => (Option.bind (kdc (v10.name)) fun v11 => (bif (!v11) then (some (.inr (.inr 5))) else (Option.bind (kaa (kbu a0 v9) fuel (0)) fun (v15 : ((Unit) ⊕ (Int))) => Sum.elim (fun v16 => (Option.bind (idx a0.symbols v9) fun v17 => (Option.bind (ker (v17.type)) fun v18 => (bif (!v18) then (some (.inr (.inr 3))) else (some (.inl ((w64 (v9 + 1))))))))) (fun v19 => (some (.inr (.inr v19)))) v15)))) else (some (.inr (.inl ()))))
def kcb (a0 : La) (v2 : (Int)) : Option (((Int)) ⊕ (((Unit) ⊕ (Int)))) := (bif (decide (v2 < (List.length a0.inputs : Int))) then (Option.bind (idx a0.inputs v2) fun v3 => (Option.bind (ker (v3)) fun v4 => (bif (!v4) then (some (.inr (.inr 3))) else (some (.inl ((w64 (v2 + 1)))))))) else (some (.inr (.inl ()))))
def kce (a0 : La) : Option (Int) := (Option.bind (kdc (a0.name)) fun v1 => (bif (!v1) then (some 5) else (bif (decide (4 < (List.length a0.inputs : Int))) then (some 2) else (Option.bind (kaa (kcb a0) fuel (0)) fun (v5 : ((Unit) ⊕ (Int))) => Sum.elim (fun v6 => (Option.bind ((bif (decide ((List.length a0.symbols : Int) < 1)) then (some (true)) else (some ((decide (16 < (List.length a0.symbols : Int)))))) : Option ((Bool))) fun (v8 : (Bool)) => (bif v8 then (some 2) else (Option.bind (kaa (kb7 a0) fuel (0)) fun (v20 : ((Unit) ⊕ (Int))) => Sum.elim (fun v21 => (bif (decide (96 < (List.length a0.rules : Int))) then (some 2) else (Option.bind (kaa (kau a0) fuel (0)) fun (v32 : ((Unit) ⊕ (Int))) => Sum.elim (fun v33 => (some 0)) (fun v34 => (some v34)) v32))) (fun v35 => (some v35)) v20)))) (fun v36 => (some v36)) v5))))
theorem kko (a0 : La) (r : Int) (h : kce a0 = some r) : kac Tryz.prog 23 [eLa a0] (eI (r)) := by
 unfold kce at h
 refine pcl [.one .keep] Tryz.func23 ?_
 refine cl 10 h (kk7 _) (by kernel_rfl) fun v1 h => ?_
 refine cd 2 h (fun h => ?_) fun h => ?_
 ·cases h; exact lq 5
 refine cd 9 h (fun h => ?_) fun h => ?_
 ·cases h; exact lq 5
 refine lpx 7 (fun v2 => ⟨119, [(1, (.ref 1 0 0)), (3, (fI (v2)))], (kbn a0), [1], []⟩) (fun v5 e st => Sum.elim (fun p => e = .exit 0 ∧ LeSt st ⟨119, [(1, (.ref 1 0 0))], (kbn a0), [1], []⟩) (fun p => e = .ret ∧ retX TT st Tryz.f23.results.toList [.one .keep] = some (eI (p))) v5) h (by kernel_rfl) (le_a) (fun v2 r h => ?_) fun v5 h e st' hq => ?_
 ·unfold kcb at h
  refine cd 9 h (fun h => ?_) fun h => ?_
  ·refine ix nI 8 h fun v3 h => ?_
   refine cl 1 h (kkm _) (by kernel_rfl) fun v4 h => ?_
   refine cd 2 h (fun h => ?_) fun h => ?_
   ·cases h; exact lor 5
   cases h; exact lj 6
  cases h; exact lo 1 (by kernel_rfl)
 rcases v5 with v6 | v36
 ·try simp only [Sum.elim_inl, Sum.elim_inr] at h
  obtain ⟨rfl, hle⟩ := hq
  refine ⟨_, hle, ?_⟩
  refine jn1 2 .normal (fun v8 => ⟨119, [(1, (.ref 1 0 0)), (40, (fB (v8)))], (kbn a0), [1], []⟩) h (fun v8 h => ?_) fun v8 h => ?_
  ·refine gd 6 h (fun h => ?_) fun h => ?_
   ·cases h; exact lj 6
   cases h; exact lj 6
  refine cd 0 h (fun h => ?_) fun h => ?_
  ·cases h; exact lq 5
  refine lpx 7 (fun v9 => ⟨119, [(1, (.ref 1 0 0)), (4, (fI (v9)))], (kbn a0), [1], []⟩) (fun v20 e st => Sum.elim (fun p => e = .exit 2 ∧ LeSt st ⟨119, [(1, (.ref 1 0 0))], (kbn a0), [1], []⟩) (fun p => e = .ret ∧ retX TT st Tryz.f23.results.toList [.one .keep] = some (eI (p))) v20) h (by kernel_rfl) (le_a) (fun v9 r h => ?_) fun v20 h e st' hq => ?_
  ·unfold kb7 at h
   refine cd 9 h (fun h => ?_) fun h => ?_
   ·refine ix nSy 9 h fun v10 h => ?_
    refine cl 2 h (kk7 _) (by kernel_rfl) fun v11 h => ?_
    refine cd 2 h (fun h => ?_) fun h => ?_
    ·cases h; exact lor 5
    refine lpx 7 (fun v12 => ⟨119, [(1, (.ref 1 0 0)), (4, (fI (v9))), (5, (fI (v12)))], (kbn a0), [1], []⟩) (fun v15 e st => Sum.elim (fun p => e = .exit 4 ∧ LeSt st ⟨119, [(1, (.ref 1 0 0)), (4, (fI (v9)))], (kbn a0), [1], []⟩) (fun p => e = .ret ∧ retX TT st Tryz.f23.results.toList [.one .keep] = some (eI (p))) v15) h (by kernel_rfl) (le_a) (fun v12 r h => ?_) fun v15 h e st' hq => ?_
    ·unfold kbu at h
     refine cd 7 h (fun h => ?_) fun h => ?_
     ·refine dw 4 12 ?_
      refine ix nSy 3 h fun v13 h => ?_
      refine ix nSy 5 h fun v14 h => ?_
      refine cd 5 h (fun h => ?_) fun h => ?_
      ·cases h; exact lor 5
      cases h; exact lj 6
     cases h; exact lo 1 (by kernel_rfl)
    rcases v15 with v16 | v19
    ·try simp only [Sum.elim_inl, Sum.elim_inr] at h
     obtain ⟨rfl, hle⟩ := hq
     refine ⟨_, hle, ?_⟩
     refine ix nSy 5 h fun v17 h => ?_
     refine cl 2 h (kkm _) (by kernel_rfl) fun v18 h => ?_
     refine cd 2 h (fun h => ?_) fun h => ?_
     ·cases h; exact lor 5
     cases h; exact lj 6
    ·try simp only [Sum.elim_inl, Sum.elim_inr] at h
     obtain ⟨rfl, hret⟩ := hq
     refine ⟨_, LeSt.refl, ?_⟩
     cases h; exact lvo hret
   cases h; exact lo 1 (by kernel_rfl)
  rcases v20 with v21 | v35
  ·try simp only [Sum.elim_inl, Sum.elim_inr] at h
   obtain ⟨rfl, hle⟩ := hq
   refine ⟨_, hle, ?_⟩
   refine cd 8 h (fun h => ?_) fun h => ?_
   ·cases h; exact lq 5
   refine lpx 7 (fun v22 => ⟨119, [(1, (.ref 1 0 0)), (6, (fI (v22)))], (kbn a0), [1], []⟩) (fun v32 e st => Sum.elim (fun p => e = .exit 6 ∧ LeSt st ⟨119, [], [], [], []⟩) (fun p => e = .ret ∧ retX TT st Tryz.f23.results.toList [.one .keep] = some (eI (p))) v32) h (by kernel_rfl) (le_a) (fun v22 r h => ?_) fun v32 h e st' hq => ?_
   ·unfold kau at h
    refine cd 9 h (fun h => ?_) fun h => ?_
    ·refine dw 5 6 ?_
     refine ix nRu 4 h fun v23 h => ?_
     refine cl 2 h (kqe _ _) (by kernel_rfl) fun v24 h => ?_
     refine cd 7 h (fun h => ?_) fun h => ?_
     ·cases h; exact lor 6
     refine lpx 6 (fun v25 => ⟨119, [(1, (.ref 1 0 0)), (6, (fI (v22))), (8, (fI (v25)))], (kbn a0), [1], []⟩) (fun v29 e st => Sum.elim (fun p => e = .exit 8 ∧ LeSt st ⟨119, [(1, (.ref 1 0 0)), (6, (fI (v22)))], (kbn a0), [1], []⟩) (fun p => e = .ret ∧ retX TT st Tryz.f23.results.toList [.one .keep] = some (eI (p))) v29) h (by kernel_rfl) (le_a) (fun v25 r h => ?_) fun v29 h e st' hq => ?_
     ·unfold kbm at h
      refine cd 7 h (fun h => ?_) fun h => ?_
      ·refine dw 4 10 ?_
       refine ix nRu 3 h fun v26 h => ?_
       refine ix nRu 4 h fun v27 h => ?_
       refine cl 2 h (kje _ _) (by kernel_rfl) fun v28 h => ?_
       refine cd 1 h (fun h => ?_) fun h => ?_
       ·cases h; exact lor 5
       cases h; exact lj 6
      cases h; exact lo 1 (by kernel_rfl)
     rcases v29 with v30 | v31
     ·try simp only [Sum.elim_inl, Sum.elim_inr] at h
      obtain ⟨rfl, hle⟩ := hq
      refine ⟨_, hle, ?_⟩
      cases h; exact lj 5
     ·try simp only [Sum.elim_inl, Sum.elim_inr] at h
      obtain ⟨rfl, hret⟩ := hq
      refine ⟨_, LeSt.refl, ?_⟩
      cases h; exact lvo hret
    cases h; exact lo 1 (by kernel_rfl)
   rcases v32 with v33 | v34
   ·try simp only [Sum.elim_inl, Sum.elim_inr] at h
    obtain ⟨rfl, hle⟩ := hq
    refine ⟨_, hle, ?_⟩
    cases h; exact lq 5
   ·try simp only [Sum.elim_inl, Sum.elim_inr] at h
    obtain ⟨rfl, hret⟩ := hq
    refine ⟨_, LeSt.refl, ?_⟩
    cases h; exact lv hret
  ·try simp only [Sum.elim_inl, Sum.elim_inr] at h
   obtain ⟨rfl, hret⟩ := hq
   refine ⟨_, LeSt.refl, ?_⟩
   cases h; exact lv hret
 ·try simp only [Sum.elim_inl, Sum.elim_inr] at h
  obtain ⟨rfl, hret⟩ := hq
  refine ⟨_, LeSt.refl, ?_⟩
  cases h; exact lv hret
def kc5 (a0 : Tm) (r105 : (Tm) → (Int) → Option (Int)) (v1 : (Int) × (Int)) : Option (((Int) × (Int)) ⊕ ((Int))) := (Option.bind ((bif (decide (v1.2 < (List.length a0.args : Int))) then (some ((decide (0 ≤ v1.1)))) else (some (false))) : Option ((Bool))) fun (v3 : (Bool)) => (bif v3 then (Option.bind (idx a0.args v1.2) fun v4 => (Option.bind (r105 (v4) (v1.1)) fun v5 => (some (.inl (v5, (w64 (v1.2 + 1))))))) else (some (.inr (v1.1)))))
def ke7 (r105 : (Tm) → (Int) → Option (Int)) (a0 : Tm) (a1 : Int) : Option (Int) := (Option.bind (kaa (kc5 a0 r105) fuel ((w64 (a1 - 1)), 0)) fun (v7 : (Int)) => (some v7))
theorem koy (r105 : (Tm) → (Int) → Option (Int)) (ih105 : ∀ (x0 : Tm) (x1 : Int) r, r105 x0 x1 = some r → kac Tryz.prog 105 [eTm x0, eI x1] (eI (r))) (a0 : Tm) (a1 : Int) (r : Int) (h : ke7 r105 a0 a1 = some r) : kac Tryz.prog 105 [eTm a0, eI a1] (eI (r)) := by
 unfold ke7 at h
 refine pcl [.one .keep] Tryz.func105 ?_
 refine lp1 17 (fun v1 => ⟨27, [(1, (fI (v1.1))), (2, (.ref 1 0 0)), (5, (fI (v1.2)))], [(1, (.box 29 [(fI (a0.rule)), (.fz ((eL 2 eTmR) (a0.args)))]))], [1], []⟩) (.exit 0) (fun v7 => ⟨27, [(1, (fI (v7)))], [], [], []⟩) h (fun v1 r h => ?_) fun v7 h => ?_
 ·unfold kc5 at h
  refine jn1 2 .normal (fun v3 => ⟨27, [(1, (fI (v1.1))), (2, (.ref 1 0 0)), (5, (fI (v1.2))), (16, (fB (v3)))], [(1, (.box 29 [(fI (a0.rule)), (.fz ((eL 2 eTmR) (a0.args)))]))], [1], []⟩) h (fun v3 h => ?_) fun v3 h => ?_
  ·refine gd 7 h (fun h => ?_) fun h => ?_
   ·cases h; exact lj 4
   cases h; exact lj 4
  refine cd 0 h (fun h => ?_) fun h => ?_
  ·refine ix nTmR 7 h fun v4 h => ?_
   refine cl 2 h (ih105 _ _) (by kernel_rfl) fun v5 h => ?_
   cases h; exact lj 7
  cases h; exact lo 1 (by kernel_rfl)
 cases h; exact lq 6
def kdb : Nat → (Tm) → (Int) → Option (Int)
  | 0 => fun _ _ => none
  | n + 1 => ke7 (kdb n)
theorem kk5 : ∀ (n : Nat) (x0 : Tm) (x1 : Int) r, kdb n x0 x1 = some r → kac Tryz.prog 105 [eTm x0, eI x1] (eI (r))
  | 0, _, _, _, h => by cases h
  | n + 1, x0, x1, r, h => koy (kdb n) (kk5 n) x0 x1 r h
def kdj (a0 : Tm) (a1 : Int) : Option (Bool) := (Option.bind (kdb fuel (a0) (a1)) fun v1 => (some (decide (0 ≤ v1))))
theorem kon (a0 : Tm) (a1 : Int) (r : Bool) (h : kdj a0 a1 = some r) : kac Tryz.prog 66 [eTm a0, eI a1] (eB (r)) := by
 unfold kdj at h
 refine pcl [.one .keep] Tryz.func66 ?_
 refine cl 9 h (kk5 _ _ _) (by kernel_rfl) fun v1 h => ?_
 cases h; exact lq 4
def kds (a0 : Tm) (r67 : (Tm) → Option (Int)) (v1 : (Int) × (Int)) : Option (((Int) × (Int)) ⊕ ((Int))) := (bif (decide (v1.2 < (List.length a0.args : Int))) then (Option.bind (idx a0.args v1.2) fun v2 => (Option.bind (r67 (v2)) fun v3 => (some (.inl ((imax v1.1 v3), (w64 (v1.2 + 1))))))) else (some (.inr (v1.1))))
def kex (r67 : (Tm) → Option (Int)) (a0 : Tm) : Option (Int) := (Option.bind (kaa (kds a0 r67) fuel (0, 0)) fun (v5 : (Int)) => (some (w64 (v5 + 1))))
theorem kod (r67 : (Tm) → Option (Int)) (ih67 : ∀ (x0 : Tm) r, r67 x0 = some r → kac Tryz.prog 67 [eTm x0] (eI (r))) (a0 : Tm) (r : Int) (h : kex r67 a0 = some r) : kac Tryz.prog 67 [eTm a0] (eI (r)) := by
 unfold kex at h
 refine pcl [.one .keep] Tryz.func67 ?_
 refine lp1 15 (fun v1 => ⟨22, [(1, (.ref 1 0 0)), (3, (fI (v1.1))), (4, (fI (v1.2)))], [(1, (.box 29 [(fI (a0.rule)), (.fz ((eL 2 eTmR) (a0.args)))]))], [1], []⟩) (.exit 0) (fun v5 => ⟨22, [(3, (fI (v5)))], [], [], []⟩) h (fun v1 r h => ?_) fun v5 h => ?_
 ·unfold kds at h
  refine cd 9 h (fun h => ?_) fun h => ?_
  ·refine ix nTmR 8 h fun v2 h => ?_
   refine cl 1 h (ih67 _) (by kernel_rfl) fun v3 h => ?_
   cases h; exact lj 8
  cases h; exact lo 1 (by kernel_rfl)
 cases h; exact lq 7
def kc1 : Nat → (Tm) → Option (Int)
  | 0 => fun _ => none
  | n + 1 => kex (kc1 n)
theorem kkl : ∀ (n : Nat) (x0 : Tm) r, kc1 n x0 = some r → kac Tryz.prog 67 [eTm x0] (eI (r))
  | 0, _, _, h => by cases h
  | n + 1, x0, r, h => kod (kc1 n) (kkl n) x0 r h
def kfl (a0 : Ru) : Option (Int) := (bif (a0.kind != 3) then (some 0) else (some (List.length a0.args : Int)))
theorem kpm (a0 : Ru) (r : Int) (h : kfl a0 = some r) : kac Tryz.prog 106 [eRu a0] (eI (r)) := by
 unfold kfl at h
 refine pcl [.one .keep] Tryz.func106 ?_
 refine cd 12 h (fun h => ?_) fun h => ?_
 ·cases h; exact lq 5
 cases h; exact lq 9
def kd6 (a0 : La) (a2 : Tm) (r68 : (La) → (Int) → (Tm) → Option (Int)) (v3 : Ru) (v5 : (Int)) : Option (((Int)) ⊕ (((Unit) ⊕ (Int)))) := (bif (decide (v5 < (List.length a2.args : Int))) then (Option.bind (idx v3.args v5) fun v6 => (Option.bind (idx a2.args v5) fun v7 => (Option.bind (r68 (a0) (v6) (v7)) fun v8 => (bif (v8 != 0) then (some (.inr (.inr v8))) else (some (.inl ((w64 (v5 + 1))))))))) else (some (.inr (.inl ()))))
def kfa (r68 : (La) → (Int) → (Tm) → Option (Int)) (a0 : La) (a1 : Int) (a2 : Tm) : Option (Int) := (Option.bind ((bif (decide (a2.rule < 0)) then (some (true)) else (some ((decide ((List.length a0.rules : Int) ≤ a2.rule))))) : Option ((Bool))) fun (v2 : (Bool)) => (bif v2 then (some 1) else (Option.bind (idx a0.rules a2.rule) fun v3 => (bif (v3.symbol != a1) then (some 3) else (Option.bind (kfl (v3)) fun v4 => (bif ((List.length a2.args : Int) != v4) then (some 4) else (Option.bind (kaa (kd6 a0 a2 r68 v3) fuel (0)) fun (v9 : ((Unit) ⊕ (Int))) => Sum.elim (fun v10 => (some 0)) (fun v11 => (some v11)) v9)))))))
theorem kpf (r68 : (La) → (Int) → (Tm) → Option (Int)) (ih68 : ∀ (x0 : La) (x1 : Int) (x2 : Tm) r, r68 x0 x1 x2 = some r → kac Tryz.prog 68 [eLa x0, eI x1, eTm x2] (eI (r))) (a0 : La) (a1 : Int) (a2 : Tm) (r : Int) (h : kfa r68 a0 a1 a2 = some r) : kac Tryz.prog 68 [eLa a0, eI a1, eTm a2] (eI (r)) := by
 unfold kfa at h
 refine pcl [.one .keep] Tryz.func68 ?_
 refine jn1 8 .normal (fun v2 => ⟨59, [(1, (fI (a1))), (3, (.ref 1 0 0)), (5, (.ref 2 0 0)), (20, (fB (v2)))], [(1, (.box 26 [(fS (a0.name)), (.fz ((eL 1 eI) (a0.inputs))), (.fz ((eL 2 eSy) (a0.symbols))), (.fz ((eL 9 eRu) (a0.rules)))])), (2, (.box 29 [(fI (a2.rule)), (.fz ((eL 2 eTmR) (a2.args)))]))], [2, 1], []⟩) h (fun v2 h => ?_) fun v2 h => ?_
 ·refine gd 5 h (fun h => ?_) fun h => ?_
  ·cases h; exact lj 8
  cases h; exact lj 8
 refine cd 0 h (fun h => ?_) fun h => ?_
 ·cases h; exact lq 5
 refine ix nRu 7 h fun v3 h => ?_
 refine cd 12 h (fun h => ?_) fun h => ?_
 ·cases h; exact lq 5
 refine dw 3 5 ?_
 refine cl 4 h (kpm _) (by kernel_rfl) fun v4 h => ?_
 refine cd 3 h (fun h => ?_) fun h => ?_
 ·cases h; exact lq 5
 refine lpx 7 (fun v5 => ⟨59, [(3, (.ref 1 0 0)), (5, (.ref 2 0 0)), (7, (.ref 3 0 0)), (8, (fI (v5)))], [(1, (.box 26 [(fS (a0.name)), (.fz ((eL 1 eI) (a0.inputs))), (.fz ((eL 2 eSy) (a0.symbols))), (.fz ((eL 9 eRu) (a0.rules)))])), (2, (.box 29 [(fI (a2.rule)), (.fz ((eL 2 eTmR) (a2.args)))])), (3, (.box 45 [(fI (v3.symbol)), (fI (v3.kind)), (fI (v3.input)), (fI (v3.const.type)), (fI (v3.const.num)), (fS (v3.const.text)), (.fz ((eL 4 eVaR) (v3.const.items))), (fS (v3.op)), (.fz ((eL 1 eI) (v3.args)))]))], [3, 2, 1], []⟩) (fun v9 e st => Sum.elim (fun p => e = .exit 0 ∧ LeSt st ⟨59, [], [], [], []⟩) (fun p => e = .ret ∧ retX TT st Tryz.f68.results.toList [.one .keep] = some (eI (p))) v9) h (by kernel_rfl) (le_a) (fun v5 r h => ?_) fun v9 h e st' hq => ?_
 ·unfold kd6 at h
  refine cd 9 h (fun h => ?_) fun h => ?_
  ·refine dw 4 11 ?_
   refine ix nI 4 h fun v6 h => ?_
   refine ix nTmR 4 h fun v7 h => ?_
   refine cl 2 h (ih68 _ _ _) (by kernel_rfl) fun v8 h => ?_
   refine cd 7 h (fun h => ?_) fun h => ?_
   ·cases h; exact lor 6
   cases h; exact lj 6
  cases h; exact lo 1 (by kernel_rfl)
 rcases v9 with v10 | v11
 ·try simp only [Sum.elim_inl, Sum.elim_inr] at h
  obtain ⟨rfl, hle⟩ := hq
  refine ⟨_, hle, ?_⟩
  cases h; exact lq 5
 ·try simp only [Sum.elim_inl, Sum.elim_inr] at h
  obtain ⟨rfl, hret⟩ := hq
  refine ⟨_, LeSt.refl, ?_⟩
  cases h; exact lv hret
def kdd : Nat → (La) → (Int) → (Tm) → Option (Int)
  | 0 => fun _ _ _ => none
  | n + 1 => kfa (kdd n)
theorem kky : ∀ (n : Nat) (x0 : La) (x1 : Int) (x2 : Tm) r, kdd n x0 x1 x2 = some r → kac Tryz.prog 68 [eLa x0, eI x1, eTm x2] (eI (r))
  | 0, _, _, _, _, h => by cases h
  | n + 1, x0, x1, x2, r, h => kpf (kdd n) (kky n) x0 x1 x2 r h
def kkp (a0 : La) (a2 : Tm) : List (Nat × AObj) := [(1, (.box 26 [(fS (a0.name)), (.fz ((eL 1 eI) (a0.inputs))), (.fz ((eL 2 eSy) (a0.symbols))), (.fz ((eL 9 eRu) (a0.rules)))])), (2, (.box 29 [(fI (a2.rule)), (.fz ((eL 2 eTmR) (a2.args)))]))]
def kdx (a0 : La) (a1 : Int) (a2 : Tm) : Option (Int) := (Option.bind (kce (a0)) fun v1 => (bif (v1 != 0) then (some v1) else (Option.bind ((bif (decide (a1 < 0)) then (some (true)) else (some ((decide ((List.length a0.symbols : Int) ≤ a1))))) : Option ((Bool))) fun (v3 : (Bool)) => (bif v3 then (some 1) else (Option.bind ((Option.bind (kdj (a2) (4096)) fun v4 => (bif (!v4) then (some (true)) else (Option.bind (kc1 fuel (a2)) fun v5 => (some ((decide (32 < v5))))))) : Option ((Bool))) fun (v7 : (Bool)) => (bif v7 then (some 2) else (Option.bind (kdd fuel (a0) (a1) (a2)) fun v8 => (some v8))))))))
theorem kpq (a0 : La) (a1 : Int) (a2 : Tm) (r : Int) (h : kdx a0 a1 a2 = some r) : kac Tryz.prog 30 [eLa a0, eI a1, eTm a2] (eI (r)) := by
 unfold kdx at h
 refine pcl [.one .keep] Tryz.func30 ?_
 refine cl 10 h (kko _) (by kernel_rfl) fun v1 h => ?_
 refine cd 7 h (fun h => ?_) fun h => ?_
 ·cases h; exact lq 6
 refine jn1 3 .normal (fun v3 => ⟨34, [(1, (fI (a1))), (3, (.ref 1 0 0)), (5, (.ref 2 0 0)), (21, (fB (v3)))], (kkp a0 a2), [2, 1], []⟩) h (fun v3 h => ?_) fun v3 h => ?_
 ·refine gd 4 h (fun h => ?_) fun h => ?_
  ·cases h; exact lj 7
  cases h; exact lj 7
 refine cd 0 h (fun h => ?_) fun h => ?_
 ·cases h; exact lq 5
 refine jn1 3 .normal (fun v7 => ⟨34, [(1, (fI (a1))), (3, (.ref 1 0 0)), (5, (.ref 2 0 0)), (29, (fB (v7)))], (kkp a0 a2), [2, 1], []⟩) h (fun v7 h => ?_) fun v7 h => ?_
 ·refine cl 2 h (kon _ _) (by kernel_rfl) fun v4 h => ?_
  refine gd 2 h (fun h => ?_) fun h => ?_
  ·cases h; exact lj 5
  refine cl 1 h (kkl _ _) (by kernel_rfl) fun v5 h => ?_
  cases h; exact lj 3
 refine cd 0 h (fun h => ?_) fun h => ?_
 ·cases h; exact lq 5
 refine cl 6 h (kky _ _ _ _) (by kernel_rfl) fun v8 h => ?_
 cases h; exact lq 3
end Go.Proofs.YtaimpcnpifoidaaGreatDoor
