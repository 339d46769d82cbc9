import Derived.Test.YtaimpcnpifoidaaGreatDoorVd
set_option linter.unusedVariables false
set_option linter.unusedSimpArgs false
namespace Go.Proofs.YtaimpcnpifoidaaGreatDoor
open Go Go.RowKit
def badP (c : Int) (z : Bool) : Option Bool := (Option.bind ((bif (decide (97 ≤ (ior .u8 c 32))) then (some ((decide ((ior .u8 c 32) ≤ 122)))) else (some (false))) : Option ((Bool))) fun (v6 : (Bool)) => ((bif (!v6) then (bif z then (some (true)) else (bif (c != 45) then (bif (decide (c < 48)) then (some (true)) else (some ((decide (57 < c))))) else (some (false)))) else (some (false))) : Option ((Bool))))
def badR (c : Int) (z : Bool) : Option Bool := (Option.bind ((bif (decide (97 ≤ c)) then (bif (decide (c ≤ 122)) then (some (true)) else (bif (decide (65 ≤ c)) then (some ((decide (c ≤ 90)))) else (some (false)))) else (bif (decide (65 ≤ c)) then (some ((decide (c ≤ 90)))) else (some (false)))) : Option ((Bool))) fun (v9 : (Bool)) => ((bif (!v9) then (bif z then (some (true)) else (bif (c != 45) then (bif (decide (c < 48)) then (some (true)) else (some ((decide (57 < c))))) else (some (false)))) else (some (false))) : Option ((Bool))))
set_option maxRecDepth 100000 in
theorem kab4 : (List.range 256).all (fun k => [true, false].all fun z => (badP (k : Int) z == badR (k : Int) z) && (badP (k : Int) z).isSome) = true := by kernel_rfl
theorem k82 (c : UInt8) (z : Bool) : ∃ b, badP (c.toNat : Int) z = some b ∧ badR (c.toNat : Int) z = some b := by
 have h := List.all_eq_true.1 kab4 c.toNat (List.mem_range.2 (UInt8.toNat_lt c))
 have h2 := List.all_eq_true.1 h z (by cases z <;> simp)
 simp only [Bool.and_eq_true, beq_iff_eq] at h2
 obtain ⟨h3, h4⟩ := h2
 cases hp : badP (c.toNat : Int) z with
 | none => rw [hp] at h4; cases h4
 | some b => exact ⟨b, rfl, by rw [← h3, hp]⟩
theorem kv1 (s : ByteArray) (hs : s.size ≤ 9223372036854775807) : ∃ b, khw s = some b ∧ kdc s = some b := by
 have hsz := kbq s
 obtain ⟨r, r', h1, h2, rfl, h3⟩ := khi (step := ke5 s) (step' := kbz s) s.size (by omega) (fun i => (i : Int)) (fun i => (i : Int)) (fun r r' => r = r' ∧ (r = .inl () ∨ r = .inr false)) (fun i hi => by
  have hi' : i < s.data.toList.length := by rw [← kbq]; exact hi
  have e1 : byt s (i : Int) = some (s.data.toList[i].toNat : Int) := by rw [kmv, List.getElem?_eq_getElem hi']; rfl
  have b1 : decide ((i : Int) < (s.size : Int)) = true := decide_eq_true (by omega)
  obtain ⟨b, p1, p2⟩ := k82 s.data.toList[i] ((i : Int) == 0)
  unfold badP at p1
  unfold badR at p2
  have q1 : ke5 s (i : Int) = bif b then some (.inr (.inr false)) else some (.inl (w64 ((i : Int) + 1))) := by
   simp only [ke5, b1, cond_true, e1, Option.bind_some]
   rw [← Option.bind_assoc, p1, Option.bind_some]
  have q2 : kbz s (i : Int) = bif b then some (.inr (.inr false)) else some (.inl (w64 ((i : Int) + 1))) := by
   simp only [kbz, b1, cond_true, e1, Option.bind_some]
   rw [← Option.bind_assoc, p2, Option.bind_some]
  rw [q1, q2, kbt (n := i) (by omega)]
  cases b with
  | true => exact .inr ⟨_, _, rfl, rfl, rfl, .inr rfl⟩
  | false => exact .inl ⟨rfl, rfl⟩) (by
  have b1 : decide ((s.size : Int) < (s.size : Int)) = false := decide_eq_false (by omega)
  simp only [ke5, kbz, b1, cond_false]
  exact ⟨_, _, rfl, rfl, rfl, .inl rfl⟩)
 have h1' : kaa (ke5 s) fuel 0 = some r := by simpa using h1
 have h2' : kaa (kbz s) fuel 0 = some r := by simpa using h2
 unfold khw kdc
 rw [h1', h2']
 simp only [Option.bind_some]
 by_cases hz : (s.size : Int) < 1
 ·rw [decide_eq_true hz, decide_eq_false (show ¬ (1 : Int) ≤ (s.size : Int) by omega)]
  rcases h3 with rfl | rfl <;> exact ⟨false, rfl, rfl⟩
 ·rw [decide_eq_false hz, decide_eq_true (show (1 : Int) ≤ (s.size : Int) by omega)]
  by_cases hg : (24 : Int) < (s.size : Int)
  ·rw [decide_eq_true hg, decide_eq_false (show ¬ (s.size : Int) ≤ 24 by omega)]
   rcases h3 with rfl | rfl <;> exact ⟨false, rfl, rfl⟩
  ·rw [decide_eq_false hg, decide_eq_true (show (s.size : Int) ≤ 24 by omega)]
   rcases h3 with rfl | rfl
   ·exact ⟨true, rfl, rfl⟩
   ·exact ⟨false, rfl, rfl⟩
def tyB (t : Int) : Bool := decide (1 ≤ t) && decide (t ≤ 8)
theorem ku4 (t : Int) : khv t = some (tyB t) := by
 unfold khv tyB
 cases decide (1 ≤ t) <;> rfl
theorem ks8 (t : Int) : ker t = some (tyB t) := ku4 t
theorem k07 (l : La) (h : l.inputs.length ≤ 9223372036854775807) : ∃ r, kaa (kfz l) fuel 0 = some r ∧ kaa (kcb l) fuel 0 = some r ∧ ∀ e, r = .inr e → e ≠ 0 := by
 obtain ⟨r, r', h1, h2, rfl, h3⟩ := khi (step := kfz l) (step' := kcb l) l.inputs.length (by omega) (fun i => (i : Int)) (fun i => (i : Int)) (fun r r' => r = r' ∧ ∀ e, r = .inr e → e ≠ 0) (fun i hi => by
  have e1 : l.inputs[i]? = some l.inputs[i] := List.getElem?_eq_getElem hi
  have b1 : decide ((i : Int) < (l.inputs.length : Int)) = true := decide_eq_true (by omega)
  simp only [kfz, kcb, b1, cond_true, kan, e1, Option.bind_some, ku4, ks8, kbt (n := i) (by omega)]
  cases tyB l.inputs[i] with
  | true => exact .inl ⟨rfl, rfl⟩
  | false => exact .inr ⟨_, _, rfl, rfl, rfl, fun e h => by cases h; decide⟩) (by
  have b1 : decide ((l.inputs.length : Int) < (l.inputs.length : Int)) = false := decide_eq_false (by omega)
  simp only [kfz, kcb, b1, cond_false]
  exact ⟨_, _, rfl, rfl, rfl, fun e h => by cases h⟩)
 exact ⟨r, by simpa using h1, by simpa using h2, h3⟩
theorem km4 {α : Type} (s : ByteArray) : ∀ (m : List (ByteArray × α)) (i : Nat), kfm s m i = (kfm s m 0).map fun p => (p.1 + i, p.2)
 | [], i => rfl
 | (k, v) :: l, i => by
  simp only [kfm]
  cases s.toList == k.toList with
  | true => simp
  | false =>
   simp only [cond_false]
   rw [km4 s l (i + 1), km4 s l (0 + 1), Option.map_map]
   congr 1
   funext p
   simp only [Function.comp, Prod.mk.injEq, and_true]
   omega
theorem kns {α : Type} (k s : ByteArray) (v z : α) (l : List (ByteArray × α)) : mget ((k, v) :: l) s z = bif s.toList == k.toList then v else mget l s z := by
 unfold mget
 simp only [kfm]
 cases s.toList == k.toList with
 | true => rfl
 | false =>
  simp only [cond_false]
  rw [km4]
  cases kfm s l 0 <;> rfl
theorem k6f {α : Type} (k s : ByteArray) (v y : α) (l : List (ByteArray × α)) : mput ((k, v) :: l) s y = bif s.toList == k.toList then (s, y) :: l else (k, v) :: mput l s y := by
 unfold mput
 simp only [kfm]
 cases s.toList == k.toList with
 | true => rfl
 | false =>
  simp only [cond_false]
  rw [km4]
  cases kfm s l 0 <;> rfl
theorem k3d {a b c : ByteArray} (h : (a.toList == b.toList) = true) : (c.toList == a.toList) = (c.toList == b.toList) := by rw [beq_iff_eq] at h; rw [h]
theorem kx3 {α : Type} (k s : ByteArray) (y z : α) : ∀ m : List (ByteArray × α), mget (mput m k y) s z = bif s.toList == k.toList then y else mget m s z
 | [] => by
  show mget [(k, y)] s z = _
  rw [kns]
 | (k', v) :: l => by
  rw [k6f]
  cases h : k.toList == k'.toList with
  | true =>
   simp only [cond_true]
   rw [kns, kns, k3d (c := s) h]
   cases s.toList == k'.toList <;> rfl
  | false =>
   simp only [cond_false]
   rw [kns, kns, kx3 k s y z l]
   cases h1 : s.toList == k'.toList with
   | false => rfl
   | true =>
    cases h2 : s.toList == k.toList with
    | false => rfl
    | true =>
     rw [beq_iff_eq] at h1 h2
     rw [← h1, ← h2] at h
     simp at h
def mOf (xs : List Sy) : List (ByteArray × Bool) := xs.foldl (fun m x => mput m x.name true) []
theorem k7o (xs : List Sy) (x : Sy) : mOf (xs ++ [x]) = mput (mOf xs) x.name true := by unfold mOf; rw [List.foldl_append]; rfl
theorem kxq (s : ByteArray) : ∀ (xs : List Sy) (m : List (ByteArray × Bool)), mget (xs.foldl (fun m x => mput m x.name true) m) s false = (mget m s false || xs.any fun x => s.toList == x.name.toList)
 | [], m => by simp
 | x :: xs, m => by
  rw [List.foldl_cons, kxq s xs, kx3, List.any_cons]
  cases s.toList == x.name.toList <;> simp
theorem k76 (s : ByteArray) (xs : List Sy) : mget (mOf xs) s false = xs.any fun x => s.toList == x.name.toList := by
 unfold mOf
 rw [kxq]
 rfl
theorem kaaw (l : La) (i : Nat) (hi : i < l.symbols.length) (hl : l.symbols.length ≤ 9223372036854775807) : kaa (kbu l (i : Int)) fuel 0 = some (if ((l.symbols.take i).any fun x => l.symbols[i].name.toList == x.name.toList) = true then .inr 6 else .inl ()) := by
 have hlen : (l.symbols.take i).length = i := by rw [List.length_take]; omega
 have := kjz (step := kbu l (i : Int)) i (by omega) (fun j => (j : Int)) (fun j => if (((l.symbols.take i).drop j).any fun x => l.symbols[i].name.toList == x.name.toList) = true then .inr 6 else .inl ()) (fun j hj => by
  have e0 : l.symbols[i]? = some l.symbols[i] := List.getElem?_eq_getElem hi
  have hj' : j < l.symbols.length := by omega
  have e1 : l.symbols[j]? = some l.symbols[j] := List.getElem?_eq_getElem hj'
  have b1 : decide ((j : Int) < (i : Int)) = true := decide_eq_true (by omega)
  have hd : (l.symbols.take i).drop j = l.symbols[j] :: (l.symbols.take i).drop (j + 1) := by
   rw [List.drop_eq_getElem_cons (by omega)]
   congr 1
   exact List.getElem_take
  have hc : (l.symbols[j].name.toList == l.symbols[i].name.toList) = (l.symbols[i].name.toList == l.symbols[j].name.toList) := by rw [Bool.eq_iff_iff, beq_iff_eq, beq_iff_eq]; exact eq_comm
  simp only [kbu, b1, cond_true, kan, e0, e1, Option.bind_some, hd, List.any_cons, kbt (n := j) (by omega), hc]
  cases hb : l.symbols[i].name.toList == l.symbols[j].name.toList with
  | true => exact .inr rfl
  | false => exact .inl ⟨rfl, rfl⟩) (by
  have b1 : decide ((i : Int) < (i : Int)) = false := decide_eq_false (by omega)
  have hd : (l.symbols.take i).drop i = [] := List.drop_eq_nil_of_le (by omega)
  simp only [kbu, b1, cond_false, hd, List.any_nil]
  rfl)
 simpa using this
theorem ky4 (l : La) (h : l.symbols.length ≤ 9223372036854775807) (hs : ∀ x ∈ l.symbols, x.name.size ≤ 9223372036854775807) : ∃ r, kaa (kf3 l) fuel (0, []) = some r ∧ kaa (kb7 l) fuel 0 = some r ∧ ∀ e, r = .inr e → e ≠ 0 := by
 obtain ⟨r, r', h1, h2, rfl, h3⟩ := khi (step := kf3 l) (step' := kb7 l) l.symbols.length (by omega) (fun i => ((i : Int), mOf (l.symbols.take i))) (fun i => (i : Int)) (fun r r' => r = r' ∧ ∀ e, r = .inr e → e ≠ 0) (fun i hi => by
  have e1 : l.symbols[i]? = some l.symbols[i] := List.getElem?_eq_getElem hi
  have b1 : decide ((i : Int) < (l.symbols.length : Int)) = true := decide_eq_true (by omega)
  obtain ⟨b, n1, n2⟩ := kv1 l.symbols[i].name (hs _ (List.getElem_mem hi))
  have hd := kaaw l i hi h
  have hm := k76 l.symbols[i].name (l.symbols.take i)
  have hnext : mput (mOf (l.symbols.take i)) l.symbols[i].name true = mOf (l.symbols.take (i + 1)) := by
   rw [List.take_add_one, e1, ← k7o]; rfl
  simp only [kf3, kb7, b1, cond_true, kan, e1, Option.bind_some, n1, n2, hd, hm, ku4, ks8, kbt (n := i) (by omega), hnext]
  cases b with
  | false => exact .inr ⟨_, _, rfl, rfl, rfl, fun e h => by cases h; decide⟩
  | true =>
   simp only [Bool.not_true, cond_false]
   cases hb : (l.symbols.take i).any fun x => l.symbols[i].name.toList == x.name.toList with
   | true => exact .inr ⟨_, _, rfl, rfl, rfl, fun e h => by cases h; decide⟩
   | false =>
    cases tyB l.symbols[i].type with
    | true => exact .inl ⟨rfl, rfl⟩
    | false => exact .inr ⟨_, _, rfl, rfl, rfl, fun e h => by cases h; decide⟩) (by
  have b1 : decide ((l.symbols.length : Int) < (l.symbols.length : Int)) = false := decide_eq_false (by omega)
  simp only [kf3, kb7, b1, cond_false]
  exact ⟨_, _, rfl, rfl, rfl, fun e h => by cases h⟩)
 exact ⟨r, by simpa [mOf] using h1, by simpa using h2, h3⟩
end Go.Proofs.YtaimpcnpifoidaaGreatDoor
set_option linter.unusedVariables false
set_option linter.unusedSimpArgs false
set_option maxRecDepth 100000
namespace Go.Proofs.YtaimpcnpifoidaaGreatDoor
open Go Go.RowKit
def opL : List S_operator_entry := operator_catalog.getD []
theorem k2x : operator_catalog.isSome = true := by kernel_rfl
theorem kacc : operator_catalog = some opL := by
 have h := k2x
 unfold opL
 revert h
 generalize operator_catalog = x
 intro h
 cases x with
 | none => cases h
 | some x => rfl
def refFs : List ByteArray := synthesisref09_families.getD []
theorem k68 : synthesisref09_families = some refFs := rfl
def catL (f : ByteArray) : List S_ar3_str := (kcg f).getD []
theorem k8a : refFs.all (fun f => (kcg f).isSome) = true := by kernel_rfl
theorem kabo {f : ByteArray} (hf : f ∈ refFs) : kcg f = some (catL f) := by
 have h := List.all_eq_true.1 k8a f hf
 unfold catL
 revert h
 generalize kcg f = x
 intro h
 cases x with
 | none => cases h
 | some x => rfl
def opNames : List ByteArray := opL.map fun e => e.f_Operator.f_Name
theorem k3n : (refFs.flatMap fun f => (catL f).map fun x => x.f_0) = opNames := by kernel_rfl
def eqOp : Option (S_api_Operator × Bool) → Option (S_api_Operator × Bool) → Bool
 | some (a, b), some (c, d) => (a.f_Name.toList == c.f_Name.toList) && (a.f_Args == c.f_Args) && (a.f_Result == c.f_Result) && (b == d)
 | _, _ => false
theorem kaao {x y : Option (S_api_Operator × Bool)} (h : eqOp x y = true) : ∃ r, x = some r ∧ y = some r := by
 unfold eqOp at h
 split at h
 ·rename_i a b c d
  simp only [Bool.and_eq_true, beq_iff_eq] at h
  obtain ⟨⟨⟨h1, h2⟩, h3⟩, rfl⟩ := h
  obtain ⟨n, l, t⟩ := a
  obtain ⟨n', l', t'⟩ := c
  simp only at h1 h2 h3
  have h1 : n = n' := by
   have : (n.toList == n'.toList) = true := by simpa using h1
   rw [klx, MapKept.bytes_beq] at this
   exact this
  subst h1 h2 h3
  exact ⟨_, rfl, rfl⟩
 ·cases h
theorem k5n : opNames.all (fun n => eqOp (kfs n) (kbg n)) = true := by kernel_rfl
def k6c : S_api_Operator := S_api_Operator.mk ⟨#[]⟩ [] 0
theorem k2a : opL.length < 1000 := of_decide_eq_true (by kernel_rfl)
theorem kyc : refFs.length < 1000 := of_decide_eq_true (by kernel_rfl)
theorem kzi : refFs.all (fun f => decide ((catL f).length < 1000)) = true := by kernel_rfl
theorem kzy {f : ByteArray} (hf : f ∈ refFs) : (catL f).length < 1000 := of_decide_eq_true (List.all_eq_true.1 kzi f hf)
theorem ks1 (s : ByteArray) (hin : ¬ s ∈ opNames) : kfs s = some (k6c, false) ∧ kbg s = some (k6c, false) := by
 refine ⟨?_, ?_⟩
 ·have hl := ksb (step := kfx s opL) opL.length (by have := k2a; omega) (fun i => (i : Int)) (.inl ()) (fun i hi => by
   have e1 : opL[i]? = some opL[i] := List.getElem?_eq_getElem hi
   have b1 : decide ((i : Int) < (opL.length : Int)) = true := decide_eq_true (by omega)
   have hne : (opL[i].f_Operator.f_Name.toList == s.toList) = false := by
    cases hb : opL[i].f_Operator.f_Name.toList == s.toList with
    | false => rfl
    | true =>
     rw [klx, MapKept.bytes_beq] at hb
     exact absurd (List.mem_map.2 ⟨opL[i], List.getElem_mem hi, hb⟩) hin
   simp only [kfx, b1, cond_true, kan, e1, Option.bind_some, hne, cond_false, kbt (n := i) (by have := k2a; omega)]) (by
   have b1 : decide ((opL.length : Int) < (opL.length : Int)) = false := decide_eq_false (by omega)
   simp only [kfx, b1, cond_false])
  have hl' : kaa (kfx s opL) fuel 0 = some (.inl ()) := by simpa using hl
  simp only [kfs, klh, kacc, Option.bind_some, hl', Sum.elim_inl]
  rfl
 ·have hl := ksb (step := kdi s refFs) refFs.length (by have := kyc; omega) (fun i => (i : Int)) (.inl ()) (fun i hi => by
   have e1 : refFs[i]? = some refFs[i] := List.getElem?_eq_getElem hi
   have hf : refFs[i] ∈ refFs := List.getElem_mem hi
   have b1 : decide ((i : Int) < (refFs.length : Int)) = true := decide_eq_true (by omega)
   have hl2 := ksb (step := kdg s refFs[i] (catL refFs[i])) (catL refFs[i]).length (by have := kzy hf; omega) (fun i => (i : Int)) (.inl ()) (fun j hj => by
    have e2 : (catL refFs[i])[j]? = some (catL refFs[i])[j] := List.getElem?_eq_getElem hj
    have b2 : decide ((j : Int) < ((catL refFs[i]).length : Int)) = true := decide_eq_true (by omega)
    have hne : ((catL refFs[i])[j].f_0.toList == s.toList) = false := by
     cases hb : (catL refFs[i])[j].f_0.toList == s.toList with
     | false => rfl
     | true =>
      rw [klx, MapKept.bytes_beq] at hb
      refine absurd ?_ hin
      rw [← k3n]
      exact List.mem_flatMap.2 ⟨refFs[i], hf, List.mem_map.2 ⟨_, List.getElem_mem hj, hb⟩⟩
    simp only [kdg, b2, cond_true, kan, e2, Option.bind_some, hne, cond_false, kbt (n := j) (by have := kzy hf; omega)]) (by
    have b2 : decide (((catL refFs[i]).length : Int) < ((catL refFs[i]).length : Int)) = false := decide_eq_false (by omega)
    simp only [kdg, b2, cond_false])
   have hl2' : kaa (kdg s refFs[i] (catL refFs[i])) fuel 0 = some (.inl ()) := by simpa using hl2
   simp only [kdi, b1, cond_true, kan, e1, Option.bind_some, kabo hf, hl2', Sum.elim_inl, kbt (n := i) (by have := kyc; omega)]) (by
   have b1 : decide ((refFs.length : Int) < (refFs.length : Int)) = false := decide_eq_false (by omega)
   simp only [kdi, b1, cond_false])
  have hl' : kaa (kdi s refFs) fuel 0 = some (.inl ()) := by simpa using hl
  simp only [kbg, kgr, k68, Option.bind_some, hl', Sum.elim_inl, beq_self_eq_true, cond_true]
  rfl
theorem kxo (s : ByteArray) : ∃ r, kfs s = some r ∧ kbg s = some r := by
 by_cases hin : s ∈ opNames
 ·exact kaao (List.all_eq_true.1 k5n s hin)
 ·exact ⟨_, ks1 s hin⟩
end Go.Proofs.YtaimpcnpifoidaaGreatDoor
set_option linter.unusedVariables false
set_option linter.unusedSimpArgs false
namespace Go.Proofs.YtaimpcnpifoidaaGreatDoor
open Go Go.RowKit
theorem krb {α : Type} {xs : List α} {i : Int} (h0 : 0 ≤ i) (h1 : i < (xs.length : Int)) : ∃ x, idx xs i = some x ∧ x ∈ xs := by
 have h : i.toNat < xs.length := by omega
 refine ⟨xs[i.toNat], ?_, List.getElem_mem h⟩
 unfold idx
 rw [if_pos h0, List.getElem?_eq_getElem h]
theorem k4x (x y : List Int) : kb9 x y = kcc x y := rfl
theorem k4z (x y : List Int) (hx : x.length ≤ 9223372036854775807) : ∃ c, kcc x y = some c := by
 unfold kcc
 by_cases hl : (x.length : Int) = (y.length : Int)
 ·obtain ⟨r, h1, _⟩ := knb (step := kca x y) (step' := kca x y) x.length (by omega) (fun i => (i : Int)) (fun i hi => by
   have e1 : x[i]? = some x[i] := List.getElem?_eq_getElem hi
   have hi2 : i < y.length := by omega
   have e2 : y[i]? = some y[i] := List.getElem?_eq_getElem hi2
   have b1 : decide ((i : Int) < (x.length : Int)) = true := decide_eq_true (by omega)
   simp only [kca, b1, cond_true, kan, e1, e2, Option.bind_some, kbt (n := i) (by omega)]
   cases x[i] != y[i] with
   | true => exact .inr ⟨_, rfl, rfl⟩
   | false => exact .inl ⟨rfl, rfl⟩) (.inl ()) (by
   have b1 : decide ((x.length : Int) < (x.length : Int)) = false := decide_eq_false (by omega)
   simp only [kca, b1, cond_false]) (by
   have b1 : decide ((x.length : Int) < (x.length : Int)) = false := decide_eq_false (by omega)
   simp only [kca, b1, cond_false])
  have h1' : kaa (kca x y) fuel 0 = some r := by simpa using h1
  rw [h1', show ((x.length : Int) != (y.length : Int)) = false by rw [bne_eq_false_iff_eq]; omega]
  cases r with
  | inl u => exact ⟨true, rfl⟩
  | inr b => exact ⟨b, rfl⟩
 ·rw [show ((x.length : Int) != (y.length : Int)) = true by rw [bne_iff_ne]; omega]
  exact ⟨false, rfl⟩
theorem kuy (x : List Int) : kcc x [] = some ((x.length : Int) == 0) := by
 cases x with
 | nil => kernel_rfl
 | cons a x =>
  unfold kcc
  have h1 : ((((a :: x).length : Nat) : Int) != (([] : List Int).length : Int)) = true := by
   rw [bne_iff_ne, List.length_cons, List.length_nil]
   omega
  have h2 : ((((a :: x).length : Nat) : Int) == 0) = false := by
   rw [beq_eq_false_iff_ne, List.length_cons]
   omega
  rw [h1, h2]
  rfl
def fineR (r : Ru) : Prop := r.args.length ≤ 9223372036854775807 ∧ okV r.const ∧ kq0 r.const
theorem kyh {a b : Ru} (ha : fineR a) (hb : fineR b) : ∃ c, kd0 a b = some c ∧ kcx a b = some c := by
 obtain ⟨c, hc⟩ := k4z a.args b.args ha.1
 unfold kd0 kcx
 simp only [k4x, hc, Option.bind_some, kqz ha.2.1 hb.2.1, kta ha.2.1 hb.2.1]
 cases a.symbol == b.symbol <;> cases a.kind == b.kind <;> cases a.input == b.input <;> cases a.op.toList == b.op.toList <;> cases c <;> exact ⟨_, rfl, rfl⟩
theorem kadi (v : Va) : Va.mk v.type v.num v.text v.items = v := by cases v; rfl
def kdz : Va := Va.mk 0 0 ⟨#[]⟩ []
theorem ku1 : okV kdz := by refine ⟨?_, ?_, trivial⟩ <;> simp [kdz, depV, kp5]
theorem k6a (l : La) (r : Ru) (o : S_api_Operator × Bool) (hr : r.args.length ≤ 9223372036854775807) (hl : r.args.length = o.1.f_Args.length) : ∃ c, kaa (kgv l r o) fuel 0 = some c ∧ kaa (kay l r o) fuel 0 = some c := by
 obtain ⟨c, h1, h2⟩ := knb (step := kgv l r o) (step' := kay l r o) r.args.length (by omega) (fun i => (i : Int)) (fun i hi => by
  have e1 : r.args[i]? = some r.args[i] := List.getElem?_eq_getElem hi
  have hi2 : i < o.1.f_Args.length := by omega
  have e2 : o.1.f_Args[i]? = some o.1.f_Args[i] := List.getElem?_eq_getElem hi2
  have b1 : decide ((i : Int) < (r.args.length : Int)) = true := decide_eq_true (by omega)
  simp only [kgv, kay, khd, b1, cond_true, kan, e1, e2, Option.bind_some, kbt (n := i) (by omega)]
  by_cases h0 : 0 ≤ r.args[i]
  ·by_cases h1 : r.args[i] < (l.symbols.length : Int)
   ·obtain ⟨x, hx, _⟩ := krb h0 h1
    rw [decide_eq_true h0, decide_eq_true h1, decide_eq_false (show ¬ r.args[i] < 0 by omega), decide_eq_false (show ¬ (l.symbols.length : Int) ≤ r.args[i] by omega)]
    simp only [cond_true, cond_false, Option.bind_some, Bool.not_true, hx]
    cases x.type != o.1.f_Args[i] with
    | true => exact .inr ⟨_, rfl, rfl⟩
    | false => exact .inl ⟨rfl, rfl⟩
   ·rw [decide_eq_true h0, decide_eq_false h1, decide_eq_false (show ¬ r.args[i] < 0 by omega), decide_eq_true (show (l.symbols.length : Int) ≤ r.args[i] by omega)]
    exact .inr ⟨_, rfl, rfl⟩
  ·rw [decide_eq_false h0, decide_eq_true (show r.args[i] < 0 by omega)]
   exact .inr ⟨_, rfl, rfl⟩) (.inl ()) (by
  have b1 : decide ((r.args.length : Int) < (r.args.length : Int)) = false := decide_eq_false (by omega)
  simp only [kgv, b1, cond_false]) (by
  have b1 : decide ((r.args.length : Int) < (r.args.length : Int)) = false := decide_eq_false (by omega)
  simp only [kay, b1, cond_false])
 exact ⟨c, by simpa using h1, by simpa using h2⟩
theorem k52 (a b : Int) : (a != b) = (b != a) := by
 rw [Bool.eq_iff_iff, bne_iff_ne, bne_iff_ne]
 exact ⟨fun h e => h e.symm, fun h e => h e.symm⟩
theorem k8w (l : La) (r : Ru) (ha : r.args.length ≤ 9223372036854775807) (hz : kb0 r.const (Va.mk 0 0 ⟨#[]⟩ []) = some (eqV r.const kdz)) (hp : ke1 r.const (Va.mk 0 0 ⟨#[]⟩ []) = some (eqV r.const kdz)) (hc : ∃ c, kae fuel r.const = some c ∧ kas fuel r.const = some c) : ∃ c, kil l r = some c ∧ kb5 l r = some c := by
 have hpe : ke1 (Va.mk r.const.type r.const.num r.const.text r.const.items) (Va.mk 0 0 ⟨#[]⟩ []) = some (eqV r.const kdz) := by rw [kadi]; exact hp
 have hpz : ke1 (Va.mk 0 0 ⟨#[]⟩ []) (Va.mk 0 0 ⟨#[]⟩ []) = some true := by
  have := kqz ku1 ku1
  rw [kzq] at this
  exact this
 unfold kil kb5 khd
 by_cases h0 : 0 ≤ r.symbol
 rotate_left
 ·rw [decide_eq_false h0, decide_eq_true (show r.symbol < 0 by omega)]
  exact ⟨1, rfl, rfl⟩
 by_cases h1 : r.symbol < (l.symbols.length : Int)
 rotate_left
 ·rw [decide_eq_true h0, decide_eq_false h1, decide_eq_false (show ¬ r.symbol < 0 by omega), decide_eq_true (show (l.symbols.length : Int) ≤ r.symbol by omega)]
  exact ⟨1, rfl, rfl⟩
 obtain ⟨x, hx, _⟩ := krb h0 h1
 rw [decide_eq_true h0, decide_eq_true h1, decide_eq_false (show ¬ r.symbol < 0 by omega), decide_eq_false (show ¬ (l.symbols.length : Int) ≤ r.symbol by omega)]
 simp only [cond_true, cond_false, Option.bind_some, Bool.not_true]
 by_cases k1 : r.kind < 1
 ·rw [decide_eq_true k1]
  exact ⟨4, rfl, rfl⟩
 by_cases k3 : 3 < r.kind
 ·rw [decide_eq_false k1, decide_eq_true k3]
  exact ⟨4, rfl, rfl⟩
 rw [decide_eq_false k1, decide_eq_false k3]
 simp only [cond_false, Option.bind_some, hx]
 have hk : r.kind = 1 ∨ r.kind = 2 ∨ r.kind = 3 := by omega
 rcases hk with hk | hk | hk
 ·have c1 : (r.kind == 1) = true := by rw [hk]; rfl
  simp only [c1, cond_true, Option.bind_some, kd0, kb4, beq_self_eq_true, kuy, hpe, hz]
  have fin : ∃ c, (Option.bind ((bif (decide (r.input < 0)) then (some (true)) else (some ((decide ((List.length l.inputs : Int) ≤ r.input))))) : Option ((Bool))) fun (v9 : (Bool)) => (bif v9 then (some 1) else (Option.bind (idx l.inputs r.input) fun v10 => (Option.bind (kfn (v10) (x.type)) fun v11 => (some v11))))) = some c ∧
    (Option.bind ((bif (decide (r.input < 0)) then (some (true)) else (some ((decide ((List.length l.inputs : Int) ≤ r.input))))) : Option ((Bool))) fun (v8 : (Bool)) => (bif v8 then (some 1) else (Option.bind (idx l.inputs r.input) fun v9 => (bif (v9 != x.type) then (some 3) else (some 0))))) = some (c : Int) := by
   by_cases i0 : r.input < 0
   ·rw [decide_eq_true i0]; exact ⟨1, rfl, rfl⟩
   by_cases i1 : (l.inputs.length : Int) ≤ r.input
   ·rw [decide_eq_false i0, decide_eq_true i1]; exact ⟨1, rfl, rfl⟩
   obtain ⟨y, hy, _⟩ := krb (xs := l.inputs) (i := r.input) (by omega) (by omega)
   rw [decide_eq_false i0, decide_eq_false i1]
   simp only [cond_false, Option.bind_some, hy, kfn]
   cases y != x.type <;> exact ⟨_, rfl, rfl⟩
  obtain ⟨c, f1, f2⟩ := fin
  cases r.op.toList == (⟨#[]⟩ : ByteArray).toList <;> cases (r.args.length : Int) == 0 <;> cases eqV r.const kdz <;> first | exact ⟨4, rfl, rfl⟩ | exact ⟨c, f1, f2⟩
 ·have c1 : (r.kind == 1) = false := by rw [hk]; rfl
  have c2 : (r.kind == 2) = true := by rw [hk]; rfl
  simp only [c1, c2, cond_true, cond_false, Option.bind_some, kd0, kb4, beq_self_eq_true, kuy, hpz, hz]
  obtain ⟨c, f1, f2⟩ := hc
  simp only [f1, f2, Option.bind_some, kfn]
  cases r.input == 0 <;> cases r.op.toList == (⟨#[]⟩ : ByteArray).toList <;> cases (r.args.length : Int) == 0 <;> first | exact ⟨4, rfl, rfl⟩ | skip
  cases c != 0 with
  | true => exact ⟨c, rfl, rfl⟩
  | false => cases r.const.type != x.type <;> exact ⟨_, rfl, rfl⟩
 ·have c1 : (r.kind == 1) = false := by rw [hk]; rfl
  have c2 : (r.kind == 2) = false := by rw [hk]; rfl
  have c3 : (r.kind == 3) = true := by rw [hk]; rfl
  have en : kcc [] [] = some true := kuy []
  simp only [c1, c2, c3, cond_true, cond_false, Option.bind_some, kd0, kb4, beq_self_eq_true, en, hpe, hz]
  obtain ⟨o, f1, f2⟩ := kxo r.op
  simp only [kb3, f1, f2, Option.bind_some, kfn]
  cases r.input == 0 <;> cases eqV r.const kdz <;> first | exact ⟨4, rfl, rfl⟩ | skip
  simp only [Bool.not_true, Bool.not_false, cond_true, cond_false, Option.bind_some]
  cases o.2 with
  | false => exact ⟨5, rfl, rfl⟩
  | true =>
   simp only [Bool.not_true, cond_false]
   by_cases hl : r.args.length = o.1.f_Args.length
   ·rw [show ((r.args.length : Int) != (o.1.f_Args.length : Int)) = false by rw [bne_eq_false_iff_eq]; omega]
    obtain ⟨c, g1, g2⟩ := k6a l r o ha hl
    simp only [cond_false, g1, g2, Option.bind_some, hx]
    cases c with
    | inl u =>
     simp only [Sum.elim_inl, Option.bind_some]
     rw [k52]
     cases x.type != o.1.f_Result <;> exact ⟨_, rfl, rfl⟩
    | inr e => exact ⟨e, rfl, rfl⟩
   ·rw [show ((r.args.length : Int) != (o.1.f_Args.length : Int)) = true by rw [bne_iff_ne]; omega]
    exact ⟨2, rfl, rfl⟩
end Go.Proofs.YtaimpcnpifoidaaGreatDoor
set_option linter.unusedVariables false
set_option linter.unusedSimpArgs false
namespace Go.Proofs.YtaimpcnpifoidaaGreatDoor
open Go Go.RowKit
theorem kll {σ β : Type} {step : σ → Option (σ ⊕ β)} (n : Nat) (S : Nat → σ) (b0 : β) (hs : ∀ i, i < n → step (S i) = some (.inl (S (i + 1))) ∨ ∃ b, step (S i) = some (.inr b) ∧ b ≠ b0) :
  ∀ (k i : Nat), kaa step k (S i) = some b0 → ∀ j, i ≤ j → j < n → step (S j) = some (.inl (S (j + 1)))
 | 0, i, h => by cases h
 | k + 1, i, h => fun j hij hj => by
  rw [kaa] at h
  rcases hs i (by omega) with h1 | ⟨b, h1, h2⟩
  ·rw [h1] at h
   by_cases he : i = j
   ·subst he; exact h1
   ·exact kll n S b0 hs k (i + 1) h j (by omega) hj
  ·rw [h1] at h
   injection h with h
   exact absurd h h2
theorem kzd {α : Type} (xs : List α) (i : Nat) (hi : i ≤ xs.length) : cutL xs 0 (i : Int) = some (xs.take i) := by
 unfold cutL
 rw [if_pos (by omega)]
 simp
theorem k8v (l : La) (i : Nat) (hi : i < l.rules.length) (hl : l.rules.length ≤ 9223372036854775807) (hr : ∀ j (hj : j < l.rules.length), j ≤ i → fineR l.rules[j]) : ∃ b, kbr (l.rules.take i) l.rules[i] = some b ∧ kaa (kbm l (i : Int)) fuel 0 = some (if b = true then .inr 6 else .inl ()) := by
 have hlen : (l.rules.take i).length = i := by rw [List.length_take]; omega
 obtain ⟨r, r', h1, h2, h3⟩ := khi (step := kbc (l.rules.take i) l.rules[i]) (step' := kbm l (i : Int)) i (by omega) (fun j => (j : Int)) (fun j => (j : Int))
  (fun r r' => (r = .inl () ∧ r' = .inl ()) ∨ ∃ j : Nat, r = .inr (j : Int) ∧ r' = .inr 6) (fun j hj => by
  have e0 : l.rules[i]? = some l.rules[i] := List.getElem?_eq_getElem hi
  have hj' : j < l.rules.length := by omega
  have e1 : l.rules[j]? = some l.rules[j] := List.getElem?_eq_getElem hj'
  have e2 : (l.rules.take i)[j]? = some l.rules[j] := by rw [List.getElem?_take_of_lt hj, e1]
  have b1 : decide ((j : Int) < (i : Int)) = true := decide_eq_true (by omega)
  have b2 : decide ((j : Int) < ((l.rules.take i).length : Int)) = true := by rw [hlen]; exact b1
  obtain ⟨c, c1, c2⟩ := kyh (hr j hj' (by omega)) (hr i hi (Nat.le_refl _))
  simp only [kbc, kbm, kid, b1, b2, cond_true, kan, e0, e1, e2, Option.bind_some, c1, c2, kbt (n := j) (by omega)]
  cases c with
  | true => exact .inr ⟨_, _, rfl, rfl, .inr ⟨j, rfl, rfl⟩⟩
  | false => exact .inl ⟨rfl, rfl⟩) (by
  have b1 : decide ((i : Int) < (i : Int)) = false := decide_eq_false (by omega)
  have b2 : decide ((i : Int) < ((l.rules.take i).length : Int)) = false := by rw [hlen]; exact b1
  simp only [kbc, kbm, b1, b2, cond_false]
  exact ⟨_, _, rfl, rfl, .inl ⟨rfl, rfl⟩⟩)
 have h1' : kaa (kbc (l.rules.take i) l.rules[i]) fuel 0 = some r := by simpa using h1
 have h2' : kaa (kbm l (i : Int)) fuel 0 = some r' := by simpa using h2
 unfold kbr kc4
 rw [h1', h2']
 rcases h3 with ⟨rfl, rfl⟩ | ⟨j, rfl, rfl⟩
 ·exact ⟨false, rfl, rfl⟩
 ·refine ⟨true, ?_, rfl⟩
  simp only [Option.bind_some, Sum.elim_inr]
  exact congrArg some (decide_eq_true (by omega))
end Go.Proofs.YtaimpcnpifoidaaGreatDoor
