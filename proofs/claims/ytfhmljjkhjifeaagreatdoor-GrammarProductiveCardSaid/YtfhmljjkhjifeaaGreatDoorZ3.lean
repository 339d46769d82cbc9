/- Typed programs and what computes them. -/
import Derived.Test.YtfhmljjkhjifeaaGreatDoorZ2
set_option linter.unusedVariables false
set_option linter.unusedSimpArgs false
set_option maxRecDepth 100000
namespace Go.Proofs.YtfhmljjkhjifeaaGreatDoor
open Go Go.RowKit Go.Proofs
set_option maxHeartbeats 2000000
attribute [local irreducible] NStep StepA EStep LeSt
structure S_ar3_str where
  f_0 : ByteArray
  f_1 : ByteArray
  f_2 : ByteArray
def eS_ar3_str (x : S_ar3_str) : FV := .agg [eS (x.f_0), eS (x.f_1), eS (x.f_2)]
def nS_ar3_str : En S_ar3_str := ⟨eS_ar3_str, 3, fun x => (eS_ar3_str x).cells, fun _ => rfl, fun _ => rfl⟩
def synthesisref09_catalog (a0 : ByteArray) : Option (List S_ar3_str) := (bif (a0.toList == (⟨#[108, 111, 103, 105, 99]⟩ : ByteArray).toList) then (some ([(S_ar3_str.mk ((⟨#[97, 110, 100]⟩ : ByteArray)) ((⟨#[66, 66]⟩ : ByteArray)) ((⟨#[66]⟩ : ByteArray))), (S_ar3_str.mk ((⟨#[111, 114]⟩ : ByteArray)) ((⟨#[66, 66]⟩ : ByteArray)) ((⟨#[66]⟩ : ByteArray))), (S_ar3_str.mk ((⟨#[110, 111, 116]⟩ : ByteArray)) ((⟨#[66]⟩ : ByteArray)) ((⟨#[66]⟩ : ByteArray))), (S_ar3_str.mk ((⟨#[105, 102, 105, 110, 116]⟩ : ByteArray)) ((⟨#[66, 73, 73]⟩ : ByteArray)) ((⟨#[73]⟩ : ByteArray))), (S_ar3_str.mk ((⟨#[105, 102, 116, 101, 120, 116]⟩ : ByteArray)) ((⟨#[66, 84, 84]⟩ : ByteArray)) ((⟨#[84]⟩ : ByteArray))), (S_ar3_str.mk ((⟨#[105, 102, 98, 105, 116, 115]⟩ : ByteArray)) ((⟨#[66, 86, 86]⟩ : ByteArray)) ((⟨#[86]⟩ : ByteArray)))] : List (S_ar3_str))) else (bif (a0.toList == (⟨#[110, 117, 109, 98, 101, 114, 115]⟩ : ByteArray).toList) then (some ([(S_ar3_str.mk ((⟨#[97, 100, 100]⟩ : ByteArray)) ((⟨#[73, 73]⟩ : ByteArray)) ((⟨#[73]⟩ : ByteArray))), (S_ar3_str.mk ((⟨#[115, 117, 98]⟩ : ByteArray)) ((⟨#[73, 73]⟩ : ByteArray)) ((⟨#[73]⟩ : ByteArray))), (S_ar3_str.mk ((⟨#[109, 117, 108]⟩ : ByteArray)) ((⟨#[73, 73]⟩ : ByteArray)) ((⟨#[73]⟩ : ByteArray))), (S_ar3_str.mk ((⟨#[110, 101, 103]⟩ : ByteArray)) ((⟨#[73]⟩ : ByteArray)) ((⟨#[73]⟩ : ByteArray))), (S_ar3_str.mk ((⟨#[109, 105, 110]⟩ : ByteArray)) ((⟨#[73, 73]⟩ : ByteArray)) ((⟨#[73]⟩ : ByteArray))), (S_ar3_str.mk ((⟨#[109, 97, 120]⟩ : ByteArray)) ((⟨#[73, 73]⟩ : ByteArray)) ((⟨#[73]⟩ : ByteArray))), (S_ar3_str.mk ((⟨#[101, 113, 105, 110, 116]⟩ : ByteArray)) ((⟨#[73, 73]⟩ : ByteArray)) ((⟨#[66]⟩ : ByteArray))), (S_ar3_str.mk ((⟨#[108, 101, 115, 115]⟩ : ByteArray)) ((⟨#[73, 73]⟩ : ByteArray)) ((⟨#[66]⟩ : ByteArray)))] : List (S_ar3_str))) else (bif (a0.toList == (⟨#[116, 101, 120, 116, 115]⟩ : ByteArray).toList) then (some ([(S_ar3_str.mk ((⟨#[99, 111, 110, 99, 97, 116]⟩ : ByteArray)) ((⟨#[84, 84]⟩ : ByteArray)) ((⟨#[84]⟩ : ByteArray))), (S_ar3_str.mk ((⟨#[115, 108, 105, 99, 101]⟩ : ByteArray)) ((⟨#[84, 73, 73]⟩ : ByteArray)) ((⟨#[84]⟩ : ByteArray))), (S_ar3_str.mk ((⟨#[108, 101, 110]⟩ : ByteArray)) ((⟨#[84]⟩ : ByteArray)) ((⟨#[73]⟩ : ByteArray))), (S_ar3_str.mk ((⟨#[117, 112, 112, 101, 114]⟩ : ByteArray)) ((⟨#[84]⟩ : ByteArray)) ((⟨#[84]⟩ : ByteArray))), (S_ar3_str.mk ((⟨#[108, 111, 119, 101, 114]⟩ : ByteArray)) ((⟨#[84]⟩ : ByteArray)) ((⟨#[84]⟩ : ByteArray))), (S_ar3_str.mk ((⟨#[116, 114, 105, 109]⟩ : ByteArray)) ((⟨#[84]⟩ : ByteArray)) ((⟨#[84]⟩ : ByteArray))), (S_ar3_str.mk ((⟨#[102, 105, 110, 100]⟩ : ByteArray)) ((⟨#[84, 84]⟩ : ByteArray)) ((⟨#[73]⟩ : ByteArray))), (S_ar3_str.mk ((⟨#[114, 101, 112, 108, 97, 99, 101]⟩ : ByteArray)) ((⟨#[84, 84, 84]⟩ : ByteArray)) ((⟨#[84]⟩ : ByteArray))), (S_ar3_str.mk ((⟨#[119, 111, 114, 100]⟩ : ByteArray)) ((⟨#[84, 73]⟩ : ByteArray)) ((⟨#[84]⟩ : ByteArray))), (S_ar3_str.mk ((⟨#[99, 104, 97, 114]⟩ : ByteArray)) ((⟨#[84, 73]⟩ : ByteArray)) ((⟨#[84]⟩ : ByteArray))), (S_ar3_str.mk ((⟨#[114, 101, 112, 101, 97, 116]⟩ : ByteArray)) ((⟨#[84, 73]⟩ : ByteArray)) ((⟨#[84]⟩ : ByteArray))), (S_ar3_str.mk ((⟨#[115, 104, 111, 119]⟩ : ByteArray)) ((⟨#[73]⟩ : ByteArray)) ((⟨#[84]⟩ : ByteArray))), (S_ar3_str.mk ((⟨#[114, 101, 97, 100]⟩ : ByteArray)) ((⟨#[84]⟩ : ByteArray)) ((⟨#[73]⟩ : ByteArray))), (S_ar3_str.mk ((⟨#[101, 113, 116, 101, 120, 116]⟩ : ByteArray)) ((⟨#[84, 84]⟩ : ByteArray)) ((⟨#[66]⟩ : ByteArray))), (S_ar3_str.mk ((⟨#[115, 112, 108, 105, 116]⟩ : ByteArray)) ((⟨#[84, 84]⟩ : ByteArray)) ((⟨#[83]⟩ : ByteArray))), (S_ar3_str.mk ((⟨#[106, 111, 105, 110]⟩ : ByteArray)) ((⟨#[83, 84]⟩ : ByteArray)) ((⟨#[84]⟩ : ByteArray))), (S_ar3_str.mk ((⟨#[105, 116, 101, 109]⟩ : ByteArray)) ((⟨#[83, 73]⟩ : ByteArray)) ((⟨#[84]⟩ : ByteArray))), (S_ar3_str.mk ((⟨#[115, 111, 114, 116, 116, 101, 120, 116, 115]⟩ : ByteArray)) ((⟨#[83]⟩ : ByteArray)) ((⟨#[83]⟩ : ByteArray))), (S_ar3_str.mk ((⟨#[114, 101, 118, 116, 101, 120, 116, 115]⟩ : ByteArray)) ((⟨#[83]⟩ : ByteArray)) ((⟨#[83]⟩ : ByteArray)))] : List (S_ar3_str))) else (bif (a0.toList == (⟨#[112, 97, 116, 116, 101, 114, 110, 115]⟩ : ByteArray).toList) then (some ([(S_ar3_str.mk ((⟨#[115, 116, 97, 114, 116]⟩ : ByteArray)) ((⟨#[84, 80, 73]⟩ : ByteArray)) ((⟨#[73]⟩ : ByteArray))), (S_ar3_str.mk ((⟨#[101, 110, 100]⟩ : ByteArray)) ((⟨#[84, 80, 73]⟩ : ByteArray)) ((⟨#[73]⟩ : ByteArray))), (S_ar3_str.mk ((⟨#[101, 120, 116, 114, 97, 99, 116]⟩ : ByteArray)) ((⟨#[84, 80, 73]⟩ : ByteArray)) ((⟨#[84]⟩ : ByteArray))), (S_ar3_str.mk ((⟨#[101, 114, 97, 115, 101]⟩ : ByteArray)) ((⟨#[84, 80]⟩ : ByteArray)) ((⟨#[84]⟩ : ByteArray))), (S_ar3_str.mk ((⟨#[111, 99, 99, 117, 114, 115]⟩ : ByteArray)) ((⟨#[84, 80]⟩ : ByteArray)) ((⟨#[73]⟩ : ByteArray))), (S_ar3_str.mk ((⟨#[109, 97, 116, 99, 104, 101, 115]⟩ : ByteArray)) ((⟨#[84, 80]⟩ : ByteArray)) ((⟨#[66]⟩ : ByteArray))), (S_ar3_str.mk ((⟨#[112, 108, 105, 116]⟩ : ByteArray)) ((⟨#[84]⟩ : ByteArray)) ((⟨#[80]⟩ : ByteArray))), (S_ar3_str.mk ((⟨#[112, 99, 97, 116]⟩ : ByteArray)) ((⟨#[80, 80]⟩ : ByteArray)) ((⟨#[80]⟩ : ByteArray))), (S_ar3_str.mk ((⟨#[112, 97, 108, 116]⟩ : ByteArray)) ((⟨#[80, 80]⟩ : ByteArray)) ((⟨#[80]⟩ : ByteArray))), (S_ar3_str.mk ((⟨#[112, 115, 116, 97, 114]⟩ : ByteArray)) ((⟨#[80]⟩ : ByteArray)) ((⟨#[80]⟩ : ByteArray)))] : List (S_ar3_str))) else (bif (a0.toList == (⟨#[108, 105, 115, 116, 115]⟩ : ByteArray).toList) then (some ([(S_ar3_str.mk ((⟨#[104, 101, 97, 100]⟩ : ByteArray)) ((⟨#[76]⟩ : ByteArray)) ((⟨#[73]⟩ : ByteArray))), (S_ar3_str.mk ((⟨#[108, 97, 115, 116]⟩ : ByteArray)) ((⟨#[76]⟩ : ByteArray)) ((⟨#[73]⟩ : ByteArray))), (S_ar3_str.mk ((⟨#[116, 97, 107, 101]⟩ : ByteArray)) ((⟨#[76, 73]⟩ : ByteArray)) ((⟨#[76]⟩ : ByteArray))), (S_ar3_str.mk ((⟨#[100, 114, 111, 112]⟩ : ByteArray)) ((⟨#[76, 73]⟩ : ByteArray)) ((⟨#[76]⟩ : ByteArray))), (S_ar3_str.mk ((⟨#[114, 101, 118, 101, 114, 115, 101]⟩ : ByteArray)) ((⟨#[76]⟩ : ByteArray)) ((⟨#[76]⟩ : ByteArray))), (S_ar3_str.mk ((⟨#[115, 111, 114, 116]⟩ : ByteArray)) ((⟨#[76]⟩ : ByteArray)) ((⟨#[76]⟩ : ByteArray))), (S_ar3_str.mk ((⟨#[117, 110, 105, 113, 117, 101]⟩ : ByteArray)) ((⟨#[76]⟩ : ByteArray)) ((⟨#[76]⟩ : ByteArray))), (S_ar3_str.mk ((⟨#[115, 117, 109]⟩ : ByteArray)) ((⟨#[76]⟩ : ByteArray)) ((⟨#[73]⟩ : ByteArray))), (S_ar3_str.mk ((⟨#[115, 104, 105, 102, 116]⟩ : ByteArray)) ((⟨#[76, 73]⟩ : ByteArray)) ((⟨#[76]⟩ : ByteArray))), (S_ar3_str.mk ((⟨#[115, 99, 97, 108, 101]⟩ : ByteArray)) ((⟨#[76, 73]⟩ : ByteArray)) ((⟨#[76]⟩ : ByteArray))), (S_ar3_str.mk ((⟨#[97, 98, 111, 118, 101]⟩ : ByteArray)) ((⟨#[76, 73]⟩ : ByteArray)) ((⟨#[76]⟩ : ByteArray))), (S_ar3_str.mk ((⟨#[101, 118, 101, 110]⟩ : ByteArray)) ((⟨#[76]⟩ : ByteArray)) ((⟨#[76]⟩ : ByteArray))), (S_ar3_str.mk ((⟨#[122, 105, 112]⟩ : ByteArray)) ((⟨#[76, 76]⟩ : ByteArray)) ((⟨#[76]⟩ : ByteArray))), (S_ar3_str.mk ((⟨#[97, 112, 112, 101, 110, 100]⟩ : ByteArray)) ((⟨#[76, 76]⟩ : ByteArray)) ((⟨#[76]⟩ : ByteArray))), (S_ar3_str.mk ((⟨#[101, 108, 101, 109, 101, 110, 116]⟩ : ByteArray)) ((⟨#[76, 73]⟩ : ByteArray)) ((⟨#[73]⟩ : ByteArray))), (S_ar3_str.mk ((⟨#[99, 111, 117, 110, 116]⟩ : ByteArray)) ((⟨#[76, 73]⟩ : ByteArray)) ((⟨#[73]⟩ : ByteArray))), (S_ar3_str.mk ((⟨#[109, 97, 120, 105, 109, 117, 109]⟩ : ByteArray)) ((⟨#[76]⟩ : ByteArray)) ((⟨#[73]⟩ : ByteArray))), (S_ar3_str.mk ((⟨#[109, 105, 110, 105, 109, 117, 109]⟩ : ByteArray)) ((⟨#[76]⟩ : ByteArray)) ((⟨#[73]⟩ : ByteArray))), (S_ar3_str.mk ((⟨#[114, 117, 110, 110, 105, 110, 103]⟩ : ByteArray)) ((⟨#[76]⟩ : ByteArray)) ((⟨#[76]⟩ : ByteArray))), (S_ar3_str.mk ((⟨#[108, 101, 110, 103, 116, 104]⟩ : ByteArray)) ((⟨#[76]⟩ : ByteArray)) ((⟨#[73]⟩ : ByteArray)))] : List (S_ar3_str))) else (bif (a0.toList == (⟨#[116, 97, 98, 108, 101, 115]⟩ : ByteArray).toList) then (some ([(S_ar3_str.mk ((⟨#[116, 114, 97, 110, 115, 112, 111, 115, 101]⟩ : ByteArray)) ((⟨#[77]⟩ : ByteArray)) ((⟨#[77]⟩ : ByteArray))), (S_ar3_str.mk ((⟨#[114, 111, 119]⟩ : ByteArray)) ((⟨#[77, 73]⟩ : ByteArray)) ((⟨#[83]⟩ : ByteArray))), (S_ar3_str.mk ((⟨#[99, 111, 108, 117, 109, 110]⟩ : ByteArray)) ((⟨#[77, 73]⟩ : ByteArray)) ((⟨#[83]⟩ : ByteArray))), (S_ar3_str.mk ((⟨#[100, 114, 111, 112, 114, 111, 119]⟩ : ByteArray)) ((⟨#[77, 73]⟩ : ByteArray)) ((⟨#[77]⟩ : ByteArray))), (S_ar3_str.mk ((⟨#[100, 114, 111, 112, 99, 111, 108, 117, 109, 110]⟩ : ByteArray)) ((⟨#[77, 73]⟩ : ByteArray)) ((⟨#[77]⟩ : ByteArray))), (S_ar3_str.mk ((⟨#[115, 111, 114, 116, 116, 97, 98, 108, 101]⟩ : ByteArray)) ((⟨#[77, 73]⟩ : ByteArray)) ((⟨#[77]⟩ : ByteArray))), (S_ar3_str.mk ((⟨#[102, 105, 108, 108]⟩ : ByteArray)) ((⟨#[77]⟩ : ByteArray)) ((⟨#[77]⟩ : ByteArray))), (S_ar3_str.mk ((⟨#[117, 110, 112, 105, 118, 111, 116]⟩ : ByteArray)) ((⟨#[77, 73]⟩ : ByteArray)) ((⟨#[77]⟩ : ByteArray))), (S_ar3_str.mk ((⟨#[112, 105, 118, 111, 116]⟩ : ByteArray)) ((⟨#[77]⟩ : ByteArray)) ((⟨#[77]⟩ : ByteArray))), (S_ar3_str.mk ((⟨#[99, 101, 108, 108]⟩ : ByteArray)) ((⟨#[77, 73, 73]⟩ : ByteArray)) ((⟨#[84]⟩ : ByteArray))), (S_ar3_str.mk ((⟨#[115, 116, 97, 99, 107]⟩ : ByteArray)) ((⟨#[77, 77]⟩ : ByteArray)) ((⟨#[77]⟩ : ByteArray))), (S_ar3_str.mk ((⟨#[98, 101, 115, 105, 100, 101]⟩ : ByteArray)) ((⟨#[77, 77]⟩ : ByteArray)) ((⟨#[77]⟩ : ByteArray))), (S_ar3_str.mk ((⟨#[115, 112, 108, 105, 116, 99, 111, 108, 117, 109, 110]⟩ : ByteArray)) ((⟨#[77, 73, 84]⟩ : ByteArray)) ((⟨#[77]⟩ : ByteArray)))] : List (S_ar3_str))) else (some ([(S_ar3_str.mk ((⟨#[98, 97, 110, 100]⟩ : ByteArray)) ((⟨#[86, 86]⟩ : ByteArray)) ((⟨#[86]⟩ : ByteArray))), (S_ar3_str.mk ((⟨#[98, 111, 114]⟩ : ByteArray)) ((⟨#[86, 86]⟩ : ByteArray)) ((⟨#[86]⟩ : ByteArray))), (S_ar3_str.mk ((⟨#[98, 120, 111, 114]⟩ : ByteArray)) ((⟨#[86, 86]⟩ : ByteArray)) ((⟨#[86]⟩ : ByteArray))), (S_ar3_str.mk ((⟨#[98, 110, 111, 116]⟩ : ByteArray)) ((⟨#[86]⟩ : ByteArray)) ((⟨#[86]⟩ : ByteArray))), (S_ar3_str.mk ((⟨#[98, 97, 100, 100]⟩ : ByteArray)) ((⟨#[86, 86]⟩ : ByteArray)) ((⟨#[86]⟩ : ByteArray))), (S_ar3_str.mk ((⟨#[98, 115, 117, 98]⟩ : ByteArray)) ((⟨#[86, 86]⟩ : ByteArray)) ((⟨#[86]⟩ : ByteArray))), (S_ar3_str.mk ((⟨#[98, 109, 117, 108]⟩ : ByteArray)) ((⟨#[86, 86]⟩ : ByteArray)) ((⟨#[86]⟩ : ByteArray))), (S_ar3_str.mk ((⟨#[98, 108, 101, 102, 116]⟩ : ByteArray)) ((⟨#[86, 73]⟩ : ByteArray)) ((⟨#[86]⟩ : ByteArray))), (S_ar3_str.mk ((⟨#[98, 114, 105, 103, 104, 116]⟩ : ByteArray)) ((⟨#[86, 73]⟩ : ByteArray)) ((⟨#[86]⟩ : ByteArray))), (S_ar3_str.mk ((⟨#[98, 97, 114, 105, 116, 104]⟩ : ByteArray)) ((⟨#[86, 73]⟩ : ByteArray)) ((⟨#[86]⟩ : ByteArray))), (S_ar3_str.mk ((⟨#[111, 110, 101, 115]⟩ : ByteArray)) ((⟨#[86]⟩ : ByteArray)) ((⟨#[73]⟩ : ByteArray))), (S_ar3_str.mk ((⟨#[101, 113, 98, 105, 116, 115]⟩ : ByteArray)) ((⟨#[86, 86]⟩ : ByteArray)) ((⟨#[66]⟩ : ByteArray)))] : List (S_ar3_str)))))))))
theorem synthesisref09_catalog_ok (a0 : ByteArray) (r : List S_ar3_str) (h : synthesisref09_catalog a0 = some r) : PCall Tryz.prog 99 [eS a0] ((eL 3 eS_ar3_str) (r)) := by
 unfold synthesisref09_catalog at h
 refine pcl [.one (.sl 3)] Tryz.func99 (by kernel_rfl) (by kernel_rfl) (by kernel_rfl) ?_
 refine cd 15 h (by kernel_rfl) (fun h => ?_) fun h => ?_
 ·cases h; exact lq 12 (by kernel_rfl)
 refine cd 5 h (by kernel_rfl) (fun h => ?_) fun h => ?_
 ·cases h; exact lq 14 (by kernel_rfl)
 refine cd 5 h (by kernel_rfl) (fun h => ?_) fun h => ?_
 ·cases h; exact lq 25 (by kernel_rfl)
 refine cd 5 h (by kernel_rfl) (fun h => ?_) fun h => ?_
 ·cases h; exact lq 16 (by kernel_rfl)
 refine cd 5 h (by kernel_rfl) (fun h => ?_) fun h => ?_
 ·cases h; exact lq 26 (by kernel_rfl)
 refine cd 5 h (by kernel_rfl) (fun h => ?_) fun h => ?_
 ·cases h; exact lq 19 (by kernel_rfl)
 cases h; exact lq 19 (by kernel_rfl)

def synthesisref09_families  : Option (List ByteArray) := (some ([(⟨#[108, 111, 103, 105, 99]⟩ : ByteArray), (⟨#[110, 117, 109, 98, 101, 114, 115]⟩ : ByteArray), (⟨#[116, 101, 120, 116, 115]⟩ : ByteArray), (⟨#[112, 97, 116, 116, 101, 114, 110, 115]⟩ : ByteArray), (⟨#[108, 105, 115, 116, 115]⟩ : ByteArray), (⟨#[116, 97, 98, 108, 101, 115]⟩ : ByteArray), (⟨#[98, 105, 116, 115]⟩ : ByteArray)] : List (ByteArray)))
theorem synthesisref09_families_ok  (r : List ByteArray) (h : synthesisref09_families  = some r) : PCall Tryz.prog 110 [] ((eL 1 eS) (r)) := by
 unfold synthesisref09_families at h
 refine pcl [.one (.sl 1)] Tryz.func110 (by kernel_rfl) (by kernel_rfl) (by kernel_rfl) ?_
 cases h; exact lq 10 (by kernel_rfl)

def synthesisref09_Family_l1 (a0 : ByteArray) (v3 : ByteArray) (v4 : List S_ar3_str) (v5 : (Int)) : Option (((Int)) ⊕ (((Unit) ⊕ (ByteArray)))) := (bif (decide (v5 < (List.length v4 : Int))) then (Option.bind (idx v4 v5) fun v6 => (bif (v6.f_0.toList == a0.toList) then (some (.inr (.inr v3))) else (some (.inl ((w64 (v5 + 1))))))) else (some (.inr (.inl ()))))
def synthesisref09_Family_l2 (a0 : ByteArray) (v1 : List ByteArray) (v2 : (Int)) : Option (((Int)) ⊕ (((Unit) ⊕ (ByteArray)))) := (bif (decide (v2 < (List.length v1 : Int))) then (Option.bind (idx v1 v2) fun v3 => (Option.bind (synthesisref09_catalog (v3)) fun v4 => (Option.bind (loopN (synthesisref09_Family_l1 a0 v3 v4) fuel (0)) fun (v7 : ((Unit) ⊕ (ByteArray))) => Sum.elim (fun v8 => (some (.inl ((w64 (v2 + 1)))))) (fun v9 => (some (.inr (.inr v9)))) v7))) else (some (.inr (.inl ()))))
def synthesisref09_Family (a0 : ByteArray) : Option (ByteArray) := (Option.bind (synthesisref09_families ) fun v1 => (Option.bind (loopN (synthesisref09_Family_l2 a0 v1) fuel (0)) fun (v10 : ((Unit) ⊕ (ByteArray))) => Sum.elim (fun v11 => (some (⟨#[]⟩ : ByteArray))) (fun v12 => (some v12)) v10))
theorem synthesisref09_Family_ok (a0 : ByteArray) (r : ByteArray) (h : synthesisref09_Family a0 = some r) : PCall Tryz.prog 98 [eS a0] (eS (r)) := by
 unfold synthesisref09_Family at h
 refine pcl [.one .keep] Tryz.func98 (by kernel_rfl) (by kernel_rfl) (by kernel_rfl) ?_
 refine cl 7 h (synthesisref09_families_ok) (by kernel_rfl) fun v1 h => ?_
 refine lpx 4 (fun v2 => ⟨27, [(0, (fS (a0))), (7, (.fz ((eL 1 eS) (v1)))), (8, (fI ((List.length v1 : Int)))), (9, (fI (v2)))], [], [], []⟩) (fun v10 e st => Sum.elim (fun p => e = .exit 0 ∧ LeSt st ⟨27, [], [], [], []⟩) (fun p => e = .ret ∧ retX TT st Tryz.f98.results.toList [.one .keep] = some (eS (p))) v10) h (by kernel_rfl) (le_a (by kernel_rfl)) (fun v2 r h => ?_) fun v10 h e st' hq => ?_
 ·unfold synthesisref09_Family_l2 at h
  refine cd 5 h (by kernel_rfl) (fun h => ?_) fun h => ?_
  ·refine ix nS 5 h (by kernel_rfl) fun v3 h => ?_
   refine cl 6 h (synthesisref09_catalog_ok _) (by kernel_rfl) fun v4 h => ?_
   refine lpx 4 (fun v5 => ⟨27, [(0, (fS (a0))), (4, (fS (v3))), (7, (.fz ((eL 1 eS) (v1)))), (8, (fI ((List.length v1 : Int)))), (9, (fI (v2))), (14, (.fz ((eL 3 eS_ar3_str) (v4)))), (15, (fI ((List.length v4 : Int)))), (16, (fI (v5)))], [], [], []⟩) (fun v7 e st => Sum.elim (fun p => e = .exit 2 ∧ LeSt st ⟨27, [(0, (fS (a0))), (7, (.fz ((eL 1 eS) (v1)))), (8, (fI ((List.length v1 : Int)))), (9, (fI (v2)))], [], [], []⟩) (fun p => e = .ret ∧ retX TT st Tryz.f98.results.toList [.one .keep] = some (eS (p))) v7) h (by kernel_rfl) (le_a (by kernel_rfl)) (fun v5 r h => ?_) fun v7 h e st' hq => ?_
   ·unfold synthesisref09_Family_l1 at h
    refine cd 5 h (by kernel_rfl) (fun h => ?_) fun h => ?_
    ·refine ix nS_ar3_str 5 h (by kernel_rfl) fun v6 h => ?_
     refine cd 11 h (by kernel_rfl) (fun h => ?_) fun h => ?_
     ·cases h; exact lor 6 (by kernel_rfl)
     cases h; exact lj 5 (by kernel_rfl)
    cases h; exact lo 1 (by kernel_rfl)
   rcases v7 with v8 | v9
   ·try simp only [Sum.elim_inl, Sum.elim_inr] at h
    obtain ⟨rfl, hle⟩ := hq
    refine ⟨_, hle, ?_⟩
    cases h; exact lj 4 (by kernel_rfl)
   ·try simp only [Sum.elim_inl, Sum.elim_inr] at h
    obtain ⟨rfl, hret⟩ := hq
    refine ⟨_, LeSt.refl, ?_⟩
    cases h; exact lvo hret
  cases h; exact lo 1 (by kernel_rfl)
 rcases v10 with v11 | v12
 ·try simp only [Sum.elim_inl, Sum.elim_inr] at h
  obtain ⟨rfl, hle⟩ := hq
  refine ⟨_, hle, ?_⟩
  cases h; exact lq 5 (by kernel_rfl)
 ·try simp only [Sum.elim_inl, Sum.elim_inr] at h
  obtain ⟨rfl, hret⟩ := hq
  refine ⟨_, LeSt.refl, ?_⟩
  cases h; exact lv hret

def synthesisref09_letter_l1 (a0 : Int) (v1 : (Int)) : Option (((Int)) ⊕ (((Unit) ⊕ (Int)))) := (bif (decide (v1 < ((⟨#[66, 73, 84, 86, 76, 83, 77, 80]⟩ : ByteArray).size : Int))) then (Option.bind (byt (⟨#[66, 73, 84, 86, 76, 83, 77, 80]⟩ : ByteArray) v1) fun v2 => (bif (v2 == a0) then (some (.inr (.inr (w64 (v1 + 1))))) else (some (.inl ((w64 (v1 + 1))))))) else (some (.inr (.inl ()))))
def synthesisref09_letter (a0 : Int) : Option (Int) := (Option.bind (loopN (synthesisref09_letter_l1 a0) fuel (0)) fun (v3 : ((Unit) ⊕ (Int))) => Sum.elim (fun v4 => (some 0)) (fun v5 => (some v5)) v3)
theorem synthesisref09_letter_ok (a0 : Int) (r : Int) (h : synthesisref09_letter a0 = some r) : PCall Tryz.prog 100 [eU8 a0] (eI (r)) := by
 unfold synthesisref09_letter at h
 refine pcl [.one .keep] Tryz.func100 (by kernel_rfl) (by kernel_rfl) (by kernel_rfl) ?_
 refine lpx 14 (fun v1 => ⟨18, [(0, (.fz (eU8 (a0)))), (3, (fS ((⟨#[66, 73, 84, 86, 76, 83, 77, 80]⟩ : ByteArray)))), (4, (fI (v1)))], [], [], []⟩) (fun v3 e st => Sum.elim (fun p => e = .exit 0 ∧ LeSt st ⟨18, [], [], [], []⟩) (fun p => e = .ret ∧ retX TT st Tryz.f100.results.toList [.one .keep] = some (eI (p))) v3) h (by kernel_rfl) (le_a (by kernel_rfl)) (fun v1 r h => ?_) fun v3 h e st' hq => ?_
 ·unfold synthesisref09_letter_l1 at h
  refine cd 8 h (by kernel_rfl) (fun h => ?_) fun h => ?_
  ·refine byx 7 h (by kernel_rfl) fun v2 h => ?_
   refine cd 3 h (by kernel_rfl) (fun h => ?_) fun h => ?_
   ·cases h; exact lor 7 (by kernel_rfl)
   cases h; exact lj 6 (by kernel_rfl)
  cases h; exact lo 1 (by kernel_rfl)
 rcases v3 with v4 | v5
 ·try simp only [Sum.elim_inl, Sum.elim_inr] at h
  obtain ⟨rfl, hle⟩ := hq
  refine ⟨_, hle, ?_⟩
  cases h; exact lq 5 (by kernel_rfl)
 ·try simp only [Sum.elim_inl, Sum.elim_inr] at h
  obtain ⟨rfl, hret⟩ := hq
  refine ⟨_, LeSt.refl, ?_⟩
  cases h; exact lv hret

def synthesisref09_Find_l1 (v4 : S_ar3_str) (v7 : (Int) × (List Int)) : Option (((Int) × (List Int)) ⊕ ((List Int))) := (bif (decide (v7.1 < (v4.f_1.size : Int))) then (Option.bind (byt v4.f_1 v7.1) fun v8 => (Option.bind (synthesisref09_letter (v8)) fun v9 => (Option.bind (app 8 v7.2 ([v9] : List (Int))) fun v10 => (some (.inl ((w64 (v7.1 + 1)), v10)))))) else (some (.inr (v7.2))))
def synthesisref09_Find_l2 (a0 : ByteArray) (v2 : List S_ar3_str) (v3 : (Int)) : Option (((Int)) ⊕ (((Unit) ⊕ ((S_api_Operator) × (Bool))))) := (bif (decide (v3 < (List.length v2 : Int))) then (Option.bind (idx v2 v3) fun v4 => (bif (v4.f_0.toList == a0.toList) then (Option.bind (byt v4.f_2 0) fun v5 => (Option.bind (synthesisref09_letter (v5)) fun v6 => (Option.bind (loopN (synthesisref09_Find_l1 v4) fuel (0, ([] : List (Int)))) fun (v12 : (List Int)) => (some (.inr (.inr ((S_api_Operator.mk (a0) (v12) (v6)), true))))))) else (some (.inl ((w64 (v3 + 1))))))) else (some (.inr (.inl ()))))
def synthesisref09_Find (a0 : ByteArray) : Option ((S_api_Operator) × (Bool)) := (Option.bind (synthesisref09_Family (a0)) fun v1 => (bif (v1.toList == (⟨#[]⟩ : ByteArray).toList) then (some ((S_api_Operator.mk ((⟨#[]⟩ : ByteArray)) (([] : List Int)) (0)), false)) else (Option.bind (synthesisref09_catalog (v1)) fun v2 => (Option.bind (loopN (synthesisref09_Find_l2 a0 v2) fuel (0)) fun (v13 : ((Unit) ⊕ ((S_api_Operator) × (Bool)))) => Sum.elim (fun v14 => (some ((S_api_Operator.mk ((⟨#[]⟩ : ByteArray)) (([] : List Int)) (0)), false))) (fun v15 => (some v15)) v13))))
theorem synthesisref09_Find_ok (a0 : ByteArray) (r : (S_api_Operator) × (Bool)) (h : synthesisref09_Find a0 = some r) : PCall Tryz.prog 89 [eS a0] (.tup [eS_api_Operator (r.1), eB (r.2)]) := by
 unfold synthesisref09_Find at h
 refine pcl [.ag [.keep, .sl 1, .keep], .one .keep] Tryz.func89 (by kernel_rfl) (by kernel_rfl) (by kernel_rfl) ?_
 refine cl 8 h (synthesisref09_Family_ok _) (by kernel_rfl) fun v1 h => ?_
 refine cd 8 h (by kernel_rfl) (fun h => ?_) fun h => ?_
 ·cases h; exact lq 7 (by kernel_rfl)
 refine cl 5 h (synthesisref09_catalog_ok _) (by kernel_rfl) fun v2 h => ?_
 refine lpx 4 (fun v3 => ⟨51, [(0, (fS (a0))), (2, (.ref 1 0 0)), (15, (.fz ((eL 3 eS_ar3_str) (v2)))), (16, (fI ((List.length v2 : Int)))), (17, (fI (v3)))], [(1, (.box 72 [(fS ((⟨#[]⟩ : ByteArray))), (.fz (.atom (.slice none 0 0))), (fI (0))]))], [1], []⟩) (fun v13 e st => Sum.elim (fun p => e = .exit 0 ∧ LeSt st ⟨51, [(2, (.ref 1 0 0))], [(1, (.box 72 [(fS ((⟨#[]⟩ : ByteArray))), (.fz (.atom (.slice none 0 0))), (fI (0))]))], [1], []⟩) (fun p => e = .ret ∧ retX TT st Tryz.f89.results.toList [.ag [.keep, .sl 1, .keep], .one .keep] = some (.tup [eS_api_Operator (p.1), eB (p.2)])) v13) h (by kernel_rfl) (le_a (by kernel_rfl)) (fun v3 r h => ?_) fun v13 h e st' hq => ?_
 ·unfold synthesisref09_Find_l2 at h
  refine cd 5 h (by kernel_rfl) (fun h => ?_) fun h => ?_
  ·refine ix nS_ar3_str 5 h (by kernel_rfl) fun v4 h => ?_
   refine cd 11 h (by kernel_rfl) (fun h => ?_) fun h => ?_
   ·refine byx 5 h (by kernel_rfl) fun v5 h => ?_
    refine cl 0 h (synthesisref09_letter_ok _) (by kernel_rfl) fun v6 h => ?_
    refine wle 10 (le_nilcell (e2 := 72) (e := 3) (size := 1) (id2 := 3) (j := 1) (id := 4) (cells := [(fS (a0)), (.fz (.atom (.slice none 0 0))), (fI (v6))]) (by kernel_rfl) (by kernel_rfl) (by kernel_rfl) (by kernel_rfl)) (by kernel_rfl) ?_
    refine lp1 0 (fun v7 => ⟨51, [(2, (.ref 1 0 0)), (6, (.ref 2 0 0)), (7, (.ref 3 0 0)), (8, (fI (v7.1)))], [(1, (.box 72 [(fS ((⟨#[]⟩ : ByteArray))), (.fz (.atom (.slice none 0 0))), (fI (0))])), (2, (.box 109 [(fS (v4.f_0)), (fS (v4.f_1)), (fS (v4.f_2))])), (3, (.box 72 [(fS (a0)), (.row 4 (List.length (v7.2))), (fI (v6))])), (4, (.frow 3 1 (List.map eI (v7.2))))], [4, 3, 2, 1], []⟩) (.exit 2) (fun v12 => ⟨51, [(2, (.ref 1 0 0)), (7, (.ref 3 0 0))], [(1, (.box 72 [(fS ((⟨#[]⟩ : ByteArray))), (.fz (.atom (.slice none 0 0))), (fI (0))])), (3, (.box 72 [(fS (a0)), (.row 4 (List.length (v12))), (fI (v6))])), (4, (.frow 3 1 (List.map eI (v12))))], [4, 3, 1], []⟩) h (by kernel_rfl) (by kernel_rfl) (fun v7 r h => ?_) fun v12 h => ?_
    ·unfold synthesisref09_Find_l1 at h
     refine cd 9 h (by kernel_rfl) (fun h => ?_) fun h => ?_
     ·refine dw 3 8 (by kernel_rfl) ?_
      refine byx 5 h (by kernel_rfl) fun v8 h => ?_
      refine cl 0 h (synthesisref09_letter_ok _) (by kernel_rfl) fun v9 h => ?_
      refine ap nI 2 h (by kernel_rfl) fun v10 h => ?_
      cases h; exact lj 8 (by kernel_rfl)
     cases h; exact lo 1 (by kernel_rfl)
    refine wle 6 (le_freezeCell (e2 := 72) (id2 := 1) (j := 1) (id := 4) (n := List.length (v12)) (e := 3) (size := 1) (xs := List.map eI (v12)) (cells := [(fS (a0)), (.row 4 (List.length (v12))), (fI (v6))]) (by kernel_rfl) (by kernel_rfl) (by kernel_rfl) (by simp)) (by kernel_rfl) ?_
    cases h; exact lor 1 (by kernel_rfl)
   cases h; exact lj 5 (by kernel_rfl)
  cases h; exact lo 1 (by kernel_rfl)
 rcases v13 with v14 | v15
 ·try simp only [Sum.elim_inl, Sum.elim_inr] at h
  obtain ⟨rfl, hle⟩ := hq
  refine ⟨_, hle, ?_⟩
  cases h; exact lq 7 (by kernel_rfl)
 ·try simp only [Sum.elim_inl, Sum.elim_inr] at h
  obtain ⟨rfl, hret⟩ := hq
  refine ⟨_, LeSt.refl, ?_⟩
  cases h; exact lv hret

def synthesisref11_operation_m0 (a0 : La) (a1 : Ru) (v1 : (S_api_Operator) × (Bool)) : List (Nat × AObj) := [(1, (.box 26 [(fS (a0.name)), (.fz ((eL 1 eI) (a0.inputs))), (.fz ((eL 2 eSy) (a0.symbols))), (.fz ((eL 9 eRu) (a0.rules)))])), (2, (.box 47 [(fI (a1.symbol)), (fI (a1.kind)), (fI (a1.input)), (fI (a1.const.type)), (fI (a1.const.num)), (fS (a1.const.text)), (.fz ((eL 4 eVaR) (a1.const.items))), (fS (a1.op)), (.fz ((eL 1 eI) (a1.args)))])), (3, (.box 72 [(fS (v1.1.f_Name)), (.fz ((eL 1 eI) (v1.1.f_Args))), (fI (v1.1.f_Result))]))]
def synthesisref11_operation_l1 (a0 : La) (a1 : Ru) (v1 : (S_api_Operator) × (Bool)) (v2 : (Int)) : Option (((Int)) ⊕ (((Unit) ⊕ (Int)))) := (bif (decide (v2 < (List.length a1.args : Int))) then (Option.bind ((Option.bind (idx a1.args v2) fun v3 => (bif (decide (v3 < 0)) then (some (true)) else (Option.bind (idx a1.args v2) fun v4 => (some ((decide ((List.length a0.symbols : Int) ≤ v4))))))) : Option ((Bool))) fun (v6 : (Bool)) => (bif v6 then (some (.inr (.inr 1))) else (Option.bind (idx a1.args v2) fun v7 => (Option.bind (idx a0.symbols v7) fun v8 => (Option.bind (idx v1.1.f_Args v2) fun v9 => (bif (v8.type != v9) then (some (.inr (.inr 3))) else (some (.inl ((w64 (v2 + 1))))))))))) else (some (.inr (.inl ()))))
def synthesisref11_operation (a0 : La) (a1 : Ru) : Option (Int) := (Option.bind (synthesisref09_Find (a1.op)) fun v1 => (bif (!v1.2) then (some 5) else (bif ((List.length a1.args : Int) != (List.length v1.1.f_Args : Int)) then (some 2) else (Option.bind (loopN (synthesisref11_operation_l1 a0 a1 v1) fuel (0)) fun (v10 : ((Unit) ⊕ (Int))) => Sum.elim (fun v11 => (Option.bind (idx a0.symbols a1.symbol) fun v12 => (bif (v12.type != v1.1.f_Result) then (some 3) else (some 0)))) (fun v13 => (some v13)) v10))))
theorem synthesisref11_operation_ok (a0 : La) (a1 : Ru) (r : Int) (h : synthesisref11_operation a0 a1 = some r) : PCall Tryz.prog 65 [eLa a0, eRu a1] (eI (r)) := by
 unfold synthesisref11_operation at h
 refine pcl [.one .keep] Tryz.func65 (by kernel_rfl) (by kernel_rfl) (by kernel_rfl) ?_
 refine cl 10 h (synthesisref09_Find_ok _) (by kernel_rfl) fun v1 h => ?_
 refine cd 13 h (by kernel_rfl) (fun h => ?_) fun h => ?_
 ·cases h; exact lq 5 (by kernel_rfl)
 refine cd 12 h (by kernel_rfl) (fun h => ?_) fun h => ?_
 ·cases h; exact lq 5 (by kernel_rfl)
 refine lpx 7 (fun v2 => ⟨73, [(2, (.ref 1 0 0)), (3, (.ref 2 0 0)), (5, (.ref 3 0 0)), (7, (fI (v2)))], (synthesisref11_operation_m0 a0 a1 v1), [3, 2, 1], []⟩) (fun v10 e st => Sum.elim (fun p => e = .exit 0 ∧ LeSt st ⟨73, [(2, (.ref 1 0 0)), (3, (.ref 2 0 0)), (5, (.ref 3 0 0))], (synthesisref11_operation_m0 a0 a1 v1), [3, 2, 1], []⟩) (fun p => e = .ret ∧ retX TT st Tryz.f65.results.toList [.one .keep] = some (eI (p))) v10) h (by kernel_rfl) (le_a (by kernel_rfl)) (fun v2 r h => ?_) fun v10 h e st' hq => ?_
 ·unfold synthesisref11_operation_l1 at h
  refine cd 9 h (by kernel_rfl) (fun h => ?_) fun h => ?_
  ·refine jn1 5 .normal (fun v6 => ⟨73, [(2, (.ref 1 0 0)), (3, (.ref 2 0 0)), (5, (.ref 3 0 0)), (7, (fI (v2))), (46, (fB (v6)))], (synthesisref11_operation_m0 a0 a1 v1), [3, 2, 1], []⟩) h (by kernel_rfl) (fun v6 h => ?_) fun v6 h => ?_
   ·refine dw 0 15 (by kernel_rfl) ?_
    refine ix nI 3 h (by kernel_rfl) fun v3 h => ?_
    refine gd 3 h (by kernel_rfl) (fun h => ?_) fun h => ?_
    ·cases h; exact lj 12 (by kernel_rfl)
    refine ix nI 3 h (by kernel_rfl) fun v4 h => ?_
    cases h; exact lj 8 (by kernel_rfl)
   refine cd 0 h (by kernel_rfl) (fun h => ?_) fun h => ?_
   ·cases h; exact lor 5 (by kernel_rfl)
   refine dw 2 15 (by kernel_rfl) ?_
   refine ix nI 5 h (by kernel_rfl) fun v7 h => ?_
   refine ix nSy 1 h (by kernel_rfl) fun v8 h => ?_
   refine ix nI 5 h (by kernel_rfl) fun v9 h => ?_
   refine cd 4 h (by kernel_rfl) (fun h => ?_) fun h => ?_
   ·cases h; exact lor 5 (by kernel_rfl)
   cases h; exact lj 6 (by kernel_rfl)
  cases h; exact lo 1 (by kernel_rfl)
 rcases v10 with v11 | v13
 ·try simp only [Sum.elim_inl, Sum.elim_inr] at h
  obtain ⟨rfl, hle⟩ := hq
  refine ⟨_, hle, ?_⟩
  refine dw 2 9 (by kernel_rfl) ?_
  refine ix nSy 4 h (by kernel_rfl) fun v12 h => ?_
  refine cd 7 h (by kernel_rfl) (fun h => ?_) fun h => ?_
  ·cases h; exact lq 5 (by kernel_rfl)
  cases h; exact lq 6 (by kernel_rfl)
 ·try simp only [Sum.elim_inl, Sum.elim_inr] at h
  obtain ⟨rfl, hret⟩ := hq
  refine ⟨_, LeSt.refl, ?_⟩
  cases h; exact lv hret

def synthesisref11_rule_m0 (a0 : La) (a1 : Ru) : List (Nat × AObj) := [(1, (.box 26 [(fS (a0.name)), (.fz ((eL 1 eI) (a0.inputs))), (.fz ((eL 2 eSy) (a0.symbols))), (.fz ((eL 9 eRu) (a0.rules)))])), (2, (.box 47 [(fI (a1.symbol)), (fI (a1.kind)), (fI (a1.input)), (fI (a1.const.type)), (fI (a1.const.num)), (fS (a1.const.text)), (.fz ((eL 4 eVaR) (a1.const.items))), (fS (a1.op)), (.fz ((eL 1 eI) (a1.args)))]))]
def synthesisref11_rule (a0 : La) (a1 : Ru) : Option (Int) := (Option.bind ((bif (decide (a1.symbol < 0)) then (some (true)) else (some ((decide ((List.length a0.symbols : Int) ≤ a1.symbol))))) : Option ((Bool))) fun (v2 : (Bool)) => (bif v2 then (some 1) else (Option.bind ((bif (decide (a1.kind < 1)) then (some (true)) else (bif (decide (3 < a1.kind)) then (some (true)) else (Option.bind (synthesisref11_zero (a1)) fun v3 => (some ((!v3)))))) : Option ((Bool))) fun (v5 : (Bool)) => (bif v5 then (some 4) else (Option.bind (idx a0.symbols a1.symbol) fun v6 => (bif (a1.kind == 1) then (Option.bind ((bif (decide (a1.input < 0)) then (some (true)) else (some ((decide ((List.length a0.inputs : Int) ≤ a1.input))))) : Option ((Bool))) fun (v8 : (Bool)) => (bif v8 then (some 1) else (Option.bind (idx a0.inputs a1.input) fun v9 => (bif (v9 != v6.type) then (some 3) else (some 0))))) else (bif (a1.kind == 2) then (Option.bind (synthesisref01_Check fuel (a1.const)) fun v10 => (bif (v10 != 0) then (some v10) else (bif (a1.const.type != v6.type) then (some 3) else (some 0)))) else (Option.bind (synthesisref11_operation (a0) (a1)) fun v11 => (some v11)))))))))
theorem synthesisref11_rule_ok (a0 : La) (a1 : Ru) (r : Int) (h : synthesisref11_rule a0 a1 = some r) : PCall Tryz.prog 41 [eLa a0, eRu a1] (eI (r)) := by
 unfold synthesisref11_rule at h
 refine pcl [.one .keep] Tryz.func41 (by kernel_rfl) (by kernel_rfl) (by kernel_rfl) ?_
 refine jn1 8 .normal (fun v2 => ⟨77, [(2, (.ref 1 0 0)), (3, (.ref 2 0 0)), (17, (fB (v2)))], (synthesisref11_rule_m0 a0 a1), [2, 1], []⟩) h (by kernel_rfl) (fun v2 h => ?_) fun v2 h => ?_
 ·refine gd 5 h (by kernel_rfl) (fun h => ?_) fun h => ?_
  ·cases h; exact lj 8 (by kernel_rfl)
  cases h; exact lj 8 (by kernel_rfl)
 refine cd 0 h (by kernel_rfl) (fun h => ?_) fun h => ?_
 ·cases h; exact lq 5 (by kernel_rfl)
 refine jn1 3 .normal (fun v5 => ⟨77, [(2, (.ref 1 0 0)), (3, (.ref 2 0 0)), (30, (fB (v5)))], (synthesisref11_rule_m0 a0 a1), [2, 1], []⟩) h (by kernel_rfl) (fun v5 h => ?_) fun v5 h => ?_
 ·refine gd 5 h (by kernel_rfl) (fun h => ?_) fun h => ?_
  ·cases h; exact lj 10 (by kernel_rfl)
  refine gd 5 h (by kernel_rfl) (fun h => ?_) fun h => ?_
  ·cases h; exact lj 5 (by kernel_rfl)
  refine cl 1 h (synthesisref11_zero_ok _) (by kernel_rfl) fun v3 h => ?_
  cases h; exact lj 3 (by kernel_rfl)
 refine cd 0 h (by kernel_rfl) (fun h => ?_) fun h => ?_
 ·cases h; exact lq 5 (by kernel_rfl)
 refine ix nSy 7 h (by kernel_rfl) fun v6 h => ?_
 refine cd 16 h (by kernel_rfl) (fun h => ?_) fun h => ?_
 ·refine jn1 2 .normal (fun v8 => ⟨77, [(2, (.ref 1 0 0)), (3, (.ref 2 0 0)), (5, (fI (v6.type))), (52, (fB (v8)))], (synthesisref11_rule_m0 a0 a1), [2, 1], []⟩) h (by kernel_rfl) (fun v8 h => ?_) fun v8 h => ?_
  ·refine gd 5 h (by kernel_rfl) (fun h => ?_) fun h => ?_
   ·cases h; exact lj 8 (by kernel_rfl)
   cases h; exact lj 8 (by kernel_rfl)
  refine cd 0 h (by kernel_rfl) (fun h => ?_) fun h => ?_
  ·cases h; exact lq 5 (by kernel_rfl)
  refine ix nI 8 h (by kernel_rfl) fun v9 h => ?_
  refine cd 4 h (by kernel_rfl) (fun h => ?_) fun h => ?_
  ·cases h; exact lq 5 (by kernel_rfl)
  cases h; exact lq 6 (by kernel_rfl)
 refine cd 5 h (by kernel_rfl) (fun h => ?_) fun h => ?_
 ·refine cl 5 h (synthesisref01_Check_ok _ _) (by kernel_rfl) fun v10 h => ?_
  refine cd 7 h (by kernel_rfl) (fun h => ?_) fun h => ?_
  ·cases h; exact lq 6 (by kernel_rfl)
  refine cd 10 h (by kernel_rfl) (fun h => ?_) fun h => ?_
  ·cases h; exact lq 5 (by kernel_rfl)
  cases h; exact lq 6 (by kernel_rfl)
 refine cl 5 h (synthesisref11_operation_ok _ _) (by kernel_rfl) fun v11 h => ?_
 cases h; exact lq 3 (by kernel_rfl)

def synthesisref11_SameInts_l1 (a0 : List Int) (a1 : List Int) (v1 : (Int)) : Option (((Int)) ⊕ (((Unit) ⊕ (Bool)))) := (bif (decide (v1 < (List.length a0 : Int))) then (Option.bind (idx a0 v1) fun v2 => (Option.bind (idx a1 v1) fun v3 => (bif (v2 != v3) then (some (.inr (.inr false))) else (some (.inl ((w64 (v1 + 1)))))))) else (some (.inr (.inl ()))))
def synthesisref11_SameInts (a0 : List Int) (a1 : List Int) : Option (Bool) := (bif ((List.length a0 : Int) != (List.length a1 : Int)) then (some false) else (Option.bind (loopN (synthesisref11_SameInts_l1 a0 a1) fuel (0)) fun (v4 : ((Unit) ⊕ (Bool))) => Sum.elim (fun v5 => (some true)) (fun v6 => (some v6)) v4))
theorem synthesisref11_SameInts_ok (a0 : List Int) (a1 : List Int) (r : Bool) (h : synthesisref11_SameInts a0 a1 = some r) : PCall Tryz.prog 14 [(eL 1 eI) a0, (eL 1 eI) a1] (eB (r)) := by
 unfold synthesisref11_SameInts at h
 refine pcl [.one .keep] Tryz.func14 (by kernel_rfl) (by kernel_rfl) (by kernel_rfl) ?_
 refine cd 13 h (by kernel_rfl) (fun h => ?_) fun h => ?_
 ·cases h; exact lq 5 (by kernel_rfl)
 refine lpx 7 (fun v1 => ⟨26, [(0, (.fz ((eL 1 eI) (a0)))), (1, (.fz ((eL 1 eI) (a1)))), (5, (fI (v1)))], [], [], []⟩) (fun v4 e st => Sum.elim (fun p => e = .exit 0 ∧ LeSt st ⟨26, [], [], [], []⟩) (fun p => e = .ret ∧ retX TT st Tryz.f14.results.toList [.one .keep] = some (eB (p))) v4) h (by kernel_rfl) (le_a (by kernel_rfl)) (fun v1 r h => ?_) fun v4 h e st' hq => ?_
 ·unfold synthesisref11_SameInts_l1 at h
  refine cd 8 h (by kernel_rfl) (fun h => ?_) fun h => ?_
  ·refine dw 4 8 (by kernel_rfl) ?_
   refine ix nI 2 h (by kernel_rfl) fun v2 h => ?_
   refine ix nI 3 h (by kernel_rfl) fun v3 h => ?_
   refine cd 4 h (by kernel_rfl) (fun h => ?_) fun h => ?_
   ·cases h; exact lor 5 (by kernel_rfl)
   cases h; exact lj 6 (by kernel_rfl)
  cases h; exact lo 1 (by kernel_rfl)
 rcases v4 with v5 | v6
 ·try simp only [Sum.elim_inl, Sum.elim_inr] at h
  obtain ⟨rfl, hle⟩ := hq
  refine ⟨_, hle, ?_⟩
  cases h; exact lq 5 (by kernel_rfl)
 ·try simp only [Sum.elim_inl, Sum.elim_inr] at h
  obtain ⟨rfl, hret⟩ := hq
  refine ⟨_, LeSt.refl, ?_⟩
  cases h; exact lv hret

def synthesisref11_SameRule (a0 : Ru) (a1 : Ru) : Option (Bool) := (Option.bind ((bif (a0.symbol == a1.symbol) then (bif (a0.kind == a1.kind) then (bif (a0.input == a1.input) then (bif (a0.op.toList == a1.op.toList) then (Option.bind (synthesisref11_SameInts (a0.args) (a1.args)) fun v1 => (bif v1 then (Option.bind (synthesisref01_Equal (a0.const) (a1.const)) fun v2 => (some (v2))) else (some (false)))) else (some (false))) else (some (false))) else (some (false))) else (some (false))) : Option ((Bool))) fun (v4 : (Bool)) => (some v4))
theorem synthesisref11_SameRule_ok (a0 : Ru) (a1 : Ru) (r : Bool) (h : synthesisref11_SameRule a0 a1 = some r) : PCall Tryz.prog 42 [eRu a0, eRu a1] (eB (r)) := by
 unfold synthesisref11_SameRule at h
 refine pcl [.one .keep] Tryz.func42 (by kernel_rfl) (by kernel_rfl) (by kernel_rfl) ?_
 refine jn1 7 .normal (fun v4 => ⟨45, [(4, (fB (v4)))], [], [], []⟩) h (by kernel_rfl) (fun v4 h => ?_) fun v4 h => ?_
 ·refine gd 7 h (by kernel_rfl) (fun h => ?_) fun h => ?_
  ·refine gd 7 h (by kernel_rfl) (fun h => ?_) fun h => ?_
   ·refine gd 7 h (by kernel_rfl) (fun h => ?_) fun h => ?_
    ·refine gd 7 h (by kernel_rfl) (fun h => ?_) fun h => ?_
     ·refine cl 4 h (synthesisref11_SameInts_ok _ _) (by kernel_rfl) fun v1 h => ?_
      refine gd 2 h (by kernel_rfl) (fun h => ?_) fun h => ?_
      ·refine cl 4 h (synthesisref01_Equal_ok _ _) (by kernel_rfl) fun v2 h => ?_
       cases h; exact lj 3 (by kernel_rfl)
      cases h; exact lj 8 (by kernel_rfl)
     cases h; exact lj 15 (by kernel_rfl)
    cases h; exact lj 22 (by kernel_rfl)
   cases h; exact lj 29 (by kernel_rfl)
  cases h; exact lj 36 (by kernel_rfl)
 cases h; exact lq 1 (by kernel_rfl)

def synthesisref11_Check_m0 (a0 : La) : List (Nat × AObj) := [(1, (.box 26 [(fS (a0.name)), (.fz ((eL 1 eI) (a0.inputs))), (.fz ((eL 2 eSy) (a0.symbols))), (.fz ((eL 9 eRu) (a0.rules)))]))]
def synthesisref11_Check_l1 (a0 : La) (v9 : (Int)) (v12 : (Int)) : Option (((Int)) ⊕ (((Unit) ⊕ (Int)))) := (bif (decide (v12 < v9)) then (Option.bind (idx a0.symbols v12) fun v13 => (Option.bind (idx a0.symbols v9) fun v14 => (bif (v13.name.toList == v14.name.toList) then (some (.inr (.inr 6))) else (some (.inl ((w64 (v12 + 1)))))))) else (some (.inr (.inl ()))))
def synthesisref11_Check_l2 (a0 : La) (v22 : (Int)) (v25 : (Int)) : Option (((Int)) ⊕ (((Unit) ⊕ (Int)))) := (bif (decide (v25 < v22)) then (Option.bind (idx a0.rules v25) fun v26 => (Option.bind (idx a0.rules v22) fun v27 => (Option.bind (synthesisref11_SameRule (v26) (v27)) fun v28 => (bif v28 then (some (.inr (.inr 6))) else (some (.inl ((w64 (v25 + 1))))))))) else (some (.inr (.inl ()))))
def synthesisref11_Check_l3 (a0 : La) (v22 : (Int)) : Option (((Int)) ⊕ (((Unit) ⊕ (Int)))) := (bif (decide (v22 < (List.length a0.rules : Int))) then (Option.bind (idx a0.rules v22) fun v23 => (Option.bind (synthesisref11_rule (a0) (v23)) fun v24 => (bif (v24 != 0) then (some (.inr (.inr v24))) else (Option.bind (loopN (synthesisref11_Check_l2 a0 v22) fuel (0)) fun (v29 : ((Unit) ⊕ (Int))) => Sum.elim (fun v30 => (some (.inl ((w64 (v22 + 1)))))) (fun v31 => (some (.inr (.inr v31)))) v29)))) else (some (.inr (.inl ()))))
def synthesisref11_Check_l4 (a0 : La) (v9 : (Int)) : Option (((Int)) ⊕ (((Unit) ⊕ (Int)))) := (bif (decide (v9 < (List.length a0.symbols : Int))) then (Option.bind (idx a0.symbols v9) fun v10 => (Option.bind (synthesisref11_Name (v10.name)) fun v11 => (bif (!v11) then (some (.inr (.inr 5))) else (Option.bind (loopN (synthesisref11_Check_l1 a0 v9) fuel (0)) fun (v15 : ((Unit) ⊕ (Int))) => Sum.elim (fun v16 => (Option.bind (idx a0.symbols v9) fun v17 => (Option.bind (synthesisref11_typed (v17.type)) fun v18 => (bif (!v18) then (some (.inr (.inr 3))) else (some (.inl ((w64 (v9 + 1))))))))) (fun v19 => (some (.inr (.inr v19)))) v15)))) else (some (.inr (.inl ()))))
def synthesisref11_Check_l5 (a0 : La) (v2 : (Int)) : Option (((Int)) ⊕ (((Unit) ⊕ (Int)))) := (bif (decide (v2 < (List.length a0.inputs : Int))) then (Option.bind (idx a0.inputs v2) fun v3 => (Option.bind (synthesisref11_typed (v3)) fun v4 => (bif (!v4) then (some (.inr (.inr 3))) else (some (.inl ((w64 (v2 + 1)))))))) else (some (.inr (.inl ()))))
def synthesisref11_Check (a0 : La) : Option (Int) := (Option.bind (synthesisref11_Name (a0.name)) fun v1 => (bif (!v1) then (some 5) else (bif (decide (4 < (List.length a0.inputs : Int))) then (some 2) else (Option.bind (loopN (synthesisref11_Check_l5 a0) fuel (0)) fun (v5 : ((Unit) ⊕ (Int))) => Sum.elim (fun v6 => (Option.bind ((bif (decide ((List.length a0.symbols : Int) < 1)) then (some (true)) else (some ((decide (16 < (List.length a0.symbols : Int)))))) : Option ((Bool))) fun (v8 : (Bool)) => (bif v8 then (some 2) else (Option.bind (loopN (synthesisref11_Check_l4 a0) fuel (0)) fun (v20 : ((Unit) ⊕ (Int))) => Sum.elim (fun v21 => (bif (decide (96 < (List.length a0.rules : Int))) then (some 2) else (Option.bind (loopN (synthesisref11_Check_l3 a0) fuel (0)) fun (v32 : ((Unit) ⊕ (Int))) => Sum.elim (fun v33 => (some 0)) (fun v34 => (some v34)) v32))) (fun v35 => (some v35)) v20)))) (fun v36 => (some v36)) v5))))
theorem synthesisref11_Check_ok (a0 : La) (r : Int) (h : synthesisref11_Check a0 = some r) : PCall Tryz.prog 13 [eLa a0] (eI (r)) := by
 unfold synthesisref11_Check at h
 refine pcl [.one .keep] Tryz.func13 (by kernel_rfl) (by kernel_rfl) (by kernel_rfl) ?_
 refine cl 10 h (synthesisref11_Name_ok _) (by kernel_rfl) fun v1 h => ?_
 refine cd 2 h (by kernel_rfl) (fun h => ?_) fun h => ?_
 ·cases h; exact lq 5 (by kernel_rfl)
 refine cd 9 h (by kernel_rfl) (fun h => ?_) fun h => ?_
 ·cases h; exact lq 5 (by kernel_rfl)
 refine lpx 7 (fun v2 => ⟨119, [(1, (.ref 1 0 0)), (3, (fI (v2)))], (synthesisref11_Check_m0 a0), [1], []⟩) (fun v5 e st => Sum.elim (fun p => e = .exit 0 ∧ LeSt st ⟨119, [(1, (.ref 1 0 0))], (synthesisref11_Check_m0 a0), [1], []⟩) (fun p => e = .ret ∧ retX TT st Tryz.f13.results.toList [.one .keep] = some (eI (p))) v5) h (by kernel_rfl) (le_a (by kernel_rfl)) (fun v2 r h => ?_) fun v5 h e st' hq => ?_
 ·unfold synthesisref11_Check_l5 at h
  refine cd 9 h (by kernel_rfl) (fun h => ?_) fun h => ?_
  ·refine ix nI 8 h (by kernel_rfl) fun v3 h => ?_
   refine cl 1 h (synthesisref11_typed_ok _) (by kernel_rfl) fun v4 h => ?_
   refine cd 2 h (by kernel_rfl) (fun h => ?_) fun h => ?_
   ·cases h; exact lor 5 (by kernel_rfl)
   cases h; exact lj 6 (by kernel_rfl)
  cases h; exact lo 1 (by kernel_rfl)
 rcases v5 with v6 | v36
 ·try simp only [Sum.elim_inl, Sum.elim_inr] at h
  obtain ⟨rfl, hle⟩ := hq
  refine ⟨_, hle, ?_⟩
  refine jn1 2 .normal (fun v8 => ⟨119, [(1, (.ref 1 0 0)), (40, (fB (v8)))], (synthesisref11_Check_m0 a0), [1], []⟩) h (by kernel_rfl) (fun v8 h => ?_) fun v8 h => ?_
  ·refine gd 6 h (by kernel_rfl) (fun h => ?_) fun h => ?_
   ·cases h; exact lj 6 (by kernel_rfl)
   cases h; exact lj 6 (by kernel_rfl)
  refine cd 0 h (by kernel_rfl) (fun h => ?_) fun h => ?_
  ·cases h; exact lq 5 (by kernel_rfl)
  refine lpx 7 (fun v9 => ⟨119, [(1, (.ref 1 0 0)), (4, (fI (v9)))], (synthesisref11_Check_m0 a0), [1], []⟩) (fun v20 e st => Sum.elim (fun p => e = .exit 2 ∧ LeSt st ⟨119, [(1, (.ref 1 0 0))], (synthesisref11_Check_m0 a0), [1], []⟩) (fun p => e = .ret ∧ retX TT st Tryz.f13.results.toList [.one .keep] = some (eI (p))) v20) h (by kernel_rfl) (le_a (by kernel_rfl)) (fun v9 r h => ?_) fun v20 h e st' hq => ?_
  ·unfold synthesisref11_Check_l4 at h
   refine cd 9 h (by kernel_rfl) (fun h => ?_) fun h => ?_
   ·refine ix nSy 9 h (by kernel_rfl) fun v10 h => ?_
    refine cl 2 h (synthesisref11_Name_ok _) (by kernel_rfl) fun v11 h => ?_
    refine cd 2 h (by kernel_rfl) (fun h => ?_) fun h => ?_
    ·cases h; exact lor 5 (by kernel_rfl)
    refine lpx 7 (fun v12 => ⟨119, [(1, (.ref 1 0 0)), (4, (fI (v9))), (5, (fI (v12)))], (synthesisref11_Check_m0 a0), [1], []⟩) (fun v15 e st => Sum.elim (fun p => e = .exit 4 ∧ LeSt st ⟨119, [(1, (.ref 1 0 0)), (4, (fI (v9)))], (synthesisref11_Check_m0 a0), [1], []⟩) (fun p => e = .ret ∧ retX TT st Tryz.f13.results.toList [.one .keep] = some (eI (p))) v15) h (by kernel_rfl) (le_a (by kernel_rfl)) (fun v12 r h => ?_) fun v15 h e st' hq => ?_
    ·unfold synthesisref11_Check_l1 at h
     refine cd 7 h (by kernel_rfl) (fun h => ?_) fun h => ?_
     ·refine dw 4 12 (by kernel_rfl) ?_
      refine ix nSy 3 h (by kernel_rfl) fun v13 h => ?_
      refine ix nSy 5 h (by kernel_rfl) fun v14 h => ?_
      refine cd 5 h (by kernel_rfl) (fun h => ?_) fun h => ?_
      ·cases h; exact lor 5 (by kernel_rfl)
      cases h; exact lj 6 (by kernel_rfl)
     cases h; exact lo 1 (by kernel_rfl)
    rcases v15 with v16 | v19
    ·try simp only [Sum.elim_inl, Sum.elim_inr] at h
     obtain ⟨rfl, hle⟩ := hq
     refine ⟨_, hle, ?_⟩
     refine ix nSy 5 h (by kernel_rfl) fun v17 h => ?_
     refine cl 2 h (synthesisref11_typed_ok _) (by kernel_rfl) fun v18 h => ?_
     refine cd 2 h (by kernel_rfl) (fun h => ?_) fun h => ?_
     ·cases h; exact lor 5 (by kernel_rfl)
     cases h; exact lj 6 (by kernel_rfl)
    ·try simp only [Sum.elim_inl, Sum.elim_inr] at h
     obtain ⟨rfl, hret⟩ := hq
     refine ⟨_, LeSt.refl, ?_⟩
     cases h; exact lvo hret
   cases h; exact lo 1 (by kernel_rfl)
  rcases v20 with v21 | v35
  ·try simp only [Sum.elim_inl, Sum.elim_inr] at h
   obtain ⟨rfl, hle⟩ := hq
   refine ⟨_, hle, ?_⟩
   refine cd 8 h (by kernel_rfl) (fun h => ?_) fun h => ?_
   ·cases h; exact lq 5 (by kernel_rfl)
   refine lpx 7 (fun v22 => ⟨119, [(1, (.ref 1 0 0)), (6, (fI (v22)))], (synthesisref11_Check_m0 a0), [1], []⟩) (fun v32 e st => Sum.elim (fun p => e = .exit 6 ∧ LeSt st ⟨119, [], [], [], []⟩) (fun p => e = .ret ∧ retX TT st Tryz.f13.results.toList [.one .keep] = some (eI (p))) v32) h (by kernel_rfl) (le_a (by kernel_rfl)) (fun v22 r h => ?_) fun v32 h e st' hq => ?_
   ·unfold synthesisref11_Check_l3 at h
    refine cd 9 h (by kernel_rfl) (fun h => ?_) fun h => ?_
    ·refine dw 5 6 (by kernel_rfl) ?_
     refine ix nRu 4 h (by kernel_rfl) fun v23 h => ?_
     refine cl 2 h (synthesisref11_rule_ok _ _) (by kernel_rfl) fun v24 h => ?_
     refine cd 7 h (by kernel_rfl) (fun h => ?_) fun h => ?_
     ·cases h; exact lor 6 (by kernel_rfl)
     refine lpx 6 (fun v25 => ⟨119, [(1, (.ref 1 0 0)), (6, (fI (v22))), (8, (fI (v25)))], (synthesisref11_Check_m0 a0), [1], []⟩) (fun v29 e st => Sum.elim (fun p => e = .exit 8 ∧ LeSt st ⟨119, [(1, (.ref 1 0 0)), (6, (fI (v22)))], (synthesisref11_Check_m0 a0), [1], []⟩) (fun p => e = .ret ∧ retX TT st Tryz.f13.results.toList [.one .keep] = some (eI (p))) v29) h (by kernel_rfl) (le_a (by kernel_rfl)) (fun v25 r h => ?_) fun v29 h e st' hq => ?_
     ·unfold synthesisref11_Check_l2 at h
      refine cd 7 h (by kernel_rfl) (fun h => ?_) fun h => ?_
      ·refine dw 4 10 (by kernel_rfl) ?_
       refine ix nRu 3 h (by kernel_rfl) fun v26 h => ?_
       refine ix nRu 4 h (by kernel_rfl) fun v27 h => ?_
       refine cl 2 h (synthesisref11_SameRule_ok _ _) (by kernel_rfl) fun v28 h => ?_
       refine cd 1 h (by kernel_rfl) (fun h => ?_) fun h => ?_
       ·cases h; exact lor 5 (by kernel_rfl)
       cases h; exact lj 6 (by kernel_rfl)
      cases h; exact lo 1 (by kernel_rfl)
     rcases v29 with v30 | v31
     ·try simp only [Sum.elim_inl, Sum.elim_inr] at h
      obtain ⟨rfl, hle⟩ := hq
      refine ⟨_, hle, ?_⟩
      cases h; exact lj 5 (by kernel_rfl)
     ·try simp only [Sum.elim_inl, Sum.elim_inr] at h
      obtain ⟨rfl, hret⟩ := hq
      refine ⟨_, LeSt.refl, ?_⟩
      cases h; exact lvo hret
    cases h; exact lo 1 (by kernel_rfl)
   rcases v32 with v33 | v34
   ·try simp only [Sum.elim_inl, Sum.elim_inr] at h
    obtain ⟨rfl, hle⟩ := hq
    refine ⟨_, hle, ?_⟩
    cases h; exact lq 5 (by kernel_rfl)
   ·try simp only [Sum.elim_inl, Sum.elim_inr] at h
    obtain ⟨rfl, hret⟩ := hq
    refine ⟨_, LeSt.refl, ?_⟩
    cases h; exact lv hret
  ·try simp only [Sum.elim_inl, Sum.elim_inr] at h
   obtain ⟨rfl, hret⟩ := hq
   refine ⟨_, LeSt.refl, ?_⟩
   cases h; exact lv hret
 ·try simp only [Sum.elim_inl, Sum.elim_inr] at h
  obtain ⟨rfl, hret⟩ := hq
  refine ⟨_, LeSt.refl, ?_⟩
  cases h; exact lv hret

end Go.Proofs.YtfhmljjkhjifeaaGreatDoor
