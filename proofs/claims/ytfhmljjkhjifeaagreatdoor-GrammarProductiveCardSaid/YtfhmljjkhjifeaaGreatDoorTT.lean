/- The types that the program uses, told. -/
import Derived.Test.YtfhmljjkhjifeaaGreatDoorOpg
import Derived.Test.YtfhmljjkhjifeaaGreatDoorSh
import Derived.Test.YtfhmljjkhjifeaaGreatDoorProg
set_option linter.unusedVariables false
set_option linter.unusedSimpArgs false
namespace Go.Proofs.YtfhmljjkhjifeaaGreatDoor
open Go Go.RowKit
def tt2 : TD := ⟨1, 8, .int .i64, [.int .i64 0]⟩
def tt3 : TD := ⟨1, 8, .int .i64, [.int .i64 0]⟩
def tt4 : TD := ⟨1, 1, .bool, [.bool false]⟩
def tt5 : TD := ⟨1, 1, .int .u8, [.int .u8 0]⟩
def tt9 : TD := ⟨1, 16, .str, [.string ⟨#[]⟩]⟩
def tt21 : TD := ⟨1, 4, .int .i32, [.int .i32 0]⟩
def tt22 : TD := ⟨1, 24, .slice 3, [.slice none 0 0]⟩
def tt23 : TD := ⟨1, 24, .slice 49, [.slice none 0 0]⟩
def tt24 : TD := ⟨1, 24, .slice 47, [.slice none 0 0]⟩
def tt26 : TD := ⟨4, 88, .st [(9, 0), (22, 1), (23, 2), (24, 3)], [.string ⟨#[]⟩, .slice none 0 0, .slice none 0 0, .slice none 0 0]⟩
def tt29 : TD := ⟨1, 8, .int .i64, [.int .i64 0]⟩
def tt35 : TD := ⟨1, 24, .slice 4, [.slice none 0 0]⟩
def tt40 : TD := ⟨1, 8, .int .u64, [.int .u64 0]⟩
def tt43 : TD := ⟨1, 24, .slice 45, [.slice none 0 0]⟩
def tt45 : TD := ⟨4, 56, .st [(3, 0), (2, 1), (9, 2), (43, 3)], [.int .i64 0, .int .i64 0, .string ⟨#[]⟩, .slice none 0 0]⟩
def tt47 : TD := ⟨9, 120, .st [(3, 0), (3, 1), (3, 2), (45, 3), (9, 7), (22, 8)], [.int .i64 0, .int .i64 0, .int .i64 0, .int .i64 0, .int .i64 0, .string ⟨#[]⟩, .slice none 0 0, .string ⟨#[]⟩, .slice none 0 0]⟩
def tt49 : TD := ⟨2, 24, .st [(9, 0), (3, 1)], [.string ⟨#[]⟩, .int .i64 0]⟩
def tt54 : TD := ⟨1, 8, .map 9 4, [.map none]⟩
def tt57 : TD := ⟨1, 8, .fn, [.nilFunc]⟩
def tt58 : TD := ⟨1, 8, .fn, [.nilFunc]⟩
def tt64 : TD := ⟨1, 24, .slice 5, [.slice none 0 0]⟩
def tt72 : TD := ⟨3, 48, .st [(9, 0), (22, 1), (3, 2)], [.string ⟨#[]⟩, .slice none 0 0, .int .i64 0]⟩
def tt77 : TD := ⟨1, 8, .fn, [.nilFunc]⟩
def tt78 : TD := ⟨1, 8, .ptr 80, [.pointer none]⟩
def tt80 : TD := ⟨2, 32, .st [(78, 0), (64, 1)], [.pointer none, .slice none 0 0]⟩
def tt96 : TD := ⟨4, 64, .st [(72, 0), (9, 3)], [.string ⟨#[]⟩, .slice none 0 0, .int .i64 0, .string ⟨#[]⟩]⟩
def tt101 : TD := ⟨1, 8, .ptr 5, [.pointer none]⟩
def tt104 : TD := ⟨1, 24, .slice 96, [.slice none 0 0]⟩
def tt107 : TD := ⟨1, 24, .slice 109, [.slice none 0 0]⟩
def tt109 : TD := ⟨3, 48, .arr 3 9, [.string ⟨#[]⟩, .string ⟨#[]⟩, .string ⟨#[]⟩]⟩
def tt119 : TD := ⟨1, 24, .slice 104, [.slice none 0 0]⟩
def tt120 : TD := ⟨1, 24, .slice 9, [.slice none 0 0]⟩
def tt122 : TD := ⟨24, 24, .arr 24 5, [.int .u8 0, .int .u8 0, .int .u8 0, .int .u8 0, .int .u8 0, .int .u8 0, .int .u8 0, .int .u8 0, .int .u8 0, .int .u8 0, .int .u8 0, .int .u8 0, .int .u8 0, .int .u8 0, .int .u8 0, .int .u8 0, .int .u8 0, .int .u8 0, .int .u8 0, .int .u8 0, .int .u8 0, .int .u8 0, .int .u8 0, .int .u8 0]⟩
def tt131 : TD := ⟨20, 160, .arr 20 40, [.int .u64 0, .int .u64 0, .int .u64 0, .int .u64 0, .int .u64 0, .int .u64 0, .int .u64 0, .int .u64 0, .int .u64 0, .int .u64 0, .int .u64 0, .int .u64 0, .int .u64 0, .int .u64 0, .int .u64 0, .int .u64 0, .int .u64 0, .int .u64 0, .int .u64 0, .int .u64 0]⟩
def tt132 : TD := ⟨1, 4, .int .u32, [.int .u32 0]⟩
def tt134 : TD := ⟨1, 8, .int .u64, [.int .u64 0]⟩
def tt145 : TD := ⟨32, 32, .arr 32 5, [.int .u8 0, .int .u8 0, .int .u8 0, .int .u8 0, .int .u8 0, .int .u8 0, .int .u8 0, .int .u8 0, .int .u8 0, .int .u8 0, .int .u8 0, .int .u8 0, .int .u8 0, .int .u8 0, .int .u8 0, .int .u8 0, .int .u8 0, .int .u8 0, .int .u8 0, .int .u8 0, .int .u8 0, .int .u8 0, .int .u8 0, .int .u8 0, .int .u8 0, .int .u8 0, .int .u8 0, .int .u8 0, .int .u8 0, .int .u8 0, .int .u8 0, .int .u8 0]⟩
def tt146 : TD := ⟨64, 64, .arr 64 5, [.int .u8 0, .int .u8 0, .int .u8 0, .int .u8 0, .int .u8 0, .int .u8 0, .int .u8 0, .int .u8 0, .int .u8 0, .int .u8 0, .int .u8 0, .int .u8 0, .int .u8 0, .int .u8 0, .int .u8 0, .int .u8 0, .int .u8 0, .int .u8 0, .int .u8 0, .int .u8 0, .int .u8 0, .int .u8 0, .int .u8 0, .int .u8 0, .int .u8 0, .int .u8 0, .int .u8 0, .int .u8 0, .int .u8 0, .int .u8 0, .int .u8 0, .int .u8 0, .int .u8 0, .int .u8 0, .int .u8 0, .int .u8 0, .int .u8 0, .int .u8 0, .int .u8 0, .int .u8 0, .int .u8 0, .int .u8 0, .int .u8 0, .int .u8 0, .int .u8 0, .int .u8 0, .int .u8 0, .int .u8 0, .int .u8 0, .int .u8 0, .int .u8 0, .int .u8 0, .int .u8 0, .int .u8 0, .int .u8 0, .int .u8 0, .int .u8 0, .int .u8 0, .int .u8 0, .int .u8 0, .int .u8 0, .int .u8 0, .int .u8 0, .int .u8 0]⟩
def tt150 : TD := ⟨2, 2, .st [(5, 0), (5, 1)], [.int .u8 0, .int .u8 0]⟩
def tt151 : TD := ⟨32, 32, .arr 16 150, [.int .u8 0, .int .u8 0, .int .u8 0, .int .u8 0, .int .u8 0, .int .u8 0, .int .u8 0, .int .u8 0, .int .u8 0, .int .u8 0, .int .u8 0, .int .u8 0, .int .u8 0, .int .u8 0, .int .u8 0, .int .u8 0, .int .u8 0, .int .u8 0, .int .u8 0, .int .u8 0, .int .u8 0, .int .u8 0, .int .u8 0, .int .u8 0, .int .u8 0, .int .u8 0, .int .u8 0, .int .u8 0, .int .u8 0, .int .u8 0, .int .u8 0, .int .u8 0]⟩
def TT : List (TypeId × TD) := [(2, tt2), (3, tt3), (4, tt4), (5, tt5), (9, tt9), (21, tt21), (22, tt22), (23, tt23), (24, tt24), (26, tt26), (29, tt29), (35, tt35), (40, tt40), (43, tt43), (45, tt45), (47, tt47), (49, tt49), (54, tt54), (57, tt57), (58, tt58), (64, tt64), (72, tt72), (77, tt77), (78, tt78), (80, tt80), (96, tt96), (101, tt101), (104, tt104), (107, tt107), (109, tt109), (119, tt119), (120, tt120), (122, tt122), (131, tt131), (132, tt132), (134, tt134), (145, tt145), (146, tt146), (150, tt150), (151, tt151)]
theorem tt2_ok : TdOk Tryz.prog 2 tt2 := ⟨⟨_, _, show Tryz.prog.info? 2 = some Tryz.t2 from by kernel_rfl, by kernel_rfl, by kernel_rfl, rfl, rfl⟩, _, Tryz.underlying2, by simp [kindOk, tt2]⟩
theorem tt3_ok : TdOk Tryz.prog 3 tt3 := ⟨⟨_, _, show Tryz.prog.info? 3 = some Tryz.t3 from by kernel_rfl, by kernel_rfl, by kernel_rfl, rfl, rfl⟩, _, Tryz.underlying3, by simp [kindOk, tt3]⟩
theorem tt4_ok : TdOk Tryz.prog 4 tt4 := ⟨⟨_, _, show Tryz.prog.info? 4 = some Tryz.t4 from by kernel_rfl, by kernel_rfl, by kernel_rfl, rfl, rfl⟩, _, Tryz.underlying4, by simp [kindOk, tt4]⟩
theorem tt5_ok : TdOk Tryz.prog 5 tt5 := ⟨⟨_, _, show Tryz.prog.info? 5 = some Tryz.t5 from by kernel_rfl, by kernel_rfl, by kernel_rfl, rfl, rfl⟩, _, Tryz.underlying5, by simp [kindOk, tt5]⟩
theorem tt9_ok : TdOk Tryz.prog 9 tt9 := ⟨⟨_, _, show Tryz.prog.info? 9 = some Tryz.t9 from by kernel_rfl, by kernel_rfl, by kernel_rfl, rfl, rfl⟩, _, Tryz.underlying9, by simp [kindOk, tt9]⟩
theorem tt21_ok : TdOk Tryz.prog 21 tt21 := ⟨⟨_, _, show Tryz.prog.info? 21 = some Tryz.t21 from by kernel_rfl, by kernel_rfl, by kernel_rfl, rfl, rfl⟩, _, Tryz.underlying21, by simp [kindOk, tt21]⟩
theorem tt22_ok : TdOk Tryz.prog 22 tt22 := ⟨⟨_, _, show Tryz.prog.info? 22 = some Tryz.t22 from by kernel_rfl, by kernel_rfl, by kernel_rfl, rfl, rfl⟩, _, Tryz.underlying22, by simp [kindOk, tt22]⟩
theorem tt23_ok : TdOk Tryz.prog 23 tt23 := ⟨⟨_, _, show Tryz.prog.info? 23 = some Tryz.t23 from by kernel_rfl, by kernel_rfl, by kernel_rfl, rfl, rfl⟩, _, Tryz.underlying23, by simp [kindOk, tt23]⟩
theorem tt24_ok : TdOk Tryz.prog 24 tt24 := ⟨⟨_, _, show Tryz.prog.info? 24 = some Tryz.t24 from by kernel_rfl, by kernel_rfl, by kernel_rfl, rfl, rfl⟩, _, Tryz.underlying24, by simp [kindOk, tt24]⟩
theorem tt26_ok : TdOk Tryz.prog 26 tt26 := ⟨⟨_, _, show Tryz.prog.info? 26 = some Tryz.t26 from by kernel_rfl, by kernel_rfl, by kernel_rfl, rfl, rfl⟩, _, Tryz.underlying26, by simp [kindOk, tt26]⟩
theorem tt29_ok : TdOk Tryz.prog 29 tt29 := ⟨⟨_, _, show Tryz.prog.info? 29 = some Tryz.t29 from by kernel_rfl, by kernel_rfl, by kernel_rfl, rfl, rfl⟩, _, Tryz.underlying29, by simp [kindOk, tt29]⟩
theorem tt35_ok : TdOk Tryz.prog 35 tt35 := ⟨⟨_, _, show Tryz.prog.info? 35 = some Tryz.t35 from by kernel_rfl, by kernel_rfl, by kernel_rfl, rfl, rfl⟩, _, Tryz.underlying35, by simp [kindOk, tt35]⟩
theorem tt40_ok : TdOk Tryz.prog 40 tt40 := ⟨⟨_, _, show Tryz.prog.info? 40 = some Tryz.t40 from by kernel_rfl, by kernel_rfl, by kernel_rfl, rfl, rfl⟩, _, Tryz.underlying40, by simp [kindOk, tt40]⟩
theorem tt43_ok : TdOk Tryz.prog 43 tt43 := ⟨⟨_, _, show Tryz.prog.info? 43 = some Tryz.t43 from by kernel_rfl, by kernel_rfl, by kernel_rfl, rfl, rfl⟩, _, Tryz.underlying43, by simp [kindOk, tt43]⟩
theorem tt45_ok : TdOk Tryz.prog 45 tt45 := ⟨⟨_, _, show Tryz.prog.info? 45 = some Tryz.t45 from by kernel_rfl, by kernel_rfl, by kernel_rfl, rfl, rfl⟩, _, Tryz.underlying45, by simp [kindOk, tt45]⟩
theorem tt47_ok : TdOk Tryz.prog 47 tt47 := ⟨⟨_, _, show Tryz.prog.info? 47 = some Tryz.t47 from by kernel_rfl, by kernel_rfl, by kernel_rfl, rfl, rfl⟩, _, Tryz.underlying47, by simp [kindOk, tt47]⟩
theorem tt49_ok : TdOk Tryz.prog 49 tt49 := ⟨⟨_, _, show Tryz.prog.info? 49 = some Tryz.t49 from by kernel_rfl, by kernel_rfl, by kernel_rfl, rfl, rfl⟩, _, Tryz.underlying49, by simp [kindOk, tt49]⟩
theorem tt54_ok : TdOk Tryz.prog 54 tt54 := ⟨⟨_, _, show Tryz.prog.info? 54 = some Tryz.t54 from by kernel_rfl, by kernel_rfl, by kernel_rfl, rfl, rfl⟩, _, Tryz.underlying54, by simp [kindOk, tt54]⟩
theorem tt57_ok : TdOk Tryz.prog 57 tt57 := ⟨⟨_, _, show Tryz.prog.info? 57 = some Tryz.t57 from by kernel_rfl, by kernel_rfl, by kernel_rfl, rfl, rfl⟩, _, Tryz.underlying57, by simp [kindOk, tt57]⟩
theorem tt58_ok : TdOk Tryz.prog 58 tt58 := ⟨⟨_, _, show Tryz.prog.info? 58 = some Tryz.t58 from by kernel_rfl, by kernel_rfl, by kernel_rfl, rfl, rfl⟩, _, Tryz.underlying58, by simp [kindOk, tt58]⟩
theorem tt64_ok : TdOk Tryz.prog 64 tt64 := ⟨⟨_, _, show Tryz.prog.info? 64 = some Tryz.t64 from by kernel_rfl, by kernel_rfl, by kernel_rfl, rfl, rfl⟩, _, Tryz.underlying64, by simp [kindOk, tt64]⟩
theorem tt72_ok : TdOk Tryz.prog 72 tt72 := ⟨⟨_, _, show Tryz.prog.info? 72 = some Tryz.t72 from by kernel_rfl, by kernel_rfl, by kernel_rfl, rfl, rfl⟩, _, Tryz.underlying72, by simp [kindOk, tt72]⟩
theorem tt77_ok : TdOk Tryz.prog 77 tt77 := ⟨⟨_, _, show Tryz.prog.info? 77 = some Tryz.t77 from by kernel_rfl, by kernel_rfl, by kernel_rfl, rfl, rfl⟩, _, Tryz.underlying77, by simp [kindOk, tt77]⟩
theorem tt78_ok : TdOk Tryz.prog 78 tt78 := ⟨⟨_, _, show Tryz.prog.info? 78 = some Tryz.t78 from by kernel_rfl, by kernel_rfl, by kernel_rfl, rfl, rfl⟩, _, Tryz.underlying78, by simp [kindOk, tt78]⟩
theorem tt80_ok : TdOk Tryz.prog 80 tt80 := ⟨⟨_, _, show Tryz.prog.info? 80 = some Tryz.t80 from by kernel_rfl, by kernel_rfl, by kernel_rfl, rfl, rfl⟩, _, Tryz.underlying80, by simp [kindOk, tt80]⟩
theorem tt96_ok : TdOk Tryz.prog 96 tt96 := ⟨⟨_, _, show Tryz.prog.info? 96 = some Tryz.t96 from by kernel_rfl, by kernel_rfl, by kernel_rfl, rfl, rfl⟩, _, Tryz.underlying96, by simp [kindOk, tt96]⟩
theorem tt101_ok : TdOk Tryz.prog 101 tt101 := ⟨⟨_, _, show Tryz.prog.info? 101 = some Tryz.t101 from by kernel_rfl, by kernel_rfl, by kernel_rfl, rfl, rfl⟩, _, Tryz.underlying101, by simp [kindOk, tt101]⟩
theorem tt104_ok : TdOk Tryz.prog 104 tt104 := ⟨⟨_, _, show Tryz.prog.info? 104 = some Tryz.t104 from by kernel_rfl, by kernel_rfl, by kernel_rfl, rfl, rfl⟩, _, Tryz.underlying104, by simp [kindOk, tt104]⟩
theorem tt107_ok : TdOk Tryz.prog 107 tt107 := ⟨⟨_, _, show Tryz.prog.info? 107 = some Tryz.t107 from by kernel_rfl, by kernel_rfl, by kernel_rfl, rfl, rfl⟩, _, Tryz.underlying107, by simp [kindOk, tt107]⟩
theorem tt109_ok : TdOk Tryz.prog 109 tt109 := ⟨⟨_, _, show Tryz.prog.info? 109 = some Tryz.t109 from by kernel_rfl, by kernel_rfl, by kernel_rfl, rfl, rfl⟩, _, Tryz.underlying109, by simp [kindOk, tt109]⟩
theorem tt119_ok : TdOk Tryz.prog 119 tt119 := ⟨⟨_, _, show Tryz.prog.info? 119 = some Tryz.t119 from by kernel_rfl, by kernel_rfl, by kernel_rfl, rfl, rfl⟩, _, Tryz.underlying119, by simp [kindOk, tt119]⟩
theorem tt120_ok : TdOk Tryz.prog 120 tt120 := ⟨⟨_, _, show Tryz.prog.info? 120 = some Tryz.t120 from by kernel_rfl, by kernel_rfl, by kernel_rfl, rfl, rfl⟩, _, Tryz.underlying120, by simp [kindOk, tt120]⟩
theorem tt122_ok : TdOk Tryz.prog 122 tt122 := ⟨⟨_, _, show Tryz.prog.info? 122 = some Tryz.t122 from by kernel_rfl, by kernel_rfl, by kernel_rfl, rfl, rfl⟩, _, Tryz.underlying122, by simp [kindOk, tt122]⟩
theorem tt131_ok : TdOk Tryz.prog 131 tt131 := ⟨⟨_, _, show Tryz.prog.info? 131 = some Tryz.t131 from by kernel_rfl, by kernel_rfl, by kernel_rfl, rfl, rfl⟩, _, Tryz.underlying131, by simp [kindOk, tt131]⟩
theorem tt132_ok : TdOk Tryz.prog 132 tt132 := ⟨⟨_, _, show Tryz.prog.info? 132 = some Tryz.t132 from by kernel_rfl, by kernel_rfl, by kernel_rfl, rfl, rfl⟩, _, Tryz.underlying132, by simp [kindOk, tt132]⟩
theorem tt134_ok : TdOk Tryz.prog 134 tt134 := ⟨⟨_, _, show Tryz.prog.info? 134 = some Tryz.t134 from by kernel_rfl, by kernel_rfl, by kernel_rfl, rfl, rfl⟩, _, Tryz.underlying134, by simp [kindOk, tt134]⟩
theorem tt145_ok : TdOk Tryz.prog 145 tt145 := ⟨⟨_, _, show Tryz.prog.info? 145 = some Tryz.t145 from by kernel_rfl, by kernel_rfl, by kernel_rfl, rfl, rfl⟩, _, Tryz.underlying145, by simp [kindOk, tt145]⟩
theorem tt146_ok : TdOk Tryz.prog 146 tt146 := ⟨⟨_, _, show Tryz.prog.info? 146 = some Tryz.t146 from by kernel_rfl, by kernel_rfl, by kernel_rfl, rfl, rfl⟩, _, Tryz.underlying146, by simp [kindOk, tt146]⟩
theorem tt150_ok : TdOk Tryz.prog 150 tt150 := ⟨⟨_, _, show Tryz.prog.info? 150 = some Tryz.t150 from by kernel_rfl, by kernel_rfl, by kernel_rfl, rfl, rfl⟩, _, Tryz.underlying150, by simp [kindOk, tt150]⟩
theorem tt151_ok : TdOk Tryz.prog 151 tt151 := ⟨⟨_, _, show Tryz.prog.info? 151 = some Tryz.t151 from by kernel_rfl, by kernel_rfl, by kernel_rfl, rfl, rfl⟩, _, Tryz.underlying151, by simp [kindOk, tt151]⟩
theorem tt_ok : TOk Tryz.prog TT := by
  intro p hp
  simp only [TT, List.mem_cons, List.not_mem_nil, or_false] at hp
  rcases hp with rfl | rfl | rfl | rfl | rfl | rfl | rfl | rfl | rfl | rfl | rfl | rfl | rfl | rfl | rfl | rfl | rfl | rfl | rfl | rfl | rfl | rfl | rfl | rfl | rfl | rfl | rfl | rfl | rfl | rfl | rfl | rfl | rfl | rfl | rfl | rfl | rfl | rfl | rfl | rfl
  · exact tt2_ok
  · exact tt3_ok
  · exact tt4_ok
  · exact tt5_ok
  · exact tt9_ok
  · exact tt21_ok
  · exact tt22_ok
  · exact tt23_ok
  · exact tt24_ok
  · exact tt26_ok
  · exact tt29_ok
  · exact tt35_ok
  · exact tt40_ok
  · exact tt43_ok
  · exact tt45_ok
  · exact tt47_ok
  · exact tt49_ok
  · exact tt54_ok
  · exact tt57_ok
  · exact tt58_ok
  · exact tt64_ok
  · exact tt72_ok
  · exact tt77_ok
  · exact tt78_ok
  · exact tt80_ok
  · exact tt96_ok
  · exact tt101_ok
  · exact tt104_ok
  · exact tt107_ok
  · exact tt109_ok
  · exact tt119_ok
  · exact tt120_ok
  · exact tt122_ok
  · exact tt131_ok
  · exact tt132_ok
  · exact tt134_ok
  · exact tt145_ok
  · exact tt146_ok
  · exact tt150_ok
  · exact tt151_ok
instance tabP : Tab Tryz.prog := ⟨TT, tt_ok, by kernel_rfl⟩
structure S_utf8_acceptRange where
  f_lo : Int
  f_hi : Int
def eS_utf8_acceptRange (x : S_utf8_acceptRange) : FV := .agg [eU8 (x.f_lo), eU8 (x.f_hi)]
def nS_utf8_acceptRange : En S_utf8_acceptRange := ⟨eS_utf8_acceptRange, 2, fun x => (eS_utf8_acceptRange x).cells, fun _ => rfl, fun _ => rfl⟩

def gt0 : List Int := [1, 10, 100, 1000, 10000, 100000, 1000000, 10000000, 100000000, 1000000000, 10000000000, 100000000000, 1000000000000, 10000000000000, 100000000000000, 1000000000000000, 10000000000000000, 100000000000000000, 1000000000000000000, 10000000000000000000]
def gv0 : Array Value := #[.int .u64 1, .int .u64 10, .int .u64 100, .int .u64 1000, .int .u64 10000, .int .u64 100000, .int .u64 1000000, .int .u64 10000000, .int .u64 100000000, .int .u64 1000000000, .int .u64 10000000000, .int .u64 100000000000, .int .u64 1000000000000, .int .u64 10000000000000, .int .u64 100000000000000, .int .u64 1000000000000000, .int .u64 10000000000000000, .int .u64 100000000000000000, .int .u64 1000000000000000000, .int .u64 10000000000000000000]
def gt1 : List Int := [0, 1, 28, 2, 29, 14, 24, 3, 30, 22, 20, 15, 25, 17, 4, 8, 31, 27, 13, 23, 21, 19, 16, 7, 26, 12, 18, 6, 11, 5, 10, 9]
def gv1 : Array Value := #[.int .u8 0, .int .u8 1, .int .u8 28, .int .u8 2, .int .u8 29, .int .u8 14, .int .u8 24, .int .u8 3, .int .u8 30, .int .u8 22, .int .u8 20, .int .u8 15, .int .u8 25, .int .u8 17, .int .u8 4, .int .u8 8, .int .u8 31, .int .u8 27, .int .u8 13, .int .u8 23, .int .u8 21, .int .u8 19, .int .u8 16, .int .u8 7, .int .u8 26, .int .u8 12, .int .u8 18, .int .u8 6, .int .u8 11, .int .u8 5, .int .u8 10, .int .u8 9]
def gt2 : List Int := [0, 1, 56, 2, 57, 49, 28, 3, 61, 58, 42, 50, 38, 29, 17, 4, 62, 47, 59, 36, 45, 43, 51, 22, 53, 39, 33, 30, 24, 18, 12, 5, 63, 55, 48, 27, 60, 41, 37, 16, 46, 35, 44, 21, 52, 32, 23, 11, 54, 26, 40, 15, 34, 20, 31, 10, 25, 14, 19, 9, 13, 8, 7, 6]
def gv2 : Array Value := #[.int .u8 0, .int .u8 1, .int .u8 56, .int .u8 2, .int .u8 57, .int .u8 49, .int .u8 28, .int .u8 3, .int .u8 61, .int .u8 58, .int .u8 42, .int .u8 50, .int .u8 38, .int .u8 29, .int .u8 17, .int .u8 4, .int .u8 62, .int .u8 47, .int .u8 59, .int .u8 36, .int .u8 45, .int .u8 43, .int .u8 51, .int .u8 22, .int .u8 53, .int .u8 39, .int .u8 33, .int .u8 30, .int .u8 24, .int .u8 18, .int .u8 12, .int .u8 5, .int .u8 63, .int .u8 55, .int .u8 48, .int .u8 27, .int .u8 60, .int .u8 41, .int .u8 37, .int .u8 16, .int .u8 46, .int .u8 35, .int .u8 44, .int .u8 21, .int .u8 52, .int .u8 32, .int .u8 23, .int .u8 11, .int .u8 54, .int .u8 26, .int .u8 40, .int .u8 15, .int .u8 34, .int .u8 20, .int .u8 31, .int .u8 10, .int .u8 25, .int .u8 14, .int .u8 19, .int .u8 9, .int .u8 13, .int .u8 8, .int .u8 7, .int .u8 6]
def gt4 : List Int := [240, 240, 240, 240, 240, 240, 240, 240, 240, 240, 240, 240, 240, 240, 240, 240, 240, 240, 240, 240, 240, 240, 240, 240, 240, 240, 240, 240, 240, 240, 240, 240, 240, 240, 240, 240, 240, 240, 240, 240, 240, 240, 240, 240, 240, 240, 240, 240, 240, 240, 240, 240, 240, 240, 240, 240, 240, 240, 240, 240, 240, 240, 240, 240, 240, 240, 240, 240, 240, 240, 240, 240, 240, 240, 240, 240, 240, 240, 240, 240, 240, 240, 240, 240, 240, 240, 240, 240, 240, 240, 240, 240, 240, 240, 240, 240, 240, 240, 240, 240, 240, 240, 240, 240, 240, 240, 240, 240, 240, 240, 240, 240, 240, 240, 240, 240, 240, 240, 240, 240, 240, 240, 240, 240, 240, 240, 240, 240, 241, 241, 241, 241, 241, 241, 241, 241, 241, 241, 241, 241, 241, 241, 241, 241, 241, 241, 241, 241, 241, 241, 241, 241, 241, 241, 241, 241, 241, 241, 241, 241, 241, 241, 241, 241, 241, 241, 241, 241, 241, 241, 241, 241, 241, 241, 241, 241, 241, 241, 241, 241, 241, 241, 241, 241, 241, 241, 241, 241, 241, 241, 241, 241, 241, 241, 2, 2, 2, 2, 2, 2, 2, 2, 2, 2, 2, 2, 2, 2, 2, 2, 2, 2, 2, 2, 2, 2, 2, 2, 2, 2, 2, 2, 2, 2, 19, 3, 3, 3, 3, 3, 3, 3, 3, 3, 3, 3, 3, 35, 3, 3, 52, 4, 4, 4, 68, 241, 241, 241, 241, 241, 241, 241, 241, 241, 241, 241]
def gv4 : Array Value := #[.int .u8 240, .int .u8 240, .int .u8 240, .int .u8 240, .int .u8 240, .int .u8 240, .int .u8 240, .int .u8 240, .int .u8 240, .int .u8 240, .int .u8 240, .int .u8 240, .int .u8 240, .int .u8 240, .int .u8 240, .int .u8 240, .int .u8 240, .int .u8 240, .int .u8 240, .int .u8 240, .int .u8 240, .int .u8 240, .int .u8 240, .int .u8 240, .int .u8 240, .int .u8 240, .int .u8 240, .int .u8 240, .int .u8 240, .int .u8 240, .int .u8 240, .int .u8 240, .int .u8 240, .int .u8 240, .int .u8 240, .int .u8 240, .int .u8 240, .int .u8 240, .int .u8 240, .int .u8 240, .int .u8 240, .int .u8 240, .int .u8 240, .int .u8 240, .int .u8 240, .int .u8 240, .int .u8 240, .int .u8 240, .int .u8 240, .int .u8 240, .int .u8 240, .int .u8 240, .int .u8 240, .int .u8 240, .int .u8 240, .int .u8 240, .int .u8 240, .int .u8 240, .int .u8 240, .int .u8 240, .int .u8 240, .int .u8 240, .int .u8 240, .int .u8 240, .int .u8 240, .int .u8 240, .int .u8 240, .int .u8 240, .int .u8 240, .int .u8 240, .int .u8 240, .int .u8 240, .int .u8 240, .int .u8 240, .int .u8 240, .int .u8 240, .int .u8 240, .int .u8 240, .int .u8 240, .int .u8 240, .int .u8 240, .int .u8 240, .int .u8 240, .int .u8 240, .int .u8 240, .int .u8 240, .int .u8 240, .int .u8 240, .int .u8 240, .int .u8 240, .int .u8 240, .int .u8 240, .int .u8 240, .int .u8 240, .int .u8 240, .int .u8 240, .int .u8 240, .int .u8 240, .int .u8 240, .int .u8 240, .int .u8 240, .int .u8 240, .int .u8 240, .int .u8 240, .int .u8 240, .int .u8 240, .int .u8 240, .int .u8 240, .int .u8 240, .int .u8 240, .int .u8 240, .int .u8 240, .int .u8 240, .int .u8 240, .int .u8 240, .int .u8 240, .int .u8 240, .int .u8 240, .int .u8 240, .int .u8 240, .int .u8 240, .int .u8 240, .int .u8 240, .int .u8 240, .int .u8 240, .int .u8 240, .int .u8 240, .int .u8 240, .int .u8 241, .int .u8 241, .int .u8 241, .int .u8 241, .int .u8 241, .int .u8 241, .int .u8 241, .int .u8 241, .int .u8 241, .int .u8 241, .int .u8 241, .int .u8 241, .int .u8 241, .int .u8 241, .int .u8 241, .int .u8 241, .int .u8 241, .int .u8 241, .int .u8 241, .int .u8 241, .int .u8 241, .int .u8 241, .int .u8 241, .int .u8 241, .int .u8 241, .int .u8 241, .int .u8 241, .int .u8 241, .int .u8 241, .int .u8 241, .int .u8 241, .int .u8 241, .int .u8 241, .int .u8 241, .int .u8 241, .int .u8 241, .int .u8 241, .int .u8 241, .int .u8 241, .int .u8 241, .int .u8 241, .int .u8 241, .int .u8 241, .int .u8 241, .int .u8 241, .int .u8 241, .int .u8 241, .int .u8 241, .int .u8 241, .int .u8 241, .int .u8 241, .int .u8 241, .int .u8 241, .int .u8 241, .int .u8 241, .int .u8 241, .int .u8 241, .int .u8 241, .int .u8 241, .int .u8 241, .int .u8 241, .int .u8 241, .int .u8 241, .int .u8 241, .int .u8 241, .int .u8 241, .int .u8 2, .int .u8 2, .int .u8 2, .int .u8 2, .int .u8 2, .int .u8 2, .int .u8 2, .int .u8 2, .int .u8 2, .int .u8 2, .int .u8 2, .int .u8 2, .int .u8 2, .int .u8 2, .int .u8 2, .int .u8 2, .int .u8 2, .int .u8 2, .int .u8 2, .int .u8 2, .int .u8 2, .int .u8 2, .int .u8 2, .int .u8 2, .int .u8 2, .int .u8 2, .int .u8 2, .int .u8 2, .int .u8 2, .int .u8 2, .int .u8 19, .int .u8 3, .int .u8 3, .int .u8 3, .int .u8 3, .int .u8 3, .int .u8 3, .int .u8 3, .int .u8 3, .int .u8 3, .int .u8 3, .int .u8 3, .int .u8 3, .int .u8 35, .int .u8 3, .int .u8 3, .int .u8 52, .int .u8 4, .int .u8 4, .int .u8 4, .int .u8 68, .int .u8 241, .int .u8 241, .int .u8 241, .int .u8 241, .int .u8 241, .int .u8 241, .int .u8 241, .int .u8 241, .int .u8 241, .int .u8 241, .int .u8 241]
theorem gt4_v : gv4.toList.map FV.atom = tabC nU8 gt4 := by kernel_rfl
theorem gt4_1 : gv4.toList.all (·.oneCell') = true := by kernel_rfl
def gt5 : List S_utf8_acceptRange := [S_utf8_acceptRange.mk 128 191, S_utf8_acceptRange.mk 160 191, S_utf8_acceptRange.mk 128 159, S_utf8_acceptRange.mk 144 191, S_utf8_acceptRange.mk 128 143, S_utf8_acceptRange.mk 0 0, S_utf8_acceptRange.mk 0 0, S_utf8_acceptRange.mk 0 0, S_utf8_acceptRange.mk 0 0, S_utf8_acceptRange.mk 0 0, S_utf8_acceptRange.mk 0 0, S_utf8_acceptRange.mk 0 0, S_utf8_acceptRange.mk 0 0, S_utf8_acceptRange.mk 0 0, S_utf8_acceptRange.mk 0 0, S_utf8_acceptRange.mk 0 0]
def gv5 : Array Value := #[.int .u8 128, .int .u8 191, .int .u8 160, .int .u8 191, .int .u8 128, .int .u8 159, .int .u8 144, .int .u8 191, .int .u8 128, .int .u8 143, .int .u8 0, .int .u8 0, .int .u8 0, .int .u8 0, .int .u8 0, .int .u8 0, .int .u8 0, .int .u8 0, .int .u8 0, .int .u8 0, .int .u8 0, .int .u8 0, .int .u8 0, .int .u8 0, .int .u8 0, .int .u8 0, .int .u8 0, .int .u8 0, .int .u8 0, .int .u8 0, .int .u8 0, .int .u8 0]
theorem gt5_v : gv5.toList.map FV.atom = tabC nS_utf8_acceptRange gt5 := by kernel_rfl
theorem gt5_1 : gv5.toList.all (·.oneCell') = true := by kernel_rfl
def GV : List (Nat × Array Value) := [(0, gv0), (1, gv1), (2, gv2), (4, gv4), (5, gv5)]
theorem pow_gv : powV = gv0 := by kernel_rfl
theorem itoa_gv : ∀ (n : Int), -9223372036854775808 ≤ n → n ≤ 9223372036854775807 → ∀ w : World, w.var? Tryz.prog "internal/strconv.uint64pow10" = some gv0 → Calls Tryz.prog 104 #[.int .i64 n, .int .i64 10] w fun e w' => e = .returned (.string ⟨(Lib.itoa n).toArray⟩) ∧ ∃ k os, w' = Sort.grow (w.drewN k) os := pow_gv ▸ itoa_sh
end Go.Proofs.YtfhmljjkhjifeaaGreatDoor
