/- The types that the program uses, told. -/
import Derived.Test.YtaeicmnimjfbaaaMop
import Derived.Test.YtaeicmnimjfbaaaProg
set_option linter.unusedVariables false
set_option linter.unusedSimpArgs false
namespace Go.Proofs.Ytaeicmnimjfbaaa
open Go Go.RowKit
def tt2 : TD := ⟨1, 8, .int .i64, [.int .i64 0]⟩
def tt3 : TD := ⟨1, 8, .int .i64, [.int .i64 0]⟩
def tt4 : TD := ⟨1, 1, .bool, [.bool false]⟩
def tt5 : TD := ⟨1, 1, .int .u8, [.int .u8 0]⟩
def tt9 : TD := ⟨1, 16, .str, [.string ⟨#[]⟩]⟩
def tt20 : TD := ⟨1, 16, .ifc, [.nilIface]⟩
def tt23 : TD := ⟨1, 24, .slice 3, [.slice none 0 0]⟩
def tt24 : TD := ⟨1, 24, .slice 72, [.slice none 0 0]⟩
def tt25 : TD := ⟨1, 24, .slice 67, [.slice none 0 0]⟩
def tt27 : TD := ⟨4, 88, .st [(9, 0), (23, 1), (24, 2), (25, 3)], [.string ⟨#[]⟩, .slice none 0 0, .slice none 0 0, .slice none 0 0]⟩
def tt28 : TD := ⟨1, 8, .int .i64, [.int .i64 0]⟩
def tt32 : TD := ⟨1, 24, .slice 9, [.slice none 0 0]⟩
def tt35 : TD := ⟨1, 24, .slice 2, [.slice none 0 0]⟩
def tt40 : TD := ⟨1, 24, .slice 42, [.slice none 0 0]⟩
def tt42 : TD := ⟨2, 32, .st [(3, 0), (40, 1)], [.int .i64 0, .slice none 0 0]⟩
def tt58 : TD := ⟨2, 16, .arr 2 3, [.int .i64 0, .int .i64 0]⟩
def tt63 : TD := ⟨1, 24, .slice 65, [.slice none 0 0]⟩
def tt65 : TD := ⟨4, 56, .st [(3, 0), (2, 1), (9, 2), (63, 3)], [.int .i64 0, .int .i64 0, .string ⟨#[]⟩, .slice none 0 0]⟩
def tt67 : TD := ⟨9, 120, .st [(3, 0), (3, 1), (3, 2), (65, 3), (9, 7), (23, 8)], [.int .i64 0, .int .i64 0, .int .i64 0, .int .i64 0, .int .i64 0, .string ⟨#[]⟩, .slice none 0 0, .string ⟨#[]⟩, .slice none 0 0]⟩
def tt72 : TD := ⟨2, 24, .st [(9, 0), (3, 1)], [.string ⟨#[]⟩, .int .i64 0]⟩
def tt77 : TD := ⟨1, 8, .ptr 83, [.pointer none]⟩
def tt83 : TD := ⟨4, 88, .st [(27, 0)], [.string ⟨#[]⟩, .slice none 0 0, .slice none 0 0, .slice none 0 0]⟩
def tt85 : TD := ⟨1, 8, .ptr 91, [.pointer none]⟩
def tt91 : TD := ⟨4, 88, .st [(27, 0)], [.string ⟨#[]⟩, .slice none 0 0, .slice none 0 0, .slice none 0 0]⟩
def tt97 : TD := ⟨1, 8, .fn, [.nilFunc]⟩
def tt99 : TD := ⟨1, 8, .st [(28, 0)], [.int .i64 0]⟩
def tt101 : TD := ⟨1, 8, .ptr 103, [.pointer none]⟩
def tt103 : TD := ⟨5, 112, .st [(27, 0), (23, 4)], [.string ⟨#[]⟩, .slice none 0 0, .slice none 0 0, .slice none 0 0, .slice none 0 0]⟩
def tt114 : TD := ⟨1, 8, .ptr 157, [.pointer none]⟩
def tt117 : TD := ⟨1, 8, .fn, [.nilFunc]⟩
def tt118 : TD := ⟨1, 24, .slice 35, [.slice none 0 0]⟩
def tt124 : TD := ⟨1, 8, .ptr 126, [.pointer none]⟩
def tt126 : TD := ⟨5, 112, .st [(27, 0), (23, 4)], [.string ⟨#[]⟩, .slice none 0 0, .slice none 0 0, .slice none 0 0, .slice none 0 0]⟩
def tt131 : TD := ⟨1, 24, .slice 4, [.slice none 0 0]⟩
def tt135 : TD := ⟨1, 8, .ptr 138, [.pointer none]⟩
def tt136 : TD := ⟨1, 24, .slice 5, [.slice none 0 0]⟩
def tt138 : TD := ⟨2, 32, .st [(135, 0), (136, 1)], [.pointer none, .slice none 0 0]⟩
def tt149 : TD := ⟨1, 8, .map 9 4, [.map none]⟩
def tt152 : TD := ⟨1, 8, .fn, [.nilFunc]⟩
def tt155 : TD := ⟨1, 8, .map 9 2, [.map none]⟩
def tt157 : TD := ⟨5, 96, .st [(27, 0), (155, 4)], [.string ⟨#[]⟩, .slice none 0 0, .slice none 0 0, .slice none 0 0, .map none]⟩
def tt167 : TD := ⟨1, 8, .ptr 5, [.pointer none]⟩
def tt171 : TD := ⟨3, 48, .st [(9, 0), (23, 1), (3, 2)], [.string ⟨#[]⟩, .slice none 0 0, .int .i64 0]⟩
def tt182 : TD := ⟨4, 64, .st [(171, 0), (9, 3)], [.string ⟨#[]⟩, .slice none 0 0, .int .i64 0, .string ⟨#[]⟩]⟩
def tt185 : TD := ⟨1, 24, .slice 182, [.slice none 0 0]⟩
def tt187 : TD := ⟨1, 24, .slice 189, [.slice none 0 0]⟩
def tt189 : TD := ⟨3, 48, .arr 3 9, [.string ⟨#[]⟩, .string ⟨#[]⟩, .string ⟨#[]⟩]⟩
def tt192 : TD := ⟨1, 24, .slice 185, [.slice none 0 0]⟩
def tt198 : TD := ⟨1, 4, .int .u32, [.int .u32 0]⟩
def TT : List (TypeId × TD) := [(2, tt2), (3, tt3), (4, tt4), (5, tt5), (9, tt9), (20, tt20), (23, tt23), (24, tt24), (25, tt25), (27, tt27), (28, tt28), (32, tt32), (35, tt35), (40, tt40), (42, tt42), (58, tt58), (63, tt63), (65, tt65), (67, tt67), (72, tt72), (77, tt77), (83, tt83), (85, tt85), (91, tt91), (97, tt97), (99, tt99), (101, tt101), (103, tt103), (114, tt114), (117, tt117), (118, tt118), (124, tt124), (126, tt126), (131, tt131), (135, tt135), (136, tt136), (138, tt138), (149, tt149), (152, tt152), (155, tt155), (157, tt157), (167, tt167), (171, tt171), (182, tt182), (185, tt185), (187, tt187), (189, tt189), (192, tt192), (198, tt198)]
theorem tt2_ok : TdOk Try.prog 2 tt2 := ⟨⟨_, _, show Try.prog.info? 2 = some Try.t2 from by kernel_rfl, by kernel_rfl, by kernel_rfl, rfl, rfl⟩, _, Try.underlying2, by simp [kindOk, tt2]⟩
theorem tt3_ok : TdOk Try.prog 3 tt3 := ⟨⟨_, _, show Try.prog.info? 3 = some Try.t3 from by kernel_rfl, by kernel_rfl, by kernel_rfl, rfl, rfl⟩, _, Try.underlying3, by simp [kindOk, tt3]⟩
theorem tt4_ok : TdOk Try.prog 4 tt4 := ⟨⟨_, _, show Try.prog.info? 4 = some Try.t4 from by kernel_rfl, by kernel_rfl, by kernel_rfl, rfl, rfl⟩, _, Try.underlying4, by simp [kindOk, tt4]⟩
theorem tt5_ok : TdOk Try.prog 5 tt5 := ⟨⟨_, _, show Try.prog.info? 5 = some Try.t5 from by kernel_rfl, by kernel_rfl, by kernel_rfl, rfl, rfl⟩, _, Try.underlying5, by simp [kindOk, tt5]⟩
theorem tt9_ok : TdOk Try.prog 9 tt9 := ⟨⟨_, _, show Try.prog.info? 9 = some Try.t9 from by kernel_rfl, by kernel_rfl, by kernel_rfl, rfl, rfl⟩, _, Try.underlying9, by simp [kindOk, tt9]⟩
theorem tt20_ok : TdOk Try.prog 20 tt20 := ⟨⟨_, _, show Try.prog.info? 20 = some Try.t20 from by kernel_rfl, by kernel_rfl, by kernel_rfl, rfl, rfl⟩, _, Try.underlying20, by simp [kindOk, tt20]⟩
theorem tt23_ok : TdOk Try.prog 23 tt23 := ⟨⟨_, _, show Try.prog.info? 23 = some Try.t23 from by kernel_rfl, by kernel_rfl, by kernel_rfl, rfl, rfl⟩, _, Try.underlying23, by simp [kindOk, tt23]⟩
theorem tt24_ok : TdOk Try.prog 24 tt24 := ⟨⟨_, _, show Try.prog.info? 24 = some Try.t24 from by kernel_rfl, by kernel_rfl, by kernel_rfl, rfl, rfl⟩, _, Try.underlying24, by simp [kindOk, tt24]⟩
theorem tt25_ok : TdOk Try.prog 25 tt25 := ⟨⟨_, _, show Try.prog.info? 25 = some Try.t25 from by kernel_rfl, by kernel_rfl, by kernel_rfl, rfl, rfl⟩, _, Try.underlying25, by simp [kindOk, tt25]⟩
theorem tt27_ok : TdOk Try.prog 27 tt27 := ⟨⟨_, _, show Try.prog.info? 27 = some Try.t27 from by kernel_rfl, by kernel_rfl, by kernel_rfl, rfl, rfl⟩, _, Try.underlying27, by simp [kindOk, tt27]⟩
theorem tt28_ok : TdOk Try.prog 28 tt28 := ⟨⟨_, _, show Try.prog.info? 28 = some Try.t28 from by kernel_rfl, by kernel_rfl, by kernel_rfl, rfl, rfl⟩, _, Try.underlying28, by simp [kindOk, tt28]⟩
theorem tt32_ok : TdOk Try.prog 32 tt32 := ⟨⟨_, _, show Try.prog.info? 32 = some Try.t32 from by kernel_rfl, by kernel_rfl, by kernel_rfl, rfl, rfl⟩, _, Try.underlying32, by simp [kindOk, tt32]⟩
theorem tt35_ok : TdOk Try.prog 35 tt35 := ⟨⟨_, _, show Try.prog.info? 35 = some Try.t35 from by kernel_rfl, by kernel_rfl, by kernel_rfl, rfl, rfl⟩, _, Try.underlying35, by simp [kindOk, tt35]⟩
theorem tt40_ok : TdOk Try.prog 40 tt40 := ⟨⟨_, _, show Try.prog.info? 40 = some Try.t40 from by kernel_rfl, by kernel_rfl, by kernel_rfl, rfl, rfl⟩, _, Try.underlying40, by simp [kindOk, tt40]⟩
theorem tt42_ok : TdOk Try.prog 42 tt42 := ⟨⟨_, _, show Try.prog.info? 42 = some Try.t42 from by kernel_rfl, by kernel_rfl, by kernel_rfl, rfl, rfl⟩, _, Try.underlying42, by simp [kindOk, tt42]⟩
theorem tt58_ok : TdOk Try.prog 58 tt58 := ⟨⟨_, _, show Try.prog.info? 58 = some Try.t58 from by kernel_rfl, by kernel_rfl, by kernel_rfl, rfl, rfl⟩, _, Try.underlying58, by simp [kindOk, tt58]⟩
theorem tt63_ok : TdOk Try.prog 63 tt63 := ⟨⟨_, _, show Try.prog.info? 63 = some Try.t63 from by kernel_rfl, by kernel_rfl, by kernel_rfl, rfl, rfl⟩, _, Try.underlying63, by simp [kindOk, tt63]⟩
theorem tt65_ok : TdOk Try.prog 65 tt65 := ⟨⟨_, _, show Try.prog.info? 65 = some Try.t65 from by kernel_rfl, by kernel_rfl, by kernel_rfl, rfl, rfl⟩, _, Try.underlying65, by simp [kindOk, tt65]⟩
theorem tt67_ok : TdOk Try.prog 67 tt67 := ⟨⟨_, _, show Try.prog.info? 67 = some Try.t67 from by kernel_rfl, by kernel_rfl, by kernel_rfl, rfl, rfl⟩, _, Try.underlying67, by simp [kindOk, tt67]⟩
theorem tt72_ok : TdOk Try.prog 72 tt72 := ⟨⟨_, _, show Try.prog.info? 72 = some Try.t72 from by kernel_rfl, by kernel_rfl, by kernel_rfl, rfl, rfl⟩, _, Try.underlying72, by simp [kindOk, tt72]⟩
theorem tt77_ok : TdOk Try.prog 77 tt77 := ⟨⟨_, _, show Try.prog.info? 77 = some Try.t77 from by kernel_rfl, by kernel_rfl, by kernel_rfl, rfl, rfl⟩, _, Try.underlying77, by simp [kindOk, tt77]⟩
theorem tt83_ok : TdOk Try.prog 83 tt83 := ⟨⟨_, _, show Try.prog.info? 83 = some Try.t83 from by kernel_rfl, by kernel_rfl, by kernel_rfl, rfl, rfl⟩, _, Try.underlying83, by simp [kindOk, tt83]⟩
theorem tt85_ok : TdOk Try.prog 85 tt85 := ⟨⟨_, _, show Try.prog.info? 85 = some Try.t85 from by kernel_rfl, by kernel_rfl, by kernel_rfl, rfl, rfl⟩, _, Try.underlying85, by simp [kindOk, tt85]⟩
theorem tt91_ok : TdOk Try.prog 91 tt91 := ⟨⟨_, _, show Try.prog.info? 91 = some Try.t91 from by kernel_rfl, by kernel_rfl, by kernel_rfl, rfl, rfl⟩, _, Try.underlying91, by simp [kindOk, tt91]⟩
theorem tt97_ok : TdOk Try.prog 97 tt97 := ⟨⟨_, _, show Try.prog.info? 97 = some Try.t97 from by kernel_rfl, by kernel_rfl, by kernel_rfl, rfl, rfl⟩, _, Try.underlying97, by simp [kindOk, tt97]⟩
theorem tt99_ok : TdOk Try.prog 99 tt99 := ⟨⟨_, _, show Try.prog.info? 99 = some Try.t99 from by kernel_rfl, by kernel_rfl, by kernel_rfl, rfl, rfl⟩, _, Try.underlying99, by simp [kindOk, tt99]⟩
theorem tt101_ok : TdOk Try.prog 101 tt101 := ⟨⟨_, _, show Try.prog.info? 101 = some Try.t101 from by kernel_rfl, by kernel_rfl, by kernel_rfl, rfl, rfl⟩, _, Try.underlying101, by simp [kindOk, tt101]⟩
theorem tt103_ok : TdOk Try.prog 103 tt103 := ⟨⟨_, _, show Try.prog.info? 103 = some Try.t103 from by kernel_rfl, by kernel_rfl, by kernel_rfl, rfl, rfl⟩, _, Try.underlying103, by simp [kindOk, tt103]⟩
theorem tt114_ok : TdOk Try.prog 114 tt114 := ⟨⟨_, _, show Try.prog.info? 114 = some Try.t114 from by kernel_rfl, by kernel_rfl, by kernel_rfl, rfl, rfl⟩, _, Try.underlying114, by simp [kindOk, tt114]⟩
theorem tt117_ok : TdOk Try.prog 117 tt117 := ⟨⟨_, _, show Try.prog.info? 117 = some Try.t117 from by kernel_rfl, by kernel_rfl, by kernel_rfl, rfl, rfl⟩, _, Try.underlying117, by simp [kindOk, tt117]⟩
theorem tt118_ok : TdOk Try.prog 118 tt118 := ⟨⟨_, _, show Try.prog.info? 118 = some Try.t118 from by kernel_rfl, by kernel_rfl, by kernel_rfl, rfl, rfl⟩, _, Try.underlying118, by simp [kindOk, tt118]⟩
theorem tt124_ok : TdOk Try.prog 124 tt124 := ⟨⟨_, _, show Try.prog.info? 124 = some Try.t124 from by kernel_rfl, by kernel_rfl, by kernel_rfl, rfl, rfl⟩, _, Try.underlying124, by simp [kindOk, tt124]⟩
theorem tt126_ok : TdOk Try.prog 126 tt126 := ⟨⟨_, _, show Try.prog.info? 126 = some Try.t126 from by kernel_rfl, by kernel_rfl, by kernel_rfl, rfl, rfl⟩, _, Try.underlying126, by simp [kindOk, tt126]⟩
theorem tt131_ok : TdOk Try.prog 131 tt131 := ⟨⟨_, _, show Try.prog.info? 131 = some Try.t131 from by kernel_rfl, by kernel_rfl, by kernel_rfl, rfl, rfl⟩, _, Try.underlying131, by simp [kindOk, tt131]⟩
theorem tt135_ok : TdOk Try.prog 135 tt135 := ⟨⟨_, _, show Try.prog.info? 135 = some Try.t135 from by kernel_rfl, by kernel_rfl, by kernel_rfl, rfl, rfl⟩, _, Try.underlying135, by simp [kindOk, tt135]⟩
theorem tt136_ok : TdOk Try.prog 136 tt136 := ⟨⟨_, _, show Try.prog.info? 136 = some Try.t136 from by kernel_rfl, by kernel_rfl, by kernel_rfl, rfl, rfl⟩, _, Try.underlying136, by simp [kindOk, tt136]⟩
theorem tt138_ok : TdOk Try.prog 138 tt138 := ⟨⟨_, _, show Try.prog.info? 138 = some Try.t138 from by kernel_rfl, by kernel_rfl, by kernel_rfl, rfl, rfl⟩, _, Try.underlying138, by simp [kindOk, tt138]⟩
theorem tt149_ok : TdOk Try.prog 149 tt149 := ⟨⟨_, _, show Try.prog.info? 149 = some Try.t149 from by kernel_rfl, by kernel_rfl, by kernel_rfl, rfl, rfl⟩, _, Try.underlying149, by simp [kindOk, tt149]⟩
theorem tt152_ok : TdOk Try.prog 152 tt152 := ⟨⟨_, _, show Try.prog.info? 152 = some Try.t152 from by kernel_rfl, by kernel_rfl, by kernel_rfl, rfl, rfl⟩, _, Try.underlying152, by simp [kindOk, tt152]⟩
theorem tt155_ok : TdOk Try.prog 155 tt155 := ⟨⟨_, _, show Try.prog.info? 155 = some Try.t155 from by kernel_rfl, by kernel_rfl, by kernel_rfl, rfl, rfl⟩, _, Try.underlying155, by simp [kindOk, tt155]⟩
theorem tt157_ok : TdOk Try.prog 157 tt157 := ⟨⟨_, _, show Try.prog.info? 157 = some Try.t157 from by kernel_rfl, by kernel_rfl, by kernel_rfl, rfl, rfl⟩, _, Try.underlying157, by simp [kindOk, tt157]⟩
theorem tt167_ok : TdOk Try.prog 167 tt167 := ⟨⟨_, _, show Try.prog.info? 167 = some Try.t167 from by kernel_rfl, by kernel_rfl, by kernel_rfl, rfl, rfl⟩, _, Try.underlying167, by simp [kindOk, tt167]⟩
theorem tt171_ok : TdOk Try.prog 171 tt171 := ⟨⟨_, _, show Try.prog.info? 171 = some Try.t171 from by kernel_rfl, by kernel_rfl, by kernel_rfl, rfl, rfl⟩, _, Try.underlying171, by simp [kindOk, tt171]⟩
theorem tt182_ok : TdOk Try.prog 182 tt182 := ⟨⟨_, _, show Try.prog.info? 182 = some Try.t182 from by kernel_rfl, by kernel_rfl, by kernel_rfl, rfl, rfl⟩, _, Try.underlying182, by simp [kindOk, tt182]⟩
theorem tt185_ok : TdOk Try.prog 185 tt185 := ⟨⟨_, _, show Try.prog.info? 185 = some Try.t185 from by kernel_rfl, by kernel_rfl, by kernel_rfl, rfl, rfl⟩, _, Try.underlying185, by simp [kindOk, tt185]⟩
theorem tt187_ok : TdOk Try.prog 187 tt187 := ⟨⟨_, _, show Try.prog.info? 187 = some Try.t187 from by kernel_rfl, by kernel_rfl, by kernel_rfl, rfl, rfl⟩, _, Try.underlying187, by simp [kindOk, tt187]⟩
theorem tt189_ok : TdOk Try.prog 189 tt189 := ⟨⟨_, _, show Try.prog.info? 189 = some Try.t189 from by kernel_rfl, by kernel_rfl, by kernel_rfl, rfl, rfl⟩, _, Try.underlying189, by simp [kindOk, tt189]⟩
theorem tt192_ok : TdOk Try.prog 192 tt192 := ⟨⟨_, _, show Try.prog.info? 192 = some Try.t192 from by kernel_rfl, by kernel_rfl, by kernel_rfl, rfl, rfl⟩, _, Try.underlying192, by simp [kindOk, tt192]⟩
theorem tt198_ok : TdOk Try.prog 198 tt198 := ⟨⟨_, _, show Try.prog.info? 198 = some Try.t198 from by kernel_rfl, by kernel_rfl, by kernel_rfl, rfl, rfl⟩, _, Try.underlying198, by simp [kindOk, tt198]⟩
theorem tt_ok : TOk Try.prog TT := by
  intro p hp
  simp only [TT, List.mem_cons, List.not_mem_nil, or_false] at hp
  rcases hp with rfl | rfl | rfl | rfl | rfl | rfl | rfl | rfl | rfl | rfl | rfl | rfl | rfl | rfl | rfl | rfl | rfl | rfl | rfl | rfl | rfl | rfl | rfl | rfl | rfl | rfl | rfl | rfl | rfl | rfl | rfl | rfl | rfl | rfl | rfl | rfl | rfl | rfl | rfl | rfl | rfl | rfl | rfl | rfl | rfl | rfl | rfl | rfl | rfl
  · exact tt2_ok
  · exact tt3_ok
  · exact tt4_ok
  · exact tt5_ok
  · exact tt9_ok
  · exact tt20_ok
  · exact tt23_ok
  · exact tt24_ok
  · exact tt25_ok
  · exact tt27_ok
  · exact tt28_ok
  · exact tt32_ok
  · exact tt35_ok
  · exact tt40_ok
  · exact tt42_ok
  · exact tt58_ok
  · exact tt63_ok
  · exact tt65_ok
  · exact tt67_ok
  · exact tt72_ok
  · exact tt77_ok
  · exact tt83_ok
  · exact tt85_ok
  · exact tt91_ok
  · exact tt97_ok
  · exact tt99_ok
  · exact tt101_ok
  · exact tt103_ok
  · exact tt114_ok
  · exact tt117_ok
  · exact tt118_ok
  · exact tt124_ok
  · exact tt126_ok
  · exact tt131_ok
  · exact tt135_ok
  · exact tt136_ok
  · exact tt138_ok
  · exact tt149_ok
  · exact tt152_ok
  · exact tt155_ok
  · exact tt157_ok
  · exact tt167_ok
  · exact tt171_ok
  · exact tt182_ok
  · exact tt185_ok
  · exact tt187_ok
  · exact tt189_ok
  · exact tt192_ok
  · exact tt198_ok
instance tabP : Tab Try.prog := ⟨TT, tt_ok, by kernel_rfl⟩
end Go.Proofs.Ytaeicmnimjfbaaa
