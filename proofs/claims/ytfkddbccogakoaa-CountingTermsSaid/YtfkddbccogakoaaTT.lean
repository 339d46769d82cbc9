/- The types that the program uses, told. -/
import Derived.Test.YtfkddbccogakoaaMop
import Derived.Test.YtfkddbccogakoaaProg
set_option linter.unusedVariables false
set_option linter.unusedSimpArgs false
namespace Go.Proofs.Ytfkddbccogakoaa
open Go Go.RowKit
def tt2 : TD := ⟨1, 8, .int .i64, [.int .i64 0]⟩
def tt3 : TD := ⟨1, 8, .int .i64, [.int .i64 0]⟩
def tt4 : TD := ⟨1, 1, .bool, [.bool false]⟩
def tt5 : TD := ⟨1, 1, .int .u8, [.int .u8 0]⟩
def tt9 : TD := ⟨1, 16, .str, [.string ⟨#[]⟩]⟩
def tt20 : TD := ⟨1, 16, .ifc, [.nilIface]⟩
def tt22 : TD := ⟨1, 24, .slice 3, [.slice none 0 0]⟩
def tt23 : TD := ⟨1, 24, .slice 79, [.slice none 0 0]⟩
def tt24 : TD := ⟨1, 24, .slice 50, [.slice none 0 0]⟩
def tt26 : TD := ⟨4, 88, .st [(9, 0), (22, 1), (23, 2), (24, 3)], [.string ⟨#[]⟩, .slice none 0 0, .slice none 0 0, .slice none 0 0]⟩
def tt28 : TD := ⟨1, 24, .slice 30, [.slice none 0 0]⟩
def tt30 : TD := ⟨2, 32, .st [(3, 0), (28, 1)], [.int .i64 0, .slice none 0 0]⟩
def tt32 : TD := ⟨1, 8, .int .i64, [.int .i64 0]⟩
def tt39 : TD := ⟨2, 16, .arr 2 3, [.int .i64 0, .int .i64 0]⟩
def tt46 : TD := ⟨1, 24, .slice 48, [.slice none 0 0]⟩
def tt48 : TD := ⟨4, 56, .st [(3, 0), (2, 1), (9, 2), (46, 3)], [.int .i64 0, .int .i64 0, .string ⟨#[]⟩, .slice none 0 0]⟩
def tt50 : TD := ⟨9, 120, .st [(3, 0), (3, 1), (3, 2), (48, 3), (9, 7), (22, 8)], [.int .i64 0, .int .i64 0, .int .i64 0, .int .i64 0, .int .i64 0, .string ⟨#[]⟩, .slice none 0 0, .string ⟨#[]⟩, .slice none 0 0]⟩
def tt58 : TD := ⟨1, 8, .ptr 83, [.pointer none]⟩
def tt61 : TD := ⟨1, 8, .fn, [.nilFunc]⟩
def tt62 : TD := ⟨1, 24, .slice 2, [.slice none 0 0]⟩
def tt63 : TD := ⟨1, 24, .slice 62, [.slice none 0 0]⟩
def tt70 : TD := ⟨1, 8, .ptr 72, [.pointer none]⟩
def tt72 : TD := ⟨5, 112, .st [(26, 0), (22, 4)], [.string ⟨#[]⟩, .slice none 0 0, .slice none 0 0, .slice none 0 0, .slice none 0 0]⟩
def tt79 : TD := ⟨2, 24, .st [(9, 0), (3, 1)], [.string ⟨#[]⟩, .int .i64 0]⟩
def tt81 : TD := ⟨1, 8, .map 9 2, [.map none]⟩
def tt83 : TD := ⟨5, 96, .st [(26, 0), (81, 4)], [.string ⟨#[]⟩, .slice none 0 0, .slice none 0 0, .slice none 0 0, .map none]⟩
def tt89 : TD := ⟨1, 8, .map 9 4, [.map none]⟩
def tt93 : TD := ⟨1, 8, .fn, [.nilFunc]⟩
def tt101 : TD := ⟨3, 48, .st [(9, 0), (22, 1), (3, 2)], [.string ⟨#[]⟩, .slice none 0 0, .int .i64 0]⟩
def tt106 : TD := ⟨1, 24, .slice 5, [.slice none 0 0]⟩
def tt113 : TD := ⟨4, 64, .st [(101, 0), (9, 3)], [.string ⟨#[]⟩, .slice none 0 0, .int .i64 0, .string ⟨#[]⟩]⟩
def tt117 : TD := ⟨1, 24, .slice 113, [.slice none 0 0]⟩
def tt120 : TD := ⟨1, 24, .slice 122, [.slice none 0 0]⟩
def tt122 : TD := ⟨3, 48, .arr 3 9, [.string ⟨#[]⟩, .string ⟨#[]⟩, .string ⟨#[]⟩]⟩
def tt127 : TD := ⟨1, 24, .slice 117, [.slice none 0 0]⟩
def tt128 : TD := ⟨1, 24, .slice 9, [.slice none 0 0]⟩
def tt136 : TD := ⟨1, 4, .int .u32, [.int .u32 0]⟩
def TT : List (TypeId × TD) := [(2, tt2), (3, tt3), (4, tt4), (5, tt5), (9, tt9), (20, tt20), (22, tt22), (23, tt23), (24, tt24), (26, tt26), (28, tt28), (30, tt30), (32, tt32), (39, tt39), (46, tt46), (48, tt48), (50, tt50), (58, tt58), (61, tt61), (62, tt62), (63, tt63), (70, tt70), (72, tt72), (79, tt79), (81, tt81), (83, tt83), (89, tt89), (93, tt93), (101, tt101), (106, tt106), (113, tt113), (117, tt117), (120, tt120), (122, tt122), (127, tt127), (128, tt128), (136, tt136)]
theorem tt2_ok : TdOk Try.prog 2 tt2 := ⟨⟨_, _, show Try.prog.info? 2 = some Try.t2 from by kernel_rfl, by kernel_rfl, by kernel_rfl, rfl, rfl⟩, _, Try.underlying2, by simp [kindOk, tt2]⟩
theorem tt3_ok : TdOk Try.prog 3 tt3 := ⟨⟨_, _, show Try.prog.info? 3 = some Try.t3 from by kernel_rfl, by kernel_rfl, by kernel_rfl, rfl, rfl⟩, _, Try.underlying3, by simp [kindOk, tt3]⟩
theorem tt4_ok : TdOk Try.prog 4 tt4 := ⟨⟨_, _, show Try.prog.info? 4 = some Try.t4 from by kernel_rfl, by kernel_rfl, by kernel_rfl, rfl, rfl⟩, _, Try.underlying4, by simp [kindOk, tt4]⟩
theorem tt5_ok : TdOk Try.prog 5 tt5 := ⟨⟨_, _, show Try.prog.info? 5 = some Try.t5 from by kernel_rfl, by kernel_rfl, by kernel_rfl, rfl, rfl⟩, _, Try.underlying5, by simp [kindOk, tt5]⟩
theorem tt9_ok : TdOk Try.prog 9 tt9 := ⟨⟨_, _, show Try.prog.info? 9 = some Try.t9 from by kernel_rfl, by kernel_rfl, by kernel_rfl, rfl, rfl⟩, _, Try.underlying9, by simp [kindOk, tt9]⟩
theorem tt20_ok : TdOk Try.prog 20 tt20 := ⟨⟨_, _, show Try.prog.info? 20 = some Try.t20 from by kernel_rfl, by kernel_rfl, by kernel_rfl, rfl, rfl⟩, _, Try.underlying20, by simp [kindOk, tt20]⟩
theorem tt22_ok : TdOk Try.prog 22 tt22 := ⟨⟨_, _, show Try.prog.info? 22 = some Try.t22 from by kernel_rfl, by kernel_rfl, by kernel_rfl, rfl, rfl⟩, _, Try.underlying22, by simp [kindOk, tt22]⟩
theorem tt23_ok : TdOk Try.prog 23 tt23 := ⟨⟨_, _, show Try.prog.info? 23 = some Try.t23 from by kernel_rfl, by kernel_rfl, by kernel_rfl, rfl, rfl⟩, _, Try.underlying23, by simp [kindOk, tt23]⟩
theorem tt24_ok : TdOk Try.prog 24 tt24 := ⟨⟨_, _, show Try.prog.info? 24 = some Try.t24 from by kernel_rfl, by kernel_rfl, by kernel_rfl, rfl, rfl⟩, _, Try.underlying24, by simp [kindOk, tt24]⟩
theorem tt26_ok : TdOk Try.prog 26 tt26 := ⟨⟨_, _, show Try.prog.info? 26 = some Try.t26 from by kernel_rfl, by kernel_rfl, by kernel_rfl, rfl, rfl⟩, _, Try.underlying26, by simp [kindOk, tt26]⟩
theorem tt28_ok : TdOk Try.prog 28 tt28 := ⟨⟨_, _, show Try.prog.info? 28 = some Try.t28 from by kernel_rfl, by kernel_rfl, by kernel_rfl, rfl, rfl⟩, _, Try.underlying28, by simp [kindOk, tt28]⟩
theorem tt30_ok : TdOk Try.prog 30 tt30 := ⟨⟨_, _, show Try.prog.info? 30 = some Try.t30 from by kernel_rfl, by kernel_rfl, by kernel_rfl, rfl, rfl⟩, _, Try.underlying30, by simp [kindOk, tt30]⟩
theorem tt32_ok : TdOk Try.prog 32 tt32 := ⟨⟨_, _, show Try.prog.info? 32 = some Try.t32 from by kernel_rfl, by kernel_rfl, by kernel_rfl, rfl, rfl⟩, _, Try.underlying32, by simp [kindOk, tt32]⟩
theorem tt39_ok : TdOk Try.prog 39 tt39 := ⟨⟨_, _, show Try.prog.info? 39 = some Try.t39 from by kernel_rfl, by kernel_rfl, by kernel_rfl, rfl, rfl⟩, _, Try.underlying39, by simp [kindOk, tt39]⟩
theorem tt46_ok : TdOk Try.prog 46 tt46 := ⟨⟨_, _, show Try.prog.info? 46 = some Try.t46 from by kernel_rfl, by kernel_rfl, by kernel_rfl, rfl, rfl⟩, _, Try.underlying46, by simp [kindOk, tt46]⟩
theorem tt48_ok : TdOk Try.prog 48 tt48 := ⟨⟨_, _, show Try.prog.info? 48 = some Try.t48 from by kernel_rfl, by kernel_rfl, by kernel_rfl, rfl, rfl⟩, _, Try.underlying48, by simp [kindOk, tt48]⟩
theorem tt50_ok : TdOk Try.prog 50 tt50 := ⟨⟨_, _, show Try.prog.info? 50 = some Try.t50 from by kernel_rfl, by kernel_rfl, by kernel_rfl, rfl, rfl⟩, _, Try.underlying50, by simp [kindOk, tt50]⟩
theorem tt58_ok : TdOk Try.prog 58 tt58 := ⟨⟨_, _, show Try.prog.info? 58 = some Try.t58 from by kernel_rfl, by kernel_rfl, by kernel_rfl, rfl, rfl⟩, _, Try.underlying58, by simp [kindOk, tt58]⟩
theorem tt61_ok : TdOk Try.prog 61 tt61 := ⟨⟨_, _, show Try.prog.info? 61 = some Try.t61 from by kernel_rfl, by kernel_rfl, by kernel_rfl, rfl, rfl⟩, _, Try.underlying61, by simp [kindOk, tt61]⟩
theorem tt62_ok : TdOk Try.prog 62 tt62 := ⟨⟨_, _, show Try.prog.info? 62 = some Try.t62 from by kernel_rfl, by kernel_rfl, by kernel_rfl, rfl, rfl⟩, _, Try.underlying62, by simp [kindOk, tt62]⟩
theorem tt63_ok : TdOk Try.prog 63 tt63 := ⟨⟨_, _, show Try.prog.info? 63 = some Try.t63 from by kernel_rfl, by kernel_rfl, by kernel_rfl, rfl, rfl⟩, _, Try.underlying63, by simp [kindOk, tt63]⟩
theorem tt70_ok : TdOk Try.prog 70 tt70 := ⟨⟨_, _, show Try.prog.info? 70 = some Try.t70 from by kernel_rfl, by kernel_rfl, by kernel_rfl, rfl, rfl⟩, _, Try.underlying70, by simp [kindOk, tt70]⟩
theorem tt72_ok : TdOk Try.prog 72 tt72 := ⟨⟨_, _, show Try.prog.info? 72 = some Try.t72 from by kernel_rfl, by kernel_rfl, by kernel_rfl, rfl, rfl⟩, _, Try.underlying72, by simp [kindOk, tt72]⟩
theorem tt79_ok : TdOk Try.prog 79 tt79 := ⟨⟨_, _, show Try.prog.info? 79 = some Try.t79 from by kernel_rfl, by kernel_rfl, by kernel_rfl, rfl, rfl⟩, _, Try.underlying79, by simp [kindOk, tt79]⟩
theorem tt81_ok : TdOk Try.prog 81 tt81 := ⟨⟨_, _, show Try.prog.info? 81 = some Try.t81 from by kernel_rfl, by kernel_rfl, by kernel_rfl, rfl, rfl⟩, _, Try.underlying81, by simp [kindOk, tt81]⟩
theorem tt83_ok : TdOk Try.prog 83 tt83 := ⟨⟨_, _, show Try.prog.info? 83 = some Try.t83 from by kernel_rfl, by kernel_rfl, by kernel_rfl, rfl, rfl⟩, _, Try.underlying83, by simp [kindOk, tt83]⟩
theorem tt89_ok : TdOk Try.prog 89 tt89 := ⟨⟨_, _, show Try.prog.info? 89 = some Try.t89 from by kernel_rfl, by kernel_rfl, by kernel_rfl, rfl, rfl⟩, _, Try.underlying89, by simp [kindOk, tt89]⟩
theorem tt93_ok : TdOk Try.prog 93 tt93 := ⟨⟨_, _, show Try.prog.info? 93 = some Try.t93 from by kernel_rfl, by kernel_rfl, by kernel_rfl, rfl, rfl⟩, _, Try.underlying93, by simp [kindOk, tt93]⟩
theorem tt101_ok : TdOk Try.prog 101 tt101 := ⟨⟨_, _, show Try.prog.info? 101 = some Try.t101 from by kernel_rfl, by kernel_rfl, by kernel_rfl, rfl, rfl⟩, _, Try.underlying101, by simp [kindOk, tt101]⟩
theorem tt106_ok : TdOk Try.prog 106 tt106 := ⟨⟨_, _, show Try.prog.info? 106 = some Try.t106 from by kernel_rfl, by kernel_rfl, by kernel_rfl, rfl, rfl⟩, _, Try.underlying106, by simp [kindOk, tt106]⟩
theorem tt113_ok : TdOk Try.prog 113 tt113 := ⟨⟨_, _, show Try.prog.info? 113 = some Try.t113 from by kernel_rfl, by kernel_rfl, by kernel_rfl, rfl, rfl⟩, _, Try.underlying113, by simp [kindOk, tt113]⟩
theorem tt117_ok : TdOk Try.prog 117 tt117 := ⟨⟨_, _, show Try.prog.info? 117 = some Try.t117 from by kernel_rfl, by kernel_rfl, by kernel_rfl, rfl, rfl⟩, _, Try.underlying117, by simp [kindOk, tt117]⟩
theorem tt120_ok : TdOk Try.prog 120 tt120 := ⟨⟨_, _, show Try.prog.info? 120 = some Try.t120 from by kernel_rfl, by kernel_rfl, by kernel_rfl, rfl, rfl⟩, _, Try.underlying120, by simp [kindOk, tt120]⟩
theorem tt122_ok : TdOk Try.prog 122 tt122 := ⟨⟨_, _, show Try.prog.info? 122 = some Try.t122 from by kernel_rfl, by kernel_rfl, by kernel_rfl, rfl, rfl⟩, _, Try.underlying122, by simp [kindOk, tt122]⟩
theorem tt127_ok : TdOk Try.prog 127 tt127 := ⟨⟨_, _, show Try.prog.info? 127 = some Try.t127 from by kernel_rfl, by kernel_rfl, by kernel_rfl, rfl, rfl⟩, _, Try.underlying127, by simp [kindOk, tt127]⟩
theorem tt128_ok : TdOk Try.prog 128 tt128 := ⟨⟨_, _, show Try.prog.info? 128 = some Try.t128 from by kernel_rfl, by kernel_rfl, by kernel_rfl, rfl, rfl⟩, _, Try.underlying128, by simp [kindOk, tt128]⟩
theorem tt136_ok : TdOk Try.prog 136 tt136 := ⟨⟨_, _, show Try.prog.info? 136 = some Try.t136 from by kernel_rfl, by kernel_rfl, by kernel_rfl, rfl, rfl⟩, _, Try.underlying136, by simp [kindOk, tt136]⟩
theorem tt_ok : TOk Try.prog TT := by
  intro p hp
  simp only [TT, List.mem_cons, List.not_mem_nil, or_false] at hp
  rcases hp with rfl | rfl | rfl | rfl | rfl | rfl | rfl | rfl | rfl | rfl | rfl | rfl | rfl | rfl | rfl | rfl | rfl | rfl | rfl | rfl | rfl | rfl | rfl | rfl | rfl | rfl | rfl | rfl | rfl | rfl | rfl | rfl | rfl | rfl | rfl | rfl | rfl
  · exact tt2_ok
  · exact tt3_ok
  · exact tt4_ok
  · exact tt5_ok
  · exact tt9_ok
  · exact tt20_ok
  · exact tt22_ok
  · exact tt23_ok
  · exact tt24_ok
  · exact tt26_ok
  · exact tt28_ok
  · exact tt30_ok
  · exact tt32_ok
  · exact tt39_ok
  · exact tt46_ok
  · exact tt48_ok
  · exact tt50_ok
  · exact tt58_ok
  · exact tt61_ok
  · exact tt62_ok
  · exact tt63_ok
  · exact tt70_ok
  · exact tt72_ok
  · exact tt79_ok
  · exact tt81_ok
  · exact tt83_ok
  · exact tt89_ok
  · exact tt93_ok
  · exact tt101_ok
  · exact tt106_ok
  · exact tt113_ok
  · exact tt117_ok
  · exact tt120_ok
  · exact tt122_ok
  · exact tt127_ok
  · exact tt128_ok
  · exact tt136_ok
instance tabP : Tab Try.prog := ⟨TT, tt_ok, by kernel_rfl⟩
end Go.Proofs.Ytfkddbccogakoaa
