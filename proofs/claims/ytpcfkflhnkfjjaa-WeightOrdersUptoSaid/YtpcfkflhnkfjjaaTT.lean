/- The types that the program uses, told. -/
import Derived.Test.YtpcfkflhnkfjjaaMop
import Derived.Test.YtpcfkflhnkfjjaaProg
set_option linter.unusedVariables false
set_option linter.unusedSimpArgs false
namespace Go.Proofs.Ytpcfkflhnkfjjaa
open Go Go.RowKit
def tt2 : TD := ⟨1, 8, .int .i64, [.int .i64 0]⟩
def tt3 : TD := ⟨1, 8, .int .i64, [.int .i64 0]⟩
def tt4 : TD := ⟨1, 1, .bool, [.bool false]⟩
def tt5 : TD := ⟨1, 1, .int .u8, [.int .u8 0]⟩
def tt9 : TD := ⟨1, 16, .str, [.string ⟨#[]⟩]⟩
def tt22 : TD := ⟨1, 24, .slice 3, [.slice none 0 0]⟩
def tt23 : TD := ⟨1, 24, .slice 58, [.slice none 0 0]⟩
def tt24 : TD := ⟨1, 24, .slice 55, [.slice none 0 0]⟩
def tt26 : TD := ⟨4, 88, .st [(9, 0), (22, 1), (23, 2), (24, 3)], [.string ⟨#[]⟩, .slice none 0 0, .slice none 0 0, .slice none 0 0]⟩
def tt29 : TD := ⟨1, 8, .int .i64, [.int .i64 0]⟩
def tt33 : TD := ⟨1, 24, .slice 35, [.slice none 0 0]⟩
def tt35 : TD := ⟨2, 32, .st [(3, 0), (33, 1)], [.int .i64 0, .slice none 0 0]⟩
def tt42 : TD := ⟨2, 16, .st [(3, 0), (3, 1)], [.int .i64 0, .int .i64 0]⟩
def tt51 : TD := ⟨1, 24, .slice 53, [.slice none 0 0]⟩
def tt53 : TD := ⟨4, 56, .st [(3, 0), (2, 1), (9, 2), (51, 3)], [.int .i64 0, .int .i64 0, .string ⟨#[]⟩, .slice none 0 0]⟩
def tt55 : TD := ⟨9, 120, .st [(3, 0), (3, 1), (3, 2), (53, 3), (9, 7), (22, 8)], [.int .i64 0, .int .i64 0, .int .i64 0, .int .i64 0, .int .i64 0, .string ⟨#[]⟩, .slice none 0 0, .string ⟨#[]⟩, .slice none 0 0]⟩
def tt56 : TD := ⟨1, 8, .fn, [.nilFunc]⟩
def tt58 : TD := ⟨2, 24, .st [(9, 0), (3, 1)], [.string ⟨#[]⟩, .int .i64 0]⟩
def tt61 : TD := ⟨1, 8, .fn, [.nilFunc]⟩
def tt65 : TD := ⟨1, 24, .slice 22, [.slice none 0 0]⟩
def tt66 : TD := ⟨1, 24, .slice 22, [.slice none 0 0]⟩
def tt76 : TD := ⟨1, 8, .map 9 4, [.map none]⟩
def tt80 : TD := ⟨1, 8, .fn, [.nilFunc]⟩
def tt83 : TD := ⟨1, 8, .int .u64, [.int .u64 0]⟩
def tt90 : TD := ⟨3, 48, .st [(9, 0), (22, 1), (3, 2)], [.string ⟨#[]⟩, .slice none 0 0, .int .i64 0]⟩
def tt95 : TD := ⟨1, 4, .int .u32, [.int .u32 0]⟩
def tt98 : TD := ⟨1, 8, .int .u64, [.int .u64 0]⟩
def tt108 : TD := ⟨4, 64, .st [(90, 0), (9, 3)], [.string ⟨#[]⟩, .slice none 0 0, .int .i64 0, .string ⟨#[]⟩]⟩
def tt112 : TD := ⟨1, 24, .slice 108, [.slice none 0 0]⟩
def tt115 : TD := ⟨1, 24, .slice 117, [.slice none 0 0]⟩
def tt117 : TD := ⟨3, 48, .arr 3 9, [.string ⟨#[]⟩, .string ⟨#[]⟩, .string ⟨#[]⟩]⟩
def tt122 : TD := ⟨1, 24, .slice 112, [.slice none 0 0]⟩
def tt123 : TD := ⟨1, 24, .slice 9, [.slice none 0 0]⟩
def TT : List (TypeId × TD) := [(2, tt2), (3, tt3), (4, tt4), (5, tt5), (9, tt9), (22, tt22), (23, tt23), (24, tt24), (26, tt26), (29, tt29), (33, tt33), (35, tt35), (42, tt42), (51, tt51), (53, tt53), (55, tt55), (56, tt56), (58, tt58), (61, tt61), (65, tt65), (66, tt66), (76, tt76), (80, tt80), (83, tt83), (90, tt90), (95, tt95), (98, tt98), (108, tt108), (112, tt112), (115, tt115), (117, tt117), (122, tt122), (123, tt123)]
theorem tt2_ok : TdOk Try.prog 2 tt2 := ⟨⟨_, _, show Try.prog.info? 2 = some Try.t2 from by kernel_rfl, by kernel_rfl, by kernel_rfl, rfl, rfl⟩, _, Try.underlying2, by simp [kindOk, tt2]⟩
theorem tt3_ok : TdOk Try.prog 3 tt3 := ⟨⟨_, _, show Try.prog.info? 3 = some Try.t3 from by kernel_rfl, by kernel_rfl, by kernel_rfl, rfl, rfl⟩, _, Try.underlying3, by simp [kindOk, tt3]⟩
theorem tt4_ok : TdOk Try.prog 4 tt4 := ⟨⟨_, _, show Try.prog.info? 4 = some Try.t4 from by kernel_rfl, by kernel_rfl, by kernel_rfl, rfl, rfl⟩, _, Try.underlying4, by simp [kindOk, tt4]⟩
theorem tt5_ok : TdOk Try.prog 5 tt5 := ⟨⟨_, _, show Try.prog.info? 5 = some Try.t5 from by kernel_rfl, by kernel_rfl, by kernel_rfl, rfl, rfl⟩, _, Try.underlying5, by simp [kindOk, tt5]⟩
theorem tt9_ok : TdOk Try.prog 9 tt9 := ⟨⟨_, _, show Try.prog.info? 9 = some Try.t9 from by kernel_rfl, by kernel_rfl, by kernel_rfl, rfl, rfl⟩, _, Try.underlying9, by simp [kindOk, tt9]⟩
theorem tt22_ok : TdOk Try.prog 22 tt22 := ⟨⟨_, _, show Try.prog.info? 22 = some Try.t22 from by kernel_rfl, by kernel_rfl, by kernel_rfl, rfl, rfl⟩, _, Try.underlying22, by simp [kindOk, tt22]⟩
theorem tt23_ok : TdOk Try.prog 23 tt23 := ⟨⟨_, _, show Try.prog.info? 23 = some Try.t23 from by kernel_rfl, by kernel_rfl, by kernel_rfl, rfl, rfl⟩, _, Try.underlying23, by simp [kindOk, tt23]⟩
theorem tt24_ok : TdOk Try.prog 24 tt24 := ⟨⟨_, _, show Try.prog.info? 24 = some Try.t24 from by kernel_rfl, by kernel_rfl, by kernel_rfl, rfl, rfl⟩, _, Try.underlying24, by simp [kindOk, tt24]⟩
theorem tt26_ok : TdOk Try.prog 26 tt26 := ⟨⟨_, _, show Try.prog.info? 26 = some Try.t26 from by kernel_rfl, by kernel_rfl, by kernel_rfl, rfl, rfl⟩, _, Try.underlying26, by simp [kindOk, tt26]⟩
theorem tt29_ok : TdOk Try.prog 29 tt29 := ⟨⟨_, _, show Try.prog.info? 29 = some Try.t29 from by kernel_rfl, by kernel_rfl, by kernel_rfl, rfl, rfl⟩, _, Try.underlying29, by simp [kindOk, tt29]⟩
theorem tt33_ok : TdOk Try.prog 33 tt33 := ⟨⟨_, _, show Try.prog.info? 33 = some Try.t33 from by kernel_rfl, by kernel_rfl, by kernel_rfl, rfl, rfl⟩, _, Try.underlying33, by simp [kindOk, tt33]⟩
theorem tt35_ok : TdOk Try.prog 35 tt35 := ⟨⟨_, _, show Try.prog.info? 35 = some Try.t35 from by kernel_rfl, by kernel_rfl, by kernel_rfl, rfl, rfl⟩, _, Try.underlying35, by simp [kindOk, tt35]⟩
theorem tt42_ok : TdOk Try.prog 42 tt42 := ⟨⟨_, _, show Try.prog.info? 42 = some Try.t42 from by kernel_rfl, by kernel_rfl, by kernel_rfl, rfl, rfl⟩, _, Try.underlying42, by simp [kindOk, tt42]⟩
theorem tt51_ok : TdOk Try.prog 51 tt51 := ⟨⟨_, _, show Try.prog.info? 51 = some Try.t51 from by kernel_rfl, by kernel_rfl, by kernel_rfl, rfl, rfl⟩, _, Try.underlying51, by simp [kindOk, tt51]⟩
theorem tt53_ok : TdOk Try.prog 53 tt53 := ⟨⟨_, _, show Try.prog.info? 53 = some Try.t53 from by kernel_rfl, by kernel_rfl, by kernel_rfl, rfl, rfl⟩, _, Try.underlying53, by simp [kindOk, tt53]⟩
theorem tt55_ok : TdOk Try.prog 55 tt55 := ⟨⟨_, _, show Try.prog.info? 55 = some Try.t55 from by kernel_rfl, by kernel_rfl, by kernel_rfl, rfl, rfl⟩, _, Try.underlying55, by simp [kindOk, tt55]⟩
theorem tt56_ok : TdOk Try.prog 56 tt56 := ⟨⟨_, _, show Try.prog.info? 56 = some Try.t56 from by kernel_rfl, by kernel_rfl, by kernel_rfl, rfl, rfl⟩, _, Try.underlying56, by simp [kindOk, tt56]⟩
theorem tt58_ok : TdOk Try.prog 58 tt58 := ⟨⟨_, _, show Try.prog.info? 58 = some Try.t58 from by kernel_rfl, by kernel_rfl, by kernel_rfl, rfl, rfl⟩, _, Try.underlying58, by simp [kindOk, tt58]⟩
theorem tt61_ok : TdOk Try.prog 61 tt61 := ⟨⟨_, _, show Try.prog.info? 61 = some Try.t61 from by kernel_rfl, by kernel_rfl, by kernel_rfl, rfl, rfl⟩, _, Try.underlying61, by simp [kindOk, tt61]⟩
theorem tt65_ok : TdOk Try.prog 65 tt65 := ⟨⟨_, _, show Try.prog.info? 65 = some Try.t65 from by kernel_rfl, by kernel_rfl, by kernel_rfl, rfl, rfl⟩, _, Try.underlying65, by simp [kindOk, tt65]⟩
theorem tt66_ok : TdOk Try.prog 66 tt66 := ⟨⟨_, _, show Try.prog.info? 66 = some Try.t66 from by kernel_rfl, by kernel_rfl, by kernel_rfl, rfl, rfl⟩, _, Try.underlying66, by simp [kindOk, tt66]⟩
theorem tt76_ok : TdOk Try.prog 76 tt76 := ⟨⟨_, _, show Try.prog.info? 76 = some Try.t76 from by kernel_rfl, by kernel_rfl, by kernel_rfl, rfl, rfl⟩, _, Try.underlying76, by simp [kindOk, tt76]⟩
theorem tt80_ok : TdOk Try.prog 80 tt80 := ⟨⟨_, _, show Try.prog.info? 80 = some Try.t80 from by kernel_rfl, by kernel_rfl, by kernel_rfl, rfl, rfl⟩, _, Try.underlying80, by simp [kindOk, tt80]⟩
theorem tt83_ok : TdOk Try.prog 83 tt83 := ⟨⟨_, _, show Try.prog.info? 83 = some Try.t83 from by kernel_rfl, by kernel_rfl, by kernel_rfl, rfl, rfl⟩, _, Try.underlying83, by simp [kindOk, tt83]⟩
theorem tt90_ok : TdOk Try.prog 90 tt90 := ⟨⟨_, _, show Try.prog.info? 90 = some Try.t90 from by kernel_rfl, by kernel_rfl, by kernel_rfl, rfl, rfl⟩, _, Try.underlying90, by simp [kindOk, tt90]⟩
theorem tt95_ok : TdOk Try.prog 95 tt95 := ⟨⟨_, _, show Try.prog.info? 95 = some Try.t95 from by kernel_rfl, by kernel_rfl, by kernel_rfl, rfl, rfl⟩, _, Try.underlying95, by simp [kindOk, tt95]⟩
theorem tt98_ok : TdOk Try.prog 98 tt98 := ⟨⟨_, _, show Try.prog.info? 98 = some Try.t98 from by kernel_rfl, by kernel_rfl, by kernel_rfl, rfl, rfl⟩, _, Try.underlying98, by simp [kindOk, tt98]⟩
theorem tt108_ok : TdOk Try.prog 108 tt108 := ⟨⟨_, _, show Try.prog.info? 108 = some Try.t108 from by kernel_rfl, by kernel_rfl, by kernel_rfl, rfl, rfl⟩, _, Try.underlying108, by simp [kindOk, tt108]⟩
theorem tt112_ok : TdOk Try.prog 112 tt112 := ⟨⟨_, _, show Try.prog.info? 112 = some Try.t112 from by kernel_rfl, by kernel_rfl, by kernel_rfl, rfl, rfl⟩, _, Try.underlying112, by simp [kindOk, tt112]⟩
theorem tt115_ok : TdOk Try.prog 115 tt115 := ⟨⟨_, _, show Try.prog.info? 115 = some Try.t115 from by kernel_rfl, by kernel_rfl, by kernel_rfl, rfl, rfl⟩, _, Try.underlying115, by simp [kindOk, tt115]⟩
theorem tt117_ok : TdOk Try.prog 117 tt117 := ⟨⟨_, _, show Try.prog.info? 117 = some Try.t117 from by kernel_rfl, by kernel_rfl, by kernel_rfl, rfl, rfl⟩, _, Try.underlying117, by simp [kindOk, tt117]⟩
theorem tt122_ok : TdOk Try.prog 122 tt122 := ⟨⟨_, _, show Try.prog.info? 122 = some Try.t122 from by kernel_rfl, by kernel_rfl, by kernel_rfl, rfl, rfl⟩, _, Try.underlying122, by simp [kindOk, tt122]⟩
theorem tt123_ok : TdOk Try.prog 123 tt123 := ⟨⟨_, _, show Try.prog.info? 123 = some Try.t123 from by kernel_rfl, by kernel_rfl, by kernel_rfl, rfl, rfl⟩, _, Try.underlying123, by simp [kindOk, tt123]⟩
theorem tt_ok : TOk Try.prog TT := by
  intro p hp
  simp only [TT, List.mem_cons, List.not_mem_nil, or_false] at hp
  rcases hp with rfl | rfl | rfl | rfl | rfl | rfl | rfl | rfl | rfl | rfl | rfl | rfl | rfl | rfl | rfl | rfl | rfl | rfl | rfl | rfl | rfl | rfl | rfl | rfl | rfl | rfl | rfl | rfl | rfl | rfl | rfl | rfl | rfl
  · exact tt2_ok
  · exact tt3_ok
  · exact tt4_ok
  · exact tt5_ok
  · exact tt9_ok
  · exact tt22_ok
  · exact tt23_ok
  · exact tt24_ok
  · exact tt26_ok
  · exact tt29_ok
  · exact tt33_ok
  · exact tt35_ok
  · exact tt42_ok
  · exact tt51_ok
  · exact tt53_ok
  · exact tt55_ok
  · exact tt56_ok
  · exact tt58_ok
  · exact tt61_ok
  · exact tt65_ok
  · exact tt66_ok
  · exact tt76_ok
  · exact tt80_ok
  · exact tt83_ok
  · exact tt90_ok
  · exact tt95_ok
  · exact tt98_ok
  · exact tt108_ok
  · exact tt112_ok
  · exact tt115_ok
  · exact tt117_ok
  · exact tt122_ok
  · exact tt123_ok
instance tabP : Tab Try.prog := ⟨TT, tt_ok, by kernel_rfl⟩
end Go.Proofs.Ytpcfkflhnkfjjaa
