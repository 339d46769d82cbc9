/- The types that the program uses, told. -/
import Derived.Test.YtijkipikefpopaaDoorOpg
import Derived.Test.YtijkipikefpopaaDoorSh
import Derived.Test.YtijkipikefpopaaDoorProg
set_option linter.unusedVariables false
set_option linter.unusedSimpArgs false
namespace Go.Proofs.YtijkipikefpopaaDoor
open Go Go.RowKit
def tt2 : TD := ⟨1, 8, .int .i64, [.int .i64 0]⟩
def tt3 : TD := ⟨1, 8, .int .i64, [.int .i64 0]⟩
def tt4 : TD := ⟨1, 1, .bool, [.bool false]⟩
def tt5 : TD := ⟨1, 1, .int .u8, [.int .u8 0]⟩
def tt9 : TD := ⟨1, 16, .str, [.string ⟨#[]⟩]⟩
def tt21 : TD := ⟨1, 4, .int .i32, [.int .i32 0]⟩
def tt22 : TD := ⟨1, 24, .slice 24, [.slice none 0 0]⟩
def tt24 : TD := ⟨4, 56, .st [(3, 0), (2, 1), (9, 2), (22, 3)], [.int .i64 0, .int .i64 0, .string ⟨#[]⟩, .slice none 0 0]⟩
def tt27 : TD := ⟨1, 8, .int .i64, [.int .i64 0]⟩
def tt47 : TD := ⟨1, 8, .ptr 49, [.pointer none]⟩
def tt49 : TD := ⟨2, 24, .st [(9, 0), (3, 1)], [.string ⟨#[]⟩, .int .i64 0]⟩
def tt51 : TD := ⟨1, 8, .fn, [.nilFunc]⟩
def tt55 : TD := ⟨1, 8, .ptr 58, [.pointer none]⟩
def tt56 : TD := ⟨1, 24, .slice 5, [.slice none 0 0]⟩
def tt58 : TD := ⟨2, 32, .st [(55, 0), (56, 1)], [.pointer none, .slice none 0 0]⟩
def tt98 : TD := ⟨1, 8, .ptr 5, [.pointer none]⟩
def tt99 : TD := ⟨1, 8, .int .u64, [.int .u64 0]⟩
def tt110 : TD := ⟨2, 2, .st [(5, 0), (5, 1)], [.int .u8 0, .int .u8 0]⟩
def tt111 : TD := ⟨32, 32, .arr 16 110, [.int .u8 0, .int .u8 0, .int .u8 0, .int .u8 0, .int .u8 0, .int .u8 0, .int .u8 0, .int .u8 0, .int .u8 0, .int .u8 0, .int .u8 0, .int .u8 0, .int .u8 0, .int .u8 0, .int .u8 0, .int .u8 0, .int .u8 0, .int .u8 0, .int .u8 0, .int .u8 0, .int .u8 0, .int .u8 0, .int .u8 0, .int .u8 0, .int .u8 0, .int .u8 0, .int .u8 0, .int .u8 0, .int .u8 0, .int .u8 0, .int .u8 0, .int .u8 0]⟩
def tt112 : TD := ⟨24, 24, .arr 24 5, [.int .u8 0, .int .u8 0, .int .u8 0, .int .u8 0, .int .u8 0, .int .u8 0, .int .u8 0, .int .u8 0, .int .u8 0, .int .u8 0, .int .u8 0, .int .u8 0, .int .u8 0, .int .u8 0, .int .u8 0, .int .u8 0, .int .u8 0, .int .u8 0, .int .u8 0, .int .u8 0, .int .u8 0, .int .u8 0, .int .u8 0, .int .u8 0]⟩
def tt113 : TD := ⟨1, 8, .int .u64, [.int .u64 0]⟩
def tt119 : TD := ⟨20, 160, .arr 20 113, [.int .u64 0, .int .u64 0, .int .u64 0, .int .u64 0, .int .u64 0, .int .u64 0, .int .u64 0, .int .u64 0, .int .u64 0, .int .u64 0, .int .u64 0, .int .u64 0, .int .u64 0, .int .u64 0, .int .u64 0, .int .u64 0, .int .u64 0, .int .u64 0, .int .u64 0, .int .u64 0]⟩
def tt120 : TD := ⟨1, 4, .int .u32, [.int .u32 0]⟩
def tt125 : TD := ⟨32, 32, .arr 32 5, [.int .u8 0, .int .u8 0, .int .u8 0, .int .u8 0, .int .u8 0, .int .u8 0, .int .u8 0, .int .u8 0, .int .u8 0, .int .u8 0, .int .u8 0, .int .u8 0, .int .u8 0, .int .u8 0, .int .u8 0, .int .u8 0, .int .u8 0, .int .u8 0, .int .u8 0, .int .u8 0, .int .u8 0, .int .u8 0, .int .u8 0, .int .u8 0, .int .u8 0, .int .u8 0, .int .u8 0, .int .u8 0, .int .u8 0, .int .u8 0, .int .u8 0, .int .u8 0]⟩
def tt126 : TD := ⟨64, 64, .arr 64 5, [.int .u8 0, .int .u8 0, .int .u8 0, .int .u8 0, .int .u8 0, .int .u8 0, .int .u8 0, .int .u8 0, .int .u8 0, .int .u8 0, .int .u8 0, .int .u8 0, .int .u8 0, .int .u8 0, .int .u8 0, .int .u8 0, .int .u8 0, .int .u8 0, .int .u8 0, .int .u8 0, .int .u8 0, .int .u8 0, .int .u8 0, .int .u8 0, .int .u8 0, .int .u8 0, .int .u8 0, .int .u8 0, .int .u8 0, .int .u8 0, .int .u8 0, .int .u8 0, .int .u8 0, .int .u8 0, .int .u8 0, .int .u8 0, .int .u8 0, .int .u8 0, .int .u8 0, .int .u8 0, .int .u8 0, .int .u8 0, .int .u8 0, .int .u8 0, .int .u8 0, .int .u8 0, .int .u8 0, .int .u8 0, .int .u8 0, .int .u8 0, .int .u8 0, .int .u8 0, .int .u8 0, .int .u8 0, .int .u8 0, .int .u8 0, .int .u8 0, .int .u8 0, .int .u8 0, .int .u8 0, .int .u8 0, .int .u8 0, .int .u8 0, .int .u8 0]⟩
def TT : List (TypeId × TD) := [(2, tt2), (3, tt3), (4, tt4), (5, tt5), (9, tt9), (21, tt21), (22, tt22), (24, tt24), (27, tt27), (47, tt47), (49, tt49), (51, tt51), (55, tt55), (56, tt56), (58, tt58), (98, tt98), (99, tt99), (110, tt110), (111, tt111), (112, tt112), (113, tt113), (119, tt119), (120, tt120), (125, tt125), (126, tt126)]
theorem tt2_ok : TdOk Tryd.prog 2 tt2 := ⟨⟨_, _, show Tryd.prog.info? 2 = some Tryd.t2 from by kernel_rfl, by kernel_rfl, by kernel_rfl, rfl, rfl⟩, _, Tryd.underlying2, by simp [kindOk, tt2]⟩
theorem tt3_ok : TdOk Tryd.prog 3 tt3 := ⟨⟨_, _, show Tryd.prog.info? 3 = some Tryd.t3 from by kernel_rfl, by kernel_rfl, by kernel_rfl, rfl, rfl⟩, _, Tryd.underlying3, by simp [kindOk, tt3]⟩
theorem tt4_ok : TdOk Tryd.prog 4 tt4 := ⟨⟨_, _, show Tryd.prog.info? 4 = some Tryd.t4 from by kernel_rfl, by kernel_rfl, by kernel_rfl, rfl, rfl⟩, _, Tryd.underlying4, by simp [kindOk, tt4]⟩
theorem tt5_ok : TdOk Tryd.prog 5 tt5 := ⟨⟨_, _, show Tryd.prog.info? 5 = some Tryd.t5 from by kernel_rfl, by kernel_rfl, by kernel_rfl, rfl, rfl⟩, _, Tryd.underlying5, by simp [kindOk, tt5]⟩
theorem tt9_ok : TdOk Tryd.prog 9 tt9 := ⟨⟨_, _, show Tryd.prog.info? 9 = some Tryd.t9 from by kernel_rfl, by kernel_rfl, by kernel_rfl, rfl, rfl⟩, _, Tryd.underlying9, by simp [kindOk, tt9]⟩
theorem tt21_ok : TdOk Tryd.prog 21 tt21 := ⟨⟨_, _, show Tryd.prog.info? 21 = some Tryd.t21 from by kernel_rfl, by kernel_rfl, by kernel_rfl, rfl, rfl⟩, _, Tryd.underlying21, by simp [kindOk, tt21]⟩
theorem tt22_ok : TdOk Tryd.prog 22 tt22 := ⟨⟨_, _, show Tryd.prog.info? 22 = some Tryd.t22 from by kernel_rfl, by kernel_rfl, by kernel_rfl, rfl, rfl⟩, _, Tryd.underlying22, by simp [kindOk, tt22]⟩
theorem tt24_ok : TdOk Tryd.prog 24 tt24 := ⟨⟨_, _, show Tryd.prog.info? 24 = some Tryd.t24 from by kernel_rfl, by kernel_rfl, by kernel_rfl, rfl, rfl⟩, _, Tryd.underlying24, by simp [kindOk, tt24]⟩
theorem tt27_ok : TdOk Tryd.prog 27 tt27 := ⟨⟨_, _, show Tryd.prog.info? 27 = some Tryd.t27 from by kernel_rfl, by kernel_rfl, by kernel_rfl, rfl, rfl⟩, _, Tryd.underlying27, by simp [kindOk, tt27]⟩
theorem tt47_ok : TdOk Tryd.prog 47 tt47 := ⟨⟨_, _, show Tryd.prog.info? 47 = some Tryd.t47 from by kernel_rfl, by kernel_rfl, by kernel_rfl, rfl, rfl⟩, _, Tryd.underlying47, by simp [kindOk, tt47]⟩
theorem tt49_ok : TdOk Tryd.prog 49 tt49 := ⟨⟨_, _, show Tryd.prog.info? 49 = some Tryd.t49 from by kernel_rfl, by kernel_rfl, by kernel_rfl, rfl, rfl⟩, _, Tryd.underlying49, by simp [kindOk, tt49]⟩
theorem tt51_ok : TdOk Tryd.prog 51 tt51 := ⟨⟨_, _, show Tryd.prog.info? 51 = some Tryd.t51 from by kernel_rfl, by kernel_rfl, by kernel_rfl, rfl, rfl⟩, _, Tryd.underlying51, by simp [kindOk, tt51]⟩
theorem tt55_ok : TdOk Tryd.prog 55 tt55 := ⟨⟨_, _, show Tryd.prog.info? 55 = some Tryd.t55 from by kernel_rfl, by kernel_rfl, by kernel_rfl, rfl, rfl⟩, _, Tryd.underlying55, by simp [kindOk, tt55]⟩
theorem tt56_ok : TdOk Tryd.prog 56 tt56 := ⟨⟨_, _, show Tryd.prog.info? 56 = some Tryd.t56 from by kernel_rfl, by kernel_rfl, by kernel_rfl, rfl, rfl⟩, _, Tryd.underlying56, by simp [kindOk, tt56]⟩
theorem tt58_ok : TdOk Tryd.prog 58 tt58 := ⟨⟨_, _, show Tryd.prog.info? 58 = some Tryd.t58 from by kernel_rfl, by kernel_rfl, by kernel_rfl, rfl, rfl⟩, _, Tryd.underlying58, by simp [kindOk, tt58]⟩
theorem tt98_ok : TdOk Tryd.prog 98 tt98 := ⟨⟨_, _, show Tryd.prog.info? 98 = some Tryd.t98 from by kernel_rfl, by kernel_rfl, by kernel_rfl, rfl, rfl⟩, _, Tryd.underlying98, by simp [kindOk, tt98]⟩
theorem tt99_ok : TdOk Tryd.prog 99 tt99 := ⟨⟨_, _, show Tryd.prog.info? 99 = some Tryd.t99 from by kernel_rfl, by kernel_rfl, by kernel_rfl, rfl, rfl⟩, _, Tryd.underlying99, by simp [kindOk, tt99]⟩
theorem tt110_ok : TdOk Tryd.prog 110 tt110 := ⟨⟨_, _, show Tryd.prog.info? 110 = some Tryd.t110 from by kernel_rfl, by kernel_rfl, by kernel_rfl, rfl, rfl⟩, _, Tryd.underlying110, by simp [kindOk, tt110]⟩
theorem tt111_ok : TdOk Tryd.prog 111 tt111 := ⟨⟨_, _, show Tryd.prog.info? 111 = some Tryd.t111 from by kernel_rfl, by kernel_rfl, by kernel_rfl, rfl, rfl⟩, _, Tryd.underlying111, by simp [kindOk, tt111]⟩
theorem tt112_ok : TdOk Tryd.prog 112 tt112 := ⟨⟨_, _, show Tryd.prog.info? 112 = some Tryd.t112 from by kernel_rfl, by kernel_rfl, by kernel_rfl, rfl, rfl⟩, _, Tryd.underlying112, by simp [kindOk, tt112]⟩
theorem tt113_ok : TdOk Tryd.prog 113 tt113 := ⟨⟨_, _, show Tryd.prog.info? 113 = some Tryd.t113 from by kernel_rfl, by kernel_rfl, by kernel_rfl, rfl, rfl⟩, _, Tryd.underlying113, by simp [kindOk, tt113]⟩
theorem tt119_ok : TdOk Tryd.prog 119 tt119 := ⟨⟨_, _, show Tryd.prog.info? 119 = some Tryd.t119 from by kernel_rfl, by kernel_rfl, by kernel_rfl, rfl, rfl⟩, _, Tryd.underlying119, by simp [kindOk, tt119]⟩
theorem tt120_ok : TdOk Tryd.prog 120 tt120 := ⟨⟨_, _, show Tryd.prog.info? 120 = some Tryd.t120 from by kernel_rfl, by kernel_rfl, by kernel_rfl, rfl, rfl⟩, _, Tryd.underlying120, by simp [kindOk, tt120]⟩
theorem tt125_ok : TdOk Tryd.prog 125 tt125 := ⟨⟨_, _, show Tryd.prog.info? 125 = some Tryd.t125 from by kernel_rfl, by kernel_rfl, by kernel_rfl, rfl, rfl⟩, _, Tryd.underlying125, by simp [kindOk, tt125]⟩
theorem tt126_ok : TdOk Tryd.prog 126 tt126 := ⟨⟨_, _, show Tryd.prog.info? 126 = some Tryd.t126 from by kernel_rfl, by kernel_rfl, by kernel_rfl, rfl, rfl⟩, _, Tryd.underlying126, by simp [kindOk, tt126]⟩
theorem tt_ok : TOk Tryd.prog TT := by
  intro p hp
  simp only [TT, List.mem_cons, List.not_mem_nil, or_false] at hp
  rcases hp with rfl | rfl | rfl | rfl | rfl | rfl | rfl | rfl | rfl | rfl | rfl | rfl | rfl | rfl | rfl | rfl | rfl | rfl | rfl | rfl | rfl | rfl | rfl | rfl | rfl
  · exact tt2_ok
  · exact tt3_ok
  · exact tt4_ok
  · exact tt5_ok
  · exact tt9_ok
  · exact tt21_ok
  · exact tt22_ok
  · exact tt24_ok
  · exact tt27_ok
  · exact tt47_ok
  · exact tt49_ok
  · exact tt51_ok
  · exact tt55_ok
  · exact tt56_ok
  · exact tt58_ok
  · exact tt98_ok
  · exact tt99_ok
  · exact tt110_ok
  · exact tt111_ok
  · exact tt112_ok
  · exact tt113_ok
  · exact tt119_ok
  · exact tt120_ok
  · exact tt125_ok
  · exact tt126_ok
instance tabP : Tab Tryd.prog := ⟨TT, tt_ok, by kernel_rfl⟩
structure S_utf8_acceptRange where
  f_lo : Int
  f_hi : Int
def eS_utf8_acceptRange (x : S_utf8_acceptRange) : FV := .agg [eU8 (x.f_lo), eU8 (x.f_hi)]
def nS_utf8_acceptRange : En S_utf8_acceptRange := ⟨eS_utf8_acceptRange, 2, fun x => (eS_utf8_acceptRange x).cells, fun _ => rfl, fun _ => rfl⟩

def gt0 : List Int := [240, 240, 240, 240, 240, 240, 240, 240, 240, 240, 240, 240, 240, 240, 240, 240, 240, 240, 240, 240, 240, 240, 240, 240, 240, 240, 240, 240, 240, 240, 240, 240, 240, 240, 240, 240, 240, 240, 240, 240, 240, 240, 240, 240, 240, 240, 240, 240, 240, 240, 240, 240, 240, 240, 240, 240, 240, 240, 240, 240, 240, 240, 240, 240, 240, 240, 240, 240, 240, 240, 240, 240, 240, 240, 240, 240, 240, 240, 240, 240, 240, 240, 240, 240, 240, 240, 240, 240, 240, 240, 240, 240, 240, 240, 240, 240, 240, 240, 240, 240, 240, 240, 240, 240, 240, 240, 240, 240, 240, 240, 240, 240, 240, 240, 240, 240, 240, 240, 240, 240, 240, 240, 240, 240, 240, 240, 240, 240, 241, 241, 241, 241, 241, 241, 241, 241, 241, 241, 241, 241, 241, 241, 241, 241, 241, 241, 241, 241, 241, 241, 241, 241, 241, 241, 241, 241, 241, 241, 241, 241, 241, 241, 241, 241, 241, 241, 241, 241, 241, 241, 241, 241, 241, 241, 241, 241, 241, 241, 241, 241, 241, 241, 241, 241, 241, 241, 241, 241, 241, 241, 241, 241, 241, 241, 2, 2, 2, 2, 2, 2, 2, 2, 2, 2, 2, 2, 2, 2, 2, 2, 2, 2, 2, 2, 2, 2, 2, 2, 2, 2, 2, 2, 2, 2, 19, 3, 3, 3, 3, 3, 3, 3, 3, 3, 3, 3, 3, 35, 3, 3, 52, 4, 4, 4, 68, 241, 241, 241, 241, 241, 241, 241, 241, 241, 241, 241]
def gv0 : Array Value := #[.int .u8 240, .int .u8 240, .int .u8 240, .int .u8 240, .int .u8 240, .int .u8 240, .int .u8 240, .int .u8 240, .int .u8 240, .int .u8 240, .int .u8 240, .int .u8 240, .int .u8 240, .int .u8 240, .int .u8 240, .int .u8 240, .int .u8 240, .int .u8 240, .int .u8 240, .int .u8 240, .int .u8 240, .int .u8 240, .int .u8 240, .int .u8 240, .int .u8 240, .int .u8 240, .int .u8 240, .int .u8 240, .int .u8 240, .int .u8 240, .int .u8 240, .int .u8 240, .int .u8 240, .int .u8 240, .int .u8 240, .int .u8 240, .int .u8 240, .int .u8 240, .int .u8 240, .int .u8 240, .int .u8 240, .int .u8 240, .int .u8 240, .int .u8 240, .int .u8 240, .int .u8 240, .int .u8 240, .int .u8 240, .int .u8 240, .int .u8 240, .int .u8 240, .int .u8 240, .int .u8 240, .int .u8 240, .int .u8 240, .int .u8 240, .int .u8 240, .int .u8 240, .int .u8 240, .int .u8 240, .int .u8 240, .int .u8 240, .int .u8 240, .int .u8 240, .int .u8 240, .int .u8 240, .int .u8 240, .int .u8 240, .int .u8 240, .int .u8 240, .int .u8 240, .int .u8 240, .int .u8 240, .int .u8 240, .int .u8 240, .int .u8 240, .int .u8 240, .int .u8 240, .int .u8 240, .int .u8 240, .int .u8 240, .int .u8 240, .int .u8 240, .int .u8 240, .int .u8 240, .int .u8 240, .int .u8 240, .int .u8 240, .int .u8 240, .int .u8 240, .int .u8 240, .int .u8 240, .int .u8 240, .int .u8 240, .int .u8 240, .int .u8 240, .int .u8 240, .int .u8 240, .int .u8 240, .int .u8 240, .int .u8 240, .int .u8 240, .int .u8 240, .int .u8 240, .int .u8 240, .int .u8 240, .int .u8 240, .int .u8 240, .int .u8 240, .int .u8 240, .int .u8 240, .int .u8 240, .int .u8 240, .int .u8 240, .int .u8 240, .int .u8 240, .int .u8 240, .int .u8 240, .int .u8 240, .int .u8 240, .int .u8 240, .int .u8 240, .int .u8 240, .int .u8 240, .int .u8 240, .int .u8 240, .int .u8 240, .int .u8 240, .int .u8 241, .int .u8 241, .int .u8 241, .int .u8 241, .int .u8 241, .int .u8 241, .int .u8 241, .int .u8 241, .int .u8 241, .int .u8 241, .int .u8 241, .int .u8 241, .int .u8 241, .int .u8 241, .int .u8 241, .int .u8 241, .int .u8 241, .int .u8 241, .int .u8 241, .int .u8 241, .int .u8 241, .int .u8 241, .int .u8 241, .int .u8 241, .int .u8 241, .int .u8 241, .int .u8 241, .int .u8 241, .int .u8 241, .int .u8 241, .int .u8 241, .int .u8 241, .int .u8 241, .int .u8 241, .int .u8 241, .int .u8 241, .int .u8 241, .int .u8 241, .int .u8 241, .int .u8 241, .int .u8 241, .int .u8 241, .int .u8 241, .int .u8 241, .int .u8 241, .int .u8 241, .int .u8 241, .int .u8 241, .int .u8 241, .int .u8 241, .int .u8 241, .int .u8 241, .int .u8 241, .int .u8 241, .int .u8 241, .int .u8 241, .int .u8 241, .int .u8 241, .int .u8 241, .int .u8 241, .int .u8 241, .int .u8 241, .int .u8 241, .int .u8 241, .int .u8 241, .int .u8 241, .int .u8 2, .int .u8 2, .int .u8 2, .int .u8 2, .int .u8 2, .int .u8 2, .int .u8 2, .int .u8 2, .int .u8 2, .int .u8 2, .int .u8 2, .int .u8 2, .int .u8 2, .int .u8 2, .int .u8 2, .int .u8 2, .int .u8 2, .int .u8 2, .int .u8 2, .int .u8 2, .int .u8 2, .int .u8 2, .int .u8 2, .int .u8 2, .int .u8 2, .int .u8 2, .int .u8 2, .int .u8 2, .int .u8 2, .int .u8 2, .int .u8 19, .int .u8 3, .int .u8 3, .int .u8 3, .int .u8 3, .int .u8 3, .int .u8 3, .int .u8 3, .int .u8 3, .int .u8 3, .int .u8 3, .int .u8 3, .int .u8 3, .int .u8 35, .int .u8 3, .int .u8 3, .int .u8 52, .int .u8 4, .int .u8 4, .int .u8 4, .int .u8 68, .int .u8 241, .int .u8 241, .int .u8 241, .int .u8 241, .int .u8 241, .int .u8 241, .int .u8 241, .int .u8 241, .int .u8 241, .int .u8 241, .int .u8 241]
theorem gt0_v : gv0.toList.map FV.atom = tabC nU8 gt0 := by kernel_rfl
theorem gt0_1 : gv0.toList.all (·.oneCell') = true := by kernel_rfl
def gt1 : List S_utf8_acceptRange := [S_utf8_acceptRange.mk 128 191, S_utf8_acceptRange.mk 160 191, S_utf8_acceptRange.mk 128 159, S_utf8_acceptRange.mk 144 191, S_utf8_acceptRange.mk 128 143, S_utf8_acceptRange.mk 0 0, S_utf8_acceptRange.mk 0 0, S_utf8_acceptRange.mk 0 0, S_utf8_acceptRange.mk 0 0, S_utf8_acceptRange.mk 0 0, S_utf8_acceptRange.mk 0 0, S_utf8_acceptRange.mk 0 0, S_utf8_acceptRange.mk 0 0, S_utf8_acceptRange.mk 0 0, S_utf8_acceptRange.mk 0 0, S_utf8_acceptRange.mk 0 0]
def gv1 : Array Value := #[.int .u8 128, .int .u8 191, .int .u8 160, .int .u8 191, .int .u8 128, .int .u8 159, .int .u8 144, .int .u8 191, .int .u8 128, .int .u8 143, .int .u8 0, .int .u8 0, .int .u8 0, .int .u8 0, .int .u8 0, .int .u8 0, .int .u8 0, .int .u8 0, .int .u8 0, .int .u8 0, .int .u8 0, .int .u8 0, .int .u8 0, .int .u8 0, .int .u8 0, .int .u8 0, .int .u8 0, .int .u8 0, .int .u8 0, .int .u8 0, .int .u8 0, .int .u8 0]
theorem gt1_v : gv1.toList.map FV.atom = tabC nS_utf8_acceptRange gt1 := by kernel_rfl
theorem gt1_1 : gv1.toList.all (·.oneCell') = true := by kernel_rfl
def gt2 : List Int := [1, 10, 100, 1000, 10000, 100000, 1000000, 10000000, 100000000, 1000000000, 10000000000, 100000000000, 1000000000000, 10000000000000, 100000000000000, 1000000000000000, 10000000000000000, 100000000000000000, 1000000000000000000, 10000000000000000000]
def gv2 : Array Value := #[.int .u64 1, .int .u64 10, .int .u64 100, .int .u64 1000, .int .u64 10000, .int .u64 100000, .int .u64 1000000, .int .u64 10000000, .int .u64 100000000, .int .u64 1000000000, .int .u64 10000000000, .int .u64 100000000000, .int .u64 1000000000000, .int .u64 10000000000000, .int .u64 100000000000000, .int .u64 1000000000000000, .int .u64 10000000000000000, .int .u64 100000000000000000, .int .u64 1000000000000000000, .int .u64 10000000000000000000]
def gt4 : List Int := [0, 1, 28, 2, 29, 14, 24, 3, 30, 22, 20, 15, 25, 17, 4, 8, 31, 27, 13, 23, 21, 19, 16, 7, 26, 12, 18, 6, 11, 5, 10, 9]
def gv4 : Array Value := #[.int .u8 0, .int .u8 1, .int .u8 28, .int .u8 2, .int .u8 29, .int .u8 14, .int .u8 24, .int .u8 3, .int .u8 30, .int .u8 22, .int .u8 20, .int .u8 15, .int .u8 25, .int .u8 17, .int .u8 4, .int .u8 8, .int .u8 31, .int .u8 27, .int .u8 13, .int .u8 23, .int .u8 21, .int .u8 19, .int .u8 16, .int .u8 7, .int .u8 26, .int .u8 12, .int .u8 18, .int .u8 6, .int .u8 11, .int .u8 5, .int .u8 10, .int .u8 9]
def gt5 : List Int := [0, 1, 56, 2, 57, 49, 28, 3, 61, 58, 42, 50, 38, 29, 17, 4, 62, 47, 59, 36, 45, 43, 51, 22, 53, 39, 33, 30, 24, 18, 12, 5, 63, 55, 48, 27, 60, 41, 37, 16, 46, 35, 44, 21, 52, 32, 23, 11, 54, 26, 40, 15, 34, 20, 31, 10, 25, 14, 19, 9, 13, 8, 7, 6]
def gv5 : Array Value := #[.int .u8 0, .int .u8 1, .int .u8 56, .int .u8 2, .int .u8 57, .int .u8 49, .int .u8 28, .int .u8 3, .int .u8 61, .int .u8 58, .int .u8 42, .int .u8 50, .int .u8 38, .int .u8 29, .int .u8 17, .int .u8 4, .int .u8 62, .int .u8 47, .int .u8 59, .int .u8 36, .int .u8 45, .int .u8 43, .int .u8 51, .int .u8 22, .int .u8 53, .int .u8 39, .int .u8 33, .int .u8 30, .int .u8 24, .int .u8 18, .int .u8 12, .int .u8 5, .int .u8 63, .int .u8 55, .int .u8 48, .int .u8 27, .int .u8 60, .int .u8 41, .int .u8 37, .int .u8 16, .int .u8 46, .int .u8 35, .int .u8 44, .int .u8 21, .int .u8 52, .int .u8 32, .int .u8 23, .int .u8 11, .int .u8 54, .int .u8 26, .int .u8 40, .int .u8 15, .int .u8 34, .int .u8 20, .int .u8 31, .int .u8 10, .int .u8 25, .int .u8 14, .int .u8 19, .int .u8 9, .int .u8 13, .int .u8 8, .int .u8 7, .int .u8 6]
def GV : List (Nat × Array Value) := [(0, gv0), (1, gv1), (2, gv2), (4, gv4), (5, gv5)]
theorem pow_gv : powV = gv2 := by kernel_rfl
theorem itoa_gv : ∀ (n : Int), -9223372036854775808 ≤ n → n ≤ 9223372036854775807 → ∀ w : World, w.var? Tryd.prog "internal/strconv.uint64pow10" = some gv2 → Calls Tryd.prog 86 #[.int .i64 n, .int .i64 10] w fun e w' => e = .returned (.string ⟨(Lib.itoa n).toArray⟩) ∧ ∃ k os, w' = Sort.grow (w.drewN k) os := pow_gv ▸ itoa_sh
end Go.Proofs.YtijkipikefpopaaDoor
