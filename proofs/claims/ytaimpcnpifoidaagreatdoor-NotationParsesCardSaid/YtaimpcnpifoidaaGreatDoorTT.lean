import Derived.Test.YtaimpcnpifoidaaGreatDoorOq
import Derived.Test.YtaimpcnpifoidaaGreatDoorLang
import Derived.Test.YtaimpcnpifoidaaGreatDoorMe
import Derived.Test.YtaimpcnpifoidaaGreatDoorJn
import Derived.Test.YtaimpcnpifoidaaGreatDoorProg
set_option linter.all false
namespace Go.Proofs.YtaimpcnpifoidaaGreatDoor
open Go Go.RowKit Go.Proofs.Tryz
def tt2:TD:=⟨1,8, .int .i64,[.int .i64 0]⟩
def tt3:TD:=⟨1,8, .int .i64,[.int .i64 0]⟩
def tt4:TD:=⟨1,1, .bool,[.bool false]⟩
def tt5:TD:=⟨1,1, .int .u8,[.int .u8 0]⟩
def tt9:TD:=⟨1,16, .str,[.string ⟨#[]⟩]⟩
def tt20:TD:=⟨1,16, .ifc,[.nilIface]⟩
def tt21:TD:=⟨1,4, .int .i32,[.int .i32 0]⟩
def tt22:TD:=⟨1,24, .slice 3,[.slice none 0 0]⟩
def tt23:TD:=⟨1,24, .slice 92,[.slice none 0 0]⟩
def tt24:TD:=⟨1,24, .slice 45,[.slice none 0 0]⟩
def tt26:TD:=⟨4,88, .st [(9,0),(22,1),(23,2),(24,3)],[.string ⟨#[]⟩, .slice none 0 0, .slice none 0 0, .slice none 0 0]⟩
def tt27:TD:=⟨1,24, .slice 29,[.slice none 0 0]⟩
def tt29:TD:=⟨2,32, .st [(3,0),(27,1)],[.int .i64 0, .slice none 0 0]⟩
def tt33:TD:=⟨1,8, .int .i64,[.int .i64 0]⟩
def tt41:TD:=⟨1,24, .slice 43,[.slice none 0 0]⟩
def tt43:TD:=⟨4,56, .st [(3,0),(2,1),(9,2),(41,3)],[.int .i64 0, .int .i64 0, .string ⟨#[]⟩, .slice none 0 0]⟩
def tt45:TD:=⟨9,120, .st [(3,0),(3,1),(3,2),(43,3),(9,7),(22,8)],[.int .i64 0, .int .i64 0, .int .i64 0, .int .i64 0, .int .i64 0, .string ⟨#[]⟩, .slice none 0 0, .string ⟨#[]⟩, .slice none 0 0]⟩
def tt55:TD:=⟨1,8, .ptr 58,[.pointer none]⟩
def tt56:TD:=⟨1,24, .slice 5,[.slice none 0 0]⟩
def tt58:TD:=⟨2,32, .st [(55,0),(56,1)],[.pointer none, .slice none 0 0]⟩
def tt62:TD:=⟨1,8, .ptr 129,[.pointer none]⟩
def tt65:TD:=⟨1,8, .ptr 68,[.pointer none]⟩
def tt66:TD:=⟨1,8, .map 123 70,[.map none]⟩
def tt68:TD:=⟨5,96, .st [(26,0),(66,4)],[.string ⟨#[]⟩, .slice none 0 0, .slice none 0 0, .slice none 0 0, .map none]⟩
def tt70:TD:=⟨3,40, .st [(29,0),(4,2)],[.int .i64 0, .slice none 0 0, .bool false]⟩
def tt73:TD:=⟨1,24, .slice 75,[.slice none 0 0]⟩
def tt75:TD:=⟨7,104, .st [(3,0),(43,1),(9,5),(73,6)],[.int .i64 0, .int .i64 0, .int .i64 0, .string ⟨#[]⟩, .slice none 0 0, .string ⟨#[]⟩, .slice none 0 0]⟩
def tt78:TD:=⟨1,24, .slice 4,[.slice none 0 0]⟩
def tt84:TD:=⟨1,24, .slice 9,[.slice none 0 0]⟩
def tt92:TD:=⟨2,24, .st [(9,0),(3,1)],[.string ⟨#[]⟩, .int .i64 0]⟩
def tt94:TD:=⟨1,8, .ptr 97,[.pointer none]⟩
def tt95:TD:=⟨1,8, .map 9 3,[.map none]⟩
def tt97:TD:=⟨5,96, .st [(26,0),(95,4)],[.string ⟨#[]⟩, .slice none 0 0, .slice none 0 0, .slice none 0 0, .map none]⟩
def k2w:TD:=⟨1,8, .map 9 4,[.map none]⟩
def kabi:TD:=⟨1,8, .fn,[.nilFunc]⟩
def kaa5:TD:=⟨1,8, .ptr 5,[.pointer none]⟩
def kabb:TD:=⟨1,8, .int .i64,[.int .i64 0]⟩
def kab7:TD:=⟨1,8, .ptr 120,[.pointer none]⟩
def kaa2:TD:=⟨2,24, .st [(9,0),(3,1)],[.string ⟨#[]⟩, .int .i64 0]⟩
def kaay:TD:=⟨2,16, .st [(62,0),(3,1)],[.pointer none, .int .i64 0]⟩
def kacq:TD:=⟨1,24, .slice 62,[.slice none 0 0]⟩
def kab9:TD:=⟨8,112, .st [(3,0),(3,1),(43,2),(9,6),(127,7)],[.int .i64 0, .int .i64 0, .int .i64 0, .int .i64 0, .string ⟨#[]⟩, .slice none 0 0, .string ⟨#[]⟩, .slice none 0 0]⟩
def kabz:TD:=⟨3,48, .st [(9,0),(22,1),(3,2)],[.string ⟨#[]⟩, .slice none 0 0, .int .i64 0]⟩
def k5n:TD:=⟨1,24, .slice 27,[.slice none 0 0]⟩
def k5q:TD:=⟨1,24, .slice 78,[.slice none 0 0]⟩
def k5f:TD:=⟨9,144, .arr 9 9,[.string ⟨#[]⟩, .string ⟨#[]⟩, .string ⟨#[]⟩, .string ⟨#[]⟩, .string ⟨#[]⟩, .string ⟨#[]⟩, .string ⟨#[]⟩, .string ⟨#[]⟩, .string ⟨#[]⟩]⟩
def kab8:TD:=⟨1,24, .slice 169,[.slice none 0 0]⟩
def kac7:TD:=⟨3,48, .arr 3 9,[.string ⟨#[]⟩, .string ⟨#[]⟩, .string ⟨#[]⟩]⟩
def kabh:TD:=⟨4,64, .st [(134,0),(9,3)],[.string ⟨#[]⟩, .slice none 0 0, .int .i64 0, .string ⟨#[]⟩]⟩
def kacm:TD:=⟨1,8, .int .u64,[.int .u64 0]⟩
def kabf:TD:=⟨1,8, .ptr 202,[.pointer none]⟩
def kaby:TD:=⟨2,24, .st [(9,0),(3,1)],[.string ⟨#[]⟩, .int .i64 0]⟩
def kacg:TD:=⟨1,8, .fn,[.nilFunc]⟩
def kacj:TD:=⟨1,24, .slice 187,[.slice none 0 0]⟩
def kacc:TD:=⟨24,24, .arr 24 5,[.int .u8 0, .int .u8 0, .int .u8 0, .int .u8 0, .int .u8 0, .int .u8 0, .int .u8 0, .int .u8 0, .int .u8 0, .int .u8 0, .int .u8 0, .int .u8 0, .int .u8 0, .int .u8 0, .int .u8 0, .int .u8 0, .int .u8 0, .int .u8 0, .int .u8 0, .int .u8 0, .int .u8 0, .int .u8 0, .int .u8 0, .int .u8 0]⟩
def kace:TD:=⟨1,8, .int .u64,[.int .u64 0]⟩
def kacf:TD:=⟨1,4, .int .u32,[.int .u32 0]⟩
def kact:TD:=⟨1,24, .slice 208,[.slice none 0 0]⟩
def kac1:TD:=⟨20,160, .arr 20 218,[.int .u64 0, .int .u64 0, .int .u64 0, .int .u64 0, .int .u64 0, .int .u64 0, .int .u64 0, .int .u64 0, .int .u64 0, .int .u64 0, .int .u64 0, .int .u64 0, .int .u64 0, .int .u64 0, .int .u64 0, .int .u64 0, .int .u64 0, .int .u64 0, .int .u64 0, .int .u64 0]⟩
def k5k:TD:=⟨2,2, .st [(5,0),(5,1)],[.int .u8 0, .int .u8 0]⟩
def kada:TD:=⟨32,32, .arr 16 248,[.int .u8 0, .int .u8 0, .int .u8 0, .int .u8 0, .int .u8 0, .int .u8 0, .int .u8 0, .int .u8 0, .int .u8 0, .int .u8 0, .int .u8 0, .int .u8 0, .int .u8 0, .int .u8 0, .int .u8 0, .int .u8 0, .int .u8 0, .int .u8 0, .int .u8 0, .int .u8 0, .int .u8 0, .int .u8 0, .int .u8 0, .int .u8 0, .int .u8 0, .int .u8 0, .int .u8 0, .int .u8 0, .int .u8 0, .int .u8 0, .int .u8 0, .int .u8 0]⟩
def kaaw:TD:=⟨32,32, .arr 32 5,[.int .u8 0, .int .u8 0, .int .u8 0, .int .u8 0, .int .u8 0, .int .u8 0, .int .u8 0, .int .u8 0, .int .u8 0, .int .u8 0, .int .u8 0, .int .u8 0, .int .u8 0, .int .u8 0, .int .u8 0, .int .u8 0, .int .u8 0, .int .u8 0, .int .u8 0, .int .u8 0, .int .u8 0, .int .u8 0, .int .u8 0, .int .u8 0, .int .u8 0, .int .u8 0, .int .u8 0, .int .u8 0, .int .u8 0, .int .u8 0, .int .u8 0, .int .u8 0]⟩
def kacs:TD:=⟨64,64, .arr 64 5,[.int .u8 0, .int .u8 0, .int .u8 0, .int .u8 0, .int .u8 0, .int .u8 0, .int .u8 0, .int .u8 0, .int .u8 0, .int .u8 0, .int .u8 0, .int .u8 0, .int .u8 0, .int .u8 0, .int .u8 0, .int .u8 0, .int .u8 0, .int .u8 0, .int .u8 0, .int .u8 0, .int .u8 0, .int .u8 0, .int .u8 0, .int .u8 0, .int .u8 0, .int .u8 0, .int .u8 0, .int .u8 0, .int .u8 0, .int .u8 0, .int .u8 0, .int .u8 0, .int .u8 0, .int .u8 0, .int .u8 0, .int .u8 0, .int .u8 0, .int .u8 0, .int .u8 0, .int .u8 0, .int .u8 0, .int .u8 0, .int .u8 0, .int .u8 0, .int .u8 0, .int .u8 0, .int .u8 0, .int .u8 0, .int .u8 0, .int .u8 0, .int .u8 0, .int .u8 0, .int .u8 0, .int .u8 0, .int .u8 0, .int .u8 0, .int .u8 0, .int .u8 0, .int .u8 0, .int .u8 0, .int .u8 0, .int .u8 0, .int .u8 0, .int .u8 0]⟩
def TT:List (TypeId×TD):=[(2,tt2),(3,tt3),(4,tt4),(5,tt5),(9,tt9),(20,tt20),(21,tt21),(22,tt22),(23,tt23),(24,tt24),(26,tt26),(27,tt27),(29,tt29),(33,tt33),(41,tt41),(43,tt43),(45,tt45),(55,tt55),(56,tt56),(58,tt58),(62,tt62),(65,tt65),(66,tt66),(68,tt68),(70,tt70),(73,tt73),(75,tt75),(78,tt78),(84,tt84),(92,tt92),(94,tt94),(95,tt95),(97,tt97),(109,k2w),(111,kabi),(115,kaa5),(117,kabb),(118,kab7),(120,kaa2),(123,kaay),(127,kacq),(129,kab9),(134,kabz),(137,k5n),(138,k5q),(141,k5f),(167,kab8),(169,kac7),(187,kabh),(198,kacm),(200,kabf),(202,kaby),(204,kacg),(208,kacj),(217,kacc),(218,kace),(224,kacf),(235,kact),(236,kac1),(248,k5k),(249,kada),(250,kaaw),(251,kacs)]
theorem kanr:TdOk prog 2 tt2:=⟨⟨_,_,show prog.info? 2=some Tryz.t2 from by kernel_rfl,by kernel_rfl,by kernel_rfl,rfl,rfl⟩,_,underlying2,by simp [kan,tt2]⟩
theorem kanq:TdOk prog 3 tt3:=⟨⟨_,_,show prog.info? 3=some Tryz.t3 from by kernel_rfl,by kernel_rfl,by kernel_rfl,rfl,rfl⟩,_,underlying3,by simp [kan,tt3]⟩
theorem kams:TdOk prog 4 tt4:=⟨⟨_,_,show prog.info? 4=some Tryz.t4 from by kernel_rfl,by kernel_rfl,by kernel_rfl,rfl,rfl⟩,_,underlying4,by simp [kan,tt4]⟩
theorem kanh:TdOk prog 5 tt5:=⟨⟨_,_,show prog.info? 5=some Tryz.t5 from by kernel_rfl,by kernel_rfl,by kernel_rfl,rfl,rfl⟩,_,underlying5,by simp [kan,tt5]⟩
theorem kamd:TdOk prog 9 tt9:=⟨⟨_,_,show prog.info? 9=some Tryz.t9 from by kernel_rfl,by kernel_rfl,by kernel_rfl,rfl,rfl⟩,_,underlying9,by simp [kan,tt9]⟩
theorem kakn:TdOk prog 20 tt20:=⟨⟨_,_,show prog.info? 20=some Tryz.t20 from by kernel_rfl,by kernel_rfl,by kernel_rfl,rfl,rfl⟩,_,underlying20,by simp [kan,tt20]⟩
theorem kakb:TdOk prog 21 tt21:=⟨⟨_,_,show prog.info? 21=some Tryz.t21 from by kernel_rfl,by kernel_rfl,by kernel_rfl,rfl,rfl⟩,_,underlying21,by simp [kan,tt21]⟩
theorem kajq:TdOk prog 22 tt22:=⟨⟨_,_,show prog.info? 22=some Tryz.t22 from by kernel_rfl,by kernel_rfl,by kernel_rfl,rfl,rfl⟩,_,underlying22,by simp [kan,tt22]⟩
theorem kaj7:TdOk prog 23 tt23:=⟨⟨_,_,show prog.info? 23=some Tryz.t23 from by kernel_rfl,by kernel_rfl,by kernel_rfl,rfl,rfl⟩,_,underlying23,by simp [kan,tt23]⟩
theorem kake:TdOk prog 24 tt24:=⟨⟨_,_,show prog.info? 24=some Tryz.t24 from by kernel_rfl,by kernel_rfl,by kernel_rfl,rfl,rfl⟩,_,underlying24,by simp [kan,tt24]⟩
theorem kaj2:TdOk prog 26 tt26:=⟨⟨_,_,show prog.info? 26=some Tryz.t26 from by kernel_rfl,by kernel_rfl,by kernel_rfl,rfl,rfl⟩,_,underlying26,by simp [kan,tt26]⟩
theorem kalu:TdOk prog 27 tt27:=⟨⟨_,_,show prog.info? 27=some Tryz.t27 from by kernel_rfl,by kernel_rfl,by kernel_rfl,rfl,rfl⟩,_,underlying27,by simp [kan,tt27]⟩
theorem kaky:TdOk prog 29 tt29:=⟨⟨_,_,show prog.info? 29=some Tryz.t29 from by kernel_rfl,by kernel_rfl,by kernel_rfl,rfl,rfl⟩,_,underlying29,by simp [kan,tt29]⟩
theorem kak6:TdOk prog 33 tt33:=⟨⟨_,_,show prog.info? 33=some Tryz.t33 from by kernel_rfl,by kernel_rfl,by kernel_rfl,rfl,rfl⟩,_,underlying33,by simp [kan,tt33]⟩
theorem kaj4:TdOk prog 41 tt41:=⟨⟨_,_,show prog.info? 41=some Tryz.t41 from by kernel_rfl,by kernel_rfl,by kernel_rfl,rfl,rfl⟩,_,underlying41,by simp [kan,tt41]⟩
theorem kalz:TdOk prog 43 tt43:=⟨⟨_,_,show prog.info? 43=some Tryz.t43 from by kernel_rfl,by kernel_rfl,by kernel_rfl,rfl,rfl⟩,_,underlying43,by simp [kan,tt43]⟩
theorem kakh:TdOk prog 45 tt45:=⟨⟨_,_,show prog.info? 45=some Tryz.t45 from by kernel_rfl,by kernel_rfl,by kernel_rfl,rfl,rfl⟩,_,underlying45,by simp [kan,tt45]⟩
theorem kaj8:TdOk prog 55 tt55:=⟨⟨_,_,show prog.info? 55=some Tryz.t55 from by kernel_rfl,by kernel_rfl,by kernel_rfl,rfl,rfl⟩,_,underlying55,by simp [kan,tt55]⟩
theorem kalr:TdOk prog 56 tt56:=⟨⟨_,_,show prog.info? 56=some Tryz.t56 from by kernel_rfl,by kernel_rfl,by kernel_rfl,rfl,rfl⟩,_,underlying56,by simp [kan,tt56]⟩
theorem kalj:TdOk prog 58 tt58:=⟨⟨_,_,show prog.info? 58=some Tryz.t58 from by kernel_rfl,by kernel_rfl,by kernel_rfl,rfl,rfl⟩,_,underlying58,by simp [kan,tt58]⟩
theorem kala:TdOk prog 62 tt62:=⟨⟨_,_,show prog.info? 62=some Tryz.t62 from by kernel_rfl,by kernel_rfl,by kernel_rfl,rfl,rfl⟩,_,underlying62,by simp [kan,tt62]⟩
theorem kak7:TdOk prog 65 tt65:=⟨⟨_,_,show prog.info? 65=some Tryz.t65 from by kernel_rfl,by kernel_rfl,by kernel_rfl,rfl,rfl⟩,_,underlying65,by simp [kan,tt65]⟩
theorem kali:TdOk prog 66 tt66:=⟨⟨_,_,show prog.info? 66=some Tryz.t66 from by kernel_rfl,by kernel_rfl,by kernel_rfl,rfl,rfl⟩,_,underlying66,by simp [kan,tt66]⟩
theorem kak8:TdOk prog 68 tt68:=⟨⟨_,_,show prog.info? 68=some Tryz.t68 from by kernel_rfl,by kernel_rfl,by kernel_rfl,rfl,rfl⟩,_,underlying68,by simp [kan,tt68]⟩
theorem kaj5:TdOk prog 70 tt70:=⟨⟨_,_,show prog.info? 70=some Tryz.t70 from by kernel_rfl,by kernel_rfl,by kernel_rfl,rfl,rfl⟩,_,underlying70,by simp [kan,tt70]⟩
theorem kakx:TdOk prog 73 tt73:=⟨⟨_,_,show prog.info? 73=some Tryz.t73 from by kernel_rfl,by kernel_rfl,by kernel_rfl,rfl,rfl⟩,_,underlying73,by simp [kan,tt73]⟩
theorem kajz:TdOk prog 75 tt75:=⟨⟨_,_,show prog.info? 75=some Tryz.t75 from by kernel_rfl,by kernel_rfl,by kernel_rfl,rfl,rfl⟩,_,underlying75,by simp [kan,tt75]⟩
theorem kalb:TdOk prog 78 tt78:=⟨⟨_,_,show prog.info? 78=some Tryz.t78 from by kernel_rfl,by kernel_rfl,by kernel_rfl,rfl,rfl⟩,_,underlying78,by simp [kan,tt78]⟩
theorem kakq:TdOk prog 84 tt84:=⟨⟨_,_,show prog.info? 84=some Tryz.t84 from by kernel_rfl,by kernel_rfl,by kernel_rfl,rfl,rfl⟩,_,underlying84,by simp [kan,tt84]⟩
theorem kaka:TdOk prog 92 tt92:=⟨⟨_,_,show prog.info? 92=some Tryz.t92 from by kernel_rfl,by kernel_rfl,by kernel_rfl,rfl,rfl⟩,_,underlying92,by simp [kan,tt92]⟩
theorem kaj0:TdOk prog 94 tt94:=⟨⟨_,_,show prog.info? 94=some Tryz.t94 from by kernel_rfl,by kernel_rfl,by kernel_rfl,rfl,rfl⟩,_,underlying94,by simp [kan,tt94]⟩
theorem kako:TdOk prog 95 tt95:=⟨⟨_,_,show prog.info? 95=some Tryz.t95 from by kernel_rfl,by kernel_rfl,by kernel_rfl,rfl,rfl⟩,_,underlying95,by simp [kan,tt95]⟩
theorem kakc:TdOk prog 97 tt97:=⟨⟨_,_,show prog.info? 97=some Tryz.t97 from by kernel_rfl,by kernel_rfl,by kernel_rfl,rfl,rfl⟩,_,underlying97,by simp [kan,tt97]⟩
theorem kag3:TdOk prog 109 k2w:=⟨⟨_,_,show prog.info? 109=some Tryz.t109 from by kernel_rfl,by kernel_rfl,by kernel_rfl,rfl,rfl⟩,_,underlying109,by simp [kan,k2w]⟩
theorem kaf3:TdOk prog 111 kabi:=⟨⟨_,_,show prog.info? 111=some Tryz.t111 from by kernel_rfl,by kernel_rfl,by kernel_rfl,rfl,rfl⟩,_,underlying111,by simp [kan,kabi]⟩
theorem kaid:TdOk prog 115 kaa5:=⟨⟨_,_,show prog.info? 115=some Tryz.t115 from by kernel_rfl,by kernel_rfl,by kernel_rfl,rfl,rfl⟩,_,underlying115,by simp [kan,kaa5]⟩
theorem kah1:TdOk prog 117 kabb:=⟨⟨_,_,show prog.info? 117=some Tryz.t117 from by kernel_rfl,by kernel_rfl,by kernel_rfl,rfl,rfl⟩,_,underlying117,by simp [kan,kabb]⟩
theorem kaf8:TdOk prog 118 kab7:=⟨⟨_,_,show prog.info? 118=some Tryz.t118 from by kernel_rfl,by kernel_rfl,by kernel_rfl,rfl,rfl⟩,_,underlying118,by simp [kan,kab7]⟩
theorem kafv:TdOk prog 120 kaa2:=⟨⟨_,_,show prog.info? 120=some Tryz.t120 from by kernel_rfl,by kernel_rfl,by kernel_rfl,rfl,rfl⟩,_,underlying120,by simp [kan,kaa2]⟩
theorem kaik:TdOk prog 123 kaay:=⟨⟨_,_,show prog.info? 123=some Tryz.t123 from by kernel_rfl,by kernel_rfl,by kernel_rfl,rfl,rfl⟩,_,underlying123,by simp [kan,kaay]⟩
theorem kaio:TdOk prog 127 kacq:=⟨⟨_,_,show prog.info? 127=some Tryz.t127 from by kernel_rfl,by kernel_rfl,by kernel_rfl,rfl,rfl⟩,_,underlying127,by simp [kan,kacq]⟩
theorem kahn:TdOk prog 129 kab9:=⟨⟨_,_,show prog.info? 129=some Tryz.t129 from by kernel_rfl,by kernel_rfl,by kernel_rfl,rfl,rfl⟩,_,underlying129,by simp [kan,kab9]⟩
theorem kahx:TdOk prog 134 kabz:=⟨⟨_,_,show prog.info? 134=some Tryz.t134 from by kernel_rfl,by kernel_rfl,by kernel_rfl,rfl,rfl⟩,_,underlying134,by simp [kan,kabz]⟩
theorem kag2:TdOk prog 137 k5n:=⟨⟨_,_,show prog.info? 137=some Tryz.t137 from by kernel_rfl,by kernel_rfl,by kernel_rfl,rfl,rfl⟩,_,underlying137,by simp [kan,k5n]⟩
theorem kaho:TdOk prog 138 k5q:=⟨⟨_,_,show prog.info? 138=some Tryz.t138 from by kernel_rfl,by kernel_rfl,by kernel_rfl,rfl,rfl⟩,_,underlying138,by simp [kan,k5q]⟩
theorem kagz:TdOk prog 141 k5f:=⟨⟨_,_,show prog.info? 141=some Tryz.t141 from by kernel_rfl,by kernel_rfl,by kernel_rfl,rfl,rfl⟩,_,underlying141,by simp [kan,k5f]⟩
theorem kaic:TdOk prog 167 kab8:=⟨⟨_,_,show prog.info? 167=some Tryz.t167 from by kernel_rfl,by kernel_rfl,by kernel_rfl,rfl,rfl⟩,_,underlying167,by simp [kan,kab8]⟩
theorem kag0:TdOk prog 169 kac7:=⟨⟨_,_,show prog.info? 169=some Tryz.t169 from by kernel_rfl,by kernel_rfl,by kernel_rfl,rfl,rfl⟩,_,underlying169,by simp [kan,kac7]⟩
theorem kag9:TdOk prog 187 kabh:=⟨⟨_,_,show prog.info? 187=some Tryz.t187 from by kernel_rfl,by kernel_rfl,by kernel_rfl,rfl,rfl⟩,_,underlying187,by simp [kan,kabh]⟩
theorem kahe:TdOk prog 198 kacm:=⟨⟨_,_,show prog.info? 198=some Tryz.t198 from by kernel_rfl,by kernel_rfl,by kernel_rfl,rfl,rfl⟩,_,underlying198,by simp [kan,kacm]⟩
theorem kagh:TdOk prog 200 kabf:=⟨⟨_,_,show prog.info? 200=some Tryz.t200 from by kernel_rfl,by kernel_rfl,by kernel_rfl,rfl,rfl⟩,_,underlying200,by simp [kan,kabf]⟩
theorem kag6:TdOk prog 202 kaby:=⟨⟨_,_,show prog.info? 202=some Tryz.t202 from by kernel_rfl,by kernel_rfl,by kernel_rfl,rfl,rfl⟩,_,underlying202,by simp [kan,kaby]⟩
theorem kagm:TdOk prog 204 kacg:=⟨⟨_,_,show prog.info? 204=some Tryz.t204 from by kernel_rfl,by kernel_rfl,by kernel_rfl,rfl,rfl⟩,_,underlying204,by simp [kan,kacg]⟩
theorem kah5:TdOk prog 208 kacj:=⟨⟨_,_,show prog.info? 208=some Tryz.t208 from by kernel_rfl,by kernel_rfl,by kernel_rfl,rfl,rfl⟩,_,underlying208,by simp [kan,kacj]⟩
theorem kag7:TdOk prog 217 kacc:=⟨⟨_,_,show prog.info? 217=some Tryz.t217 from by kernel_rfl,by kernel_rfl,by kernel_rfl,rfl,rfl⟩,_,underlying217,by simp [kan,kacc]⟩
theorem kagk:TdOk prog 218 kace:=⟨⟨_,_,show prog.info? 218=some Tryz.t218 from by kernel_rfl,by kernel_rfl,by kernel_rfl,rfl,rfl⟩,_,underlying218,by simp [kan,kace]⟩
theorem kahk:TdOk prog 224 kacf:=⟨⟨_,_,show prog.info? 224=some Tryz.t224 from by kernel_rfl,by kernel_rfl,by kernel_rfl,rfl,rfl⟩,_,underlying224,by simp [kan,kacf]⟩
theorem kagq:TdOk prog 235 kact:=⟨⟨_,_,show prog.info? 235=some Tryz.t235 from by kernel_rfl,by kernel_rfl,by kernel_rfl,rfl,rfl⟩,_,underlying235,by simp [kan,kact]⟩
theorem kagp:TdOk prog 236 kac1:=⟨⟨_,_,show prog.info? 236=some Tryz.t236 from by kernel_rfl,by kernel_rfl,by kernel_rfl,rfl,rfl⟩,_,underlying236,by simp [kan,kac1]⟩
theorem kah6:TdOk prog 248 k5k:=⟨⟨_,_,show prog.info? 248=some Tryz.t248 from by kernel_rfl,by kernel_rfl,by kernel_rfl,rfl,rfl⟩,_,underlying248,by simp [kan,k5k]⟩
theorem kaij:TdOk prog 249 kada:=⟨⟨_,_,show prog.info? 249=some Tryz.t249 from by kernel_rfl,by kernel_rfl,by kernel_rfl,rfl,rfl⟩,_,underlying249,by simp [kan,kada]⟩
theorem kaf1:TdOk prog 250 kaaw:=⟨⟨_,_,show prog.info? 250=some Tryz.t250 from by kernel_rfl,by kernel_rfl,by kernel_rfl,rfl,rfl⟩,_,underlying250,by simp [kan,kaaw]⟩
theorem kafw:TdOk prog 251 kacs:=⟨⟨_,_,show prog.info? 251=some Tryz.t251 from by kernel_rfl,by kernel_rfl,by kernel_rfl,rfl,rfl⟩,_,underlying251,by simp [kan,kacs]⟩
theorem ka2:TOk prog TT:=by
 intro p hp;simp only [TT,qac,List.not_mem_nil,or_false] at hp;rcases hp with rfl | rfl | rfl | rfl | rfl | rfl | rfl | rfl | rfl | rfl | rfl | rfl | rfl | rfl | rfl | rfl | rfl | rfl | rfl | rfl | rfl | rfl | rfl | rfl | rfl | rfl | rfl | rfl | rfl | rfl | rfl | rfl | rfl | rfl | rfl | rfl | rfl | rfl | rfl | rfl | rfl | rfl | rfl | rfl | rfl | rfl | rfl | rfl | rfl | rfl | rfl | rfl | rfl | rfl | rfl | rfl | rfl | rfl | rfl | rfl | rfl | rfl | rfl;exact kanr;exact kanq;exact kams;exact kanh;exact kamd;exact kakn;exact kakb;exact kajq;exact kaj7;exact kake;exact kaj2;exact kalu;exact kaky;exact kak6;exact kaj4;exact kalz;exact kakh;exact kaj8;exact kalr;exact kalj;exact kala;exact kak7;exact kali;exact kak8;exact kaj5;exact kakx;exact kajz;exact kalb;exact kakq;exact kaka;exact kaj0;exact kako;exact kakc;exact kag3;exact kaf3;exact kaid;exact kah1;exact kaf8;exact kafv;exact kaik;exact kaio;exact kahn;exact kahx;exact kag2;exact kaho;exact kagz;exact kaic;exact kag0;exact kag9;exact kahe;exact kagh;exact kag6;exact kagm;exact kah5;exact kag7;exact kagk;exact kahk;exact kagq;exact kagp;exact kah6;exact kaij;exact kaf1
 ·exact kafw
instance tabP:Tab prog:=⟨TT,ka2,by kernel_rfl⟩
structure Saf where
 f_lo:Int
 f_hi:Int
def kp6 (x:Saf):FV := .agg [eU8 (x.f_lo),eU8 (x.f_hi)]
def kp8:En Saf:=⟨kp6,2,fun x=>(kp6 x).cells,fun _=>rfl,fun _=>rfl⟩
def gt1:List Int:=[1,10,100,1000,10000,100000,1000000,10000000,100000000,1000000000,10000000000,100000000000,1000000000000,10000000000000,100000000000000,1000000000000000,10000000000000000,100000000000000000,1000000000000000000,10000000000000000000]
def gv1:Array Value:=#[.int .u64 1, .int .u64 10, .int .u64 100, .int .u64 1000, .int .u64 10000, .int .u64 100000, .int .u64 1000000, .int .u64 10000000, .int .u64 100000000, .int .u64 1000000000, .int .u64 10000000000, .int .u64 100000000000, .int .u64 1000000000000, .int .u64 10000000000000, .int .u64 100000000000000, .int .u64 1000000000000000, .int .u64 10000000000000000, .int .u64 100000000000000000, .int .u64 1000000000000000000, .int .u64 10000000000000000000]
def gt2:List Int:=[240,240,240,240,240,240,240,240,240,240,240,240,240,240,240,240,240,240,240,240,240,240,240,240,240,240,240,240,240,240,240,240,240,240,240,240,240,240,240,240,240,240,240,240,240,240,240,240,240,240,240,240,240,240,240,240,240,240,240,240,240,240,240,240,240,240,240,240,240,240,240,240,240,240,240,240,240,240,240,240,240,240,240,240,240,240,240,240,240,240,240,240,240,240,240,240,240,240,240,240,240,240,240,240,240,240,240,240,240,240,240,240,240,240,240,240,240,240,240,240,240,240,240,240,240,240,240,240,241,241,241,241,241,241,241,241,241,241,241,241,241,241,241,241,241,241,241,241,241,241,241,241,241,241,241,241,241,241,241,241,241,241,241,241,241,241,241,241,241,241,241,241,241,241,241,241,241,241,241,241,241,241,241,241,241,241,241,241,241,241,241,241,241,241,2,2,2,2,2,2,2,2,2,2,2,2,2,2,2,2,2,2,2,2,2,2,2,2,2,2,2,2,2,2,19,3,3,3,3,3,3,3,3,3,3,3,3,35,3,3,52,4,4,4,68,241,241,241,241,241,241,241,241,241,241,241]
def gv2:Array Value:=#[.int .u8 240, .int .u8 240, .int .u8 240, .int .u8 240, .int .u8 240, .int .u8 240, .int .u8 240, .int .u8 240, .int .u8 240, .int .u8 240, .int .u8 240, .int .u8 240, .int .u8 240, .int .u8 240, .int .u8 240, .int .u8 240, .int .u8 240, .int .u8 240, .int .u8 240, .int .u8 240, .int .u8 240, .int .u8 240, .int .u8 240, .int .u8 240, .int .u8 240, .int .u8 240, .int .u8 240, .int .u8 240, .int .u8 240, .int .u8 240, .int .u8 240, .int .u8 240, .int .u8 240, .int .u8 240, .int .u8 240, .int .u8 240, .int .u8 240, .int .u8 240, .int .u8 240, .int .u8 240, .int .u8 240, .int .u8 240, .int .u8 240, .int .u8 240, .int .u8 240, .int .u8 240, .int .u8 240, .int .u8 240, .int .u8 240, .int .u8 240, .int .u8 240, .int .u8 240, .int .u8 240, .int .u8 240, .int .u8 240, .int .u8 240, .int .u8 240, .int .u8 240, .int .u8 240, .int .u8 240, .int .u8 240, .int .u8 240, .int .u8 240, .int .u8 240, .int .u8 240, .int .u8 240, .int .u8 240, .int .u8 240, .int .u8 240, .int .u8 240, .int .u8 240, .int .u8 240, .int .u8 240, .int .u8 240, .int .u8 240, .int .u8 240, .int .u8 240, .int .u8 240, .int .u8 240, .int .u8 240, .int .u8 240, .int .u8 240, .int .u8 240, .int .u8 240, .int .u8 240, .int .u8 240, .int .u8 240, .int .u8 240, .int .u8 240, .int .u8 240, .int .u8 240, .int .u8 240, .int .u8 240, .int .u8 240, .int .u8 240, .int .u8 240, .int .u8 240, .int .u8 240, .int .u8 240, .int .u8 240, .int .u8 240, .int .u8 240, .int .u8 240, .int .u8 240, .int .u8 240, .int .u8 240, .int .u8 240, .int .u8 240, .int .u8 240, .int .u8 240, .int .u8 240, .int .u8 240, .int .u8 240, .int .u8 240, .int .u8 240, .int .u8 240, .int .u8 240, .int .u8 240, .int .u8 240, .int .u8 240, .int .u8 240, .int .u8 240, .int .u8 240, .int .u8 240, .int .u8 240, .int .u8 240, .int .u8 240, .int .u8 240, .int .u8 241, .int .u8 241, .int .u8 241, .int .u8 241, .int .u8 241, .int .u8 241, .int .u8 241, .int .u8 241, .int .u8 241, .int .u8 241, .int .u8 241, .int .u8 241, .int .u8 241, .int .u8 241, .int .u8 241, .int .u8 241, .int .u8 241, .int .u8 241, .int .u8 241, .int .u8 241, .int .u8 241, .int .u8 241, .int .u8 241, .int .u8 241, .int .u8 241, .int .u8 241, .int .u8 241, .int .u8 241, .int .u8 241, .int .u8 241, .int .u8 241, .int .u8 241, .int .u8 241, .int .u8 241, .int .u8 241, .int .u8 241, .int .u8 241, .int .u8 241, .int .u8 241, .int .u8 241, .int .u8 241, .int .u8 241, .int .u8 241, .int .u8 241, .int .u8 241, .int .u8 241, .int .u8 241, .int .u8 241, .int .u8 241, .int .u8 241, .int .u8 241, .int .u8 241, .int .u8 241, .int .u8 241, .int .u8 241, .int .u8 241, .int .u8 241, .int .u8 241, .int .u8 241, .int .u8 241, .int .u8 241, .int .u8 241, .int .u8 241, .int .u8 241, .int .u8 241, .int .u8 241, .int .u8 2, .int .u8 2, .int .u8 2, .int .u8 2, .int .u8 2, .int .u8 2, .int .u8 2, .int .u8 2, .int .u8 2, .int .u8 2, .int .u8 2, .int .u8 2, .int .u8 2, .int .u8 2, .int .u8 2, .int .u8 2, .int .u8 2, .int .u8 2, .int .u8 2, .int .u8 2, .int .u8 2, .int .u8 2, .int .u8 2, .int .u8 2, .int .u8 2, .int .u8 2, .int .u8 2, .int .u8 2, .int .u8 2, .int .u8 2, .int .u8 19, .int .u8 3, .int .u8 3, .int .u8 3, .int .u8 3, .int .u8 3, .int .u8 3, .int .u8 3, .int .u8 3, .int .u8 3, .int .u8 3, .int .u8 3, .int .u8 3, .int .u8 35, .int .u8 3, .int .u8 3, .int .u8 52, .int .u8 4, .int .u8 4, .int .u8 4, .int .u8 68, .int .u8 241, .int .u8 241, .int .u8 241, .int .u8 241, .int .u8 241, .int .u8 241, .int .u8 241, .int .u8 241, .int .u8 241, .int .u8 241, .int .u8 241]
theorem gt2_v:gv2.toList.map FV.atom=tabC nU8 gt2:=by kernel_rfl
theorem gt2_1:gv2.toList.all (·.oneCell')=true:=by kernel_rfl
def gt3:List Saf:=[Saf.mk 128 191,Saf.mk 160 191,Saf.mk 128 159,Saf.mk 144 191,Saf.mk 128 143,Saf.mk 0 0,Saf.mk 0 0,Saf.mk 0 0,Saf.mk 0 0,Saf.mk 0 0,Saf.mk 0 0,Saf.mk 0 0,Saf.mk 0 0,Saf.mk 0 0,Saf.mk 0 0,Saf.mk 0 0]
def gv3:Array Value:=#[.int .u8 128, .int .u8 191, .int .u8 160, .int .u8 191, .int .u8 128, .int .u8 159, .int .u8 144, .int .u8 191, .int .u8 128, .int .u8 143, .int .u8 0, .int .u8 0, .int .u8 0, .int .u8 0, .int .u8 0, .int .u8 0, .int .u8 0, .int .u8 0, .int .u8 0, .int .u8 0, .int .u8 0, .int .u8 0, .int .u8 0, .int .u8 0, .int .u8 0, .int .u8 0, .int .u8 0, .int .u8 0, .int .u8 0, .int .u8 0, .int .u8 0, .int .u8 0]
theorem gt3_v:gv3.toList.map FV.atom=tabC kp8 gt3:=by kernel_rfl
theorem gt3_1:gv3.toList.all (·.oneCell')=true:=by kernel_rfl
def gt4:List Int:=[0,1,28,2,29,14,24,3,30,22,20,15,25,17,4,8,31,27,13,23,21,19,16,7,26,12,18,6,11,5,10,9]
def gv4:Array Value:=#[.int .u8 0, .int .u8 1, .int .u8 28, .int .u8 2, .int .u8 29, .int .u8 14, .int .u8 24, .int .u8 3, .int .u8 30, .int .u8 22, .int .u8 20, .int .u8 15, .int .u8 25, .int .u8 17, .int .u8 4, .int .u8 8, .int .u8 31, .int .u8 27, .int .u8 13, .int .u8 23, .int .u8 21, .int .u8 19, .int .u8 16, .int .u8 7, .int .u8 26, .int .u8 12, .int .u8 18, .int .u8 6, .int .u8 11, .int .u8 5, .int .u8 10, .int .u8 9]
def gt5:List Int:=[0,1,56,2,57,49,28,3,61,58,42,50,38,29,17,4,62,47,59,36,45,43,51,22,53,39,33,30,24,18,12,5,63,55,48,27,60,41,37,16,46,35,44,21,52,32,23,11,54,26,40,15,34,20,31,10,25,14,19,9,13,8,7,6]
def gv5:Array Value:=#[.int .u8 0, .int .u8 1, .int .u8 56, .int .u8 2, .int .u8 57, .int .u8 49, .int .u8 28, .int .u8 3, .int .u8 61, .int .u8 58, .int .u8 42, .int .u8 50, .int .u8 38, .int .u8 29, .int .u8 17, .int .u8 4, .int .u8 62, .int .u8 47, .int .u8 59, .int .u8 36, .int .u8 45, .int .u8 43, .int .u8 51, .int .u8 22, .int .u8 53, .int .u8 39, .int .u8 33, .int .u8 30, .int .u8 24, .int .u8 18, .int .u8 12, .int .u8 5, .int .u8 63, .int .u8 55, .int .u8 48, .int .u8 27, .int .u8 60, .int .u8 41, .int .u8 37, .int .u8 16, .int .u8 46, .int .u8 35, .int .u8 44, .int .u8 21, .int .u8 52, .int .u8 32, .int .u8 23, .int .u8 11, .int .u8 54, .int .u8 26, .int .u8 40, .int .u8 15, .int .u8 34, .int .u8 20, .int .u8 31, .int .u8 10, .int .u8 25, .int .u8 14, .int .u8 19, .int .u8 9, .int .u8 13, .int .u8 8, .int .u8 7, .int .u8 6]
def GV:List (Nat×Array Value):=[(1,gv1),(2,gv2),(3,gv3),(4,gv4),(5,gv5),(0,#[])]
theorem kane:powV=gv1:=by kernel_rfl
theorem k9q : ∀ (n : Int), -9223372036854775808 <= n -> n <= 9223372036854775807 -> ∀ w : World, w.var? prog "internal/strconv.uint64pow10" = some gv1 -> Calls prog 151 #[.int .i64 n, .int .i64 10] w fun e w' => e = .returned (.string ⟨(Lib.itoa n).toArray⟩) /\ ∃ k os, w' = Sort.grow (w.drewN k) os := kane ▸ kak2
end Go.Proofs.YtaimpcnpifoidaaGreatDoor
