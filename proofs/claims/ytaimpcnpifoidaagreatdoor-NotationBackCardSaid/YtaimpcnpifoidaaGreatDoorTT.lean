import Derived.Test.YtaimpcnpifoidaaGreatDoorOpg
import Derived.Test.YtaimpcnpifoidaaGreatDoorSh
import Derived.Test.YtaimpcnpifoidaaGreatDoorMe
import Derived.Test.YtaimpcnpifoidaaGreatDoorJn
import Derived.Test.YtaimpcnpifoidaaGreatDoorProg
set_option linter.unusedVariables false
set_option linter.unusedSimpArgs false
namespace Go.Proofs.YtaimpcnpifoidaaGreatDoor
open Go Go.RowKit
def tt2:TD:=⟨1,8, .int .i64,[.int .i64 0]⟩
def tt3:TD:=⟨1,8, .int .i64,[.int .i64 0]⟩
def tt4:TD:=⟨1,1, .bool,[.bool false]⟩
def tt5:TD:=⟨1,1, .int .u8,[.int .u8 0]⟩
def tt9:TD:=⟨1,16, .str,[.string ⟨#[]⟩]⟩
def tt20:TD:=⟨1,16, .ifc,[.nilIface]⟩
def tt21:TD:=⟨1,4, .int .i32,[.int .i32 0]⟩
def tt22:TD:=⟨1,24, .slice 3,[.slice none 0 0]⟩
def tt23:TD:=⟨1,24, .slice 92,[.slice none 0 0]⟩
def tt24:TD:=⟨1,24, .slice 45,[.slice none 0 0]⟩
def tt26:TD:=⟨4,88, .st [(9,0),(22,1),(23,2),(24,3)],[.string ⟨#[]⟩, .slice none 0 0, .slice none 0 0, .slice none 0 0]⟩
def tt27:TD:=⟨1,24, .slice 29,[.slice none 0 0]⟩
def tt29:TD:=⟨2,32, .st [(3,0),(27,1)],[.int .i64 0, .slice none 0 0]⟩
def tt33:TD:=⟨1,8, .int .i64,[.int .i64 0]⟩
def tt41:TD:=⟨1,24, .slice 43,[.slice none 0 0]⟩
def tt43:TD:=⟨4,56, .st [(3,0),(2,1),(9,2),(41,3)],[.int .i64 0, .int .i64 0, .string ⟨#[]⟩, .slice none 0 0]⟩
def tt45:TD:=⟨9,120, .st [(3,0),(3,1),(3,2),(43,3),(9,7),(22,8)],[.int .i64 0, .int .i64 0, .int .i64 0, .int .i64 0, .int .i64 0, .string ⟨#[]⟩, .slice none 0 0, .string ⟨#[]⟩, .slice none 0 0]⟩
def tt55:TD:=⟨1,8, .ptr 58,[.pointer none]⟩
def tt56:TD:=⟨1,24, .slice 5,[.slice none 0 0]⟩
def tt58:TD:=⟨2,32, .st [(55,0),(56,1)],[.pointer none, .slice none 0 0]⟩
def tt62:TD:=⟨1,8, .ptr 129,[.pointer none]⟩
def tt65:TD:=⟨1,8, .ptr 68,[.pointer none]⟩
def tt66:TD:=⟨1,8, .map 123 70,[.map none]⟩
def tt68:TD:=⟨5,96, .st [(26,0),(66,4)],[.string ⟨#[]⟩, .slice none 0 0, .slice none 0 0, .slice none 0 0, .map none]⟩
def tt70:TD:=⟨3,40, .st [(29,0),(4,2)],[.int .i64 0, .slice none 0 0, .bool false]⟩
def tt73:TD:=⟨1,24, .slice 75,[.slice none 0 0]⟩
def tt75:TD:=⟨7,104, .st [(3,0),(43,1),(9,5),(73,6)],[.int .i64 0, .int .i64 0, .int .i64 0, .string ⟨#[]⟩, .slice none 0 0, .string ⟨#[]⟩, .slice none 0 0]⟩
def tt78:TD:=⟨1,24, .slice 4,[.slice none 0 0]⟩
def tt84:TD:=⟨1,24, .slice 9,[.slice none 0 0]⟩
def tt92:TD:=⟨2,24, .st [(9,0),(3,1)],[.string ⟨#[]⟩, .int .i64 0]⟩
def tt94:TD:=⟨1,8, .ptr 97,[.pointer none]⟩
def tt95:TD:=⟨1,8, .map 9 3,[.map none]⟩
def tt97:TD:=⟨5,96, .st [(26,0),(95,4)],[.string ⟨#[]⟩, .slice none 0 0, .slice none 0 0, .slice none 0 0, .map none]⟩
def kzl:TD:=⟨1,8, .map 9 4,[.map none]⟩
def k7w:TD:=⟨1,8, .fn,[.nilFunc]⟩
def k7x:TD:=⟨1,8, .ptr 5,[.pointer none]⟩
def k8b:TD:=⟨1,8, .int .i64,[.int .i64 0]⟩
def kaad:TD:=⟨1,8, .ptr 120,[.pointer none]⟩
def k87:TD:=⟨2,24, .st [(9,0),(3,1)],[.string ⟨#[]⟩, .int .i64 0]⟩
def k8k:TD:=⟨2,16, .st [(62,0),(3,1)],[.pointer none, .int .i64 0]⟩
def k8d:TD:=⟨1,24, .slice 62,[.slice none 0 0]⟩
def k97:TD:=⟨8,112, .st [(3,0),(3,1),(43,2),(9,6),(127,7)],[.int .i64 0, .int .i64 0, .int .i64 0, .int .i64 0, .string ⟨#[]⟩, .slice none 0 0, .string ⟨#[]⟩, .slice none 0 0]⟩
def k7y:TD:=⟨3,48, .st [(9,0),(22,1),(3,2)],[.string ⟨#[]⟩, .slice none 0 0, .int .i64 0]⟩
def kaac:TD:=⟨1,24, .slice 27,[.slice none 0 0]⟩
def k8q:TD:=⟨1,24, .slice 78,[.slice none 0 0]⟩
def k2q:TD:=⟨9,144, .arr 9 9,[.string ⟨#[]⟩, .string ⟨#[]⟩, .string ⟨#[]⟩, .string ⟨#[]⟩, .string ⟨#[]⟩, .string ⟨#[]⟩, .string ⟨#[]⟩, .string ⟨#[]⟩, .string ⟨#[]⟩]⟩
def k9r:TD:=⟨1,24, .slice 169,[.slice none 0 0]⟩
def k89:TD:=⟨3,48, .arr 3 9,[.string ⟨#[]⟩, .string ⟨#[]⟩, .string ⟨#[]⟩]⟩
def k9l:TD:=⟨4,64, .st [(134,0),(9,3)],[.string ⟨#[]⟩, .slice none 0 0, .int .i64 0, .string ⟨#[]⟩]⟩
def k9t:TD:=⟨1,8, .int .u64,[.int .u64 0]⟩
def k7z:TD:=⟨1,8, .ptr 202,[.pointer none]⟩
def kaaa:TD:=⟨2,24, .st [(9,0),(3,1)],[.string ⟨#[]⟩, .int .i64 0]⟩
def k8v:TD:=⟨1,8, .fn,[.nilFunc]⟩
def k8w:TD:=⟨1,24, .slice 187,[.slice none 0 0]⟩
def k8h:TD:=⟨24,24, .arr 24 5,[.int .u8 0, .int .u8 0, .int .u8 0, .int .u8 0, .int .u8 0, .int .u8 0, .int .u8 0, .int .u8 0, .int .u8 0, .int .u8 0, .int .u8 0, .int .u8 0, .int .u8 0, .int .u8 0, .int .u8 0, .int .u8 0, .int .u8 0, .int .u8 0, .int .u8 0, .int .u8 0, .int .u8 0, .int .u8 0, .int .u8 0, .int .u8 0]⟩
def k9o:TD:=⟨1,8, .int .u64,[.int .u64 0]⟩
def k79:TD:=⟨1,4, .int .u32,[.int .u32 0]⟩
def k96:TD:=⟨1,24, .slice 208,[.slice none 0 0]⟩
def k8l:TD:=⟨20,160, .arr 20 218,[.int .u64 0, .int .u64 0, .int .u64 0, .int .u64 0, .int .u64 0, .int .u64 0, .int .u64 0, .int .u64 0, .int .u64 0, .int .u64 0, .int .u64 0, .int .u64 0, .int .u64 0, .int .u64 0, .int .u64 0, .int .u64 0, .int .u64 0, .int .u64 0, .int .u64 0, .int .u64 0]⟩
def k21:TD:=⟨2,2, .st [(5,0),(5,1)],[.int .u8 0, .int .u8 0]⟩
def k95:TD:=⟨32,32, .arr 16 248,[.int .u8 0, .int .u8 0, .int .u8 0, .int .u8 0, .int .u8 0, .int .u8 0, .int .u8 0, .int .u8 0, .int .u8 0, .int .u8 0, .int .u8 0, .int .u8 0, .int .u8 0, .int .u8 0, .int .u8 0, .int .u8 0, .int .u8 0, .int .u8 0, .int .u8 0, .int .u8 0, .int .u8 0, .int .u8 0, .int .u8 0, .int .u8 0, .int .u8 0, .int .u8 0, .int .u8 0, .int .u8 0, .int .u8 0, .int .u8 0, .int .u8 0, .int .u8 0]⟩
def k94:TD:=⟨32,32, .arr 32 5,[.int .u8 0, .int .u8 0, .int .u8 0, .int .u8 0, .int .u8 0, .int .u8 0, .int .u8 0, .int .u8 0, .int .u8 0, .int .u8 0, .int .u8 0, .int .u8 0, .int .u8 0, .int .u8 0, .int .u8 0, .int .u8 0, .int .u8 0, .int .u8 0, .int .u8 0, .int .u8 0, .int .u8 0, .int .u8 0, .int .u8 0, .int .u8 0, .int .u8 0, .int .u8 0, .int .u8 0, .int .u8 0, .int .u8 0, .int .u8 0, .int .u8 0, .int .u8 0]⟩
def k72:TD:=⟨64,64, .arr 64 5,[.int .u8 0, .int .u8 0, .int .u8 0, .int .u8 0, .int .u8 0, .int .u8 0, .int .u8 0, .int .u8 0, .int .u8 0, .int .u8 0, .int .u8 0, .int .u8 0, .int .u8 0, .int .u8 0, .int .u8 0, .int .u8 0, .int .u8 0, .int .u8 0, .int .u8 0, .int .u8 0, .int .u8 0, .int .u8 0, .int .u8 0, .int .u8 0, .int .u8 0, .int .u8 0, .int .u8 0, .int .u8 0, .int .u8 0, .int .u8 0, .int .u8 0, .int .u8 0, .int .u8 0, .int .u8 0, .int .u8 0, .int .u8 0, .int .u8 0, .int .u8 0, .int .u8 0, .int .u8 0, .int .u8 0, .int .u8 0, .int .u8 0, .int .u8 0, .int .u8 0, .int .u8 0, .int .u8 0, .int .u8 0, .int .u8 0, .int .u8 0, .int .u8 0, .int .u8 0, .int .u8 0, .int .u8 0, .int .u8 0, .int .u8 0, .int .u8 0, .int .u8 0, .int .u8 0, .int .u8 0, .int .u8 0, .int .u8 0, .int .u8 0, .int .u8 0]⟩
def TT:List (TypeId×TD):=[(2,tt2),(3,tt3),(4,tt4),(5,tt5),(9,tt9),(20,tt20),(21,tt21),(22,tt22),(23,tt23),(24,tt24),(26,tt26),(27,tt27),(29,tt29),(33,tt33),(41,tt41),(43,tt43),(45,tt45),(55,tt55),(56,tt56),(58,tt58),(62,tt62),(65,tt65),(66,tt66),(68,tt68),(70,tt70),(73,tt73),(75,tt75),(78,tt78),(84,tt84),(92,tt92),(94,tt94),(95,tt95),(97,tt97),(109,kzl),(111,k7w),(115,k7x),(117,k8b),(118,kaad),(120,k87),(123,k8k),(127,k8d),(129,k97),(134,k7y),(137,kaac),(138,k8q),(141,k2q),(167,k9r),(169,k89),(187,k9l),(198,k9t),(200,k7z),(202,kaaa),(204,k8v),(208,k8w),(217,k8h),(218,k9o),(224,k79),(235,k96),(236,k8l),(248,k21),(249,k95),(250,k94),(251,k72)]
theorem kaki:TdOk Tryz.prog 2 tt2:=⟨⟨_,_,show Tryz.prog.info? 2=some Tryz.t2 from by kernel_rfl,by kernel_rfl,by kernel_rfl,rfl,rfl⟩,_,Tryz.underlying2,by simp [kap,tt2]⟩
theorem kakd:TdOk Tryz.prog 3 tt3:=⟨⟨_,_,show Tryz.prog.info? 3=some Tryz.t3 from by kernel_rfl,by kernel_rfl,by kernel_rfl,rfl,rfl⟩,_,Tryz.underlying3,by simp [kap,tt3]⟩
theorem kakk:TdOk Tryz.prog 4 tt4:=⟨⟨_,_,show Tryz.prog.info? 4=some Tryz.t4 from by kernel_rfl,by kernel_rfl,by kernel_rfl,rfl,rfl⟩,_,Tryz.underlying4,by simp [kap,tt4]⟩
theorem kajr:TdOk Tryz.prog 5 tt5:=⟨⟨_,_,show Tryz.prog.info? 5=some Tryz.t5 from by kernel_rfl,by kernel_rfl,by kernel_rfl,rfl,rfl⟩,_,Tryz.underlying5,by simp [kap,tt5]⟩
theorem kaka:TdOk Tryz.prog 9 tt9:=⟨⟨_,_,show Tryz.prog.info? 9=some Tryz.t9 from by kernel_rfl,by kernel_rfl,by kernel_rfl,rfl,rfl⟩,_,Tryz.underlying9,by simp [kap,tt9]⟩
theorem kajh:TdOk Tryz.prog 20 tt20:=⟨⟨_,_,show Tryz.prog.info? 20=some Tryz.t20 from by kernel_rfl,by kernel_rfl,by kernel_rfl,rfl,rfl⟩,_,Tryz.underlying20,by simp [kap,tt20]⟩
theorem kaic:TdOk Tryz.prog 21 tt21:=⟨⟨_,_,show Tryz.prog.info? 21=some Tryz.t21 from by kernel_rfl,by kernel_rfl,by kernel_rfl,rfl,rfl⟩,_,Tryz.underlying21,by simp [kap,tt21]⟩
theorem kai9:TdOk Tryz.prog 22 tt22:=⟨⟨_,_,show Tryz.prog.info? 22=some Tryz.t22 from by kernel_rfl,by kernel_rfl,by kernel_rfl,rfl,rfl⟩,_,Tryz.underlying22,by simp [kap,tt22]⟩
theorem kahl:TdOk Tryz.prog 23 tt23:=⟨⟨_,_,show Tryz.prog.info? 23=some Tryz.t23 from by kernel_rfl,by kernel_rfl,by kernel_rfl,rfl,rfl⟩,_,Tryz.underlying23,by simp [kap,tt23]⟩
theorem kah9:TdOk Tryz.prog 24 tt24:=⟨⟨_,_,show Tryz.prog.info? 24=some Tryz.t24 from by kernel_rfl,by kernel_rfl,by kernel_rfl,rfl,rfl⟩,_,Tryz.underlying24,by simp [kap,tt24]⟩
theorem kais:TdOk Tryz.prog 26 tt26:=⟨⟨_,_,show Tryz.prog.info? 26=some Tryz.t26 from by kernel_rfl,by kernel_rfl,by kernel_rfl,rfl,rfl⟩,_,Tryz.underlying26,by simp [kap,tt26]⟩
theorem kag8:TdOk Tryz.prog 27 tt27:=⟨⟨_,_,show Tryz.prog.info? 27=some Tryz.t27 from by kernel_rfl,by kernel_rfl,by kernel_rfl,rfl,rfl⟩,_,Tryz.underlying27,by simp [kap,tt27]⟩
theorem kahg:TdOk Tryz.prog 29 tt29:=⟨⟨_,_,show Tryz.prog.info? 29=some Tryz.t29 from by kernel_rfl,by kernel_rfl,by kernel_rfl,rfl,rfl⟩,_,Tryz.underlying29,by simp [kap,tt29]⟩
theorem kaij:TdOk Tryz.prog 33 tt33:=⟨⟨_,_,show Tryz.prog.info? 33=some Tryz.t33 from by kernel_rfl,by kernel_rfl,by kernel_rfl,rfl,rfl⟩,_,Tryz.underlying33,by simp [kap,tt33]⟩
theorem kail:TdOk Tryz.prog 41 tt41:=⟨⟨_,_,show Tryz.prog.info? 41=some Tryz.t41 from by kernel_rfl,by kernel_rfl,by kernel_rfl,rfl,rfl⟩,_,Tryz.underlying41,by simp [kap,tt41]⟩
theorem kair:TdOk Tryz.prog 43 tt43:=⟨⟨_,_,show Tryz.prog.info? 43=some Tryz.t43 from by kernel_rfl,by kernel_rfl,by kernel_rfl,rfl,rfl⟩,_,Tryz.underlying43,by simp [kap,tt43]⟩
theorem kaiv:TdOk Tryz.prog 45 tt45:=⟨⟨_,_,show Tryz.prog.info? 45=some Tryz.t45 from by kernel_rfl,by kernel_rfl,by kernel_rfl,rfl,rfl⟩,_,Tryz.underlying45,by simp [kap,tt45]⟩
theorem kaha:TdOk Tryz.prog 55 tt55:=⟨⟨_,_,show Tryz.prog.info? 55=some Tryz.t55 from by kernel_rfl,by kernel_rfl,by kernel_rfl,rfl,rfl⟩,_,Tryz.underlying55,by simp [kap,tt55]⟩
theorem kahj:TdOk Tryz.prog 56 tt56:=⟨⟨_,_,show Tryz.prog.info? 56=some Tryz.t56 from by kernel_rfl,by kernel_rfl,by kernel_rfl,rfl,rfl⟩,_,Tryz.underlying56,by simp [kap,tt56]⟩
theorem kajn:TdOk Tryz.prog 58 tt58:=⟨⟨_,_,show Tryz.prog.info? 58=some Tryz.t58 from by kernel_rfl,by kernel_rfl,by kernel_rfl,rfl,rfl⟩,_,Tryz.underlying58,by simp [kap,tt58]⟩
theorem kajq:TdOk Tryz.prog 62 tt62:=⟨⟨_,_,show Tryz.prog.info? 62=some Tryz.t62 from by kernel_rfl,by kernel_rfl,by kernel_rfl,rfl,rfl⟩,_,Tryz.underlying62,by simp [kap,tt62]⟩
theorem kaii:TdOk Tryz.prog 65 tt65:=⟨⟨_,_,show Tryz.prog.info? 65=some Tryz.t65 from by kernel_rfl,by kernel_rfl,by kernel_rfl,rfl,rfl⟩,_,Tryz.underlying65,by simp [kap,tt65]⟩
theorem kajl:TdOk Tryz.prog 66 tt66:=⟨⟨_,_,show Tryz.prog.info? 66=some Tryz.t66 from by kernel_rfl,by kernel_rfl,by kernel_rfl,rfl,rfl⟩,_,Tryz.underlying66,by simp [kap,tt66]⟩
theorem kaig:TdOk Tryz.prog 68 tt68:=⟨⟨_,_,show Tryz.prog.info? 68=some Tryz.t68 from by kernel_rfl,by kernel_rfl,by kernel_rfl,rfl,rfl⟩,_,Tryz.underlying68,by simp [kap,tt68]⟩
theorem kajj:TdOk Tryz.prog 70 tt70:=⟨⟨_,_,show Tryz.prog.info? 70=some Tryz.t70 from by kernel_rfl,by kernel_rfl,by kernel_rfl,rfl,rfl⟩,_,Tryz.underlying70,by simp [kap,tt70]⟩
theorem kahq:TdOk Tryz.prog 73 tt73:=⟨⟨_,_,show Tryz.prog.info? 73=some Tryz.t73 from by kernel_rfl,by kernel_rfl,by kernel_rfl,rfl,rfl⟩,_,Tryz.underlying73,by simp [kap,tt73]⟩
theorem kajb:TdOk Tryz.prog 75 tt75:=⟨⟨_,_,show Tryz.prog.info? 75=some Tryz.t75 from by kernel_rfl,by kernel_rfl,by kernel_rfl,rfl,rfl⟩,_,Tryz.underlying75,by simp [kap,tt75]⟩
theorem kai0:TdOk Tryz.prog 78 tt78:=⟨⟨_,_,show Tryz.prog.info? 78=some Tryz.t78 from by kernel_rfl,by kernel_rfl,by kernel_rfl,rfl,rfl⟩,_,Tryz.underlying78,by simp [kap,tt78]⟩
theorem kah8:TdOk Tryz.prog 84 tt84:=⟨⟨_,_,show Tryz.prog.info? 84=some Tryz.t84 from by kernel_rfl,by kernel_rfl,by kernel_rfl,rfl,rfl⟩,_,Tryz.underlying84,by simp [kap,tt84]⟩
theorem kaie:TdOk Tryz.prog 92 tt92:=⟨⟨_,_,show Tryz.prog.info? 92=some Tryz.t92 from by kernel_rfl,by kernel_rfl,by kernel_rfl,rfl,rfl⟩,_,Tryz.underlying92,by simp [kap,tt92]⟩
theorem kaif:TdOk Tryz.prog 94 tt94:=⟨⟨_,_,show Tryz.prog.info? 94=some Tryz.t94 from by kernel_rfl,by kernel_rfl,by kernel_rfl,rfl,rfl⟩,_,Tryz.underlying94,by simp [kap,tt94]⟩
theorem kahv:TdOk Tryz.prog 95 tt95:=⟨⟨_,_,show Tryz.prog.info? 95=some Tryz.t95 from by kernel_rfl,by kernel_rfl,by kernel_rfl,rfl,rfl⟩,_,Tryz.underlying95,by simp [kap,tt95]⟩
theorem kajf:TdOk Tryz.prog 97 tt97:=⟨⟨_,_,show Tryz.prog.info? 97=some Tryz.t97 from by kernel_rfl,by kernel_rfl,by kernel_rfl,rfl,rfl⟩,_,Tryz.underlying97,by simp [kap,tt97]⟩
theorem kad6:TdOk Tryz.prog 109 kzl:=⟨⟨_,_,show Tryz.prog.info? 109=some Tryz.t109 from by kernel_rfl,by kernel_rfl,by kernel_rfl,rfl,rfl⟩,_,Tryz.underlying109,by simp [kap,kzl]⟩
theorem kae6:TdOk Tryz.prog 111 k7w:=⟨⟨_,_,show Tryz.prog.info? 111=some Tryz.t111 from by kernel_rfl,by kernel_rfl,by kernel_rfl,rfl,rfl⟩,_,Tryz.underlying111,by simp [kap,k7w]⟩
theorem kadg:TdOk Tryz.prog 115 k7x:=⟨⟨_,_,show Tryz.prog.info? 115=some Tryz.t115 from by kernel_rfl,by kernel_rfl,by kernel_rfl,rfl,rfl⟩,_,Tryz.underlying115,by simp [kap,k7x]⟩
theorem kac5:TdOk Tryz.prog 117 k8b:=⟨⟨_,_,show Tryz.prog.info? 117=some Tryz.t117 from by kernel_rfl,by kernel_rfl,by kernel_rfl,rfl,rfl⟩,_,Tryz.underlying117,by simp [kap,k8b]⟩
theorem kaen:TdOk Tryz.prog 118 kaad:=⟨⟨_,_,show Tryz.prog.info? 118=some Tryz.t118 from by kernel_rfl,by kernel_rfl,by kernel_rfl,rfl,rfl⟩,_,Tryz.underlying118,by simp [kap,kaad]⟩
theorem kaf1:TdOk Tryz.prog 120 k87:=⟨⟨_,_,show Tryz.prog.info? 120=some Tryz.t120 from by kernel_rfl,by kernel_rfl,by kernel_rfl,rfl,rfl⟩,_,Tryz.underlying120,by simp [kap,k87]⟩
theorem kaeu:TdOk Tryz.prog 123 k8k:=⟨⟨_,_,show Tryz.prog.info? 123=some Tryz.t123 from by kernel_rfl,by kernel_rfl,by kernel_rfl,rfl,rfl⟩,_,Tryz.underlying123,by simp [kap,k8k]⟩
theorem kaee:TdOk Tryz.prog 127 k8d:=⟨⟨_,_,show Tryz.prog.info? 127=some Tryz.t127 from by kernel_rfl,by kernel_rfl,by kernel_rfl,rfl,rfl⟩,_,Tryz.underlying127,by simp [kap,k8d]⟩
theorem kaeq:TdOk Tryz.prog 129 k97:=⟨⟨_,_,show Tryz.prog.info? 129=some Tryz.t129 from by kernel_rfl,by kernel_rfl,by kernel_rfl,rfl,rfl⟩,_,Tryz.underlying129,by simp [kap,k97]⟩
theorem kaf9:TdOk Tryz.prog 134 k7y:=⟨⟨_,_,show Tryz.prog.info? 134=some Tryz.t134 from by kernel_rfl,by kernel_rfl,by kernel_rfl,rfl,rfl⟩,_,Tryz.underlying134,by simp [kap,k7y]⟩
theorem kaeb:TdOk Tryz.prog 137 kaac:=⟨⟨_,_,show Tryz.prog.info? 137=some Tryz.t137 from by kernel_rfl,by kernel_rfl,by kernel_rfl,rfl,rfl⟩,_,Tryz.underlying137,by simp [kap,kaac]⟩
theorem kae5:TdOk Tryz.prog 138 k8q:=⟨⟨_,_,show Tryz.prog.info? 138=some Tryz.t138 from by kernel_rfl,by kernel_rfl,by kernel_rfl,rfl,rfl⟩,_,Tryz.underlying138,by simp [kap,k8q]⟩
theorem kaf7:TdOk Tryz.prog 141 k2q:=⟨⟨_,_,show Tryz.prog.info? 141=some Tryz.t141 from by kernel_rfl,by kernel_rfl,by kernel_rfl,rfl,rfl⟩,_,Tryz.underlying141,by simp [kap,k2q]⟩
theorem kaei:TdOk Tryz.prog 167 k9r:=⟨⟨_,_,show Tryz.prog.info? 167=some Tryz.t167 from by kernel_rfl,by kernel_rfl,by kernel_rfl,rfl,rfl⟩,_,Tryz.underlying167,by simp [kap,k9r]⟩
theorem kafo:TdOk Tryz.prog 169 k89:=⟨⟨_,_,show Tryz.prog.info? 169=some Tryz.t169 from by kernel_rfl,by kernel_rfl,by kernel_rfl,rfl,rfl⟩,_,Tryz.underlying169,by simp [kap,k89]⟩
theorem kad2:TdOk Tryz.prog 187 k9l:=⟨⟨_,_,show Tryz.prog.info? 187=some Tryz.t187 from by kernel_rfl,by kernel_rfl,by kernel_rfl,rfl,rfl⟩,_,Tryz.underlying187,by simp [kap,k9l]⟩
theorem kafk:TdOk Tryz.prog 198 k9t:=⟨⟨_,_,show Tryz.prog.info? 198=some Tryz.t198 from by kernel_rfl,by kernel_rfl,by kernel_rfl,rfl,rfl⟩,_,Tryz.underlying198,by simp [kap,k9t]⟩
theorem kae0:TdOk Tryz.prog 200 k7z:=⟨⟨_,_,show Tryz.prog.info? 200=some Tryz.t200 from by kernel_rfl,by kernel_rfl,by kernel_rfl,rfl,rfl⟩,_,Tryz.underlying200,by simp [kap,k7z]⟩
theorem kadf:TdOk Tryz.prog 202 kaaa:=⟨⟨_,_,show Tryz.prog.info? 202=some Tryz.t202 from by kernel_rfl,by kernel_rfl,by kernel_rfl,rfl,rfl⟩,_,Tryz.underlying202,by simp [kap,kaaa]⟩
theorem kafe:TdOk Tryz.prog 204 k8v:=⟨⟨_,_,show Tryz.prog.info? 204=some Tryz.t204 from by kernel_rfl,by kernel_rfl,by kernel_rfl,rfl,rfl⟩,_,Tryz.underlying204,by simp [kap,k8v]⟩
theorem kaeo:TdOk Tryz.prog 208 k8w:=⟨⟨_,_,show Tryz.prog.info? 208=some Tryz.t208 from by kernel_rfl,by kernel_rfl,by kernel_rfl,rfl,rfl⟩,_,Tryz.underlying208,by simp [kap,k8w]⟩
theorem kaft:TdOk Tryz.prog 217 k8h:=⟨⟨_,_,show Tryz.prog.info? 217=some Tryz.t217 from by kernel_rfl,by kernel_rfl,by kernel_rfl,rfl,rfl⟩,_,Tryz.underlying217,by simp [kap,k8h]⟩
theorem kad0:TdOk Tryz.prog 218 k9o:=⟨⟨_,_,show Tryz.prog.info? 218=some Tryz.t218 from by kernel_rfl,by kernel_rfl,by kernel_rfl,rfl,rfl⟩,_,Tryz.underlying218,by simp [kap,k9o]⟩
theorem kado:TdOk Tryz.prog 224 k79:=⟨⟨_,_,show Tryz.prog.info? 224=some Tryz.t224 from by kernel_rfl,by kernel_rfl,by kernel_rfl,rfl,rfl⟩,_,Tryz.underlying224,by simp [kap,k79]⟩
theorem kafj:TdOk Tryz.prog 235 k96:=⟨⟨_,_,show Tryz.prog.info? 235=some Tryz.t235 from by kernel_rfl,by kernel_rfl,by kernel_rfl,rfl,rfl⟩,_,Tryz.underlying235,by simp [kap,k96]⟩
theorem kae2:TdOk Tryz.prog 236 k8l:=⟨⟨_,_,show Tryz.prog.info? 236=some Tryz.t236 from by kernel_rfl,by kernel_rfl,by kernel_rfl,rfl,rfl⟩,_,Tryz.underlying236,by simp [kap,k8l]⟩
theorem kaem:TdOk Tryz.prog 248 k21:=⟨⟨_,_,show Tryz.prog.info? 248=some Tryz.t248 from by kernel_rfl,by kernel_rfl,by kernel_rfl,rfl,rfl⟩,_,Tryz.underlying248,by simp [kap,k21]⟩
theorem kaey:TdOk Tryz.prog 249 k95:=⟨⟨_,_,show Tryz.prog.info? 249=some Tryz.t249 from by kernel_rfl,by kernel_rfl,by kernel_rfl,rfl,rfl⟩,_,Tryz.underlying249,by simp [kap,k95]⟩
theorem kaf2:TdOk Tryz.prog 250 k94:=⟨⟨_,_,show Tryz.prog.info? 250=some Tryz.t250 from by kernel_rfl,by kernel_rfl,by kernel_rfl,rfl,rfl⟩,_,Tryz.underlying250,by simp [kap,k94]⟩
theorem kad7:TdOk Tryz.prog 251 k72:=⟨⟨_,_,show Tryz.prog.info? 251=some Tryz.t251 from by kernel_rfl,by kernel_rfl,by kernel_rfl,rfl,rfl⟩,_,Tryz.underlying251,by simp [kap,k72]⟩
theorem kb0:TOk Tryz.prog TT:=by
 intro p hp
 simp only [TT,q8,List.not_mem_nil,or_false] at hp
 rcases hp with rfl | rfl | rfl | rfl | rfl | rfl | rfl | rfl | rfl | rfl | rfl | rfl | rfl | rfl | rfl | rfl | rfl | rfl | rfl | rfl | rfl | rfl | rfl | rfl | rfl | rfl | rfl | rfl | rfl | rfl | rfl | rfl | rfl | rfl | rfl | rfl | rfl | rfl | rfl | rfl | rfl | rfl | rfl | rfl | rfl | rfl | rfl | rfl | rfl | rfl | rfl | rfl | rfl | rfl | rfl | rfl | rfl | rfl | rfl | rfl | rfl | rfl | rfl
 ·exact kaki
 ·exact kakd
 ·exact kakk
 ·exact kajr
 ·exact kaka
 ·exact kajh
 ·exact kaic
 ·exact kai9
 ·exact kahl
 ·exact kah9
 ·exact kais
 ·exact kag8
 ·exact kahg
 ·exact kaij
 ·exact kail
 ·exact kair
 ·exact kaiv
 ·exact kaha
 ·exact kahj
 ·exact kajn
 ·exact kajq
 ·exact kaii
 ·exact kajl
 ·exact kaig
 ·exact kajj
 ·exact kahq
 ·exact kajb
 ·exact kai0
 ·exact kah8
 ·exact kaie
 ·exact kaif
 ·exact kahv
 ·exact kajf
 ·exact kad6
 ·exact kae6
 ·exact kadg
 ·exact kac5
 ·exact kaen
 ·exact kaf1
 ·exact kaeu
 ·exact kaee
 ·exact kaeq
 ·exact kaf9
 ·exact kaeb
 ·exact kae5
 ·exact kaf7
 ·exact kaei
 ·exact kafo
 ·exact kad2
 ·exact kafk
 ·exact kae0
 ·exact kadf
 ·exact kafe
 ·exact kaeo
 ·exact kaft
 ·exact kad0
 ·exact kado
 ·exact kafj
 ·exact kae2
 ·exact kaem
 ·exact kaey
 ·exact kaf2
 ·exact kad7
instance tabP:Tab Tryz.prog:=⟨TT,kb0,by kernel_rfl⟩
structure S_utf8_acceptRange where
 f_lo:Int
 f_hi:Int
def koc (x:S_utf8_acceptRange):FV := .agg [eU8 (x.f_lo),eU8 (x.f_hi)]
def koe:En S_utf8_acceptRange:=⟨koc,2,fun x=>(koc x).cells,fun _=>rfl,fun _=>rfl⟩
def gt1:List Int:=[1,10,100,1000,10000,100000,1000000,10000000,100000000,1000000000,10000000000,100000000000,1000000000000,10000000000000,100000000000000,1000000000000000,10000000000000000,100000000000000000,1000000000000000000,10000000000000000000]
def gv1:Array Value:=#[.int .u64 1, .int .u64 10, .int .u64 100, .int .u64 1000, .int .u64 10000, .int .u64 100000, .int .u64 1000000, .int .u64 10000000, .int .u64 100000000, .int .u64 1000000000, .int .u64 10000000000, .int .u64 100000000000, .int .u64 1000000000000, .int .u64 10000000000000, .int .u64 100000000000000, .int .u64 1000000000000000, .int .u64 10000000000000000, .int .u64 100000000000000000, .int .u64 1000000000000000000, .int .u64 10000000000000000000]
def gt2:List Int:=[240,240,240,240,240,240,240,240,240,240,240,240,240,240,240,240,240,240,240,240,240,240,240,240,240,240,240,240,240,240,240,240,240,240,240,240,240,240,240,240,240,240,240,240,240,240,240,240,240,240,240,240,240,240,240,240,240,240,240,240,240,240,240,240,240,240,240,240,240,240,240,240,240,240,240,240,240,240,240,240,240,240,240,240,240,240,240,240,240,240,240,240,240,240,240,240,240,240,240,240,240,240,240,240,240,240,240,240,240,240,240,240,240,240,240,240,240,240,240,240,240,240,240,240,240,240,240,240,241,241,241,241,241,241,241,241,241,241,241,241,241,241,241,241,241,241,241,241,241,241,241,241,241,241,241,241,241,241,241,241,241,241,241,241,241,241,241,241,241,241,241,241,241,241,241,241,241,241,241,241,241,241,241,241,241,241,241,241,241,241,241,241,241,241,2,2,2,2,2,2,2,2,2,2,2,2,2,2,2,2,2,2,2,2,2,2,2,2,2,2,2,2,2,2,19,3,3,3,3,3,3,3,3,3,3,3,3,35,3,3,52,4,4,4,68,241,241,241,241,241,241,241,241,241,241,241]
def gv2:Array Value:=#[.int .u8 240, .int .u8 240, .int .u8 240, .int .u8 240, .int .u8 240, .int .u8 240, .int .u8 240, .int .u8 240, .int .u8 240, .int .u8 240, .int .u8 240, .int .u8 240, .int .u8 240, .int .u8 240, .int .u8 240, .int .u8 240, .int .u8 240, .int .u8 240, .int .u8 240, .int .u8 240, .int .u8 240, .int .u8 240, .int .u8 240, .int .u8 240, .int .u8 240, .int .u8 240, .int .u8 240, .int .u8 240, .int .u8 240, .int .u8 240, .int .u8 240, .int .u8 240, .int .u8 240, .int .u8 240, .int .u8 240, .int .u8 240, .int .u8 240, .int .u8 240, .int .u8 240, .int .u8 240, .int .u8 240, .int .u8 240, .int .u8 240, .int .u8 240, .int .u8 240, .int .u8 240, .int .u8 240, .int .u8 240, .int .u8 240, .int .u8 240, .int .u8 240, .int .u8 240, .int .u8 240, .int .u8 240, .int .u8 240, .int .u8 240, .int .u8 240, .int .u8 240, .int .u8 240, .int .u8 240, .int .u8 240, .int .u8 240, .int .u8 240, .int .u8 240, .int .u8 240, .int .u8 240, .int .u8 240, .int .u8 240, .int .u8 240, .int .u8 240, .int .u8 240, .int .u8 240, .int .u8 240, .int .u8 240, .int .u8 240, .int .u8 240, .int .u8 240, .int .u8 240, .int .u8 240, .int .u8 240, .int .u8 240, .int .u8 240, .int .u8 240, .int .u8 240, .int .u8 240, .int .u8 240, .int .u8 240, .int .u8 240, .int .u8 240, .int .u8 240, .int .u8 240, .int .u8 240, .int .u8 240, .int .u8 240, .int .u8 240, .int .u8 240, .int .u8 240, .int .u8 240, .int .u8 240, .int .u8 240, .int .u8 240, .int .u8 240, .int .u8 240, .int .u8 240, .int .u8 240, .int .u8 240, .int .u8 240, .int .u8 240, .int .u8 240, .int .u8 240, .int .u8 240, .int .u8 240, .int .u8 240, .int .u8 240, .int .u8 240, .int .u8 240, .int .u8 240, .int .u8 240, .int .u8 240, .int .u8 240, .int .u8 240, .int .u8 240, .int .u8 240, .int .u8 240, .int .u8 240, .int .u8 240, .int .u8 240, .int .u8 240, .int .u8 241, .int .u8 241, .int .u8 241, .int .u8 241, .int .u8 241, .int .u8 241, .int .u8 241, .int .u8 241, .int .u8 241, .int .u8 241, .int .u8 241, .int .u8 241, .int .u8 241, .int .u8 241, .int .u8 241, .int .u8 241, .int .u8 241, .int .u8 241, .int .u8 241, .int .u8 241, .int .u8 241, .int .u8 241, .int .u8 241, .int .u8 241, .int .u8 241, .int .u8 241, .int .u8 241, .int .u8 241, .int .u8 241, .int .u8 241, .int .u8 241, .int .u8 241, .int .u8 241, .int .u8 241, .int .u8 241, .int .u8 241, .int .u8 241, .int .u8 241, .int .u8 241, .int .u8 241, .int .u8 241, .int .u8 241, .int .u8 241, .int .u8 241, .int .u8 241, .int .u8 241, .int .u8 241, .int .u8 241, .int .u8 241, .int .u8 241, .int .u8 241, .int .u8 241, .int .u8 241, .int .u8 241, .int .u8 241, .int .u8 241, .int .u8 241, .int .u8 241, .int .u8 241, .int .u8 241, .int .u8 241, .int .u8 241, .int .u8 241, .int .u8 241, .int .u8 241, .int .u8 241, .int .u8 2, .int .u8 2, .int .u8 2, .int .u8 2, .int .u8 2, .int .u8 2, .int .u8 2, .int .u8 2, .int .u8 2, .int .u8 2, .int .u8 2, .int .u8 2, .int .u8 2, .int .u8 2, .int .u8 2, .int .u8 2, .int .u8 2, .int .u8 2, .int .u8 2, .int .u8 2, .int .u8 2, .int .u8 2, .int .u8 2, .int .u8 2, .int .u8 2, .int .u8 2, .int .u8 2, .int .u8 2, .int .u8 2, .int .u8 2, .int .u8 19, .int .u8 3, .int .u8 3, .int .u8 3, .int .u8 3, .int .u8 3, .int .u8 3, .int .u8 3, .int .u8 3, .int .u8 3, .int .u8 3, .int .u8 3, .int .u8 3, .int .u8 35, .int .u8 3, .int .u8 3, .int .u8 52, .int .u8 4, .int .u8 4, .int .u8 4, .int .u8 68, .int .u8 241, .int .u8 241, .int .u8 241, .int .u8 241, .int .u8 241, .int .u8 241, .int .u8 241, .int .u8 241, .int .u8 241, .int .u8 241, .int .u8 241]
theorem gt2_v:gv2.toList.map FV.atom=tabC nU8 gt2:=by kernel_rfl
theorem gt2_1:gv2.toList.all (·.oneCell')=true:=by kernel_rfl
def gt3:List S_utf8_acceptRange:=[S_utf8_acceptRange.mk 128 191,S_utf8_acceptRange.mk 160 191,S_utf8_acceptRange.mk 128 159,S_utf8_acceptRange.mk 144 191,S_utf8_acceptRange.mk 128 143,S_utf8_acceptRange.mk 0 0,S_utf8_acceptRange.mk 0 0,S_utf8_acceptRange.mk 0 0,S_utf8_acceptRange.mk 0 0,S_utf8_acceptRange.mk 0 0,S_utf8_acceptRange.mk 0 0,S_utf8_acceptRange.mk 0 0,S_utf8_acceptRange.mk 0 0,S_utf8_acceptRange.mk 0 0,S_utf8_acceptRange.mk 0 0,S_utf8_acceptRange.mk 0 0]
def gv3:Array Value:=#[.int .u8 128, .int .u8 191, .int .u8 160, .int .u8 191, .int .u8 128, .int .u8 159, .int .u8 144, .int .u8 191, .int .u8 128, .int .u8 143, .int .u8 0, .int .u8 0, .int .u8 0, .int .u8 0, .int .u8 0, .int .u8 0, .int .u8 0, .int .u8 0, .int .u8 0, .int .u8 0, .int .u8 0, .int .u8 0, .int .u8 0, .int .u8 0, .int .u8 0, .int .u8 0, .int .u8 0, .int .u8 0, .int .u8 0, .int .u8 0, .int .u8 0, .int .u8 0]
theorem gt3_v:gv3.toList.map FV.atom=tabC koe gt3:=by kernel_rfl
theorem gt3_1:gv3.toList.all (·.oneCell')=true:=by kernel_rfl
def gt4:List Int:=[0,1,28,2,29,14,24,3,30,22,20,15,25,17,4,8,31,27,13,23,21,19,16,7,26,12,18,6,11,5,10,9]
def gv4:Array Value:=#[.int .u8 0, .int .u8 1, .int .u8 28, .int .u8 2, .int .u8 29, .int .u8 14, .int .u8 24, .int .u8 3, .int .u8 30, .int .u8 22, .int .u8 20, .int .u8 15, .int .u8 25, .int .u8 17, .int .u8 4, .int .u8 8, .int .u8 31, .int .u8 27, .int .u8 13, .int .u8 23, .int .u8 21, .int .u8 19, .int .u8 16, .int .u8 7, .int .u8 26, .int .u8 12, .int .u8 18, .int .u8 6, .int .u8 11, .int .u8 5, .int .u8 10, .int .u8 9]
def gt5:List Int:=[0,1,56,2,57,49,28,3,61,58,42,50,38,29,17,4,62,47,59,36,45,43,51,22,53,39,33,30,24,18,12,5,63,55,48,27,60,41,37,16,46,35,44,21,52,32,23,11,54,26,40,15,34,20,31,10,25,14,19,9,13,8,7,6]
def gv5:Array Value:=#[.int .u8 0, .int .u8 1, .int .u8 56, .int .u8 2, .int .u8 57, .int .u8 49, .int .u8 28, .int .u8 3, .int .u8 61, .int .u8 58, .int .u8 42, .int .u8 50, .int .u8 38, .int .u8 29, .int .u8 17, .int .u8 4, .int .u8 62, .int .u8 47, .int .u8 59, .int .u8 36, .int .u8 45, .int .u8 43, .int .u8 51, .int .u8 22, .int .u8 53, .int .u8 39, .int .u8 33, .int .u8 30, .int .u8 24, .int .u8 18, .int .u8 12, .int .u8 5, .int .u8 63, .int .u8 55, .int .u8 48, .int .u8 27, .int .u8 60, .int .u8 41, .int .u8 37, .int .u8 16, .int .u8 46, .int .u8 35, .int .u8 44, .int .u8 21, .int .u8 52, .int .u8 32, .int .u8 23, .int .u8 11, .int .u8 54, .int .u8 26, .int .u8 40, .int .u8 15, .int .u8 34, .int .u8 20, .int .u8 31, .int .u8 10, .int .u8 25, .int .u8 14, .int .u8 19, .int .u8 9, .int .u8 13, .int .u8 8, .int .u8 7, .int .u8 6]
def GV:List (Nat×Array Value):=[(1,gv1),(2,gv2),(3,gv3),(4,gv4),(5,gv5),(0,#[])]
theorem kaku:powV=gv1:=by kernel_rfl
theorem k6t : ∀ (n : Int), -9223372036854775808 ≤ n → n ≤ 9223372036854775807 → ∀ w : World, w.var? Tryz.prog "internal/strconv.uint64pow10" = some gv1 → Calls Tryz.prog 151 #[.int .i64 n, .int .i64 10] w fun e w' => e = .returned (.string ⟨(Lib.itoa n).toArray⟩) ∧ ∃ k os, w' = Sort.grow (w.drewN k) os := kaku ▸ kahn
end Go.Proofs.YtaimpcnpifoidaaGreatDoor
