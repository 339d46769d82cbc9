import Derived.Test.YtaimpcnpifoidaaGreatDoorOpg
import Derived.Test.YtaimpcnpifoidaaGreatDoorSh
import Derived.Test.YtaimpcnpifoidaaGreatDoorMe
import Derived.Test.YtaimpcnpifoidaaGreatDoorJn
import Derived.Test.YtaimpcnpifoidaaGreatDoorProg
set_option linter.unusedVariables false
set_option linter.unusedSimpArgs false
namespace Go.Proofs.YtaimpcnpifoidaaGreatDoor
open Go Go.RowKit
def tt2:TD:=⟨1,8, .int .i64,[.int .i64 0]⟩
def tt3:TD:=⟨1,8, .int .i64,[.int .i64 0]⟩
def tt4:TD:=⟨1,1, .bool,[.bool false]⟩
def tt5:TD:=⟨1,1, .int .u8,[.int .u8 0]⟩
def tt9:TD:=⟨1,16, .str,[.string ⟨#[]⟩]⟩
def tt20:TD:=⟨1,16, .ifc,[.nilIface]⟩
def tt21:TD:=⟨1,4, .int .i32,[.int .i32 0]⟩
def tt22:TD:=⟨1,24, .slice 3,[.slice none 0 0]⟩
def tt23:TD:=⟨1,24, .slice 92,[.slice none 0 0]⟩
def tt24:TD:=⟨1,24, .slice 45,[.slice none 0 0]⟩
def tt26:TD:=⟨4,88, .st [(9,0),(22,1),(23,2),(24,3)],[.string ⟨#[]⟩, .slice none 0 0, .slice none 0 0, .slice none 0 0]⟩
def tt27:TD:=⟨1,24, .slice 29,[.slice none 0 0]⟩
def tt29:TD:=⟨2,32, .st [(3,0),(27,1)],[.int .i64 0, .slice none 0 0]⟩
def tt33:TD:=⟨1,8, .int .i64,[.int .i64 0]⟩
def tt41:TD:=⟨1,24, .slice 43,[.slice none 0 0]⟩
def tt43:TD:=⟨4,56, .st [(3,0),(2,1),(9,2),(41,3)],[.int .i64 0, .int .i64 0, .string ⟨#[]⟩, .slice none 0 0]⟩
def tt45:TD:=⟨9,120, .st [(3,0),(3,1),(3,2),(43,3),(9,7),(22,8)],[.int .i64 0, .int .i64 0, .int .i64 0, .int .i64 0, .int .i64 0, .string ⟨#[]⟩, .slice none 0 0, .string ⟨#[]⟩, .slice none 0 0]⟩
def tt55:TD:=⟨1,8, .ptr 58,[.pointer none]⟩
def tt56:TD:=⟨1,24, .slice 5,[.slice none 0 0]⟩
def tt58:TD:=⟨2,32, .st [(55,0),(56,1)],[.pointer none, .slice none 0 0]⟩
def tt62:TD:=⟨1,8, .ptr 129,[.pointer none]⟩
def tt65:TD:=⟨1,8, .ptr 68,[.pointer none]⟩
def tt66:TD:=⟨1,8, .map 123 70,[.map none]⟩
def tt68:TD:=⟨5,96, .st [(26,0),(66,4)],[.string ⟨#[]⟩, .slice none 0 0, .slice none 0 0, .slice none 0 0, .map none]⟩
def tt70:TD:=⟨3,40, .st [(29,0),(4,2)],[.int .i64 0, .slice none 0 0, .bool false]⟩
def tt73:TD:=⟨1,24, .slice 75,[.slice none 0 0]⟩
def tt75:TD:=⟨7,104, .st [(3,0),(43,1),(9,5),(73,6)],[.int .i64 0, .int .i64 0, .int .i64 0, .string ⟨#[]⟩, .slice none 0 0, .string ⟨#[]⟩, .slice none 0 0]⟩
def tt78:TD:=⟨1,24, .slice 4,[.slice none 0 0]⟩
def tt84:TD:=⟨1,24, .slice 9,[.slice none 0 0]⟩
def tt92:TD:=⟨2,24, .st [(9,0),(3,1)],[.string ⟨#[]⟩, .int .i64 0]⟩
def tt94:TD:=⟨1,8, .ptr 97,[.pointer none]⟩
def tt95:TD:=⟨1,8, .map 9 3,[.map none]⟩
def tt97:TD:=⟨5,96, .st [(26,0),(95,4)],[.string ⟨#[]⟩, .slice none 0 0, .slice none 0 0, .slice none 0 0, .map none]⟩
def kxa:TD:=⟨1,8, .map 9 4,[.map none]⟩
def k5p:TD:=⟨1,8, .fn,[.nilFunc]⟩
def k6p:TD:=⟨1,8, .ptr 5,[.pointer none]⟩
def k55:TD:=⟨1,8, .int .i64,[.int .i64 0]⟩
def k6q:TD:=⟨1,8, .ptr 120,[.pointer none]⟩
def k5f:TD:=⟨2,24, .st [(9,0),(3,1)],[.string ⟨#[]⟩, .int .i64 0]⟩
def k6k:TD:=⟨2,16, .st [(62,0),(3,1)],[.pointer none, .int .i64 0]⟩
def k6r:TD:=⟨1,24, .slice 62,[.slice none 0 0]⟩
def k5m:TD:=⟨8,112, .st [(3,0),(3,1),(43,2),(9,6),(127,7)],[.int .i64 0, .int .i64 0, .int .i64 0, .int .i64 0, .string ⟨#[]⟩, .slice none 0 0, .string ⟨#[]⟩, .slice none 0 0]⟩
def k5e:TD:=⟨3,48, .st [(9,0),(22,1),(3,2)],[.string ⟨#[]⟩, .slice none 0 0, .int .i64 0]⟩
def k54:TD:=⟨1,24, .slice 27,[.slice none 0 0]⟩
def k5g:TD:=⟨1,24, .slice 78,[.slice none 0 0]⟩
def kz8:TD:=⟨9,144, .arr 9 9,[.string ⟨#[]⟩, .string ⟨#[]⟩, .string ⟨#[]⟩, .string ⟨#[]⟩, .string ⟨#[]⟩, .string ⟨#[]⟩, .string ⟨#[]⟩, .string ⟨#[]⟩, .string ⟨#[]⟩]⟩
def k6y:TD:=⟨1,24, .slice 169,[.slice none 0 0]⟩
def k4x:TD:=⟨3,48, .arr 3 9,[.string ⟨#[]⟩, .string ⟨#[]⟩, .string ⟨#[]⟩]⟩
def k5s:TD:=⟨4,64, .st [(134,0),(9,3)],[.string ⟨#[]⟩, .slice none 0 0, .int .i64 0, .string ⟨#[]⟩]⟩
def k5j:TD:=⟨1,8, .int .u64,[.int .u64 0]⟩
def k60:TD:=⟨1,8, .ptr 202,[.pointer none]⟩
def k42:TD:=⟨2,24, .st [(9,0),(3,1)],[.string ⟨#[]⟩, .int .i64 0]⟩
def k49:TD:=⟨1,8, .fn,[.nilFunc]⟩
def k6d:TD:=⟨1,24, .slice 187,[.slice none 0 0]⟩
def k6i:TD:=⟨24,24, .arr 24 5,[.int .u8 0, .int .u8 0, .int .u8 0, .int .u8 0, .int .u8 0, .int .u8 0, .int .u8 0, .int .u8 0, .int .u8 0, .int .u8 0, .int .u8 0, .int .u8 0, .int .u8 0, .int .u8 0, .int .u8 0, .int .u8 0, .int .u8 0, .int .u8 0, .int .u8 0, .int .u8 0, .int .u8 0, .int .u8 0, .int .u8 0, .int .u8 0]⟩
def k4w:TD:=⟨1,8, .int .u64,[.int .u64 0]⟩
def k48:TD:=⟨1,4, .int .u32,[.int .u32 0]⟩
def k4u:TD:=⟨1,24, .slice 208,[.slice none 0 0]⟩
def k43:TD:=⟨20,160, .arr 20 218,[.int .u64 0, .int .u64 0, .int .u64 0, .int .u64 0, .int .u64 0, .int .u64 0, .int .u64 0, .int .u64 0, .int .u64 0, .int .u64 0, .int .u64 0, .int .u64 0, .int .u64 0, .int .u64 0, .int .u64 0, .int .u64 0, .int .u64 0, .int .u64 0, .int .u64 0, .int .u64 0]⟩
def kz6:TD:=⟨2,2, .st [(5,0),(5,1)],[.int .u8 0, .int .u8 0]⟩
def k6o:TD:=⟨32,32, .arr 16 248,[.int .u8 0, .int .u8 0, .int .u8 0, .int .u8 0, .int .u8 0, .int .u8 0, .int .u8 0, .int .u8 0, .int .u8 0, .int .u8 0, .int .u8 0, .int .u8 0, .int .u8 0, .int .u8 0, .int .u8 0, .int .u8 0, .int .u8 0, .int .u8 0, .int .u8 0, .int .u8 0, .int .u8 0, .int .u8 0, .int .u8 0, .int .u8 0, .int .u8 0, .int .u8 0, .int .u8 0, .int .u8 0, .int .u8 0, .int .u8 0, .int .u8 0, .int .u8 0]⟩
def k6m:TD:=⟨32,32, .arr 32 5,[.int .u8 0, .int .u8 0, .int .u8 0, .int .u8 0, .int .u8 0, .int .u8 0, .int .u8 0, .int .u8 0, .int .u8 0, .int .u8 0, .int .u8 0, .int .u8 0, .int .u8 0, .int .u8 0, .int .u8 0, .int .u8 0, .int .u8 0, .int .u8 0, .int .u8 0, .int .u8 0, .int .u8 0, .int .u8 0, .int .u8 0, .int .u8 0, .int .u8 0, .int .u8 0, .int .u8 0, .int .u8 0, .int .u8 0, .int .u8 0, .int .u8 0, .int .u8 0]⟩
def k52:TD:=⟨64,64, .arr 64 5,[.int .u8 0, .int .u8 0, .int .u8 0, .int .u8 0, .int .u8 0, .int .u8 0, .int .u8 0, .int .u8 0, .int .u8 0, .int .u8 0, .int .u8 0, .int .u8 0, .int .u8 0, .int .u8 0, .int .u8 0, .int .u8 0, .int .u8 0, .int .u8 0, .int .u8 0, .int .u8 0, .int .u8 0, .int .u8 0, .int .u8 0, .int .u8 0, .int .u8 0, .int .u8 0, .int .u8 0, .int .u8 0, .int .u8 0, .int .u8 0, .int .u8 0, .int .u8 0, .int .u8 0, .int .u8 0, .int .u8 0, .int .u8 0, .int .u8 0, .int .u8 0, .int .u8 0, .int .u8 0, .int .u8 0, .int .u8 0, .int .u8 0, .int .u8 0, .int .u8 0, .int .u8 0, .int .u8 0, .int .u8 0, .int .u8 0, .int .u8 0, .int .u8 0, .int .u8 0, .int .u8 0, .int .u8 0, .int .u8 0, .int .u8 0, .int .u8 0, .int .u8 0, .int .u8 0, .int .u8 0, .int .u8 0, .int .u8 0, .int .u8 0, .int .u8 0]⟩
def TT:List (TypeId×TD):=[(2,tt2),(3,tt3),(4,tt4),(5,tt5),(9,tt9),(20,tt20),(21,tt21),(22,tt22),(23,tt23),(24,tt24),(26,tt26),(27,tt27),(29,tt29),(33,tt33),(41,tt41),(43,tt43),(45,tt45),(55,tt55),(56,tt56),(58,tt58),(62,tt62),(65,tt65),(66,tt66),(68,tt68),(70,tt70),(73,tt73),(75,tt75),(78,tt78),(84,tt84),(92,tt92),(94,tt94),(95,tt95),(97,tt97),(109,kxa),(111,k5p),(115,k6p),(117,k55),(118,k6q),(120,k5f),(123,k6k),(127,k6r),(129,k5m),(134,k5e),(137,k54),(138,k5g),(141,kz8),(167,k6y),(169,k4x),(187,k5s),(198,k5j),(200,k60),(202,k42),(204,k49),(208,k6d),(217,k6i),(218,k4w),(224,k48),(235,k4u),(236,k43),(248,kz6),(249,k6o),(250,k6m),(251,k52)]
theorem kag8:TdOk Tryz.prog 2 tt2:=⟨⟨_,_,show Tryz.prog.info? 2=some Tryz.t2 from by kernel_rfl,by kernel_rfl,by kernel_rfl,rfl,rfl⟩,_,Tryz.underlying2,by simp [kal,tt2]⟩
theorem kagk:TdOk Tryz.prog 3 tt3:=⟨⟨_,_,show Tryz.prog.info? 3=some Tryz.t3 from by kernel_rfl,by kernel_rfl,by kernel_rfl,rfl,rfl⟩,_,Tryz.underlying3,by simp [kal,tt3]⟩
theorem kaf3:TdOk Tryz.prog 4 tt4:=⟨⟨_,_,show Tryz.prog.info? 4=some Tryz.t4 from by kernel_rfl,by kernel_rfl,by kernel_rfl,rfl,rfl⟩,_,Tryz.underlying4,by simp [kal,tt4]⟩
theorem kahb:TdOk Tryz.prog 5 tt5:=⟨⟨_,_,show Tryz.prog.info? 5=some Tryz.t5 from by kernel_rfl,by kernel_rfl,by kernel_rfl,rfl,rfl⟩,_,Tryz.underlying5,by simp [kal,tt5]⟩
theorem kag7:TdOk Tryz.prog 9 tt9:=⟨⟨_,_,show Tryz.prog.info? 9=some Tryz.t9 from by kernel_rfl,by kernel_rfl,by kernel_rfl,rfl,rfl⟩,_,Tryz.underlying9,by simp [kal,tt9]⟩
theorem kaft:TdOk Tryz.prog 20 tt20:=⟨⟨_,_,show Tryz.prog.info? 20=some Tryz.t20 from by kernel_rfl,by kernel_rfl,by kernel_rfl,rfl,rfl⟩,_,Tryz.underlying20,by simp [kal,tt20]⟩
theorem kaeo:TdOk Tryz.prog 21 tt21:=⟨⟨_,_,show Tryz.prog.info? 21=some Tryz.t21 from by kernel_rfl,by kernel_rfl,by kernel_rfl,rfl,rfl⟩,_,Tryz.underlying21,by simp [kal,tt21]⟩
theorem kafh:TdOk Tryz.prog 22 tt22:=⟨⟨_,_,show Tryz.prog.info? 22=some Tryz.t22 from by kernel_rfl,by kernel_rfl,by kernel_rfl,rfl,rfl⟩,_,Tryz.underlying22,by simp [kal,tt22]⟩
theorem kae1:TdOk Tryz.prog 23 tt23:=⟨⟨_,_,show Tryz.prog.info? 23=some Tryz.t23 from by kernel_rfl,by kernel_rfl,by kernel_rfl,rfl,rfl⟩,_,Tryz.underlying23,by simp [kal,tt23]⟩
theorem kafi:TdOk Tryz.prog 24 tt24:=⟨⟨_,_,show Tryz.prog.info? 24=some Tryz.t24 from by kernel_rfl,by kernel_rfl,by kernel_rfl,rfl,rfl⟩,_,Tryz.underlying24,by simp [kal,tt24]⟩
theorem kadq:TdOk Tryz.prog 26 tt26:=⟨⟨_,_,show Tryz.prog.info? 26=some Tryz.t26 from by kernel_rfl,by kernel_rfl,by kernel_rfl,rfl,rfl⟩,_,Tryz.underlying26,by simp [kal,tt26]⟩
theorem kadh:TdOk Tryz.prog 27 tt27:=⟨⟨_,_,show Tryz.prog.info? 27=some Tryz.t27 from by kernel_rfl,by kernel_rfl,by kernel_rfl,rfl,rfl⟩,_,Tryz.underlying27,by simp [kal,tt27]⟩
theorem kaek:TdOk Tryz.prog 29 tt29:=⟨⟨_,_,show Tryz.prog.info? 29=some Tryz.t29 from by kernel_rfl,by kernel_rfl,by kernel_rfl,rfl,rfl⟩,_,Tryz.underlying29,by simp [kal,tt29]⟩
theorem kady:TdOk Tryz.prog 33 tt33:=⟨⟨_,_,show Tryz.prog.info? 33=some Tryz.t33 from by kernel_rfl,by kernel_rfl,by kernel_rfl,rfl,rfl⟩,_,Tryz.underlying33,by simp [kal,tt33]⟩
theorem kaeu:TdOk Tryz.prog 41 tt41:=⟨⟨_,_,show Tryz.prog.info? 41=some Tryz.t41 from by kernel_rfl,by kernel_rfl,by kernel_rfl,rfl,rfl⟩,_,Tryz.underlying41,by simp [kal,tt41]⟩
theorem kafe:TdOk Tryz.prog 43 tt43:=⟨⟨_,_,show Tryz.prog.info? 43=some Tryz.t43 from by kernel_rfl,by kernel_rfl,by kernel_rfl,rfl,rfl⟩,_,Tryz.underlying43,by simp [kal,tt43]⟩
theorem kae8:TdOk Tryz.prog 45 tt45:=⟨⟨_,_,show Tryz.prog.info? 45=some Tryz.t45 from by kernel_rfl,by kernel_rfl,by kernel_rfl,rfl,rfl⟩,_,Tryz.underlying45,by simp [kal,tt45]⟩
theorem kafb:TdOk Tryz.prog 55 tt55:=⟨⟨_,_,show Tryz.prog.info? 55=some Tryz.t55 from by kernel_rfl,by kernel_rfl,by kernel_rfl,rfl,rfl⟩,_,Tryz.underlying55,by simp [kal,tt55]⟩
theorem kaet:TdOk Tryz.prog 56 tt56:=⟨⟨_,_,show Tryz.prog.info? 56=some Tryz.t56 from by kernel_rfl,by kernel_rfl,by kernel_rfl,rfl,rfl⟩,_,Tryz.underlying56,by simp [kal,tt56]⟩
theorem kaej:TdOk Tryz.prog 58 tt58:=⟨⟨_,_,show Tryz.prog.info? 58=some Tryz.t58 from by kernel_rfl,by kernel_rfl,by kernel_rfl,rfl,rfl⟩,_,Tryz.underlying58,by simp [kal,tt58]⟩
theorem kadz:TdOk Tryz.prog 62 tt62:=⟨⟨_,_,show Tryz.prog.info? 62=some Tryz.t62 from by kernel_rfl,by kernel_rfl,by kernel_rfl,rfl,rfl⟩,_,Tryz.underlying62,by simp [kal,tt62]⟩
theorem kaez:TdOk Tryz.prog 65 tt65:=⟨⟨_,_,show Tryz.prog.info? 65=some Tryz.t65 from by kernel_rfl,by kernel_rfl,by kernel_rfl,rfl,rfl⟩,_,Tryz.underlying65,by simp [kal,tt65]⟩
theorem kafn:TdOk Tryz.prog 66 tt66:=⟨⟨_,_,show Tryz.prog.info? 66=some Tryz.t66 from by kernel_rfl,by kernel_rfl,by kernel_rfl,rfl,rfl⟩,_,Tryz.underlying66,by simp [kal,tt66]⟩
theorem kaev:TdOk Tryz.prog 68 tt68:=⟨⟨_,_,show Tryz.prog.info? 68=some Tryz.t68 from by kernel_rfl,by kernel_rfl,by kernel_rfl,rfl,rfl⟩,_,Tryz.underlying68,by simp [kal,tt68]⟩
theorem kafq:TdOk Tryz.prog 70 tt70:=⟨⟨_,_,show Tryz.prog.info? 70=some Tryz.t70 from by kernel_rfl,by kernel_rfl,by kernel_rfl,rfl,rfl⟩,_,Tryz.underlying70,by simp [kal,tt70]⟩
theorem kaei:TdOk Tryz.prog 73 tt73:=⟨⟨_,_,show Tryz.prog.info? 73=some Tryz.t73 from by kernel_rfl,by kernel_rfl,by kernel_rfl,rfl,rfl⟩,_,Tryz.underlying73,by simp [kal,tt73]⟩
theorem kadu:TdOk Tryz.prog 75 tt75:=⟨⟨_,_,show Tryz.prog.info? 75=some Tryz.t75 from by kernel_rfl,by kernel_rfl,by kernel_rfl,rfl,rfl⟩,_,Tryz.underlying75,by simp [kal,tt75]⟩
theorem kadw:TdOk Tryz.prog 78 tt78:=⟨⟨_,_,show Tryz.prog.info? 78=some Tryz.t78 from by kernel_rfl,by kernel_rfl,by kernel_rfl,rfl,rfl⟩,_,Tryz.underlying78,by simp [kal,tt78]⟩
theorem kafa:TdOk Tryz.prog 84 tt84:=⟨⟨_,_,show Tryz.prog.info? 84=some Tryz.t84 from by kernel_rfl,by kernel_rfl,by kernel_rfl,rfl,rfl⟩,_,Tryz.underlying84,by simp [kal,tt84]⟩
theorem kaem:TdOk Tryz.prog 92 tt92:=⟨⟨_,_,show Tryz.prog.info? 92=some Tryz.t92 from by kernel_rfl,by kernel_rfl,by kernel_rfl,rfl,rfl⟩,_,Tryz.underlying92,by simp [kal,tt92]⟩
theorem kaes:TdOk Tryz.prog 94 tt94:=⟨⟨_,_,show Tryz.prog.info? 94=some Tryz.t94 from by kernel_rfl,by kernel_rfl,by kernel_rfl,rfl,rfl⟩,_,Tryz.underlying94,by simp [kal,tt94]⟩
theorem kadx:TdOk Tryz.prog 95 tt95:=⟨⟨_,_,show Tryz.prog.info? 95=some Tryz.t95 from by kernel_rfl,by kernel_rfl,by kernel_rfl,rfl,rfl⟩,_,Tryz.underlying95,by simp [kal,tt95]⟩
theorem kad1:TdOk Tryz.prog 97 tt97:=⟨⟨_,_,show Tryz.prog.info? 97=some Tryz.t97 from by kernel_rfl,by kernel_rfl,by kernel_rfl,rfl,rfl⟩,_,Tryz.underlying97,by simp [kal,tt97]⟩
theorem k9k:TdOk Tryz.prog 109 kxa:=⟨⟨_,_,show Tryz.prog.info? 109=some Tryz.t109 from by kernel_rfl,by kernel_rfl,by kernel_rfl,rfl,rfl⟩,_,Tryz.underlying109,by simp [kal,kxa]⟩
theorem kabh:TdOk Tryz.prog 111 k5p:=⟨⟨_,_,show Tryz.prog.info? 111=some Tryz.t111 from by kernel_rfl,by kernel_rfl,by kernel_rfl,rfl,rfl⟩,_,Tryz.underlying111,by simp [kal,k5p]⟩
theorem kaad:TdOk Tryz.prog 115 k6p:=⟨⟨_,_,show Tryz.prog.info? 115=some Tryz.t115 from by kernel_rfl,by kernel_rfl,by kernel_rfl,rfl,rfl⟩,_,Tryz.underlying115,by simp [kal,k6p]⟩
theorem k9t:TdOk Tryz.prog 117 k55:=⟨⟨_,_,show Tryz.prog.info? 117=some Tryz.t117 from by kernel_rfl,by kernel_rfl,by kernel_rfl,rfl,rfl⟩,_,Tryz.underlying117,by simp [kal,k55]⟩
theorem kaas:TdOk Tryz.prog 118 k6q:=⟨⟨_,_,show Tryz.prog.info? 118=some Tryz.t118 from by kernel_rfl,by kernel_rfl,by kernel_rfl,rfl,rfl⟩,_,Tryz.underlying118,by simp [kal,k6q]⟩
theorem kaaq:TdOk Tryz.prog 120 k5f:=⟨⟨_,_,show Tryz.prog.info? 120=some Tryz.t120 from by kernel_rfl,by kernel_rfl,by kernel_rfl,rfl,rfl⟩,_,Tryz.underlying120,by simp [kal,k5f]⟩
theorem k9l:TdOk Tryz.prog 123 k6k:=⟨⟨_,_,show Tryz.prog.info? 123=some Tryz.t123 from by kernel_rfl,by kernel_rfl,by kernel_rfl,rfl,rfl⟩,_,Tryz.underlying123,by simp [kal,k6k]⟩
theorem kaci:TdOk Tryz.prog 127 k6r:=⟨⟨_,_,show Tryz.prog.info? 127=some Tryz.t127 from by kernel_rfl,by kernel_rfl,by kernel_rfl,rfl,rfl⟩,_,Tryz.underlying127,by simp [kal,k6r]⟩
theorem kaa5:TdOk Tryz.prog 129 k5m:=⟨⟨_,_,show Tryz.prog.info? 129=some Tryz.t129 from by kernel_rfl,by kernel_rfl,by kernel_rfl,rfl,rfl⟩,_,Tryz.underlying129,by simp [kal,k5m]⟩
theorem kabb:TdOk Tryz.prog 134 k5e:=⟨⟨_,_,show Tryz.prog.info? 134=some Tryz.t134 from by kernel_rfl,by kernel_rfl,by kernel_rfl,rfl,rfl⟩,_,Tryz.underlying134,by simp [kal,k5e]⟩
theorem kab3:TdOk Tryz.prog 137 k54:=⟨⟨_,_,show Tryz.prog.info? 137=some Tryz.t137 from by kernel_rfl,by kernel_rfl,by kernel_rfl,rfl,rfl⟩,_,Tryz.underlying137,by simp [kal,k54]⟩
theorem kaaj:TdOk Tryz.prog 138 k5g:=⟨⟨_,_,show Tryz.prog.info? 138=some Tryz.t138 from by kernel_rfl,by kernel_rfl,by kernel_rfl,rfl,rfl⟩,_,Tryz.underlying138,by simp [kal,k5g]⟩
theorem kabd:TdOk Tryz.prog 141 kz8:=⟨⟨_,_,show Tryz.prog.info? 141=some Tryz.t141 from by kernel_rfl,by kernel_rfl,by kernel_rfl,rfl,rfl⟩,_,Tryz.underlying141,by simp [kal,kz8]⟩
theorem kabp:TdOk Tryz.prog 167 k6y:=⟨⟨_,_,show Tryz.prog.info? 167=some Tryz.t167 from by kernel_rfl,by kernel_rfl,by kernel_rfl,rfl,rfl⟩,_,Tryz.underlying167,by simp [kal,k6y]⟩
theorem k98:TdOk Tryz.prog 169 k4x:=⟨⟨_,_,show Tryz.prog.info? 169=some Tryz.t169 from by kernel_rfl,by kernel_rfl,by kernel_rfl,rfl,rfl⟩,_,Tryz.underlying169,by simp [kal,k4x]⟩
theorem kabr:TdOk Tryz.prog 187 k5s:=⟨⟨_,_,show Tryz.prog.info? 187=some Tryz.t187 from by kernel_rfl,by kernel_rfl,by kernel_rfl,rfl,rfl⟩,_,Tryz.underlying187,by simp [kal,k5s]⟩
theorem kaa2:TdOk Tryz.prog 198 k5j:=⟨⟨_,_,show Tryz.prog.info? 198=some Tryz.t198 from by kernel_rfl,by kernel_rfl,by kernel_rfl,rfl,rfl⟩,_,Tryz.underlying198,by simp [kal,k5j]⟩
theorem k91:TdOk Tryz.prog 200 k60:=⟨⟨_,_,show Tryz.prog.info? 200=some Tryz.t200 from by kernel_rfl,by kernel_rfl,by kernel_rfl,rfl,rfl⟩,_,Tryz.underlying200,by simp [kal,k60]⟩
theorem kab1:TdOk Tryz.prog 202 k42:=⟨⟨_,_,show Tryz.prog.info? 202=some Tryz.t202 from by kernel_rfl,by kernel_rfl,by kernel_rfl,rfl,rfl⟩,_,Tryz.underlying202,by simp [kal,k42]⟩
theorem k96:TdOk Tryz.prog 204 k49:=⟨⟨_,_,show Tryz.prog.info? 204=some Tryz.t204 from by kernel_rfl,by kernel_rfl,by kernel_rfl,rfl,rfl⟩,_,Tryz.underlying204,by simp [kal,k49]⟩
theorem kab6:TdOk Tryz.prog 208 k6d:=⟨⟨_,_,show Tryz.prog.info? 208=some Tryz.t208 from by kernel_rfl,by kernel_rfl,by kernel_rfl,rfl,rfl⟩,_,Tryz.underlying208,by simp [kal,k6d]⟩
theorem k90:TdOk Tryz.prog 217 k6i:=⟨⟨_,_,show Tryz.prog.info? 217=some Tryz.t217 from by kernel_rfl,by kernel_rfl,by kernel_rfl,rfl,rfl⟩,_,Tryz.underlying217,by simp [kal,k6i]⟩
theorem kaah:TdOk Tryz.prog 218 k4w:=⟨⟨_,_,show Tryz.prog.info? 218=some Tryz.t218 from by kernel_rfl,by kernel_rfl,by kernel_rfl,rfl,rfl⟩,_,Tryz.underlying218,by simp [kal,k4w]⟩
theorem kacj:TdOk Tryz.prog 224 k48:=⟨⟨_,_,show Tryz.prog.info? 224=some Tryz.t224 from by kernel_rfl,by kernel_rfl,by kernel_rfl,rfl,rfl⟩,_,Tryz.underlying224,by simp [kal,k48]⟩
theorem kacc:TdOk Tryz.prog 235 k4u:=⟨⟨_,_,show Tryz.prog.info? 235=some Tryz.t235 from by kernel_rfl,by kernel_rfl,by kernel_rfl,rfl,rfl⟩,_,Tryz.underlying235,by simp [kal,k4u]⟩
theorem kaaf:TdOk Tryz.prog 236 k43:=⟨⟨_,_,show Tryz.prog.info? 236=some Tryz.t236 from by kernel_rfl,by kernel_rfl,by kernel_rfl,rfl,rfl⟩,_,Tryz.underlying236,by simp [kal,k43]⟩
theorem kabw:TdOk Tryz.prog 248 kz6:=⟨⟨_,_,show Tryz.prog.info? 248=some Tryz.t248 from by kernel_rfl,by kernel_rfl,by kernel_rfl,rfl,rfl⟩,_,Tryz.underlying248,by simp [kal,kz6]⟩
theorem k95:TdOk Tryz.prog 249 k6o:=⟨⟨_,_,show Tryz.prog.info? 249=some Tryz.t249 from by kernel_rfl,by kernel_rfl,by kernel_rfl,rfl,rfl⟩,_,Tryz.underlying249,by simp [kal,k6o]⟩
theorem kaag:TdOk Tryz.prog 250 k6m:=⟨⟨_,_,show Tryz.prog.info? 250=some Tryz.t250 from by kernel_rfl,by kernel_rfl,by kernel_rfl,rfl,rfl⟩,_,Tryz.underlying250,by simp [kal,k6m]⟩
theorem kacb:TdOk Tryz.prog 251 k52:=⟨⟨_,_,show Tryz.prog.info? 251=some Tryz.t251 from by kernel_rfl,by kernel_rfl,by kernel_rfl,rfl,rfl⟩,_,Tryz.underlying251,by simp [kal,k52]⟩
theorem kbv:TOk Tryz.prog TT:=by
 intro p hp
 simp only [TT,qz,List.not_mem_nil,or_false] at hp
 rcases hp with rfl | rfl | rfl | rfl | rfl | rfl | rfl | rfl | rfl | rfl | rfl | rfl | rfl | rfl | rfl | rfl | rfl | rfl | rfl | rfl | rfl | rfl | rfl | rfl | rfl | rfl | rfl | rfl | rfl | rfl | rfl | rfl | rfl | rfl | rfl | rfl | rfl | rfl | rfl | rfl | rfl | rfl | rfl | rfl | rfl | rfl | rfl | rfl | rfl | rfl | rfl | rfl | rfl | rfl | rfl | rfl | rfl | rfl | rfl | rfl | rfl | rfl | rfl
 ·exact kag8
 ·exact kagk
 ·exact kaf3
 ·exact kahb
 ·exact kag7
 ·exact kaft
 ·exact kaeo
 ·exact kafh
 ·exact kae1
 ·exact kafi
 ·exact kadq
 ·exact kadh
 ·exact kaek
 ·exact kady
 ·exact kaeu
 ·exact kafe
 ·exact kae8
 ·exact kafb
 ·exact kaet
 ·exact kaej
 ·exact kadz
 ·exact kaez
 ·exact kafn
 ·exact kaev
 ·exact kafq
 ·exact kaei
 ·exact kadu
 ·exact kadw
 ·exact kafa
 ·exact kaem
 ·exact kaes
 ·exact kadx
 ·exact kad1
 ·exact k9k
 ·exact kabh
 ·exact kaad
 ·exact k9t
 ·exact kaas
 ·exact kaaq
 ·exact k9l
 ·exact kaci
 ·exact kaa5
 ·exact kabb
 ·exact kab3
 ·exact kaaj
 ·exact kabd
 ·exact kabp
 ·exact k98
 ·exact kabr
 ·exact kaa2
 ·exact k91
 ·exact kab1
 ·exact k96
 ·exact kab6
 ·exact k90
 ·exact kaah
 ·exact kacj
 ·exact kacc
 ·exact kaaf
 ·exact kabw
 ·exact k95
 ·exact kaag
 ·exact kacb
instance tabP:Tab Tryz.prog:=⟨TT,kbv,by kernel_rfl⟩
structure S_utf8_acceptRange where
 f_lo:Int
 f_hi:Int
def kmy (x:S_utf8_acceptRange):FV := .agg [eU8 (x.f_lo),eU8 (x.f_hi)]
def kmz:En S_utf8_acceptRange:=⟨kmy,2,fun x=>(kmy x).cells,fun _=>rfl,fun _=>rfl⟩
def gt1:List Int:=[1,10,100,1000,10000,100000,1000000,10000000,100000000,1000000000,10000000000,100000000000,1000000000000,10000000000000,100000000000000,1000000000000000,10000000000000000,100000000000000000,1000000000000000000,10000000000000000000]
def gv1:Array Value:=#[.int .u64 1, .int .u64 10, .int .u64 100, .int .u64 1000, .int .u64 10000, .int .u64 100000, .int .u64 1000000, .int .u64 10000000, .int .u64 100000000, .int .u64 1000000000, .int .u64 10000000000, .int .u64 100000000000, .int .u64 1000000000000, .int .u64 10000000000000, .int .u64 100000000000000, .int .u64 1000000000000000, .int .u64 10000000000000000, .int .u64 100000000000000000, .int .u64 1000000000000000000, .int .u64 10000000000000000000]
def gt2:List Int:=[240,240,240,240,240,240,240,240,240,240,240,240,240,240,240,240,240,240,240,240,240,240,240,240,240,240,240,240,240,240,240,240,240,240,240,240,240,240,240,240,240,240,240,240,240,240,240,240,240,240,240,240,240,240,240,240,240,240,240,240,240,240,240,240,240,240,240,240,240,240,240,240,240,240,240,240,240,240,240,240,240,240,240,240,240,240,240,240,240,240,240,240,240,240,240,240,240,240,240,240,240,240,240,240,240,240,240,240,240,240,240,240,240,240,240,240,240,240,240,240,240,240,240,240,240,240,240,240,241,241,241,241,241,241,241,241,241,241,241,241,241,241,241,241,241,241,241,241,241,241,241,241,241,241,241,241,241,241,241,241,241,241,241,241,241,241,241,241,241,241,241,241,241,241,241,241,241,241,241,241,241,241,241,241,241,241,241,241,241,241,241,241,241,241,2,2,2,2,2,2,2,2,2,2,2,2,2,2,2,2,2,2,2,2,2,2,2,2,2,2,2,2,2,2,19,3,3,3,3,3,3,3,3,3,3,3,3,35,3,3,52,4,4,4,68,241,241,241,241,241,241,241,241,241,241,241]
def gv2:Array Value:=#[.int .u8 240, .int .u8 240, .int .u8 240, .int .u8 240, .int .u8 240, .int .u8 240, .int .u8 240, .int .u8 240, .int .u8 240, .int .u8 240, .int .u8 240, .int .u8 240, .int .u8 240, .int .u8 240, .int .u8 240, .int .u8 240, .int .u8 240, .int .u8 240, .int .u8 240, .int .u8 240, .int .u8 240, .int .u8 240, .int .u8 240, .int .u8 240, .int .u8 240, .int .u8 240, .int .u8 240, .int .u8 240, .int .u8 240, .int .u8 240, .int .u8 240, .int .u8 240, .int .u8 240, .int .u8 240, .int .u8 240, .int .u8 240, .int .u8 240, .int .u8 240, .int .u8 240, .int .u8 240, .int .u8 240, .int .u8 240, .int .u8 240, .int .u8 240, .int .u8 240, .int .u8 240, .int .u8 240, .int .u8 240, .int .u8 240, .int .u8 240, .int .u8 240, .int .u8 240, .int .u8 240, .int .u8 240, .int .u8 240, .int .u8 240, .int .u8 240, .int .u8 240, .int .u8 240, .int .u8 240, .int .u8 240, .int .u8 240, .int .u8 240, .int .u8 240, .int .u8 240, .int .u8 240, .int .u8 240, .int .u8 240, .int .u8 240, .int .u8 240, .int .u8 240, .int .u8 240, .int .u8 240, .int .u8 240, .int .u8 240, .int .u8 240, .int .u8 240, .int .u8 240, .int .u8 240, .int .u8 240, .int .u8 240, .int .u8 240, .int .u8 240, .int .u8 240, .int .u8 240, .int .u8 240, .int .u8 240, .int .u8 240, .int .u8 240, .int .u8 240, .int .u8 240, .int .u8 240, .int .u8 240, .int .u8 240, .int .u8 240, .int .u8 240, .int .u8 240, .int .u8 240, .int .u8 240, .int .u8 240, .int .u8 240, .int .u8 240, .int .u8 240, .int .u8 240, .int .u8 240, .int .u8 240, .int .u8 240, .int .u8 240, .int .u8 240, .int .u8 240, .int .u8 240, .int .u8 240, .int .u8 240, .int .u8 240, .int .u8 240, .int .u8 240, .int .u8 240, .int .u8 240, .int .u8 240, .int .u8 240, .int .u8 240, .int .u8 240, .int .u8 240, .int .u8 240, .int .u8 240, .int .u8 240, .int .u8 240, .int .u8 240, .int .u8 241, .int .u8 241, .int .u8 241, .int .u8 241, .int .u8 241, .int .u8 241, .int .u8 241, .int .u8 241, .int .u8 241, .int .u8 241, .int .u8 241, .int .u8 241, .int .u8 241, .int .u8 241, .int .u8 241, .int .u8 241, .int .u8 241, .int .u8 241, .int .u8 241, .int .u8 241, .int .u8 241, .int .u8 241, .int .u8 241, .int .u8 241, .int .u8 241, .int .u8 241, .int .u8 241, .int .u8 241, .int .u8 241, .int .u8 241, .int .u8 241, .int .u8 241, .int .u8 241, .int .u8 241, .int .u8 241, .int .u8 241, .int .u8 241, .int .u8 241, .int .u8 241, .int .u8 241, .int .u8 241, .int .u8 241, .int .u8 241, .int .u8 241, .int .u8 241, .int .u8 241, .int .u8 241, .int .u8 241, .int .u8 241, .int .u8 241, .int .u8 241, .int .u8 241, .int .u8 241, .int .u8 241, .int .u8 241, .int .u8 241, .int .u8 241, .int .u8 241, .int .u8 241, .int .u8 241, .int .u8 241, .int .u8 241, .int .u8 241, .int .u8 241, .int .u8 241, .int .u8 241, .int .u8 2, .int .u8 2, .int .u8 2, .int .u8 2, .int .u8 2, .int .u8 2, .int .u8 2, .int .u8 2, .int .u8 2, .int .u8 2, .int .u8 2, .int .u8 2, .int .u8 2, .int .u8 2, .int .u8 2, .int .u8 2, .int .u8 2, .int .u8 2, .int .u8 2, .int .u8 2, .int .u8 2, .int .u8 2, .int .u8 2, .int .u8 2, .int .u8 2, .int .u8 2, .int .u8 2, .int .u8 2, .int .u8 2, .int .u8 2, .int .u8 19, .int .u8 3, .int .u8 3, .int .u8 3, .int .u8 3, .int .u8 3, .int .u8 3, .int .u8 3, .int .u8 3, .int .u8 3, .int .u8 3, .int .u8 3, .int .u8 3, .int .u8 35, .int .u8 3, .int .u8 3, .int .u8 52, .int .u8 4, .int .u8 4, .int .u8 4, .int .u8 68, .int .u8 241, .int .u8 241, .int .u8 241, .int .u8 241, .int .u8 241, .int .u8 241, .int .u8 241, .int .u8 241, .int .u8 241, .int .u8 241, .int .u8 241]
theorem gt2_v:gv2.toList.map FV.atom=tabC nU8 gt2:=by kernel_rfl
theorem gt2_1:gv2.toList.all (·.oneCell')=true:=by kernel_rfl
def gt3:List S_utf8_acceptRange:=[S_utf8_acceptRange.mk 128 191,S_utf8_acceptRange.mk 160 191,S_utf8_acceptRange.mk 128 159,S_utf8_acceptRange.mk 144 191,S_utf8_acceptRange.mk 128 143,S_utf8_acceptRange.mk 0 0,S_utf8_acceptRange.mk 0 0,S_utf8_acceptRange.mk 0 0,S_utf8_acceptRange.mk 0 0,S_utf8_acceptRange.mk 0 0,S_utf8_acceptRange.mk 0 0,S_utf8_acceptRange.mk 0 0,S_utf8_acceptRange.mk 0 0,S_utf8_acceptRange.mk 0 0,S_utf8_acceptRange.mk 0 0,S_utf8_acceptRange.mk 0 0]
def gv3:Array Value:=#[.int .u8 128, .int .u8 191, .int .u8 160, .int .u8 191, .int .u8 128, .int .u8 159, .int .u8 144, .int .u8 191, .int .u8 128, .int .u8 143, .int .u8 0, .int .u8 0, .int .u8 0, .int .u8 0, .int .u8 0, .int .u8 0, .int .u8 0, .int .u8 0, .int .u8 0, .int .u8 0, .int .u8 0, .int .u8 0, .int .u8 0, .int .u8 0, .int .u8 0, .int .u8 0, .int .u8 0, .int .u8 0, .int .u8 0, .int .u8 0, .int .u8 0, .int .u8 0]
theorem gt3_v:gv3.toList.map FV.atom=tabC kmz gt3:=by kernel_rfl
theorem gt3_1:gv3.toList.all (·.oneCell')=true:=by kernel_rfl
def gt4:List Int:=[0,1,28,2,29,14,24,3,30,22,20,15,25,17,4,8,31,27,13,23,21,19,16,7,26,12,18,6,11,5,10,9]
def gv4:Array Value:=#[.int .u8 0, .int .u8 1, .int .u8 28, .int .u8 2, .int .u8 29, .int .u8 14, .int .u8 24, .int .u8 3, .int .u8 30, .int .u8 22, .int .u8 20, .int .u8 15, .int .u8 25, .int .u8 17, .int .u8 4, .int .u8 8, .int .u8 31, .int .u8 27, .int .u8 13, .int .u8 23, .int .u8 21, .int .u8 19, .int .u8 16, .int .u8 7, .int .u8 26, .int .u8 12, .int .u8 18, .int .u8 6, .int .u8 11, .int .u8 5, .int .u8 10, .int .u8 9]
def gt5:List Int:=[0,1,56,2,57,49,28,3,61,58,42,50,38,29,17,4,62,47,59,36,45,43,51,22,53,39,33,30,24,18,12,5,63,55,48,27,60,41,37,16,46,35,44,21,52,32,23,11,54,26,40,15,34,20,31,10,25,14,19,9,13,8,7,6]
def gv5:Array Value:=#[.int .u8 0, .int .u8 1, .int .u8 56, .int .u8 2, .int .u8 57, .int .u8 49, .int .u8 28, .int .u8 3, .int .u8 61, .int .u8 58, .int .u8 42, .int .u8 50, .int .u8 38, .int .u8 29, .int .u8 17, .int .u8 4, .int .u8 62, .int .u8 47, .int .u8 59, .int .u8 36, .int .u8 45, .int .u8 43, .int .u8 51, .int .u8 22, .int .u8 53, .int .u8 39, .int .u8 33, .int .u8 30, .int .u8 24, .int .u8 18, .int .u8 12, .int .u8 5, .int .u8 63, .int .u8 55, .int .u8 48, .int .u8 27, .int .u8 60, .int .u8 41, .int .u8 37, .int .u8 16, .int .u8 46, .int .u8 35, .int .u8 44, .int .u8 21, .int .u8 52, .int .u8 32, .int .u8 23, .int .u8 11, .int .u8 54, .int .u8 26, .int .u8 40, .int .u8 15, .int .u8 34, .int .u8 20, .int .u8 31, .int .u8 10, .int .u8 25, .int .u8 14, .int .u8 19, .int .u8 9, .int .u8 13, .int .u8 8, .int .u8 7, .int .u8 6]
def GV:List (Nat×Array Value):=[(1,gv1),(2,gv2),(3,gv3),(4,gv4),(5,gv5),(0,#[])]
theorem kaha:powV=gv1:=by kernel_rfl
theorem k35 : ∀ (n : Int), -9223372036854775808 ≤ n → n ≤ 9223372036854775807 → ∀ w : World, w.var? Tryz.prog "internal/strconv.uint64pow10" = some gv1 → Calls Tryz.prog 151 #[.int .i64 n, .int .i64 10] w fun e w' => e = .returned (.string ⟨(Lib.itoa n).toArray⟩) ∧ ∃ k os, w' = Sort.grow (w.drewN k) os := kaha ▸ kaen
end Go.Proofs.YtaimpcnpifoidaaGreatDoor
