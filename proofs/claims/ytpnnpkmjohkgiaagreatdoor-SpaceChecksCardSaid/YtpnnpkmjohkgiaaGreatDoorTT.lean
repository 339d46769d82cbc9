import Derived.Test.YtpnnpkmjohkgiaaGreatDoorOt
import Derived.Test.YtpnnpkmjohkgiaaGreatDoorOt
import Derived.Test.YtpnnpkmjohkgiaaGreatDoorXj
import Derived.Test.YtpnnpkmjohkgiaaGreatDoorXm
import Derived.Test.YtpnnpkmjohkgiaaGreatDoorProg
set_option linter.all false
namespace Go.Proofs.YtpnnpkmjohkgiaaGreatDoor
open Go Go.RowKit Go.Proofs.Tryz
def tt2:TD:=⟨1,8, .int .i64,[.int .i64 0]⟩
def tt3:TD:=⟨1,8, .int .i64,[.int .i64 0]⟩
def tt4:TD:=⟨1,1, .bool,[.bool false]⟩
def tt5:TD:=⟨1,1, .int .u8,[.int .u8 0]⟩
def tt9:TD:=⟨1,16, .str,[.string ⟨#[]⟩]⟩
def tt20:TD:=⟨1,16, .ifc,[.nilIface]⟩
def tt22:TD:=⟨1,24, .slice 3,[.slice none 0 0]⟩
def tt23:TD:=⟨1,24, .slice 113,[.slice none 0 0]⟩
def tt24:TD:=⟨1,24, .slice 63,[.slice none 0 0]⟩
def tt26:TD:=⟨4,88, .st [(9,0),(22,1),(23,2),(24,3)],[.string ⟨#[]⟩, .slice none 0 0, .slice none 0 0, .slice none 0 0]⟩
def tt27:TD:=⟨1,24, .slice 67,[.slice none 0 0]⟩
def tt29:TD:=⟨2,48, .st [(27,0),(22,1)],[.slice none 0 0, .slice none 0 0]⟩
def tt33:TD:=⟨1,8, .int .i64,[.int .i64 0]⟩
def tt36:TD:=⟨1,24, .slice 38,[.slice none 0 0]⟩
def tt38:TD:=⟨2,32, .st [(3,0),(36,1)],[.int .i64 0, .slice none 0 0]⟩
def tt48:TD:=⟨1,8, .fn,[.nilFunc]⟩
def tt59:TD:=⟨1,24, .slice 61,[.slice none 0 0]⟩
def tt61:TD:=⟨4,56, .st [(3,0),(2,1),(9,2),(59,3)],[.int .i64 0, .int .i64 0, .string ⟨#[]⟩, .slice none 0 0]⟩
def tt63:TD:=⟨9,120, .st [(3,0),(3,1),(3,2),(61,3),(9,7),(22,8)],[.int .i64 0, .int .i64 0, .int .i64 0, .int .i64 0, .int .i64 0, .string ⟨#[]⟩, .slice none 0 0, .string ⟨#[]⟩, .slice none 0 0]⟩
def tt64:TD:=⟨1,8, .fn,[.nilFunc]⟩
def tt65:TD:=⟨1,24, .slice 69,[.slice none 0 0]⟩
def tt67:TD:=⟨3,40, .st [(3,0),(3,1),(65,2)],[.int .i64 0, .int .i64 0, .slice none 0 0]⟩
def tt69:TD:=⟨2,32, .st [(3,0),(22,1)],[.int .i64 0, .slice none 0 0]⟩
def tt73:TD:=⟨1,24, .slice 3,[.slice none 0 0]⟩
def tt77:TD:=⟨1,8, .fn,[.nilFunc]⟩
def tt81:TD:=⟨1,24, .slice 4,[.slice none 0 0]⟩
def tt88:TD:=⟨1,8, .fn,[.nilFunc]⟩
def tt89:TD:=⟨1,8, .ptr 106,[.pointer none]⟩
def tt91:TD:=⟨1,24, .slice 22,[.slice none 0 0]⟩
def tt92:TD:=⟨1,8, .map 3 4,[.map none]⟩
def tt97:TD:=⟨1,24, .slice 36,[.slice none 0 0]⟩
def kw3:TD:=⟨1,8, .fn,[.nilFunc]⟩
def kwb:TD:=⟨1,8, .map 9 3,[.map none]⟩
def kxv:TD:=⟨4,80, .st [(104,0),(22,1),(91,2),(22,3)],[.map none, .slice none 0 0, .slice none 0 0, .slice none 0 0]⟩
def kw7:TD:=⟨2,24, .st [(9,0),(3,1)],[.string ⟨#[]⟩, .int .i64 0]⟩
def kxc:TD:=⟨1,24, .slice 2,[.slice none 0 0]⟩
def kw6:TD:=⟨1,24, .slice 117,[.slice none 0 0]⟩
def kxx:TD:=⟨1,24, .slice 22,[.slice none 0 0]⟩
def kqk:TD:=⟨1,8, .map 9 4,[.map none]⟩
def kwn:TD:=⟨1,8, .fn,[.nilFunc]⟩
def kpu:TD:=⟨1,8, .map 3 73,[.map none]⟩
def kxq:TD:=⟨1,8, .fn,[.nilFunc]⟩
def kxr:TD:=⟨1,8, .fn,[.nilFunc]⟩
def kxe:TD:=⟨1,8, .int .u64,[.int .u64 0]⟩
def kxu:TD:=⟨1,8, .ptr 208,[.pointer none]⟩
def kxt:TD:=⟨1,8, .fn,[.nilFunc]⟩
def kx3:TD:=⟨1,8, .fn,[.nilFunc]⟩
def kya:TD:=⟨3,48, .st [(9,0),(22,1),(3,2)],[.string ⟨#[]⟩, .slice none 0 0, .int .i64 0]⟩
def kv9:TD:=⟨1,8, .int .i64,[.int .i64 0]⟩
def kwv:TD:=⟨1,4, .int .u32,[.int .u32 0]⟩
def kx9:TD:=⟨1,8, .int .u64,[.int .u64 0]⟩
def kxf:TD:=⟨1,8, .map 9 2,[.map none]⟩
def kwm:TD:=⟨5,96, .st [(26,0),(206,4)],[.string ⟨#[]⟩, .slice none 0 0, .slice none 0 0, .slice none 0 0, .map none]⟩
def kxa:TD:=⟨4,64, .st [(167,0),(9,3)],[.string ⟨#[]⟩, .slice none 0 0, .int .i64 0, .string ⟨#[]⟩]⟩
def kxj:TD:=⟨1,24, .slice 5,[.slice none 0 0]⟩
def kwo:TD:=⟨1,8, .int .u64,[.int .u64 0]⟩
def kwr:TD:=⟨1,8, .ptr 3,[.pointer none]⟩
def kw1:TD:=⟨1,24, .slice 234,[.slice none 0 0]⟩
def kyd:TD:=⟨3,48, .arr 3 9,[.string ⟨#[]⟩, .string ⟨#[]⟩, .string ⟨#[]⟩]⟩
def kx1:TD:=⟨1,24, .slice 218,[.slice none 0 0]⟩
def kxl:TD:=⟨1,24, .slice 9,[.slice none 0 0]⟩
def kw8:TD:=⟨1,24, .slice 242,[.slice none 0 0]⟩
def kxg:TD:=⟨24,24, .arr 24 5,[.int .u8 0, .int .u8 0, .int .u8 0, .int .u8 0, .int .u8 0, .int .u8 0, .int .u8 0, .int .u8 0, .int .u8 0, .int .u8 0, .int .u8 0, .int .u8 0, .int .u8 0, .int .u8 0, .int .u8 0, .int .u8 0, .int .u8 0, .int .u8 0, .int .u8 0, .int .u8 0, .int .u8 0, .int .u8 0, .int .u8 0, .int .u8 0]⟩
def kwp:TD:=⟨20,160, .arr 20 187,[.int .u64 0, .int .u64 0, .int .u64 0, .int .u64 0, .int .u64 0, .int .u64 0, .int .u64 0, .int .u64 0, .int .u64 0, .int .u64 0, .int .u64 0, .int .u64 0, .int .u64 0, .int .u64 0, .int .u64 0, .int .u64 0, .int .u64 0, .int .u64 0, .int .u64 0, .int .u64 0]⟩
def kxw:TD:=⟨32,32, .arr 32 5,[.int .u8 0, .int .u8 0, .int .u8 0, .int .u8 0, .int .u8 0, .int .u8 0, .int .u8 0, .int .u8 0, .int .u8 0, .int .u8 0, .int .u8 0, .int .u8 0, .int .u8 0, .int .u8 0, .int .u8 0, .int .u8 0, .int .u8 0, .int .u8 0, .int .u8 0, .int .u8 0, .int .u8 0, .int .u8 0, .int .u8 0, .int .u8 0, .int .u8 0, .int .u8 0, .int .u8 0, .int .u8 0, .int .u8 0, .int .u8 0, .int .u8 0, .int .u8 0]⟩
def kxo:TD:=⟨64,64, .arr 64 5,[.int .u8 0, .int .u8 0, .int .u8 0, .int .u8 0, .int .u8 0, .int .u8 0, .int .u8 0, .int .u8 0, .int .u8 0, .int .u8 0, .int .u8 0, .int .u8 0, .int .u8 0, .int .u8 0, .int .u8 0, .int .u8 0, .int .u8 0, .int .u8 0, .int .u8 0, .int .u8 0, .int .u8 0, .int .u8 0, .int .u8 0, .int .u8 0, .int .u8 0, .int .u8 0, .int .u8 0, .int .u8 0, .int .u8 0, .int .u8 0, .int .u8 0, .int .u8 0, .int .u8 0, .int .u8 0, .int .u8 0, .int .u8 0, .int .u8 0, .int .u8 0, .int .u8 0, .int .u8 0, .int .u8 0, .int .u8 0, .int .u8 0, .int .u8 0, .int .u8 0, .int .u8 0, .int .u8 0, .int .u8 0, .int .u8 0, .int .u8 0, .int .u8 0, .int .u8 0, .int .u8 0, .int .u8 0, .int .u8 0, .int .u8 0, .int .u8 0, .int .u8 0, .int .u8 0, .int .u8 0, .int .u8 0, .int .u8 0, .int .u8 0, .int .u8 0]⟩
def TT:List (TypeId×TD):=[(2,tt2),(3,tt3),(4,tt4),(5,tt5),(9,tt9),(20,tt20),(22,tt22),(23,tt23),(24,tt24),(26,tt26),(27,tt27),(29,tt29),(33,tt33),(36,tt36),(38,tt38),(48,tt48),(59,tt59),(61,tt61),(63,tt63),(64,tt64),(65,tt65),(67,tt67),(69,tt69),(73,tt73),(77,tt77),(81,tt81),(88,tt88),(89,tt89),(91,tt91),(92,tt92),(97,tt97),(101,kw3),(104,kwb),(106,kxv),(113,kw7),(117,kxc),(118,kw6),(121,kxx),(128,kqk),(130,kwn),(131,kpu),(138,kxq),(141,kxr),(145,kxe),(157,kxu),(160,kxt),(161,kx3),(167,kya),(178,kv9),(185,kwv),(187,kx9),(206,kxf),(208,kwm),(218,kxa),(221,kxj),(223,kwo),(227,kwr),(232,kw1),(234,kyd),(242,kx1),(248,kxl),(252,kw8),(257,kxg),(262,kwp),(266,kxw),(267,kxo)]
theorem k7l:TdOk prog 2 tt2:=⟨⟨_,_,show prog.info? 2=some Tryz.t2 from by kernel_rfl,by kernel_rfl,by kernel_rfl,rfl,rfl⟩,_,underlying2,by simp [kai,tt2]⟩
theorem k60:TdOk prog 3 tt3:=⟨⟨_,_,show prog.info? 3=some Tryz.t3 from by kernel_rfl,by kernel_rfl,by kernel_rfl,rfl,rfl⟩,_,underlying3,by simp [kai,tt3]⟩
theorem k66:TdOk prog 4 tt4:=⟨⟨_,_,show prog.info? 4=some Tryz.t4 from by kernel_rfl,by kernel_rfl,by kernel_rfl,rfl,rfl⟩,_,underlying4,by simp [kai,tt4]⟩
theorem k68:TdOk prog 5 tt5:=⟨⟨_,_,show prog.info? 5=some Tryz.t5 from by kernel_rfl,by kernel_rfl,by kernel_rfl,rfl,rfl⟩,_,underlying5,by simp [kai,tt5]⟩
theorem k8g:TdOk prog 9 tt9:=⟨⟨_,_,show prog.info? 9=some Tryz.t9 from by kernel_rfl,by kernel_rfl,by kernel_rfl,rfl,rfl⟩,_,underlying9,by simp [kai,tt9]⟩
theorem k6j:TdOk prog 20 tt20:=⟨⟨_,_,show prog.info? 20=some Tryz.t20 from by kernel_rfl,by kernel_rfl,by kernel_rfl,rfl,rfl⟩,_,underlying20,by simp [kai,tt20]⟩
theorem k36:TdOk prog 22 tt22:=⟨⟨_,_,show prog.info? 22=some Tryz.t22 from by kernel_rfl,by kernel_rfl,by kernel_rfl,rfl,rfl⟩,_,underlying22,by simp [kai,tt22]⟩
theorem k48:TdOk prog 23 tt23:=⟨⟨_,_,show prog.info? 23=some Tryz.t23 from by kernel_rfl,by kernel_rfl,by kernel_rfl,rfl,rfl⟩,_,underlying23,by simp [kai,tt23]⟩
theorem k5y:TdOk prog 24 tt24:=⟨⟨_,_,show prog.info? 24=some Tryz.t24 from by kernel_rfl,by kernel_rfl,by kernel_rfl,rfl,rfl⟩,_,underlying24,by simp [kai,tt24]⟩
theorem k5c:TdOk prog 26 tt26:=⟨⟨_,_,show prog.info? 26=some Tryz.t26 from by kernel_rfl,by kernel_rfl,by kernel_rfl,rfl,rfl⟩,_,underlying26,by simp [kai,tt26]⟩
theorem k6h:TdOk prog 27 tt27:=⟨⟨_,_,show prog.info? 27=some Tryz.t27 from by kernel_rfl,by kernel_rfl,by kernel_rfl,rfl,rfl⟩,_,underlying27,by simp [kai,tt27]⟩
theorem k52:TdOk prog 29 tt29:=⟨⟨_,_,show prog.info? 29=some Tryz.t29 from by kernel_rfl,by kernel_rfl,by kernel_rfl,rfl,rfl⟩,_,underlying29,by simp [kai,tt29]⟩
theorem k5i:TdOk prog 33 tt33:=⟨⟨_,_,show prog.info? 33=some Tryz.t33 from by kernel_rfl,by kernel_rfl,by kernel_rfl,rfl,rfl⟩,_,underlying33,by simp [kai,tt33]⟩
theorem k5p:TdOk prog 36 tt36:=⟨⟨_,_,show prog.info? 36=some Tryz.t36 from by kernel_rfl,by kernel_rfl,by kernel_rfl,rfl,rfl⟩,_,underlying36,by simp [kai,tt36]⟩
theorem k6g:TdOk prog 38 tt38:=⟨⟨_,_,show prog.info? 38=some Tryz.t38 from by kernel_rfl,by kernel_rfl,by kernel_rfl,rfl,rfl⟩,_,underlying38,by simp [kai,tt38]⟩
theorem k5j:TdOk prog 48 tt48:=⟨⟨_,_,show prog.info? 48=some Tryz.t48 from by kernel_rfl,by kernel_rfl,by kernel_rfl,rfl,rfl⟩,_,underlying48,by simp [kai,tt48]⟩
theorem k34:TdOk prog 59 tt59:=⟨⟨_,_,show prog.info? 59=some Tryz.t59 from by kernel_rfl,by kernel_rfl,by kernel_rfl,rfl,rfl⟩,_,underlying59,by simp [kai,tt59]⟩
theorem k32:TdOk prog 61 tt61:=⟨⟨_,_,show prog.info? 61=some Tryz.t61 from by kernel_rfl,by kernel_rfl,by kernel_rfl,rfl,rfl⟩,_,underlying61,by simp [kai,tt61]⟩
theorem k5n:TdOk prog 63 tt63:=⟨⟨_,_,show prog.info? 63=some Tryz.t63 from by kernel_rfl,by kernel_rfl,by kernel_rfl,rfl,rfl⟩,_,underlying63,by simp [kai,tt63]⟩
theorem k30:TdOk prog 64 tt64:=⟨⟨_,_,show prog.info? 64=some Tryz.t64 from by kernel_rfl,by kernel_rfl,by kernel_rfl,rfl,rfl⟩,_,underlying64,by simp [kai,tt64]⟩
theorem k49:TdOk prog 65 tt65:=⟨⟨_,_,show prog.info? 65=some Tryz.t65 from by kernel_rfl,by kernel_rfl,by kernel_rfl,rfl,rfl⟩,_,underlying65,by simp [kai,tt65]⟩
theorem k4h:TdOk prog 67 tt67:=⟨⟨_,_,show prog.info? 67=some Tryz.t67 from by kernel_rfl,by kernel_rfl,by kernel_rfl,rfl,rfl⟩,_,underlying67,by simp [kai,tt67]⟩
theorem k4u:TdOk prog 69 tt69:=⟨⟨_,_,show prog.info? 69=some Tryz.t69 from by kernel_rfl,by kernel_rfl,by kernel_rfl,rfl,rfl⟩,_,underlying69,by simp [kai,tt69]⟩
theorem k5r:TdOk prog 73 tt73:=⟨⟨_,_,show prog.info? 73=some Tryz.t73 from by kernel_rfl,by kernel_rfl,by kernel_rfl,rfl,rfl⟩,_,underlying73,by simp [kai,tt73]⟩
theorem k5q:TdOk prog 77 tt77:=⟨⟨_,_,show prog.info? 77=some Tryz.t77 from by kernel_rfl,by kernel_rfl,by kernel_rfl,rfl,rfl⟩,_,underlying77,by simp [kai,tt77]⟩
theorem k6o:TdOk prog 81 tt81:=⟨⟨_,_,show prog.info? 81=some Tryz.t81 from by kernel_rfl,by kernel_rfl,by kernel_rfl,rfl,rfl⟩,_,underlying81,by simp [kai,tt81]⟩
theorem k4p:TdOk prog 88 tt88:=⟨⟨_,_,show prog.info? 88=some Tryz.t88 from by kernel_rfl,by kernel_rfl,by kernel_rfl,rfl,rfl⟩,_,underlying88,by simp [kai,tt88]⟩
theorem k5k:TdOk prog 89 tt89:=⟨⟨_,_,show prog.info? 89=some Tryz.t89 from by kernel_rfl,by kernel_rfl,by kernel_rfl,rfl,rfl⟩,_,underlying89,by simp [kai,tt89]⟩
theorem k4i:TdOk prog 91 tt91:=⟨⟨_,_,show prog.info? 91=some Tryz.t91 from by kernel_rfl,by kernel_rfl,by kernel_rfl,rfl,rfl⟩,_,underlying91,by simp [kai,tt91]⟩
theorem k33:TdOk prog 92 tt92:=⟨⟨_,_,show prog.info? 92=some Tryz.t92 from by kernel_rfl,by kernel_rfl,by kernel_rfl,rfl,rfl⟩,_,underlying92,by simp [kai,tt92]⟩
theorem k6l:TdOk prog 97 tt97:=⟨⟨_,_,show prog.info? 97=some Tryz.t97 from by kernel_rfl,by kernel_rfl,by kernel_rfl,rfl,rfl⟩,_,underlying97,by simp [kai,tt97]⟩
theorem k0j:TdOk prog 101 kw3:=⟨⟨_,_,show prog.info? 101=some Tryz.t101 from by kernel_rfl,by kernel_rfl,by kernel_rfl,rfl,rfl⟩,_,underlying101,by simp [kai,kw3]⟩
theorem k12:TdOk prog 104 kwb:=⟨⟨_,_,show prog.info? 104=some Tryz.t104 from by kernel_rfl,by kernel_rfl,by kernel_rfl,rfl,rfl⟩,_,underlying104,by simp [kai,kwb]⟩
theorem k0w:TdOk prog 106 kxv:=⟨⟨_,_,show prog.info? 106=some Tryz.t106 from by kernel_rfl,by kernel_rfl,by kernel_rfl,rfl,rfl⟩,_,underlying106,by simp [kai,kxv]⟩
theorem k1n:TdOk prog 113 kw7:=⟨⟨_,_,show prog.info? 113=some Tryz.t113 from by kernel_rfl,by kernel_rfl,by kernel_rfl,rfl,rfl⟩,_,underlying113,by simp [kai,kw7]⟩
theorem k2l:TdOk prog 117 kxc:=⟨⟨_,_,show prog.info? 117=some Tryz.t117 from by kernel_rfl,by kernel_rfl,by kernel_rfl,rfl,rfl⟩,_,underlying117,by simp [kai,kxc]⟩
theorem k1p:TdOk prog 118 kw6:=⟨⟨_,_,show prog.info? 118=some Tryz.t118 from by kernel_rfl,by kernel_rfl,by kernel_rfl,rfl,rfl⟩,_,underlying118,by simp [kai,kw6]⟩
theorem k2t:TdOk prog 121 kxx:=⟨⟨_,_,show prog.info? 121=some Tryz.t121 from by kernel_rfl,by kernel_rfl,by kernel_rfl,rfl,rfl⟩,_,underlying121,by simp [kai,kxx]⟩
theorem k2k:TdOk prog 128 kqk:=⟨⟨_,_,show prog.info? 128=some Tryz.t128 from by kernel_rfl,by kernel_rfl,by kernel_rfl,rfl,rfl⟩,_,underlying128,by simp [kai,kqk]⟩
theorem k2s:TdOk prog 130 kwn:=⟨⟨_,_,show prog.info? 130=some Tryz.t130 from by kernel_rfl,by kernel_rfl,by kernel_rfl,rfl,rfl⟩,_,underlying130,by simp [kai,kwn]⟩
theorem k0t:TdOk prog 131 kpu:=⟨⟨_,_,show prog.info? 131=some Tryz.t131 from by kernel_rfl,by kernel_rfl,by kernel_rfl,rfl,rfl⟩,_,underlying131,by simp [kai,kpu]⟩
theorem k0u:TdOk prog 138 kxq:=⟨⟨_,_,show prog.info? 138=some Tryz.t138 from by kernel_rfl,by kernel_rfl,by kernel_rfl,rfl,rfl⟩,_,underlying138,by simp [kai,kxq]⟩
theorem k1y:TdOk prog 141 kxr:=⟨⟨_,_,show prog.info? 141=some Tryz.t141 from by kernel_rfl,by kernel_rfl,by kernel_rfl,rfl,rfl⟩,_,underlying141,by simp [kai,kxr]⟩
theorem k2r:TdOk prog 145 kxe:=⟨⟨_,_,show prog.info? 145=some Tryz.t145 from by kernel_rfl,by kernel_rfl,by kernel_rfl,rfl,rfl⟩,_,underlying145,by simp [kai,kxe]⟩
theorem k15:TdOk prog 157 kxu:=⟨⟨_,_,show prog.info? 157=some Tryz.t157 from by kernel_rfl,by kernel_rfl,by kernel_rfl,rfl,rfl⟩,_,underlying157,by simp [kai,kxu]⟩
theorem k1i:TdOk prog 160 kxt:=⟨⟨_,_,show prog.info? 160=some Tryz.t160 from by kernel_rfl,by kernel_rfl,by kernel_rfl,rfl,rfl⟩,_,underlying160,by simp [kai,kxt]⟩
theorem k1b:TdOk prog 161 kx3:=⟨⟨_,_,show prog.info? 161=some Tryz.t161 from by kernel_rfl,by kernel_rfl,by kernel_rfl,rfl,rfl⟩,_,underlying161,by simp [kai,kx3]⟩
theorem k28:TdOk prog 167 kya:=⟨⟨_,_,show prog.info? 167=some Tryz.t167 from by kernel_rfl,by kernel_rfl,by kernel_rfl,rfl,rfl⟩,_,underlying167,by simp [kai,kya]⟩
theorem k1r:TdOk prog 178 kv9:=⟨⟨_,_,show prog.info? 178=some Tryz.t178 from by kernel_rfl,by kernel_rfl,by kernel_rfl,rfl,rfl⟩,_,underlying178,by simp [kai,kv9]⟩
theorem k0i:TdOk prog 185 kwv:=⟨⟨_,_,show prog.info? 185=some Tryz.t185 from by kernel_rfl,by kernel_rfl,by kernel_rfl,rfl,rfl⟩,_,underlying185,by simp [kai,kwv]⟩
theorem k21:TdOk prog 187 kx9:=⟨⟨_,_,show prog.info? 187=some Tryz.t187 from by kernel_rfl,by kernel_rfl,by kernel_rfl,rfl,rfl⟩,_,underlying187,by simp [kai,kx9]⟩
theorem k05:TdOk prog 206 kxf:=⟨⟨_,_,show prog.info? 206=some Tryz.t206 from by kernel_rfl,by kernel_rfl,by kernel_rfl,rfl,rfl⟩,_,underlying206,by simp [kai,kxf]⟩
theorem k2g:TdOk prog 208 kwm:=⟨⟨_,_,show prog.info? 208=some Tryz.t208 from by kernel_rfl,by kernel_rfl,by kernel_rfl,rfl,rfl⟩,_,underlying208,by simp [kai,kwm]⟩
theorem k00:TdOk prog 218 kxa:=⟨⟨_,_,show prog.info? 218=some Tryz.t218 from by kernel_rfl,by kernel_rfl,by kernel_rfl,rfl,rfl⟩,_,underlying218,by simp [kai,kxa]⟩
theorem k01:TdOk prog 221 kxj:=⟨⟨_,_,show prog.info? 221=some Tryz.t221 from by kernel_rfl,by kernel_rfl,by kernel_rfl,rfl,rfl⟩,_,underlying221,by simp [kai,kxj]⟩
theorem k2b:TdOk prog 223 kwo:=⟨⟨_,_,show prog.info? 223=some Tryz.t223 from by kernel_rfl,by kernel_rfl,by kernel_rfl,rfl,rfl⟩,_,underlying223,by simp [kai,kwo]⟩
theorem k24:TdOk prog 227 kwr:=⟨⟨_,_,show prog.info? 227=some Tryz.t227 from by kernel_rfl,by kernel_rfl,by kernel_rfl,rfl,rfl⟩,_,underlying227,by simp [kai,kwr]⟩
theorem k1h:TdOk prog 232 kw1:=⟨⟨_,_,show prog.info? 232=some Tryz.t232 from by kernel_rfl,by kernel_rfl,by kernel_rfl,rfl,rfl⟩,_,underlying232,by simp [kai,kw1]⟩
theorem k2y:TdOk prog 234 kyd:=⟨⟨_,_,show prog.info? 234=some Tryz.t234 from by kernel_rfl,by kernel_rfl,by kernel_rfl,rfl,rfl⟩,_,underlying234,by simp [kai,kyd]⟩
theorem k2z:TdOk prog 242 kx1:=⟨⟨_,_,show prog.info? 242=some Tryz.t242 from by kernel_rfl,by kernel_rfl,by kernel_rfl,rfl,rfl⟩,_,underlying242,by simp [kai,kx1]⟩
theorem k06:TdOk prog 248 kxl:=⟨⟨_,_,show prog.info? 248=some Tryz.t248 from by kernel_rfl,by kernel_rfl,by kernel_rfl,rfl,rfl⟩,_,underlying248,by simp [kai,kxl]⟩
theorem k25:TdOk prog 252 kw8:=⟨⟨_,_,show prog.info? 252=some Tryz.t252 from by kernel_rfl,by kernel_rfl,by kernel_rfl,rfl,rfl⟩,_,underlying252,by simp [kai,kw8]⟩
theorem k1c:TdOk prog 257 kxg:=⟨⟨_,_,show prog.info? 257=some Tryz.t257 from by kernel_rfl,by kernel_rfl,by kernel_rfl,rfl,rfl⟩,_,underlying257,by simp [kai,kxg]⟩
theorem k2a:TdOk prog 262 kwp:=⟨⟨_,_,show prog.info? 262=some Tryz.t262 from by kernel_rfl,by kernel_rfl,by kernel_rfl,rfl,rfl⟩,_,underlying262,by simp [kai,kwp]⟩
theorem k0m:TdOk prog 266 kxw:=⟨⟨_,_,show prog.info? 266=some Tryz.t266 from by kernel_rfl,by kernel_rfl,by kernel_rfl,rfl,rfl⟩,_,underlying266,by simp [kai,kxw]⟩
theorem k23:TdOk prog 267 kxo:=⟨⟨_,_,show prog.info? 267=some Tryz.t267 from by kernel_rfl,by kernel_rfl,by kernel_rfl,rfl,rfl⟩,_,underlying267,by simp [kai,kxo]⟩
theorem kdt:TOk prog TT:=by
 intro p hp;simp only [TT,qaw,List.not_mem_nil,or_false] at hp;rcases hp with rfl | rfl | rfl | rfl | rfl | rfl | rfl | rfl | rfl | rfl | rfl | rfl | rfl | rfl | rfl | rfl | rfl | rfl | rfl | rfl | rfl | rfl | rfl | rfl | rfl | rfl | rfl | rfl | rfl | rfl | rfl | rfl | rfl | rfl | rfl | rfl | rfl | rfl | rfl | rfl | rfl | rfl | rfl | rfl | rfl | rfl | rfl | rfl | rfl | rfl | rfl | rfl | rfl | rfl | rfl | rfl | rfl | rfl | rfl | rfl | rfl | rfl | rfl | rfl | rfl | rfl;exact k7l;exact k60;exact k66;exact k68;exact k8g;exact k6j;exact k36;exact k48;exact k5y;exact k5c;exact k6h;exact k52;exact k5i;exact k5p;exact k6g;exact k5j;exact k34;exact k32;exact k5n;exact k30;exact k49;exact k4h;exact k4u;exact k5r;exact k5q;exact k6o;exact k4p;exact k5k;exact k4i;exact k33;exact k6l;exact k0j;exact k12;exact k0w;exact k1n;exact k2l;exact k1p;exact k2t;exact k2k;exact k2s;exact k0t;exact k0u;exact k1y;exact k2r;exact k15;exact k1i;exact k1b;exact k28;exact k1r;exact k0i;exact k21;exact k05;exact k2g;exact k00;exact k01;exact k2b;exact k24;exact k1h;exact k2y;exact k2z;exact k06;exact k25;exact k1c;exact k2a;exact k0m
 ·exact k23
instance tabP:Tab prog:=⟨TT,kdt,by kernel_rfl⟩
end Go.Proofs.YtpnnpkmjohkgiaaGreatDoor
