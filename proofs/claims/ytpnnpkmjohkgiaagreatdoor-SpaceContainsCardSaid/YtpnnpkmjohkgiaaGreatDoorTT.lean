import Derived.Test.YtpnnpkmjohkgiaaGreatDoorOt
import Derived.Test.YtpnnpkmjohkgiaaGreatDoorOt
import Derived.Test.YtpnnpkmjohkgiaaGreatDoorXj
import Derived.Test.YtpnnpkmjohkgiaaGreatDoorXm
import Derived.Test.YtpnnpkmjohkgiaaGreatDoorProg
set_option linter.all false
namespace Go.Proofs.YtpnnpkmjohkgiaaGreatDoor
open Go Go.RowKit Go.Proofs.Tryz
def tt2:TD:=⟨1,8, .int .i64,[.int .i64 0]⟩
def tt3:TD:=⟨1,8, .int .i64,[.int .i64 0]⟩
def tt4:TD:=⟨1,1, .bool,[.bool false]⟩
def tt5:TD:=⟨1,1, .int .u8,[.int .u8 0]⟩
def tt9:TD:=⟨1,16, .str,[.string ⟨#[]⟩]⟩
def tt20:TD:=⟨1,16, .ifc,[.nilIface]⟩
def tt22:TD:=⟨1,24, .slice 3,[.slice none 0 0]⟩
def tt23:TD:=⟨1,24, .slice 113,[.slice none 0 0]⟩
def tt24:TD:=⟨1,24, .slice 63,[.slice none 0 0]⟩
def tt26:TD:=⟨4,88, .st [(9,0),(22,1),(23,2),(24,3)],[.string ⟨#[]⟩, .slice none 0 0, .slice none 0 0, .slice none 0 0]⟩
def tt27:TD:=⟨1,24, .slice 67,[.slice none 0 0]⟩
def tt29:TD:=⟨2,48, .st [(27,0),(22,1)],[.slice none 0 0, .slice none 0 0]⟩
def tt33:TD:=⟨1,8, .int .i64,[.int .i64 0]⟩
def tt36:TD:=⟨1,24, .slice 38,[.slice none 0 0]⟩
def tt38:TD:=⟨2,32, .st [(3,0),(36,1)],[.int .i64 0, .slice none 0 0]⟩
def tt48:TD:=⟨1,8, .fn,[.nilFunc]⟩
def tt59:TD:=⟨1,24, .slice 61,[.slice none 0 0]⟩
def tt61:TD:=⟨4,56, .st [(3,0),(2,1),(9,2),(59,3)],[.int .i64 0, .int .i64 0, .string ⟨#[]⟩, .slice none 0 0]⟩
def tt63:TD:=⟨9,120, .st [(3,0),(3,1),(3,2),(61,3),(9,7),(22,8)],[.int .i64 0, .int .i64 0, .int .i64 0, .int .i64 0, .int .i64 0, .string ⟨#[]⟩, .slice none 0 0, .string ⟨#[]⟩, .slice none 0 0]⟩
def tt64:TD:=⟨1,8, .fn,[.nilFunc]⟩
def tt65:TD:=⟨1,24, .slice 69,[.slice none 0 0]⟩
def tt67:TD:=⟨3,40, .st [(3,0),(3,1),(65,2)],[.int .i64 0, .int .i64 0, .slice none 0 0]⟩
def tt69:TD:=⟨2,32, .st [(3,0),(22,1)],[.int .i64 0, .slice none 0 0]⟩
def tt73:TD:=⟨1,24, .slice 3,[.slice none 0 0]⟩
def tt77:TD:=⟨1,8, .fn,[.nilFunc]⟩
def tt81:TD:=⟨1,24, .slice 4,[.slice none 0 0]⟩
def tt88:TD:=⟨1,8, .fn,[.nilFunc]⟩
def tt89:TD:=⟨1,8, .ptr 106,[.pointer none]⟩
def tt91:TD:=⟨1,24, .slice 22,[.slice none 0 0]⟩
def tt92:TD:=⟨1,8, .map 3 4,[.map none]⟩
def tt97:TD:=⟨1,24, .slice 36,[.slice none 0 0]⟩
def ksg:TD:=⟨1,8, .fn,[.nilFunc]⟩
def krs:TD:=⟨1,8, .map 9 3,[.map none]⟩
def kta:TD:=⟨4,80, .st [(104,0),(22,1),(91,2),(22,3)],[.map none, .slice none 0 0, .slice none 0 0, .slice none 0 0]⟩
def ksk:TD:=⟨2,24, .st [(9,0),(3,1)],[.string ⟨#[]⟩, .int .i64 0]⟩
def ksp:TD:=⟨1,24, .slice 2,[.slice none 0 0]⟩
def ksj:TD:=⟨1,24, .slice 117,[.slice none 0 0]⟩
def ktd:TD:=⟨1,24, .slice 22,[.slice none 0 0]⟩
def ks6:TD:=⟨1,8, .map 9 4,[.map none]⟩
def kr2:TD:=⟨1,8, .fn,[.nilFunc]⟩
def kmc:TD:=⟨1,8, .map 3 73,[.map none]⟩
def ks4:TD:=⟨1,8, .fn,[.nilFunc]⟩
def ks5:TD:=⟨1,8, .fn,[.nilFunc]⟩
def kss:TD:=⟨1,8, .int .u64,[.int .u64 0]⟩
def ks9:TD:=⟨1,8, .ptr 208,[.pointer none]⟩
def ks8:TD:=⟨1,8, .fn,[.nilFunc]⟩
def kti:TD:=⟨1,8, .fn,[.nilFunc]⟩
def kto:TD:=⟨3,48, .st [(9,0),(22,1),(3,2)],[.string ⟨#[]⟩, .slice none 0 0, .int .i64 0]⟩
def krq:TD:=⟨1,8, .int .i64,[.int .i64 0]⟩
def ksa:TD:=⟨1,4, .int .u32,[.int .u32 0]⟩
def ktn:TD:=⟨1,8, .int .u64,[.int .u64 0]⟩
def kst:TD:=⟨1,8, .map 9 2,[.map none]⟩
def kr1:TD:=⟨5,96, .st [(26,0),(206,4)],[.string ⟨#[]⟩, .slice none 0 0, .slice none 0 0, .slice none 0 0, .map none]⟩
def ksn:TD:=⟨4,64, .st [(167,0),(9,3)],[.string ⟨#[]⟩, .slice none 0 0, .int .i64 0, .string ⟨#[]⟩]⟩
def ksy:TD:=⟨1,24, .slice 5,[.slice none 0 0]⟩
def kr3:TD:=⟨1,8, .int .u64,[.int .u64 0]⟩
def kr6:TD:=⟨1,8, .ptr 3,[.pointer none]⟩
def kse:TD:=⟨1,24, .slice 234,[.slice none 0 0]⟩
def kts:TD:=⟨3,48, .arr 3 9,[.string ⟨#[]⟩, .string ⟨#[]⟩, .string ⟨#[]⟩]⟩
def ktf:TD:=⟨1,24, .slice 218,[.slice none 0 0]⟩
def ksz:TD:=⟨1,24, .slice 9,[.slice none 0 0]⟩
def ksl:TD:=⟨1,24, .slice 242,[.slice none 0 0]⟩
def ksu:TD:=⟨24,24, .arr 24 5,[.int .u8 0, .int .u8 0, .int .u8 0, .int .u8 0, .int .u8 0, .int .u8 0, .int .u8 0, .int .u8 0, .int .u8 0, .int .u8 0, .int .u8 0, .int .u8 0, .int .u8 0, .int .u8 0, .int .u8 0, .int .u8 0, .int .u8 0, .int .u8 0, .int .u8 0, .int .u8 0, .int .u8 0, .int .u8 0, .int .u8 0, .int .u8 0]⟩
def kr4:TD:=⟨20,160, .arr 20 187,[.int .u64 0, .int .u64 0, .int .u64 0, .int .u64 0, .int .u64 0, .int .u64 0, .int .u64 0, .int .u64 0, .int .u64 0, .int .u64 0, .int .u64 0, .int .u64 0, .int .u64 0, .int .u64 0, .int .u64 0, .int .u64 0, .int .u64 0, .int .u64 0, .int .u64 0, .int .u64 0]⟩
def ktc:TD:=⟨32,32, .arr 32 5,[.int .u8 0, .int .u8 0, .int .u8 0, .int .u8 0, .int .u8 0, .int .u8 0, .int .u8 0, .int .u8 0, .int .u8 0, .int .u8 0, .int .u8 0, .int .u8 0, .int .u8 0, .int .u8 0, .int .u8 0, .int .u8 0, .int .u8 0, .int .u8 0, .int .u8 0, .int .u8 0, .int .u8 0, .int .u8 0, .int .u8 0, .int .u8 0, .int .u8 0, .int .u8 0, .int .u8 0, .int .u8 0, .int .u8 0, .int .u8 0, .int .u8 0, .int .u8 0]⟩
def ks2:TD:=⟨64,64, .arr 64 5,[.int .u8 0, .int .u8 0, .int .u8 0, .int .u8 0, .int .u8 0, .int .u8 0, .int .u8 0, .int .u8 0, .int .u8 0, .int .u8 0, .int .u8 0, .int .u8 0, .int .u8 0, .int .u8 0, .int .u8 0, .int .u8 0, .int .u8 0, .int .u8 0, .int .u8 0, .int .u8 0, .int .u8 0, .int .u8 0, .int .u8 0, .int .u8 0, .int .u8 0, .int .u8 0, .int .u8 0, .int .u8 0, .int .u8 0, .int .u8 0, .int .u8 0, .int .u8 0, .int .u8 0, .int .u8 0, .int .u8 0, .int .u8 0, .int .u8 0, .int .u8 0, .int .u8 0, .int .u8 0, .int .u8 0, .int .u8 0, .int .u8 0, .int .u8 0, .int .u8 0, .int .u8 0, .int .u8 0, .int .u8 0, .int .u8 0, .int .u8 0, .int .u8 0, .int .u8 0, .int .u8 0, .int .u8 0, .int .u8 0, .int .u8 0, .int .u8 0, .int .u8 0, .int .u8 0, .int .u8 0, .int .u8 0, .int .u8 0, .int .u8 0, .int .u8 0]⟩
def TT:List (TypeId×TD):=[(2,tt2),(3,tt3),(4,tt4),(5,tt5),(9,tt9),(20,tt20),(22,tt22),(23,tt23),(24,tt24),(26,tt26),(27,tt27),(29,tt29),(33,tt33),(36,tt36),(38,tt38),(48,tt48),(59,tt59),(61,tt61),(63,tt63),(64,tt64),(65,tt65),(67,tt67),(69,tt69),(73,tt73),(77,tt77),(81,tt81),(88,tt88),(89,tt89),(91,tt91),(92,tt92),(97,tt97),(101,ksg),(104,krs),(106,kta),(113,ksk),(117,ksp),(118,ksj),(121,ktd),(128,ks6),(130,kr2),(131,kmc),(138,ks4),(141,ks5),(145,kss),(157,ks9),(160,ks8),(161,kti),(167,kto),(178,krq),(185,ksa),(187,ktn),(206,kst),(208,kr1),(218,ksn),(221,ksy),(223,kr3),(227,kr6),(232,kse),(234,kts),(242,ktf),(248,ksz),(252,ksl),(257,ksu),(262,kr4),(266,ktc),(267,ks2)]
theorem k13:TdOk prog 2 tt2:=⟨⟨_,_,show prog.info? 2=some Tryz.t2 from by kernel_rfl,by kernel_rfl,by kernel_rfl,rfl,rfl⟩,_,underlying2,by simp [kah,tt2]⟩
theorem k1h:TdOk prog 3 tt3:=⟨⟨_,_,show prog.info? 3=some Tryz.t3 from by kernel_rfl,by kernel_rfl,by kernel_rfl,rfl,rfl⟩,_,underlying3,by simp [kah,tt3]⟩
theorem k1n:TdOk prog 4 tt4:=⟨⟨_,_,show prog.info? 4=some Tryz.t4 from by kernel_rfl,by kernel_rfl,by kernel_rfl,rfl,rfl⟩,_,underlying4,by simp [kah,tt4]⟩
theorem k1p:TdOk prog 5 tt5:=⟨⟨_,_,show prog.info? 5=some Tryz.t5 from by kernel_rfl,by kernel_rfl,by kernel_rfl,rfl,rfl⟩,_,underlying5,by simp [kah,tt5]⟩
theorem k2u:TdOk prog 9 tt9:=⟨⟨_,_,show prog.info? 9=some Tryz.t9 from by kernel_rfl,by kernel_rfl,by kernel_rfl,rfl,rfl⟩,_,underlying9,by simp [kah,tt9]⟩
theorem k01:TdOk prog 20 tt20:=⟨⟨_,_,show prog.info? 20=some Tryz.t20 from by kernel_rfl,by kernel_rfl,by kernel_rfl,rfl,rfl⟩,_,underlying20,by simp [kah,tt20]⟩
theorem kym:TdOk prog 22 tt22:=⟨⟨_,_,show prog.info? 22=some Tryz.t22 from by kernel_rfl,by kernel_rfl,by kernel_rfl,rfl,rfl⟩,_,underlying22,by simp [kah,tt22]⟩
theorem kzp:TdOk prog 23 tt23:=⟨⟨_,_,show prog.info? 23=some Tryz.t23 from by kernel_rfl,by kernel_rfl,by kernel_rfl,rfl,rfl⟩,_,underlying23,by simp [kah,tt23]⟩
theorem k0f:TdOk prog 24 tt24:=⟨⟨_,_,show prog.info? 24=some Tryz.t24 from by kernel_rfl,by kernel_rfl,by kernel_rfl,rfl,rfl⟩,_,underlying24,by simp [kah,tt24]⟩
theorem kzt:TdOk prog 26 tt26:=⟨⟨_,_,show prog.info? 26=some Tryz.t26 from by kernel_rfl,by kernel_rfl,by kernel_rfl,rfl,rfl⟩,_,underlying26,by simp [kah,tt26]⟩
theorem k0y:TdOk prog 27 tt27:=⟨⟨_,_,show prog.info? 27=some Tryz.t27 from by kernel_rfl,by kernel_rfl,by kernel_rfl,rfl,rfl⟩,_,underlying27,by simp [kah,tt27]⟩
theorem k0j:TdOk prog 29 tt29:=⟨⟨_,_,show prog.info? 29=some Tryz.t29 from by kernel_rfl,by kernel_rfl,by kernel_rfl,rfl,rfl⟩,_,underlying29,by simp [kah,tt29]⟩
theorem kzy:TdOk prog 33 tt33:=⟨⟨_,_,show prog.info? 33=some Tryz.t33 from by kernel_rfl,by kernel_rfl,by kernel_rfl,rfl,rfl⟩,_,underlying33,by simp [kah,tt33]⟩
theorem kz6:TdOk prog 36 tt36:=⟨⟨_,_,show prog.info? 36=some Tryz.t36 from by kernel_rfl,by kernel_rfl,by kernel_rfl,rfl,rfl⟩,_,underlying36,by simp [kah,tt36]⟩
theorem k0w:TdOk prog 38 tt38:=⟨⟨_,_,show prog.info? 38=some Tryz.t38 from by kernel_rfl,by kernel_rfl,by kernel_rfl,rfl,rfl⟩,_,underlying38,by simp [kah,tt38]⟩
theorem kzz:TdOk prog 48 tt48:=⟨⟨_,_,show prog.info? 48=some Tryz.t48 from by kernel_rfl,by kernel_rfl,by kernel_rfl,rfl,rfl⟩,_,underlying48,by simp [kah,tt48]⟩
theorem kyl:TdOk prog 59 tt59:=⟨⟨_,_,show prog.info? 59=some Tryz.t59 from by kernel_rfl,by kernel_rfl,by kernel_rfl,rfl,rfl⟩,_,underlying59,by simp [kah,tt59]⟩
theorem kyj:TdOk prog 61 tt61:=⟨⟨_,_,show prog.info? 61=some Tryz.t61 from by kernel_rfl,by kernel_rfl,by kernel_rfl,rfl,rfl⟩,_,underlying61,by simp [kah,tt61]⟩
theorem kz3:TdOk prog 63 tt63:=⟨⟨_,_,show prog.info? 63=some Tryz.t63 from by kernel_rfl,by kernel_rfl,by kernel_rfl,rfl,rfl⟩,_,underlying63,by simp [kah,tt63]⟩
theorem kyh:TdOk prog 64 tt64:=⟨⟨_,_,show prog.info? 64=some Tryz.t64 from by kernel_rfl,by kernel_rfl,by kernel_rfl,rfl,rfl⟩,_,underlying64,by simp [kah,tt64]⟩
theorem kzq:TdOk prog 65 tt65:=⟨⟨_,_,show prog.info? 65=some Tryz.t65 from by kernel_rfl,by kernel_rfl,by kernel_rfl,rfl,rfl⟩,_,underlying65,by simp [kah,tt65]⟩
theorem kyy:TdOk prog 67 tt67:=⟨⟨_,_,show prog.info? 67=some Tryz.t67 from by kernel_rfl,by kernel_rfl,by kernel_rfl,rfl,rfl⟩,_,underlying67,by simp [kah,tt67]⟩
theorem kzc:TdOk prog 69 tt69:=⟨⟨_,_,show prog.info? 69=some Tryz.t69 from by kernel_rfl,by kernel_rfl,by kernel_rfl,rfl,rfl⟩,_,underlying69,by simp [kah,tt69]⟩
theorem kz8:TdOk prog 73 tt73:=⟨⟨_,_,show prog.info? 73=some Tryz.t73 from by kernel_rfl,by kernel_rfl,by kernel_rfl,rfl,rfl⟩,_,underlying73,by simp [kah,tt73]⟩
theorem kz7:TdOk prog 77 tt77:=⟨⟨_,_,show prog.info? 77=some Tryz.t77 from by kernel_rfl,by kernel_rfl,by kernel_rfl,rfl,rfl⟩,_,underlying77,by simp [kah,tt77]⟩
theorem k05:TdOk prog 81 tt81:=⟨⟨_,_,show prog.info? 81=some Tryz.t81 from by kernel_rfl,by kernel_rfl,by kernel_rfl,rfl,rfl⟩,_,underlying81,by simp [kah,tt81]⟩
theorem ky7:TdOk prog 88 tt88:=⟨⟨_,_,show prog.info? 88=some Tryz.t88 from by kernel_rfl,by kernel_rfl,by kernel_rfl,rfl,rfl⟩,_,underlying88,by simp [kah,tt88]⟩
theorem kz0:TdOk prog 89 tt89:=⟨⟨_,_,show prog.info? 89=some Tryz.t89 from by kernel_rfl,by kernel_rfl,by kernel_rfl,rfl,rfl⟩,_,underlying89,by simp [kah,tt89]⟩
theorem kyz:TdOk prog 91 tt91:=⟨⟨_,_,show prog.info? 91=some Tryz.t91 from by kernel_rfl,by kernel_rfl,by kernel_rfl,rfl,rfl⟩,_,underlying91,by simp [kah,tt91]⟩
theorem kyk:TdOk prog 92 tt92:=⟨⟨_,_,show prog.info? 92=some Tryz.t92 from by kernel_rfl,by kernel_rfl,by kernel_rfl,rfl,rfl⟩,_,underlying92,by simp [kah,tt92]⟩
theorem k03:TdOk prog 97 tt97:=⟨⟨_,_,show prog.info? 97=some Tryz.t97 from by kernel_rfl,by kernel_rfl,by kernel_rfl,rfl,rfl⟩,_,underlying97,by simp [kah,tt97]⟩
theorem kvi:TdOk prog 101 ksg:=⟨⟨_,_,show prog.info? 101=some Tryz.t101 from by kernel_rfl,by kernel_rfl,by kernel_rfl,rfl,rfl⟩,_,underlying101,by simp [kah,ksg]⟩
theorem kwq:TdOk prog 104 krs:=⟨⟨_,_,show prog.info? 104=some Tryz.t104 from by kernel_rfl,by kernel_rfl,by kernel_rfl,rfl,rfl⟩,_,underlying104,by simp [kah,krs]⟩
theorem kvt:TdOk prog 106 kta:=⟨⟨_,_,show prog.info? 106=some Tryz.t106 from by kernel_rfl,by kernel_rfl,by kernel_rfl,rfl,rfl⟩,_,underlying106,by simp [kah,kta]⟩
theorem kwf:TdOk prog 113 ksk:=⟨⟨_,_,show prog.info? 113=some Tryz.t113 from by kernel_rfl,by kernel_rfl,by kernel_rfl,rfl,rfl⟩,_,underlying113,by simp [kah,ksk]⟩
theorem kw5:TdOk prog 117 ksp:=⟨⟨_,_,show prog.info? 117=some Tryz.t117 from by kernel_rfl,by kernel_rfl,by kernel_rfl,rfl,rfl⟩,_,underlying117,by simp [kah,ksp]⟩
theorem kwi:TdOk prog 118 ksj:=⟨⟨_,_,show prog.info? 118=some Tryz.t118 from by kernel_rfl,by kernel_rfl,by kernel_rfl,rfl,rfl⟩,_,underlying118,by simp [kah,ksj]⟩
theorem kxc:TdOk prog 121 ktd:=⟨⟨_,_,show prog.info? 121=some Tryz.t121 from by kernel_rfl,by kernel_rfl,by kernel_rfl,rfl,rfl⟩,_,underlying121,by simp [kah,ktd]⟩
theorem kw4:TdOk prog 128 ks6:=⟨⟨_,_,show prog.info? 128=some Tryz.t128 from by kernel_rfl,by kernel_rfl,by kernel_rfl,rfl,rfl⟩,_,underlying128,by simp [kah,ks6]⟩
theorem kxb:TdOk prog 130 kr2:=⟨⟨_,_,show prog.info? 130=some Tryz.t130 from by kernel_rfl,by kernel_rfl,by kernel_rfl,rfl,rfl⟩,_,underlying130,by simp [kah,kr2]⟩
theorem kvq:TdOk prog 131 kmc:=⟨⟨_,_,show prog.info? 131=some Tryz.t131 from by kernel_rfl,by kernel_rfl,by kernel_rfl,rfl,rfl⟩,_,underlying131,by simp [kah,kmc]⟩
theorem kvr:TdOk prog 138 ks4:=⟨⟨_,_,show prog.info? 138=some Tryz.t138 from by kernel_rfl,by kernel_rfl,by kernel_rfl,rfl,rfl⟩,_,underlying138,by simp [kah,ks4]⟩
theorem kwp:TdOk prog 141 ks5:=⟨⟨_,_,show prog.info? 141=some Tryz.t141 from by kernel_rfl,by kernel_rfl,by kernel_rfl,rfl,rfl⟩,_,underlying141,by simp [kah,ks5]⟩
theorem kw9:TdOk prog 145 kss:=⟨⟨_,_,show prog.info? 145=some Tryz.t145 from by kernel_rfl,by kernel_rfl,by kernel_rfl,rfl,rfl⟩,_,underlying145,by simp [kah,kss]⟩
theorem kws:TdOk prog 157 ks9:=⟨⟨_,_,show prog.info? 157=some Tryz.t157 from by kernel_rfl,by kernel_rfl,by kernel_rfl,rfl,rfl⟩,_,underlying157,by simp [kah,ks9]⟩
theorem kv9:TdOk prog 160 ks8:=⟨⟨_,_,show prog.info? 160=some Tryz.t160 from by kernel_rfl,by kernel_rfl,by kernel_rfl,rfl,rfl⟩,_,underlying160,by simp [kah,ks8]⟩
theorem kv2:TdOk prog 161 kti:=⟨⟨_,_,show prog.info? 161=some Tryz.t161 from by kernel_rfl,by kernel_rfl,by kernel_rfl,rfl,rfl⟩,_,underlying161,by simp [kah,kti]⟩
theorem kxo:TdOk prog 167 kto:=⟨⟨_,_,show prog.info? 167=some Tryz.t167 from by kernel_rfl,by kernel_rfl,by kernel_rfl,rfl,rfl⟩,_,underlying167,by simp [kah,kto]⟩
theorem kwk:TdOk prog 178 krq:=⟨⟨_,_,show prog.info? 178=some Tryz.t178 from by kernel_rfl,by kernel_rfl,by kernel_rfl,rfl,rfl⟩,_,underlying178,by simp [kah,krq]⟩
theorem kvh:TdOk prog 185 ksa:=⟨⟨_,_,show prog.info? 185=some Tryz.t185 from by kernel_rfl,by kernel_rfl,by kernel_rfl,rfl,rfl⟩,_,underlying185,by simp [kah,ksa]⟩
theorem kxj:TdOk prog 187 ktn:=⟨⟨_,_,show prog.info? 187=some Tryz.t187 from by kernel_rfl,by kernel_rfl,by kernel_rfl,rfl,rfl⟩,_,underlying187,by simp [kah,ktn]⟩
theorem kvz:TdOk prog 206 kst:=⟨⟨_,_,show prog.info? 206=some Tryz.t206 from by kernel_rfl,by kernel_rfl,by kernel_rfl,rfl,rfl⟩,_,underlying206,by simp [kah,kst]⟩
theorem kw1:TdOk prog 208 kr1:=⟨⟨_,_,show prog.info? 208=some Tryz.t208 from by kernel_rfl,by kernel_rfl,by kernel_rfl,rfl,rfl⟩,_,underlying208,by simp [kah,kr1]⟩
theorem kvw:TdOk prog 218 ksn:=⟨⟨_,_,show prog.info? 218=some Tryz.t218 from by kernel_rfl,by kernel_rfl,by kernel_rfl,rfl,rfl⟩,_,underlying218,by simp [kah,ksn]⟩
theorem kvx:TdOk prog 221 ksy:=⟨⟨_,_,show prog.info? 221=some Tryz.t221 from by kernel_rfl,by kernel_rfl,by kernel_rfl,rfl,rfl⟩,_,underlying221,by simp [kah,ksy]⟩
theorem kwy:TdOk prog 223 kr3:=⟨⟨_,_,show prog.info? 223=some Tryz.t223 from by kernel_rfl,by kernel_rfl,by kernel_rfl,rfl,rfl⟩,_,underlying223,by simp [kah,kr3]⟩
theorem kxm:TdOk prog 227 kr6:=⟨⟨_,_,show prog.info? 227=some Tryz.t227 from by kernel_rfl,by kernel_rfl,by kernel_rfl,rfl,rfl⟩,_,underlying227,by simp [kah,kr6]⟩
theorem kv8:TdOk prog 232 kse:=⟨⟨_,_,show prog.info? 232=some Tryz.t232 from by kernel_rfl,by kernel_rfl,by kernel_rfl,rfl,rfl⟩,_,underlying232,by simp [kah,kse]⟩
theorem kxg:TdOk prog 234 kts:=⟨⟨_,_,show prog.info? 234=some Tryz.t234 from by kernel_rfl,by kernel_rfl,by kernel_rfl,rfl,rfl⟩,_,underlying234,by simp [kah,kts]⟩
theorem kxh:TdOk prog 242 ktf:=⟨⟨_,_,show prog.info? 242=some Tryz.t242 from by kernel_rfl,by kernel_rfl,by kernel_rfl,rfl,rfl⟩,_,underlying242,by simp [kah,ktf]⟩
theorem kv0:TdOk prog 248 ksz:=⟨⟨_,_,show prog.info? 248=some Tryz.t248 from by kernel_rfl,by kernel_rfl,by kernel_rfl,rfl,rfl⟩,_,underlying248,by simp [kah,ksz]⟩
theorem kxn:TdOk prog 252 ksl:=⟨⟨_,_,show prog.info? 252=some Tryz.t252 from by kernel_rfl,by kernel_rfl,by kernel_rfl,rfl,rfl⟩,_,underlying252,by simp [kah,ksl]⟩
theorem kv3:TdOk prog 257 ksu:=⟨⟨_,_,show prog.info? 257=some Tryz.t257 from by kernel_rfl,by kernel_rfl,by kernel_rfl,rfl,rfl⟩,_,underlying257,by simp [kah,ksu]⟩
theorem kwx:TdOk prog 262 kr4:=⟨⟨_,_,show prog.info? 262=some Tryz.t262 from by kernel_rfl,by kernel_rfl,by kernel_rfl,rfl,rfl⟩,_,underlying262,by simp [kah,kr4]⟩
theorem kvl:TdOk prog 266 ktc:=⟨⟨_,_,show prog.info? 266=some Tryz.t266 from by kernel_rfl,by kernel_rfl,by kernel_rfl,rfl,rfl⟩,_,underlying266,by simp [kah,ktc]⟩
theorem kxl:TdOk prog 267 ks2:=⟨⟨_,_,show prog.info? 267=some Tryz.t267 from by kernel_rfl,by kernel_rfl,by kernel_rfl,rfl,rfl⟩,_,underlying267,by simp [kah,ks2]⟩
theorem kcz:TOk prog TT:=by
 intro p hp;simp only [TT,qaw,List.not_mem_nil,or_false] at hp;rcases hp with rfl | rfl | rfl | rfl | rfl | rfl | rfl | rfl | rfl | rfl | rfl | rfl | rfl | rfl | rfl | rfl | rfl | rfl | rfl | rfl | rfl | rfl | rfl | rfl | rfl | rfl | rfl | rfl | rfl | rfl | rfl | rfl | rfl | rfl | rfl | rfl | rfl | rfl | rfl | rfl | rfl | rfl | rfl | rfl | rfl | rfl | rfl | rfl | rfl | rfl | rfl | rfl | rfl | rfl | rfl | rfl | rfl | rfl | rfl | rfl | rfl | rfl | rfl | rfl | rfl | rfl;exact k13;exact k1h;exact k1n;exact k1p;exact k2u;exact k01;exact kym;exact kzp;exact k0f;exact kzt;exact k0y;exact k0j;exact kzy;exact kz6;exact k0w;exact kzz;exact kyl;exact kyj;exact kz3;exact kyh;exact kzq;exact kyy;exact kzc;exact kz8;exact kz7;exact k05;exact ky7;exact kz0;exact kyz;exact kyk;exact k03;exact kvi;exact kwq;exact kvt;exact kwf;exact kw5;exact kwi;exact kxc;exact kw4;exact kxb;exact kvq;exact kvr;exact kwp;exact kw9;exact kws;exact kv9;exact kv2;exact kxo;exact kwk;exact kvh;exact kxj;exact kvz;exact kw1;exact kvw;exact kvx;exact kwy;exact kxm;exact kv8;exact kxg;exact kxh;exact kv0;exact kxn;exact kv3;exact kwx;exact kvl
 ·exact kxl
instance tabP:Tab prog:=⟨TT,kcz,by kernel_rfl⟩
end Go.Proofs.YtpnnpkmjohkgiaaGreatDoor
