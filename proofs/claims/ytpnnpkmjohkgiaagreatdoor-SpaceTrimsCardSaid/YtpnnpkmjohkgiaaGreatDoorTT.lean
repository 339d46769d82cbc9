import Derived.Test.YtpnnpkmjohkgiaaGreatDoorOt
import Derived.Test.YtpnnpkmjohkgiaaGreatDoorOt
import Derived.Test.YtpnnpkmjohkgiaaGreatDoorXj
import Derived.Test.YtpnnpkmjohkgiaaGreatDoorXm
import Derived.Test.YtpnnpkmjohkgiaaGreatDoorProg
set_option linter.all false
namespace Go.Proofs.YtpnnpkmjohkgiaaGreatDoor
open Go Go.RowKit Go.Proofs.Tryz
def tt2:TD:=⟨1,8, .int .i64,[.int .i64 0]⟩
def tt3:TD:=⟨1,8, .int .i64,[.int .i64 0]⟩
def tt4:TD:=⟨1,1, .bool,[.bool false]⟩
def tt5:TD:=⟨1,1, .int .u8,[.int .u8 0]⟩
def tt9:TD:=⟨1,16, .str,[.string ⟨#[]⟩]⟩
def tt20:TD:=⟨1,16, .ifc,[.nilIface]⟩
def tt22:TD:=⟨1,24, .slice 3,[.slice none 0 0]⟩
def tt23:TD:=⟨1,24, .slice 113,[.slice none 0 0]⟩
def tt24:TD:=⟨1,24, .slice 63,[.slice none 0 0]⟩
def tt26:TD:=⟨4,88, .st [(9,0),(22,1),(23,2),(24,3)],[.string ⟨#[]⟩, .slice none 0 0, .slice none 0 0, .slice none 0 0]⟩
def tt27:TD:=⟨1,24, .slice 67,[.slice none 0 0]⟩
def tt29:TD:=⟨2,48, .st [(27,0),(22,1)],[.slice none 0 0, .slice none 0 0]⟩
def tt33:TD:=⟨1,8, .int .i64,[.int .i64 0]⟩
def tt36:TD:=⟨1,24, .slice 38,[.slice none 0 0]⟩
def tt38:TD:=⟨2,32, .st [(3,0),(36,1)],[.int .i64 0, .slice none 0 0]⟩
def tt48:TD:=⟨1,8, .fn,[.nilFunc]⟩
def tt59:TD:=⟨1,24, .slice 61,[.slice none 0 0]⟩
def tt61:TD:=⟨4,56, .st [(3,0),(2,1),(9,2),(59,3)],[.int .i64 0, .int .i64 0, .string ⟨#[]⟩, .slice none 0 0]⟩
def tt63:TD:=⟨9,120, .st [(3,0),(3,1),(3,2),(61,3),(9,7),(22,8)],[.int .i64 0, .int .i64 0, .int .i64 0, .int .i64 0, .int .i64 0, .string ⟨#[]⟩, .slice none 0 0, .string ⟨#[]⟩, .slice none 0 0]⟩
def tt64:TD:=⟨1,8, .fn,[.nilFunc]⟩
def tt65:TD:=⟨1,24, .slice 69,[.slice none 0 0]⟩
def tt67:TD:=⟨3,40, .st [(3,0),(3,1),(65,2)],[.int .i64 0, .int .i64 0, .slice none 0 0]⟩
def tt69:TD:=⟨2,32, .st [(3,0),(22,1)],[.int .i64 0, .slice none 0 0]⟩
def tt73:TD:=⟨1,24, .slice 3,[.slice none 0 0]⟩
def tt77:TD:=⟨1,8, .fn,[.nilFunc]⟩
def tt81:TD:=⟨1,24, .slice 4,[.slice none 0 0]⟩
def tt88:TD:=⟨1,8, .fn,[.nilFunc]⟩
def tt89:TD:=⟨1,8, .ptr 106,[.pointer none]⟩
def tt91:TD:=⟨1,24, .slice 22,[.slice none 0 0]⟩
def tt92:TD:=⟨1,8, .map 3 4,[.map none]⟩
def tt97:TD:=⟨1,24, .slice 36,[.slice none 0 0]⟩
def krz:TD:=⟨1,8, .fn,[.nilFunc]⟩
def krd:TD:=⟨1,8, .map 9 3,[.map none]⟩
def kst:TD:=⟨4,80, .st [(104,0),(22,1),(91,2),(22,3)],[.map none, .slice none 0 0, .slice none 0 0, .slice none 0 0]⟩
def kr3:TD:=⟨2,24, .st [(9,0),(3,1)],[.string ⟨#[]⟩, .int .i64 0]⟩
def kr8:TD:=⟨1,24, .slice 2,[.slice none 0 0]⟩
def kr2:TD:=⟨1,24, .slice 117,[.slice none 0 0]⟩
def ksw:TD:=⟨1,24, .slice 22,[.slice none 0 0]⟩
def kso:TD:=⟨1,8, .map 9 4,[.map none]⟩
def krl:TD:=⟨1,8, .fn,[.nilFunc]⟩
def klp:TD:=⟨1,8, .map 3 73,[.map none]⟩
def ksm:TD:=⟨1,8, .fn,[.nilFunc]⟩
def ksn:TD:=⟨1,8, .fn,[.nilFunc]⟩
def ksa:TD:=⟨1,8, .int .u64,[.int .u64 0]⟩
def kss:TD:=⟨1,8, .ptr 208,[.pointer none]⟩
def ksr:TD:=⟨1,8, .fn,[.nilFunc]⟩
def ks1:TD:=⟨1,8, .fn,[.nilFunc]⟩
def ks7:TD:=⟨3,48, .st [(9,0),(22,1),(3,2)],[.string ⟨#[]⟩, .slice none 0 0, .int .i64 0]⟩
def krc:TD:=⟨1,8, .int .i64,[.int .i64 0]⟩
def krt:TD:=⟨1,4, .int .u32,[.int .u32 0]⟩
def ks6:TD:=⟨1,8, .int .u64,[.int .u64 0]⟩
def ksb:TD:=⟨1,8, .map 9 2,[.map none]⟩
def krk:TD:=⟨5,96, .st [(26,0),(206,4)],[.string ⟨#[]⟩, .slice none 0 0, .slice none 0 0, .slice none 0 0, .map none]⟩
def kr6:TD:=⟨4,64, .st [(167,0),(9,3)],[.string ⟨#[]⟩, .slice none 0 0, .int .i64 0, .string ⟨#[]⟩]⟩
def ksf:TD:=⟨1,24, .slice 5,[.slice none 0 0]⟩
def krn:TD:=⟨1,8, .int .u64,[.int .u64 0]⟩
def krp:TD:=⟨1,8, .ptr 3,[.pointer none]⟩
def krx:TD:=⟨1,24, .slice 234,[.slice none 0 0]⟩
def kta:TD:=⟨3,48, .arr 3 9,[.string ⟨#[]⟩, .string ⟨#[]⟩, .string ⟨#[]⟩]⟩
def ksy:TD:=⟨1,24, .slice 218,[.slice none 0 0]⟩
def ksg:TD:=⟨1,24, .slice 9,[.slice none 0 0]⟩
def kr4:TD:=⟨1,24, .slice 242,[.slice none 0 0]⟩
def ksc:TD:=⟨24,24, .arr 24 5,[.int .u8 0, .int .u8 0, .int .u8 0, .int .u8 0, .int .u8 0, .int .u8 0, .int .u8 0, .int .u8 0, .int .u8 0, .int .u8 0, .int .u8 0, .int .u8 0, .int .u8 0, .int .u8 0, .int .u8 0, .int .u8 0, .int .u8 0, .int .u8 0, .int .u8 0, .int .u8 0, .int .u8 0, .int .u8 0, .int .u8 0, .int .u8 0]⟩
def kro:TD:=⟨20,160, .arr 20 187,[.int .u64 0, .int .u64 0, .int .u64 0, .int .u64 0, .int .u64 0, .int .u64 0, .int .u64 0, .int .u64 0, .int .u64 0, .int .u64 0, .int .u64 0, .int .u64 0, .int .u64 0, .int .u64 0, .int .u64 0, .int .u64 0, .int .u64 0, .int .u64 0, .int .u64 0, .int .u64 0]⟩
def ksv:TD:=⟨32,32, .arr 32 5,[.int .u8 0, .int .u8 0, .int .u8 0, .int .u8 0, .int .u8 0, .int .u8 0, .int .u8 0, .int .u8 0, .int .u8 0, .int .u8 0, .int .u8 0, .int .u8 0, .int .u8 0, .int .u8 0, .int .u8 0, .int .u8 0, .int .u8 0, .int .u8 0, .int .u8 0, .int .u8 0, .int .u8 0, .int .u8 0, .int .u8 0, .int .u8 0, .int .u8 0, .int .u8 0, .int .u8 0, .int .u8 0, .int .u8 0, .int .u8 0, .int .u8 0, .int .u8 0]⟩
def ksk:TD:=⟨64,64, .arr 64 5,[.int .u8 0, .int .u8 0, .int .u8 0, .int .u8 0, .int .u8 0, .int .u8 0, .int .u8 0, .int .u8 0, .int .u8 0, .int .u8 0, .int .u8 0, .int .u8 0, .int .u8 0, .int .u8 0, .int .u8 0, .int .u8 0, .int .u8 0, .int .u8 0, .int .u8 0, .int .u8 0, .int .u8 0, .int .u8 0, .int .u8 0, .int .u8 0, .int .u8 0, .int .u8 0, .int .u8 0, .int .u8 0, .int .u8 0, .int .u8 0, .int .u8 0, .int .u8 0, .int .u8 0, .int .u8 0, .int .u8 0, .int .u8 0, .int .u8 0, .int .u8 0, .int .u8 0, .int .u8 0, .int .u8 0, .int .u8 0, .int .u8 0, .int .u8 0, .int .u8 0, .int .u8 0, .int .u8 0, .int .u8 0, .int .u8 0, .int .u8 0, .int .u8 0, .int .u8 0, .int .u8 0, .int .u8 0, .int .u8 0, .int .u8 0, .int .u8 0, .int .u8 0, .int .u8 0, .int .u8 0, .int .u8 0, .int .u8 0, .int .u8 0, .int .u8 0]⟩
def TT:List (TypeId×TD):=[(2,tt2),(3,tt3),(4,tt4),(5,tt5),(9,tt9),(20,tt20),(22,tt22),(23,tt23),(24,tt24),(26,tt26),(27,tt27),(29,tt29),(33,tt33),(36,tt36),(38,tt38),(48,tt48),(59,tt59),(61,tt61),(63,tt63),(64,tt64),(65,tt65),(67,tt67),(69,tt69),(73,tt73),(77,tt77),(81,tt81),(88,tt88),(89,tt89),(91,tt91),(92,tt92),(97,tt97),(101,krz),(104,krd),(106,kst),(113,kr3),(117,kr8),(118,kr2),(121,ksw),(128,kso),(130,krl),(131,klp),(138,ksm),(141,ksn),(145,ksa),(157,kss),(160,ksr),(161,ks1),(167,ks7),(178,krc),(185,krt),(187,ks6),(206,ksb),(208,krk),(218,kr6),(221,ksf),(223,krn),(227,krp),(232,krx),(234,kta),(242,ksy),(248,ksg),(252,kr4),(257,ksc),(262,kro),(266,ksv),(267,ksk)]
theorem k1o:TdOk prog 2 tt2:=⟨⟨_,_,show prog.info? 2=some Tryz.t2 from by kernel_rfl,by kernel_rfl,by kernel_rfl,rfl,rfl⟩,_,underlying2,by simp [kai,tt2]⟩
theorem k05:TdOk prog 3 tt3:=⟨⟨_,_,show prog.info? 3=some Tryz.t3 from by kernel_rfl,by kernel_rfl,by kernel_rfl,rfl,rfl⟩,_,underlying3,by simp [kai,tt3]⟩
theorem k1a:TdOk prog 4 tt4:=⟨⟨_,_,show prog.info? 4=some Tryz.t4 from by kernel_rfl,by kernel_rfl,by kernel_rfl,rfl,rfl⟩,_,underlying4,by simp [kai,tt4]⟩
theorem k1c:TdOk prog 5 tt5:=⟨⟨_,_,show prog.info? 5=some Tryz.t5 from by kernel_rfl,by kernel_rfl,by kernel_rfl,rfl,rfl⟩,_,underlying5,by simp [kai,tt5]⟩
theorem k2n:TdOk prog 9 tt9:=⟨⟨_,_,show prog.info? 9=some Tryz.t9 from by kernel_rfl,by kernel_rfl,by kernel_rfl,rfl,rfl⟩,_,underlying9,by simp [kai,tt9]⟩
theorem k0n:TdOk prog 20 tt20:=⟨⟨_,_,show prog.info? 20=some Tryz.t20 from by kernel_rfl,by kernel_rfl,by kernel_rfl,rfl,rfl⟩,_,underlying20,by simp [kai,tt20]⟩
theorem kx4:TdOk prog 22 tt22:=⟨⟨_,_,show prog.info? 22=some Tryz.t22 from by kernel_rfl,by kernel_rfl,by kernel_rfl,rfl,rfl⟩,_,underlying22,by simp [kai,tt22]⟩
theorem kza:TdOk prog 23 tt23:=⟨⟨_,_,show prog.info? 23=some Tryz.t23 from by kernel_rfl,by kernel_rfl,by kernel_rfl,rfl,rfl⟩,_,underlying23,by simp [kai,tt23]⟩
theorem kz2:TdOk prog 24 tt24:=⟨⟨_,_,show prog.info? 24=some Tryz.t24 from by kernel_rfl,by kernel_rfl,by kernel_rfl,rfl,rfl⟩,_,underlying24,by simp [kai,tt24]⟩
theorem kzf:TdOk prog 26 tt26:=⟨⟨_,_,show prog.info? 26=some Tryz.t26 from by kernel_rfl,by kernel_rfl,by kernel_rfl,rfl,rfl⟩,_,underlying26,by simp [kai,tt26]⟩
theorem k0l:TdOk prog 27 tt27:=⟨⟨_,_,show prog.info? 27=some Tryz.t27 from by kernel_rfl,by kernel_rfl,by kernel_rfl,rfl,rfl⟩,_,underlying27,by simp [kai,tt27]⟩
theorem kz7:TdOk prog 29 tt29:=⟨⟨_,_,show prog.info? 29=some Tryz.t29 from by kernel_rfl,by kernel_rfl,by kernel_rfl,rfl,rfl⟩,_,underlying29,by simp [kai,tt29]⟩
theorem kzk:TdOk prog 33 tt33:=⟨⟨_,_,show prog.info? 33=some Tryz.t33 from by kernel_rfl,by kernel_rfl,by kernel_rfl,rfl,rfl⟩,_,underlying33,by simp [kai,tt33]⟩
theorem kzr:TdOk prog 36 tt36:=⟨⟨_,_,show prog.info? 36=some Tryz.t36 from by kernel_rfl,by kernel_rfl,by kernel_rfl,rfl,rfl⟩,_,underlying36,by simp [kai,tt36]⟩
theorem k0j:TdOk prog 38 tt38:=⟨⟨_,_,show prog.info? 38=some Tryz.t38 from by kernel_rfl,by kernel_rfl,by kernel_rfl,rfl,rfl⟩,_,underlying38,by simp [kai,tt38]⟩
theorem kzl:TdOk prog 48 tt48:=⟨⟨_,_,show prog.info? 48=some Tryz.t48 from by kernel_rfl,by kernel_rfl,by kernel_rfl,rfl,rfl⟩,_,underlying48,by simp [kai,tt48]⟩
theorem kx3:TdOk prog 59 tt59:=⟨⟨_,_,show prog.info? 59=some Tryz.t59 from by kernel_rfl,by kernel_rfl,by kernel_rfl,rfl,rfl⟩,_,underlying59,by simp [kai,tt59]⟩
theorem kx1:TdOk prog 61 tt61:=⟨⟨_,_,show prog.info? 61=some Tryz.t61 from by kernel_rfl,by kernel_rfl,by kernel_rfl,rfl,rfl⟩,_,underlying61,by simp [kai,tt61]⟩
theorem kzp:TdOk prog 63 tt63:=⟨⟨_,_,show prog.info? 63=some Tryz.t63 from by kernel_rfl,by kernel_rfl,by kernel_rfl,rfl,rfl⟩,_,underlying63,by simp [kai,tt63]⟩
theorem kxz:TdOk prog 64 tt64:=⟨⟨_,_,show prog.info? 64=some Tryz.t64 from by kernel_rfl,by kernel_rfl,by kernel_rfl,rfl,rfl⟩,_,underlying64,by simp [kai,tt64]⟩
theorem kzb:TdOk prog 65 tt65:=⟨⟨_,_,show prog.info? 65=some Tryz.t65 from by kernel_rfl,by kernel_rfl,by kernel_rfl,rfl,rfl⟩,_,underlying65,by simp [kai,tt65]⟩
theorem kyi:TdOk prog 67 tt67:=⟨⟨_,_,show prog.info? 67=some Tryz.t67 from by kernel_rfl,by kernel_rfl,by kernel_rfl,rfl,rfl⟩,_,underlying67,by simp [kai,tt67]⟩
theorem kyv:TdOk prog 69 tt69:=⟨⟨_,_,show prog.info? 69=some Tryz.t69 from by kernel_rfl,by kernel_rfl,by kernel_rfl,rfl,rfl⟩,_,underlying69,by simp [kai,tt69]⟩
theorem kzt:TdOk prog 73 tt73:=⟨⟨_,_,show prog.info? 73=some Tryz.t73 from by kernel_rfl,by kernel_rfl,by kernel_rfl,rfl,rfl⟩,_,underlying73,by simp [kai,tt73]⟩
theorem kzs:TdOk prog 77 tt77:=⟨⟨_,_,show prog.info? 77=some Tryz.t77 from by kernel_rfl,by kernel_rfl,by kernel_rfl,rfl,rfl⟩,_,underlying77,by simp [kai,tt77]⟩
theorem k0r:TdOk prog 81 tt81:=⟨⟨_,_,show prog.info? 81=some Tryz.t81 from by kernel_rfl,by kernel_rfl,by kernel_rfl,rfl,rfl⟩,_,underlying81,by simp [kai,tt81]⟩
theorem kyr:TdOk prog 88 tt88:=⟨⟨_,_,show prog.info? 88=some Tryz.t88 from by kernel_rfl,by kernel_rfl,by kernel_rfl,rfl,rfl⟩,_,underlying88,by simp [kai,tt88]⟩
theorem kzm:TdOk prog 89 tt89:=⟨⟨_,_,show prog.info? 89=some Tryz.t89 from by kernel_rfl,by kernel_rfl,by kernel_rfl,rfl,rfl⟩,_,underlying89,by simp [kai,tt89]⟩
theorem kyj:TdOk prog 91 tt91:=⟨⟨_,_,show prog.info? 91=some Tryz.t91 from by kernel_rfl,by kernel_rfl,by kernel_rfl,rfl,rfl⟩,_,underlying91,by simp [kai,tt91]⟩
theorem kx2:TdOk prog 92 tt92:=⟨⟨_,_,show prog.info? 92=some Tryz.t92 from by kernel_rfl,by kernel_rfl,by kernel_rfl,rfl,rfl⟩,_,underlying92,by simp [kai,tt92]⟩
theorem k0p:TdOk prog 97 tt97:=⟨⟨_,_,show prog.info? 97=some Tryz.t97 from by kernel_rfl,by kernel_rfl,by kernel_rfl,rfl,rfl⟩,_,underlying97,by simp [kai,tt97]⟩
theorem kuw:TdOk prog 101 krz:=⟨⟨_,_,show prog.info? 101=some Tryz.t101 from by kernel_rfl,by kernel_rfl,by kernel_rfl,rfl,rfl⟩,_,underlying101,by simp [kai,krz]⟩
theorem kv7:TdOk prog 104 krd:=⟨⟨_,_,show prog.info? 104=some Tryz.t104 from by kernel_rfl,by kernel_rfl,by kernel_rfl,rfl,rfl⟩,_,underlying104,by simp [kai,krd]⟩
theorem ku6:TdOk prog 106 kst:=⟨⟨_,_,show prog.info? 106=some Tryz.t106 from by kernel_rfl,by kernel_rfl,by kernel_rfl,rfl,rfl⟩,_,underlying106,by simp [kai,kst]⟩
theorem kvu:TdOk prog 113 kr3:=⟨⟨_,_,show prog.info? 113=some Tryz.t113 from by kernel_rfl,by kernel_rfl,by kernel_rfl,rfl,rfl⟩,_,underlying113,by simp [kai,kr3]⟩
theorem kwn:TdOk prog 117 kr8:=⟨⟨_,_,show prog.info? 117=some Tryz.t117 from by kernel_rfl,by kernel_rfl,by kernel_rfl,rfl,rfl⟩,_,underlying117,by simp [kai,kr8]⟩
theorem kvw:TdOk prog 118 kr2:=⟨⟨_,_,show prog.info? 118=some Tryz.t118 from by kernel_rfl,by kernel_rfl,by kernel_rfl,rfl,rfl⟩,_,underlying118,by simp [kai,kr2]⟩
theorem kwu:TdOk prog 121 ksw:=⟨⟨_,_,show prog.info? 121=some Tryz.t121 from by kernel_rfl,by kernel_rfl,by kernel_rfl,rfl,rfl⟩,_,underlying121,by simp [kai,ksw]⟩
theorem kwm:TdOk prog 128 kso:=⟨⟨_,_,show prog.info? 128=some Tryz.t128 from by kernel_rfl,by kernel_rfl,by kernel_rfl,rfl,rfl⟩,_,underlying128,by simp [kai,kso]⟩
theorem kws:TdOk prog 130 krl:=⟨⟨_,_,show prog.info? 130=some Tryz.t130 from by kernel_rfl,by kernel_rfl,by kernel_rfl,rfl,rfl⟩,_,underlying130,by simp [kai,krl]⟩
theorem ku3:TdOk prog 131 klp:=⟨⟨_,_,show prog.info? 131=some Tryz.t131 from by kernel_rfl,by kernel_rfl,by kernel_rfl,rfl,rfl⟩,_,underlying131,by simp [kai,klp]⟩
theorem ku4:TdOk prog 138 ksm:=⟨⟨_,_,show prog.info? 138=some Tryz.t138 from by kernel_rfl,by kernel_rfl,by kernel_rfl,rfl,rfl⟩,_,underlying138,by simp [kai,ksm]⟩
theorem kv6:TdOk prog 141 ksn:=⟨⟨_,_,show prog.info? 141=some Tryz.t141 from by kernel_rfl,by kernel_rfl,by kernel_rfl,rfl,rfl⟩,_,underlying141,by simp [kai,ksn]⟩
theorem kwq:TdOk prog 145 ksa:=⟨⟨_,_,show prog.info? 145=some Tryz.t145 from by kernel_rfl,by kernel_rfl,by kernel_rfl,rfl,rfl⟩,_,underlying145,by simp [kai,ksa]⟩
theorem kv9:TdOk prog 157 kss:=⟨⟨_,_,show prog.info? 157=some Tryz.t157 from by kernel_rfl,by kernel_rfl,by kernel_rfl,rfl,rfl⟩,_,underlying157,by simp [kai,kss]⟩
theorem kvp:TdOk prog 160 ksr:=⟨⟨_,_,show prog.info? 160=some Tryz.t160 from by kernel_rfl,by kernel_rfl,by kernel_rfl,rfl,rfl⟩,_,underlying160,by simp [kai,ksr]⟩
theorem kvi:TdOk prog 161 ks1:=⟨⟨_,_,show prog.info? 161=some Tryz.t161 from by kernel_rfl,by kernel_rfl,by kernel_rfl,rfl,rfl⟩,_,underlying161,by simp [kai,ks1]⟩
theorem kw6:TdOk prog 167 ks7:=⟨⟨_,_,show prog.info? 167=some Tryz.t167 from by kernel_rfl,by kernel_rfl,by kernel_rfl,rfl,rfl⟩,_,underlying167,by simp [kai,ks7]⟩
theorem kvy:TdOk prog 178 krc:=⟨⟨_,_,show prog.info? 178=some Tryz.t178 from by kernel_rfl,by kernel_rfl,by kernel_rfl,rfl,rfl⟩,_,underlying178,by simp [kai,krc]⟩
theorem kuv:TdOk prog 185 krt:=⟨⟨_,_,show prog.info? 185=some Tryz.t185 from by kernel_rfl,by kernel_rfl,by kernel_rfl,rfl,rfl⟩,_,underlying185,by simp [kai,krt]⟩
theorem kw1:TdOk prog 187 ks6:=⟨⟨_,_,show prog.info? 187=some Tryz.t187 from by kernel_rfl,by kernel_rfl,by kernel_rfl,rfl,rfl⟩,_,underlying187,by simp [kai,ks6]⟩
theorem kvd:TdOk prog 206 ksb:=⟨⟨_,_,show prog.info? 206=some Tryz.t206 from by kernel_rfl,by kernel_rfl,by kernel_rfl,rfl,rfl⟩,_,underlying206,by simp [kai,ksb]⟩
theorem kwj:TdOk prog 208 krk:=⟨⟨_,_,show prog.info? 208=some Tryz.t208 from by kernel_rfl,by kernel_rfl,by kernel_rfl,rfl,rfl⟩,_,underlying208,by simp [kai,krk]⟩
theorem ku9:TdOk prog 218 kr6:=⟨⟨_,_,show prog.info? 218=some Tryz.t218 from by kernel_rfl,by kernel_rfl,by kernel_rfl,rfl,rfl⟩,_,underlying218,by simp [kai,kr6]⟩
theorem kva:TdOk prog 221 ksf:=⟨⟨_,_,show prog.info? 221=some Tryz.t221 from by kernel_rfl,by kernel_rfl,by kernel_rfl,rfl,rfl⟩,_,underlying221,by simp [kai,ksf]⟩
theorem kwg:TdOk prog 223 krn:=⟨⟨_,_,show prog.info? 223=some Tryz.t223 from by kernel_rfl,by kernel_rfl,by kernel_rfl,rfl,rfl⟩,_,underlying223,by simp [kai,krn]⟩
theorem kw4:TdOk prog 227 krp:=⟨⟨_,_,show prog.info? 227=some Tryz.t227 from by kernel_rfl,by kernel_rfl,by kernel_rfl,rfl,rfl⟩,_,underlying227,by simp [kai,krp]⟩
theorem kvo:TdOk prog 232 krx:=⟨⟨_,_,show prog.info? 232=some Tryz.t232 from by kernel_rfl,by kernel_rfl,by kernel_rfl,rfl,rfl⟩,_,underlying232,by simp [kai,krx]⟩
theorem kwy:TdOk prog 234 kta:=⟨⟨_,_,show prog.info? 234=some Tryz.t234 from by kernel_rfl,by kernel_rfl,by kernel_rfl,rfl,rfl⟩,_,underlying234,by simp [kai,kta]⟩
theorem kwz:TdOk prog 242 ksy:=⟨⟨_,_,show prog.info? 242=some Tryz.t242 from by kernel_rfl,by kernel_rfl,by kernel_rfl,rfl,rfl⟩,_,underlying242,by simp [kai,ksy]⟩
theorem kve:TdOk prog 248 ksg:=⟨⟨_,_,show prog.info? 248=some Tryz.t248 from by kernel_rfl,by kernel_rfl,by kernel_rfl,rfl,rfl⟩,_,underlying248,by simp [kai,ksg]⟩
theorem kw5:TdOk prog 252 kr4:=⟨⟨_,_,show prog.info? 252=some Tryz.t252 from by kernel_rfl,by kernel_rfl,by kernel_rfl,rfl,rfl⟩,_,underlying252,by simp [kai,kr4]⟩
theorem kvj:TdOk prog 257 ksc:=⟨⟨_,_,show prog.info? 257=some Tryz.t257 from by kernel_rfl,by kernel_rfl,by kernel_rfl,rfl,rfl⟩,_,underlying257,by simp [kai,ksc]⟩
theorem kwf:TdOk prog 262 kro:=⟨⟨_,_,show prog.info? 262=some Tryz.t262 from by kernel_rfl,by kernel_rfl,by kernel_rfl,rfl,rfl⟩,_,underlying262,by simp [kai,kro]⟩
theorem kuz:TdOk prog 266 ksv:=⟨⟨_,_,show prog.info? 266=some Tryz.t266 from by kernel_rfl,by kernel_rfl,by kernel_rfl,rfl,rfl⟩,_,underlying266,by simp [kai,ksv]⟩
theorem kw3:TdOk prog 267 ksk:=⟨⟨_,_,show prog.info? 267=some Tryz.t267 from by kernel_rfl,by kernel_rfl,by kernel_rfl,rfl,rfl⟩,_,underlying267,by simp [kai,ksk]⟩
theorem kao:TOk prog TT:=by
 intro p hp;simp only [TT,qaw,List.not_mem_nil,or_false] at hp;rcases hp with rfl | rfl | rfl | rfl | rfl | rfl | rfl | rfl | rfl | rfl | rfl | rfl | rfl | rfl | rfl | rfl | rfl | rfl | rfl | rfl | rfl | rfl | rfl | rfl | rfl | rfl | rfl | rfl | rfl | rfl | rfl | rfl | rfl | rfl | rfl | rfl | rfl | rfl | rfl | rfl | rfl | rfl | rfl | rfl | rfl | rfl | rfl | rfl | rfl | rfl | rfl | rfl | rfl | rfl | rfl | rfl | rfl | rfl | rfl | rfl | rfl | rfl | rfl | rfl | rfl | rfl;exact k1o;exact k05;exact k1a;exact k1c;exact k2n;exact k0n;exact kx4;exact kza;exact kz2;exact kzf;exact k0l;exact kz7;exact kzk;exact kzr;exact k0j;exact kzl;exact kx3;exact kx1;exact kzp;exact kxz;exact kzb;exact kyi;exact kyv;exact kzt;exact kzs;exact k0r;exact kyr;exact kzm;exact kyj;exact kx2;exact k0p;exact kuw;exact kv7;exact ku6;exact kvu;exact kwn;exact kvw;exact kwu;exact kwm;exact kws;exact ku3;exact ku4;exact kv6;exact kwq;exact kv9;exact kvp;exact kvi;exact kw6;exact kvy;exact kuv;exact kw1;exact kvd;exact kwj;exact ku9;exact kva;exact kwg;exact kw4;exact kvo;exact kwy;exact kwz;exact kve;exact kw5;exact kvj;exact kwf;exact kuz
 ·exact kw3
instance tabP:Tab prog:=⟨TT,kao,by kernel_rfl⟩
end Go.Proofs.YtpnnpkmjohkgiaaGreatDoor
