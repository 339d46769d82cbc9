import Derived.Test.YtpcfkflhnkfjjaaGreatMop
import Derived.Test.YtpcfkflhnkfjjaaGreatOt
import Derived.Test.YtpcfkflhnkfjjaaGreatProg
set_option linter.all false
namespace Go.Proofs.YtpcfkflhnkfjjaaGreat
open Go Go.RowKit Go.Proofs.Tryz
def tt2:TD:=⟨1,8, .int .i64,[.int .i64 0]⟩
def tt3:TD:=⟨1,8, .int .i64,[.int .i64 0]⟩
def tt4:TD:=⟨1,1, .bool,[.bool false]⟩
def tt5:TD:=⟨1,1, .int .u8,[.int .u8 0]⟩
def tt9:TD:=⟨1,16, .str,[.string ⟨#[]⟩]⟩
def tt22:TD:=⟨1,24, .slice 3,[.slice none 0 0]⟩
def tt23:TD:=⟨1,24, .slice 51,[.slice none 0 0]⟩
def tt24:TD:=⟨1,24, .slice 56,[.slice none 0 0]⟩
def tt26:TD:=⟨4,88, .st [(9,0),(22,1),(23,2),(24,3)],[.string ⟨#[]⟩, .slice none 0 0, .slice none 0 0, .slice none 0 0]⟩
def tt28:TD:=⟨2,16, .st [(3,0),(3,1)],[.int .i64 0, .int .i64 0]⟩
def tt30:TD:=⟨1,8, .int .i64,[.int .i64 0]⟩
def tt35:TD:=⟨1,24, .slice 68,[.slice none 0 0]⟩
def tt37:TD:=⟨2,48, .st [(35,0),(22,1)],[.slice none 0 0, .slice none 0 0]⟩
def tt40:TD:=⟨1,24, .slice 47,[.slice none 0 0]⟩
def tt47:TD:=⟨2,32, .st [(3,0),(40,1)],[.int .i64 0, .slice none 0 0]⟩
def tt51:TD:=⟨2,24, .st [(9,0),(3,1)],[.string ⟨#[]⟩, .int .i64 0]⟩
def tt52:TD:=⟨1,24, .slice 54,[.slice none 0 0]⟩
def tt54:TD:=⟨4,56, .st [(3,0),(2,1),(9,2),(52,3)],[.int .i64 0, .int .i64 0, .string ⟨#[]⟩, .slice none 0 0]⟩
def tt56:TD:=⟨9,120, .st [(3,0),(3,1),(3,2),(54,3),(9,7),(22,8)],[.int .i64 0, .int .i64 0, .int .i64 0, .int .i64 0, .int .i64 0, .string ⟨#[]⟩, .slice none 0 0, .string ⟨#[]⟩, .slice none 0 0]⟩
def tt62:TD:=⟨1,24, .slice 2,[.slice none 0 0]⟩
def tt63:TD:=⟨1,24, .slice 62,[.slice none 0 0]⟩
def tt66:TD:=⟨1,24, .slice 75,[.slice none 0 0]⟩
def tt68:TD:=⟨3,40, .st [(3,0),(3,1),(66,2)],[.int .i64 0, .int .i64 0, .slice none 0 0]⟩
def tt72:TD:=⟨1,24, .slice 40,[.slice none 0 0]⟩
def tt75:TD:=⟨2,32, .st [(3,0),(22,1)],[.int .i64 0, .slice none 0 0]⟩
def tt78:TD:=⟨1,24, .slice 22,[.slice none 0 0]⟩
def tt82:TD:=⟨1,8, .fn,[.nilFunc]⟩
def tt96:TD:=⟨1,24, .slice 4,[.slice none 0 0]⟩
def tt99:TD:=⟨1,8, .int .u64,[.int .u64 0]⟩
def k2g:TD:=⟨1,8, .fn,[.nilFunc]⟩
def kvn:TD:=⟨1,8, .map 9 4,[.map none]⟩
def k2u:TD:=⟨1,8, .fn,[.nilFunc]⟩
def k2z:TD:=⟨1,4, .int .u32,[.int .u32 0]⟩
def k14:TD:=⟨1,8, .int .u64,[.int .u64 0]⟩
def k1u:TD:=⟨3,48, .st [(9,0),(22,1),(3,2)],[.string ⟨#[]⟩, .slice none 0 0, .int .i64 0]⟩
def k1p:TD:=⟨1,24, .slice 141,[.slice none 0 0]⟩
def k2n:TD:=⟨3,48, .arr 3 9,[.string ⟨#[]⟩, .string ⟨#[]⟩, .string ⟨#[]⟩]⟩
def k2c:TD:=⟨4,64, .st [(130,0),(9,3)],[.string ⟨#[]⟩, .slice none 0 0, .int .i64 0, .string ⟨#[]⟩]⟩
def k12:TD:=⟨1,24, .slice 9,[.slice none 0 0]⟩
def k1x:TD:=⟨1,24, .slice 147,[.slice none 0 0]⟩
def k2b:TD:=⟨1,24, .slice 152,[.slice none 0 0]⟩
def TT:List (TypeId×TD):=[(2,tt2),(3,tt3),(4,tt4),(5,tt5),(9,tt9),(22,tt22),(23,tt23),(24,tt24),(26,tt26),(28,tt28),(30,tt30),(35,tt35),(37,tt37),(40,tt40),(47,tt47),(51,tt51),(52,tt52),(54,tt54),(56,tt56),(62,tt62),(63,tt63),(66,tt66),(68,tt68),(72,tt72),(75,tt75),(78,tt78),(82,tt82),(96,tt96),(99,tt99),(102,k2g),(106,kvn),(111,k2u),(119,k2z),(122,k14),(130,k1u),(139,k1p),(141,k2n),(147,k2c),(150,k12),(152,k1x),(155,k2b)]
theorem kaa2:TdOk prog 2 tt2:=⟨⟨_,_,show prog.info? 2=some Tryz.t2 from by kernel_rfl,by kernel_rfl,by kernel_rfl,rfl,rfl⟩,_,underlying2,by simp [kau,tt2]⟩
theorem kaaw:TdOk prog 3 tt3:=⟨⟨_,_,show prog.info? 3=some Tryz.t3 from by kernel_rfl,by kernel_rfl,by kernel_rfl,rfl,rfl⟩,_,underlying3,by simp [kau,tt3]⟩
theorem kaaz:TdOk prog 4 tt4:=⟨⟨_,_,show prog.info? 4=some Tryz.t4 from by kernel_rfl,by kernel_rfl,by kernel_rfl,rfl,rfl⟩,_,underlying4,by simp [kau,tt4]⟩
theorem kaa0:TdOk prog 5 tt5:=⟨⟨_,_,show prog.info? 5=some Tryz.t5 from by kernel_rfl,by kernel_rfl,by kernel_rfl,rfl,rfl⟩,_,underlying5,by simp [kau,tt5]⟩
theorem kabm:TdOk prog 9 tt9:=⟨⟨_,_,show prog.info? 9=some Tryz.t9 from by kernel_rfl,by kernel_rfl,by kernel_rfl,rfl,rfl⟩,_,underlying9,by simp [kau,tt9]⟩
theorem k8h:TdOk prog 22 tt22:=⟨⟨_,_,show prog.info? 22=some Tryz.t22 from by kernel_rfl,by kernel_rfl,by kernel_rfl,rfl,rfl⟩,_,underlying22,by simp [kau,tt22]⟩
theorem k9g:TdOk prog 23 tt23:=⟨⟨_,_,show prog.info? 23=some Tryz.t23 from by kernel_rfl,by kernel_rfl,by kernel_rfl,rfl,rfl⟩,_,underlying23,by simp [kau,tt23]⟩
theorem k93:TdOk prog 24 tt24:=⟨⟨_,_,show prog.info? 24=some Tryz.t24 from by kernel_rfl,by kernel_rfl,by kernel_rfl,rfl,rfl⟩,_,underlying24,by simp [kau,tt24]⟩
theorem k9k:TdOk prog 26 tt26:=⟨⟨_,_,show prog.info? 26=some Tryz.t26 from by kernel_rfl,by kernel_rfl,by kernel_rfl,rfl,rfl⟩,_,underlying26,by simp [kau,tt26]⟩
theorem k82:TdOk prog 28 tt28:=⟨⟨_,_,show prog.info? 28=some Tryz.t28 from by kernel_rfl,by kernel_rfl,by kernel_rfl,rfl,rfl⟩,_,underlying28,by simp [kau,tt28]⟩
theorem k9j:TdOk prog 30 tt30:=⟨⟨_,_,show prog.info? 30=some Tryz.t30 from by kernel_rfl,by kernel_rfl,by kernel_rfl,rfl,rfl⟩,_,underlying30,by simp [kau,tt30]⟩
theorem k9y:TdOk prog 35 tt35:=⟨⟨_,_,show prog.info? 35=some Tryz.t35 from by kernel_rfl,by kernel_rfl,by kernel_rfl,rfl,rfl⟩,_,underlying35,by simp [kau,tt35]⟩
theorem k8q:TdOk prog 37 tt37:=⟨⟨_,_,show prog.info? 37=some Tryz.t37 from by kernel_rfl,by kernel_rfl,by kernel_rfl,rfl,rfl⟩,_,underlying37,by simp [kau,tt37]⟩
theorem kaah:TdOk prog 40 tt40:=⟨⟨_,_,show prog.info? 40=some Tryz.t40 from by kernel_rfl,by kernel_rfl,by kernel_rfl,rfl,rfl⟩,_,underlying40,by simp [kau,tt40]⟩
theorem k8z:TdOk prog 47 tt47:=⟨⟨_,_,show prog.info? 47=some Tryz.t47 from by kernel_rfl,by kernel_rfl,by kernel_rfl,rfl,rfl⟩,_,underlying47,by simp [kau,tt47]⟩
theorem k9d:TdOk prog 51 tt51:=⟨⟨_,_,show prog.info? 51=some Tryz.t51 from by kernel_rfl,by kernel_rfl,by kernel_rfl,rfl,rfl⟩,_,underlying51,by simp [kau,tt51]⟩
theorem k8c:TdOk prog 52 tt52:=⟨⟨_,_,show prog.info? 52=some Tryz.t52 from by kernel_rfl,by kernel_rfl,by kernel_rfl,rfl,rfl⟩,_,underlying52,by simp [kau,tt52]⟩
theorem k8m:TdOk prog 54 tt54:=⟨⟨_,_,show prog.info? 54=some Tryz.t54 from by kernel_rfl,by kernel_rfl,by kernel_rfl,rfl,rfl⟩,_,underlying54,by simp [kau,tt54]⟩
theorem k9f:TdOk prog 56 tt56:=⟨⟨_,_,show prog.info? 56=some Tryz.t56 from by kernel_rfl,by kernel_rfl,by kernel_rfl,rfl,rfl⟩,_,underlying56,by simp [kau,tt56]⟩
theorem k84:TdOk prog 62 tt62:=⟨⟨_,_,show prog.info? 62=some Tryz.t62 from by kernel_rfl,by kernel_rfl,by kernel_rfl,rfl,rfl⟩,_,underlying62,by simp [kau,tt62]⟩
theorem k9s:TdOk prog 63 tt63:=⟨⟨_,_,show prog.info? 63=some Tryz.t63 from by kernel_rfl,by kernel_rfl,by kernel_rfl,rfl,rfl⟩,_,underlying63,by simp [kau,tt63]⟩
theorem kaan:TdOk prog 66 tt66:=⟨⟨_,_,show prog.info? 66=some Tryz.t66 from by kernel_rfl,by kernel_rfl,by kernel_rfl,rfl,rfl⟩,_,underlying66,by simp [kau,tt66]⟩
theorem kaao:TdOk prog 68 tt68:=⟨⟨_,_,show prog.info? 68=some Tryz.t68 from by kernel_rfl,by kernel_rfl,by kernel_rfl,rfl,rfl⟩,_,underlying68,by simp [kau,tt68]⟩
theorem k8u:TdOk prog 72 tt72:=⟨⟨_,_,show prog.info? 72=some Tryz.t72 from by kernel_rfl,by kernel_rfl,by kernel_rfl,rfl,rfl⟩,_,underlying72,by simp [kau,tt72]⟩
theorem k9p:TdOk prog 75 tt75:=⟨⟨_,_,show prog.info? 75=some Tryz.t75 from by kernel_rfl,by kernel_rfl,by kernel_rfl,rfl,rfl⟩,_,underlying75,by simp [kau,tt75]⟩
theorem k8a:TdOk prog 78 tt78:=⟨⟨_,_,show prog.info? 78=some Tryz.t78 from by kernel_rfl,by kernel_rfl,by kernel_rfl,rfl,rfl⟩,_,underlying78,by simp [kau,tt78]⟩
theorem kaak:TdOk prog 82 tt82:=⟨⟨_,_,show prog.info? 82=some Tryz.t82 from by kernel_rfl,by kernel_rfl,by kernel_rfl,rfl,rfl⟩,_,underlying82,by simp [kau,tt82]⟩
theorem kaae:TdOk prog 96 tt96:=⟨⟨_,_,show prog.info? 96=some Tryz.t96 from by kernel_rfl,by kernel_rfl,by kernel_rfl,rfl,rfl⟩,_,underlying96,by simp [kau,tt96]⟩
theorem kaaf:TdOk prog 99 tt99:=⟨⟨_,_,show prog.info? 99=some Tryz.t99 from by kernel_rfl,by kernel_rfl,by kernel_rfl,rfl,rfl⟩,_,underlying99,by simp [kau,tt99]⟩
theorem k57:TdOk prog 102 k2g:=⟨⟨_,_,show prog.info? 102=some Tryz.t102 from by kernel_rfl,by kernel_rfl,by kernel_rfl,rfl,rfl⟩,_,underlying102,by simp [kau,k2g]⟩
theorem k5j:TdOk prog 106 kvn:=⟨⟨_,_,show prog.info? 106=some Tryz.t106 from by kernel_rfl,by kernel_rfl,by kernel_rfl,rfl,rfl⟩,_,underlying106,by simp [kau,kvn]⟩
theorem k6m:TdOk prog 111 k2u:=⟨⟨_,_,show prog.info? 111=some Tryz.t111 from by kernel_rfl,by kernel_rfl,by kernel_rfl,rfl,rfl⟩,_,underlying111,by simp [kau,k2u]⟩
theorem k7g:TdOk prog 119 k2z:=⟨⟨_,_,show prog.info? 119=some Tryz.t119 from by kernel_rfl,by kernel_rfl,by kernel_rfl,rfl,rfl⟩,_,underlying119,by simp [kau,k2z]⟩
theorem k6a:TdOk prog 122 k14:=⟨⟨_,_,show prog.info? 122=some Tryz.t122 from by kernel_rfl,by kernel_rfl,by kernel_rfl,rfl,rfl⟩,_,underlying122,by simp [kau,k14]⟩
theorem k68:TdOk prog 130 k1u:=⟨⟨_,_,show prog.info? 130=some Tryz.t130 from by kernel_rfl,by kernel_rfl,by kernel_rfl,rfl,rfl⟩,_,underlying130,by simp [kau,k1u]⟩
theorem k7d:TdOk prog 139 k1p:=⟨⟨_,_,show prog.info? 139=some Tryz.t139 from by kernel_rfl,by kernel_rfl,by kernel_rfl,rfl,rfl⟩,_,underlying139,by simp [kau,k1p]⟩
theorem k6f:TdOk prog 141 k2n:=⟨⟨_,_,show prog.info? 141=some Tryz.t141 from by kernel_rfl,by kernel_rfl,by kernel_rfl,rfl,rfl⟩,_,underlying141,by simp [kau,k2n]⟩
theorem k67:TdOk prog 147 k2c:=⟨⟨_,_,show prog.info? 147=some Tryz.t147 from by kernel_rfl,by kernel_rfl,by kernel_rfl,rfl,rfl⟩,_,underlying147,by simp [kau,k2c]⟩
theorem k5p:TdOk prog 150 k12:=⟨⟨_,_,show prog.info? 150=some Tryz.t150 from by kernel_rfl,by kernel_rfl,by kernel_rfl,rfl,rfl⟩,_,underlying150,by simp [kau,k12]⟩
theorem k6z:TdOk prog 152 k1x:=⟨⟨_,_,show prog.info? 152=some Tryz.t152 from by kernel_rfl,by kernel_rfl,by kernel_rfl,rfl,rfl⟩,_,underlying152,by simp [kau,k1x]⟩
theorem k5y:TdOk prog 155 k2b:=⟨⟨_,_,show prog.info? 155=some Tryz.t155 from by kernel_rfl,by kernel_rfl,by kernel_rfl,rfl,rfl⟩,_,underlying155,by simp [kau,k2b]⟩
theorem kad:TOk prog TT:=by
 intro p hp;simp only [TT,qar,List.not_mem_nil,or_false] at hp;rcases hp with rfl | rfl | rfl | rfl | rfl | rfl | rfl | rfl | rfl | rfl | rfl | rfl | rfl | rfl | rfl | rfl | rfl | rfl | rfl | rfl | rfl | rfl | rfl | rfl | rfl | rfl | rfl | rfl | rfl | rfl | rfl | rfl | rfl | rfl | rfl | rfl | rfl | rfl | rfl | rfl | rfl;exact kaa2;exact kaaw;exact kaaz;exact kaa0;exact kabm;exact k8h;exact k9g;exact k93;exact k9k;exact k82;exact k9j;exact k9y;exact k8q;exact kaah;exact k8z;exact k9d;exact k8c;exact k8m;exact k9f;exact k84;exact k9s;exact kaan;exact kaao;exact k8u;exact k9p;exact k8a;exact kaak;exact kaae;exact kaaf;exact k57;exact k5j;exact k6m;exact k7g;exact k6a;exact k68;exact k7d;exact k6f;exact k67;exact k5p;exact k6z
 ·exact k5y
instance tabP:Tab prog:=⟨TT,kad,by kernel_rfl⟩
end Go.Proofs.YtpcfkflhnkfjjaaGreat
