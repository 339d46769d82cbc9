import Derived.Test.YtnlhjbnpjefjgabGreatDoorZ3
set_option linter.all false
set_option maxRecDepth 100000
namespace Go.Proofs.YtnlhjbnpjefjgabGreatDoor
open Go Go.RowKit Go.Proofs Go.Proofs.Tryz
set_option maxHeartbeats 2000000
attribute [local irreducible] NStep StepA kgd kin LeSt
def kk2 (a0:Int):Option Int:=((bif 4294967296<=a0 then some ((Int.fdiv a0 (2 ^ (32:Nat))),32) else some (a0,0)):Option (Int×Int)).bind fun v2=>((bif 65536<=v2.1 then some ((Int.fdiv v2.1 (2 ^ (16:Nat))),w64 (v2.2+16)) else some (v2.1,v2.2)):Option (Int×Int)).bind fun v4=>((bif 256<=v4.1 then some ((Int.fdiv v4.1 (2 ^ (8:Nat))),w64 (v4.2+8)) else some (v4.1,v4.2)):Option (Int×Int)).bind fun v6=>(byt (⟨#[0,1,2,2,3,3,3,3,4,4,4,4,4,4,4,4,5,5,5,5,5,5,5,5,5,5,5,5,5,5,5,5,6,6,6,6,6,6,6,6,6,6,6,6,6,6,6,6,6,6,6,6,6,6,6,6,6,6,6,6,6,6,6,6,7,7,7,7,7,7,7,7,7,7,7,7,7,7,7,7,7,7,7,7,7,7,7,7,7,7,7,7,7,7,7,7,7,7,7,7,7,7,7,7,7,7,7,7,7,7,7,7,7,7,7,7,7,7,7,7,7,7,7,7,7,7,7,7,8,8,8,8,8,8,8,8,8,8,8,8,8,8,8,8,8,8,8,8,8,8,8,8,8,8,8,8,8,8,8,8,8,8,8,8,8,8,8,8,8,8,8,8,8,8,8,8,8,8,8,8,8,8,8,8,8,8,8,8,8,8,8,8,8,8,8,8,8,8,8,8,8,8,8,8,8,8,8,8,8,8,8,8,8,8,8,8,8,8,8,8,8,8,8,8,8,8,8,8,8,8,8,8,8,8,8,8,8,8,8,8,8,8,8,8,8,8,8,8,8,8,8,8,8,8,8,8]⟩:BA) (wu8 v6.1)).bind fun v7=>some (w64 (v6.2+(w64 v7)))
theorem ktd (a0 r:Int) (h:kk2 a0=some r):PCall prog 120 [eU64 a0] (eI r):=pcl [.one .keep] func120<|jn1 5 .normal (fun v2=>⟨25,[(0,.fz (eU64 v2.1)),(2,fI v2.2)],[],[],[]⟩) h (fun v2 h=>cd 5 h (lJ 9) (lJ 1)) fun v2 h=>jn1 1 .normal (fun v4=>⟨25,[(0,.fz (eU64 v4.1)),(2,fI v4.2)],[],[],[]⟩) h (fun v4 h=>cd 5 h (lJ 11) (lJ 1)) fun v4 h=>jn1 1 .normal (fun v6=>⟨25,[(0,.fz (eU64 v6.1)),(2,fI v6.2)],[],[],[]⟩) h (fun v6 h=>cd 5 h (lJ 11) (lJ 1)) fun v6 h=>byx 5 h fun _=>lQ 5
def kmz (a0:Int):Option Int:=(kk2 a0).bind fun v1=>some v1
theorem kvk (a0 r:Int) (h:kmz a0=some r):PCall prog 71 [eU64 a0] (eI r):=pcl [.one .keep] func71<|cl 10 h (ktd _) fun _=>lQ 3
end Go.Proofs.YtnlhjbnpjefjgabGreatDoor
