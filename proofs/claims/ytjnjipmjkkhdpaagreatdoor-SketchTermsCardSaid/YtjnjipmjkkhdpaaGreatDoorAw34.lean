import Derived.Test.YtjnjipmjkkhdpaaGreatDoorEE
import Derived.Test.YtjnjipmjkkhdpaaGreatDoorRj
import Derived.Test.YtjnjipmjkkhdpaaGreatDoorWE
set_option linter.unusedVariables false
set_option maxRecDepth 100000
namespace Go.Proofs.YtjnjipmjkkhdpaaGreatDoor
open Go Go.RowKit
set_option maxHeartbeats 4000000
def hasAt (n:Nat):List Bool:=(List.range 25).map fun i=>i % 2 == 1 && Nat.blt i n
def rcX (n:Nat):kaf:=⟨lgL,[hasAt n]⟩
def rcE:List (Nat×List Int×Int):=(List.range 24).flatMap fun i=>[(i+1,[],(i:Int)),(max (i+1) 2,[],(i:Int)),(max (i+1) 2,[0,0],(i:Int))]
def rcB (sy:List Int) (k:Int):Bool:=match sy with
 | []=>k == 0
 | _=>decide (2<=k) && k % 2 == 0
def rcL (sy:List Int):FV:=match sy with
 | [] => .atom (.slice none 0 0)
 | _ => .lst 1 sy.length (sy.map eI)
def fxR:List (Nat×List FV×FV):=rcE.map fun q=>(156,[kbs (rcX q.1),rcL q.2.1,eI q.2.2], .atom (.bool (rcB q.2.1 q.2.2)))
theorem kabz:rcE.map (fun q=>kev (rcX q.1) q.2.1 q.2.2)=rcE.map (fun q=>some (rcB q.2.1 q.2.2)):=by kernel_rfl
theorem rc_le:rcE.all (fun q=>kie [kbs (rcX q.1),rcL q.2.1,eI q.2.2] [kbs (rcX q.1),eL 1 eI q.2.1,eI q.2.2])=true:=by kernel_rfl
theorem kaap:∀ p∈fxR,PCall Tryz.prog p.1 p.2.1 p.2.2:=fun p hp=>by obtain ⟨q,a,rfl⟩:=qap.1 hp;have h:=List.map_inj_left.1 kabz q a;have h:=khv _ _ _ _ h;exact h.le (qq.1 rc_le q a)
theorem k9x:PCall Tryz.prog 128 [lgT] (kbs (rcX 25)):=kjw (kl1 fxR kaap) 2000
set_option maxHeartbeats 4000000
theorem kzg:eLa lgL=lgT:=by kernel_rfl
theorem kaa4:kam drL=drT:=by kernel_rfl
theorem k4j:ks6 (rcX 25) lgL 0 1=some ([Tm.mk 0 [],Tm.mk 1 []],0):=by kernel_rfl
theorem k4p:km7 lgL drL=some (⟨#[97,100,100,40,63,49,44,32,105,110,48,41]⟩,0):=by kernel_rfl
theorem k6j:PCall Tryz.prog 88 [lgF,eI 0,eI 1] (.tup [.lst 2 2 [.agg [eI 0, .lst 2 0 []], .agg [eI 1, .lst 2 0 []]],eI 0]):=by have h:=k19 (by rw [kzg];exact k9x) k4j;rw [kzg] at h;exact h.le (by kernel_rfl)
theorem k6d:PCall Tryz.prog 21 [lgF,drF] (.tup [.atom (.string ⟨#[97,100,100,40,63,49,44,32,105,110,48,41]⟩), .atom (.int .i64 0)]):=by have h:=kuj _ _ _ k4p;rw [kzg,kaa4] at h;exact h.le (by kernel_rfl)
theorem k9q:PCall Tryz.prog 19 [] lgF:=kjw (kl1 [] (fun p hp=>by cases hp)) 100
def fx0:List (Nat×List FV×FV):=[(19,[],lgF),(46,[lgF], .atom (.int .i64 0)),(21,[lgF,drF], .tup [.atom (.string ⟨#[97,100,100,40,63,49,44,32,105,110,48,41]⟩), .atom (.int .i64 0)]),(88,[lgF,eI 0,eI 1], .tup [.lst 2 2 [.agg [eI 0, .lst 2 0 []], .agg [eI 1, .lst 2 0 []]],eI 0])]
theorem kabd:∀ p∈fx0,PCall Tryz.prog p.1 p.2.1 p.2.2:=fun p hp=>by
 rcases qaa.1 hp with rfl | hp;exact k9q;rcases qaa.1 hp with rfl | hp;exact kzm
 ·rcases qaa.1 hp with rfl | hp;exact k6d
  ·obtain rfl:=qat.1 hp;exact k6j
theorem k36:PCall Tryz.prog 7 [] (.atom (.bool true)):=kjw (kl1 fx0 kabd) 2000
def kcy:Option Bool:=some true
theorem kem (r:Bool) (h:kcy=some r):PCall Tryz.prog 7 [] (eB r):=by cases h;exact k36
end Go.Proofs.YtjnjipmjkkhdpaaGreatDoor
