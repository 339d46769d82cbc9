import Derived.Test.YtpnnpkmjohkgiaaGreatDoorTb
import Derived.Test.YtpnnpkmjohkgiaaGreatDoorVE
set_option linter.unusedVariables false
set_option maxRecDepth 100000
namespace Go.Proofs.YtpnnpkmjohkgiaaGreatDoor
open Go Go.RowKit
def adF:List FV:=[.atom (.string ⟨#[97,100,100]⟩)]
def adR:FV := .tup [.agg [.atom (.string ⟨#[97,100,100]⟩), .lst 1 2 [.atom (.int .i64 2), .atom (.int .i64 2)], .atom (.int .i64 2)], .atom (.bool true)]
theorem kv7:PCall Tryz.prog 154 adF adR:=kq5 (kve (fx:=[]) (fun p h=>by cases h)) (n:=10000) (by kernel_rfl)
def twA:FV := .agg [.lst 3 2 [.agg [.atom (.int .i64 0), .atom (.int .i64 1), .lst 2 1 [.agg [.atom (.int .i64 0), .atom (.slice none 0 0)]]], .agg [.atom (.int .i64 0), .atom (.int .i64 3), .lst 2 1 [.agg [.atom (.int .i64 1), .lst 1 2 [.atom (.int .i64 0), .atom (.int .i64 0)]]]]], .lst 1 2 [.atom (.int .i64 0), .atom (.int .i64 1)]]
def twB:FV := .agg [.lst 3 2 [.agg [.atom (.int .i64 0), .atom (.int .i64 1), .lst 2 1 [.agg [.atom (.int .i64 0), .atom (.slice none 0 0)]]], .agg [.atom (.int .i64 0), .atom (.int .i64 3), .lst 2 1 [.agg [.atom (.int .i64 1), .lst 1 2 [.atom (.int .i64 0), .atom (.int .i64 0)]]]]], .lst 1 2 [.atom (.int .i64 0), .atom (.int .i64 1)]]
def twS:Sac:=Sac.mk [Saa.mk 0 1 [Sab.mk 0 []],Saa.mk 0 3 [Sab.mk 1 [0,0]]] [0,1]
theorem k15:PCall Tryz.prog 22 [twA,twB] (.atom (.bool true)):=PCall.le (kib twS twS true (by kernel_rfl)) (by kernel_rfl)
def fx0:List (Nat×List FV×FV):=[(154,adF,adR),(22,[twA,twB], .atom (.bool true))]
theorem k14:∀ p∈fx0,PCall Tryz.prog p.1 p.2.1 p.2.2:=fun p hp=>by
 rcases qaw.1 hp with rfl | hp;exact kv7
 ·obtain rfl:=qax.1 hp;exact k15
theorem kul:PCall Tryz.prog 12 [] (.atom (.bool true)):=kq5 (kve (fx:=fx0) k14) (n:=2000) (by kernel_rfl)
def kex:Option Bool:=some true
theorem kfk (r:Bool) (h:kex=some r):PCall Tryz.prog 12 [] (eB r):=by cases h;exact kul
end Go.Proofs.YtpnnpkmjohkgiaaGreatDoor
