import Derived.Test.YtjnjipmjkkhdpaaGreatDoorSm
set_option linter.unusedVariables false
set_option maxRecDepth 100000
namespace Go.Proofs.YtjnjipmjkkhdpaaGreatDoor
open Go Go.RowKit
def drL:Saa:=Saa.mk (Dk.mk 2 0 [Dk.mk 0 1 [],Dk.mk 0 0 []]) [Sab.mk 0 [Tm.mk 0 [],Tm.mk 1 []]]
theorem k59:PCall Tryz.prog 23 [lgT,drT] (.atom (.int .i64 0)):=kjw (kl1 fx1 k5e) 2000
def kq1 (a0:La) (a1:Saa):Option Int:=bif kf8 [eLa a0,kam a1] [eLa lgL,kam drL] then some 0 else none
theorem kua (a0:La) (a1:Saa) (r:Int) (h:kq1 a0 a1=some r):PCall Tryz.prog 23 [eLa a0,kam a1] (eI r):=ksr [eLa lgL,kam drL] (eI 0) 0 (by rw [show eLa lgL=lgT by kernel_rfl,show kam drL=drT by kernel_rfl];exact k59) rfl h
end Go.Proofs.YtjnjipmjkkhdpaaGreatDoor
