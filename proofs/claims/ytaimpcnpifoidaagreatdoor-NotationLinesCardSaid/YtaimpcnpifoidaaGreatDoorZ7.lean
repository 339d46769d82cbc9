import Derived.Test.YtaimpcnpifoidaaGreatDoorZ6
set_option linter.unusedVariables false
set_option linter.unusedSimpArgs false
set_option maxRecDepth 100000
namespace Go.Proofs.YtaimpcnpifoidaaGreatDoor
open Go Go.RowKit Go.Proofs
set_option maxHeartbeats 2000000
attribute [local irreducible] NStep kc0 knd LeSt
def kgd (a0:BA) (a1:Int):Option Int:=(bif (decide (a1<(a0.size:Int))) then ((byt a0 a1).bind fun v1=>(some v1)) else (some 0))
def klx (a0:Int):Option Int:=((bif (decide (48≤a0)) then (some (decide (a0≤57))) else (some (false))).bind fun v2=>(bif v2 then (some (w64 (wu8 (a0 - 48)))) else ((bif (decide (97≤a0)) then (some (decide (a0≤102))) else (some (false))).bind fun v4=>(bif v4 then (some (w64 ((w64 (wu8 (a0 - 97)))+10))) else (some (-1))))))
def ke0 (a0:BA) (v7:(Int)×(Int)):Option (((Int)×(Int)) ⊕ ((Int)×(Int))):=((bif (decide (0<v7.2)) then ((kgd a0 v7.1).bind fun v8=>(bif (decide (48≤v8)) then ((kgd a0 v7.1).bind fun v9=>(bif (decide (v9≤57)) then ((kgd a0 v7.1).bind fun v10=>(some (decide ((w64 ((w64 (v7.2*10))+(w64 (wu8 (v10 - 48)))))≤1000000)))) else (some (false)))) else (some (false)))) else (some (false))).bind fun v12=>(bif v12 then ((kgd a0 v7.1).bind fun v13=>(some (.inl ((w64 (v7.1+1)),(w64 ((w64 (v7.2*10))+(w64 (wu8 (v13 - 48))))))))) else (some (.inr (v7.1,v7.2)))))
end Go.Proofs.YtaimpcnpifoidaaGreatDoor
