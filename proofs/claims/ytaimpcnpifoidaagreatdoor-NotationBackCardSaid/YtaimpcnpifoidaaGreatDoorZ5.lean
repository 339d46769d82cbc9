import Derived.Test.YtaimpcnpifoidaaGreatDoorZ4
set_option linter.unusedVariables false
set_option linter.unusedSimpArgs false
set_option maxRecDepth 100000
namespace Go.Proofs.YtaimpcnpifoidaaGreatDoor
open Go Go.RowKit Go.Proofs
set_option maxHeartbeats 2000000
attribute [local irreducible] NStep kdf ko2 LeSt
def keh (a0:Int):Option BA:=((cutS (⟨#[48,49,50,51,52,53,54,55,56,57,97,98,99,100,101,102]⟩:BA) a0 (w64 (a0+1))).bind fun v1=>(some v1))
def kdm (a0:BA) (v1:(BA)×(Int)):Option (((BA)×(Int)) ⊕ (BA)):=(bif (decide (v1.2<(a0.size:Int))) then ((byt a0 v1.2).bind fun v2=>((((byt a0 v1.2).bind fun v3=>(bif (v3 == 34) then (some (true)) else ((byt a0 v1.2).bind fun v4=>(some (v4 == 92))))).bind fun v6=>(bif v6 then ((cat v1.1 (⟨#[92]⟩:BA)).bind fun v7=>((cutS a0 v1.2 (w64 (v1.2+1))).bind fun v8=>((cat v7 v8).bind fun v9=>(some v9)))) else ((bif (decide ((w64 v2)<32)) then (some (true)) else (some (decide (126<(w64 v2))))).bind fun v11=>(bif v11 then ((cat v1.1 (⟨#[92,120]⟩:BA)).bind fun v12=>((keh (w64 (Int.tdiv (w64 v2) 16))).bind fun v13=>((cat v12 v13).bind fun v14=>((keh (Int.tmod (w64 v2) 16)).bind fun v15=>((cat v14 v15).bind fun v16=>(some v16)))))) else ((cutS a0 v1.2 (w64 (v1.2+1))).bind fun v17=>((cat v1.1 v17).bind fun v18=>(some v18))))))).bind fun v20=>(some (.inl (v20,(w64 (v1.2+1))))))) else (some (.inr v1.1)))
def kiw (a0:BA):Option BA:=((kaa (kdm a0) fuel ((⟨#[34]⟩:BA),0)).bind fun (v22:(BA))=>((cat v22 (⟨#[34]⟩:BA)).bind fun v23=>(some v23)))
def kca (r108:(Va)→Option BA) (r146:(List Va)→Option BA) (a0:Va):Option BA:=(bif (a0.type == 1) then (bif (a0.num == 0) then (some (⟨#[102,97,108,115,101]⟩:BA)) else (some (⟨#[116,114,117,101]⟩:BA))) else (bif (a0.type == 2) then ((kdx fuel a0.num).bind fun v1=>(some v1)) else (bif (a0.type == 4) then ((keh (w64 (Int.tdiv a0.num 16))).bind fun v2=>((cat (⟨#[48,120]⟩:BA) v2).bind fun v3=>((keh (Int.tmod a0.num 16)).bind fun v4=>((cat v3 v4).bind fun v5=>(some v5))))) else (bif (a0.type == 3) then ((kiw a0.text).bind fun v6=>(some v6)) else (bif (a0.type == 8) then ((kiw a0.text).bind fun v7=>((cat (⟨#[114]⟩:BA) v7).bind fun v8=>(some v8))) else (bif (a0.type == 5) then ((r146 a0.items).bind fun v9=>((cat (⟨#[91]⟩:BA) v9).bind fun v10=>((cat v10 (⟨#[93]⟩:BA)).bind fun v11=>(some v11)))) else (bif (a0.type == 6) then ((r146 a0.items).bind fun v12=>((cat (⟨#[123]⟩:BA) v12).bind fun v13=>((cat v13 (⟨#[125]⟩:BA)).bind fun v14=>(some v14)))) else ((r146 a0.items).bind fun v15=>((cat (⟨#[60]⟩:BA) v15).bind fun v16=>((cat v16 (⟨#[62]⟩:BA)).bind fun v17=>(some v17)))))))))))
def ke0 (a0:List Va) (r108:(Va)→Option BA) (v1:(BA)×(Int)):Option (((BA)×(Int)) ⊕ (BA)):=(bif (decide (v1.2<(List.length a0:Int))) then ((bif (decide (0<v1.2)) then ((cat v1.1 (⟨#[44,32]⟩:BA)).bind fun v2=>(some v2)) else (some v1.1)).bind fun v4=>((idx a0 v1.2).bind fun v5=>((r108 v5).bind fun v6=>((cat v4 v6).bind fun v7=>(some (.inl (v7,(w64 (v1.2+1))))))))) else (some (.inr v1.1)))
def kke (r108:(Va)→Option BA) (r146:(List Va)→Option BA) (a0:List Va):Option BA:=((kaa (ke0 a0 r108) fuel ((⟨#[]⟩:BA),0)).bind fun (v9:(BA))=>(some v9))
def ken:Nat→((Va)→Option BA)×((List Va)→Option BA)
 | 0=>(fun _=>none,fun _=>none)
 | n+1=>(kca ((ken n).1) ((ken n).2),kke ((ken n).1) ((ken n).2))
def kbm (n:Nat):(Va)→Option BA:=(ken n).1
def kd4 (n:Nat):(List Va)→Option BA:=(ken n).2
def kgv (a0:Va):Option ((BA)×(Int)):=((ka0 fuel a0).bind fun v1=>(bif (v1 != 0) then (some ((⟨#[]⟩:BA),v1)) else ((kbm fuel a0).bind fun v2=>(some (v2,0)))))
def khx (a0:La) (a1:Tm) (r31:(La)→(Tm)→Option BA) (v6:(BA)×(Int)):Option (((BA)×(Int)) ⊕ (BA)):=(bif (decide (v6.2<(List.length a1.args:Int))) then ((bif (decide (0<v6.2)) then ((cat v6.1 (⟨#[44,32]⟩:BA)).bind fun v7=>(some v7)) else (some v6.1)).bind fun v9=>((idx a1.args v6.2).bind fun v10=>((r31 a0 v10).bind fun v11=>((cat v9 v11).bind fun v12=>(some (.inl (v12,(w64 (v6.2+1))))))))) else (some (.inr v6.1)))
def kkm (r31:(La)→(Tm)→Option BA) (a0:La) (a1:Tm):Option BA:=((idx a0.rules a1.rule).bind fun v1=>(bif (v1.kind == 1) then ((kh7 v1.input).bind fun v2=>((cat (⟨#[105,110]⟩:BA) v2).bind fun v3=>(some v3))) else (bif (v1.kind == 2) then ((kgv v1.const).bind fun v4=>(some v4.1)) else ((cat v1.op (⟨#[40]⟩:BA)).bind fun v5=>((kaa (khx a0 a1 r31) fuel (v5,0)).bind fun (v14:(BA))=>((cat v14 (⟨#[41]⟩:BA)).bind fun v15=>(some v15)))))))
def khc:Nat→(La)→(Tm)→Option (BA)
 | 0=>fun _ _=>none
 | n+1=>kkm (khc n)
def knw (a0:La) (a1:Tm):Option ((BA)×(Int)):=((kb5 a0).bind fun v1=>(bif (v1 != 0) then (some ((⟨#[]⟩:BA),v1)) else ((bif (decide (a1.rule<0)) then (some (true)) else (some (decide ((List.length a0.rules:Int)≤a1.rule)))).bind fun v3=>(bif v3 then (some ((⟨#[]⟩:BA),1)) else ((idx a0.rules a1.rule).bind fun v4=>((kg3 a0 v4.symbol a1).bind fun v5=>(bif (v5 != 0) then (some ((⟨#[]⟩:BA),v5)) else ((khc fuel a0 a1).bind fun v6=>(some (v6,0))))))))))
end Go.Proofs.YtaimpcnpifoidaaGreatDoor
