import Derived.Test.YtaimpcnpifoidaaGreatDoorZ4
set_option linter.all false
set_option maxRecDepth 100000
namespace Go.Proofs.YtaimpcnpifoidaaGreatDoor
open Go Go.RowKit Go.Proofs
set_option maxHeartbeats 2000000
attribute [local irreducible] NStep kcx kos LeSt
def ke5 (a0:Int):Option BA:=((cutS (⟨#[48,49,50,51,52,53,54,55,56,57,97,98,99,100,101,102]⟩:BA) a0 (w64 (a0+1))).bind fun v1=>(some v1))
def kdz (a0:BA) (v1:(BA)×(Int)):Option (((BA)×(Int)) ⊕ (BA)):=(bif (decide (v1.2<(a0.size:Int))) then ((byt a0 v1.2).bind fun v2=>((((byt a0 v1.2).bind fun v3=>(bif (v3 == 34) then (some (true)) else ((byt a0 v1.2).bind fun v4=>(some (v4 == 92))))).bind fun v6=>(bif v6 then ((cat v1.1 (⟨#[92]⟩:BA)).bind fun v7=>((cutS a0 v1.2 (w64 (v1.2+1))).bind fun v8=>((cat v7 v8).bind fun v9=>(some v9)))) else ((bif (decide ((w64 v2)<32)) then (some (true)) else (some (decide (126<(w64 v2))))).bind fun v11=>(bif v11 then ((cat v1.1 (⟨#[92,120]⟩:BA)).bind fun v12=>((ke5 (w64 (Int.tdiv (w64 v2) 16))).bind fun v13=>((cat v12 v13).bind fun v14=>((ke5 (Int.tmod (w64 v2) 16)).bind fun v15=>((cat v14 v15).bind fun v16=>(some v16)))))) else ((cutS a0 v1.2 (w64 (v1.2+1))).bind fun v17=>((cat v1.1 v17).bind fun v18=>(some v18))))))).bind fun v20=>(some (.inl (v20,w64 (v1.2+1)))))) else (some (.inr v1.1)))
def kju (a0:BA):Option BA:=((kaa (kdz a0) fuel ((⟨#[34]⟩:BA),0)).bind fun (v22:BA)=>((cat v22 (⟨#[34]⟩:BA)).bind fun v23=>(some v23)))
def kcg (r108:(Va)->Option BA) (r146:(List Va)->Option BA) (a0:Va):Option BA:=(bif (a0.type == 1) then (bif (a0.num == 0) then (some (⟨#[102,97,108,115,101]⟩:BA)) else (some (⟨#[116,114,117,101]⟩:BA))) else (bif (a0.type == 2) then ((kfh fuel a0.num).bind fun v1=>(some v1)) else (bif (a0.type == 4) then ((ke5 (w64 (Int.tdiv a0.num 16))).bind fun v2=>((cat (⟨#[48,120]⟩:BA) v2).bind fun v3=>((ke5 (Int.tmod a0.num 16)).bind fun v4=>((cat v3 v4).bind fun v5=>(some v5))))) else (bif (a0.type == 3) then ((kju a0.text).bind fun v6=>(some v6)) else (bif (a0.type == 8) then ((kju a0.text).bind fun v7=>((cat (⟨#[114]⟩:BA) v7).bind fun v8=>(some v8))) else (bif (a0.type == 5) then ((r146 a0.items).bind fun v9=>((cat (⟨#[91]⟩:BA) v9).bind fun v10=>((cat v10 (⟨#[93]⟩:BA)).bind fun v11=>(some v11)))) else (bif (a0.type == 6) then ((r146 a0.items).bind fun v12=>((cat (⟨#[123]⟩:BA) v12).bind fun v13=>((cat v13 (⟨#[125]⟩:BA)).bind fun v14=>(some v14)))) else ((r146 a0.items).bind fun v15=>((cat (⟨#[60]⟩:BA) v15).bind fun v16=>((cat v16 (⟨#[62]⟩:BA)).bind fun v17=>(some v17)))))))))))
def kfp (a0:List Va) (r108:(Va)->Option BA) (v1:(BA)×(Int)):Option (((BA)×(Int)) ⊕ (BA)):=(bif (decide (v1.2<(List.length a0:Int))) then ((bif (decide (0<v1.2)) then ((cat v1.1 (⟨#[44,32]⟩:BA)).bind fun v2=>(some v2)) else (some v1.1)).bind fun v4=>((idx a0 v1.2).bind fun v5=>((r108 v5).bind fun v6=>((cat v4 v6).bind fun v7=>(some (.inl (v7,w64 (v1.2+1)))))))) else (some (.inr v1.1)))
def klm (r108:(Va)->Option BA) (r146:(List Va)->Option BA) (a0:List Va):Option BA:=((kaa (kfp a0 r108) fuel ((⟨#[]⟩:BA),0)).bind fun (v9:BA)=>(some v9))
def ke9:Nat->((Va)->Option BA)×((List Va)->Option BA)
 | 0=>(fun _=>none,fun _=>none)
 | n+1=>(kcg ((ke9 n).1) ((ke9 n).2),klm ((ke9 n).1) ((ke9 n).2))
def kbt (n:Nat):(Va)->Option BA:=(ke9 n).1
def ken (n:Nat):(List Va)->Option BA:=(ke9 n).2
def klx (a0:Va):Option ((BA)×(Int)):=((ka5 fuel a0).bind fun v1=>(bif (v1 != 0) then (some ((⟨#[]⟩:BA),v1)) else ((kbt fuel a0).bind fun v2=>(some (v2,0)))))
end Go.Proofs.YtaimpcnpifoidaaGreatDoor
