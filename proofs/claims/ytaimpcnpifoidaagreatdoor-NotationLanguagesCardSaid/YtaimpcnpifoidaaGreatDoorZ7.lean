import Derived.Test.YtaimpcnpifoidaaGreatDoorZ6
set_option linter.unusedVariables false
set_option linter.unusedSimpArgs false
set_option maxRecDepth 100000
namespace Go.Proofs.YtaimpcnpifoidaaGreatDoor
open Go Go.RowKit Go.Proofs
set_option maxHeartbeats 2000000
attribute [local irreducible] NStep kdf kol LeSt
def kg6 (a0:BA) (a1:Int):Option Int:=(bif (decide (a1<(a0.size:Int))) then ((byt a0 a1).bind fun v1=>(some v1)) else (some 0))
def km8 (a0:Int):Option Int:=((bif (decide (48≤a0)) then (some (decide (a0≤57))) else (some (false))).bind fun v2=>(bif v2 then (some (w64 (wu8 (a0 - 48)))) else ((bif (decide (97≤a0)) then (some (decide (a0≤102))) else (some (false))).bind fun v4=>(bif v4 then (some (w64 ((w64 (wu8 (a0 - 97)))+10))) else (some (-1))))))
def kfj (a0:BA) (v7:(Int)×(Int)):Option (((Int)×(Int)) ⊕ ((Int)×(Int))):=((bif (decide (0<v7.2)) then ((kg6 a0 v7.1).bind fun v8=>(bif (decide (48≤v8)) then ((kg6 a0 v7.1).bind fun v9=>(bif (decide (v9≤57)) then ((kg6 a0 v7.1).bind fun v10=>(some (decide ((w64 ((w64 (v7.2*10))+(w64 (wu8 (v10 - 48)))))≤1000000)))) else (some (false)))) else (some (false)))) else (some (false))).bind fun v12=>(bif v12 then ((kg6 a0 v7.1).bind fun v13=>(some (.inl ((w64 (v7.1+1)),(w64 ((w64 (v7.2*10))+(w64 (wu8 (v13 - 48))))))))) else (some (.inr (v7.1,v7.2)))))
def kbc (a0:La):List (Nat×AObj):=[(1,(.box 26 [(fS a0.name),(.fz (eL 1 eI a0.inputs)),(.fz (eL 2 eSy a0.symbols)),(.fz (eL 9 eRu a0.rules))]))]
def kje (a0:La) (v24:Ru):List (Nat×AObj):=[(1,(.box 26 [(fS a0.name),(.fz (eL 1 eI a0.inputs)),(.fz (eL 2 eSy a0.symbols)),(.fz (eL 9 eRu a0.rules))])),(2,(.box 45 [(fI v24.symbol),(fI v24.kind),(fI v24.input),(fI v24.const.type),(fI v24.const.num),(fS v24.const.text),(.fz (eL 4 eVaR v24.const.items)),(fS v24.op),(.fz (eL 1 eI v24.args))]))]
def kdo (a0:La) (v24:Ru) (v34:(BA)×(Int)):Option (((BA)×(Int)) ⊕ (BA)):=(bif (decide (v34.2<(List.length v24.args:Int))) then ((bif (decide (0<v34.2)) then ((cat v34.1 (⟨#[44,32]⟩:BA)).bind fun v35=>(some v35)) else (some v34.1)).bind fun v37=>((idx v24.args v34.2).bind fun v38=>((idx a0.symbols v38).bind fun v39=>((cat v37 v39.name).bind fun v40=>(some (.inl (v40,(w64 (v34.2+1))))))))) else (some (.inr v34.1)))
def kch (a0:La) (v23:(BA)×(Int)):Option (((BA)×(Int)) ⊕ (BA)):=(bif (decide (v23.2<(List.length a0.rules:Int))) then (((((idx a0.rules v23.2).bind fun v24=>((cat v23.1 (⟨#[114,117,108,101,32]⟩:BA)).bind fun v25=>((idx a0.symbols v24.symbol).bind fun v26=>((cat v25 v26.name).bind fun v27=>((cat v27 (⟨#[32,61,32]⟩:BA)).bind fun v28=>(bif (v24.kind != 3) then ((kd8 fuel a0 (Tm.mk v23.2 ([]:List Tm))).bind fun v29=>((cat v28 v29).bind fun v30=>((cat v30 (⟨#[10]⟩:BA)).bind fun v31=>(some (.inr v31))))) else ((cat v28 v24.op).bind fun v32=>((cat v32 (⟨#[40]⟩:BA)).bind fun v33=>((kaa (kdo a0 v24) fuel (v33,0)).bind fun (v42:(BA))=>((cat v42 (⟨#[41,10]⟩:BA)).bind fun v43=>(some (.inl v43)))))))))))):Option ((BA) ⊕ (BA))).bind fun (v44:((BA) ⊕ (BA)))=>Sum.elim (fun v45=>(some v45)) (fun v46=>(some v46)) v44).bind fun v48=>(some (.inl (v48,(w64 (v23.2+1)))))) else (some (.inr v23.1)))
def kdl (a0:La) (v12:(BA)×(Int)):Option (((BA)×(Int)) ⊕ (BA)):=(bif (decide (v12.2<(List.length a0.symbols:Int))) then ((cat v12.1 (⟨#[115,121,109,98,111,108,32]⟩:BA)).bind fun v13=>((idx a0.symbols v12.2).bind fun v14=>((cat v13 v14.name).bind fun v15=>((cat v15 (⟨#[32]⟩:BA)).bind fun v16=>((idx a0.symbols v12.2).bind fun v17=>((kew v17.type).bind fun v18=>((cat v16 v18).bind fun v19=>((cat v19 (⟨#[10]⟩:BA)).bind fun v20=>(some (.inl (v20,(w64 (v12.2+1))))))))))))) else (some (.inr v12.1)))
def kdn (a0:La) (v4:(BA)×(Int)):Option (((BA)×(Int)) ⊕ (BA)):=(bif (decide (v4.2<(List.length a0.inputs:Int))) then ((cat v4.1 (⟨#[32]⟩:BA)).bind fun v5=>((idx a0.inputs v4.2).bind fun v6=>((kew v6).bind fun v7=>((cat v5 v7).bind fun v8=>(some (.inl (v8,(w64 (v4.2+1))))))))) else (some (.inr v4.1)))
def kef (a0:La):Option ((BA)×(Int)):=((kcc a0).bind fun v1=>(bif (v1 != 0) then (some ((⟨#[]⟩:BA),v1)) else ((cat (⟨#[108,97,110,103,117,97,103,101,32]⟩:BA) a0.name).bind fun v2=>((cat v2 (⟨#[10,105,110,112,117,116,115]⟩:BA)).bind fun v3=>((kaa (kdn a0) fuel (v3,0)).bind fun (v10:(BA))=>((cat v10 (⟨#[10]⟩:BA)).bind fun v11=>((kaa (kdl a0) fuel (v11,0)).bind fun (v22:(BA))=>((kaa (kch a0) fuel (v22,0)).bind fun (v50:(BA))=>(some (v50,0))))))))))
theorem km1 (a0:La) (r:(BA)×(Int)) (h:kef a0=some r):kad Tryz.prog 19 [eLa a0] (.tup [eS r.1,eI r.2]):=by
 unfold kef at h
 refine pcl [.one .keep, .one .keep] Tryz.func19 ?_
 refine cl 10 h (krc _) (by kernel_rfl) fun v1 h=>?_
 refine cd 7 h (fun h=>?_) fun h=>?_
 ·cases h;exact lq 7
 obtain ⟨v2,hv2,h⟩:=qc.1 h
 refine nst 5 (kbl (t:=9) (X:=(.const (.string ⟨#[108,97,110,103,117,97,103,101,32]⟩))) (Y:=(.tmp 17)) (yt:=9) (s:=(⟨#[108,97,110,103,117,97,103,101,32]⟩:BA)) (u:=a0.name) hv2) ?_
 obtain ⟨v3,hv3,h⟩:=qc.1 h
 refine nst 0 (kbl (t:=9) (X:=(.tmp 18)) (Y:=(.const (.string ⟨#[10,105,110,112,117,116,115]⟩))) (yt:=9) (s:=v2) (u:=(⟨#[10,105,110,112,117,116,115]⟩:BA)) hv3) ?_
 refine lp1 8 (fun v4=>⟨128,[(1,(.ref 1 0 0)),(5,(fS v4.1)),(6,(fI v4.2))],(kbc a0),[1],[]⟩) (.exit 0) (fun v10=>⟨128,[(1,(.ref 1 0 0)),(5,(fS v10))],(kbc a0),[1],[]⟩) h (fun v4 r h=>?_) fun v10 h=>?_
 ·unfold kdn at h
  refine cd 9 h (fun h=>?_) fun h=>?_
  ·obtain ⟨v5,hv5,h⟩:=qc.1 h
   refine nst 5 (kbl (t:=9) (X:=(.tmp 27)) (Y:=(.const (.string ⟨#[32]⟩))) (yt:=9) (s:=v4.1) (u:=(⟨#[32]⟩:BA)) hv5) ?_
   refine ix nI 3 h fun v6 h=>?_
   refine cl 1 h (kie _) (by kernel_rfl) fun v7 h=>?_
   obtain ⟨v8,hv8,h⟩:=qc.1 h
   refine nst 0 (kbl (t:=9) (X:=(.tmp 28)) (Y:=(.tmp 34)) (yt:=9) (s:=v5) (u:=v7) hv8) ?_
   cases h;exact lj 7
  cases h;exact lo 1 (by kernel_rfl)
 obtain ⟨v11,hv11,h⟩:=qc.1 h
 refine nst 3 (kbl (t:=9) (X:=(.tmp 36)) (Y:=(.const (.string ⟨#[10]⟩))) (yt:=9) (s:=v10) (u:=(⟨#[10]⟩:BA)) hv11) ?_
 refine lp1 8 (fun v12=>⟨128,[(1,(.ref 1 0 0)),(5,(fS v12.1)),(7,(fI v12.2))],(kbc a0),[1],[]⟩) (.exit 2) (fun v22=>⟨128,[(1,(.ref 1 0 0)),(5,(fS v22))],(kbc a0),[1],[]⟩) h (fun v12 r h=>?_) fun v22 h=>?_
 ·unfold kdl at h
  refine cd 9 h (fun h=>?_) fun h=>?_
  ·refine dw 3 17 ?_
   obtain ⟨v13,hv13,h⟩:=qc.1 h
   refine nst 1 (kbl (t:=9) (X:=(.tmp 45)) (Y:=(.const (.string ⟨#[115,121,109,98,111,108,32]⟩))) (yt:=9) (s:=v12.1) (u:=(⟨#[115,121,109,98,111,108,32]⟩:BA)) hv13) ?_
   refine ix nSy 3 h fun v14 h=>?_
   obtain ⟨v15,hv15,h⟩:=qc.1 h
   refine nst 2 (kbl (t:=9) (X:=(.tmp 46)) (Y:=(.tmp 52)) (yt:=9) (s:=v13) (u:=v14.name) hv15) ?_
   obtain ⟨v16,hv16,h⟩:=qc.1 h
   refine nst 0 (kbl (t:=9) (X:=(.tmp 53)) (Y:=(.const (.string ⟨#[32]⟩))) (yt:=9) (s:=v15) (u:=(⟨#[32]⟩:BA)) hv16) ?_
   refine ix nSy 3 h fun v17 h=>?_
   refine cl 2 h (kie _) (by kernel_rfl) fun v18 h=>?_
   obtain ⟨v19,hv19,h⟩:=qc.1 h
   refine nst 1 (kbl (t:=9) (X:=(.tmp 54)) (Y:=(.tmp 61)) (yt:=9) (s:=v16) (u:=v18) hv19) ?_
   obtain ⟨v20,hv20,h⟩:=qc.1 h
   refine nst 0 (kbl (t:=9) (X:=(.tmp 62)) (Y:=(.const (.string ⟨#[10]⟩))) (yt:=9) (s:=v19) (u:=(⟨#[10]⟩:BA)) hv20) ?_
   cases h;exact lj 7
  cases h;exact lo 1 (by kernel_rfl)
 refine lp1 6 (fun v23=>⟨128,[(1,(.ref 1 0 0)),(5,(fS v23.1)),(8,(fI v23.2))],(kbc a0),[1],[]⟩) (.exit 4) (fun v50=>⟨128,[(5,(fS v50))],[],[],[]⟩) h (fun v23 r h=>?_) fun v50 h=>?_
 ·unfold kch at h
  refine cd 9 h (fun h=>?_) fun h=>?_
  ·refine jn1 2 .normal (fun v48=>⟨128,[(1,(.ref 1 0 0)),(5,(fS v48)),(8,(fI v23.2))],(kbc a0),[1],[]⟩) h (fun v48 h=>?_) fun v48 h=>?_
   ·refine jnQ 1 (fun v44 e st=>Sum.elim (fun p=>e = .normal∧LeSt st ⟨128,[(1,(.ref 1 0 0)),(5,(fS (p))),(8,(fI v23.2))],(kbc a0),[1],[]⟩) (fun p=>e = .exit 5∧LeSt st ⟨128,[(1,(.ref 1 0 0)),(5,(fS (p))),(8,(fI v23.2))],(kbc a0),[1],[]⟩) v44) h (fun v44 h=>?_) fun v44 h e st' hq=>?_
    ·refine ix nRu 5 h fun v24 h=>?_
     obtain ⟨v25,hv25,h⟩:=qc.1 h
     refine nst 7 (kbl (t:=9) (X:=(.tmp 76)) (Y:=(.const (.string ⟨#[114,117,108,101,32]⟩))) (yt:=9) (s:=v23.1) (u:=(⟨#[114,117,108,101,32]⟩:BA)) hv25) ?_
     refine ix nSy 4 h fun v26 h=>?_
     obtain ⟨v27,hv27,h⟩:=qc.1 h
     refine nst 2 (kbl (t:=9) (X:=(.tmp 77)) (Y:=(.tmp 84)) (yt:=9) (s:=v25) (u:=v26.name) hv27) ?_
     obtain ⟨v28,hv28,h⟩:=qc.1 h
     refine nst 0 (kbl (t:=9) (X:=(.tmp 85)) (Y:=(.const (.string ⟨#[32,61,32]⟩))) (yt:=9) (s:=v27) (u:=(⟨#[32,61,32]⟩:BA)) hv28) ?_
     refine cd 9 h (fun h=>?_) fun h=>?_
     ·refine cl 6 h (kl6 _ _ _) (by kernel_rfl) fun v29 h=>?_
      obtain ⟨v30,hv30,h⟩:=qc.1 h
      refine nst 0 (kbl (t:=9) (X:=(.tmp 90)) (Y:=(.tmp 94)) (yt:=9) (s:=v28) (u:=v29) hv30) ?_
      obtain ⟨v31,hv31,h⟩:=qc.1 h
      refine nst 0 (kbl (t:=9) (X:=(.tmp 95)) (Y:=(.const (.string ⟨#[10]⟩))) (yt:=9) (s:=v30) (u:=(⟨#[10]⟩:BA)) hv31) ?_
      cases h;exact lj 3
     obtain ⟨v32,hv32,h⟩:=qc.1 h
     refine nst 6 (kbl (t:=9) (X:=(.tmp 97)) (Y:=(.tmp 99)) (yt:=9) (s:=v28) (u:=v24.op) hv32) ?_
     obtain ⟨v33,hv33,h⟩:=qc.1 h
     refine nst 0 (kbl (t:=9) (X:=(.tmp 100)) (Y:=(.const (.string ⟨#[40]⟩))) (yt:=9) (s:=v32) (u:=(⟨#[40]⟩:BA)) hv33) ?_
     refine lp1 8 (fun v34=>⟨128,[(1,(.ref 1 0 0)),(5,(fS v34.1)),(8,(fI v23.2)),(9,(.ref 2 0 0)),(10,(fI v34.2))],(kje a0 v24),[2,1],[]⟩) (.exit 6) (fun v42=>⟨128,[(1,(.ref 1 0 0)),(5,(fS v42)),(8,(fI v23.2))],(kbc a0),[1],[]⟩) h (fun v34 r h=>?_) fun v42 h=>?_
     ·unfold kdo at h
      refine cd 9 h (fun h=>?_) fun h=>?_
      ·refine jn1 4 .normal (fun v37=>⟨128,[(1,(.ref 1 0 0)),(5,(fS v37)),(8,(fI v23.2)),(9,(.ref 2 0 0)),(10,(fI v34.2))],(kje a0 v24),[2,1],[]⟩) h (fun v37 h=>?_) fun v37 h=>?_
       ·refine cd 5 h (fun h=>?_) fun h=>?_
        ·obtain ⟨v35,hv35,h⟩:=qc.1 h
         refine nst 2 (kbl (t:=9) (X:=(.tmp 111)) (Y:=(.const (.string ⟨#[44,32]⟩))) (yt:=9) (s:=v34.1) (u:=(⟨#[44,32]⟩:BA)) hv35) ?_
         cases h;exact lj 2
        cases h;exact lj 1
       refine dw 0 11 ?_
       refine ix nI 6 h fun v38 h=>?_
       refine ix nSy 1 h fun v39 h=>?_
       obtain ⟨v40,hv40,h⟩:=qc.1 h
       refine nst 3 (kbl (t:=9) (X:=(.tmp 113)) (Y:=(.tmp 123)) (yt:=9) (s:=v37) (u:=v39.name) hv40) ?_
       cases h;exact lj 7
      cases h;exact lo 1 (by kernel_rfl)
     obtain ⟨v43,hv43,h⟩:=qc.1 h
     refine nst 2 (kbl (t:=9) (X:=(.tmp 125)) (Y:=(.const (.string ⟨#[41,10]⟩))) (yt:=9) (s:=v42) (u:=(⟨#[41,10]⟩:BA)) hv43) ?_
     cases h;exact lj 2
    rcases v44 with v45 | v46
    ·try simp only [qg,qh] at h
     obtain ⟨rfl,hle⟩:=hq
     refine ⟨_,hle,?_⟩
     cases h;exact lj 0
    ·try simp only [qg,qh] at h
     obtain ⟨rfl,hle⟩:=hq
     refine ⟨_,hle,?_⟩
     cases h;exact lj 0
   cases h;exact lj 5
  cases h;exact lo 1 (by kernel_rfl)
 cases h;exact lq 7
def kea (a0:La):Option Bool:=((khw a0).bind fun v1=>(bif (!v1) then ((kez ).bind fun v2=>(some v2)) else ((kd2 a0).bind fun v3=>((kef a0).bind fun v4=>((bif (!(v3.1.toList == v4.1.toList)) then (some (true)) else (some (v3.2 != v4.2))).bind fun v6=>(bif v6 then (some (false)) else ((bif (v3.2 != 0) then (some (true)) else (some (decide (65536<(v3.1.size:Int))))).bind fun v8=>(bif v8 then ((kez ).bind fun v9=>(some v9)) else ((kd3 v3.1).bind fun v10=>((bif (v10.2.1 == 0) then (bif (v10.1 == 0) then ((kfi a0 (La.mk v10.2.2.1 v10.2.2.2.1 v10.2.2.2.2.1 v10.2.2.2.2.2)).bind fun v11=>(bif v11 then ((kez ).bind fun v12=>(some v12)) else (some (false)))) else (some (false))) else (some (false))).bind fun v14=>(some v14)))))))))))
theorem kk7 (a0:La) (r:(Bool)) (h:kea a0=some r):kas Tryz.prog 6 ([(.fz (eLa a0))]++[]) [(1,(.glb GV))] [1] (.ret (fB r)) [(1,(.glb GV))] [1]:=by
 unfold kea at h
 refine hcx (gi:=0) Tryz.func6 ?_
 intro p0 q0 w0
 refine cl 9 h (ksq _) (by kernel_rfl) fun v1 h=>?_
 refine cd 2 h (fun h=>?_) fun h=>?_
 ·refine hcl 2 [] [(1,1)] [(1,1)] [1] h (kif) (fun _=>by kernel_rfl) fun v2 h=>?_
  cases h;exact lhy 3
 refine hcl 4 [.one .keep] [(1,1)] [(1,1)] [1] h (kka _) (fun _=>by kernel_rfl) fun v3 h=>?_
 refine cl 9 h (km1 _) (by kernel_rfl) fun v4 h=>?_
 refine jn1 8 .normal (fun v6=>⟨60,[(1,(.ref 2 0 0)),(3,(fS v3.1)),(4,(fI v3.2)),(31,(fB v6))],[(0,(.was p0 [1] q0 w0)),(1,(.glb GV)),(2,(.box 26 [(fS a0.name),(.fz (eL 1 eI a0.inputs)),(.fz (eL 2 eSy a0.symbols)),(.fz (eL 9 eRu a0.rules))]))],[2,0,1],[]⟩) h (fun v6 h=>?_) fun v6 h=>?_
 ·refine gd 5 h (fun h=>?_) fun h=>?_
  ·cases h;exact lj 5
  cases h;exact lj 5
 refine cd 0 h (fun h=>?_) fun h=>?_
 ·cases h;exact lhy 5
 refine jn1 3 .normal (fun v8=>⟨60,[(1,(.ref 2 0 0)),(3,(fS v3.1)),(38,(fB v8))],[(0,(.was p0 [1] q0 w0)),(1,(.glb GV)),(2,(.box 26 [(fS a0.name),(.fz (eL 1 eI a0.inputs)),(.fz (eL 2 eSy a0.symbols)),(.fz (eL 9 eRu a0.rules))]))],[2,0,1],[]⟩) h (fun v8 h=>?_) fun v8 h=>?_
 ·refine gd 4 h (fun h=>?_) fun h=>?_
  ·cases h;exact lj 5
  cases h;exact lj 5
 refine cd 0 h (fun h=>?_) fun h=>?_
 ·refine hcl 2 [] [(1,1)] [(1,1)] [1] h (kif) (fun _=>by kernel_rfl) fun v9 h=>?_
  cases h;exact lhy 3
 refine hcl 4 [.one .keep] [(1,1)] [(1,1),(2,3)] [1] h (kj7 _) (fun _=>by kernel_rfl) fun v10 h=>?_
 refine jn1 10 .normal (fun v14=>⟨60,[(2,(fB v14))],[(0,(.was p0 [1] q0 w0)),(1,(.glb GV))],[0,1],[]⟩) h (fun v14 h=>?_) fun v14 h=>?_
 ·refine gd 4 h (fun h=>?_) fun h=>?_
  ·refine gd 4 h (fun h=>?_) fun h=>?_
   ·refine cl 2 h (kma _ _) (by kernel_rfl) fun v11 h=>?_
    refine gd 2 h (fun h=>?_) fun h=>?_
    ·refine hcl 0 [] [(1,1)] [(1,1)] [1] h (kif) (fun _=>by kernel_rfl) fun v12 h=>?_
     cases h;exact lj 3
    cases h;exact lj 4
   cases h;exact lj 9
  cases h;exact lj 13
 cases h;exact lhy 1
end Go.Proofs.YtaimpcnpifoidaaGreatDoor
