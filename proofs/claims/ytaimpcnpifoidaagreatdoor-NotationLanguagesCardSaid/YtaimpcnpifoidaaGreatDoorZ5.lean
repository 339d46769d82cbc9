import Derived.Test.YtaimpcnpifoidaaGreatDoorZ4
set_option linter.unusedVariables false
set_option linter.unusedSimpArgs false
set_option maxRecDepth 100000
namespace Go.Proofs.YtaimpcnpifoidaaGreatDoor
open Go Go.RowKit Go.Proofs
set_option maxHeartbeats 2000000
attribute [local irreducible] NStep kdf kol LeSt
def kc3 (a0:Int):Option BA:=((cutS (⟨#[48,49,50,51,52,53,54,55,56,57,97,98,99,100,101,102]⟩:BA) a0 (w64 (a0+1))).bind fun v1=>(some v1))
theorem kh4 (a0:Int) (r:BA) (h:kc3 a0=some r):kad Tryz.prog 144 [eI a0] (eS r):=by
 unfold kc3 at h
 refine pcl [.one .keep] Tryz.func144 ?_
 obtain ⟨v1,hv1,h⟩:=qc.1 h
 refine nst 9 (kh0 (t:=9) (x:=(.const (.string ⟨#[48,49,50,51,52,53,54,55,56,57,97,98,99,100,101,102]⟩))) (lo:=(some (.tmp 3))) (hi:=(some (.tmp 5))) (d:=tt9) (s:=(⟨#[48,49,50,51,52,53,54,55,56,57,97,98,99,100,101,102]⟩:BA)) (l:=(some a0)) (h:=(some (w64 (a0+1)))) hv1 kbr) ?_
 cases h;exact lq 3
def kcs (a0:BA) (v1:(BA)×(Int)):Option (((BA)×(Int)) ⊕ (BA)):=(bif (decide (v1.2<(a0.size:Int))) then ((byt a0 v1.2).bind fun v2=>((((byt a0 v1.2).bind fun v3=>(bif (v3 == 34) then (some (true)) else ((byt a0 v1.2).bind fun v4=>(some (v4 == 92))))).bind fun v6=>(bif v6 then ((cat v1.1 (⟨#[92]⟩:BA)).bind fun v7=>((cutS a0 v1.2 (w64 (v1.2+1))).bind fun v8=>((cat v7 v8).bind fun v9=>(some v9)))) else ((bif (decide ((w64 v2)<32)) then (some (true)) else (some (decide (126<(w64 v2))))).bind fun v11=>(bif v11 then ((cat v1.1 (⟨#[92,120]⟩:BA)).bind fun v12=>((kc3 (w64 (Int.tdiv (w64 v2) 16))).bind fun v13=>((cat v12 v13).bind fun v14=>((kc3 (Int.tmod (w64 v2) 16)).bind fun v15=>((cat v14 v15).bind fun v16=>(some v16)))))) else ((cutS a0 v1.2 (w64 (v1.2+1))).bind fun v17=>((cat v1.1 v17).bind fun v18=>(some v18))))))).bind fun v20=>(some (.inl (v20,(w64 (v1.2+1))))))) else (some (.inr v1.1)))
def kf5 (a0:BA):Option BA:=((kaa (kcs a0) fuel ((⟨#[34]⟩:BA),0)).bind fun (v22:(BA))=>((cat v22 (⟨#[34]⟩:BA)).bind fun v23=>(some v23)))
theorem klx (a0:BA) (r:BA) (h:kf5 a0=some r):kad Tryz.prog 145 [eS a0] (eS r):=by
 unfold kf5 at h
 refine pcl [.one .keep] Tryz.func145 ?_
 refine lp1 14 (fun v1=>⟨61,[(0,(fS a0)),(3,(fS v1.1)),(4,(fI v1.2))],[],[],[]⟩) (.exit 0) (fun v22=>⟨61,[(3,(fS v22))],[],[],[]⟩) h (fun v1 r h=>?_) fun v22 h=>?_
 ·unfold kcs at h
  refine cd 8 h (fun h=>?_) fun h=>?_
  ·refine byx 7 h fun v2 h=>?_
   refine jn1 4 .normal (fun v20=>⟨61,[(0,(fS a0)),(3,(fS v20)),(4,(fI v1.2))],[],[],[]⟩) h (fun v20 h=>?_) fun v20 h=>?_
   ·refine jn1 1 .normal (fun v6=>⟨61,[(0,(fS a0)),(3,(fS v1.1)),(4,(fI v1.2)),(5,(fI (w64 v2))),(23,(fB v6))],[],[],[]⟩) h (fun v6 h=>?_) fun v6 h=>?_
    ·refine byx 3 h fun v3 h=>?_
     refine gd 2 h (fun h=>?_) fun h=>?_
     ·cases h;exact lj 7
     refine byx 2 h fun v4 h=>?_
     cases h;exact lj 4
    refine cd 0 h (fun h=>?_) fun h=>?_
    ·obtain ⟨v7,hv7,h⟩:=qc.1 h
     refine nst 2 (kbl (t:=9) (X:=(.tmp 34)) (Y:=(.const (.string ⟨#[92]⟩))) (yt:=9) (s:=v1.1) (u:=(⟨#[92]⟩:BA)) hv7) ?_
     obtain ⟨v8,hv8,h⟩:=qc.1 h
     refine nst 4 (kh0 (t:=9) (x:=(.tmp 36)) (lo:=(some (.tmp 37))) (hi:=(some (.tmp 39))) (d:=tt9) (s:=a0) (l:=(some v1.2)) (h:=(some (w64 (v1.2+1)))) hv8 kbr) ?_
     obtain ⟨v9,hv9,h⟩:=qc.1 h
     refine nst 0 (kbl (t:=9) (X:=(.tmp 35)) (Y:=(.tmp 40)) (yt:=9) (s:=v7) (u:=v8) hv9) ?_
     cases h;exact lj 2
    refine jn1 1 .normal (fun v11=>⟨61,[(0,(fS a0)),(3,(fS v1.1)),(4,(fI v1.2)),(5,(fI (w64 v2))),(42,(fB v11))],[],[],[]⟩) h (fun v11 h=>?_) fun v11 h=>?_
    ·refine gd 4 h (fun h=>?_) fun h=>?_
     ·cases h;exact lj 5
     cases h;exact lj 5
    refine cd 0 h (fun h=>?_) fun h=>?_
    ·obtain ⟨v12,hv12,h⟩:=qc.1 h
     refine nst 2 (kbl (t:=9) (X:=(.tmp 49)) (Y:=(.const (.string ⟨#[92,120]⟩))) (yt:=9) (s:=v1.1) (u:=(⟨#[92,120]⟩:BA)) hv12) ?_
     refine cl 2 h (kh4 _) (by kernel_rfl) fun v13 h=>?_
     obtain ⟨v14,hv14,h⟩:=qc.1 h
     refine nst 0 (kbl (t:=9) (X:=(.tmp 50)) (Y:=(.tmp 53)) (yt:=9) (s:=v12) (u:=v13) hv14) ?_
     refine cl 2 h (kh4 _) (by kernel_rfl) fun v15 h=>?_
     obtain ⟨v16,hv16,h⟩:=qc.1 h
     refine nst 0 (kbl (t:=9) (X:=(.tmp 54)) (Y:=(.tmp 57)) (yt:=9) (s:=v14) (u:=v15) hv16) ?_
     cases h;exact lj 2
    obtain ⟨v17,hv17,h⟩:=qc.1 h
    refine nst 6 (kh0 (t:=9) (x:=(.tmp 17)) (lo:=(some (.tmp 18))) (hi:=(some (.tmp 20))) (d:=tt9) (s:=a0) (l:=(some v1.2)) (h:=(some (w64 (v1.2+1)))) hv17 kbr) ?_
    obtain ⟨v18,hv18,h⟩:=qc.1 h
    refine nst 0 (kbl (t:=9) (X:=(.tmp 16)) (Y:=(.tmp 21)) (yt:=9) (s:=v1.1) (u:=v17) hv18) ?_
    cases h;exact lj 2
   cases h;exact lj 5
  cases h;exact lo 1 (by kernel_rfl)
 obtain ⟨v23,hv23,h⟩:=qc.1 h
 refine nst 3 (kbl (t:=9) (X:=(.tmp 59)) (Y:=(.const (.string ⟨#[34]⟩))) (yt:=9) (s:=v22) (u:=(⟨#[34]⟩:BA)) hv23) ?_
 cases h;exact lq 3
def kbo (r108:(Va)→Option BA) (r146:(List Va)→Option BA) (a0:Va):Option BA:=(bif (a0.type == 1) then (bif (a0.num == 0) then (some (⟨#[102,97,108,115,101]⟩:BA)) else (some (⟨#[116,114,117,101]⟩:BA))) else (bif (a0.type == 2) then ((kce fuel a0.num).bind fun v1=>(some v1)) else (bif (a0.type == 4) then ((kc3 (w64 (Int.tdiv a0.num 16))).bind fun v2=>((cat (⟨#[48,120]⟩:BA) v2).bind fun v3=>((kc3 (Int.tmod a0.num 16)).bind fun v4=>((cat v3 v4).bind fun v5=>(some v5))))) else (bif (a0.type == 3) then ((kf5 a0.text).bind fun v6=>(some v6)) else (bif (a0.type == 8) then ((kf5 a0.text).bind fun v7=>((cat (⟨#[114]⟩:BA) v7).bind fun v8=>(some v8))) else (bif (a0.type == 5) then ((r146 a0.items).bind fun v9=>((cat (⟨#[91]⟩:BA) v9).bind fun v10=>((cat v10 (⟨#[93]⟩:BA)).bind fun v11=>(some v11)))) else (bif (a0.type == 6) then ((r146 a0.items).bind fun v12=>((cat (⟨#[123]⟩:BA) v12).bind fun v13=>((cat v13 (⟨#[125]⟩:BA)).bind fun v14=>(some v14)))) else ((r146 a0.items).bind fun v15=>((cat (⟨#[60]⟩:BA) v15).bind fun v16=>((cat v16 (⟨#[62]⟩:BA)).bind fun v17=>(some v17)))))))))))
theorem kqq (r108:(Va)→Option BA) (r146:(List Va)→Option BA) (ih108:∀ (x0:Va) r,r108 x0=some r→kad Tryz.prog 108 [eVa x0] (eS r)) (ih146:∀ (x0:List Va) r,r146 x0=some r→kad Tryz.prog 146 [(eL 4 eVaR) x0] (eS r)) (a0:Va) (r:BA) (h:kbo r108 r146 a0=some r):kad Tryz.prog 108 [eVa a0] (eS r):=by
 unfold kbo at h
 refine pcl [.one .keep] Tryz.func108 ?_
 refine cd 17 h (fun h=>?_) fun h=>?_
 ·refine cd 7 h (fun h=>?_) fun h=>?_
  ·cases h;exact lq 5
  cases h;exact lq 6
 refine cd 5 h (fun h=>?_) fun h=>?_
 ·refine cl 4 h (kio _ _) (by kernel_rfl) fun v1 h=>?_
  cases h;exact lq 3
 refine cd 5 h (fun h=>?_) fun h=>?_
 ·refine dw 1 9 ?_
  refine cl 3 h (kh4 _) (by kernel_rfl) fun v2 h=>?_
  obtain ⟨v3,hv3,h⟩:=qc.1 h
  refine nst 0 (kbl (t:=9) (X:=(.const (.string ⟨#[48,120]⟩))) (Y:=(.tmp 20)) (yt:=9) (s:=(⟨#[48,120]⟩:BA)) (u:=v2) hv3) ?_
  refine cl 3 h (kh4 _) (by kernel_rfl) fun v4 h=>?_
  obtain ⟨v5,hv5,h⟩:=qc.1 h
  refine nst 1 (kbl (t:=9) (X:=(.tmp 21)) (Y:=(.tmp 25)) (yt:=9) (s:=v3) (u:=v4) hv5) ?_
  cases h;exact lq 3
 refine cd 5 h (fun h=>?_) fun h=>?_
 ·refine cl 4 h (klx _) (by kernel_rfl) fun v6 h=>?_
  cases h;exact lq 3
 refine cd 5 h (fun h=>?_) fun h=>?_
 ·refine cl 4 h (klx _) (by kernel_rfl) fun v7 h=>?_
  obtain ⟨v8,hv8,h⟩:=qc.1 h
  refine nst 0 (kbl (t:=9) (X:=(.const (.string ⟨#[114]⟩))) (Y:=(.tmp 36)) (yt:=9) (s:=(⟨#[114]⟩:BA)) (u:=v7) hv8) ?_
  cases h;exact lq 3
 refine cd 5 h (fun h=>?_) fun h=>?_
 ·refine cl 4 h (ih146 _) (by kernel_rfl) fun v9 h=>?_
  obtain ⟨v10,hv10,h⟩:=qc.1 h
  refine nst 0 (kbl (t:=9) (X:=(.const (.string ⟨#[91]⟩))) (Y:=(.tmp 42)) (yt:=9) (s:=(⟨#[91]⟩:BA)) (u:=v9) hv10) ?_
  obtain ⟨v11,hv11,h⟩:=qc.1 h
  refine nst 0 (kbl (t:=9) (X:=(.tmp 43)) (Y:=(.const (.string ⟨#[93]⟩))) (yt:=9) (s:=v10) (u:=(⟨#[93]⟩:BA)) hv11) ?_
  cases h;exact lq 3
 refine cd 5 h (fun h=>?_) fun h=>?_
 ·refine cl 4 h (ih146 _) (by kernel_rfl) fun v12 h=>?_
  obtain ⟨v13,hv13,h⟩:=qc.1 h
  refine nst 0 (kbl (t:=9) (X:=(.const (.string ⟨#[123]⟩))) (Y:=(.tmp 49)) (yt:=9) (s:=(⟨#[123]⟩:BA)) (u:=v12) hv13) ?_
  obtain ⟨v14,hv14,h⟩:=qc.1 h
  refine nst 0 (kbl (t:=9) (X:=(.tmp 50)) (Y:=(.const (.string ⟨#[125]⟩))) (yt:=9) (s:=v13) (u:=(⟨#[125]⟩:BA)) hv14) ?_
  cases h;exact lq 3
 refine cl 5 h (ih146 _) (by kernel_rfl) fun v15 h=>?_
 obtain ⟨v16,hv16,h⟩:=qc.1 h
 refine nst 0 (kbl (t:=9) (X:=(.const (.string ⟨#[60]⟩))) (Y:=(.tmp 54)) (yt:=9) (s:=(⟨#[60]⟩:BA)) (u:=v15) hv16) ?_
 obtain ⟨v17,hv17,h⟩:=qc.1 h
 refine nst 0 (kbl (t:=9) (X:=(.tmp 55)) (Y:=(.const (.string ⟨#[62]⟩))) (yt:=9) (s:=v16) (u:=(⟨#[62]⟩:BA)) hv17) ?_
 cases h;exact lq 3
def kdz (a0:List Va) (r108:(Va)→Option BA) (v1:(BA)×(Int)):Option (((BA)×(Int)) ⊕ (BA)):=(bif (decide (v1.2<(List.length a0:Int))) then ((bif (decide (0<v1.2)) then ((cat v1.1 (⟨#[44,32]⟩:BA)).bind fun v2=>(some v2)) else (some v1.1)).bind fun v4=>((idx a0 v1.2).bind fun v5=>((r108 v5).bind fun v6=>((cat v4 v6).bind fun v7=>(some (.inl (v7,(w64 (v1.2+1))))))))) else (some (.inr v1.1)))
def kgr (r108:(Va)→Option BA) (r146:(List Va)→Option BA) (a0:List Va):Option BA:=((kaa (kdz a0 r108) fuel ((⟨#[]⟩:BA),0)).bind fun (v9:(BA))=>(some v9))
theorem kqb (r108:(Va)→Option BA) (r146:(List Va)→Option BA) (ih108:∀ (x0:Va) r,r108 x0=some r→kad Tryz.prog 108 [eVa x0] (eS r)) (ih146:∀ (x0:List Va) r,r146 x0=some r→kad Tryz.prog 146 [(eL 4 eVaR) x0] (eS r)) (a0:List Va) (r:BA) (h:kgr r108 r146 a0=some r):kad Tryz.prog 146 [(eL 4 eVaR) a0] (eS r):=by
 unfold kgr at h
 refine pcl [.one .keep] Tryz.func146 ?_
 refine lp1 14 (fun v1=>⟨23,[(0,(.fz (eL 4 eVaR a0))),(3,(fS v1.1)),(4,(fI v1.2))],[],[],[]⟩) (.exit 0) (fun v9=>⟨23,[(3,(fS v9))],[],[],[]⟩) h (fun v1 r h=>?_) fun v9 h=>?_
 ·unfold kdz at h
  refine cd 8 h (fun h=>?_) fun h=>?_
  ·refine jn1 4 .normal (fun v4=>⟨23,[(0,(.fz (eL 4 eVaR a0))),(3,(fS v4)),(4,(fI v1.2))],[],[],[]⟩) h (fun v4 h=>?_) fun v4 h=>?_
   ·refine cd 5 h (fun h=>?_) fun h=>?_
    ·obtain ⟨v2,hv2,h⟩:=qc.1 h
     refine nst 2 (kbl (t:=9) (X:=(.tmp 13)) (Y:=(.const (.string ⟨#[44,32]⟩))) (yt:=9) (s:=v1.1) (u:=(⟨#[44,32]⟩:BA)) hv2) ?_
     cases h;exact lj 2
    cases h;exact lj 1
   refine ix nVaR 4 h fun v5 h=>?_
   refine cl 1 h (ih108 _) (by kernel_rfl) fun v6 h=>?_
   obtain ⟨v7,hv7,h⟩:=qc.1 h
   refine nst 0 (kbl (t:=9) (X:=(.tmp 15)) (Y:=(.tmp 20)) (yt:=9) (s:=v4) (u:=v6) hv7) ?_
   cases h;exact lj 7
  cases h;exact lo 1 (by kernel_rfl)
 cases h;exact lq 6
def kex:Nat→((Va)→Option BA)×((List Va)→Option BA)
  | 0=>(fun _=>none,fun _=>none)
  | n+1=>(kbo ((kex n).1) ((kex n).2),kgr ((kex n).1) ((kex n).2))
def ka9 (n:Nat):(Va)→Option BA:=(kex n).1
def kde (n:Nat):(List Va)→Option BA:=(kex n).2
theorem ke7:∀ n:Nat,(∀ (x0:Va) r,ka9 n x0=some r→kad Tryz.prog 108 [eVa x0] (eS r))∧(∀ (x0:List Va) r,kde n x0=some r→kad Tryz.prog 146 [(eL 4 eVaR) x0] (eS r))
  | 0=>⟨(fun _ _ h=>nomatch h),(fun _ _ h=>nomatch h)⟩
  | n+1=>⟨(kqq _ _ ((ke7 n).1) ((ke7 n).2)),(kqb _ _ ((ke7 n).1) ((ke7 n).2))⟩
theorem ksi (n:Nat):∀ (x0:Va) r,ka9 n x0=some r→kad Tryz.prog 108 [eVa x0] (eS r):=(ke7 n).1
def ke5 (a0:Va):Option ((BA)×(Int)):=((ka0 fuel a0).bind fun v1=>(bif (v1 != 0) then (some ((⟨#[]⟩:BA),v1)) else ((ka9 fuel a0).bind fun v2=>(some (v2,0)))))
theorem krb (a0:Va) (r:(BA)×(Int)) (h:ke5 a0=some r):kad Tryz.prog 70 [eVa a0] (.tup [eS r.1,eI r.2]):=by
 unfold ke5 at h
 refine pcl [.one .keep, .one .keep] Tryz.func70 ?_
 refine cl 10 h (klz _ _) (by kernel_rfl) fun v1 h=>?_
 refine cd 7 h (fun h=>?_) fun h=>?_
 ·cases h;exact lq 7
 refine cl 4 h (ksi _ _) (by kernel_rfl) fun v2 h=>?_
 cases h;exact lq 4
def kmc (a0:La) (a1:Tm):List (Nat×AObj):=[(1,(.box 26 [(fS a0.name),(.fz (eL 1 eI a0.inputs)),(.fz (eL 2 eSy a0.symbols)),(.fz (eL 9 eRu a0.rules))])),(2,(.box 29 [(fI a1.rule),(.fz (eL 2 eTmR a1.args))]))]
def kgf (a0:La) (a1:Tm) (r31:(La)→(Tm)→Option BA) (v6:(BA)×(Int)):Option (((BA)×(Int)) ⊕ (BA)):=(bif (decide (v6.2<(List.length a1.args:Int))) then ((bif (decide (0<v6.2)) then ((cat v6.1 (⟨#[44,32]⟩:BA)).bind fun v7=>(some v7)) else (some v6.1)).bind fun v9=>((idx a1.args v6.2).bind fun v10=>((r31 a0 v10).bind fun v11=>((cat v9 v11).bind fun v12=>(some (.inl (v12,(w64 (v6.2+1))))))))) else (some (.inr v6.1)))
def kgs (r31:(La)→(Tm)→Option BA) (a0:La) (a1:Tm):Option BA:=((idx a0.rules a1.rule).bind fun v1=>(bif (v1.kind == 1) then ((kfr v1.input).bind fun v2=>((cat (⟨#[105,110]⟩:BA) v2).bind fun v3=>(some v3))) else (bif (v1.kind == 2) then ((ke5 v1.const).bind fun v4=>(some v4.1)) else ((cat v1.op (⟨#[40]⟩:BA)).bind fun v5=>((kaa (kgf a0 a1 r31) fuel (v5,0)).bind fun (v14:(BA))=>((cat v14 (⟨#[41]⟩:BA)).bind fun v15=>(some v15)))))))
theorem kqo (r31:(La)→(Tm)→Option BA) (ih31:∀ (x0:La) (x1:Tm) r,r31 x0 x1=some r→kad Tryz.prog 31 [eLa x0,eTm x1] (eS r)) (a0:La) (a1:Tm) (r:BA) (h:kgs r31 a0 a1=some r):kad Tryz.prog 31 [eLa a0,eTm a1] (eS r):=by
 unfold kgs at h
 refine pcl [.one .keep] Tryz.func31 ?_
 refine ix nRu 12 h fun v1 h=>?_
 refine cd 16 h (fun h=>?_) fun h=>?_
 ·refine cl 4 h (kqe _) (by kernel_rfl) fun v2 h=>?_
  obtain ⟨v3,hv3,h⟩:=qc.1 h
  refine nst 0 (kbl (t:=9) (X:=(.const (.string ⟨#[105,110]⟩))) (Y:=(.tmp 22)) (yt:=9) (s:=(⟨#[105,110]⟩:BA)) (u:=v2) hv3) ?_
  cases h;exact lq 3
 refine cd 5 h (fun h=>?_) fun h=>?_
 ·refine cl 4 h (krb _) (by kernel_rfl) fun v4 h=>?_
  cases h;exact lq 12
 obtain ⟨v5,hv5,h⟩:=qc.1 h
 refine nst 5 (kbl (t:=9) (X:=(.tmp 34)) (Y:=(.const (.string ⟨#[40]⟩))) (yt:=9) (s:=v1.op) (u:=(⟨#[40]⟩:BA)) hv5) ?_
 refine lp1 8 (fun v6=>⟨58,[(2,(.ref 1 0 0)),(3,(.ref 2 0 0)),(8,(fS v6.1)),(9,(fI v6.2))],(kmc a0 a1),[2,1],[]⟩) (.exit 1) (fun v14=>⟨58,[(8,(fS v14))],[],[],[]⟩) h (fun v6 r h=>?_) fun v14 h=>?_
 ·unfold kgf at h
  refine cd 9 h (fun h=>?_) fun h=>?_
  ·refine jn1 4 .normal (fun v9=>⟨58,[(2,(.ref 1 0 0)),(3,(.ref 2 0 0)),(8,(fS v9)),(9,(fI v6.2))],(kmc a0 a1),[2,1],[]⟩) h (fun v9 h=>?_) fun v9 h=>?_
   ·refine cd 5 h (fun h=>?_) fun h=>?_
    ·obtain ⟨v7,hv7,h⟩:=qc.1 h
     refine nst 2 (kbl (t:=9) (X:=(.tmp 45)) (Y:=(.const (.string ⟨#[44,32]⟩))) (yt:=9) (s:=v6.1) (u:=(⟨#[44,32]⟩:BA)) hv7) ?_
     cases h;exact lj 2
    cases h;exact lj 1
   refine dw 0 8 ?_
   refine ix nTmR 5 h fun v10 h=>?_
   refine cl 1 h (ih31 _ _) (by kernel_rfl) fun v11 h=>?_
   obtain ⟨v12,hv12,h⟩:=qc.1 h
   refine nst 1 (kbl (t:=9) (X:=(.tmp 47)) (Y:=(.tmp 54)) (yt:=9) (s:=v9) (u:=v11) hv12) ?_
   cases h;exact lj 7
  cases h;exact lo 1 (by kernel_rfl)
 obtain ⟨v15,hv15,h⟩:=qc.1 h
 refine nst 3 (kbl (t:=9) (X:=(.tmp 56)) (Y:=(.const (.string ⟨#[41]⟩))) (yt:=9) (s:=v14) (u:=(⟨#[41]⟩:BA)) hv15) ?_
 cases h;exact lq 3
def kd8:Nat→(La)→(Tm)→Option (BA)
  | 0=>fun _ _=>none
  | n+1=>kgs (kd8 n)
theorem kl6:∀ (n:Nat) (x0:La) (x1:Tm) r,kd8 n x0 x1=some r→kad Tryz.prog 31 [eLa x0,eTm x1] (eS r)
  | 0,_,_,_,h=>by cases h
  | n+1,x0,x1,r,h=>kqo (kd8 n) (kl6 n) x0 x1 r h
end Go.Proofs.YtaimpcnpifoidaaGreatDoor
