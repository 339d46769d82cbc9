import Derived.Test.YtchjomeomabamaaGreatDoorZ1
set_option linter.all false
set_option maxRecDepth 100000
namespace Go.Proofs.YtchjomeomabamaaGreatDoor
open Go Go.RowKit Go.Proofs Go.Proofs.Tryz
set_option maxHeartbeats 2000000
attribute [local irreducible] NStep kau kkz LeSt
def kgi (a0:Tm) (r34:(Tm)->Option Int) (v1:Int×Int):Option (Int×Int ⊕ Int):=bif v1.2<(a0.args.length:Int) then (idx a0.args v1.2).bind fun v2=>(r34 v2).bind fun v3=>some (.inl ((w64 (v1.1+v3)),w64 (v1.2+1))) else some (.inr v1.1)
def kgs (r34:(Tm)->Option Int) (a0:Tm):Option Int:=(kab (kgi a0 r34) fuel (1,0)).bind fun v5=>some v5
theorem kps (r34:(Tm)->Option Int) (ih34:∀ (x0:Tm) r,r34 x0=some r->PCall prog 34 [eTm x0] (eI r)) (a0:Tm) (r:Int) (h:kgs r34 a0=some r):PCall prog 34 [eTm a0] (eI r):=pcl [.one .keep] func34<|lp1 15 (fun v1=>⟨21,[(1,.ref 1 0 0),(3,fI v1.1),(4,fI v1.2)],[(1,.box 32 [fI a0.rule,.fz (eL 2 eTmR a0.args)])],[1],[]⟩) (.exit 0) (fun v5=>⟨21,[(3,fI v5)],[],[],[]⟩) h (fun v1 r h=>cd 9 h (fun h=>ix nTmR 8 h fun v2 h=>cl 1 h (ih34 _) fun _=>lJ 8) (lO 1)) fun _=>lQ 6
def kbd:Nat->(Tm)->Option Int
  | 0=>fun _=>none
  | n+1=>kgs (kbd n)
theorem kgb:∀ (n:Nat) (x0:Tm) r,kbd n x0=some r->PCall prog 34 [eTm x0] (eI r)
  | 0,_,_,h=>by cases h
  | n+1,x0,r,h=>kps (kbd n) (kgb n) x0 r h
def kf2 (a0:Tm) (r61:(Tm)->Option (List Int)) (v1:Int×List Int):Option (Int×List Int ⊕ List Int):=bif v1.1<(a0.args.length:Int) then (idx a0.args v1.1).bind fun v2=>(r61 v2).bind fun v3=>(app 8 v1.2 v3).bind fun v4=>some (.inl ((w64 (v1.1+1)),v4)) else some (.inr v1.2)
def kgj (r61:(Tm)->Option (List Int)) (a0:Tm):Option (List Int):=(kab (kf2 a0 r61) fuel (0,([a0.rule]:List Int))).bind fun v6=>some v6
theorem ko2 (r61:(Tm)->Option (List Int)) (ih61:∀ (x0:Tm) r,r61 x0=some r->PCall prog 61 [eTm x0] (eL 1 eI r)) (a0:Tm) (r:List Int) (h:kgj r61 a0=some r):PCall prog 61 [eTm a0] (eL 1 eI r):=pcl [.one (.sl 1)] func61<|sst 9 (kta 22 tt22 2 eI 1 #[(0,.tmp 6)] 3 tt3 ([a0.rule]:List Int))<|lp1 8 (fun v1=>⟨24,[(1,.ref 1 0 0),(3,.row 2 v1.2.length),(4,fI v1.1)],[(1,.box 32 [fI a0.rule,.fz (eL 2 eTmR a0.args)]),(2,.frow 3 1 (v1.2.map eI))],[2,1],[]⟩) (.exit 0) (fun v6=>⟨24,[(3,.row 2 v6.length)],[(2,.frow 3 1 (v6.map eI))],[2],[]⟩) h (fun v1 r h=>cd 9 h (fun h=>ix nTmR 8 h fun v2 h=>cl 1 h (ih61 _) fun v3 h=>ap nI 0 h fun _=>lJ 7) (lO 1)) fun v6 h=>wle 5 (kjm 2 2 v6.length 3 1 (List.map eI v6))<|(lQ 1) h
def kbw:Nat->(Tm)->Option (List Int)
  | 0=>fun _=>none
  | n+1=>kgj (kbw n)
theorem kjb:∀ (n:Nat) (x0:Tm) r,kbw n x0=some r->PCall prog 61 [eTm x0] (eL 1 eI r)
  | 0,_,_,h=>by cases h
  | n+1,x0,r,h=>ko2 (kbw n) (kjb n) x0 r h
def ke4 (a0:Tm) (r62:(Tm)->Option (List Int)) (v1:Int×List Int):Option (Int×List Int ⊕ List Int):=bif v1.1<(a0.args.length:Int) then (idx a0.args v1.1).bind fun v2=>(r62 v2).bind fun v3=>(app 8 v1.2 v3).bind fun v4=>some (.inl ((w64 (v1.1+1)),v4)) else some (.inr v1.2)
def kfb (r62:(Tm)->Option (List Int)) (a0:Tm):Option (List Int):=(kab (ke4 a0 r62) fuel (0,([(a0.args.length:Int)]:List Int))).bind fun v6=>some v6
theorem koj (r62:(Tm)->Option (List Int)) (ih62:∀ (x0:Tm) r,r62 x0=some r->PCall prog 62 [eTm x0] (eL 1 eI r)) (a0:Tm) (r:List Int) (h:kfb r62 a0=some r):PCall prog 62 [eTm a0] (eL 1 eI r):=pcl [.one (.sl 1)] func62<|sst 10 (kta 22 tt22 2 eI 1 #[(0,.tmp 7)] 3 tt3 ([(a0.args.length:Int)]:List Int))<|lp1 8 (fun v1=>⟨25,[(1,.ref 1 0 0),(3,.row 2 v1.2.length),(4,fI v1.1)],[(1,.box 32 [fI a0.rule,.fz (eL 2 eTmR a0.args)]),(2,.frow 3 1 (v1.2.map eI))],[2,1],[]⟩) (.exit 0) (fun v6=>⟨25,[(3,.row 2 v6.length)],[(2,.frow 3 1 (v6.map eI))],[2],[]⟩) h (fun v1 r h=>cd 9 h (fun h=>ix nTmR 8 h fun v2 h=>cl 1 h (ih62 _) fun v3 h=>ap nI 0 h fun _=>lJ 7) (lO 1)) fun v6 h=>wle 5 (kjm 2 2 v6.length 3 1 (List.map eI v6))<|(lQ 1) h
def kbl:Nat->(Tm)->Option (List Int)
  | 0=>fun _=>none
  | n+1=>kfb (kbl n)
theorem kiw:∀ (n:Nat) (x0:Tm) r,kbl n x0=some r->PCall prog 62 [eTm x0] (eL 1 eI r)
  | 0,_,_,h=>by cases h
  | n+1,x0,r,h=>koj (kbl n) (kiw n) x0 r h
def ka5 (a0 a1:Tm):Option Int:=(kbd fuel a0).bind fun v1=>(kbd fuel a1).bind fun v2=>(ked v1 v2).bind fun v3=>bif v3 != 0 then some v3 else (kbw fuel a0).bind fun v4=>(kbw fuel a1).bind fun v5=>(kao v4 v5).bind fun v6=>bif v6 != 0 then some v6 else (kbl fuel a0).bind fun v7=>(kbl fuel a1).bind fun v8=>(kao v7 v8).bind fun v9=>some v9
theorem kcc (a0 a1:Tm) (r:Int) (h:ka5 a0 a1=some r):PCall prog 20 [eTm a0,eTm a1] (eI r):=pcl [.one .keep] func20<|dw 8 3<|cl 1 h (kgb _ _) fun v1 h=>cl 2 h (kgb _ _) fun v2 h=>cl 0 h (kk8 _ _) fun v3 h=>cd 7 h (lQ 6) fun h=>dw 3 3<|cl 1 h (kjb _ _) fun v4 h=>cl 2 h (kjb _ _) fun v5 h=>cl 0 h (kbq _ _) fun v6 h=>cd 7 h (lQ 6) fun h=>dw 2 3<|cl 1 h (kiw _ _) fun v7 h=>cl 2 h (kiw _ _) fun v8 h=>cl 0 h (kbq _ _) fun _=>lQ 3
def keq (a0 a1:List Tm) (v1:Int):Option (Int ⊕ (Unit ⊕ Bool)):=bif v1<(a0.length:Int) then (idx a0 v1).bind fun v2=>(idx a1 v1).bind fun v3=>(ka5 v2 v3).bind fun v4=>bif v4 != 0 then some (.inr (.inr false)) else some (.inl (w64 (v1+1))) else some (.inr (.inl ()))
def kho (a0 a1:List Tm):Option Bool:=bif (a0.length:Int) != (a1.length:Int) then some false else (kab (keq a0 a1) fuel 0).bind fun v5=>Sum.elim (fun v6=>some true) (fun v7=>some v7) v5
theorem krj (a0 a1:List Tm) (r:Bool) (h:kho a0 a1=some r):PCall prog 19 [(eL 2 eTmR) a0,(eL 2 eTmR) a1] (eB r):=pcl [.one .keep] func19<|cd 13 h (lQ 5) fun h=>lpq 7 h (fun v1=>⟨27,[(0,.fz (eL 2 eTmR a0)),(1,.fz (eL 2 eTmR a1)),(5,fI v1)],[],[],[]⟩) (.exit 0) (fun v6=>⟨27,[],[],[],[]⟩) eB (fun v1 r h=>cd 8 h (fun h=>dw 4 8<|ix nTmR 2 h fun v2 h=>ix nTmR 3 h fun v3 h=>cl 2 h (kcc _ _) fun v4 h=>cd 2 h (lR 5) (lJ 6)) (lO 1)) fun _=>lQ 5
def kdc (a0:Tm) (r24:(Tm)->(Int)->Option Int) (v1:Int×Int):Option (Int×Int ⊕ Int):=(bif v1.2<(a0.args.length:Int) then some (decide (0<=v1.1)) else some false).bind fun v3=>bif v3 then (idx a0.args v1.2).bind fun v4=>(r24 v4 v1.1).bind fun v5=>some (.inl (v5,w64 (v1.2+1))) else some (.inr v1.1)
def kgu (r24:(Tm)->(Int)->Option Int) (a0:Tm) (a1:Int):Option Int:=(kab (kdc a0 r24) fuel ((w64 (a1 - 1)),0)).bind fun v7=>some v7
theorem kph (r24:(Tm)->(Int)->Option Int) (ih24:∀ (x0:Tm) (x1:Int) r,r24 x0 x1=some r->PCall prog 24 [eTm x0,eI x1] (eI r)) (a0:Tm) (a1 r:Int) (h:kgu r24 a0 a1=some r):PCall prog 24 [eTm a0,eI a1] (eI r):=pcl [.one .keep] func24<|lp1 17 (fun v1=>⟨27,[(1,fI v1.1),(2,.ref 1 0 0),(5,fI v1.2)],[(1,.box 32 [fI a0.rule,.fz (eL 2 eTmR a0.args)])],[1],[]⟩) (.exit 0) (fun v7=>⟨27,[(1,fI v7)],[],[],[]⟩) h (fun v1 r h=>jn1 2 .normal (fun v3=>⟨27,[(1,fI v1.1),(2,.ref 1 0 0),(5,fI v1.2),(16,fB v3)],[(1,.box 32 [fI a0.rule,.fz (eL 2 eTmR a0.args)])],[1],[]⟩) h (fun v3 h=>gd 7 h (lJ 4) (lJ 4)) fun v3 h=>cd 0 h (fun h=>ix nTmR 7 h fun v4 h=>cl 2 h (ih24 _ _) fun _=>lJ 7) (lO 1)) fun _=>lQ 6
def kdj:Nat->(Tm)->(Int)->Option Int
  | 0=>fun _ _=>none
  | n+1=>kgu (kdj n)
theorem klo:∀ (n:Nat) (x0:Tm) (x1:Int) r,kdj n x0 x1=some r->PCall prog 24 [eTm x0,eI x1] (eI r)
  | 0,_,_,_,h=>by cases h
  | n+1,x0,x1,r,h=>kph (kdj n) (klo n) x0 x1 r h
def kds (a0:Tm) (a1:Int):Option Bool:=(kdj fuel a0 a1).bind fun v1=>some (decide (0<=v1))
theorem kky (a0:Tm) (a1:Int) (r:Bool) (h:kds a0 a1=some r):PCall prog 6 [eTm a0,eI a1] (eB r):=pcl [.one .keep] func6<|cl 9 h (klo _ _ _) fun _=>lQ 4
def kdb (a0:BA) (v1:Int):Option (Int ⊕ (Unit ⊕ Bool)):=bif v1<(a0.size:Int) then ((byt a0 v1).bind fun v2=>bif 97<=v2 then (byt a0 v1).bind fun v3=>bif v3<=122 then some true else (byt a0 v1).bind fun v4=>bif 65<=v4 then (byt a0 v1).bind fun v5=>some (decide (v5<=90)) else some false else (byt a0 v1).bind fun v6=>bif 65<=v6 then (byt a0 v1).bind fun v7=>some (decide (v7<=90)) else some false).bind fun v9=>(bif !v9 then bif v1 == 0 then some true else (byt a0 v1).bind fun v10=>bif v10 != 45 then (byt a0 v1).bind fun v11=>bif v11<48 then some true else (byt a0 v1).bind fun v12=>some (decide (57<v12)) else some false else some false).bind fun v14=>bif v14 then some (.inr (.inr false)) else some (.inl (w64 (v1+1))) else some (.inr (.inl ()))
def kf9 (a0:BA):Option Bool:=(kab (kdb a0) fuel 0).bind fun v15=>Sum.elim (fun v16=>(bif 1<=(a0.size:Int) then some (decide ((a0.size:Int)<=24)) else some false).bind fun v18=>some v18) (fun v19=>some v19) v15
theorem kln (a0:BA) (r:Bool) (h:kf9 a0=some r):PCall prog 79 [eS a0] (eB r):=pcl [.one .keep] func79<|lpq 10 h (fun v1=>⟨65,[(0,fS a0),(3,fI v1)],[],[],[]⟩) (.exit 0) (fun v16=>⟨65,[(0,fS a0)],[],[],[]⟩) eB (fun v1 r h=>cd 8 h (fun h=>jn1 4 .normal (fun v9=>⟨65,[(0,fS a0),(3,fI v1),(4,fB v9)],[],[],[]⟩) h (fun v9 h=>byx 3 h fun v2 h=>gd 2 h (fun h=>byx 2 h fun v3 h=>gd 3 h (lJ 13) fun h=>byx 2 h fun v4 h=>gd 2 h (fun h=>byx 2 h fun _=>lJ 5) (lJ 8)) fun h=>byx 8 h fun v6 h=>gd 2 h (fun h=>byx 2 h fun _=>lJ 5) (lJ 8)) fun v9 h=>jn1 1 .normal (fun v14=>⟨65,[(0,fS a0),(3,fI v1),(56,fB v14)],[],[],[]⟩) h (fun v14 h=>gd 4 h (fun h=>gd 3 h (lJ 19) fun h=>byx 2 h fun v10 h=>gd 2 h (fun h=>byx 2 h fun v11 h=>gd 2 h (lJ 9) fun h=>byx 2 h fun _=>lJ 6) (lJ 14)) (lJ 22)) fun v14 h=>cd 0 h (lR 5) (lJ 6)) (lO 1)) fun v16 h=>jn1 1 .normal (fun v18=>⟨65,[(2,fB v18)],[],[],[]⟩) h (fun v18 h=>gd 5 h (lJ 6) (lJ 6)) fun _=>lQ 1
def kg3 (a0:Int):Option Bool:=(bif 1<=a0 then some (decide (a0<=8)) else some false).bind fun v2=>some v2
theorem kla (a0:Int) (r:Bool) (h:kg3 a0=some r):PCall prog 80 [eI a0] (eB r):=pcl [.one .keep] func80<|jn1 5 .normal (fun v2=>⟨9,[(2,fB v2)],[],[],[]⟩) h (fun v2 h=>gd 4 h (lJ 5) (lJ 5)) fun _=>lQ 1
def ke0 (a0:Bool):Option Int:=bif a0 then some (-1) else some 1
theorem khx (a0:Bool) (r:Int) (h:ke0 a0=some r):PCall prog 217 [eB a0] (eI r):=pcl [.one .keep] func217<|cd 9 h (lQ 5) (lQ 6)
def kco (r200:(Va)->(Va)->Option Int) (r218:(List Va)->(List Va)->Option Int) (a0 a1:Va):Option Int:=bif a0.type != a1.type then (ke0 (decide (a0.type<a1.type))).bind fun v1=>some v1 else bif a0.num != a1.num then (ke0 (decide (a0.num<a1.num))).bind fun v2=>some v2 else bif !(a0.text.toList == a1.text.toList) then (ke0 (Op.bytesLess a0.text.toList a1.text.toList)).bind fun v3=>some v3 else (r218 a0.items a1.items).bind fun v4=>some v4
theorem knx (r200:(Va)->(Va)->Option Int) (r218:(List Va)->(List Va)->Option Int) (ih200:∀ (x0:Va) (x1:Va) r,r200 x0 x1=some r->PCall prog 200 [eVa x0,eVa x1] (eI r)) (ih218:∀ (x0:List Va) (x1:List Va) r,r218 x0 x1=some r->PCall prog 218 [(eL 4 eVaR) x0,(eL 4 eVaR) x1] (eI r)) (a0 a1:Va) (r:Int) (h:kco r200 r218 a0 a1=some r):PCall prog 200 [eVa a0,eVa a1] (eI r):=pcl [.one .keep] func200<|cd 17 h (fun h=>cl 7 h (khx _) fun _=>lQ 3) fun h=>cd 9 h (fun h=>cl 7 h (khx _) fun _=>lQ 3) fun h=>cd 9 h (fun h=>cl 7 h (khx _) fun _=>lQ 3) fun h=>cl 7 h (ih218 _ _) fun _=>lQ 3
def kaz (a0 a1:List Va) (r200:(Va)->(Va)->Option Int) (v1:Int):Option (Int ⊕ (Unit ⊕ Int)):=(bif v1<(a0.length:Int) then some (decide (v1<(a1.length:Int))) else some false).bind fun v3=>bif v3 then (idx a0 v1).bind fun v4=>(idx a1 v1).bind fun v5=>(r200 v4 v5).bind fun v6=>bif v6 != 0 then some (.inr (.inr v6)) else some (.inl (w64 (v1+1))) else some (.inr (.inl ()))
def kbz (r200:(Va)->(Va)->Option Int) (r218:(List Va)->(List Va)->Option Int) (a0 a1:List Va):Option Int:=(kab (kaz a0 a1 r200) fuel 0).bind fun v7=>Sum.elim (fun v8=>bif (a0.length:Int) == (a1.length:Int) then some 0 else (ke0 (decide ((a0.length:Int)<(a1.length:Int)))).bind fun v9=>some v9) (fun v10=>some v10) v7
theorem kmo (r200:(Va)->(Va)->Option Int) (r218:(List Va)->(List Va)->Option Int) (ih200:∀ (x0:Va) (x1:Va) r,r200 x0 x1=some r->PCall prog 200 [eVa x0,eVa x1] (eI r)) (ih218:∀ (x0:List Va) (x1:List Va) r,r218 x0 x1=some r->PCall prog 218 [(eL 4 eVaR) x0,(eL 4 eVaR) x1] (eI r)) (a0 a1:List Va) (r:Int) (h:kbz r200 r218 a0 a1=some r):PCall prog 218 [(eL 4 eVaR) a0,(eL 4 eVaR) a1] (eI r):=pcl [.one .keep] func218<|lpq 10 h (fun v1=>⟨42,[(0,.fz (eL 4 eVaR a0)),(1,.fz (eL 4 eVaR a1)),(5,fI v1)],[],[],[]⟩) (.exit 0) (fun v8=>⟨42,[(0,.fz (eL 4 eVaR a0)),(1,.fz (eL 4 eVaR a1))],[],[],[]⟩) eI (fun v1 r h=>jn1 2 .normal (fun v3=>⟨42,[(0,.fz (eL 4 eVaR a0)),(1,.fz (eL 4 eVaR a1)),(5,fI v1),(16,fB v3)],[],[],[]⟩) h (fun v3 h=>gd 6 h (lJ 6) (lJ 6)) fun v3 h=>cd 0 h (fun h=>dw 4 8<|ix nVaR 2 h fun v4 h=>ix nVaR 3 h fun v5 h=>cl 2 h (ih200 _ _) fun v6 h=>cd 7 h (lR 6) (lJ 6)) (lO 1)) fun v8 h=>cd 9 h (lQ 5) fun h=>cl 8 h (khx _) fun _=>lQ 3
def kc4:Nat->((Va)->(Va)->Option Int)×((List Va)->(List Va)->Option Int)
  | 0=>(fun _ _=>none,fun _ _=>none)
  | n+1=>(kco ((kc4 n).1) ((kc4 n).2),kbz ((kc4 n).1) ((kc4 n).2))
def kaw (n:Nat):(Va)->(Va)->Option Int:=(kc4 n).1
def kb9 (n:Nat):(List Va)->(List Va)->Option Int:=(kc4 n).2
theorem kdf:∀ n:Nat,(∀ (x0:Va) (x1:Va) r,kaw n x0 x1=some r->PCall prog 200 [eVa x0,eVa x1] (eI r))/\(∀ (x0:List Va) (x1:List Va) r,kb9 n x0 x1=some r->PCall prog 218 [(eL 4 eVaR) x0,(eL 4 eVaR) x1] (eI r))
  | 0=>⟨(fun _ _ _ h=>nomatch h),(fun _ _ _ h=>nomatch h)⟩
  | n+1=>⟨knx _ _ ((kdf n).1) ((kdf n).2),kmo _ _ ((kdf n).1) ((kdf n).2)⟩
theorem ko3 (n:Nat):∀ (x0:Va) (x1:Va) r,kaw n x0 x1=some r->PCall prog 200 [eVa x0,eVa x1] (eI r):=(kdf n).1
def kb8 (a0 a1:Va):Option Bool:=(kaw fuel a0 a1).bind fun v1=>some (v1 == 0)
theorem klb (a0 a1:Va) (r:Bool) (h:kb8 a0 a1=some r):PCall prog 149 [eVa a0,eVa a1] (eB r):=pcl [.one .keep] func149<|cl 10 h (ko3 _ _ _) fun _=>lQ 4
def kez (a0:Ru):Option Bool:=(kb8 a0.const (Va.mk 0 0 (⟨#[]⟩:BA) ([]:List Va))).bind fun v1=>bif a0.kind == 1 then (bif v1 then bif a0.op.toList == (⟨#[]⟩:BA).toList then some ((a0.args.length:Int) == 0) else some false else some false).bind fun v3=>some v3 else bif a0.kind == 2 then (bif a0.input == 0 then bif a0.op.toList == (⟨#[]⟩:BA).toList then some ((a0.args.length:Int) == 0) else some false else some false).bind fun v5=>some v5 else (bif a0.input == 0 then some v1 else some false).bind fun v7=>some v7
theorem krh (a0:Ru) (r:Bool) (h:kez a0=some r):PCall prog 145 [eRu a0] (eB r):=pcl [.one .keep] func145<|cl 10 h (klb _ _) fun v1 h=>cd 14 h (fun h=>jn1 1 .normal (fun v3=>⟨46,[(2,fB v3)],[],[],[]⟩) h (fun v3 h=>gd 3 h (fun h=>gd 5 h (lJ 7) (lJ 7)) (lJ 12)) fun _=>lQ 1) fun h=>cd 5 h (fun h=>jn1 1 .normal (fun v5=>⟨46,[(2,fB v5)],[],[],[]⟩) h (fun v5 h=>gd 5 h (fun h=>gd 5 h (lJ 7) (lJ 7)) (lJ 12)) fun _=>lQ 1) fun h=>jn1 2 .normal (fun v7=>⟨46,[(2,fB v7)],[],[],[]⟩) h (fun v7 h=>gd 5 h (lJ 4) (lJ 4)) fun _=>lQ 1
def kdu (a0 a1 a2:Int):Option Int:=(bif a0<a1 then some true else some (decide (a2<a0))).bind fun v2=>bif v2 then some 1 else some 0
theorem ki4 (a0 a1 a2 r:Int) (h:kdu a0 a1 a2=some r):PCall prog 195 [eI a0,eI a1,eI a2] (eI r):=pcl [.one .keep] func195<|jn1 6 .normal (fun v2=>⟨15,[(14,fB v2)],[],[],[]⟩) h (fun v2 h=>gd 5 h (lJ 5) (lJ 5)) fun v2 h=>cd 0 h (lQ 5) (lQ 6)
def kc3 (a0:BA) (v3:Int):Option (Int ⊕ (Unit ⊕ Int)):=bif v3<(a0.size:Int) then ((byt a0 v3).bind fun v4=>bif v4<32 then some true else (byt a0 v3).bind fun v5=>some (decide (126<v5))).bind fun v7=>bif v7 then some (.inr (.inr 1)) else some (.inl (w64 (v3+1))) else some (.inr (.inl ()))
def kfs (a0:BA) (a1 a2:Int):Option Int:=(bif (a0.size:Int)<a1 then some true else some (decide (a2<(a0.size:Int)))).bind fun v2=>bif v2 then some 2 else (kab (kc3 a0) fuel 0).bind fun v8=>Sum.elim (fun v9=>some 0) (fun v10=>some v10) v8
theorem klc (a0:BA) (a1 a2 r:Int) (h:kfs a0 a1 a2=some r):PCall prog 196 [eS a0,eI a1,eI a2] (eI r):=pcl [.one .keep] func196<|jn1 6 .normal (fun v2=>⟨34,[(0,fS a0),(17,fB v2)],[],[],[]⟩) h (fun v2 h=>gd 6 h (lJ 6) (lJ 6)) fun v2 h=>cd 0 h (lQ 5) fun h=>lpq 7 h (fun v3=>⟨34,[(0,fS a0),(7,fI v3)],[],[],[]⟩) (.exit 0) (fun v9=>⟨34,[],[],[],[]⟩) eI (fun v3 r h=>cd 8 h (fun h=>jn1 4 .normal (fun v7=>⟨34,[(0,fS a0),(7,fI v3),(33,fB v7)],[],[],[]⟩) h (fun v7 h=>byx 3 h fun v4 h=>gd 2 h (lJ 6) fun h=>byx 2 h fun _=>lJ 3) fun v7 h=>cd 0 h (lR 5) (lJ 6)) (lO 1)) fun _=>lQ 5
end Go.Proofs.YtchjomeomabamaaGreatDoor
