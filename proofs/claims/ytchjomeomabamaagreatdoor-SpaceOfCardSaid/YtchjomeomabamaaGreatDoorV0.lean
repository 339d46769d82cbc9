import Derived.Test.YtchjomeomabamaaGreatDoorGl
set_option linter.all false
set_option maxRecDepth 100000
namespace Go.Proofs.YtchjomeomabamaaGreatDoor
open Go Go.RowKit Go.Proofs Go.Proofs.Tryz
set_option maxHeartbeats 2000000
attribute [local irreducible] NStep kau kkz LeSt
def ked (a0 a1:Int):Option Int:=bif a0<a1 then some (-1) else bif a1<a0 then some 1 else some 0
theorem kk8 (a0 a1 r:Int) (h:ked a0 a1=some r):PCall prog 59 [eI a0,eI a1] (eI r):=pcl [.one .keep] func59<|cd 11 h (lQ 5) fun h=>cd 8 h (lQ 5) (lQ 6)
def kat (a0 a1:List Int) (v1:Int):Option (Int ⊕ (Unit ⊕ Int)):=(bif v1<(a0.length:Int) then some (decide (v1<(a1.length:Int))) else some false).bind fun v3=>bif v3 then (idx a0 v1).bind fun v4=>(idx a1 v1).bind fun v5=>bif v4<v5 then some (.inr (.inr (-1))) else (idx a0 v1).bind fun v6=>(idx a1 v1).bind fun v7=>bif v7<v6 then some (.inr (.inr 1)) else some (.inl (w64 (v1+1))) else some (.inr (.inl ()))
def kao (a0 a1:List Int):Option Int:=(kab (kat a0 a1) fuel 0).bind fun v8=>Sum.elim (fun v9=>(ked (a0.length:Int) (a1.length:Int)).bind fun v10=>some v10) (fun v11=>some v11) v8
theorem kbq (a0 a1:List Int) (r:Int) (h:kao a0 a1=some r):PCall prog 60 [(eL 1 eI) a0,(eL 1 eI) a1] (eI r):=pcl [.one .keep] func60<|lpq 10 h (fun v1=>⟨41,[(0,.fz (eL 1 eI a0)),(1,.fz (eL 1 eI a1)),(5,fI v1)],[],[],[]⟩) (.exit 0) (fun v9=>⟨41,[(0,.fz (eL 1 eI a0)),(1,.fz (eL 1 eI a1))],[],[],[]⟩) eI (fun v1 r h=>jn1 2 .normal (fun v3=>⟨41,[(0,.fz (eL 1 eI a0)),(1,.fz (eL 1 eI a1)),(5,fI v1),(15,fB v3)],[],[],[]⟩) h (fun v3 h=>gd 6 h (lJ 6) (lJ 6)) fun v3 h=>cd 0 h (fun h=>dw 5 8<|ix nI 2 h fun v4 h=>ix nI 3 h fun v5 h=>cd 4 h (lR 5) fun h=>dw 2 8<|ix nI 2 h fun v6 h=>ix nI 3 h fun v7 h=>cd 4 h (lR 5) (lJ 6)) (lO 1)) fun v9 h=>cl 6 h (kk8 _ _) fun _=>lQ 3
structure Sac where
  yd:Int
  yb:List Int
def kai (x:Sac):FV := .agg [eI (x.yd),(eL 1 eI) (x.yb)]
def kbi:En Sac:=⟨kai,2,fun x=>(kai x).cells,fun _=>rfl,fun _=>rfl⟩
def khk (a0 a1:Sac):Option Int:=bif a0.yd != a1.yd then (kao ([a0.yd]:List Int) ([a1.yd]:List Int)).bind fun v1=>some v1 else (kao a0.yb a1.yb).bind fun v2=>some v2
theorem kmb (a0 a1:Sac) (r:Int) (h:khk a0 a1=some r):PCall prog 68 [kai a0,kai a1] (eI r):=pcl [.one .keep] func68<|cd 15 h (fun h=>cl 8 h (kbq _ _) fun _=>lQ 3) fun h=>cl 7 h (kbq _ _) fun _=>lQ 3
structure Saa where
  ye:Int
  yg:Int
  yc:List Sac
def kah (x:Saa):FV := .agg [eI (x.ye),eI (x.yg),(eL 2 kai) (x.yc)]
def kar:En Saa:=⟨kah,3,fun x=>(kah x).cells,fun _=>rfl,fun _=>rfl⟩
structure Sad where
  ya:List Saa
  yf:List Int
def kcn (x:Sad):FV := .agg [(eL 3 kah) (x.ya),(eL 1 eI) (x.yf)]
def kf5 (a0 a1:Sad):St:=⟨81,[(2,.ref 1 0 0),(3,.ref 2 0 0)],[(1,.box 35 [.fz (eL 3 kah a0.ya),.fz (eL 1 eI a0.yf)]),(2,.box 35 [.fz (eL 3 kah a1.ya),.fz (eL 1 eI a1.yf)])],[2,1],[]⟩
def kld (v5 v6:Saa) (v9:Int):Option (Int ⊕ (Unit ⊕ Bool)):=bif v9<(v5.yc.length:Int) then (idx v5.yc v9).bind fun v10=>(idx v6.yc v9).bind fun v11=>(khk v10 v11).bind fun v12=>bif v12 != 0 then some (.inr (.inr false)) else some (.inl (w64 (v9+1))) else some (.inr (.inl ()))
def klg (a0 a1:Sad) (v4:Int):Option (Int ⊕ (Unit ⊕ Bool)):=bif v4<(a0.ya.length:Int) then (idx a0.ya v4).bind fun v5=>(idx a1.ya v4).bind fun v6=>(bif v5.ye != v6.ye then some true else bif v5.yg != v6.yg then some true else some ((v5.yc.length:Int) != (v6.yc.length:Int))).bind fun v8=>bif v8 then some (.inr (.inr false)) else (kab (kld v5 v6) fuel 0).bind fun v13=>Sum.elim (fun v14=>some (.inl (w64 (v4+1)))) (fun v15=>some (.inr (.inr v15))) v13 else some (.inr (.inl ()))
def kml (a0 a1:Sad):Option Bool:=(bif (a0.ya.length:Int) != (a1.ya.length:Int) then some true else (kao a0.yf a1.yf).bind fun v1=>some (v1 != 0)).bind fun v3=>bif v3 then some false else (kab (klg a0 a1) fuel 0).bind fun v16=>Sum.elim (fun v17=>some true) (fun v18=>some v18) v16
theorem kqj (a0 a1:Sad) (r:Bool) (h:kml a0 a1=some r):PCall prog 23 [kcn a0,kcn a1] (eB r):=pcl [.one .keep] func23<|jn1 8 .normal (fun v3=>aS (kf5 a0 a1) [(23,fB v3)] []) h (fun v3 h=>gd 9 h (lJ 8) fun h=>cl 4 h (kbq _ _) fun _=>lJ 3) fun v3 h=>cd 0 h (lQ 5) fun h=>lpq 7 h (fun v4=>aS (kf5 a0 a1) [(5,fI v4)] []) (.exit 0) (fun v17=>⟨81,[],[],[],[]⟩) eB (fun v4 r h=>cd 9 h (fun h=>dy 4 13 (List.range 7)<|ix kar 3 h fun v5 h=>ix kar 4 h fun v6 h=>jn1 9 .normal (fun v8=>aS (kf5 a0 a1) [(5,fI v4),(6,.ref 3 0 0),(7,.ref 4 0 0),(61,fB v8)] [(3,.box 52 [fI v5.ye,fI v5.yg,.fz (eL 2 kai v5.yc)]),(4,.box 52 [fI v6.ye,fI v6.yg,.fz (eL 2 kai v6.yc)])]) h (fun v8 h=>gd 7 h (lJ 16) fun h=>gd 7 h (lJ 9) (lJ 9)) fun v8 h=>cd 0 h (lR 5) fun h=>lpr 6 h (fun v9=>aS (kf5 a0 a1) [(5,fI v4),(6,.ref 3 0 0),(7,.ref 4 0 0),(8,fI v9)] [(3,.box 52 [fI v5.ye,fI v5.yg,.fz (eL 2 kai v5.yc)]),(4,.box 52 [fI v6.ye,fI v6.yg,.fz (eL 2 kai v6.yc)])]) (.exit 2) (fun v14=>aS (kf5 a0 a1) [(5,fI v4)] []) f23.results.toList [.one .keep] eB (fun v9 r h=>cd 9 h (fun h=>dw 4 10<|ix kbi 3 h fun v10 h=>ix kbi 4 h fun v11 h=>cl 2 h (kmb _ _) fun v12 h=>cd 2 h (lR 5) (lJ 6)) (lO 1)) fun _=>lJ 5) (lO 1)) fun _=>lQ 5
end Go.Proofs.YtchjomeomabamaaGreatDoor
