import Derived.Test.YtaimpcnpifoidaaGreatDoorZ6
set_option linter.unusedVariables false
set_option linter.unusedSimpArgs false
set_option maxRecDepth 100000
namespace Go.Proofs.YtaimpcnpifoidaaGreatDoor
open Go Go.RowKit Go.Proofs
set_option maxHeartbeats 2000000
attribute [local irreducible] NStep kdf ko2 LeSt
def kg7 (a0:BA) (a1:Int):Option Int:=(bif (decide (a1<(a0.size:Int))) then ((byt a0 a1).bind fun v1=>(some v1)) else (some 0))
def knz (a0:Int):Option Int:=((bif (decide (48≤a0)) then (some (decide (a0≤57))) else (some (false))).bind fun v2=>(bif v2 then (some (w64 (wu8 (a0 - 48)))) else ((bif (decide (97≤a0)) then (some (decide (a0≤102))) else (some (false))).bind fun v4=>(bif v4 then (some (w64 ((w64 (wu8 (a0 - 97)))+10))) else (some (-1))))))
def kfb (a0:BA) (v7:(Int)×(Int)):Option (((Int)×(Int)) ⊕ ((Int)×(Int))):=((bif (decide (0<v7.2)) then ((kg7 a0 v7.1).bind fun v8=>(bif (decide (48≤v8)) then ((kg7 a0 v7.1).bind fun v9=>(bif (decide (v9≤57)) then ((kg7 a0 v7.1).bind fun v10=>(some (decide ((w64 ((w64 (v7.2*10))+(w64 (wu8 (v10 - 48)))))≤1000000)))) else (some (false)))) else (some (false)))) else (some (false))).bind fun v12=>(bif v12 then ((kg7 a0 v7.1).bind fun v13=>(some (.inl ((w64 (v7.1+1)),(w64 ((w64 (v7.2*10))+(w64 (wu8 (v13 - 48))))))))) else (some (.inr (v7.1,v7.2)))))
def kfw (a0:Int) (a1:Int):Option Int:=(bif (decide (a0<a1)) then (some (-1)) else (bif (decide (a1<a0)) then (some 1) else (some 0)))
theorem kmg (a0:Int) (a1:Int) (r:Int) (h:kfw a0 a1=some r):kae Tryz.prog 37 [eI a0,eI a1] (eI r):=by
 unfold kfw at h
 refine pcl [.one .keep] Tryz.func37 ?_
 refine cd 11 h (fun h=>?_) fun h=>?_
 ·cases h;exact lq 5
 refine cd 8 h (fun h=>?_) fun h=>?_
 ·cases h;exact lq 5
 cases h;exact lq 6
def kcz (a0:List Int) (a1:List Int) (v1:(Int)):Option ((Int) ⊕ ((Unit) ⊕ (Int))):=((bif (decide (v1<(List.length a0:Int))) then (some (decide (v1<(List.length a1:Int)))) else (some (false))).bind fun v3=>(bif v3 then ((idx a0 v1).bind fun v4=>((idx a1 v1).bind fun v5=>(bif (decide (v4<v5)) then (some (.inr (.inr (-1)))) else ((idx a0 v1).bind fun v6=>((idx a1 v1).bind fun v7=>(bif (decide (v7<v6)) then (some (.inr (.inr 1))) else (some (.inl (w64 (v1+1)))))))))) else (some (.inr (.inl ())))))
def kds (a0:List Int) (a1:List Int):Option Int:=((kaa (kcz a0 a1) fuel 0).bind fun (v8:((Unit) ⊕ (Int)))=>Sum.elim (fun v9=>((kfw (List.length a0:Int) (List.length a1:Int)).bind fun v10=>(some v10))) (fun v11=>(some v11)) v8)
theorem kj5 (a0:List Int) (a1:List Int) (r:Int) (h:kds a0 a1=some r):kae Tryz.prog 38 [(eL 1 eI) a0,(eL 1 eI) a1] (eI r):=by
 unfold kds at h
 refine pcl [.one .keep] Tryz.func38 ?_
 refine lpx 10 (fun v1=>⟨41,[(0,(.fz (eL 1 eI a0))),(1,(.fz (eL 1 eI a1))),(5,(fI v1))],[],[],[]⟩) (fun v8 e st=>Sum.elim (fun p=>e = .exit 0∧LeSt st ⟨41,[(0,(.fz (eL 1 eI a0))),(1,(.fz (eL 1 eI a1)))],[],[],[]⟩) (fun p=>e = .ret∧retX TT st Tryz.f38.results.toList [.one .keep]=some (eI (p))) v8) h (by kernel_rfl) (le_a) (fun v1 r h=>?_) fun v8 h e st' hq=>?_
 ·unfold kcz at h
  refine jn1 2 .normal (fun v3=>⟨41,[(0,(.fz (eL 1 eI a0))),(1,(.fz (eL 1 eI a1))),(5,(fI v1)),(15,(fB v3))],[],[],[]⟩) h (fun v3 h=>?_) fun v3 h=>?_
  ·refine gd 6 h (fun h=>?_) fun h=>?_
   ·cases h;exact lj 6
   cases h;exact lj 6
  refine cd 0 h (fun h=>?_) fun h=>?_
  ·refine dw 5 8 ?_
   refine ix nI 2 h fun v4 h=>?_
   refine ix nI 3 h fun v5 h=>?_
   refine cd 4 h (fun h=>?_) fun h=>?_
   ·cases h;exact lor 5
   refine dw 2 8 ?_
   refine ix nI 2 h fun v6 h=>?_
   refine ix nI 3 h fun v7 h=>?_
   refine cd 4 h (fun h=>?_) fun h=>?_
   ·cases h;exact lor 5
   cases h;exact lj 6
  cases h;exact lo 1 (by kernel_rfl)
 rcases v8 with v9 | v11
 ·try simp only [qf,qg] at h
  obtain ⟨rfl,hle⟩:=hq
  refine ⟨_,hle,?_⟩
  refine cl 6 h (kmg _ _) (by kernel_rfl) fun v10 h=>?_
  cases h;exact lq 3
 ·try simp only [qf,qg] at h
  obtain ⟨rfl,hret⟩:=hq
  refine ⟨_,LeSt.refl,?_⟩
  cases h;exact lv hret
def kf0 (a0:Tm) (r39:(Tm)→Option (List Int)) (v1:(Int)×(List Int)):Option (((Int)×(List Int)) ⊕ (List Int)):=(bif (decide (v1.1<(List.length a0.args:Int))) then ((idx a0.args v1.1).bind fun v2=>((r39 v2).bind fun v3=>((app 8 v1.2 v3).bind fun v4=>(some (.inl ((w64 (v1.1+1)),v4)))))) else (some (.inr v1.2)))
def kgf (r39:(Tm)→Option (List Int)) (a0:Tm):Option (List Int):=((kaa (kf0 a0 r39) fuel (0,([a0.rule]:List Int))).bind fun (v6:(List Int))=>(some v6))
theorem kqd (r39:(Tm)→Option (List Int)) (ih39:∀ (x0:Tm) r,r39 x0=some r→kae Tryz.prog 39 [eTm x0] (eL 1 eI r)) (a0:Tm) (r:List Int) (h:kgf r39 a0=some r):kae Tryz.prog 39 [eTm a0] (eL 1 eI r):=by
 unfold kgf at h
 refine pcl [.one (.sl 1)] Tryz.func39 ?_
 refine sst 9 (kut (t:=22) (n:=1) (parts:=#[(0,(.tmp 6))]) (d:=tt22) (e:=3) (de:=tt3) (enc:=eI) (xs:=([a0.rule]:List Int)) (id:=2) kb0 (by kernel_rfl) (by kernel_rfl) (by kernel_rfl) (by kernel_rfl) (by kernel_rfl) rfl) (by kernel_rfl) ?_
 refine lp1 8 (fun v1=>⟨24,[(1,(.ref 1 0 0)),(3,(.row 2 (List.length v1.2))),(4,(fI v1.1))],[(1,(.box 29 [(fI a0.rule),(.fz (eL 2 eTmR a0.args))])),(2,(.frow 3 1 (List.map eI v1.2)))],[2,1],[]⟩) (.exit 0) (fun v6=>⟨24,[(3,(.row 2 (List.length v6)))],[(2,(.frow 3 1 (List.map eI v6)))],[2],[]⟩) h (fun v1 r h=>?_) fun v6 h=>?_
 ·unfold kf0 at h
  refine cd 9 h (fun h=>?_) fun h=>?_
  ·refine ix nTmR 8 h fun v2 h=>?_
   refine cl 1 h (ih39 _) (by kernel_rfl) fun v3 h=>?_
   refine ap nI 0 h fun v4 h=>?_
   cases h;exact lj 7
  cases h;exact lo 1 (by kernel_rfl)
 refine wle 5 (kpc (t:=2) (id:=2) (n:=List.length v6) (e:=3) (size:=1) (xs:=List.map eI v6) (by kernel_rfl) (by kernel_rfl) (by simp)) ?_
 cases h;exact lq 1
def kci:Nat→(Tm)→Option (List Int)
  | 0=>fun _=>none
  | n+1=>kgf (kci n)
theorem kjm:∀ (n:Nat) (x0:Tm) r,kci n x0=some r→kae Tryz.prog 39 [eTm x0] (eL 1 eI r)
  | 0,_,_,h=>by cases h
  | n+1,x0,r,h=>kqd (kci n) (kjm n) x0 r h
def kfe (a0:Tm) (r40:(Tm)→Option (List Int)) (v1:(Int)×(List Int)):Option (((Int)×(List Int)) ⊕ (List Int)):=(bif (decide (v1.1<(List.length a0.args:Int))) then ((idx a0.args v1.1).bind fun v2=>((r40 v2).bind fun v3=>((app 8 v1.2 v3).bind fun v4=>(some (.inl ((w64 (v1.1+1)),v4)))))) else (some (.inr v1.2)))
def kfq (r40:(Tm)→Option (List Int)) (a0:Tm):Option (List Int):=((kaa (kfe a0 r40) fuel (0,([(List.length a0.args:Int)]:List Int))).bind fun (v6:(List Int))=>(some v6))
theorem kpp (r40:(Tm)→Option (List Int)) (ih40:∀ (x0:Tm) r,r40 x0=some r→kae Tryz.prog 40 [eTm x0] (eL 1 eI r)) (a0:Tm) (r:List Int) (h:kfq r40 a0=some r):kae Tryz.prog 40 [eTm a0] (eL 1 eI r):=by
 unfold kfq at h
 refine pcl [.one (.sl 1)] Tryz.func40 ?_
 refine sst 10 (kut (t:=22) (n:=1) (parts:=#[(0,(.tmp 7))]) (d:=tt22) (e:=3) (de:=tt3) (enc:=eI) (xs:=([(List.length a0.args:Int)]:List Int)) (id:=2) kb0 (by kernel_rfl) (by kernel_rfl) (by kernel_rfl) (by kernel_rfl) (by kernel_rfl) rfl) (by kernel_rfl) ?_
 refine lp1 8 (fun v1=>⟨25,[(1,(.ref 1 0 0)),(3,(.row 2 (List.length v1.2))),(4,(fI v1.1))],[(1,(.box 29 [(fI a0.rule),(.fz (eL 2 eTmR a0.args))])),(2,(.frow 3 1 (List.map eI v1.2)))],[2,1],[]⟩) (.exit 0) (fun v6=>⟨25,[(3,(.row 2 (List.length v6)))],[(2,(.frow 3 1 (List.map eI v6)))],[2],[]⟩) h (fun v1 r h=>?_) fun v6 h=>?_
 ·unfold kfe at h
  refine cd 9 h (fun h=>?_) fun h=>?_
  ·refine ix nTmR 8 h fun v2 h=>?_
   refine cl 1 h (ih40 _) (by kernel_rfl) fun v3 h=>?_
   refine ap nI 0 h fun v4 h=>?_
   cases h;exact lj 7
  cases h;exact lo 1 (by kernel_rfl)
 refine wle 5 (kpc (t:=2) (id:=2) (n:=List.length v6) (e:=3) (size:=1) (xs:=List.map eI v6) (by kernel_rfl) (by kernel_rfl) (by simp)) ?_
 cases h;exact lq 1
def kb4:Nat→(Tm)→Option (List Int)
  | 0=>fun _=>none
  | n+1=>kfq (kb4 n)
theorem kit:∀ (n:Nat) (x0:Tm) r,kb4 n x0=some r→kae Tryz.prog 40 [eTm x0] (eL 1 eI r)
  | 0,_,_,h=>by cases h
  | n+1,x0,r,h=>kpp (kb4 n) (kit n) x0 r h
def ke6 (a0:Tm) (a1:Tm):Option Int:=((ka1 (fuel+Tm.size a0) a0).bind fun v1=>((ka1 (fuel+Tm.size a1) a1).bind fun v2=>((kfw v1 v2).bind fun v3=>(bif (v3 != 0) then (some v3) else ((kci fuel a0).bind fun v4=>((kci fuel a1).bind fun v5=>((kds v4 v5).bind fun v6=>(bif (v6 != 0) then (some v6) else ((kb4 fuel a0).bind fun v7=>((kb4 fuel a1).bind fun v8=>((kds v7 v8).bind fun v9=>(some v9))))))))))))
theorem kqj (a0:Tm) (a1:Tm) (r:Int) (h:ke6 a0 a1=some r):kae Tryz.prog 16 [eTm a0,eTm a1] (eI r):=by
 unfold ke6 at h
 refine pcl [.one .keep] Tryz.func16 ?_
 refine dw 8 3 ?_
 refine cl 1 h (ke5 _ _) (by kernel_rfl) fun v1 h=>?_
 refine cl 2 h (ke5 _ _) (by kernel_rfl) fun v2 h=>?_
 refine cl 0 h (kmg _ _) (by kernel_rfl) fun v3 h=>?_
 refine cd 7 h (fun h=>?_) fun h=>?_
 ·cases h;exact lq 6
 refine dw 3 3 ?_
 refine cl 1 h (kjm _ _) (by kernel_rfl) fun v4 h=>?_
 refine cl 2 h (kjm _ _) (by kernel_rfl) fun v5 h=>?_
 refine cl 0 h (kj5 _ _) (by kernel_rfl) fun v6 h=>?_
 refine cd 7 h (fun h=>?_) fun h=>?_
 ·cases h;exact lq 6
 refine dw 2 3 ?_
 refine cl 1 h (kit _ _) (by kernel_rfl) fun v7 h=>?_
 refine cl 2 h (kit _ _) (by kernel_rfl) fun v8 h=>?_
 refine cl 0 h (kj5 _ _) (by kernel_rfl) fun v9 h=>?_
 cases h;exact lq 3
def kg5 (a0:La):Option Bool:=(((kh3 a0).bind fun v1=>(bif v1 then ((kb5 a0).bind fun v2=>(some (v2 == 0))) else (some (false)))).bind fun v4=>(some v4))
theorem krj (a0:La) (r:Bool) (h:kg5 a0=some r):kae Tryz.prog 17 [eLa a0] (eB r):=by
 unfold kg5 at h
 refine pcl [.one .keep] Tryz.func17 ?_
 refine jn1 6 .normal (fun v4=>⟨10,[(2,(fB v4))],[],[],[]⟩) h (fun v4 h=>?_) fun v4 h=>?_
 ·refine cl 2 h (ksx _) (by kernel_rfl) fun v1 h=>?_
  refine gd 1 h (fun h=>?_) fun h=>?_
  ·refine cl 1 h (kri _) (by kernel_rfl) fun v2 h=>?_
   cases h;exact lj 4
  cases h;exact lj 6
 cases h;exact lq 1
def ki9 (p0:Env) (q0:Nat→Prop) (w0:World) (a0:La) (a1:Tm):List (Nat×AObj):=[(0,(.was p0 [1] q0 w0)),(1,(.glb GV)),(2,(.box 26 [(fS a0.name),(.fz (eL 1 eI a0.inputs)),(.fz (eL 2 eSy a0.symbols)),(.fz (eL 9 eRu a0.rules))])),(3,(.box 29 [(fI a1.rule),(.fz (eL 2 eTmR a1.args))]))]
def kfn (a0:La) (a1:Tm):Option Bool:=(((kg5 a0).bind fun v1=>(bif (!v1) then (some (true)) else ((ka1 (fuel+Tm.size a1) a1).bind fun v2=>(some (decide (30<v2)))))).bind fun v4=>(bif v4 then ((kej ).bind fun v5=>(some v5)) else ((kdd a0 a1).bind fun v6=>((bif (v6.2 != 0) then (some (true)) else (bif (decide (a1.rule<0)) then (some (true)) else (bif (decide ((List.length a0.rules:Int)≤a1.rule)) then (some (true)) else (some (decide (500<(v6.1.size:Int))))))).bind fun v8=>(bif v8 then ((kej ).bind fun v9=>(some v9)) else ((idx a0.rules a1.rule).bind fun v10=>((kfv a0 v10.symbol v6.1).bind fun v11=>((bif (v11.2.2 != 0) then (some (true)) else (bif (v11.2.1 != 0) then (some (true)) else ((ke6 v11.1 a1).bind fun v12=>(bif (decide (0<v12)) then (some (true)) else ((ka1 (fuel+Tm.size v11.1) v11.1).bind fun v13=>((ka1 (fuel+Tm.size a1) a1).bind fun v14=>(some (v13 != v14)))))))).bind fun v16=>(bif v16 then (some (false)) else ((kdd a0 v11.1).bind fun v17=>((bif (v17.2 == 0) then (bif (v17.1.toList == v6.1.toList) then ((kej ).bind fun v18=>(some v18)) else (some (false))) else (some (false))).bind fun v20=>(some v20))))))))))))
theorem km5 (a0:La) (a1:Tm) (r:(Bool)) (h:kfn a0 a1=some r):kat Tryz.prog 5 ([(.fz (eLa a0)),(.fz (eTm a1))]++[]) [(1,(.glb GV))] [1] (.ret (fB r)) [(1,(.glb GV))] [1]:=by
 unfold kfn at h
 refine hcx (gi:=0) Tryz.func5 ?_
 intro p0 q0 w0
 refine jn1 8 .normal (fun v4=>⟨97,[(2,(.ref 2 0 0)),(3,(.ref 3 0 0)),(19,(fB v4))],(ki9 p0 q0 w0 a0 a1),[3,2,0,1],[]⟩) h (fun v4 h=>?_) fun v4 h=>?_
 ·refine cl 2 h (krj _) (by kernel_rfl) fun v1 h=>?_
  refine gd 2 h (fun h=>?_) fun h=>?_
  ·cases h;exact lj 5
  refine cl 1 h (ke5 _ _) (by kernel_rfl) fun v2 h=>?_
  cases h;exact lj 3
 refine cd 0 h (fun h=>?_) fun h=>?_
 ·refine hcl 2 [] [(1,1)] [(1,1)] [1] h (kil) (fun _=>by kernel_rfl) fun v5 h=>?_
  cases h;exact lhy 3
 refine hcl 5 [.one .keep, .one .keep] [(1,1)] [(1,1)] [1] h (klg _ _) (fun _=>by kernel_rfl) fun v6 h=>?_
 refine jn1 8 .normal (fun v8=>⟨97,[(2,(.ref 2 0 0)),(3,(.ref 3 0 0)),(5,(fS v6.1)),(46,(fB v8))],(ki9 p0 q0 w0 a0 a1),[3,2,0,1],[]⟩) h (fun v8 h=>?_) fun v8 h=>?_
 ·refine gd 4 h (fun h=>?_) fun h=>?_
  ·cases h;exact lj 18
  refine gd 5 h (fun h=>?_) fun h=>?_
  ·cases h;exact lj 13
  refine gd 8 h (fun h=>?_) fun h=>?_
  ·cases h;exact lj 5
  cases h;exact lj 5
 refine cd 0 h (fun h=>?_) fun h=>?_
 ·refine hcl 2 [] [(1,1)] [(1,1)] [1] h (kil) (fun _=>by kernel_rfl) fun v9 h=>?_
  cases h;exact lhy 3
 refine dz 2 17 [14,15] [4] (List.range 5) (by kernel_rfl) ?_
 refine ix nRu 5 h fun v10 h=>?_
 refine cl 3 h (kio _ _ _) (by kernel_rfl) fun v11 h=>?_
 refine jn1 12 .normal (fun v16=>⟨97,[(2,(.ref 2 0 0)),(5,(fS v6.1)),(7,(.ref 4 0 0)),(80,(fB v16))],[(0,(.was p0 [1] q0 w0)),(1,(.glb GV)),(2,(.box 26 [(fS a0.name),(.fz (eL 1 eI a0.inputs)),(.fz (eL 2 eSy a0.symbols)),(.fz (eL 9 eRu a0.rules))])),(4,(.box 29 [(fI v11.1.rule),(.fz (eL 2 eTmR v11.1.args))]))],[4,2,0,1],[]⟩) h (fun v16 h=>?_) fun v16 h=>?_
 ·refine dw 0 16 ?_
  refine gd 3 h (fun h=>?_) fun h=>?_
  ·cases h;exact lj 18
  refine gd 4 h (fun h=>?_) fun h=>?_
  ·cases h;exact lj 14
  refine cl 2 h (kqj _ _) (by kernel_rfl) fun v12 h=>?_
  refine gd 3 h (fun h=>?_) fun h=>?_
  ·cases h;exact lj 8
  refine cl 1 h (ke5 _ _) (by kernel_rfl) fun v13 h=>?_
  refine cl 2 h (ke5 _ _) (by kernel_rfl) fun v14 h=>?_
  cases h;exact lj 3
 refine cd 0 h (fun h=>?_) fun h=>?_
 ·cases h;exact lhy 5
 refine hcl 5 [.one .keep, .one .keep] [(1,1)] [(1,1)] [1] h (klg _ _) (fun _=>by kernel_rfl) fun v17 h=>?_
 refine jn1 7 .normal (fun v20=>⟨97,[(4,(fB v20))],[(0,(.was p0 [1] q0 w0)),(1,(.glb GV))],[0,1],[]⟩) h (fun v20 h=>?_) fun v20 h=>?_
 ·refine gd 4 h (fun h=>?_) fun h=>?_
  ·refine gd 5 h (fun h=>?_) fun h=>?_
   ·refine hcl 0 [] [(1,1)] [(1,1)] [1] h (kil) (fun _=>by kernel_rfl) fun v18 h=>?_
    cases h;exact lj 3
   cases h;exact lj 4
  cases h;exact lj 9
 cases h;exact lhy 1
end Go.Proofs.YtaimpcnpifoidaaGreatDoor
