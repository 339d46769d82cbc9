import Derived.Test.YtaimpcnpifoidaaGreatDoorTT
set_option linter.unusedVariables false
set_option linter.unusedSimpArgs false
set_option maxRecDepth 100000
namespace Go.Proofs.YtaimpcnpifoidaaGreatDoor
open Go Go.RowKit Go.Proofs
set_option maxHeartbeats 2000000
attribute [local irreducible] NStep kdf ko2 LeSt
def kh3 (a0:La):Option Bool:=((bif (decide ((List.length a0.rules:Int)≤20)) then (some (decide ((List.length a0.symbols:Int)≤8))) else (some (false))).bind fun v2=>(some v2))
theorem ksx (a0:La) (r:Bool) (h:kh3 a0=some r):kae Tryz.prog 9 [eLa a0] (eB r):=by
 unfold kh3 at h
 refine pcl [.one .keep] Tryz.func9 ?_
 refine jn1 6 .normal (fun v2=>⟨13,[(2,(fB v2))],[],[],[]⟩) h (fun v2 h=>?_) fun v2 h=>?_
 ·refine gd 6 h (fun h=>?_) fun h=>?_
  ·cases h;exact lj 7
  cases h;exact lj 7
 cases h;exact lq 1
def kc7 (a0:Tm) (r10:(Tm)→Option Int) (v1:(Int)×(Int)):Option (((Int)×(Int)) ⊕ (Int)):=(bif (decide (v1.2<(List.length a0.args:Int))) then ((idx a0.args v1.2).bind fun v2=>((r10 v2).bind fun v3=>(some (.inl ((w64 (v1.1+v3)),(w64 (v1.2+1))))))) else (some (.inr v1.1)))
def kec (r10:(Tm)→Option Int) (a0:Tm):Option Int:=((kaa (kc7 a0 r10) fuel (1,0)).bind fun (v5:(Int))=>(some v5))
theorem kqx (r10:(Tm)→Option Int) (ih10:∀ (x0:Tm) r,r10 x0=some r→kae Tryz.prog 10 [eTm x0] (eI r)) (a0:Tm) (r:Int) (h:kec r10 a0=some r):kae Tryz.prog 10 [eTm a0] (eI r):=by
 unfold kec at h
 refine pcl [.one .keep] Tryz.func10 ?_
 refine lp1 15 (fun v1=>⟨21,[(1,(.ref 1 0 0)),(3,(fI v1.1)),(4,(fI v1.2))],[(1,(.box 29 [(fI a0.rule),(.fz (eL 2 eTmR a0.args))]))],[1],[]⟩) (.exit 0) (fun v5=>⟨21,[(3,(fI v5))],[],[],[]⟩) h (fun v1 r h=>?_) fun v5 h=>?_
 ·unfold kc7 at h
  refine cd 9 h (fun h=>?_) fun h=>?_
  ·refine ix nTmR 8 h fun v2 h=>?_
   refine cl 1 h (ih10 _) (by kernel_rfl) fun v3 h=>?_
   cases h;exact lj 8
  cases h;exact lo 1 (by kernel_rfl)
 cases h;exact lq 6
def ka1:Nat→(Tm)→Option (Int)
  | 0=>fun _=>none
  | n+1=>kec (ka1 n)
theorem ke5:∀ (n:Nat) (x0:Tm) r,ka1 n x0=some r→kae Tryz.prog 10 [eTm x0] (eI r)
  | 0,_,_,h=>by cases h
  | n+1,x0,r,h=>kqx (ka1 n) (ke5 n) x0 r h
def kgn (a0:BA) (v3:(Int)):Option ((Int) ⊕ ((Unit) ⊕ (Bool))):=(bif (decide (v3<(a0.size:Int))) then ((byt a0 v3).bind fun v4=>((bif (decide (97≤(ior .u8 v4 32))) then (some (decide ((ior .u8 v4 32)≤122))) else (some (false))).bind fun v6=>((bif (!v6) then (bif (v3 == 0) then (some (true)) else (bif (v4 != 45) then (bif (decide (v4<48)) then (some (true)) else (some (decide (57<v4)))) else (some (false)))) else (some (false))).bind fun v8=>(bif v8 then (some (.inr (.inr false))) else (some (.inl (w64 (v3+1)))))))) else (some (.inr (.inl ()))))
def kjr (a0:BA):Option Bool:=((bif (decide ((a0.size:Int)<1)) then (some (true)) else (some (decide (24<(a0.size:Int))))).bind fun v2=>(bif v2 then (some false) else ((kaa (kgn a0) fuel 0).bind fun (v9:((Unit) ⊕ (Bool)))=>Sum.elim (fun v10=>(some true)) (fun v11=>(some v11)) v9)))
theorem kq4 (a0:BA) (r:Bool) (h:kjr a0=some r):kae Tryz.prog 56 [eS a0] (eB r):=by
 unfold kjr at h
 refine pcl [.one .keep] Tryz.func56 ?_
 refine jn1 6 .normal (fun v2=>⟨49,[(0,(fS a0)),(13,(fB v2))],[],[],[]⟩) h (fun v2 h=>?_) fun v2 h=>?_
 ·refine gd 5 h (fun h=>?_) fun h=>?_
  ·cases h;exact lj 5
  cases h;exact lj 5
 refine cd 0 h (fun h=>?_) fun h=>?_
 ·cases h;exact lq 5
 refine lpx 9 (fun v3=>⟨49,[(0,(fS a0)),(15,(fI (a0.size:Int))),(16,(fI v3))],[],[],[]⟩) (fun v9 e st=>Sum.elim (fun p=>e = .exit 0∧LeSt st ⟨49,[],[],[],[]⟩) (fun p=>e = .ret∧retX TT st Tryz.f56.results.toList [.one .keep]=some (eB (p))) v9) h (by kernel_rfl) (le_a) (fun v3 r h=>?_) fun v9 h e st' hq=>?_
 ·unfold kgn at h
  refine cd 5 h (fun h=>?_) fun h=>?_
  ·refine byx 12 h fun v4 h=>?_
   refine jn1 3 .normal (fun v6=>⟨49,[(0,(fS a0)),(3,(fI v3)),(4,(.fz (eU8 v4))),(5,(fB v6)),(15,(fI (a0.size:Int))),(16,(fI v3))],[],[],[]⟩) h (fun v6 h=>?_) fun v6 h=>?_
   ·refine gd 5 h (fun h=>?_) fun h=>?_
    ·cases h;exact lj 6
    cases h;exact lj 6
   refine jn1 1 .normal (fun v8=>⟨49,[(0,(fS a0)),(15,(fI (a0.size:Int))),(16,(fI v3)),(47,(fB v8))],[],[],[]⟩) h (fun v8 h=>?_) fun v8 h=>?_
   ·refine gd 4 h (fun h=>?_) fun h=>?_
    ·refine gd 3 h (fun h=>?_) fun h=>?_
     ·cases h;exact lj 13
     refine gd 3 h (fun h=>?_) fun h=>?_
     ·refine gd 3 h (fun h=>?_) fun h=>?_
      ·cases h;exact lj 7
      cases h;exact lj 7
     cases h;exact lj 10
    cases h;exact lj 16
   refine cd 0 h (fun h=>?_) fun h=>?_
   ·cases h;exact lor 5
   cases h;exact lj 5
  cases h;exact lo 1 (by kernel_rfl)
 rcases v9 with v10 | v11
 ·try simp only [qf,qg] at h
  obtain ⟨rfl,hle⟩:=hq
  refine ⟨_,hle,?_⟩
  cases h;exact lq 5
 ·try simp only [qf,qg] at h
  obtain ⟨rfl,hret⟩:=hq
  refine ⟨_,LeSt.refl,?_⟩
  cases h;exact lv hret
def kjq (a0:Int):Option Bool:=((bif (decide (1≤a0)) then (some (decide (a0≤8))) else (some (false))).bind fun v2=>(some v2))
theorem kra (a0:Int) (r:Bool) (h:kjq a0=some r):kae Tryz.prog 57 [eI a0] (eB r):=by
 unfold kjq at h
 refine pcl [.one .keep] Tryz.func57 ?_
 refine jn1 5 .normal (fun v2=>⟨9,[(2,(fB v2))],[],[],[]⟩) h (fun v2 h=>?_) fun v2 h=>?_
 ·refine gd 4 h (fun h=>?_) fun h=>?_
  ·cases h;exact lj 5
  cases h;exact lj 5
 cases h;exact lq 1
def kcw (a0:List Int) (a1:List Int) (v1:(Int)):Option ((Int) ⊕ ((Unit) ⊕ (Bool))):=(bif (decide (v1<(List.length a0:Int))) then ((idx a0 v1).bind fun v2=>((idx a1 v1).bind fun v3=>(bif (v2 != v3) then (some (.inr (.inr false))) else (some (.inl (w64 (v1+1))))))) else (some (.inr (.inl ()))))
def kc1 (a0:List Int) (a1:List Int):Option Bool:=(bif ((List.length a0:Int) != (List.length a1:Int)) then (some false) else ((kaa (kcw a0 a1) fuel 0).bind fun (v4:((Unit) ⊕ (Bool)))=>Sum.elim (fun v5=>(some true)) (fun v6=>(some v6)) v4))
theorem krg (a0:List Int) (a1:List Int) (r:Bool) (h:kc1 a0 a1=some r):kae Tryz.prog 103 [(eL 1 eI) a0,(eL 1 eI) a1] (eB r):=by
 unfold kc1 at h
 refine pcl [.one .keep] Tryz.func103 ?_
 refine cd 13 h (fun h=>?_) fun h=>?_
 ·cases h;exact lq 5
 refine lpx 9 (fun v1=>⟨26,[(0,(.fz (eL 1 eI a0))),(1,(.fz (eL 1 eI a1))),(12,(fI (List.length a0:Int))),(13,(fI v1))],[],[],[]⟩) (fun v4 e st=>Sum.elim (fun p=>e = .exit 0∧LeSt st ⟨26,[],[],[],[]⟩) (fun p=>e = .ret∧retX TT st Tryz.f103.results.toList [.one .keep]=some (eB (p))) v4) h (by kernel_rfl) (le_a) (fun v1 r h=>?_) fun v4 h e st' hq=>?_
 ·unfold kcw at h
  refine cd 5 h (fun h=>?_) fun h=>?_
  ·refine dw 9 8 ?_
   refine ix nI 2 h fun v2 h=>?_
   refine ix nI 3 h fun v3 h=>?_
   refine cd 4 h (fun h=>?_) fun h=>?_
   ·cases h;exact lor 5
   cases h;exact lj 5
  cases h;exact lo 1 (by kernel_rfl)
 rcases v4 with v5 | v6
 ·try simp only [qf,qg] at h
  obtain ⟨rfl,hle⟩:=hq
  refine ⟨_,hle,?_⟩
  cases h;exact lq 5
 ·try simp only [qf,qg] at h
  obtain ⟨rfl,hret⟩:=hq
  refine ⟨_,LeSt.refl,?_⟩
  cases h;exact lv hret
def kqp (a0:Va) (a1:Va):List (Nat×AObj):=[(1,(.box 43 [(fI a0.type),(fI a0.num),(fS a0.text),(.fz (eL 4 eVaR a0.items))])),(2,(.box 43 [(fI a1.type),(fI a1.num),(fS a1.text),(.fz (eL 4 eVaR a1.items))]))]
def kce (a0:Va) (a1:Va) (r143:(Va)→(Va)→Option Int) (v1:(Int)):Option ((Int) ⊕ ((Unit) ⊕ (Int))):=(bif (decide (v1<(List.length a0.items:Int))) then ((idx a0.items v1).bind fun v2=>(bif (v1 == (List.length a1.items:Int)) then (some (.inr (.inr 1))) else ((idx a1.items v1).bind fun v3=>((r143 v2 v3).bind fun v4=>(bif (v4 != 0) then (some (.inr (.inr v4))) else (some (.inl (w64 (v1+1))))))))) else (some (.inr (.inl ()))))
def kg4 (r143:(Va)→(Va)→Option Int) (a0:Va) (a1:Va):Option Int:=(bif (decide (a0.type<a1.type)) then (some (-1)) else (bif (decide (a1.type<a0.type)) then (some 1) else (bif (decide (a0.num<a1.num)) then (some (-1)) else (bif (decide (a1.num<a0.num)) then (some 1) else (bif (Op.bytesLess a0.text.toList a1.text.toList) then (some (-1)) else (bif (!((Op.bytesLess a0.text.toList a1.text.toList) || (a0.text.toList == a1.text.toList))) then (some 1) else ((kaa (kce a0 a1 r143) fuel 0).bind fun (v5:((Unit) ⊕ (Int)))=>Sum.elim (fun v6=>(bif (decide ((List.length a0.items:Int)<(List.length a1.items:Int))) then (some (-1)) else (some 0))) (fun v7=>(some v7)) v5)))))))
theorem kvh (r143:(Va)→(Va)→Option Int) (ih143:∀ (x0:Va) (x1:Va) r,r143 x0 x1=some r→kae Tryz.prog 143 [eVa x0,eVa x1] (eI r)) (a0:Va) (a1:Va) (r:Int) (h:kg4 r143 a0 a1=some r):kae Tryz.prog 143 [eVa a0,eVa a1] (eI r):=by
 unfold kg4 at h
 refine pcl [.one .keep] Tryz.func143 ?_
 refine cd 17 h (fun h=>?_) fun h=>?_
 ·cases h;exact lq 5
 refine cd 9 h (fun h=>?_) fun h=>?_
 ·cases h;exact lq 5
 refine cd 9 h (fun h=>?_) fun h=>?_
 ·cases h;exact lq 5
 refine cd 9 h (fun h=>?_) fun h=>?_
 ·cases h;exact lq 5
 refine cd 9 h (fun h=>?_) fun h=>?_
 ·cases h;exact lq 5
 refine cd 9 h (fun h=>?_) fun h=>?_
 ·cases h;exact lq 5
 refine lpx 10 (fun v1=>⟨75,[(2,(.ref 1 0 0)),(3,(.ref 2 0 0)),(45,(.fz (eL 4 eVaR a0.items))),(46,(fI (List.length a0.items:Int))),(47,(fI v1))],(kqp a0 a1),[2,1],[]⟩) (fun v5 e st=>Sum.elim (fun p=>e = .exit 1∧LeSt st ⟨75,[(2,(.ref 1 0 0)),(3,(.ref 2 0 0))],(kqp a0 a1),[2,1],[]⟩) (fun p=>e = .ret∧retX TT st Tryz.f143.results.toList [.one .keep]=some (eI (p))) v5) h (by kernel_rfl) (le_a) (fun v1 r h=>?_) fun v5 h e st' hq=>?_
 ·unfold kce at h
  refine cd 5 h (fun h=>?_) fun h=>?_
  ·refine ix nVaR 6 h fun v2 h=>?_
   refine cd 14 h (fun h=>?_) fun h=>?_
   ·cases h;exact lor 5
   refine dw 2 6 ?_
   refine ix nVaR 4 h fun v3 h=>?_
   refine cl 2 h (ih143 _ _) (by kernel_rfl) fun v4 h=>?_
   refine cd 7 h (fun h=>?_) fun h=>?_
   ·cases h;exact lor 6
   cases h;exact lj 5
  cases h;exact lo 1 (by kernel_rfl)
 rcases v5 with v6 | v7
 ·try simp only [qf,qg] at h
  obtain ⟨rfl,hle⟩:=hq
  refine ⟨_,hle,?_⟩
  refine cd 11 h (fun h=>?_) fun h=>?_
  ·cases h;exact lq 5
  cases h;exact lq 6
 ·try simp only [qf,qg] at h
  obtain ⟨rfl,hret⟩:=hq
  refine ⟨_,LeSt.refl,?_⟩
  cases h;exact lv hret
def kc9:Nat→(Va)→(Va)→Option (Int)
  | 0=>fun _ _=>none
  | n+1=>kg4 (kc9 n)
theorem kqu:∀ (n:Nat) (x0:Va) (x1:Va) r,kc9 n x0 x1=some r→kae Tryz.prog 143 [eVa x0,eVa x1] (eI r)
  | 0,_,_,_,h=>by cases h
  | n+1,x0,x1,r,h=>kvh (kc9 n) (kqu n) x0 x1 r h
def kf6 (a0:Va) (a1:Va):Option Bool:=((kc9 fuel a0 a1).bind fun v1=>(some (v1 == 0)))
theorem ks4 (a0:Va) (a1:Va) (r:Bool) (h:kf6 a0 a1=some r):kae Tryz.prog 104 [eVa a0,eVa a1] (eB r):=by
 unfold kf6 at h
 refine pcl [.one .keep] Tryz.func104 ?_
 refine cl 10 h (kqu _ _ _) (by kernel_rfl) fun v1 h=>?_
 cases h;exact lq 4
def ker (a0:Ru) (a1:Ru):Option Bool:=((bif (a0.symbol == a1.symbol) then (bif (a0.kind == a1.kind) then (bif (a0.input == a1.input) then (bif (a0.op.toList == a1.op.toList) then ((kc1 a0.args a1.args).bind fun v1=>(bif v1 then ((kf6 a0.const a1.const).bind fun v2=>(some v2)) else (some (false)))) else (some (false))) else (some (false))) else (some (false))) else (some (false))).bind fun v4=>(some v4))
theorem kof (a0:Ru) (a1:Ru) (r:Bool) (h:ker a0 a1=some r):kae Tryz.prog 61 [eRu a0,eRu a1] (eB r):=by
 unfold ker at h
 refine pcl [.one .keep] Tryz.func61 ?_
 refine jn1 7 .normal (fun v4=>⟨45,[(4,(fB v4))],[],[],[]⟩) h (fun v4 h=>?_) fun v4 h=>?_
 ·refine gd 7 h (fun h=>?_) fun h=>?_
  ·refine gd 7 h (fun h=>?_) fun h=>?_
   ·refine gd 7 h (fun h=>?_) fun h=>?_
    ·refine gd 7 h (fun h=>?_) fun h=>?_
     ·refine cl 4 h (krg _ _) (by kernel_rfl) fun v1 h=>?_
      refine gd 2 h (fun h=>?_) fun h=>?_
      ·refine cl 4 h (ks4 _ _) (by kernel_rfl) fun v2 h=>?_
       cases h;exact lj 3
      cases h;exact lj 8
     cases h;exact lj 15
    cases h;exact lj 22
   cases h;exact lj 29
  cases h;exact lj 36
 cases h;exact lq 1
def ki4 (a0:La) (a1:Int):Option Bool:=((bif (decide (0≤a1)) then (some (decide (a1<(List.length a0.symbols:Int)))) else (some (false))).bind fun v2=>(some v2))
theorem kp6 (a0:La) (a1:Int) (r:Bool) (h:ki4 a0 a1=some r):kae Tryz.prog 98 [eLa a0,eI a1] (eB r):=by
 unfold ki4 at h
 refine pcl [.one .keep] Tryz.func98 ?_
 refine jn1 6 .normal (fun v2=>⟨14,[(4,(fB v2))],[],[],[]⟩) h (fun v2 h=>?_) fun v2 h=>?_
 ·refine gd 4 h (fun h=>?_) fun h=>?_
  ·cases h;exact lj 8
  cases h;exact lj 8
 cases h;exact lq 1
def kg2 (a0:Int) (a1:Int):Option Int:=(bif (a0 != a1) then (some 3) else (some 0))
theorem kn5 (a0:Int) (a1:Int) (r:Int) (h:kg2 a0 a1=some r):kae Tryz.prog 99 [eI a0,eI a1] (eI r):=by
 unfold kg2 at h
 refine pcl [.one .keep] Tryz.func99 ?_
 refine cd 11 h (fun h=>?_) fun h=>?_
 ·cases h;exact lq 5
 cases h;exact lq 6
def krs (a0:Va):List (Nat×AObj):=[(1,(.box 43 [(fI a0.type),(fI a0.num),(fS a0.text),(.fz (eL 4 eVaR a0.items))]))]
def kd8 (a0:Va):Option Bool:=((bif (a0.type == 1) then (some (a0.type == 1)) else (bif (a0.type == 2) then (some (a0.type == 2)) else (some (a0.type == 4)))).bind fun v2=>(bif v2 then ((bif (a0.text.toList == (⟨#[]⟩:BA).toList) then (some ((List.length a0.items:Int) == 0)) else (some (false))).bind fun v4=>(some v4)) else ((bif (a0.type == 3) then (some (a0.type == 3)) else (some (a0.type == 8))).bind fun v6=>(bif v6 then ((bif (a0.num == 0) then (some ((List.length a0.items:Int) == 0)) else (some (false))).bind fun v8=>(some v8)) else ((bif (a0.num == 0) then (some (a0.text.toList == (⟨#[]⟩:BA).toList)) else (some (false))).bind fun v10=>(some v10))))))
theorem kz4 (a0:Va) (r:Bool) (h:kd8 a0=some r):kae Tryz.prog 137 [eVa a0] (eB r):=by
 unfold kd8 at h
 refine pcl [.one .keep] Tryz.func137 ?_
 refine jn1 13 .normal (fun v2=>⟨38,[(1,(.ref 1 0 0)),(4,(fI a0.type)),(5,(fB v2))],(krs a0),[1],[]⟩) h (fun v2 h=>?_) fun v2 h=>?_
 ·refine cd 5 h (fun h=>?_) fun h=>?_
  ·cases h;exact lj 1
  refine cd 5 h (fun h=>?_) fun h=>?_
  ·cases h;exact lj 1
  cases h;exact lj 4
 refine cd 0 h (fun h=>?_) fun h=>?_
 ·refine jn1 1 .normal (fun v4=>⟨38,[(2,(fB v4))],[],[],[]⟩) h (fun v4 h=>?_) fun v4 h=>?_
  ·refine gd 5 h (fun h=>?_) fun h=>?_
   ·cases h;exact lj 7
   cases h;exact lj 7
  cases h;exact lq 1
 refine jn1 1 .normal (fun v6=>⟨38,[(1,(.ref 1 0 0)),(18,(fB v6))],(krs a0),[1],[]⟩) h (fun v6 h=>?_) fun v6 h=>?_
 ·refine cd 5 h (fun h=>?_) fun h=>?_
  ·cases h;exact lj 1
  cases h;exact lj 4
 refine cd 0 h (fun h=>?_) fun h=>?_
 ·refine jn1 1 .normal (fun v8=>⟨38,[(2,(fB v8))],[],[],[]⟩) h (fun v8 h=>?_) fun v8 h=>?_
  ·refine gd 5 h (fun h=>?_) fun h=>?_
   ·cases h;exact lj 7
   cases h;exact lj 7
  cases h;exact lq 1
 refine jn1 2 .normal (fun v10=>⟨38,[(2,(fB v10))],[],[],[]⟩) h (fun v10 h=>?_) fun v10 h=>?_
 ·refine gd 5 h (fun h=>?_) fun h=>?_
  ·cases h;exact lj 6
  cases h;exact lj 6
 cases h;exact lq 1
def kgx (a0:Int) (a1:Int) (a2:Int):Option Int:=((bif (decide (a0<a1)) then (some (true)) else (some (decide (a2<a0)))).bind fun v2=>(bif v2 then (some 1) else (some 0)))
theorem kni (a0:Int) (a1:Int) (a2:Int) (r:Int) (h:kgx a0 a1 a2=some r):kae Tryz.prog 138 [eI a0,eI a1,eI a2] (eI r):=by
 unfold kgx at h
 refine pcl [.one .keep] Tryz.func138 ?_
 refine jn1 6 .normal (fun v2=>⟨15,[(14,(fB v2))],[],[],[]⟩) h (fun v2 h=>?_) fun v2 h=>?_
 ·refine gd 5 h (fun h=>?_) fun h=>?_
  ·cases h;exact lj 5
  cases h;exact lj 5
 refine cd 0 h (fun h=>?_) fun h=>?_
 ·cases h;exact lq 5
 cases h;exact lq 6
def kgm (a0:BA) (v1:(Int)):Option ((Int) ⊕ ((Unit) ⊕ (Bool))):=(bif (decide (v1<(a0.size:Int))) then (((byt a0 v1).bind fun v2=>(bif (decide (v2<32)) then (some (true)) else ((byt a0 v1).bind fun v3=>(some (decide (126<v3)))))).bind fun v5=>(bif v5 then (some (.inr (.inr false))) else (some (.inl (w64 (v1+1)))))) else (some (.inr (.inl ()))))
def kk5 (a0:BA):Option Bool:=((kaa (kgm a0) fuel 0).bind fun (v6:((Unit) ⊕ (Bool)))=>Sum.elim (fun v7=>(some true)) (fun v8=>(some v8)) v6)
theorem kxy (a0:BA) (r:Bool) (h:kk5 a0=some r):kae Tryz.prog 165 [eS a0] (eB r):=by
 unfold kk5 at h
 refine pcl [.one .keep] Tryz.func165 ?_
 refine lpx 10 (fun v1=>⟨20,[(0,(fS a0)),(3,(fI v1))],[],[],[]⟩) (fun v6 e st=>Sum.elim (fun p=>e = .exit 0∧LeSt st ⟨20,[],[],[],[]⟩) (fun p=>e = .ret∧retX TT st Tryz.f165.results.toList [.one .keep]=some (eB (p))) v6) h (by kernel_rfl) (le_a) (fun v1 r h=>?_) fun v6 h e st' hq=>?_
 ·unfold kgm at h
  refine cd 8 h (fun h=>?_) fun h=>?_
  ·refine jn1 4 .normal (fun v5=>⟨20,[(0,(fS a0)),(3,(fI v1)),(19,(fB v5))],[],[],[]⟩) h (fun v5 h=>?_) fun v5 h=>?_
   ·refine byx 3 h fun v2 h=>?_
    refine gd 2 h (fun h=>?_) fun h=>?_
    ·cases h;exact lj 6
    refine byx 2 h fun v3 h=>?_
    cases h;exact lj 3
   refine cd 0 h (fun h=>?_) fun h=>?_
   ·cases h;exact lor 5
   cases h;exact lj 6
  cases h;exact lo 1 (by kernel_rfl)
 rcases v6 with v7 | v8
 ·try simp only [qf,qg] at h
  obtain ⟨rfl,hle⟩:=hq
  refine ⟨_,hle,?_⟩
  cases h;exact lq 5
 ·try simp only [qf,qg] at h
  obtain ⟨rfl,hret⟩:=hq
  refine ⟨_,LeSt.refl,?_⟩
  cases h;exact lv hret
def khv (a0:BA) (a1:Int) (a2:Int):Option Int:=((bif (decide ((a0.size:Int)<a1)) then (some (true)) else (some (decide (a2<(a0.size:Int))))).bind fun v2=>(bif v2 then (some 2) else ((kk5 a0).bind fun v3=>(bif (!v3) then (some 1) else (some 0)))))
theorem k0q (a0:BA) (a1:Int) (a2:Int) (r:Int) (h:khv a0 a1 a2=some r):kae Tryz.prog 139 [eS a0,eI a1,eI a2] (eI r):=by
 unfold khv at h
 refine pcl [.one .keep] Tryz.func139 ?_
 refine jn1 6 .normal (fun v2=>⟨20,[(0,(fS a0)),(16,(fB v2))],[],[],[]⟩) h (fun v2 h=>?_) fun v2 h=>?_
 ·refine gd 6 h (fun h=>?_) fun h=>?_
  ·cases h;exact lj 6
  cases h;exact lj 6
 refine cd 0 h (fun h=>?_) fun h=>?_
 ·cases h;exact lq 5
 refine cl 5 h (kxy _) (by kernel_rfl) fun v3 h=>?_
 refine cd 2 h (fun h=>?_) fun h=>?_
 ·cases h;exact lq 5
 cases h;exact lq 6
def kcf (a0:Va):List (Nat×AObj):=[(1,(.box 43 [(fI a0.type),(fI a0.num),(fS a0.text),(.fz (eL 4 eVaR a0.items))]))]
def kbu (r100:(Va)→Option Int) (r140:(List Va)→(Int)→Option Int) (r141:(List Va)→Option Int) (a0:Va):Option Int:=((bif (decide (a0.type<1)) then (some (true)) else (some (decide (8<a0.type)))).bind fun v2=>(bif v2 then (some 3) else ((kd8 a0).bind fun v3=>(bif (!v3) then (some 4) else (((((((((bif (a0.type == 1) then ((kgx a0.num 0 1).bind fun v4=>(some (.inr (.inr (.inr (.inr (.inr v4))))))) else (bif (a0.type == 2) then ((kgx a0.num (-1000000) 1000000).bind fun v5=>(some (.inr (.inr (.inr (.inr (.inr v5))))))) else (bif (a0.type == 4) then ((kgx a0.num 0 255).bind fun v6=>(some (.inr (.inr (.inr (.inr (.inr v6))))))) else (bif (a0.type == 8) then (some (.inl ())) else (bif (a0.type == 3) then (some (.inr (.inr (.inl ())))) else (bif (a0.type == 5) then (some (.inr (.inr (.inr (.inl ()))))) else (bif (a0.type == 6) then (some (.inr (.inr (.inr (.inr (.inl ())))))) else (some (.inr (.inl ())))))))))):Option ((Unit) ⊕ ((Unit) ⊕ ((Unit) ⊕ ((Unit) ⊕ ((Unit) ⊕ (Int))))))).bind fun (v7:((Unit) ⊕ ((Unit) ⊕ ((Unit) ⊕ ((Unit) ⊕ ((Unit) ⊕ (Int)))))))=>Sum.elim (fun v8=>(some (.inl (1,40)))) (Sum.elim (fun v9=>(some (.inr (.inl ())))) (Sum.elim (fun v10=>(some (.inl (0,64)))) (Sum.elim (fun v11=>(some (.inr (.inr (.inl ()))))) (Sum.elim (fun v12=>(some (.inr (.inr (.inr (.inl ())))))) (fun v13=>(some (.inr (.inr (.inr (.inr v13)))))))))) v7):Option (((Int)×(Int)) ⊕ ((Unit) ⊕ ((Unit) ⊕ ((Unit) ⊕ (Int)))))).bind fun (v14:(((Int)×(Int)) ⊕ ((Unit) ⊕ ((Unit) ⊕ ((Unit) ⊕ (Int))))))=>Sum.elim (fun v15=>((khv a0.text v15.1 v15.2).bind fun v16=>(some (.inr (.inr (.inr v16)))))) (Sum.elim (fun v17=>(some (.inr (.inl ())))) (Sum.elim (fun v18=>(some (.inl ()))) (Sum.elim (fun v19=>(some (.inr (.inr (.inl ()))))) (fun v20=>(some (.inr (.inr (.inr v20)))))))) v14):Option ((Unit) ⊕ ((Unit) ⊕ ((Unit) ⊕ (Int))))).bind fun (v21:((Unit) ⊕ ((Unit) ⊕ ((Unit) ⊕ (Int)))))=>Sum.elim (fun v22=>(some (.inl 2))) (Sum.elim (fun v23=>(some (.inr (.inl ())))) (Sum.elim (fun v24=>(some (.inl 3))) (fun v25=>(some (.inr (.inr v25)))))) v21):Option ((Int) ⊕ ((Unit) ⊕ (Int)))).bind fun (v26:((Int) ⊕ ((Unit) ⊕ (Int))))=>Sum.elim (fun v27=>((r140 a0.items v27).bind fun v28=>(some v28))) (Sum.elim (fun v29=>((r141 a0.items).bind fun v30=>(some v30))) (fun v31=>(some v31))) v26)))))
theorem kyc (r100:(Va)→Option Int) (r140:(List Va)→(Int)→Option Int) (r141:(List Va)→Option Int) (ih100:∀ (x0:Va) r,r100 x0=some r→kae Tryz.prog 100 [eVa x0] (eI r)) (ih140:∀ (x0:List Va) (x1:Int) r,r140 x0 x1=some r→kae Tryz.prog 140 [(eL 4 eVaR) x0,eI x1] (eI r)) (ih141:∀ (x0:List Va) r,r141 x0=some r→kae Tryz.prog 141 [(eL 4 eVaR) x0] (eI r)) (a0:Va) (r:Int) (h:kbu r100 r140 r141 a0=some r):kae Tryz.prog 100 [eVa a0] (eI r):=by
 unfold kbu at h
 refine pcl [.one .keep] Tryz.func100 ?_
 refine jn1 7 .normal (fun v2=>⟨54,[(1,(.ref 1 0 0)),(13,(fB v2))],(kcf a0),[1],[]⟩) h (fun v2 h=>?_) fun v2 h=>?_
 ·refine gd 5 h (fun h=>?_) fun h=>?_
  ·cases h;exact lj 5
  cases h;exact lj 5
 refine cd 0 h (fun h=>?_) fun h=>?_
 ·cases h;exact lq 5
 refine cl 5 h (kz4 _) (by kernel_rfl) fun v3 h=>?_
 refine cd 2 h (fun h=>?_) fun h=>?_
 ·cases h;exact lq 5
 refine jnQ 15 (fun v26 e st=>Sum.elim (fun p=>e = .normal∧LeSt st ⟨54,[(1,(.ref 1 0 0)),(5,(fI (p)))],(kcf a0),[1],[]⟩) (Sum.elim (fun p=>e = .exit 0∧LeSt st ⟨54,[(1,(.ref 1 0 0))],(kcf a0),[1],[]⟩) (fun p=>e = .ret∧retX TT st Tryz.f100.results.toList [.one .keep]=some (eI (p)))) v26) h (fun v26 h=>?_) fun v26 h e st' hq=>?_
 ·refine jnQ 1 (fun v21 e st=>Sum.elim (fun p=>e = .normal∧LeSt st ⟨54,[(1,(.ref 1 0 0)),(5,(fI 2))],(kcf a0),[1],[]⟩) (Sum.elim (fun p=>e = .exit 0∧LeSt st ⟨54,[(1,(.ref 1 0 0))],(kcf a0),[1],[]⟩) (Sum.elim (fun p=>e = .exit 7∧LeSt st ⟨54,[(1,(.ref 1 0 0)),(5,(fI 3))],(kcf a0),[1],[]⟩) (fun p=>e = .ret∧retX TT st Tryz.f100.results.toList [.one .keep]=some (eI (p))))) v21) h (fun v21 h=>?_) fun v21 h e st' hq=>?_
  ·refine jnQ 3 (fun v14 e st=>Sum.elim (fun p=>e = .normal∧LeSt st ⟨54,[(1,(.ref 1 0 0)),(3,(fI (p.1))),(4,(fI (p.2)))],(kcf a0),[1],[]⟩) (Sum.elim (fun p=>e = .exit 0∧LeSt st ⟨54,[(1,(.ref 1 0 0))],(kcf a0),[1],[]⟩) (Sum.elim (fun p=>e = .exit 6∧LeSt st ⟨54,[(1,(.ref 1 0 0))],(kcf a0),[1],[]⟩) (Sum.elim (fun p=>e = .exit 7∧LeSt st ⟨54,[(1,(.ref 1 0 0)),(5,(fI 3))],(kcf a0),[1],[]⟩) (fun p=>e = .ret∧retX TT st Tryz.f100.results.toList [.one .keep]=some (eI (p)))))) v14) h (fun v14 h=>?_) fun v14 h e st' hq=>?_
   ·refine jnQ 1 (fun v7 e st=>Sum.elim (fun p=>e = .normal∧LeSt st ⟨54,[(1,(.ref 1 0 0)),(3,(fI 1)),(4,(fI 40))],(kcf a0),[1],[]⟩) (Sum.elim (fun p=>e = .exit 0∧LeSt st ⟨54,[(1,(.ref 1 0 0))],(kcf a0),[1],[]⟩) (Sum.elim (fun p=>e = .exit 5∧LeSt st ⟨54,[(1,(.ref 1 0 0)),(3,(fI 0)),(4,(fI 64))],(kcf a0),[1],[]⟩) (Sum.elim (fun p=>e = .exit 6∧LeSt st ⟨54,[(1,(.ref 1 0 0))],(kcf a0),[1],[]⟩) (Sum.elim (fun p=>e = .exit 7∧LeSt st ⟨54,[(1,(.ref 1 0 0)),(5,(fI 3))],(kcf a0),[1],[]⟩) (fun p=>e = .ret∧retX TT st Tryz.f100.results.toList [.one .keep]=some (eI (p))))))) v7) h (fun v7 h=>?_) fun v7 h e st' hq=>?_
    ·refine cd 15 h (fun h=>?_) fun h=>?_
     ·refine cl 6 h (kni _ _ _) (by kernel_rfl) fun v4 h=>?_
      cases h;exact lr 3
     refine cd 7 h (fun h=>?_) fun h=>?_
     ·refine cl 6 h (kni _ _ _) (by kernel_rfl) fun v5 h=>?_
      cases h;exact lr 3
     refine cd 7 h (fun h=>?_) fun h=>?_
     ·refine cl 6 h (kni _ _ _) (by kernel_rfl) fun v6 h=>?_
      cases h;exact lr 3
     refine cd 7 h (fun h=>?_) fun h=>?_
     ·cases h;exact lj 5
     refine cd 7 h (fun h=>?_) fun h=>?_
     ·cases h;exact lj 1
     refine cd 7 h (fun h=>?_) fun h=>?_
     ·cases h;exact lj 1
     refine cd 6 h (fun h=>?_) fun h=>?_
     ·cases h;exact lj 1
     cases h;exact lj 2
    rcases v7 with v8 | (v9 | (v10 | (v11 | (v12 | v13))))
    ·try simp only [qf,qg] at h
     obtain ⟨rfl,hle⟩:=hq
     refine ⟨_,hle,?_⟩
     cases h;exact lj 0
    ·try simp only [qf,qg] at h
     obtain ⟨rfl,hle⟩:=hq
     refine ⟨_,hle,?_⟩
     cases h;exact lj 0
    ·try simp only [qf,qg] at h
     obtain ⟨rfl,hle⟩:=hq
     refine ⟨_,hle,?_⟩
     cases h;exact lj 0
    ·try simp only [qf,qg] at h
     obtain ⟨rfl,hle⟩:=hq
     refine ⟨_,hle,?_⟩
     cases h;exact lj 0
    ·try simp only [qf,qg] at h
     obtain ⟨rfl,hle⟩:=hq
     refine ⟨_,hle,?_⟩
     cases h;exact lj 0
    ·try simp only [qf,qg] at h
     obtain ⟨rfl,hret⟩:=hq
     refine ⟨_,LeSt.refl,?_⟩
     cases h;exact lvr hret
   rcases v14 with v15 | (v17 | (v18 | (v19 | v20)))
   ·try simp only [qf,qg] at h
    obtain ⟨rfl,hle⟩:=hq
    refine ⟨_,hle,?_⟩
    refine cl 7 h (k0q _ _ _) (by kernel_rfl) fun v16 h=>?_
    cases h;exact lr 3
   ·try simp only [qf,qg] at h
    obtain ⟨rfl,hle⟩:=hq
    refine ⟨_,hle,?_⟩
    cases h;exact lj 0
   ·try simp only [qf,qg] at h
    obtain ⟨rfl,hle⟩:=hq
    refine ⟨_,hle,?_⟩
    cases h;exact lj 3
   ·try simp only [qf,qg] at h
    obtain ⟨rfl,hle⟩:=hq
    refine ⟨_,hle,?_⟩
    cases h;exact lj 0
   ·try simp only [qf,qg] at h
    obtain ⟨rfl,hret⟩:=hq
    refine ⟨_,LeSt.refl,?_⟩
    cases h;exact lvr hret
  rcases v21 with v22 | (v23 | (v24 | v25))
  ·try simp only [qf,qg] at h
   obtain ⟨rfl,hle⟩:=hq
   refine ⟨_,hle,?_⟩
   cases h;exact lj 0
  ·try simp only [qf,qg] at h
   obtain ⟨rfl,hle⟩:=hq
   refine ⟨_,hle,?_⟩
   cases h;exact lj 0
  ·try simp only [qf,qg] at h
   obtain ⟨rfl,hle⟩:=hq
   refine ⟨_,hle,?_⟩
   cases h;exact lj 0
  ·try simp only [qf,qg] at h
   obtain ⟨rfl,hret⟩:=hq
   refine ⟨_,LeSt.refl,?_⟩
   cases h;exact lvr hret
 rcases v26 with v27 | (v29 | v31)
 ·try simp only [qf,qg] at h
  obtain ⟨rfl,hle⟩:=hq
  refine ⟨_,hle,?_⟩
  refine cl 6 h (ih140 _ _) (by kernel_rfl) fun v28 h=>?_
  cases h;exact lq 3
 ·try simp only [qf,qg] at h
  obtain ⟨rfl,hle⟩:=hq
  refine ⟨_,hle,?_⟩
  refine cl 4 h (ih141 _) (by kernel_rfl) fun v30 h=>?_
  cases h;exact lq 3
 ·try simp only [qf,qg] at h
  obtain ⟨rfl,hret⟩:=hq
  refine ⟨_,LeSt.refl,?_⟩
  cases h;exact lv hret
def kan (a0:List Va) (a1:Int) (r100:(Va)→Option Int) (v1:(Int)):Option ((Int) ⊕ ((Unit) ⊕ (Int))):=(bif (decide (v1<(List.length a0:Int))) then ((idx a0 v1).bind fun v2=>(bif (v2.type != a1) then (some (.inr (.inr 3))) else ((r100 v2).bind fun v3=>(bif (v3 != 0) then (some (.inr (.inr v3))) else (some (.inl (w64 (v1+1)))))))) else (some (.inr (.inl ()))))
def keq (r100:(Va)→Option Int) (r140:(List Va)→(Int)→Option Int) (r141:(List Va)→Option Int) (a0:List Va) (a1:Int):Option Int:=(bif (decide (16<(List.length a0:Int))) then (some 2) else ((kaa (kan a0 a1 r100) fuel 0).bind fun (v4:((Unit) ⊕ (Int)))=>Sum.elim (fun v5=>(some 0)) (fun v6=>(some v6)) v4))
theorem ku8 (r100:(Va)→Option Int) (r140:(List Va)→(Int)→Option Int) (r141:(List Va)→Option Int) (ih100:∀ (x0:Va) r,r100 x0=some r→kae Tryz.prog 100 [eVa x0] (eI r)) (ih140:∀ (x0:List Va) (x1:Int) r,r140 x0 x1=some r→kae Tryz.prog 140 [(eL 4 eVaR) x0,eI x1] (eI r)) (ih141:∀ (x0:List Va) r,r141 x0=some r→kae Tryz.prog 141 [(eL 4 eVaR) x0] (eI r)) (a0:List Va) (a1:Int) (r:Int) (h:keq r100 r140 r141 a0 a1=some r):kae Tryz.prog 140 [(eL 4 eVaR) a0,eI a1] (eI r):=by
 unfold keq at h
 refine pcl [.one .keep] Tryz.func140 ?_
 refine cd 11 h (fun h=>?_) fun h=>?_
 ·cases h;exact lq 5
 refine lpx 9 (fun v1=>⟨27,[(1,(fI a1)),(11,(.fz (eL 4 eVaR a0))),(12,(fI (List.length a0:Int))),(13,(fI v1))],[],[],[]⟩) (fun v4 e st=>Sum.elim (fun p=>e = .exit 0∧LeSt st ⟨27,[],[],[],[]⟩) (fun p=>e = .ret∧retX TT st Tryz.f140.results.toList [.one .keep]=some (eI (p))) v4) h (by kernel_rfl) (le_a) (fun v1 r h=>?_) fun v4 h e st' hq=>?_
 ·unfold kan at h
  refine cd 5 h (fun h=>?_) fun h=>?_
  ·refine ix nVaR 5 h fun v2 h=>?_
   refine cd 12 h (fun h=>?_) fun h=>?_
   ·cases h;exact lor 5
   refine cl 4 h (ih100 _) (by kernel_rfl) fun v3 h=>?_
   refine cd 7 h (fun h=>?_) fun h=>?_
   ·cases h;exact lor 6
   cases h;exact lj 5
  cases h;exact lo 1 (by kernel_rfl)
 rcases v4 with v5 | v6
 ·try simp only [qf,qg] at h
  obtain ⟨rfl,hle⟩:=hq
  refine ⟨_,hle,?_⟩
  cases h;exact lq 5
 ·try simp only [qf,qg] at h
  obtain ⟨rfl,hret⟩:=hq
  refine ⟨_,LeSt.refl,?_⟩
  cases h;exact lv hret
def kax (a0:List Va) (r100:(Va)→Option Int) (v1:(Int)):Option ((Int) ⊕ ((Unit) ⊕ (Int))):=(bif (decide (v1<(List.length a0:Int))) then ((idx a0 v1).bind fun v2=>(bif (v2.type != 6) then (some (.inr (.inr 3))) else ((bif (decide ((List.length v2.items:Int)<1)) then (some (true)) else (bif (decide (8<(List.length v2.items:Int))) then (some (true)) else ((idx a0 0).bind fun v3=>(some ((List.length v2.items:Int) != (List.length v3.items:Int)))))).bind fun v5=>(bif v5 then (some (.inr (.inr 2))) else ((r100 v2).bind fun v6=>(bif (v6 != 0) then (some (.inr (.inr v6))) else (some (.inl (w64 (v1+1)))))))))) else (some (.inr (.inl ()))))
def kgy (r100:(Va)→Option Int) (r140:(List Va)→(Int)→Option Int) (r141:(List Va)→Option Int) (a0:List Va):Option Int:=(bif (decide (8<(List.length a0:Int))) then (some 2) else ((kaa (kax a0 r100) fuel 0).bind fun (v7:((Unit) ⊕ (Int)))=>Sum.elim (fun v8=>(some 0)) (fun v9=>(some v9)) v7))
theorem kyv (r100:(Va)→Option Int) (r140:(List Va)→(Int)→Option Int) (r141:(List Va)→Option Int) (ih100:∀ (x0:Va) r,r100 x0=some r→kae Tryz.prog 100 [eVa x0] (eI r)) (ih140:∀ (x0:List Va) (x1:Int) r,r140 x0 x1=some r→kae Tryz.prog 140 [(eL 4 eVaR) x0,eI x1] (eI r)) (ih141:∀ (x0:List Va) r,r141 x0=some r→kae Tryz.prog 141 [(eL 4 eVaR) x0] (eI r)) (a0:List Va) (r:Int) (h:kgy r100 r140 r141 a0=some r):kae Tryz.prog 141 [(eL 4 eVaR) a0] (eI r):=by
 unfold kgy at h
 refine pcl [.one .keep] Tryz.func141 ?_
 refine cd 11 h (fun h=>?_) fun h=>?_
 ·cases h;exact lq 5
 refine lpx 9 (fun v1=>⟨45,[(0,(.fz (eL 4 eVaR a0))),(9,(.fz (eL 4 eVaR a0))),(10,(fI (List.length a0:Int))),(11,(fI v1))],[],[],[]⟩) (fun v7 e st=>Sum.elim (fun p=>e = .exit 0∧LeSt st ⟨45,[],[],[],[]⟩) (fun p=>e = .ret∧retX TT st Tryz.f141.results.toList [.one .keep]=some (eI (p))) v7) h (by kernel_rfl) (le_a) (fun v1 r h=>?_) fun v7 h e st' hq=>?_
 ·unfold kax at h
  refine cd 5 h (fun h=>?_) fun h=>?_
  ·refine ix nVaR 5 h fun v2 h=>?_
   refine cd 11 h (fun h=>?_) fun h=>?_
   ·cases h;exact lor 5
   refine jn1 3 .normal (fun v5=>⟨45,[(0,(.fz (eL 4 eVaR a0))),(4,(.ref 1 0 0)),(9,(.fz (eL 4 eVaR a0))),(10,(fI (List.length a0:Int))),(11,(fI v1)),(38,(fB v5))],[(1,(.box 43 [(fI v2.type),(fI v2.num),(fS v2.text),(.fz (eL 4 eVaR v2.items))]))],[1],[]⟩) h (fun v5 h=>?_) fun v5 h=>?_
   ·refine dw 0 19 ?_
    refine gd 5 h (fun h=>?_) fun h=>?_
    ·cases h;exact lj 18
    refine gd 6 h (fun h=>?_) fun h=>?_
    ·cases h;exact lj 12
    refine ix nVaR 4 h fun v3 h=>?_
    cases h;exact lj 7
   refine cd 0 h (fun h=>?_) fun h=>?_
   ·cases h;exact lor 5
   refine cl 4 h (ih100 _) (by kernel_rfl) fun v6 h=>?_
   refine cd 7 h (fun h=>?_) fun h=>?_
   ·cases h;exact lor 6
   cases h;exact lj 5
  cases h;exact lo 1 (by kernel_rfl)
 rcases v7 with v8 | v9
 ·try simp only [qf,qg] at h
  obtain ⟨rfl,hle⟩:=hq
  refine ⟨_,hle,?_⟩
  cases h;exact lq 5
 ·try simp only [qf,qg] at h
  obtain ⟨rfl,hret⟩:=hq
  refine ⟨_,LeSt.refl,?_⟩
  cases h;exact lv hret
def kc8:Nat→((Va)→Option Int)×((List Va)→(Int)→Option Int)×((List Va)→Option Int)
  | 0=>(fun _=>none,fun _ _=>none,fun _=>none)
  | n+1=>(kbu ((kc8 n).1) ((kc8 n).2.1) ((kc8 n).2.2),keq ((kc8 n).1) ((kc8 n).2.1) ((kc8 n).2.2),kgy ((kc8 n).1) ((kc8 n).2.1) ((kc8 n).2.2))
def kah (n:Nat):(Va)→Option Int:=(kc8 n).1
def ke3 (n:Nat):(List Va)→(Int)→Option Int:=(kc8 n).2.1
def khs (n:Nat):(List Va)→Option Int:=(kc8 n).2.2
theorem kc5:∀ n:Nat,(∀ (x0:Va) r,kah n x0=some r→kae Tryz.prog 100 [eVa x0] (eI r))∧(∀ (x0:List Va) (x1:Int) r,ke3 n x0 x1=some r→kae Tryz.prog 140 [(eL 4 eVaR) x0,eI x1] (eI r))∧(∀ (x0:List Va) r,khs n x0=some r→kae Tryz.prog 141 [(eL 4 eVaR) x0] (eI r))
  | 0=>⟨(fun _ _ h=>nomatch h),(fun _ _ _ h=>nomatch h),(fun _ _ h=>nomatch h)⟩
  | n+1=>⟨(kyc _ _ _ ((kc5 n).1) ((kc5 n).2.1) ((kc5 n).2.2)),(ku8 _ _ _ ((kc5 n).1) ((kc5 n).2.1) ((kc5 n).2.2)),(kyv _ _ _ ((kc5 n).1) ((kc5 n).2.1) ((kc5 n).2.2))⟩
theorem ks2 (n:Nat):∀ (x0:Va) r,kah n x0=some r→kae Tryz.prog 100 [eVa x0] (eI r):=(kc5 n).1
def kfc (a0:BA) (a1:Int):Option Int:=(some (Lib.indexByte (ByteArray.data a0).toList (Int.toNat a1).toUInt8))
theorem ki1 (a0:BA) (a1:Int) (r:Int) (h:kfc a0 a1=some r):kae Tryz.prog 153 [eS a0,eU8 a1] (eI r):=by
 unfold kfc at h
 refine pcl [.one .keep] Tryz.func153 ?_
 refine nst 8 (kace (f:=179) (ts:=#[9,5]) (X:=(.tmp 5)) (Y:=(.tmp 6)) (fn:=Tryz.f179) (s:=a0) (c:=a1) (by kernel_rfl) Tryz.func179) ?_
 cases h;exact lq 3
def kim (a0:BA) (a1:BA):Option Int:=((bif ((a1.size:Int) == 0) then (some (true)) else (some (a1.toList == a0.toList))).bind fun v2=>(bif v2 then (some 0) else (bif ((a1.size:Int) == 1) then ((byt a1 0).bind fun v3=>((kfc a0 v3).bind fun v4=>(some v4))) else (bif (decide ((a0.size:Int)≤(a1.size:Int))) then (some (-1)) else none))))
theorem kob (a0:BA) (a1:BA) (r:Int) (h:kim a0 a1=some r):kae Tryz.prog 125 [eS a0,eS a1] (eI r):=by
 unfold kim at h
 refine pcl [.one .keep] Tryz.func125 ?_
 refine jn1 13 .normal (fun v2=>⟨143,[(0,(fS a0)),(1,(fS a1)),(5,(fI (a1.size:Int))),(16,(fB v2))],[],[],[]⟩) h (fun v2 h=>?_) fun v2 h=>?_
 ·refine gd 4 h (fun h=>?_) fun h=>?_
  ·cases h;exact lj 6
  cases h;exact lj 6
 refine cd 0 h (fun h=>?_) fun h=>?_
 ·cases h;exact lq 5
 refine cd 6 h (fun h=>?_) fun h=>?_
 ·refine byx 4 h fun v3 h=>?_
  refine cl 0 h (ki1 _ _) (by kernel_rfl) fun v4 h=>?_
  cases h;exact lq 3
 refine cd 8 h (fun h=>?_) fun h=>?_
 ·cases h;exact lq 5
 cases h
def ki8 (a0:BA) (a1:BA):Option ((BA)×(BA)×(Bool)):=((kim a0 a1).bind fun v1=>(bif (decide (0≤v1)) then ((cutS a0 0 v1).bind fun v2=>((cutS a0 (w64 (v1+(a1.size:Int))) a0.size).bind fun v3=>(some (v2,v3,true)))) else (some (a0,(⟨#[]⟩:BA),false))))
theorem kps (a0:BA) (a1:BA) (r:(BA)×(BA)×(Bool)) (h:ki8 a0 a1=some r):kae Tryz.prog 85 [eS a0,eS a1] (.tup [eS r.1,eS r.2.1,eB r.2.2]):=by
 unfold ki8 at h
 refine pcl [.one .keep, .one .keep, .one .keep] Tryz.func85 ?_
 refine cl 11 h (kob _ _) (by kernel_rfl) fun v1 h=>?_
 refine cd 7 h (fun h=>?_) fun h=>?_
 ·refine dw 1 10 ?_
  obtain ⟨v2,hv2,h⟩:=qi.1 h
  refine nst 2 (kjv (t:=9) (x:=(.tmp 13)) (lo:=none) (hi:=(some (.tmp 14))) (d:=tt9) (s:=a0) (l:=none) (h:=(some v1)) hv2 kb0) ?_
  obtain ⟨v3,hv3,h⟩:=qi.1 h
  refine nst 5 (kjv (t:=9) (x:=(.tmp 16)) (lo:=(some (.tmp 20))) (hi:=none) (d:=tt9) (s:=a0) (l:=(some (w64 (v1+(a1.size:Int))))) (h:=none) hv3 kb0) ?_
  cases h;exact lq 6
 cases h;exact lq 9
def strings_Cut (a0:BA) (a1:BA):Option ((BA)×(BA)×(Bool)):=((ki8 a0 a1).bind fun v1=>(some (v1.1,v1.2.1,v1.2.2)))
theorem kl4 (a0:BA) (a1:BA) (r:(BA)×(BA)×(Bool)) (h:strings_Cut a0 a1=some r):kae Tryz.prog 46 [eS a0,eS a1] (.tup [eS r.1,eS r.2.1,eB r.2.2]):=by
 unfold strings_Cut at h
 refine pcl [.one .keep, .one .keep, .one .keep] Tryz.func46 ?_
 refine cl 10 h (kps _ _) (by kernel_rfl) fun v1 h=>?_
 cases h;exact lq 8
def kll (a0:Int):Option Int:=(bif (a0 == 66) then (some 1) else (bif (a0 == 73) then (some 2) else (bif (a0 == 84) then (some 3) else (bif (a0 == 86) then (some 4) else (bif (a0 == 76) then (some 5) else (bif (a0 == 83) then (some 6) else (bif (a0 == 77) then (some 7) else (some 8))))))))
theorem kpm (a0:Int) (r:Int) (h:kll a0=some r):kae Tryz.prog 210 [eU8 a0] (eI r):=by
 unfold kll at h
 refine pcl [.one .keep] Tryz.func210 ?_
 refine cd 15 h (fun h=>?_) fun h=>?_
 ·cases h;exact lq 5
 refine cd 5 h (fun h=>?_) fun h=>?_
 ·cases h;exact lq 5
 refine cd 5 h (fun h=>?_) fun h=>?_
 ·cases h;exact lq 5
 refine cd 5 h (fun h=>?_) fun h=>?_
 ·cases h;exact lq 5
 refine cd 5 h (fun h=>?_) fun h=>?_
 ·cases h;exact lq 5
 refine cd 5 h (fun h=>?_) fun h=>?_
 ·cases h;exact lq 5
 refine cd 5 h (fun h=>?_) fun h=>?_
 ·cases h;exact lq 5
 cases h;exact lq 6
structure S_api_Operator where
  f_Name:BA
  f_Args:List Int
  f_Result:Int
def kn6 (x:S_api_Operator):FV := .agg [eS (x.f_Name),(eL 1 eI) (x.f_Args),eI (x.f_Result)]
structure S_operator_entry where
  f_Operator:S_api_Operator
  f_family:BA
def kbc (x:S_operator_entry):FV := .agg [eS (x.f_Operator.f_Name),(eL 1 eI) (x.f_Operator.f_Args),eI (x.f_Operator.f_Result),eS (x.f_family)]
def kj7:En S_operator_entry:=⟨kbc,4,fun x=>(kbc x).cells,fun _=>rfl,fun _=>rfl⟩
def kpl (v3:(BA)×(BA)×(Bool)) (v4:(Int)×(List Int)):Option (((Int)×(List Int)) ⊕ (List Int)):=(bif (decide (v4.1<(w64 ((v3.2.1.size:Int) - 1)))) then ((byt v3.2.1 v4.1).bind fun v5=>((kll v5).bind fun v6=>((app 8 v4.2 ([v6]:List Int)).bind fun v7=>(some (.inl ((w64 (v4.1+1)),v7)))))) else (some (.inr v4.2)))
def kpw (a0:BA) (a1:List BA) (v1:(Int)×(List S_operator_entry)):Option (((Int)×(List S_operator_entry)) ⊕ (List S_operator_entry)):=(bif (decide (v1.1<(List.length a1:Int))) then ((idx a1 v1.1).bind fun v2=>((strings_Cut v2 (⟨#[58]⟩:BA)).bind fun v3=>((kaa (kpl v3) fuel (0,([]:List Int))).bind fun (v9:(List Int))=>((byt v3.2.1 (w64 ((v3.2.1.size:Int) - 1))).bind fun v10=>((kll v10).bind fun v11=>((app 64 v1.2 ([(S_operator_entry.mk (S_api_Operator.mk v3.1 v9 v11) a0)]:List (S_operator_entry))).bind fun v12=>(some (.inl ((w64 (v1.1+1)),v12))))))))) else (some (.inr v1.2)))
def kfg (a0:BA) (a1:List BA):Option (List S_operator_entry):=((kaa (kpw a0 a1) fuel (0,([]:List (S_operator_entry)))).bind fun (v14:(List S_operator_entry))=>(some v14))
theorem kfo (a0:BA) (a1:List BA) (r:List S_operator_entry) (h:kfg a0 a1=some r):kae Tryz.prog 194 [eS a0,(eL 1 eS) a1] (eL 4 kbc r):=by
 unfold kfg at h
 refine pcl [.one (.sl 4)] Tryz.func194 ?_
 refine wle 16 (kl3 (e:=187) (size:=4) (t:=5) (id:=1) (by decide)) ?_
 refine lp1 0 (fun v1=>⟨62,[(0,(fS a0)),(5,(.row 1 (List.length v1.2))),(13,(.fz (eL 1 eS a1))),(14,(fI (List.length a1:Int))),(15,(fI v1.1))],[(1,(.frow 187 4 (List.map kbc v1.2)))],[1],[]⟩) (.exit 0) (fun v14=>⟨62,[(5,(.row 1 (List.length v14)))],[(1,(.frow 187 4 (List.map kbc v14)))],[1],[]⟩) h (fun v1 r h=>?_) fun v14 h=>?_
 ·unfold kpw at h
  refine cd 5 h (fun h=>?_) fun h=>?_
  ·refine ix nS 5 h fun v2 h=>?_
   refine cl 6 h (kl4 _ _) (by kernel_rfl) fun v3 h=>?_
   refine wle 31 (ket (e2:=187) (e:=3) (size:=1) (id2:=2) (j:=1) (id:=3) (cells:=[(fS v3.1),(.fz (.atom (.slice none 0 0))),(fI 0),(fS a0)])) ?_
   refine lp1 0 (fun v4=>⟨62,[(0,(fS a0)),(5,(.row 1 (List.length v1.2))),(9,(fS v3.2.1)),(11,(.ref 2 0 0)),(13,(.fz (eL 1 eS a1))),(14,(fI (List.length a1:Int))),(15,(fI v1.1)),(32,(fI (w64 ((v3.2.1.size:Int) - 1)))),(33,(fI v4.1))],[(1,(.frow 187 4 (List.map kbc v1.2))),(2,(.box 187 [(fS v3.1),(.row 3 (List.length v4.2)),(fI 0),(fS a0)])),(3,(.frow 3 1 (List.map eI v4.2)))],[3,2,1],[]⟩) (.exit 2) (fun v9=>⟨62,[(0,(fS a0)),(5,(.row 1 (List.length v1.2))),(9,(fS v3.2.1)),(11,(.ref 2 0 0)),(13,(.fz (eL 1 eS a1))),(14,(fI (List.length a1:Int))),(15,(fI v1.1))],[(1,(.frow 187 4 (List.map kbc v1.2))),(2,(.box 187 [(fS v3.1),(.row 3 (List.length v9)),(fI 0),(fS a0)])),(3,(.frow 3 1 (List.map eI v9)))],[3,2,1],[]⟩) h (fun v4 r h=>?_) fun v9 h=>?_
   ·unfold kpl at h
    refine cd 5 h (fun h=>?_) fun h=>?_
    ·refine dw 8 8 ?_
     refine byx 5 h fun v5 h=>?_
     refine cl 0 h (kpm _) (by kernel_rfl) fun v6 h=>?_
     refine ap nI 2 h fun v7 h=>?_
     cases h;exact lj 8
    cases h;exact lo 1 (by kernel_rfl)
   refine byx 6 h fun v10 h=>?_
   refine cl 0 h (kpm _) (by kernel_rfl) fun v11 h=>?_
   refine wle 7 (LeSt.trans (show LeSt _ ⟨62,[(0,(fS a0)),(13,(.fz (eL 1 eS a1))),(14,(fI (List.length a1:Int))),(15,(fI v1.1)),(56,(.row 1 (List.length v1.2))),(57,(.agg [(fS v3.1),(.row 3 (List.length v9)),(fI v11),(fS a0)]))],[(1,(.frow 187 4 (List.map kbc v1.2))),(3,(.frow 3 1 (List.map eI v9)))],[3,1],[]⟩ from le_a) (LeSt.trans (ky7 3 (n:=List.length v9) (k:=1) (e:=3) (size:=1) (xs:=List.map eI v9) (by kernel_rfl) (by simp)) (show LeSt _ ⟨62,[(0,(fS a0)),(13,(.fz (eL 1 eS a1))),(14,(fI (List.length a1:Int))),(15,(fI v1.1)),(56,(.row 1 (List.length v1.2))),(57,(.fz (.agg [(eS v3.1),(eL 1 eI v9),(eI v11),(eS a0)])))],[(1,(.frow 187 4 (List.map kbc v1.2)))],[3,1],[]⟩ from le_a))) ?_
   refine ap kj7 1 h fun v12 h=>?_
   cases h;exact lj 6
  cases h;exact lo 1 (by kernel_rfl)
 refine wle 5 (kpc (t:=4) (id:=1) (n:=List.length v14) (e:=187) (size:=4) (xs:=List.map kbc v14) (by kernel_rfl) (by kernel_rfl) (by simp)) ?_
 cases h;exact lq 1
def kog (v1:List S_operator_entry) (v2:List S_operator_entry) (v3:List S_operator_entry) (v4:List S_operator_entry) (v5:List S_operator_entry) (v6:List S_operator_entry) (v7:List S_operator_entry) (v8:(Int)×(List S_operator_entry)):Option (((Int)×(List S_operator_entry)) ⊕ (List S_operator_entry)):=(bif (decide (v8.1<(List.length ([v1,v2,v3,v4,v5,v6,v7]:List (List S_operator_entry)):Int))) then ((idx ([v1,v2,v3,v4,v5,v6,v7]:List (List S_operator_entry)) v8.1).bind fun v9=>((app 64 v8.2 v9).bind fun v10=>(some (.inl ((w64 (v8.1+1)),v10))))) else (some (.inr v8.2)))
def operator_catalog :Option (List S_operator_entry):=((kfg (⟨#[108,111,103,105,99]⟩:BA) ([(⟨#[97,110,100,58,66,66,66]⟩:BA),(⟨#[111,114,58,66,66,66]⟩:BA),(⟨#[110,111,116,58,66,66]⟩:BA),(⟨#[105,102,105,110,116,58,66,73,73,73]⟩:BA),(⟨#[105,102,116,101,120,116,58,66,84,84,84]⟩:BA),(⟨#[105,102,98,105,116,115,58,66,86,86,86]⟩:BA)]:List BA)).bind fun v1=>((kfg (⟨#[110,117,109,98,101,114,115]⟩:BA) ([(⟨#[97,100,100,58,73,73,73]⟩:BA),(⟨#[115,117,98,58,73,73,73]⟩:BA),(⟨#[109,117,108,58,73,73,73]⟩:BA),(⟨#[110,101,103,58,73,73]⟩:BA),(⟨#[109,105,110,58,73,73,73]⟩:BA),(⟨#[109,97,120,58,73,73,73]⟩:BA),(⟨#[101,113,105,110,116,58,73,73,66]⟩:BA),(⟨#[108,101,115,115,58,73,73,66]⟩:BA)]:List BA)).bind fun v2=>((kfg (⟨#[116,101,120,116,115]⟩:BA) ([(⟨#[99,111,110,99,97,116,58,84,84,84]⟩:BA),(⟨#[115,108,105,99,101,58,84,73,73,84]⟩:BA),(⟨#[108,101,110,58,84,73]⟩:BA),(⟨#[117,112,112,101,114,58,84,84]⟩:BA),(⟨#[108,111,119,101,114,58,84,84]⟩:BA),(⟨#[116,114,105,109,58,84,84]⟩:BA),(⟨#[102,105,110,100,58,84,84,73]⟩:BA),(⟨#[114,101,112,108,97,99,101,58,84,84,84,84]⟩:BA),(⟨#[119,111,114,100,58,84,73,84]⟩:BA),(⟨#[99,104,97,114,58,84,73,84]⟩:BA),(⟨#[114,101,112,101,97,116,58,84,73,84]⟩:BA),(⟨#[115,104,111,119,58,73,84]⟩:BA),(⟨#[114,101,97,100,58,84,73]⟩:BA),(⟨#[101,113,116,101,120,116,58,84,84,66]⟩:BA),(⟨#[115,112,108,105,116,58,84,84,83]⟩:BA),(⟨#[106,111,105,110,58,83,84,84]⟩:BA),(⟨#[105,116,101,109,58,83,73,84]⟩:BA),(⟨#[115,111,114,116,116,101,120,116,115,58,83,83]⟩:BA),(⟨#[114,101,118,116,101,120,116,115,58,83,83]⟩:BA)]:List BA)).bind fun v3=>((kfg (⟨#[112,97,116,116,101,114,110,115]⟩:BA) ([(⟨#[115,116,97,114,116,58,84,80,73,73]⟩:BA),(⟨#[101,110,100,58,84,80,73,73]⟩:BA),(⟨#[101,120,116,114,97,99,116,58,84,80,73,84]⟩:BA),(⟨#[101,114,97,115,101,58,84,80,84]⟩:BA),(⟨#[111,99,99,117,114,115,58,84,80,73]⟩:BA),(⟨#[109,97,116,99,104,101,115,58,84,80,66]⟩:BA),(⟨#[112,108,105,116,58,84,80]⟩:BA),(⟨#[112,99,97,116,58,80,80,80]⟩:BA),(⟨#[112,97,108,116,58,80,80,80]⟩:BA),(⟨#[112,115,116,97,114,58,80,80]⟩:BA)]:List BA)).bind fun v4=>((kfg (⟨#[108,105,115,116,115]⟩:BA) ([(⟨#[104,101,97,100,58,76,73]⟩:BA),(⟨#[108,97,115,116,58,76,73]⟩:BA),(⟨#[116,97,107,101,58,76,73,76]⟩:BA),(⟨#[100,114,111,112,58,76,73,76]⟩:BA),(⟨#[114,101,118,101,114,115,101,58,76,76]⟩:BA),(⟨#[115,111,114,116,58,76,76]⟩:BA),(⟨#[117,110,105,113,117,101,58,76,76]⟩:BA),(⟨#[115,117,109,58,76,73]⟩:BA),(⟨#[115,104,105,102,116,58,76,73,76]⟩:BA),(⟨#[115,99,97,108,101,58,76,73,76]⟩:BA),(⟨#[97,98,111,118,101,58,76,73,76]⟩:BA),(⟨#[101,118,101,110,58,76,76]⟩:BA),(⟨#[122,105,112,58,76,76,76]⟩:BA),(⟨#[97,112,112,101,110,100,58,76,76,76]⟩:BA),(⟨#[101,108,101,109,101,110,116,58,76,73,73]⟩:BA),(⟨#[99,111,117,110,116,58,76,73,73]⟩:BA),(⟨#[109,97,120,105,109,117,109,58,76,73]⟩:BA),(⟨#[109,105,110,105,109,117,109,58,76,73]⟩:BA),(⟨#[114,117,110,110,105,110,103,58,76,76]⟩:BA),(⟨#[108,101,110,103,116,104,58,76,73]⟩:BA)]:List BA)).bind fun v5=>((kfg (⟨#[116,97,98,108,101,115]⟩:BA) ([(⟨#[116,114,97,110,115,112,111,115,101,58,77,77]⟩:BA),(⟨#[114,111,119,58,77,73,83]⟩:BA),(⟨#[99,111,108,117,109,110,58,77,73,83]⟩:BA),(⟨#[100,114,111,112,114,111,119,58,77,73,77]⟩:BA),(⟨#[100,114,111,112,99,111,108,117,109,110,58,77,73,77]⟩:BA),(⟨#[115,111,114,116,116,97,98,108,101,58,77,73,77]⟩:BA),(⟨#[102,105,108,108,58,77,77]⟩:BA),(⟨#[117,110,112,105,118,111,116,58,77,73,77]⟩:BA),(⟨#[112,105,118,111,116,58,77,77]⟩:BA),(⟨#[99,101,108,108,58,77,73,73,84]⟩:BA),(⟨#[115,116,97,99,107,58,77,77,77]⟩:BA),(⟨#[98,101,115,105,100,101,58,77,77,77]⟩:BA),(⟨#[115,112,108,105,116,99,111,108,117,109,110,58,77,73,84,77]⟩:BA)]:List BA)).bind fun v6=>((kfg (⟨#[98,105,116,115]⟩:BA) ([(⟨#[98,97,110,100,58,86,86,86]⟩:BA),(⟨#[98,111,114,58,86,86,86]⟩:BA),(⟨#[98,120,111,114,58,86,86,86]⟩:BA),(⟨#[98,110,111,116,58,86,86]⟩:BA),(⟨#[98,97,100,100,58,86,86,86]⟩:BA),(⟨#[98,115,117,98,58,86,86,86]⟩:BA),(⟨#[98,109,117,108,58,86,86,86]⟩:BA),(⟨#[98,108,101,102,116,58,86,73,86]⟩:BA),(⟨#[98,114,105,103,104,116,58,86,73,86]⟩:BA),(⟨#[98,97,114,105,116,104,58,86,73,86]⟩:BA),(⟨#[111,110,101,115,58,86,73]⟩:BA),(⟨#[101,113,98,105,116,115,58,86,86,66]⟩:BA)]:List BA)).bind fun v7=>((kaa (kog v1 v2 v3 v4 v5 v6 v7) fuel (0,([]:List (S_operator_entry)))).bind fun (v12:(List S_operator_entry))=>(some v12)))))))))
theorem ku7  (r:List S_operator_entry) (h:operator_catalog =some r):kae Tryz.prog 166 [] (eL 4 kbc r):=by
 unfold operator_catalog at h
 refine pcl [.one (.sl 4)] Tryz.func166 ?_
 refine cl 12 h (kfo _ _) (by kernel_rfl) fun v1 h=>?_
 refine cl 1 h (kfo _ _) (by kernel_rfl) fun v2 h=>?_
 refine cl 1 h (kfo _ _) (by kernel_rfl) fun v3 h=>?_
 refine cl 1 h (kfo _ _) (by kernel_rfl) fun v4 h=>?_
 refine cl 1 h (kfo _ _) (by kernel_rfl) fun v5 h=>?_
 refine cl 1 h (kfo _ _) (by kernel_rfl) fun v6 h=>?_
 refine cl 1 h (kfo _ _) (by kernel_rfl) fun v7 h=>?_
 refine wle 5 (kl3 (e:=187) (size:=4) (t:=1) (id:=1) (by decide)) ?_
 refine lp1 0 (fun v8=>⟨29,[(1,(.row 1 (List.length v8.2))),(18,(.lim 1 (List.length ([v1,v2,v3,v4,v5,v6,v7]:List (List S_operator_entry))) (List.map (eL 4 kbc) ([v1,v2,v3,v4,v5,v6,v7]:List (List S_operator_entry))))),(19,(fI (List.length ([v1,v2,v3,v4,v5,v6,v7]:List (List S_operator_entry)):Int))),(20,(fI v8.1))],[(1,(.frow 187 4 (List.map kbc v8.2)))],[1],[]⟩) (.exit 0) (fun v12=>⟨29,[(1,(.row 1 (List.length v12)))],[(1,(.frow 187 4 (List.map kbc v12)))],[1],[]⟩) h (fun v8 r h=>?_) fun v12 h=>?_
 ·unfold kog at h
  refine cd 5 h (fun h=>?_) fun h=>?_
  ·refine ix (nL 4 kj7) 5 h fun v9 h=>?_
   refine ap kj7 6 h fun v10 h=>?_
   cases h;exact lj 6
  cases h;exact lo 1 (by kernel_rfl)
 refine wle 5 (kpc (t:=0) (id:=1) (n:=List.length v12) (e:=187) (size:=4) (xs:=List.map kbc v12) (by kernel_rfl) (by kernel_rfl) (by simp)) ?_
 cases h;exact lq 1
def kq3:List (Nat×AObj):=[(1,(.box 187 [(fS (⟨#[]⟩:BA)),(.fz (.atom (.slice none 0 0))),(fI 0),(fS (⟨#[]⟩:BA))]))]
def khg (a0:BA) (v1:List S_operator_entry) (v2:(Int)):Option ((Int) ⊕ ((Unit) ⊕ ((S_operator_entry)×(Bool)))):=(bif (decide (v2<(List.length v1:Int))) then ((idx v1 v2).bind fun v3=>(bif (v3.f_Operator.f_Name.toList == a0.toList) then (some (.inr (.inr (v3,true)))) else (some (.inl (w64 (v2+1)))))) else (some (.inr (.inl ()))))
def kmz (a0:BA):Option ((S_operator_entry)×(Bool)):=((operator_catalog ).bind fun v1=>((kaa (khg a0 v1) fuel 0).bind fun (v4:((Unit) ⊕ ((S_operator_entry)×(Bool))))=>Sum.elim (fun v5=>(some ((S_operator_entry.mk (S_api_Operator.mk (⟨#[]⟩:BA) ([]:List Int) 0) (⟨#[]⟩:BA)),false))) (fun v6=>(some v6)) v4))
theorem kyo (a0:BA) (r:(S_operator_entry)×(Bool)) (h:kmz a0=some r):kae Tryz.prog 142 [eS a0] (.tup [kbc r.1,eB r.2]):=by
 unfold kmz at h
 refine pcl [.ag [.keep, .sl 1, .keep, .keep], .one .keep] Tryz.func142 ?_
 refine cl 8 h (ku7) (by kernel_rfl) fun v1 h=>?_
 refine lpx 4 (fun v2=>⟨20,[(0,(fS a0)),(2,(.ref 1 0 0)),(6,(.fz (eL 4 kbc v1))),(7,(fI (List.length v1:Int))),(8,(fI v2))],(kq3),[1],[]⟩) (fun v4 e st=>Sum.elim (fun p=>e = .exit 0∧LeSt st ⟨20,[(2,(.ref 1 0 0))],(kq3),[1],[]⟩) (fun p=>e = .ret∧retX TT st Tryz.f142.results.toList [.ag [.keep, .sl 1, .keep, .keep], .one .keep]=some (.tup [kbc (p.1),eB (p.2)])) v4) h (by kernel_rfl) (le_a) (fun v2 r h=>?_) fun v4 h e st' hq=>?_
 ·unfold khg at h
  refine cd 5 h (fun h=>?_) fun h=>?_
  ·refine ix kj7 5 h fun v3 h=>?_
   refine cd 12 h (fun h=>?_) fun h=>?_
   ·cases h;exact lor 7
   cases h;exact lj 5
  cases h;exact lo 1 (by kernel_rfl)
 rcases v4 with v5 | v6
 ·try simp only [qf,qg] at h
  obtain ⟨rfl,hle⟩:=hq
  refine ⟨_,hle,?_⟩
  cases h;exact lq 7
 ·try simp only [qf,qg] at h
  obtain ⟨rfl,hret⟩:=hq
  refine ⟨_,LeSt.refl,?_⟩
  cases h;exact lv hret
def kg8 (a0:BA):Option ((S_api_Operator)×(Bool)):=((kmz a0).bind fun v1=>(some (v1.1.f_Operator,v1.2)))
theorem kqo (a0:BA) (r:(S_api_Operator)×(Bool)) (h:kg8 a0=some r):kae Tryz.prog 101 [eS a0] (.tup [kn6 r.1,eB r.2]):=by
 unfold kg8 at h
 refine pcl [.ag [.keep, .sl 1, .keep], .one .keep] Tryz.func101 ?_
 refine cl 8 h (kyo _) (by kernel_rfl) fun v1 h=>?_
 cases h;exact lq 16
def krn (a0:La) (a1:Ru):List (Nat×AObj):=[(1,(.box 26 [(fS a0.name),(.fz (eL 1 eI a0.inputs)),(.fz (eL 2 eSy a0.symbols)),(.fz (eL 9 eRu a0.rules))])),(2,(.box 45 [(fI a1.symbol),(fI a1.kind),(fI a1.input),(fI a1.const.type),(fI a1.const.num),(fS a1.const.text),(.fz (eL 4 eVaR a1.const.items)),(fS a1.op),(.fz (eL 1 eI a1.args))]))]
def kh8 (a0:La) (a1:Ru) (v14:(S_api_Operator)×(Bool)) (v15:(Int)):Option ((Int) ⊕ ((Unit) ⊕ (Int))):=(bif (decide (v15<(List.length a1.args:Int))) then ((idx a1.args v15).bind fun v16=>((ki4 a0 v16).bind fun v17=>(bif (!v17) then (some (.inr (.inr 1))) else ((idx a0.symbols v16).bind fun v18=>((idx v14.1.f_Args v15).bind fun v19=>(bif (v18.type != v19) then (some (.inr (.inr 3))) else (some (.inl (w64 (v15+1)))))))))) else (some (.inr (.inl ()))))
def kj9 (a0:La) (a1:Ru):Option Int:=((ki4 a0 a1.symbol).bind fun v1=>(bif (!v1) then (some 1) else ((bif (decide (a1.kind<1)) then (some (true)) else (some (decide (3<a1.kind)))).bind fun v3=>(bif v3 then (some 4) else (((bif (a1.kind == 1) then (some (0,a1.const.type,a1.const.num,a1.const.text,a1.const.items,a1.op,a1.args)) else (bif (a1.kind == 2) then (some (a1.input,0,0,(⟨#[]⟩:BA),([]:List Va),a1.op,a1.args)) else (bif (a1.kind == 3) then (some (a1.input,a1.const.type,a1.const.num,a1.const.text,a1.const.items,(⟨#[]⟩:BA),([]:List Int))) else (some (a1.input,a1.const.type,a1.const.num,a1.const.text,a1.const.items,a1.op,a1.args))))):Option ((Int)×(Int)×(Int)×(BA)×(List Va)×(BA)×(List Int))).bind fun (v5:(Int)×(Int)×(Int)×(BA)×(List Va)×(BA)×(List Int))=>((ker (Ru.mk a1.symbol a1.kind v5.1 (Va.mk v5.2.1 v5.2.2.1 v5.2.2.2.1 v5.2.2.2.2.1) v5.2.2.2.2.2.1 v5.2.2.2.2.2.2) (Ru.mk a1.symbol a1.kind 0 (Va.mk 0 0 (⟨#[]⟩:BA) ([]:List Va)) (⟨#[]⟩:BA) ([]:List Int))).bind fun v6=>(bif (!v6) then (some 4) else ((idx a0.symbols a1.symbol).bind fun v7=>(bif (a1.kind == 1) then ((bif (decide (a1.input<0)) then (some (true)) else (some (decide ((List.length a0.inputs:Int)≤a1.input)))).bind fun v9=>(bif v9 then (some 1) else ((idx a0.inputs a1.input).bind fun v10=>((kg2 v10 v7.type).bind fun v11=>(some v11))))) else (bif (a1.kind == 2) then ((kah fuel a1.const).bind fun v12=>(bif (v12 != 0) then (some v12) else ((kg2 a1.const.type v7.type).bind fun v13=>(some v13)))) else ((kg8 a1.op).bind fun v14=>(bif (!v14.2) then (some 5) else (bif ((List.length a1.args:Int) != (List.length v14.1.f_Args:Int)) then (some 2) else ((kaa (kh8 a0 a1 v14) fuel 0).bind fun (v20:((Unit) ⊕ (Int)))=>Sum.elim (fun v21=>((kg2 v14.1.f_Result v7.type).bind fun v22=>(some v22))) (fun v23=>(some v23)) v20))))))))))))))
theorem kzu (a0:La) (a1:Ru) (r:Int) (h:kj9 a0 a1=some r):kae Tryz.prog 58 [eLa a0,eRu a1] (eI r):=by
 unfold kj9 at h
 refine pcl [.one .keep] Tryz.func58 ?_
 refine cl 12 h (kp6 _ _) (by kernel_rfl) fun v1 h=>?_
 refine cd 2 h (fun h=>?_) fun h=>?_
 ·cases h;exact lq 5
 refine jn1 3 .normal (fun v3=>⟨134,[(2,(.ref 1 0 0)),(3,(.ref 2 0 0)),(24,(fB v3))],(krn a0 a1),[2,1],[]⟩) h (fun v3 h=>?_) fun v3 h=>?_
 ·refine gd 5 h (fun h=>?_) fun h=>?_
  ·cases h;exact lj 5
  cases h;exact lj 5
 refine cd 0 h (fun h=>?_) fun h=>?_
 ·cases h;exact lq 5
 refine jn1 14 .normal (fun v5=>⟨134,[(2,(.ref 1 0 0)),(3,(.ref 2 0 0)),(5,(.ref 3 0 0))],[(1,(.box 26 [(fS a0.name),(.fz (eL 1 eI a0.inputs)),(.fz (eL 2 eSy a0.symbols)),(.fz (eL 9 eRu a0.rules))])),(2,(.box 45 [(fI a1.symbol),(fI a1.kind),(fI a1.input),(fI a1.const.type),(fI a1.const.num),(fS a1.const.text),(.fz (eL 4 eVaR a1.const.items)),(fS a1.op),(.fz (eL 1 eI a1.args))])),(3,(.box 45 [(fI a1.symbol),(fI a1.kind),(fI v5.1),(fI v5.2.1),(fI v5.2.2.1),(fS v5.2.2.2.1),(.fz (eL 4 eVaR v5.2.2.2.2.1)),(fS v5.2.2.2.2.2.1),(.fz (eL 1 eI v5.2.2.2.2.2.2))]))],[3,2,1],[]⟩) h (fun v5 h=>?_) fun v5 h=>?_
 ·refine cd 5 h (fun h=>?_) fun h=>?_
  ·cases h;exact lj 4
  refine cd 5 h (fun h=>?_) fun h=>?_
  ·cases h;exact lj 5
  refine cd 5 h (fun h=>?_) fun h=>?_
  ·cases h;exact lj 6
  cases h;exact lj 1
 refine cl 9 h (kof _ _) (by kernel_rfl) fun v6 h=>?_
 refine cd 2 h (fun h=>?_) fun h=>?_
 ·cases h;exact lq 5
 refine ix nSy 7 h fun v7 h=>?_
 refine cd 16 h (fun h=>?_) fun h=>?_
 ·refine jn1 2 .normal (fun v9=>⟨134,[(2,(.ref 1 0 0)),(3,(.ref 2 0 0)),(6,(fI v7.type)),(68,(fB v9))],(krn a0 a1),[2,1],[]⟩) h (fun v9 h=>?_) fun v9 h=>?_
  ·refine gd 5 h (fun h=>?_) fun h=>?_
   ·cases h;exact lj 8
   cases h;exact lj 8
  refine cd 0 h (fun h=>?_) fun h=>?_
  ·cases h;exact lq 5
  refine ix nI 7 h fun v10 h=>?_
  refine cl 2 h (kn5 _ _) (by kernel_rfl) fun v11 h=>?_
  cases h;exact lq 3
 refine cd 5 h (fun h=>?_) fun h=>?_
 ·refine cl 5 h (ks2 _ _) (by kernel_rfl) fun v12 h=>?_
  refine cd 7 h (fun h=>?_) fun h=>?_
  ·cases h;exact lq 6
  refine cl 7 h (kn5 _ _) (by kernel_rfl) fun v13 h=>?_
  cases h;exact lq 3
 refine cl 5 h (kqo _) (by kernel_rfl) fun v14 h=>?_
 refine cd 13 h (fun h=>?_) fun h=>?_
 ·cases h;exact lq 5
 refine cd 12 h (fun h=>?_) fun h=>?_
 ·cases h;exact lq 5
 refine lpx 10 (fun v15=>⟨134,[(2,(.ref 1 0 0)),(6,(fI v7.type)),(8,(.ref 4 0 0)),(106,(.fz (eL 1 eI a1.args))),(107,(fI (List.length a1.args:Int))),(108,(fI v15))],[(1,(.box 26 [(fS a0.name),(.fz (eL 1 eI a0.inputs)),(.fz (eL 2 eSy a0.symbols)),(.fz (eL 9 eRu a0.rules))])),(4,(.box 134 [(fS v14.1.f_Name),(.fz (eL 1 eI v14.1.f_Args)),(fI v14.1.f_Result)]))],[4,1],[]⟩) (fun v20 e st=>Sum.elim (fun p=>e = .exit 2∧LeSt st ⟨134,[(6,(fI v7.type)),(8,(.ref 4 0 0))],[(4,(.box 134 [(fS v14.1.f_Name),(.fz (eL 1 eI v14.1.f_Args)),(fI v14.1.f_Result)]))],[4],[]⟩) (fun p=>e = .ret∧retX TT st Tryz.f58.results.toList [.one .keep]=some (eI (p))) v20) h (by kernel_rfl) (le_a) (fun v15 r h=>?_) fun v20 h e st' hq=>?_
 ·unfold kh8 at h
  refine cd 5 h (fun h=>?_) fun h=>?_
  ·refine ix nI 6 h fun v16 h=>?_
   refine cl 9 h (kp6 _ _) (by kernel_rfl) fun v17 h=>?_
   refine cd 2 h (fun h=>?_) fun h=>?_
   ·cases h;exact lor 5
   refine dw 2 11 ?_
   refine ix nSy 3 h fun v18 h=>?_
   refine ix nI 5 h fun v19 h=>?_
   refine cd 4 h (fun h=>?_) fun h=>?_
   ·cases h;exact lor 5
   cases h;exact lj 5
  cases h;exact lo 1 (by kernel_rfl)
 rcases v20 with v21 | v23
 ·try simp only [qf,qg] at h
  obtain ⟨rfl,hle⟩:=hq
  refine ⟨_,hle,?_⟩
  refine cl 5 h (kn5 _ _) (by kernel_rfl) fun v22 h=>?_
  cases h;exact lq 3
 ·try simp only [qf,qg] at h
  obtain ⟨rfl,hret⟩:=hq
  refine ⟨_,LeSt.refl,?_⟩
  cases h;exact lv hret
end Go.Proofs.YtaimpcnpifoidaaGreatDoor
