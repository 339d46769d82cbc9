import Derived.Test.YtaimpcnpifoidaaGreatDoorZ0
set_option linter.unusedVariables false
set_option linter.unusedSimpArgs false
set_option maxRecDepth 100000
namespace Go.Proofs.YtaimpcnpifoidaaGreatDoor
open Go Go.RowKit Go.Proofs
set_option maxHeartbeats 2000000
attribute [local irreducible] NStep kdf ko2 LeSt
def kj6 (a0:Ru) (a1:Ru):Option Bool:=((ker a0 a1).bind fun v1=>(some v1))
theorem kuw (a0:Ru) (a1:Ru) (r:(Bool)) (h:kj6 a0 a1=some r):kat Tryz.prog 60 ([(.fz (eRu a0))]++[(.ref 1 0 0)]) [(1,(.box 45 [(fI a1.symbol),(fI a1.kind),(fI a1.input),(fI a1.const.type),(fI a1.const.num),(fS a1.const.text),(.fz (eL 4 eVaR a1.const.items)),(fS a1.op),(.fz (eL 1 eI a1.args))]))] [1] (.ret (fB r)) [(1,(.box 45 [(fI a1.symbol),(fI a1.kind),(fI a1.input),(fI a1.const.type),(fI a1.const.num),(fS a1.const.text),(.fz (eL 4 eVaR a1.const.items)),(fS a1.op),(.fz (eL 1 eI a1.args))]))] [1]:=by
 unfold kj6 at h
 refine hcx (gi:=0) Tryz.func60 ?_
 intro p0 q0 w0
 refine cl 9 h (kof _ _) (by kernel_rfl) fun v1 h=>?_
 cases h;exact lhy 3
def kev (p0:Env) (q0:Nat→Prop) (w0:World) (a1:Ru):List (Nat×AObj):=[(0,(.was p0 [1] q0 w0)),(1,(.box 45 [(fI a1.symbol),(fI a1.kind),(fI a1.input),(fI a1.const.type),(fI a1.const.num),(fS a1.const.text),(.fz (eL 4 eVaR a1.const.items)),(fS a1.op),(.fz (eL 1 eI a1.args))]))]
def kbq (a0:List Ru) (a1:Ru) (v1:(Int)):Option ((Int) ⊕ ((Unit) ⊕ (Int))):=(bif (decide (v1<(List.length a0:Int))) then ((idx a0 v1).bind fun v2=>((kj6 v2 a1).bind fun v3=>(bif v3 then (some (.inr (.inr v1))) else (some (.inl (w64 (v1+1))))))) else (some (.inr (.inl ()))))
def kdu (a0:List Ru) (a1:Ru):Option Int:=((kaa (kbq a0 a1) fuel 0).bind fun (v4:((Unit) ⊕ (Int)))=>Sum.elim (fun v5=>(some (-1))) (fun v6=>(some v6)) v4)
theorem kla (a0:List Ru) (a1:Ru) (r:(Int)) (h:kdu a0 a1=some r):kat Tryz.prog 102 ([(.fz (eL 9 eRu a0)),(.fn 60 [(.ref 1 0 0)])]++[]) [(1,(.box 45 [(fI a1.symbol),(fI a1.kind),(fI a1.input),(fI a1.const.type),(fI a1.const.num),(fS a1.const.text),(.fz (eL 4 eVaR a1.const.items)),(fS a1.op),(.fz (eL 1 eI a1.args))]))] [1] (.ret (fI r)) [(1,(.box 45 [(fI a1.symbol),(fI a1.kind),(fI a1.input),(fI a1.const.type),(fI a1.const.num),(fS a1.const.text),(.fz (eL 4 eVaR a1.const.items)),(fS a1.op),(.fz (eL 1 eI a1.args))]))] [1]:=by
 unfold kdu at h
 refine hcx (gi:=0) Tryz.func102 ?_
 intro p0 q0 w0
 refine lpx 12 (fun v1=>⟨19,[(0,(.fz (eL 9 eRu a0))),(1,(.fn 60 [(.ref 1 0 0)])),(7,(fI (List.length a0:Int))),(8,(fI v1))],(kev p0 q0 w0 a1),[0,1],[]⟩) (fun v4 e st=>Sum.elim (fun p=>e = .exit 0∧LeSt st ⟨19,[],(kev p0 q0 w0 a1),[0,1],[]⟩) (fun p=>e = .ret∧LeSt st ⟨19,[(4,(fI (p)))],(kev p0 q0 w0 a1),[0,1],[]⟩) v4) h (by kernel_rfl) (le_a) (fun v1 r h=>?_) fun v4 h e st' hq=>?_
 ·unfold kbq at h
  refine cd 5 h (fun h=>?_) fun h=>?_
  ·refine ix nRu 13 h fun v2 h=>?_
   refine hcl 1 [.one .keep] [(1,1)] [(1,1)] [1] h (kuw _ _) (fun _=>by kernel_rfl) fun v3 h=>?_
   refine cd 1 h (fun h=>?_) fun h=>?_
   ·cases h;exact lo 6 (by kernel_rfl)
   cases h;exact lj 5
  cases h;exact lo 1 (by kernel_rfl)
 rcases v4 with v5 | v6
 ·try simp only [qf,qg] at h
  obtain ⟨rfl,hle⟩:=hq
  refine ⟨_,hle,?_⟩
  cases h;exact lhy 5
 ·try simp only [qf,qg] at h
  obtain ⟨rfl,hle⟩:=hq
  refine ⟨_,hle,?_⟩
  cases h;exact lhy 0
def kb8 (a0:List Ru) (a1:Ru):Option Bool:=((kdu a0 a1).bind fun v1=>(some (decide (0≤v1))))
theorem kkn (a0:List Ru) (a1:Ru) (r:(Bool)) (h:kb8 a0 a1=some r):kat Tryz.prog 59 ([(.fz (eL 9 eRu a0)),(.fn 60 [(.ref 1 0 0)])]++[]) [(1,(.box 45 [(fI a1.symbol),(fI a1.kind),(fI a1.input),(fI a1.const.type),(fI a1.const.num),(fS a1.const.text),(.fz (eL 4 eVaR a1.const.items)),(fS a1.op),(.fz (eL 1 eI a1.args))]))] [1] (.ret (fB r)) [(1,(.box 45 [(fI a1.symbol),(fI a1.kind),(fI a1.input),(fI a1.const.type),(fI a1.const.num),(fS a1.const.text),(.fz (eL 4 eVaR a1.const.items)),(fS a1.op),(.fz (eL 1 eI a1.args))]))] [1]:=by
 unfold kb8 at h
 refine hcx (gi:=0) Tryz.func59 ?_
 intro p0 q0 w0
 refine hcl 8 [.one .keep, .one .keep] [(1,1)] [(1,1)] [1] h (kla _ _) (fun _=>by kernel_rfl) fun v1 h=>?_
 cases h;exact lhy 4
def kjh (a0:La):List (Nat×AObj):=[(1,(.box 26 [(fS a0.name),(.fz (eL 1 eI a0.inputs)),(.fz (eL 2 eSy a0.symbols)),(.fz (eL 9 eRu a0.rules))]))]
def kcc (a0:La) (v15:(Int)):Option ((Int) ⊕ ((Unit) ⊕ (Int))):=(bif (decide (v15<(List.length a0.rules:Int))) then ((idx a0.rules v15).bind fun v16=>((kj9 a0 v16).bind fun v17=>(bif (v17 != 0) then (some (.inr (.inr v17))) else ((cutL a0.rules 0 v15).bind fun v18=>((kb8 v18 v16).bind fun v19=>(bif v19 then (some (.inr (.inr 6))) else (some (.inl (w64 (v15+1)))))))))) else (some (.inr (.inl ()))))
def khe (a0:La) (v9:(Int)×(List (BA×Bool))):Option (((Int)×(List (BA×Bool))) ⊕ ((Unit) ⊕ (Int))):=(bif (decide (v9.1<(List.length a0.symbols:Int))) then ((idx a0.symbols v9.1).bind fun v10=>((kjr v10.name).bind fun v11=>(bif (!v11) then (some (.inr (.inr 5))) else (bif (mget v9.2 v10.name false) then (some (.inr (.inr 6))) else ((kjq v10.type).bind fun v12=>(bif (!v12) then (some (.inr (.inr 3))) else (some (.inl ((w64 (v9.1+1)),(mput v9.2 v10.name true)))))))))) else (some (.inr (.inl ()))))
def khl (a0:La) (v2:(Int)):Option ((Int) ⊕ ((Unit) ⊕ (Int))):=(bif (decide (v2<(List.length a0.inputs:Int))) then ((idx a0.inputs v2).bind fun v3=>((kjq v3).bind fun v4=>(bif (!v4) then (some (.inr (.inr 3))) else (some (.inl (w64 (v2+1))))))) else (some (.inr (.inl ()))))
def kdr (a0:La):Option Int:=((kjr a0.name).bind fun v1=>(bif (!v1) then (some 5) else (bif (decide (4<(List.length a0.inputs:Int))) then (some 2) else ((kaa (khl a0) fuel 0).bind fun (v5:((Unit) ⊕ (Int)))=>Sum.elim (fun v6=>((bif (decide ((List.length a0.symbols:Int)<1)) then (some (true)) else (some (decide (16<(List.length a0.symbols:Int))))).bind fun v8=>(bif v8 then (some 2) else ((kaa (khe a0) fuel (0,([]:List (BA×Bool)))).bind fun (v13:((Unit) ⊕ (Int)))=>Sum.elim (fun v14=>(bif (decide (96<(List.length a0.rules:Int))) then (some 2) else ((kaa (kcc a0) fuel 0).bind fun (v20:((Unit) ⊕ (Int)))=>Sum.elim (fun v21=>(some 0)) (fun v22=>(some v22)) v20))) (fun v23=>(some v23)) v13)))) (fun v24=>(some v24)) v5))))
theorem kja (a0:La) (r:Int) (h:kdr a0=some r):kae Tryz.prog 26 [eLa a0] (eI r):=by
 unfold kdr at h
 refine pcl [.one .keep] Tryz.func26 ?_
 refine cl 10 h (kq4 _) (by kernel_rfl) fun v1 h=>?_
 refine cd 2 h (fun h=>?_) fun h=>?_
 ·cases h;exact lq 5
 refine cd 9 h (fun h=>?_) fun h=>?_
 ·cases h;exact lq 5
 refine lpx 10 (fun v2=>⟨92,[(1,(.ref 1 0 0)),(20,(.fz (eL 1 eI a0.inputs))),(21,(fI (List.length a0.inputs:Int))),(22,(fI v2))],(kjh a0),[1],[]⟩) (fun v5 e st=>Sum.elim (fun p=>e = .exit 0∧LeSt st ⟨92,[(1,(.ref 1 0 0))],(kjh a0),[1],[]⟩) (fun p=>e = .ret∧retX TT st Tryz.f26.results.toList [.one .keep]=some (eI (p))) v5) h (by kernel_rfl) (le_a) (fun v2 r h=>?_) fun v5 h e st' hq=>?_
 ·unfold khl at h
  refine cd 5 h (fun h=>?_) fun h=>?_
  ·refine ix nI 5 h fun v3 h=>?_
   refine cl 6 h (kra _) (by kernel_rfl) fun v4 h=>?_
   refine cd 2 h (fun h=>?_) fun h=>?_
   ·cases h;exact lor 5
   cases h;exact lj 5
  cases h;exact lo 1 (by kernel_rfl)
 rcases v5 with v6 | v24
 ·try simp only [qf,qg] at h
  obtain ⟨rfl,hle⟩:=hq
  refine ⟨_,hle,?_⟩
  refine jn1 2 .normal (fun v8=>⟨92,[(1,(.ref 1 0 0)),(39,(fB v8))],(kjh a0),[1],[]⟩) h (fun v8 h=>?_) fun v8 h=>?_
  ·refine gd 6 h (fun h=>?_) fun h=>?_
   ·cases h;exact lj 6
   cases h;exact lj 6
  refine cd 0 h (fun h=>?_) fun h=>?_
  ·cases h;exact lq 5
  refine sst 3 (k1l (t:=109) (id:=2)) (by kernel_rfl) ?_
  refine lpx 11 (fun v9=>⟨92,[(1,(.ref 1 0 0)),(5,(.mp 2)),(42,(.fz (eL 2 eSy a0.symbols))),(43,(fI (List.length a0.symbols:Int))),(44,(fI v9.1))],[(1,(.box 26 [(fS a0.name),(.fz (eL 1 eI a0.inputs)),(.fz (eL 2 eSy a0.symbols)),(.fz (eL 9 eRu a0.rules))])),(2,(.smap (List.map (fun p=>(p.1,eB p.2)) v9.2)))],[2,1],[]⟩) (fun v13 e st=>Sum.elim (fun p=>e = .exit 2∧LeSt st ⟨92,[(1,(.ref 1 0 0))],(kjh a0),[1],[]⟩) (fun p=>e = .ret∧retX TT st Tryz.f26.results.toList [.one .keep]=some (eI (p))) v13) h (by kernel_rfl) (le_a) (fun v9 r h=>?_) fun v13 h e st' hq=>?_
  ·unfold khe at h
   refine cd 5 h (fun h=>?_) fun h=>?_
   ·refine ix nSy 5 h fun v10 h=>?_
    refine cl 10 h (kq4 _) (by kernel_rfl) fun v11 h=>?_
    refine cd 3 h (fun h=>?_) fun h=>?_
    ·cases h;exact lor 5
    refine nst 5 (kaf5 (t:=109) (x:=(.tmp 54)) (y:=(.tmp 56)) (enc:=eB) (m:=v9.2) (s:=v10.name) (z:=false) (id:=2) (d:=kzl) (kt:=9) (et:=4) (kd:=tt9) (.bool false) (by kernel_rfl) kb0 rfl (by kernel_rfl) rfl (by kernel_rfl) Tryz.t4 (by kernel_rfl) (by kernel_rfl) (by kernel_rfl) rfl) ?_
    refine cd 2 h (fun h=>?_) fun h=>?_
    ·cases h;exact lor 5
    refine cl 4 h (kra _) (by kernel_rfl) fun v12 h=>?_
    refine cd 3 h (fun h=>?_) fun h=>?_
    ·cases h;exact lor 5
    refine sst 5 (kxk (t:=109) (x:=(.tmp 63)) (y:=(.tmp 65)) (v:=(.const (.bool true))) (enc:=eB) (m:=v9.2) (s:=v10.name) (z:=true) (id:=2) (d:=kzl) (kt:=9) (et:=4) (kd:=tt9) (by kernel_rfl) kb0 rfl (by kernel_rfl) rfl) (by kernel_rfl) ?_
    cases h;exact lj 5
   cases h;exact lo 1 (by kernel_rfl)
  rcases v13 with v14 | v23
  ·try simp only [qf,qg] at h
   obtain ⟨rfl,hle⟩:=hq
   refine ⟨_,hle,?_⟩
   refine cd 8 h (fun h=>?_) fun h=>?_
   ·cases h;exact lq 5
   refine lpx 10 (fun v15=>⟨92,[(1,(.ref 1 0 0)),(72,(.fz (eL 9 eRu a0.rules))),(73,(fI (List.length a0.rules:Int))),(74,(fI v15))],(kjh a0),[1],[]⟩) (fun v20 e st=>Sum.elim (fun p=>e = .exit 5∧LeSt st ⟨92,[],[],[],[]⟩) (fun p=>e = .ret∧retX TT st Tryz.f26.results.toList [.one .keep]=some (eI (p))) v20) h (by kernel_rfl) (le_a) (fun v15 r h=>?_) fun v20 h e st' hq=>?_
   ·unfold kcc at h
    refine cd 5 h (fun h=>?_) fun h=>?_
    ·refine ix nRu 6 h fun v16 h=>?_
     refine cl 10 h (kzu _ _) (by kernel_rfl) fun v17 h=>?_
     refine cd 7 h (fun h=>?_) fun h=>?_
     ·cases h;exact lor 6
     obtain ⟨v18,hv18,h⟩:=qi.1 h
     refine nst 6 (kabq (t:=24) (x:=(.tmp 86)) (lo:=none) (hi:=(some (.tmp 87))) (d:=tt24) (e:=45) (de:=tt45) (size:=9) (enc:=eRu) (xs:=a0.rules) (l:=none) (h:=(some v15)) hv18 kb0) ?_
     refine hcl 1 [.one .keep, .one .keep] [(2,1)] [(1,2)] [1] h (kkn _ _) (fun _=>by kernel_rfl) fun v19 h=>?_
     refine cd 1 h (fun h=>?_) fun h=>?_
     ·cases h;exact lor 5
     cases h;exact lj 5
    cases h;exact lo 1 (by kernel_rfl)
   rcases v20 with v21 | v22
   ·try simp only [qf,qg] at h
    obtain ⟨rfl,hle⟩:=hq
    refine ⟨_,hle,?_⟩
    cases h;exact lq 5
   ·try simp only [qf,qg] at h
    obtain ⟨rfl,hret⟩:=hq
    refine ⟨_,LeSt.refl,?_⟩
    cases h;exact lv hret
  ·try simp only [qf,qg] at h
   obtain ⟨rfl,hret⟩:=hq
   refine ⟨_,LeSt.refl,?_⟩
   cases h;exact lv hret
 ·try simp only [qf,qg] at h
  obtain ⟨rfl,hret⟩:=hq
  refine ⟨_,LeSt.refl,?_⟩
  cases h;exact lv hret
def khh (a0:Tm) (r62:(Tm)→(Int)→Option Int) (v1:(Int)×(Int)):Option (((Int)×(Int)) ⊕ ((Int) ⊕ (Int))):=(bif (decide (v1.2<(List.length a0.args:Int))) then ((idx a0.args v1.2).bind fun v2=>(bif (decide (v1.1<0)) then (some (.inr (.inr v1.1))) else ((r62 v2 v1.1).bind fun v3=>(some (.inl (v3,(w64 (v1.2+1)))))))) else (some (.inr (.inl v1.1))))
def kk7 (r62:(Tm)→(Int)→Option Int) (a0:Tm) (a1:Int):Option Int:=((kaa (khh a0 r62) fuel ((w64 (a1 - 1)),0)).bind fun (v4:((Int) ⊕ (Int)))=>Sum.elim (fun v5=>(some v5)) (fun v6=>(some v6)) v4)
theorem kyl (r62:(Tm)→(Int)→Option Int) (ih62:∀ (x0:Tm) (x1:Int) r,r62 x0 x1=some r→kae Tryz.prog 62 [eTm x0,eI x1] (eI r)) (a0:Tm) (a1:Int) (r:Int) (h:kk7 r62 a0 a1=some r):kae Tryz.prog 62 [eTm a0,eI a1] (eI r):=by
 unfold kk7 at h
 refine pcl [.one .keep] Tryz.func62 ?_
 refine lpx 20 (fun v1=>⟨24,[(1,(fI v1.1)),(10,(.fz (eL 2 eTmR a0.args))),(11,(fI (List.length a0.args:Int))),(12,(fI v1.2))],[],[],[]⟩) (fun v4 e st=>Sum.elim (fun p=>e = .exit 0∧LeSt st ⟨24,[(1,(fI (p)))],[],[],[]⟩) (fun p=>e = .ret∧retX TT st Tryz.f62.results.toList [.one .keep]=some (eI (p))) v4) h (by kernel_rfl) (le_a) (fun v1 r h=>?_) fun v4 h e st' hq=>?_
 ·unfold khh at h
  refine cd 5 h (fun h=>?_) fun h=>?_
  ·refine ix nTmR 5 h fun v2 h=>?_
   refine cd 10 h (fun h=>?_) fun h=>?_
   ·cases h;exact lor 6
   refine cl 4 h (ih62 _ _) (by kernel_rfl) fun v3 h=>?_
   cases h;exact lj 6
  cases h;exact lo 1 (by kernel_rfl)
 rcases v4 with v5 | v6
 ·try simp only [qf,qg] at h
  obtain ⟨rfl,hle⟩:=hq
  refine ⟨_,hle,?_⟩
  cases h;exact lq 6
 ·try simp only [qf,qg] at h
  obtain ⟨rfl,hret⟩:=hq
  refine ⟨_,LeSt.refl,?_⟩
  cases h;exact lv hret
def kga:Nat→(Tm)→(Int)→Option (Int)
  | 0=>fun _ _=>none
  | n+1=>kk7 (kga n)
theorem ktc:∀ (n:Nat) (x0:Tm) (x1:Int) r,kga n x0 x1=some r→kae Tryz.prog 62 [eTm x0,eI x1] (eI r)
  | 0,_,_,_,h=>by cases h
  | n+1,x0,x1,r,h=>kyl (kga n) (ktc n) x0 x1 r h
def kid (a0:Tm) (a1:Int) (r63:(Tm)→(Int)→Option Bool) (v1:(Int)):Option ((Int) ⊕ ((Unit) ⊕ (Bool))):=(bif (decide (v1<(List.length a0.args:Int))) then ((idx a0.args v1).bind fun v2=>((r63 v2 (w64 (a1 - 1))).bind fun v3=>(bif (!v3) then (some (.inr (.inr false))) else (some (.inl (w64 (v1+1))))))) else (some (.inr (.inl ()))))
def kj8 (r63:(Tm)→(Int)→Option Bool) (a0:Tm) (a1:Int):Option Bool:=(bif (a1 == 0) then (some false) else ((kaa (kid a0 a1 r63) fuel 0).bind fun (v4:((Unit) ⊕ (Bool)))=>Sum.elim (fun v5=>(some true)) (fun v6=>(some v6)) v4))
theorem kxf (r63:(Tm)→(Int)→Option Bool) (ih63:∀ (x0:Tm) (x1:Int) r,r63 x0 x1=some r→kae Tryz.prog 63 [eTm x0,eI x1] (eB r)) (a0:Tm) (a1:Int) (r:Bool) (h:kj8 r63 a0 a1=some r):kae Tryz.prog 63 [eTm a0,eI a1] (eB r):=by
 unfold kj8 at h
 refine pcl [.one .keep] Tryz.func63 ?_
 refine cd 11 h (fun h=>?_) fun h=>?_
 ·cases h;exact lq 5
 refine lpx 10 (fun v1=>⟨22,[(1,(fI a1)),(10,(.fz (eL 2 eTmR a0.args))),(11,(fI (List.length a0.args:Int))),(12,(fI v1))],[],[],[]⟩) (fun v4 e st=>Sum.elim (fun p=>e = .exit 0∧LeSt st ⟨22,[],[],[],[]⟩) (fun p=>e = .ret∧retX TT st Tryz.f63.results.toList [.one .keep]=some (eB (p))) v4) h (by kernel_rfl) (le_a) (fun v1 r h=>?_) fun v4 h e st' hq=>?_
 ·unfold kid at h
  refine cd 5 h (fun h=>?_) fun h=>?_
  ·refine ix nTmR 5 h fun v2 h=>?_
   refine cl 9 h (ih63 _ _) (by kernel_rfl) fun v3 h=>?_
   refine cd 2 h (fun h=>?_) fun h=>?_
   ·cases h;exact lor 5
   cases h;exact lj 5
  cases h;exact lo 1 (by kernel_rfl)
 rcases v4 with v5 | v6
 ·try simp only [qf,qg] at h
  obtain ⟨rfl,hle⟩:=hq
  refine ⟨_,hle,?_⟩
  cases h;exact lq 5
 ·try simp only [qf,qg] at h
  obtain ⟨rfl,hret⟩:=hq
  refine ⟨_,LeSt.refl,?_⟩
  cases h;exact lv hret
def kgb:Nat→(Tm)→(Int)→Option (Bool)
  | 0=>fun _ _=>none
  | n+1=>kj8 (kgb n)
theorem kr4:∀ (n:Nat) (x0:Tm) (x1:Int) r,kgb n x0 x1=some r→kae Tryz.prog 63 [eTm x0,eI x1] (eB r)
  | 0,_,_,_,h=>by cases h
  | n+1,x0,x1,r,h=>kxf (kgb n) (kr4 n) x0 x1 r h
def kb6 (a0:La) (a2:Tm) (r64:(La)→(Int)→(Tm)→Option Int) (v3:Ru) (v4:(Int)):Option ((Int) ⊕ ((Unit) ⊕ (Int))):=(bif (decide (v4<(List.length a2.args:Int))) then ((idx a2.args v4).bind fun v5=>((idx v3.args v4).bind fun v6=>((r64 a0 v6 v5).bind fun v7=>(bif (v7 != 0) then (some (.inr (.inr v7))) else (some (.inl (w64 (v4+1)))))))) else (some (.inr (.inl ()))))
def kd5 (r64:(La)→(Int)→(Tm)→Option Int) (a0:La) (a1:Int) (a2:Tm):Option Int:=((bif (decide (a2.rule<0)) then (some (true)) else (some (decide ((List.length a0.rules:Int)≤a2.rule)))).bind fun v2=>(bif v2 then (some 1) else ((idx a0.rules a2.rule).bind fun v3=>(bif (v3.symbol != a1) then (some 3) else (bif ((List.length a2.args:Int) != (List.length v3.args:Int)) then (some 4) else ((kaa (kb6 a0 a2 r64 v3) fuel 0).bind fun (v8:((Unit) ⊕ (Int)))=>Sum.elim (fun v9=>(some 0)) (fun v10=>(some v10)) v8))))))
theorem kxd (r64:(La)→(Int)→(Tm)→Option Int) (ih64:∀ (x0:La) (x1:Int) (x2:Tm) r,r64 x0 x1 x2=some r→kae Tryz.prog 64 [eLa x0,eI x1,eTm x2] (eI r)) (a0:La) (a1:Int) (a2:Tm) (r:Int) (h:kd5 r64 a0 a1 a2=some r):kae Tryz.prog 64 [eLa a0,eI a1,eTm a2] (eI r):=by
 unfold kd5 at h
 refine pcl [.one .keep] Tryz.func64 ?_
 refine jn1 8 .normal (fun v2=>⟨59,[(1,(fI a1)),(3,(.ref 1 0 0)),(5,(.ref 2 0 0)),(21,(fB v2))],[(1,(.box 26 [(fS a0.name),(.fz (eL 1 eI a0.inputs)),(.fz (eL 2 eSy a0.symbols)),(.fz (eL 9 eRu a0.rules))])),(2,(.box 29 [(fI a2.rule),(.fz (eL 2 eTmR a2.args))]))],[2,1],[]⟩) h (fun v2 h=>?_) fun v2 h=>?_
 ·refine gd 5 h (fun h=>?_) fun h=>?_
  ·cases h;exact lj 8
  cases h;exact lj 8
 refine cd 0 h (fun h=>?_) fun h=>?_
 ·cases h;exact lq 5
 refine ix nRu 7 h fun v3 h=>?_
 refine cd 12 h (fun h=>?_) fun h=>?_
 ·cases h;exact lq 5
 refine cd 12 h (fun h=>?_) fun h=>?_
 ·cases h;exact lq 5
 refine lpx 10 (fun v4=>⟨59,[(3,(.ref 1 0 0)),(7,(.ref 3 0 0)),(40,(.fz (eL 2 eTmR a2.args))),(41,(fI (List.length a2.args:Int))),(42,(fI v4))],[(1,(.box 26 [(fS a0.name),(.fz (eL 1 eI a0.inputs)),(.fz (eL 2 eSy a0.symbols)),(.fz (eL 9 eRu a0.rules))])),(3,(.box 45 [(fI v3.symbol),(fI v3.kind),(fI v3.input),(fI v3.const.type),(fI v3.const.num),(fS v3.const.text),(.fz (eL 4 eVaR v3.const.items)),(fS v3.op),(.fz (eL 1 eI v3.args))]))],[3,1],[]⟩) (fun v8 e st=>Sum.elim (fun p=>e = .exit 0∧LeSt st ⟨59,[],[],[],[]⟩) (fun p=>e = .ret∧retX TT st Tryz.f64.results.toList [.one .keep]=some (eI (p))) v8) h (by kernel_rfl) (le_a) (fun v4 r h=>?_) fun v8 h e st' hq=>?_
 ·unfold kb6 at h
  refine cd 5 h (fun h=>?_) fun h=>?_
  ·refine ix nTmR 6 h fun v5 h=>?_
   refine dw 6 7 ?_
   refine ix nI 4 h fun v6 h=>?_
   refine cl 3 h (ih64 _ _ _) (by kernel_rfl) fun v7 h=>?_
   refine cd 7 h (fun h=>?_) fun h=>?_
   ·cases h;exact lor 6
   cases h;exact lj 5
  cases h;exact lo 1 (by kernel_rfl)
 rcases v8 with v9 | v10
 ·try simp only [qf,qg] at h
  obtain ⟨rfl,hle⟩:=hq
  refine ⟨_,hle,?_⟩
  cases h;exact lq 5
 ·try simp only [qf,qg] at h
  obtain ⟨rfl,hret⟩:=hq
  refine ⟨_,LeSt.refl,?_⟩
  cases h;exact lv hret
def kbh:Nat→(La)→(Int)→(Tm)→Option (Int)
  | 0=>fun _ _ _=>none
  | n+1=>kd5 (kbh n)
theorem krx:∀ (n:Nat) (x0:La) (x1:Int) (x2:Tm) r,kbh n x0 x1 x2=some r→kae Tryz.prog 64 [eLa x0,eI x1,eTm x2] (eI r)
  | 0,_,_,_,_,h=>by cases h
  | n+1,x0,x1,x2,r,h=>kxd (kbh n) (krx n) x0 x1 x2 r h
def kuz (a0:La) (a2:Tm):List (Nat×AObj):=[(1,(.box 26 [(fS a0.name),(.fz (eL 1 eI a0.inputs)),(.fz (eL 2 eSy a0.symbols)),(.fz (eL 9 eRu a0.rules))])),(2,(.box 29 [(fI a2.rule),(.fz (eL 2 eTmR a2.args))]))]
def keu (a0:La) (a1:Int) (a2:Tm):Option Int:=((kdr a0).bind fun v1=>(bif (v1 != 0) then (some v1) else ((bif (decide (a1<0)) then (some (true)) else (some (decide ((List.length a0.symbols:Int)≤a1)))).bind fun v3=>(bif v3 then (some 1) else (((kga fuel a2 4096).bind fun v4=>(bif (decide (v4<0)) then (some (true)) else ((kgb fuel a2 32).bind fun v5=>(some (!v5))))).bind fun v7=>(bif v7 then (some 2) else ((kbh fuel a0 a1 a2).bind fun v8=>(some v8))))))))
theorem ku3 (a0:La) (a1:Int) (a2:Tm) (r:Int) (h:keu a0 a1 a2=some r):kae Tryz.prog 27 [eLa a0,eI a1,eTm a2] (eI r):=by
 unfold keu at h
 refine pcl [.one .keep] Tryz.func27 ?_
 refine cl 10 h (kja _) (by kernel_rfl) fun v1 h=>?_
 refine cd 7 h (fun h=>?_) fun h=>?_
 ·cases h;exact lq 6
 refine jn1 3 .normal (fun v3=>⟨34,[(1,(fI a1)),(3,(.ref 1 0 0)),(5,(.ref 2 0 0)),(21,(fB v3))],(kuz a0 a2),[2,1],[]⟩) h (fun v3 h=>?_) fun v3 h=>?_
 ·refine gd 4 h (fun h=>?_) fun h=>?_
  ·cases h;exact lj 7
  cases h;exact lj 7
 refine cd 0 h (fun h=>?_) fun h=>?_
 ·cases h;exact lq 5
 refine jn1 3 .normal (fun v7=>⟨34,[(1,(fI a1)),(3,(.ref 1 0 0)),(5,(.ref 2 0 0)),(29,(fB v7))],(kuz a0 a2),[2,1],[]⟩) h (fun v7 h=>?_) fun v7 h=>?_
 ·refine cl 2 h (ktc _ _ _) (by kernel_rfl) fun v4 h=>?_
  refine gd 2 h (fun h=>?_) fun h=>?_
  ·cases h;exact lj 5
  refine cl 1 h (kr4 _ _ _) (by kernel_rfl) fun v5 h=>?_
  cases h;exact lj 3
 refine cd 0 h (fun h=>?_) fun h=>?_
 ·cases h;exact lq 5
 refine cl 6 h (krx _ _ _ _) (by kernel_rfl) fun v8 h=>?_
 cases h;exact lq 3
def kef (a0:Bool):Option BA:=(bif a0 then (some (⟨#[116,114,117,101]⟩:BA)) else (some (⟨#[102,97,108,115,101]⟩:BA)))
theorem knp (a0:Bool) (r:BA) (h:kef a0=some r):kae Tryz.prog 213 [eB a0] (eS r):=by
 unfold kef at h
 refine pcl [.one .keep] Tryz.func213 ?_
 refine cd 9 h (fun h=>?_) fun h=>?_
 ·cases h;exact lq 5
 cases h;exact lq 6
def kh4 (a0:Bool):Option BA:=((kef a0).bind fun v1=>(some v1))
theorem kss (a0:Bool) (r:BA) (h:kh4 a0=some r):kae Tryz.prog 200 [eB a0] (eS r):=by
 unfold kh4 at h
 refine pcl [.one .keep] Tryz.func200 ?_
 refine cl 7 h (knp _) (by kernel_rfl) fun v1 h=>?_
 cases h;exact lq 3
def kjo (a0:Int):Option Bool:=((bif (decide (32≤a0)) then (some (decide (a0≤126))) else (some (false))).bind fun v2=>(some v2))
theorem kq6 (a0:Int) (r:Bool) (h:kjo a0=some r):kae Tryz.prog 207 [eI32 a0] (eB r):=by
 unfold kjo at h
 refine pcl [.one .keep] Tryz.func207 ?_
 refine jn1 5 .normal (fun v2=>⟨9,[(2,(fB v2))],[],[],[]⟩) h (fun v2 h=>?_) fun v2 h=>?_
 ·refine gd 4 h (fun h=>?_) fun h=>?_
  ·cases h;exact lj 5
  cases h;exact lj 5
 cases h;exact lq 1
def km6 (a0:Int):Option ((BA)×(BA)):=(bif (a0 == 5) then (some ((⟨#[91]⟩:BA),(⟨#[93]⟩:BA))) else (bif (a0 == 6) then (some ((⟨#[123]⟩:BA),(⟨#[125]⟩:BA))) else (some ((⟨#[60]⟩:BA),(⟨#[62]⟩:BA)))))
theorem ku4 (a0:Int) (r:(BA)×(BA)) (h:km6 a0=some r):kae Tryz.prog 204 [eI a0] (.tup [eS r.1,eS r.2]):=by
 unfold km6 at h
 refine pcl [.one .keep, .one .keep] Tryz.func204 ?_
 refine cd 16 h (fun h=>?_) fun h=>?_
 ·cases h;exact lq 6
 refine cd 5 h (fun h=>?_) fun h=>?_
 ·cases h;exact lq 6
 cases h;exact lq 7
def kgz (a0:Int):Option Bool:=((bif (decide (97≤(ior .u8 a0 32))) then (some (decide ((ior .u8 a0 32)≤122))) else (some (false))).bind fun v2=>(some v2))
theorem klq (a0:Int) (r:Bool) (h:kgz a0=some r):kae Tryz.prog 109 [eU8 a0] (eB r):=by
 unfold kgz at h
 refine pcl [.one .keep] Tryz.func109 ?_
 refine jn1 5 .normal (fun v2=>⟨11,[(2,(fB v2))],[],[],[]⟩) h (fun v2 h=>?_) fun v2 h=>?_
 ·refine gd 5 h (fun h=>?_) fun h=>?_
  ·cases h;exact lj 6
  cases h;exact lj 6
 cases h;exact lq 1
def kco (a0:BA) (a1:BA):Option Bool:=((bif (decide ((a1.size:Int)≤(a0.size:Int))) then ((cutS a0 0 (a1.size:Int)).bind fun v1=>(some (v1.toList == a1.toList))) else (some (false))).bind fun v3=>(some v3))
theorem kmv (a0:BA) (a1:BA) (r:Bool) (h:kco a0 a1=some r):kae Tryz.prog 147 [eS a0,eS a1] (eB r):=by
 unfold kco at h
 refine pcl [.one .keep] Tryz.func147 ?_
 refine jn1 5 .normal (fun v3=>⟨18,[(4,(fB v3))],[],[],[]⟩) h (fun v3 h=>?_) fun v3 h=>?_
 ·refine gd 7 h (fun h=>?_) fun h=>?_
  ·obtain ⟨v1,hv1,h⟩:=qi.1 h
   refine nst 3 (kjv (t:=9) (x:=(.tmp 11)) (lo:=none) (hi:=(some (.tmp 13))) (d:=tt9) (s:=a0) (l:=none) (h:=(some (a1.size:Int))) hv1 kb0) ?_
   cases h;exact lj 5
  cases h;exact lj 9
 cases h;exact lq 1
def kcg (a0:BA) (a1:BA):Option Bool:=((kco a0 a1).bind fun v1=>(some v1))
theorem kkv (a0:BA) (a1:BA) (r:Bool) (h:kcg a0 a1=some r):kae Tryz.prog 112 [eS a0,eS a1] (eB r):=by
 unfold kcg at h
 refine pcl [.one .keep] Tryz.func112 ?_
 refine cl 8 h (kmv _ _) (by kernel_rfl) fun v1 h=>?_
 cases h;exact lq 3
def kmj (a0:BA) (a1:Int):Option Int:=((kfc a0 a1).bind fun v1=>(some v1))
theorem kuk (a0:BA) (a1:Int) (r:Int) (h:kmj a0 a1=some r):kae Tryz.prog 214 [eS a0,eU8 a1] (eI r):=by
 unfold kmj at h
 refine pcl [.one .keep] Tryz.func214 ?_
 refine cl 8 h (ki1 _ _) (by kernel_rfl) fun v1 h=>?_
 cases h;exact lq 3
def kmw (a0:Int):Option Int:=((kmj (⟨#[48,49,50,51,52,53,54,55,56,57,97,98,99,100,101,102]⟩:BA) a0).bind fun v1=>(some v1))
theorem k0p (a0:Int) (r:Int) (h:kmw a0=some r):kae Tryz.prog 209 [eU8 a0] (eI r):=by
 unfold kmw at h
 refine pcl [.one .keep] Tryz.func209 ?_
 refine cl 7 h (kuk _ _) (by kernel_rfl) fun v1 h=>?_
 cases h;exact lq 3
end Go.Proofs.YtaimpcnpifoidaaGreatDoor
