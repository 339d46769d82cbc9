import Derived.Test.YtaimpcnpifoidaaGreatDoorZ6
set_option linter.unusedVariables false
set_option linter.unusedSimpArgs false
set_option maxRecDepth 100000
namespace Go.Proofs.YtaimpcnpifoidaaGreatDoor
open Go Go.RowKit Go.Proofs
set_option maxHeartbeats 2000000
attribute [local irreducible] NStep kc9 kox LeSt
def kaw (a0:BA) (a1:Int):Option Int:=(bif (decide (a1<(a0.size:Int))) then ((byt a0 a1).bind fun v1=>(some v1)) else (some 0))
theorem kax (a0:BA) (a1:Int) (r:Int) (h:kaw a0 a1=some r):kad Tryz.prog 167 [eS a0,eI a1] (eU8 r):=by
 unfold kaw at h
 refine pcl [.one .keep] Tryz.func167 ?_
 refine cd 12 h (fun h=>?_) fun h=>?_
 ·refine byx 4 h fun v1 h=>?_
  cases h;exact lq 3
 cases h;exact lq 6
def ke9 (a0:BA) (a1:Int) (a2:BA) (v1:(Int)):Option ((Int) ⊕ ((Unit) ⊕ ((Int)×(Bool)))):=(bif (decide (v1<(a2.size:Int))) then ((kaw a0 (w64 (a1+v1))).bind fun v2=>((byt a2 v1).bind fun v3=>(bif (v2 != v3) then (some (.inr (.inr ((w64 (a1+v1)),false)))) else (some (.inl (w64 (v1+1))))))) else (some (.inr (.inl ()))))
def keb (a0:BA) (a1:Int) (a2:BA):Option ((Int)×(Bool)):=((kab (ke9 a0 a1 a2) fuel 0).bind fun (v4:((Unit) ⊕ ((Int)×(Bool))))=>Sum.elim (fun v5=>(some ((w64 (a1+(a2.size:Int))),true))) (fun v6=>(some v6)) v4)
theorem kjr (a0:BA) (a1:Int) (a2:BA) (r:(Int)×(Bool)) (h:keb a0 a1 a2=some r):kad Tryz.prog 168 [eS a0,eI a1,eS a2] (.tup [eI r.1,eB r.2]):=by
 unfold keb at h
 refine pcl [.one .keep, .one .keep] Tryz.func168 ?_
 refine lpx 11 (fun v1=>⟨31,[(0,(fS a0)),(1,(fI a1)),(2,(fS a2)),(8,(fI v1))],[],[],[]⟩) (fun v4 e st=>Sum.elim (fun p=>e = .exit 0∧LeSt st ⟨31,[(1,(fI a1)),(2,(fS a2))],[],[],[]⟩) (fun p=>e = .ret∧retX TT st Tryz.f168.results.toList [.one .keep, .one .keep]=some (.tup [eI (p.1),eB (p.2)])) v4) h (by kernel_rfl) (le_a) (fun v1 r h=>?_) fun v4 h e st' hq=>?_
 ·unfold ke9 at h
  refine cd 8 h (fun h=>?_) fun h=>?_
  ·refine dw 4 8 ?_
   refine cl 4 h (kax _ _) (by kernel_rfl) fun v2 h=>?_
   refine byx 2 h fun v3 h=>?_
   refine cd 3 h (fun h=>?_) fun h=>?_
   ·cases h;exact lor 9
   cases h;exact lj 6
  cases h;exact lo 1 (by kernel_rfl)
 rcases v4 with v5 | v6
 ·try simp only [qf,qh] at h
  obtain ⟨rfl,hle⟩:=hq
  refine ⟨_,hle,?_⟩
  cases h;exact lq 10
 ·try simp only [qf,qh] at h
  obtain ⟨rfl,hret⟩:=hq
  refine ⟨_,LeSt.refl,?_⟩
  cases h;exact lv hret
def kd0 (a0:Int):Option Int:=((bif (decide (48≤a0)) then (some (decide (a0≤57))) else (some (false))).bind fun v2=>(bif v2 then (some (w64 (wu8 (a0 - 48)))) else ((bif (decide (97≤a0)) then (some (decide (a0≤102))) else (some (false))).bind fun v4=>(bif v4 then (some (w64 ((w64 (wu8 (a0 - 97)))+10))) else (some (-1))))))
theorem khi (a0:Int) (r:Int) (h:kd0 a0=some r):kad Tryz.prog 173 [eU8 a0] (eI r):=by
 unfold kd0 at h
 refine pcl [.one .keep] Tryz.func173 ?_
 refine jn1 6 .normal (fun v2=>⟨22,[(0,(.fz (eU8 a0))),(8,(fB v2))],[],[],[]⟩) h (fun v2 h=>?_) fun v2 h=>?_
 ·refine gd 4 h (fun h=>?_) fun h=>?_
  ·cases h;exact lj 4
  cases h;exact lj 4
 refine cd 0 h (fun h=>?_) fun h=>?_
 ·cases h;exact lq 8
 refine jn1 3 .normal (fun v4=>⟨22,[(0,(.fz (eU8 a0))),(17,(fB v4))],[],[],[]⟩) h (fun v4 h=>?_) fun v4 h=>?_
 ·refine gd 4 h (fun h=>?_) fun h=>?_
  ·cases h;exact lj 4
  cases h;exact lj 4
 refine cd 0 h (fun h=>?_) fun h=>?_
 ·cases h;exact lq 9
 cases h;exact lq 6
def kbl (a0:BA) (a2:Int) (a3:Int) (a4:Bool) (v2:(Int)×(BA)):Option (((Int)×(BA)) ⊕ ((BA)×(Int)×(Bool))):=((((kaw a0 v2.1).bind fun v3=>((bif (v3 == 34) then (some (decide (a2≤(v2.2.size:Int)))) else (some (false))).bind fun v5=>(bif v5 then (some (.inr (.inr (v2.2,(w64 (v2.1+1)),true)))) else ((bif ((v2.2.size:Int) == a3) then (some (true)) else (bif (decide (v3<32)) then (some (true)) else (bif (decide (126<v3)) then (some (true)) else (some (v3 == 34))))).bind fun v7=>(bif v7 then (some (.inr (.inr ((⟨#[]⟩:BA),v2.1,false)))) else (bif (v3 != 92) then ((cutS a0 v2.1 (w64 (v2.1+1))).bind fun v8=>((cat v2.2 v8).bind fun v9=>(some (.inr (.inl ((w64 (v2.1+1)),v9)))))) else ((kaw a0 (w64 (v2.1+1))).bind fun v10=>((bif (v10 == 34) then (some (true)) else (some (v10 == 92))).bind fun v12=>(bif v12 then ((cutS a0 (w64 (v2.1+1)) (w64 ((w64 (v2.1+1))+1))).bind fun v13=>((cat v2.2 v13).bind fun v14=>(some (.inr (.inl ((w64 ((w64 (v2.1+1))+1)),v14)))))) else ((bif (!a4) then (some (true)) else (some (v10 != 120))).bind fun v16=>(bif v16 then (some (.inr (.inr ((⟨#[]⟩:BA),(w64 (v2.1+1)),false)))) else ((kaw a0 (w64 ((w64 (v2.1+1))+1))).bind fun v17=>((kd0 v17).bind fun v18=>((bif (decide (v18<0)) then (some (true)) else (bif (decide (2≤v18)) then (some (decide (v18≤6))) else (some (false)))).bind fun v20=>(bif v20 then (some (.inr (.inr ((⟨#[]⟩:BA),(w64 ((w64 (v2.1+1))+1)),false)))) else ((kaw a0 (w64 ((w64 ((w64 (v2.1+1))+1))+1))).bind fun v21=>((kd0 v21).bind fun v22=>((bif (decide (v22<0)) then (some (true)) else (bif (v18 == 7) then (some (decide (v22<15))) else (some (false)))).bind fun v24=>(bif v24 then (some (.inr (.inr ((⟨#[]⟩:BA),(w64 ((w64 ((w64 (v2.1+1))+1))+1)),false)))) else ((cat v2.2 (toBA ([(wu8 (w64 ((w64 (v18*16))+v22)))]:List Int))).bind fun v25=>(some (.inl v25)))))))))))))))))))))):Option ((BA) ⊕ (((Int)×(BA)) ⊕ ((BA)×(Int)×(Bool))))).bind fun (v26:((BA) ⊕ (((Int)×(BA)) ⊕ ((BA)×(Int)×(Bool)))))=>Sum.elim (fun v27=>(some (.inl ((w64 ((w64 ((w64 ((w64 (v2.1+1))+1))+1))+1)),v27)))) (Sum.elim (fun v28=>(some (.inl (v28.1,v28.2)))) (fun v29=>(some (.inr v29)))) v26)
def kdn (a0:BA) (a1:Int) (a2:Int) (a3:Int) (a4:Bool):Option ((BA)×(Int)×(Bool)):=((kaw a0 a1).bind fun v1=>(bif (v1 != 34) then (some ((⟨#[]⟩:BA),a1,false)) else ((kab (kbl a0 a2 a3 a4) fuel ((w64 (a1+1)),(⟨#[]⟩:BA))).bind fun (v31:(BA)×(Int)×(Bool))=>(some v31))))
theorem klh (a0:BA) (a1:Int) (a2:Int) (a3:Int) (a4:Bool) (r:(BA)×(Int)×(Bool)) (h:kdn a0 a1 a2 a3 a4=some r):kad Tryz.prog 170 [eS a0,eI a1,eI a2,eI a3,eB a4] (.tup [eS r.1,eI r.2.1,eB r.2.2]):=by
 unfold kdn at h
 refine pcl [.one .keep, .one .keep, .one .keep] Tryz.func170 ?_
 refine cl 11 h (kax _ _) (by kernel_rfl) fun v1 h=>?_
 refine cd 2 h (fun h=>?_) fun h=>?_
 ·cases h;exact lq 8
 refine lpx 12 (fun v2=>⟨141,[(0,(fS a0)),(1,(fI v2.1)),(2,(fI a2)),(3,(fI a3)),(4,(fB a4)),(13,(fS v2.2))],[],[],[]⟩) (fun v31 e st=>e = .ret∧retX TT st Tryz.f170.results.toList [.one .keep, .one .keep, .one .keep]=some (.tup [eS v31.1,eI v31.2.1,eB v31.2.2])) h (by kernel_rfl) (le_a) (fun v2 r h=>?_) fun v31 h e st' hq=>?_
 ·unfold kbl at h
  refine jnQ 1 (fun v26 e st=>Sum.elim (fun p=>e = .normal∧LeSt st ⟨141,[(0,(fS a0)),(1,(fI (w64 ((w64 ((w64 ((w64 (v2.1+1))+1))+1))+1)))),(2,(fI a2)),(3,(fI a3)),(4,(fB a4)),(13,(fS (p)))],[],[],[]⟩) (Sum.elim (fun p=>e = .exit 1∧LeSt st ⟨141,[(0,(fS a0)),(1,(fI (p.1))),(2,(fI a2)),(3,(fI a3)),(4,(fB a4)),(13,(fS (p.2)))],[],[],[]⟩) (fun p=>e = .ret∧retX TT st Tryz.f170.results.toList [.one .keep, .one .keep, .one .keep]=some (.tup [eS (p.1),eI (p.2.1),eB (p.2.2)]))) v26) h (fun v26 h=>?_) fun v26 h e st' hq=>?_
  ·refine cl 4 h (kax _ _) (by kernel_rfl) fun v3 h=>?_
   refine jn1 5 .normal (fun v5=>⟨141,[(0,(fS a0)),(1,(fI v2.1)),(2,(fI a2)),(3,(fI a3)),(4,(fB a4)),(13,(fS v2.2)),(14,(.fz (eU8 v3))),(27,(fB v5))],[],[],[]⟩) h (fun v5 h=>?_) fun v5 h=>?_
   ·refine gd 4 h (fun h=>?_) fun h=>?_
    ·cases h;exact lj 7
    cases h;exact lj 7
   refine cd 0 h (fun h=>?_) fun h=>?_
   ·cases h;exact lr 10
   refine jn1 1 .normal (fun v7=>⟨141,[(0,(fS a0)),(1,(fI v2.1)),(2,(fI a2)),(3,(fI a3)),(4,(fB a4)),(13,(fS v2.2)),(14,(.fz (eU8 v3))),(39,(fB v7))],[],[],[]⟩) h (fun v7 h=>?_) fun v7 h=>?_
   ·refine gd 6 h (fun h=>?_) fun h=>?_
    ·cases h;exact lj 13
    refine gd 4 h (fun h=>?_) fun h=>?_
    ·cases h;exact lj 9
    refine gd 4 h (fun h=>?_) fun h=>?_
    ·cases h;exact lj 5
    cases h;exact lj 5
   refine cd 0 h (fun h=>?_) fun h=>?_
   ·cases h;exact lr 8
   refine cd 6 h (fun h=>?_) fun h=>?_
   ·obtain ⟨v8,hv8,h⟩:=qg.1 h
    refine nst 7 (kb8 (t:=9) (x:=(.tmp 61)) (lo:=(some (.tmp 62))) (hi:=(some (.tmp 64))) (d:=tt9) (s:=a0) (l:=(some v2.1)) (h:=(some (w64 (v2.1+1)))) hv8 kaq) ?_
    obtain ⟨v9,hv9,h⟩:=qg.1 h
    refine nst 0 (kmr (t:=9) (X:=(.tmp 60)) (Y:=(.tmp 65)) (yt:=9) (s:=v2.2) (u:=v8) hv9) ?_
    cases h;exact lj 9
   refine cl 11 h (kax _ _) (by kernel_rfl) fun v10 h=>?_
   refine jn1 4 .normal (fun v12=>⟨141,[(0,(fS a0)),(1,(fI (w64 (v2.1+1)))),(2,(fI a2)),(3,(fI a3)),(4,(fB a4)),(13,(fS v2.2)),(14,(.fz (eU8 v10))),(79,(fB v12))],[],[],[]⟩) h (fun v12 h=>?_) fun v12 h=>?_
   ·refine gd 4 h (fun h=>?_) fun h=>?_
    ·cases h;exact lj 4
    cases h;exact lj 4
   refine cd 0 h (fun h=>?_) fun h=>?_
   ·obtain ⟨v13,hv13,h⟩:=qg.1 h
    refine nst 7 (kb8 (t:=9) (x:=(.tmp 81)) (lo:=(some (.tmp 82))) (hi:=(some (.tmp 84))) (d:=tt9) (s:=a0) (l:=(some (w64 (v2.1+1)))) (h:=(some (w64 ((w64 (v2.1+1))+1)))) hv13 kaq) ?_
    obtain ⟨v14,hv14,h⟩:=qg.1 h
    refine nst 0 (kmr (t:=9) (X:=(.tmp 80)) (Y:=(.tmp 85)) (yt:=9) (s:=v2.2) (u:=v13) hv14) ?_
    cases h;exact lj 9
   refine jn1 3 .normal (fun v16=>⟨141,[(0,(fS a0)),(1,(fI (w64 (v2.1+1)))),(2,(fI a2)),(3,(fI a3)),(4,(fB a4)),(13,(fS v2.2)),(94,(fB v16))],[],[],[]⟩) h (fun v16 h=>?_) fun v16 h=>?_
   ·refine gd 4 h (fun h=>?_) fun h=>?_
    ·cases h;exact lj 4
    cases h;exact lj 4
   refine cd 0 h (fun h=>?_) fun h=>?_
   ·cases h;exact lr 8
   refine cl 11 h (kax _ _) (by kernel_rfl) fun v17 h=>?_
   refine cl 0 h (khi _) (by kernel_rfl) fun v18 h=>?_
   refine jn1 4 .normal (fun v20=>⟨141,[(0,(fS a0)),(1,(fI (w64 ((w64 (v2.1+1))+1)))),(2,(fI a2)),(3,(fI a3)),(4,(fB a4)),(13,(fS v2.2)),(15,(fI v18)),(111,(fB v20))],[],[],[]⟩) h (fun v20 h=>?_) fun v20 h=>?_
   ·refine gd 4 h (fun h=>?_) fun h=>?_
    ·cases h;exact lj 8
    refine gd 3 h (fun h=>?_) fun h=>?_
    ·cases h;exact lj 5
    cases h;exact lj 5
   refine cd 0 h (fun h=>?_) fun h=>?_
   ·cases h;exact lr 8
   refine cl 11 h (kax _ _) (by kernel_rfl) fun v21 h=>?_
   refine cl 0 h (khi _) (by kernel_rfl) fun v22 h=>?_
   refine jn1 4 .normal (fun v24=>⟨141,[(0,(fS a0)),(1,(fI (w64 ((w64 ((w64 (v2.1+1))+1))+1)))),(2,(fI a2)),(3,(fI a3)),(4,(fB a4)),(13,(fS v2.2)),(15,(fI v18)),(16,(fI v22)),(128,(fB v24))],[],[],[]⟩) h (fun v24 h=>?_) fun v24 h=>?_
   ·refine gd 4 h (fun h=>?_) fun h=>?_
    ·cases h;exact lj 8
    refine gd 3 h (fun h=>?_) fun h=>?_
    ·cases h;exact lj 5
    cases h;exact lj 5
   refine cd 0 h (fun h=>?_) fun h=>?_
   ·cases h;exact lr 8
   refine nst 15 (s_b2s (sr:=56) (t:=9) (x:=(.tmp 138)) (e:=5) (de:=tt5) (ds:=tt56) (d:=tt9) (xs:=([(wu8 (w64 ((w64 (v18*16))+v22)))]:List Int)) kaq (by kernel_rfl) (by kernel_rfl) rfl (by kernel_rfl) rfl (by kernel_rfl) rfl) ?_
   obtain ⟨v25,hv25,h⟩:=qg.1 h
   refine nst 0 (kmr (t:=9) (X:=(.tmp 132)) (Y:=(.tmp 139)) (yt:=9) (s:=v2.2) (u:=(toBA ([(wu8 (w64 ((w64 (v18*16))+v22)))]:List Int))) hv25) ?_
   cases h;exact lj 2
  rcases v26 with v27 | (v28 | v29)
  ·try simp only [qf,qh] at h
   obtain ⟨rfl,hle⟩:=hq
   refine ⟨_,hle,?_⟩
   cases h;exact lj 0
  ·try simp only [qf,qh] at h
   obtain ⟨rfl,hle⟩:=hq
   refine ⟨_,hle,?_⟩
   cases h;exact lj 0
  ·try simp only [qf,qh] at h
   obtain ⟨rfl,hret⟩:=hq
   refine ⟨_,LeSt.refl,?_⟩
   cases h;exact lvo hret
 obtain ⟨rfl,hret⟩:=hq
 refine ⟨_,LeSt.refl,?_⟩
 cases h;exact lv hret
def kd7:List (Nat×AObj):=[(1,(.box 43 [(fI 0),(fI 0),(fS (⟨#[]⟩:BA)),(.fz (.atom (.slice none 0 0)))]))]
def kbq (a0:BA) (v7:(Int)×(Int)):Option (((Int)×(Int)) ⊕ ((Int)×(Int))):=((bif (decide (0<v7.2)) then ((kaw a0 v7.1).bind fun v8=>(bif (decide (48≤v8)) then ((kaw a0 v7.1).bind fun v9=>(bif (decide (v9≤57)) then ((kaw a0 v7.1).bind fun v10=>(some (decide ((w64 ((w64 (v7.2*10))+(w64 (wu8 (v10 - 48)))))≤1000000)))) else (some (false)))) else (some (false)))) else (some (false))).bind fun v12=>(bif v12 then ((kaw a0 v7.1).bind fun v13=>(some (.inl ((w64 (v7.1+1)),(w64 ((w64 (v7.2*10))+(w64 (wu8 (v13 - 48))))))))) else (some (.inr (v7.1,v7.2)))))
def kff (a0:BA) (a1:Int):Option ((Va)×(Int)×(Bool)):=((kaw a0 a1).bind fun v1=>((bif (v1 == 45) then (some (w64 (a1+1))) else (some a1)).bind fun v3=>((kaw a0 v3).bind fun v4=>((bif (decide (v4<48)) then (some (true)) else (bif (decide (57<v4)) then (some (true)) else (bif (v1 == 45) then (some (v4 == 48)) else (some (false))))).bind fun v6=>(bif v6 then (some ((Va.mk 0 0 (⟨#[]⟩:BA) ([]:List Va)),v3,false)) else ((kab (kbq a0) fuel ((w64 (v3+1)),(w64 (wu8 (v4 - 48))))).bind fun (v15:(Int)×(Int))=>((bif (v1 == 45) then (some (w64 (0 - v15.2))) else (some v15.2)).bind fun v17=>(some ((Va.mk 2 v17 (⟨#[]⟩:BA) ([]:List Va)),v15.1,true)))))))))
theorem kk7 (a0:BA) (a1:Int) (r:(Va)×(Int)×(Bool)) (h:kff a0 a1=some r):kad Tryz.prog 172 [eS a0,eI a1] (.tup [eVa r.1,eI r.2.1,eB r.2.2]):=by
 unfold kff at h
 refine pcl [.ag [.keep, .keep, .keep, .sl 4], .one .keep, .one .keep] Tryz.func172 ?_
 refine cl 10 h (kax _ _) (by kernel_rfl) fun v1 h=>?_
 refine jn1 4 .normal (fun v3=>⟨81,[(0,(fS a0)),(1,(fI v3)),(4,(.ref 1 0 0)),(7,(fB (v1 == 45)))],(kd7),[1],[]⟩) h (fun v3 h=>?_) fun v3 h=>?_
 ·refine cd 4 h (fun h=>?_) fun h=>?_
  ·cases h;exact lj 5
  cases h;exact lj 1
 refine cl 4 h (kax _ _) (by kernel_rfl) fun v4 h=>?_
 refine jn1 4 .normal (fun v6=>⟨81,[(0,(fS a0)),(1,(fI v3)),(4,(.ref 1 0 0)),(7,(fB (v1 == 45))),(8,(.fz (eU8 v4))),(32,(fB v6))],(kd7),[1],[]⟩) h (fun v6 h=>?_) fun v6 h=>?_
 ·refine gd 4 h (fun h=>?_) fun h=>?_
  ·cases h;exact lj 11
  refine gd 4 h (fun h=>?_) fun h=>?_
  ·cases h;exact lj 7
  refine gd 2 h (fun h=>?_) fun h=>?_
  ·cases h;exact lj 5
  cases h;exact lj 5
 refine cd 0 h (fun h=>?_) fun h=>?_
 ·cases h;exact lq 9
 refine lp1 16 (fun v7=>⟨81,[(0,(fS a0)),(1,(fI v7.1)),(4,(.ref 1 0 0)),(7,(fB (v1 == 45))),(9,(fI v7.2))],(kd7),[1],[]⟩) (.exit 0) (fun v15=>⟨81,[(1,(fI v15.1)),(4,(.ref 1 0 0)),(7,(fB (v1 == 45))),(9,(fI v15.2))],(kd7),[1],[]⟩) h (fun v7 r h=>?_) fun v15 h=>?_
 ·unfold kbq at h
  refine jn1 2 .normal (fun v12=>⟨81,[(0,(fS a0)),(1,(fI v7.1)),(4,(.ref 1 0 0)),(7,(fB (v1 == 45))),(9,(fI v7.2)),(64,(fB v12))],(kd7),[1],[]⟩) h (fun v12 h=>?_) fun v12 h=>?_
  ·refine gd 4 h (fun h=>?_) fun h=>?_
   ·refine cl 2 h (kax _ _) (by kernel_rfl) fun v8 h=>?_
    refine gd 3 h (fun h=>?_) fun h=>?_
    ·refine cl 2 h (kax _ _) (by kernel_rfl) fun v9 h=>?_
     refine gd 3 h (fun h=>?_) fun h=>?_
     ·refine cl 4 h (kax _ _) (by kernel_rfl) fun v10 h=>?_
      cases h;exact lj 6
     cases h;exact lj 11
    cases h;exact lj 17
   cases h;exact lj 23
  refine cd 0 h (fun h=>?_) fun h=>?_
  ·refine cl 8 h (kax _ _) (by kernel_rfl) fun v13 h=>?_
   cases h;exact lj 10
  cases h;exact lo 1 (by kernel_rfl)
 refine jn1 1 .normal (fun v17=>⟨81,[(1,(fI v15.1)),(4,(.ref 1 0 0)),(9,(fI v17))],(kd7),[1],[]⟩) h (fun v17 h=>?_) fun v17 h=>?_
 ·refine cd 4 h (fun h=>?_) fun h=>?_
  ·cases h;exact lj 5
  cases h;exact lj 1
 cases h;exact lq 10
def kbw (r169:(BA)→(Int)→(Int)→(Int)→Option ((Va)×(Int)×(Bool))) (r171:(BA)→(Int)→(Int)→(Int)→(Int)→(Int)→Option ((List Va)×(Int)×(Bool))) (a0:BA) (a1:Int) (a2:Int) (a3:Int):Option ((Va)×(Int)×(Bool)):=(bif (a2 == 2) then ((kff a0 a1).bind fun v1=>(some (v1.1,v1.2.1,v1.2.2))) else (bif (a2 == 3) then ((kdn a0 a1 0 64 (false)).bind fun v2=>(some ((Va.mk 3 0 v2.1 ([]:List Va)),v2.2.1,v2.2.2))) else ((kaw a0 a1).bind fun v3=>(bif (v3 != 123) then (some ((Va.mk 0 0 (⟨#[]⟩:BA) ([]:List Va)),a1,false)) else (((bif (a3 == 0) then (some (1,8)) else (some (0,16))):Option ((Int)×(Int))).bind fun (v5:(Int)×(Int))=>(((bif (decide (0<a3)) then (some (a3,a3)) else (some (v5.1,v5.2))):Option ((Int)×(Int))).bind fun (v7:(Int)×(Int))=>((r171 a0 (w64 (a1+1)) 3 v7.1 v7.2 125).bind fun v8=>(some ((Va.mk 6 0 (⟨#[]⟩:BA) v8.1),v8.2.1,v8.2.2)))))))))
theorem kpm (r169:(BA)→(Int)→(Int)→(Int)→Option ((Va)×(Int)×(Bool))) (r171:(BA)→(Int)→(Int)→(Int)→(Int)→(Int)→Option ((List Va)×(Int)×(Bool))) (ih169:∀ (x0:BA) (x1:Int) (x2:Int) (x3:Int) r,r169 x0 x1 x2 x3=some r→kad Tryz.prog 169 [eS x0,eI x1,eI x2,eI x3] (.tup [eVa r.1,eI r.2.1,eB r.2.2])) (ih171:∀ (x0:BA) (x1:Int) (x2:Int) (x3:Int) (x4:Int) (x5:Int) r,r171 x0 x1 x2 x3 x4 x5=some r→kad Tryz.prog 171 [eS x0,eI x1,eI x2,eI x3,eI x4,eU8 x5] (.tup [(eL 4 eVaR) r.1,eI r.2.1,eB r.2.2])) (a0:BA) (a1:Int) (a2:Int) (a3:Int) (r:(Va)×(Int)×(Bool)) (h:kbw r169 r171 a0 a1 a2 a3=some r):kad Tryz.prog 169 [eS a0,eI a1,eI a2,eI a3] (.tup [eVa r.1,eI r.2.1,eB r.2.2]):=by
 unfold kbw at h
 refine pcl [.ag [.keep, .keep, .keep, .sl 4], .one .keep, .one .keep] Tryz.func169 ?_
 refine cd 17 h (fun h=>?_) fun h=>?_
 ·refine cl 4 h (kk7 _ _) (by kernel_rfl) fun v1 h=>?_
  cases h;exact lq 8
 refine cd 5 h (fun h=>?_) fun h=>?_
 ·refine cl 4 h (klh _ _ _ _ _) (by kernel_rfl) fun v2 h=>?_
  cases h;exact lq 19
 refine cl 6 h (kax _ _) (by kernel_rfl) fun v3 h=>?_
 refine cd 2 h (fun h=>?_) fun h=>?_
 ·cases h;exact lq 9
 refine jn1 7 .normal (fun v5=>⟨67,[(0,(fS a0)),(1,(fI a1)),(3,(fI a3)),(8,(.ref 1 0 0)),(14,(fI v5.1)),(15,(fI v5.2))],[(1,(.box 43 [(fI 0),(fI 0),(fS (⟨#[]⟩:BA)),(.fz (.atom (.slice none 0 0)))]))],[1],[]⟩) h (fun v5 h=>?_) fun v5 h=>?_
 ·refine cd 5 h (fun h=>?_) fun h=>?_
  ·cases h;exact lj 4
  cases h;exact lj 1
 refine jn1 1 .normal (fun v7=>⟨67,[(0,(fS a0)),(1,(fI a1)),(8,(.ref 1 0 0)),(14,(fI v7.1)),(15,(fI v7.2))],[(1,(.box 43 [(fI 0),(fI 0),(fS (⟨#[]⟩:BA)),(.fz (.atom (.slice none 0 0)))]))],[1],[]⟩) h (fun v7 h=>?_) fun v7 h=>?_
 ·refine cd 5 h (fun h=>?_) fun h=>?_
  ·cases h;exact lj 6
  cases h;exact lj 1
 refine cl 7 h (ih171 _ _ _ _ _ _) (by kernel_rfl) fun v8 h=>?_
 cases h;exact lq 19
def kbe (a0:BA) (a2:Int) (a3:Int) (a4:Int) (a5:Int) (r169:(BA)→(Int)→(Int)→(Int)→Option ((Va)×(Int)×(Bool))) (v1:(Int)×(List Va)):Option (((Int)×(List Va)) ⊕ ((List Va)×(Int)×(Bool))):=(((kaw a0 v1.1).bind fun v2=>(bif (v2 == a5) then (some (decide (a3≤(List.length v1.2:Int)))) else (some (false)))).bind fun v4=>(bif v4 then (some (.inr (v1.2,(w64 (v1.1+1)),true))) else (bif ((List.length v1.2:Int) == a4) then (some (.inr (([]:List Va),v1.1,false))) else (((bif (decide (0<(List.length v1.2:Int))) then ((keb a0 v1.1 (⟨#[44,32]⟩:BA)).bind fun v5=>(bif (!v5.2) then (some (.inr (([]:List Va),v5.1,false))) else (some (.inl v5.1)))) else (some (.inl v1.1))):Option ((Int) ⊕ ((List Va)×(Int)×(Bool)))).bind fun (v6:((Int) ⊕ ((List Va)×(Int)×(Bool))))=>Sum.elim (fun v7=>((bif (decide (0<(List.length v1.2:Int))) then ((idx v1.2 0).bind fun v8=>(some (List.length v8.items:Int))) else (some 0)).bind fun v10=>((r169 a0 v7 a2 v10).bind fun v11=>(bif (!v11.2.2) then (some (.inr (([]:List Va),v11.2.1,false))) else ((app 56 v1.2 ([v11.1]:List (Va))).bind fun v12=>(some (.inl (v11.2.1,v12)))))))) (fun v13=>(some (.inr v13))) v6))))
def kcr (r169:(BA)→(Int)→(Int)→(Int)→Option ((Va)×(Int)×(Bool))) (r171:(BA)→(Int)→(Int)→(Int)→(Int)→(Int)→Option ((List Va)×(Int)×(Bool))) (a0:BA) (a1:Int) (a2:Int) (a3:Int) (a4:Int) (a5:Int):Option ((List Va)×(Int)×(Bool)):=((kab (kbe a0 a2 a3 a4 a5 r169) fuel (a1,([]:List (Va)))).bind fun (v15:(List Va)×(Int)×(Bool))=>(some v15))
theorem kqi (r169:(BA)→(Int)→(Int)→(Int)→Option ((Va)×(Int)×(Bool))) (r171:(BA)→(Int)→(Int)→(Int)→(Int)→(Int)→Option ((List Va)×(Int)×(Bool))) (ih169:∀ (x0:BA) (x1:Int) (x2:Int) (x3:Int) r,r169 x0 x1 x2 x3=some r→kad Tryz.prog 169 [eS x0,eI x1,eI x2,eI x3] (.tup [eVa r.1,eI r.2.1,eB r.2.2])) (ih171:∀ (x0:BA) (x1:Int) (x2:Int) (x3:Int) (x4:Int) (x5:Int) r,r171 x0 x1 x2 x3 x4 x5=some r→kad Tryz.prog 171 [eS x0,eI x1,eI x2,eI x3,eI x4,eU8 x5] (.tup [(eL 4 eVaR) r.1,eI r.2.1,eB r.2.2])) (a0:BA) (a1:Int) (a2:Int) (a3:Int) (a4:Int) (a5:Int) (r:(List Va)×(Int)×(Bool)) (h:kcr r169 r171 a0 a1 a2 a3 a4 a5=some r):kad Tryz.prog 171 [eS a0,eI a1,eI a2,eI a3,eI a4,eU8 a5] (.tup [(eL 4 eVaR) r.1,eI r.2.1,eB r.2.2]):=by
 unfold kcr at h
 refine pcl [.one (.sl 4), .one .keep, .one .keep] Tryz.func171 ?_
 refine wle 11 (kiy (e:=43) (size:=4) (t:=15) (id:=1) (by decide)) ?_
 refine lpx 0 (fun v1=>⟨79,[(0,(fS a0)),(1,(fI v1.1)),(2,(fI a2)),(3,(fI a3)),(4,(fI a4)),(5,(.fz (eU8 a5))),(15,(.row 1 (List.length v1.2)))],[(1,(.frow 43 4 (List.map eVaR v1.2)))],[1],[]⟩) (fun v15 e st=>e = .ret∧retX TT st Tryz.f171.results.toList [.one (.sl 4), .one .keep, .one .keep]=some (.tup [(eL 4 eVaR) v15.1,eI v15.2.1,eB v15.2.2])) h (by kernel_rfl) (le_a) (fun v1 r h=>?_) fun v15 h e st' hq=>?_
 ·unfold kbe at h
  refine jn1 3 .normal (fun v4=>⟨79,[(0,(fS a0)),(1,(fI v1.1)),(2,(fI a2)),(3,(fI a3)),(4,(fI a4)),(5,(.fz (eU8 a5))),(15,(.row 1 (List.length v1.2))),(32,(fB v4))],[(1,(.frow 43 4 (List.map eVaR v1.2)))],[1],[]⟩) h (fun v4 h=>?_) fun v4 h=>?_
  ·refine cl 3 h (kax _ _) (by kernel_rfl) fun v2 h=>?_
   refine gd 3 h (fun h=>?_) fun h=>?_
   ·refine nst 1 (kgr (t:=41) (x:=(.tmp 28)) (d:=tt41) (id:=1) (e2:=43) (e:=43) (size:=4) (n:=List.length v1.2) (xs:=List.map eVaR v1.2) kaq (by kernel_rfl) (by kernel_rfl) rfl (by kernel_rfl) (by kernel_rfl) (by simp)) ?_
    cases h;exact lj 4
   cases h;exact lj 6
  refine cd 0 h (fun h=>?_) fun h=>?_
  ·refine wle 9 (kna (t:=12) (id:=1) (n:=List.length v1.2) (e:=43) (size:=4) (xs:=List.map eVaR v1.2) (by kernel_rfl) (by kernel_rfl) (by simp)) ?_
   cases h;exact lor 1
  refine nst 5 (kgr (t:=41) (x:=(.tmp 36)) (d:=tt41) (id:=1) (e2:=43) (e:=43) (size:=4) (n:=List.length v1.2) (xs:=List.map eVaR v1.2) kaq (by kernel_rfl) (by kernel_rfl) rfl (by kernel_rfl) (by kernel_rfl) (by simp)) ?_
  refine cd 3 h (fun h=>?_) fun h=>?_
  ·cases h;exact lor 8
  refine jnQ 2 (fun v6 e st=>Sum.elim (fun p=>e = .normal∧LeSt st ⟨79,[(0,(fS a0)),(1,(fI (p))),(2,(fI a2)),(3,(fI a3)),(4,(fI a4)),(5,(.fz (eU8 a5))),(15,(.row 1 (List.length v1.2)))],[(1,(.frow 43 4 (List.map eVaR v1.2)))],[1],[]⟩) (fun p=>e = .ret∧retX TT st Tryz.f171.results.toList [.one (.sl 4), .one .keep, .one .keep]=some (.tup [(eL 4 eVaR) (p.1),eI (p.2.1),eB (p.2.2)])) v6) h (fun v6 h=>?_) fun v6 h e st' hq=>?_
  ·refine nst 3 (kgr (t:=41) (x:=(.tmp 41)) (d:=tt41) (id:=1) (e2:=43) (e:=43) (size:=4) (n:=List.length v1.2) (xs:=List.map eVaR v1.2) kaq (by kernel_rfl) (by kernel_rfl) rfl (by kernel_rfl) (by kernel_rfl) (by simp)) ?_
   refine cd 2 h (fun h=>?_) fun h=>?_
   ·refine cl 4 h (kjr _ _ _) (by kernel_rfl) fun v5 h=>?_
    refine cd 12 h (fun h=>?_) fun h=>?_
    ·cases h;exact lr 8
    cases h;exact lj 5
   cases h;exact lj 1
  rcases v6 with v7 | v13
  ·try simp only [qf,qh] at h
   obtain ⟨rfl,hle⟩:=hq
   refine ⟨_,hle,?_⟩
   refine jn1 5 .normal (fun v10=>⟨79,[(0,(fS a0)),(1,(fI v7)),(2,(fI a2)),(3,(fI a3)),(4,(fI a4)),(5,(.fz (eU8 a5))),(15,(.row 1 (List.length v1.2))),(18,(fI v10))],[(1,(.frow 43 4 (List.map eVaR v1.2)))],[1],[]⟩) h (fun v10 h=>?_) fun v10 h=>?_
   ·refine nst 3 (kgr (t:=41) (x:=(.tmp 54)) (d:=tt41) (id:=1) (e2:=43) (e:=43) (size:=4) (n:=List.length v1.2) (xs:=List.map eVaR v1.2) kaq (by kernel_rfl) (by kernel_rfl) rfl (by kernel_rfl) (by kernel_rfl) (by simp)) ?_
    refine cd 2 h (fun h=>?_) fun h=>?_
    ·obtain ⟨v8,hv8,h⟩:=qg.1 h
     refine nst 2 (k62 nVaR (t:=41) (X:=(.tmp 57)) (Y:=(.const (.int .i64 0))) (id:=1) (k := .i64) (d:=tt41) (e:=43) (de:=tt43) (xs:=v1.2) (n:=List.length v1.2) hv8 kaq (by kernel_rfl) (by kernel_rfl) (by kernel_rfl) (by kernel_rfl) (by kernel_rfl) (by kernel_rfl) (by kernel_rfl) rfl) ?_
     refine nst 0 (k81 (fs:=[(3,0),(2,1),(9,2),(41,3)]) (s:=43) (x:=(.tmp 58)) (f:=3) (d:=tt43) (ft:=41) (off:=3) (n:=List.length v1.2) (p:=Int.toNat 0*4) (q:=0) (e:=43) (size:=4) (xs:=List.map eVaR v1.2) (df:=tt41) (id:=1) kaq (by kernel_rfl) (by kernel_rfl) (by kernel_rfl) (by kernel_rfl) (by kernel_rfl) (by kernel_rfl) (by kernel_rfl) (by kernel_rfl) (by simp)) ?_
     refine nst 0 (k8p nVaR (y:=(eL 4 eVaR v8.items)) (t:=41) (X:=(.tmp 59)) (id:=1) (d:=tt41) (e:=43) (xs:=v1.2) (x:=v8) (i:=0) (q:=3) (n:=List.length v1.2) hv8 kaq (by kernel_rfl) (by kernel_rfl) (by kernel_rfl) (by kernel_rfl) (by kernel_rfl) rfl) ?_
     cases h;exact lj 3
    cases h;exact lj 1
   refine cl 6 h (ih169 _ _ _ _) (by kernel_rfl) fun v11 h=>?_
   refine cd 15 h (fun h=>?_) fun h=>?_
   ·cases h;exact lor 8
   refine wle 6 (kro (t:=76) (x := .lim 4 1 [eVa v11.1]) (y := .lim 4 1 (List.map eVaR ([v11.1]:List (Va)))) (by kernel_rfl) (by simp only [List.map,kkz])) ?_
   refine ap nVaR 0 h fun v12 h=>?_
   cases h;exact lj 6
  ·try simp only [qf,qh] at h
   obtain ⟨rfl,hret⟩:=hq
   refine ⟨_,LeSt.refl,?_⟩
   cases h;exact lvo hret
 obtain ⟨rfl,hret⟩:=hq
 refine ⟨_,LeSt.refl,?_⟩
 cases h;exact lv hret
def kdv:Nat→((BA)→(Int)→(Int)→(Int)→Option ((Va)×(Int)×(Bool)))×((BA)→(Int)→(Int)→(Int)→(Int)→(Int)→Option ((List Va)×(Int)×(Bool)))
  | 0=>(fun _ _ _ _=>none,fun _ _ _ _ _ _=>none)
  | n+1=>(kbw ((kdv n).1) ((kdv n).2),kcr ((kdv n).1) ((kdv n).2))
def kap (n:Nat):(BA)→(Int)→(Int)→(Int)→Option ((Va)×(Int)×(Bool)):=(kdv n).1
def kbu (n:Nat):(BA)→(Int)→(Int)→(Int)→(Int)→(Int)→Option ((List Va)×(Int)×(Bool)):=(kdv n).2
theorem kc3:∀ n:Nat,(∀ (x0:BA) (x1:Int) (x2:Int) (x3:Int) r,kap n x0 x1 x2 x3=some r→kad Tryz.prog 169 [eS x0,eI x1,eI x2,eI x3] (.tup [eVa r.1,eI r.2.1,eB r.2.2]))∧(∀ (x0:BA) (x1:Int) (x2:Int) (x3:Int) (x4:Int) (x5:Int) r,kbu n x0 x1 x2 x3 x4 x5=some r→kad Tryz.prog 171 [eS x0,eI x1,eI x2,eI x3,eI x4,eU8 x5] (.tup [(eL 4 eVaR) r.1,eI r.2.1,eB r.2.2]))
  | 0=>⟨(fun _ _ _ _ _ h=>nomatch h),(fun _ _ _ _ _ _ _ h=>nomatch h)⟩
  | n+1=>⟨(kpm _ _ ((kc3 n).1) ((kc3 n).2)),(kqi _ _ ((kc3 n).1) ((kc3 n).2))⟩
theorem kld (n:Nat):∀ (x0:BA) (x1:Int) (x2:Int) (x3:Int) r,kap n x0 x1 x2 x3=some r→kad Tryz.prog 169 [eS x0,eI x1,eI x2,eI x3] (.tup [eVa r.1,eI r.2.1,eB r.2.2]):=(kc3 n).1
theorem kmo (n:Nat):∀ (x0:BA) (x1:Int) (x2:Int) (x3:Int) (x4:Int) (x5:Int) r,kbu n x0 x1 x2 x3 x4 x5=some r→kad Tryz.prog 171 [eS x0,eI x1,eI x2,eI x3,eI x4,eU8 x5] (.tup [(eL 4 eVaR) r.1,eI r.2.1,eB r.2.2]):=(kc3 n).2
def kgq (a0:BA) (a1:Int):Option ((Va)×(Int)×(Bool)):=((kaw a0 a1).bind fun v1=>(bif (v1 == 116) then ((keb a0 a1 (⟨#[116,114,117,101]⟩:BA)).bind fun v2=>(some ((Va.mk 1 1 (⟨#[]⟩:BA) ([]:List Va)),v2.1,v2.2))) else (bif (v1 == 102) then ((keb a0 a1 (⟨#[102,97,108,115,101]⟩:BA)).bind fun v3=>(some ((Va.mk 1 0 (⟨#[]⟩:BA) ([]:List Va)),v3.1,v3.2))) else (bif (v1 == 34) then ((kap fuel a0 a1 3 0).bind fun v4=>(some (v4.1,v4.2.1,v4.2.2))) else (bif (v1 == 114) then ((kdn a0 (w64 (a1+1)) 1 40 (false)).bind fun v5=>(some ((Va.mk 8 0 v5.1 ([]:List Va)),v5.2.1,v5.2.2))) else (bif (v1 == 91) then ((kbu fuel a0 (w64 (a1+1)) 2 0 16 93).bind fun v6=>(some ((Va.mk 5 0 (⟨#[]⟩:BA) v6.1),v6.2.1,v6.2.2))) else (bif (v1 == 123) then ((kap fuel a0 a1 6 (-1)).bind fun v7=>(some (v7.1,v7.2.1,v7.2.2))) else (bif (v1 == 60) then ((kbu fuel a0 (w64 (a1+1)) 6 0 8 62).bind fun v8=>(some ((Va.mk 7 0 (⟨#[]⟩:BA) v8.1),v8.2.1,v8.2.2))) else (((kaw a0 a1).bind fun v9=>(bif (v9 != 48) then (some (true)) else ((kaw a0 (w64 (a1+1))).bind fun v10=>(some (v10 != 120))))).bind fun v12=>(bif v12 then ((kff a0 a1).bind fun v13=>(some (v13.1,v13.2.1,v13.2.2))) else ((kaw a0 (w64 (a1+2))).bind fun v14=>((kd0 v14).bind fun v15=>((kaw a0 (w64 (a1+3))).bind fun v16=>((kd0 v16).bind fun v17=>(bif (decide (v15<0)) then (some ((Va.mk 0 0 (⟨#[]⟩:BA) ([]:List Va)),(w64 (a1+2)),false)) else (bif (decide (v17<0)) then (some ((Va.mk 0 0 (⟨#[]⟩:BA) ([]:List Va)),(w64 (a1+3)),false)) else (some ((Va.mk 4 (w64 ((w64 (v15*16))+v17)) (⟨#[]⟩:BA) ([]:List Va)),(w64 (a1+4)),true))))))))))))))))))
theorem ksw (a0:BA) (a1:Int) (r:(Va)×(Int)×(Bool)) (h:kgq a0 a1=some r):kad Tryz.prog 148 [eS a0,eI a1] (.tup [eVa r.1,eI r.2.1,eB r.2.2]):=by
 unfold kgq at h
 refine pcl [.ag [.keep, .keep, .keep, .sl 4], .one .keep, .one .keep] Tryz.func148 ?_
 refine cl 11 h (kax _ _) (by kernel_rfl) fun v1 h=>?_
 refine cd 7 h (fun h=>?_) fun h=>?_
 ·refine cl 4 h (kjr _ _ _) (by kernel_rfl) fun v2 h=>?_
  cases h;exact lq 16
 refine cd 5 h (fun h=>?_) fun h=>?_
 ·refine cl 4 h (kjr _ _ _) (by kernel_rfl) fun v3 h=>?_
  cases h;exact lq 16
 refine cd 5 h (fun h=>?_) fun h=>?_
 ·refine cl 4 h (kld _ _ _ _ _) (by kernel_rfl) fun v4 h=>?_
  cases h;exact lq 8
 refine cd 5 h (fun h=>?_) fun h=>?_
 ·refine cl 5 h (klh _ _ _ _ _) (by kernel_rfl) fun v5 h=>?_
  cases h;exact lq 19
 refine cd 5 h (fun h=>?_) fun h=>?_
 ·refine cl 5 h (kmo _ _ _ _ _ _ _) (by kernel_rfl) fun v6 h=>?_
  cases h;exact lq 19
 refine cd 5 h (fun h=>?_) fun h=>?_
 ·refine cl 4 h (kld _ _ _ _ _) (by kernel_rfl) fun v7 h=>?_
  cases h;exact lq 8
 refine cd 5 h (fun h=>?_) fun h=>?_
 ·refine cl 5 h (kmo _ _ _ _ _ _ _) (by kernel_rfl) fun v8 h=>?_
  cases h;exact lq 19
 refine jn1 3 .normal (fun v12=>⟨149,[(0,(fS a0)),(1,(fI a1)),(4,(.ref 1 0 0)),(115,(fB v12))],[(1,(.box 43 [(fI 0),(fI 0),(fS (⟨#[]⟩:BA)),(.fz (.atom (.slice none 0 0)))]))],[1],[]⟩) h (fun v12 h=>?_) fun v12 h=>?_
 ·refine cl 3 h (kax _ _) (by kernel_rfl) fun v9 h=>?_
  refine gd 2 h (fun h=>?_) fun h=>?_
  ·cases h;exact lj 7
  refine cl 3 h (kax _ _) (by kernel_rfl) fun v10 h=>?_
  cases h;exact lj 3
 refine cd 0 h (fun h=>?_) fun h=>?_
 ·refine cl 4 h (kk7 _ _) (by kernel_rfl) fun v13 h=>?_
  cases h;exact lq 8
 refine cl 6 h (kax _ _) (by kernel_rfl) fun v14 h=>?_
 refine cl 0 h (khi _) (by kernel_rfl) fun v15 h=>?_
 refine cl 3 h (kax _ _) (by kernel_rfl) fun v16 h=>?_
 refine cl 0 h (khi _) (by kernel_rfl) fun v17 h=>?_
 refine cd 9 h (fun h=>?_) fun h=>?_
 ·cases h;exact lq 10
 refine cd 7 h (fun h=>?_) fun h=>?_
 ·cases h;exact lq 10
 cases h;exact lq 15
def kg3 (a0:BA):Option ((Va)×(Int)×(Int)):=((kgq a0 0).bind fun v1=>((bif (!v1.2.2) then (some (true)) else (some (decide (v1.2.1<(a0.size:Int))))).bind fun v3=>(bif v3 then (some ((Va.mk 0 0 (⟨#[]⟩:BA) ([]:List Va)),v1.2.1,8)) else (some (v1.1,0,0)))))
theorem krj (a0:BA) (r:(Va)×(Int)×(Int)) (h:kg3 a0=some r):kad Tryz.prog 117 [eS a0] (.tup [eVa r.1,eI r.2.1,eI r.2.2]):=by
 unfold kg3 at h
 refine pcl [.ag [.keep, .keep, .keep, .sl 4], .one .keep, .one .keep] Tryz.func117 ?_
 refine cl 9 h (ksw _ _) (by kernel_rfl) fun v1 h=>?_
 refine jn1 11 .normal (fun v3=>⟨25,[(2,(.ref 1 0 0)),(5,(.ref 2 0 0)),(6,(fI v1.2.1)),(21,(fB v3))],[(1,(.box 43 [(fI 0),(fI 0),(fS (⟨#[]⟩:BA)),(.fz (.atom (.slice none 0 0)))])),(2,(.box 43 [(fI v1.1.type),(fI v1.1.num),(fS v1.1.text),(.fz (eL 4 eVaR v1.1.items))]))],[2,1],[]⟩) h (fun v3 h=>?_) fun v3 h=>?_
 ·refine gd 4 h (fun h=>?_) fun h=>?_
  ·cases h;exact lj 6
  cases h;exact lj 6
 refine cd 0 h (fun h=>?_) fun h=>?_
 ·cases h;exact lq 9
 cases h;exact lq 9
def kg8 (a0:BA):Option Int:=((bif ((a0.size:Int) == 3) then ((cutS a0 0 2).bind fun v1=>(bif (v1.toList == (⟨#[105,110]⟩:BA).toList) then ((byt a0 2).bind fun v2=>(bif (decide (48≤v2)) then ((byt a0 2).bind fun v3=>(some (decide ((w64 (wu8 (v3 - 48)))<4)))) else (some (false)))) else (some (false)))) else (some (false))).bind fun v5=>(bif v5 then ((byt a0 2).bind fun v6=>(some (w64 (wu8 (v6 - 48))))) else (some (-1))))
theorem krc (a0:BA) (r:Int) (h:kg8 a0=some r):kad Tryz.prog 78 [eS a0] (eI r):=by
 unfold kg8 at h
 refine pcl [.one .keep] Tryz.func78 ?_
 refine jn1 6 .normal (fun v5=>⟨27,[(0,(fS a0)),(22,(fB v5))],[],[],[]⟩) h (fun v5 h=>?_) fun v5 h=>?_
 ·refine gd 5 h (fun h=>?_) fun h=>?_
  ·obtain ⟨v1,hv1,h⟩:=qg.1 h
   refine nst 1 (kb8 (t:=9) (x:=(.tmp 7)) (lo:=none) (hi:=(some (.const (.int .i64 2)))) (d:=tt9) (s:=a0) (l:=none) (h:=(some 2)) hv1 kaq) ?_
   refine gd 3 h (fun h=>?_) fun h=>?_
   ·refine byx 1 h fun v2 h=>?_
    refine gd 3 h (fun h=>?_) fun h=>?_
    ·refine byx 1 h fun v3 h=>?_
     cases h;exact lj 5
    cases h;exact lj 7
   cases h;exact lj 12
  cases h;exact lj 17
 refine cd 0 h (fun h=>?_) fun h=>?_
 ·refine byx 3 h fun v6 h=>?_
  cases h;exact lq 5
 cases h;exact lq 6
def khw (a0:BA) (a1:BA) (v1:(Int)):Option ((Int) ⊕ ((Unit) ⊕ (Int))):=(bif (decide ((w64 (v1+(a1.size:Int)))≤(a0.size:Int))) then ((cutS a0 v1 (w64 (v1+(a1.size:Int)))).bind fun v2=>(bif (v2.toList == a1.toList) then (some (.inr (.inr v1))) else (some (.inl (w64 (v1+1)))))) else (some (.inr (.inl ()))))
def kcs (a0:BA) (a1:BA):Option Int:=((kab (khw a0 a1) fuel 0).bind fun (v3:((Unit) ⊕ (Int)))=>Sum.elim (fun v4=>(some (-1))) (fun v5=>(some v5)) v3)
theorem kfd (a0:BA) (a1:BA) (r:Int) (h:kcs a0 a1=some r):kad Tryz.prog 50 [eS a0,eS a1] (eI r):=by
 unfold kcs at h
 refine pcl [.one .keep] Tryz.func50 ?_
 refine lpx 10 (fun v1=>⟨25,[(0,(fS a0)),(1,(fS a1)),(5,(fI v1))],[],[],[]⟩) (fun v3 e st=>Sum.elim (fun p=>e = .exit 0∧LeSt st ⟨25,[],[],[],[]⟩) (fun p=>e = .ret∧retX TT st Tryz.f50.results.toList [.one .keep]=some (eI (p))) v3) h (by kernel_rfl) (le_a) (fun v1 r h=>?_) fun v3 h e st' hq=>?_
 ·unfold khw at h
  refine cd 11 h (fun h=>?_) fun h=>?_
  ·obtain ⟨v2,hv2,h⟩:=qg.1 h
   refine nst 11 (kb8 (t:=9) (x:=(.tmp 15)) (lo:=(some (.tmp 16))) (hi:=(some (.tmp 20))) (d:=tt9) (s:=a0) (l:=(some v1)) (h:=(some (w64 (v1+(a1.size:Int))))) hv2 kaq) ?_
   refine cd 3 h (fun h=>?_) fun h=>?_
   ·cases h;exact lor 6
   cases h;exact lj 6
  cases h;exact lo 1 (by kernel_rfl)
 rcases v3 with v4 | v5
 ·try simp only [qf,qh] at h
  obtain ⟨rfl,hle⟩:=hq
  refine ⟨_,hle,?_⟩
  cases h;exact lq 5
 ·try simp only [qf,qh] at h
  obtain ⟨rfl,hret⟩:=hq
  refine ⟨_,LeSt.refl,?_⟩
  cases h;exact lv hret
def kdz (a0:BA) (a1:BA):Option ((BA)×(Bool)):=((bif (decide ((a0.size:Int)<(a1.size:Int))) then (some (true)) else ((cutS a0 0 (a1.size:Int)).bind fun v1=>(some (!(v1.toList == a1.toList))))).bind fun v3=>(bif v3 then (some ((⟨#[]⟩:BA),false)) else ((cutS a0 (a1.size:Int) a0.size).bind fun v4=>(some (v4,true)))))
theorem khd (a0:BA) (a1:BA) (r:(BA)×(Bool)) (h:kdz a0 a1=some r):kad Tryz.prog 91 [eS a0,eS a1] (.tup [eS r.1,eB r.2]):=by
 unfold kdz at h
 refine pcl [.one .keep, .one .keep] Tryz.func91 ?_
 refine jn1 7 .normal (fun v3=>⟨23,[(0,(fS a0)),(1,(fS a1)),(18,(fB v3))],[],[],[]⟩) h (fun v3 h=>?_) fun v3 h=>?_
 ·refine gd 7 h (fun h=>?_) fun h=>?_
  ·cases h;exact lj 8
  obtain ⟨v1,hv1,h⟩:=qg.1 h
  refine nst 3 (kb8 (t:=9) (x:=(.tmp 12)) (lo:=none) (hi:=(some (.tmp 14))) (d:=tt9) (s:=a0) (l:=none) (h:=(some (a1.size:Int))) hv1 kaq) ?_
  cases h;exact lj 4
 refine cd 0 h (fun h=>?_) fun h=>?_
 ·cases h;exact lq 6
 obtain ⟨v4,hv4,h⟩:=qg.1 h
 refine nst 6 (kb8 (t:=9) (x:=(.tmp 19)) (lo:=(some (.tmp 21))) (hi:=none) (d:=tt9) (s:=a0) (l:=(some (a1.size:Int))) (h:=none) hv4 kaq) ?_
 cases h;exact lq 4
def kib (a0:BA) (v1:(Int)):Option ((Int) ⊕ ((Unit) ⊕ ((Int)×(Bool)))):=(bif (decide (v1≤8)) then ((kgb v1).bind fun v2=>(bif (v2.toList == a0.toList) then (some (.inr (.inr (v1,true)))) else (some (.inl (w64 (v1+1)))))) else (some (.inr (.inl ()))))
def keg (a0:BA):Option ((Int)×(Bool)):=((kab (kib a0) fuel 1).bind fun (v3:((Unit) ⊕ ((Int)×(Bool))))=>Sum.elim (fun v4=>(some (0,false))) (fun v5=>(some v5)) v3)
theorem kkg (a0:BA) (r:(Int)×(Bool)) (h:keg a0=some r):kad Tryz.prog 93 [eS a0] (.tup [eI r.1,eB r.2]):=by
 unfold keg at h
 refine pcl [.one .keep, .one .keep] Tryz.func93 ?_
 refine lpx 11 (fun v1=>⟨14,[(0,(fS a0)),(4,(fI v1))],[],[],[]⟩) (fun v3 e st=>Sum.elim (fun p=>e = .exit 0∧LeSt st ⟨14,[],[],[],[]⟩) (fun p=>e = .ret∧retX TT st Tryz.f93.results.toList [.one .keep, .one .keep]=some (.tup [eI (p.1),eB (p.2)])) v3) h (by kernel_rfl) (le_a) (fun v1 r h=>?_) fun v3 h e st' hq=>?_
 ·unfold kib at h
  refine cd 6 h (fun h=>?_) fun h=>?_
  ·refine cl 6 h (kkr _) (by kernel_rfl) fun v2 h=>?_
   refine cd 3 h (fun h=>?_) fun h=>?_
   ·cases h;exact lor 7
   cases h;exact lj 6
  cases h;exact lo 1 (by kernel_rfl)
 rcases v3 with v4 | v5
 ·try simp only [qf,qh] at h
  obtain ⟨rfl,hle⟩:=hq
  refine ⟨_,hle,?_⟩
  cases h;exact lq 6
 ·try simp only [qf,qh] at h
  obtain ⟨rfl,hret⟩:=hq
  refine ⟨_,LeSt.refl,?_⟩
  cases h;exact lv hret
def khc (v1:(BA)×(List Int)):Option (((BA)×(List Int)) ⊕ ((List Int) ⊕ ((List Int)×(Bool)))):=(bif (!(v1.1.toList == (⟨#[]⟩:BA).toList)) then ((byt v1.1 0).bind fun v2=>(bif (v2 != 32) then (some (.inr (.inr (([]:List Int),false)))) else ((cutS v1.1 1 v1.1.size).bind fun v3=>((kcs v3 (⟨#[32]⟩:BA)).bind fun v4=>((bif (decide (v4<0)) then (some (v3.size:Int)) else (some v4)).bind fun v6=>((cutS v3 0 v6).bind fun v7=>((keg v7).bind fun v8=>(bif (!v8.2) then (some (.inr (.inr (([]:List Int),false)))) else ((app 8 v1.2 ([v8.1]:List Int)).bind fun v9=>((cutS v3 v6 v3.size).bind fun v10=>(some (.inl (v10,v9))))))))))))) else (some (.inr (.inl v1.2))))
def kgz (a0:BA):Option ((List Int)×(Bool)):=((kab (khc) fuel (a0,([]:List Int))).bind fun (v11:((List Int) ⊕ ((List Int)×(Bool))))=>Sum.elim (fun v12=>(some (v12,true))) (fun v13=>(some v13)) v11)
theorem krb (a0:BA) (r:(List Int)×(Bool)) (h:kgz a0=some r):kad Tryz.prog 92 [eS a0] (.tup [(eL 1 eI) r.1,eB r.2]):=by
 unfold kgz at h
 refine pcl [.one (.sl 1), .one .keep] Tryz.func92 ?_
 refine wle 11 (kiy (e:=3) (size:=1) (t:=4) (id:=1) (by decide)) ?_
 refine lpx 0 (fun v1=>⟨38,[(0,(fS v1.1)),(4,(.row 1 (List.length v1.2)))],[(1,(.frow 3 1 (List.map eI v1.2)))],[1],[]⟩) (fun v11 e st=>Sum.elim (fun p=>e = .exit 0∧LeSt st ⟨38,[(4,(.row 1 (List.length (p))))],[(1,(.frow 3 1 (List.map eI (p))))],[1],[]⟩) (fun p=>e = .ret∧retX TT st Tryz.f92.results.toList [.one (.sl 1), .one .keep]=some (.tup [(eL 1 eI) (p.1),eB (p.2)])) v11) h (by kernel_rfl) (le_a) (fun v1 r h=>?_) fun v11 h e st' hq=>?_
 ·unfold khc at h
  refine cd 6 h (fun h=>?_) fun h=>?_
  ·refine byx 6 h fun v2 h=>?_
   refine cd 2 h (fun h=>?_) fun h=>?_
   ·cases h;exact lor 6
   obtain ⟨v3,hv3,h⟩:=qg.1 h
   refine nst 4 (kb8 (t:=9) (x:=(.tmp 13)) (lo:=(some (.const (.int .i64 1)))) (hi:=none) (d:=tt9) (s:=v1.1) (l:=(some 1)) (h:=none) hv3 kaq) ?_
   refine cl 5 h (kfd _ _) (by kernel_rfl) fun v4 h=>?_
   refine jn1 3 .normal (fun v6=>⟨38,[(0,(fS v3)),(4,(.row 1 (List.length v1.2))),(5,(fI v6))],[(1,(.frow 3 1 (List.map eI v1.2)))],[1],[]⟩) h (fun v6 h=>?_) fun v6 h=>?_
   ·refine cd 5 h (fun h=>?_) fun h=>?_
    ·cases h;exact lj 5
    cases h;exact lj 1
   obtain ⟨v7,hv7,h⟩:=qg.1 h
   refine nst 4 (kb8 (t:=9) (x:=(.tmp 22)) (lo:=none) (hi:=(some (.tmp 23))) (d:=tt9) (s:=v3) (l:=none) (h:=(some v6)) hv7 kaq) ?_
   refine cl 0 h (kkg _) (by kernel_rfl) fun v8 h=>?_
   refine cd 12 h (fun h=>?_) fun h=>?_
   ·cases h;exact lor 6
   refine ap nI 6 h fun v9 h=>?_
   obtain ⟨v10,hv10,h⟩:=qg.1 h
   refine nst 5 (kb8 (t:=9) (x:=(.tmp 34)) (lo:=(some (.tmp 35))) (hi:=none) (d:=tt9) (s:=v3) (l:=(some v6)) (h:=none) hv10 kaq) ?_
   cases h;exact lj 2
  cases h;exact lo 1 (by kernel_rfl)
 rcases v11 with v12 | v13
 ·try simp only [qf,qh] at h
  obtain ⟨rfl,hle⟩:=hq
  refine ⟨_,hle,?_⟩
  refine wle 6 (kna (t:=2) (id:=1) (n:=List.length v12) (e:=3) (size:=1) (xs:=List.map eI v12) (by kernel_rfl) (by kernel_rfl) (by simp)) ?_
  cases h;exact lq 1
 ·try simp only [qf,qh] at h
  obtain ⟨rfl,hret⟩:=hq
  refine ⟨_,LeSt.refl,?_⟩
  cases h;exact lv hret
def kgd (a0:La) (a1:BA) (v1:(Int)):Option ((Int) ⊕ ((Unit) ⊕ (Int))):=(bif (decide (v1<(List.length a0.symbols:Int))) then ((idx a0.symbols v1).bind fun v2=>(bif (v2.name.toList == a1.toList) then (some (.inr (.inr v1))) else (some (.inl (w64 (v1+1)))))) else (some (.inr (.inl ()))))
def ke3 (a0:La) (a1:BA):Option Int:=((kab (kgd a0 a1) fuel 0).bind fun (v3:((Unit) ⊕ (Int)))=>Sum.elim (fun v4=>(some (-1))) (fun v5=>(some v5)) v3)
theorem kjg (a0:La) (a1:BA) (r:Int) (h:ke3 a0 a1=some r):kad Tryz.prog 131 [eLa a0,eS a1] (eI r):=by
 unfold ke3 at h
 refine pcl [.one .keep] Tryz.func131 ?_
 refine lpx 11 (fun v1=>⟨22,[(1,(fS a1)),(2,(.ref 1 0 0)),(5,(fI v1))],[(1,(.box 26 [(fS a0.name),(.fz (eL 1 eI a0.inputs)),(.fz (eL 2 eSy a0.symbols)),(.fz (eL 9 eRu a0.rules))]))],[1],[]⟩) (fun v3 e st=>Sum.elim (fun p=>e = .exit 0∧LeSt st ⟨22,[],[],[],[]⟩) (fun p=>e = .ret∧retX TT st Tryz.f131.results.toList [.one .keep]=some (eI (p))) v3) h (by kernel_rfl) (le_a) (fun v1 r h=>?_) fun v3 h e st' hq=>?_
 ·unfold kgd at h
  refine cd 9 h (fun h=>?_) fun h=>?_
  ·refine ix nSy 8 h fun v2 h=>?_
   refine cd 5 h (fun h=>?_) fun h=>?_
   ·cases h;exact lor 6
   cases h;exact lj 6
  cases h;exact lo 1 (by kernel_rfl)
 rcases v3 with v4 | v5
 ·try simp only [qf,qh] at h
  obtain ⟨rfl,hle⟩:=hq
  refine ⟨_,hle,?_⟩
  cases h;exact lq 5
 ·try simp only [qf,qh] at h
  obtain ⟨rfl,hret⟩:=hq
  refine ⟨_,LeSt.refl,?_⟩
  cases h;exact lv hret
def khg (v1:(BA)×(List BA)):Option (((BA)×(List BA)) ⊕ ((List BA) ⊕ ((List BA)×(Bool)))):=(bif (!(v1.1.toList == (⟨#[]⟩:BA).toList)) then ((kcs v1.1 (⟨#[44,32]⟩:BA)).bind fun v2=>((bif (decide (v2<0)) then (some (v1.1.size:Int)) else (some v2)).bind fun v4=>(((cutS v1.1 0 v4).bind fun v5=>((kbo v5).bind fun v6=>(bif (!v6) then (some (true)) else (some ((w64 (v4+2)) == (v1.1.size:Int)))))).bind fun v8=>(bif v8 then (some (.inr (.inr (([]:List BA),false)))) else ((cutS v1.1 0 v4).bind fun v9=>((app 16 v1.2 ([v9]:List BA)).bind fun v10=>((cutS v1.1 (imin (w64 (v4+2)) (v1.1.size:Int)) v1.1.size).bind fun v11=>(some (.inl (v11,v10)))))))))) else (some (.inr (.inl v1.2))))
def kg1 (a0:BA):Option ((List BA)×(Bool)):=((kab (khg) fuel (a0,([]:List BA))).bind fun (v12:((List BA) ⊕ ((List BA)×(Bool))))=>Sum.elim (fun v13=>(some (v13,true))) (fun v14=>(some v14)) v12)
theorem kre (a0:BA) (r:(List BA)×(Bool)) (h:kg1 a0=some r):kad Tryz.prog 132 [eS a0] (.tup [(eL 1 eS) r.1,eB r.2]):=by
 unfold kg1 at h
 refine pcl [.one (.sl 1), .one .keep] Tryz.func132 ?_
 refine wle 11 (kiy (e:=9) (size:=1) (t:=4) (id:=1) (by decide)) ?_
 refine lpx 0 (fun v1=>⟨40,[(0,(fS v1.1)),(4,(.row 1 (List.length v1.2)))],[(1,(.frow 9 1 (List.map eS v1.2)))],[1],[]⟩) (fun v12 e st=>Sum.elim (fun p=>e = .exit 0∧LeSt st ⟨40,[(4,(.row 1 (List.length (p))))],[(1,(.frow 9 1 (List.map eS (p))))],[1],[]⟩) (fun p=>e = .ret∧retX TT st Tryz.f132.results.toList [.one (.sl 1), .one .keep]=some (.tup [(eL 1 eS) (p.1),eB (p.2)])) v12) h (by kernel_rfl) (le_a) (fun v1 r h=>?_) fun v12 h e st' hq=>?_
 ·unfold khg at h
  refine cd 6 h (fun h=>?_) fun h=>?_
  ·refine cl 5 h (kfd _ _) (by kernel_rfl) fun v2 h=>?_
   refine jn1 3 .normal (fun v4=>⟨40,[(0,(fS v1.1)),(4,(.row 1 (List.length v1.2))),(5,(fI v4))],[(1,(.frow 9 1 (List.map eS v1.2)))],[1],[]⟩) h (fun v4 h=>?_) fun v4 h=>?_
   ·refine cd 5 h (fun h=>?_) fun h=>?_
    ·cases h;exact lj 5
    cases h;exact lj 1
   refine jn1 2 .normal (fun v8=>⟨40,[(0,(fS v1.1)),(4,(.row 1 (List.length v1.2))),(5,(fI v4)),(25,(fB v8))],[(1,(.frow 9 1 (List.map eS v1.2)))],[1],[]⟩) h (fun v8 h=>?_) fun v8 h=>?_
   ·obtain ⟨v5,hv5,h⟩:=qg.1 h
    refine nst 3 (kb8 (t:=9) (x:=(.tmp 14)) (lo:=none) (hi:=(some (.tmp 15))) (d:=tt9) (s:=v1.1) (l:=none) (h:=(some v4)) hv5 kaq) ?_
    refine cl 0 h (kd3 _) (by kernel_rfl) fun v6 h=>?_
    refine gd 2 h (fun h=>?_) fun h=>?_
    ·cases h;exact lj 7
    cases h;exact lj 7
   refine cd 0 h (fun h=>?_) fun h=>?_
   ·cases h;exact lor 6
   obtain ⟨v9,hv9,h⟩:=qg.1 h
   refine nst 6 (kb8 (t:=9) (x:=(.tmp 27)) (lo:=none) (hi:=(some (.tmp 28))) (d:=tt9) (s:=v1.1) (l:=none) (h:=(some v4)) hv9 kaq) ?_
   refine ap nS 1 h fun v10 h=>?_
   obtain ⟨v11,hv11,h⟩:=qg.1 h
   refine nst 9 (kb8 (t:=9) (x:=(.tmp 32)) (lo:=(some (.tmp 37))) (hi:=none) (d:=tt9) (s:=v1.1) (l:=(some (imin (w64 (v4+2)) (v1.1.size:Int)))) (h:=none) hv11 kaq) ?_
   cases h;exact lj 2
  cases h;exact lo 1 (by kernel_rfl)
 rcases v12 with v13 | v14
 ·try simp only [qf,qh] at h
  obtain ⟨rfl,hle⟩:=hq
  refine ⟨_,hle,?_⟩
  refine wle 6 (kna (t:=2) (id:=1) (n:=List.length v13) (e:=9) (size:=1) (xs:=List.map eS v13) (by kernel_rfl) (by kernel_rfl) (by simp)) ?_
  cases h;exact lq 1
 ·try simp only [qf,qh] at h
  obtain ⟨rfl,hret⟩:=hq
  refine ⟨_,LeSt.refl,?_⟩
  cases h;exact lv hret
end Go.Proofs.YtaimpcnpifoidaaGreatDoor
