import Derived.Test.YtaimpcnpifoidaaGreatDoorZ7
set_option linter.unusedVariables false
set_option linter.unusedSimpArgs false
set_option maxRecDepth 100000
namespace Go.Proofs.YtaimpcnpifoidaaGreatDoor
open Go Go.RowKit Go.Proofs
set_option maxHeartbeats 2000000
attribute [local irreducible] NStep kc9 kox LeSt
def kfg (a0:La) (v18:(List BA)×(Bool)) (v20:(Int)×(List Int)):Option (((Int)×(List Int)) ⊕ ((List Int) ⊕ ((Ru)×(Int)))):=(bif (decide (v20.1<(List.length v18.1:Int))) then ((idx v18.1 v20.1).bind fun v21=>((ke3 a0 v21).bind fun v22=>((app 8 v20.2 ([v22]:List Int)).bind fun v23=>((idx v18.1 v20.1).bind fun v24=>((ke3 a0 v24).bind fun v25=>(bif (decide (v25<0)) then (some (.inr (.inr ((Ru.mk 0 0 0 (Va.mk 0 0 (⟨#[]⟩:BA) ([]:List Va)) (⟨#[]⟩:BA) ([]:List Int)),5)))) else (some (.inl ((w64 (v20.1+1)),v23))))))))) else (some (.inr (.inl v20.2))))
def khk (a0:La) (a1:BA):Option ((Ru)×(Int)):=((kcs a1 (⟨#[32,61,32]⟩:BA)).bind fun v1=>((bif (decide (v1<0)) then (some (true)) else ((cutS a1 0 v1).bind fun v2=>((kbo v2).bind fun v3=>(some (!v3))))).bind fun v5=>(bif v5 then (some ((Ru.mk 0 0 0 (Va.mk 0 0 (⟨#[]⟩:BA) ([]:List Va)) (⟨#[]⟩:BA) ([]:List Int)),8)) else ((cutS a1 0 v1).bind fun v6=>((ke3 a0 v6).bind fun v7=>((cutS a1 (w64 (v1+3)) a1.size).bind fun v8=>((((kg3 v8).bind fun v9=>(bif (v9.2.2 == 0) then (some (.inl (2,0,v9.1.type,v9.1.num,v9.1.text,v9.1.items,(⟨#[]⟩:BA),([]:List Int)))) else ((kg8 v8).bind fun v10=>(bif (decide (0≤v10)) then (some (.inl (1,v10,0,0,(⟨#[]⟩:BA),([]:List Va),(⟨#[]⟩:BA),([]:List Int)))) else ((kcs v8 (⟨#[40]⟩:BA)).bind fun v11=>((bif (decide (v11<0)) then (some (true)) else ((byt v8 (w64 ((v8.size:Int) - 1))).bind fun v12=>(bif (v12 != 41) then (some (true)) else ((cutS v8 0 v11).bind fun v13=>((kbo v13).bind fun v14=>(some (!v14))))))).bind fun v16=>(bif v16 then (some (.inr ((Ru.mk 0 0 0 (Va.mk 0 0 (⟨#[]⟩:BA) ([]:List Va)) (⟨#[]⟩:BA) ([]:List Int)),8))) else ((cutS v8 (w64 (v11+1)) (w64 ((v8.size:Int) - 1))).bind fun v17=>((kg1 v17).bind fun v18=>(bif (!v18.2) then (some (.inr ((Ru.mk 0 0 0 (Va.mk 0 0 (⟨#[]⟩:BA) ([]:List Va)) (⟨#[]⟩:BA) ([]:List Int)),8))) else ((cutS v8 0 v11).bind fun v19=>((kab (kfg a0 v18) fuel (0,([]:List Int))).bind fun (v26:((List Int) ⊕ ((Ru)×(Int))))=>Sum.elim (fun v27=>(some (.inl (3,0,0,0,(⟨#[]⟩:BA),([]:List Va),v19,v27)))) (fun v28=>(some (.inr v28))) v26)))))))))))):Option (((Int)×(Int)×(Int)×(Int)×(BA)×(List Va)×(BA)×(List Int)) ⊕ ((Ru)×(Int)))).bind fun (v29:(((Int)×(Int)×(Int)×(Int)×(BA)×(List Va)×(BA)×(List Int)) ⊕ ((Ru)×(Int))))=>Sum.elim (fun v30=>(bif (decide (v7<0)) then (some ((Ru.mk 0 0 0 (Va.mk 0 0 (⟨#[]⟩:BA) ([]:List Va)) (⟨#[]⟩:BA) ([]:List Int)),5)) else (some ((Ru.mk v7 v30.1 v30.2.1 (Va.mk v30.2.2.1 v30.2.2.2.1 v30.2.2.2.2.1 v30.2.2.2.2.2.1) v30.2.2.2.2.2.2.1 v30.2.2.2.2.2.2.2),0)))) (fun v31=>(some v31)) v29)))))))
theorem kso (a0:La) (a1:BA) (r:(Ru)×(Int)) (h:khk a0 a1=some r):kad Tryz.prog 94 [eLa a0,eS a1] (.tup [eRu r.1,eI r.2]):=by
 unfold khk at h
 refine pcl [.ag [.keep, .keep, .keep, .keep, .keep, .keep, .sl 4, .keep, .sl 1], .one .keep] Tryz.func94 ?_
 refine cl 9 h (kfd _ _) (by kernel_rfl) fun v1 h=>?_
 refine jn1 4 .normal (fun v5=>⟨125,[(1,(fS a1)),(2,(.ref 1 0 0)),(4,(.ref 2 0 0)),(6,(fI v1)),(26,(fB v5))],[(1,(.box 26 [(fS a0.name),(.fz (eL 1 eI a0.inputs)),(.fz (eL 2 eSy a0.symbols)),(.fz (eL 9 eRu a0.rules))])),(2,(.box 45 [(fI 0),(fI 0),(fI 0),(fI 0),(fI 0),(fS (⟨#[]⟩:BA)),(.fz (.atom (.slice none 0 0))),(fS (⟨#[]⟩:BA)),(.fz (.atom (.slice none 0 0)))]))],[2,1],[]⟩) h (fun v5 h=>?_) fun v5 h=>?_
 ·refine gd 4 h (fun h=>?_) fun h=>?_
  ·cases h;exact lj 7
  obtain ⟨v2,hv2,h⟩:=qg.1 h
  refine nst 2 (kb8 (t:=9) (x:=(.tmp 21)) (lo:=none) (hi:=(some (.tmp 22))) (d:=tt9) (s:=a1) (l:=none) (h:=(some v1)) hv2 kaq) ?_
  refine cl 0 h (kd3 _) (by kernel_rfl) fun v3 h=>?_
  cases h;exact lj 3
 refine cd 0 h (fun h=>?_) fun h=>?_
 ·cases h;exact lq 7
 refine dz 2 7 [6] [3] (List.range 4) (by kernel_rfl) ?_
 obtain ⟨v6,hv6,h⟩:=qg.1 h
 refine nst 3 (kb8 (t:=9) (x:=(.tmp 29)) (lo:=none) (hi:=(some (.tmp 30))) (d:=tt9) (s:=a1) (l:=none) (h:=(some v1)) hv6 kaq) ?_
 refine cl 0 h (kjg _ _) (by kernel_rfl) fun v7 h=>?_
 obtain ⟨v8,hv8,h⟩:=qg.1 h
 refine nst 10 (kb8 (t:=9) (x:=(.tmp 34)) (lo:=(some (.tmp 36))) (hi:=none) (d:=tt9) (s:=a1) (l:=(some (w64 (v1+3)))) (h:=none) hv8 kaq) ?_
 refine wle 3 (ked (e2:=45) (e:=3) (size:=1) (id2:=3) (j:=8) (id:=4) (cells:=[(fI v7),(fI 0),(fI 0),(fI 0),(fI 0),(fS (⟨#[]⟩:BA)),(.fz (.atom (.slice none 0 0))),(fS (⟨#[]⟩:BA)),(.fz (.atom (.slice none 0 0)))])) ?_
 refine jnQ 0 (fun v29 e st=>Sum.elim (fun p=>e = .normal∧LeSt st ⟨125,[(4,(.ref 2 0 0)),(7,(.ref 3 0 0))],[(2,(.box 45 [(fI 0),(fI 0),(fI 0),(fI 0),(fI 0),(fS (⟨#[]⟩:BA)),(.fz (.atom (.slice none 0 0))),(fS (⟨#[]⟩:BA)),(.fz (.atom (.slice none 0 0)))])),(3,(.box 45 [(fI v7),(fI (p.1)),(fI (p.2.1)),(fI (p.2.2.1)),(fI (p.2.2.2.1)),(fS (p.2.2.2.2.1)),(.fz (eL 4 eVaR (p.2.2.2.2.2.1))),(fS (p.2.2.2.2.2.2.1)),(.row 4 (List.length (p.2.2.2.2.2.2.2)))])),(4,(.frow 3 1 (List.map eI (p.2.2.2.2.2.2.2))))],[4,3,2],[]⟩) (fun p=>e = .ret∧retX TT st Tryz.f94.results.toList [.ag [.keep, .keep, .keep, .keep, .keep, .keep, .sl 4, .keep, .sl 1], .one .keep]=some (.tup [eRu (p.1),eI (p.2)])) v29) h (fun v29 h=>?_) fun v29 h e st' hq=>?_
 ·refine cl 3 h (krj _) (by kernel_rfl) fun v9 h=>?_
  refine cd 14 h (fun h=>?_) fun h=>?_
  ·refine dz 0 3 [2] [3] (List.range 6) (by kernel_rfl) ?_
   cases h;exact lj 7
  refine cl 3 h (krc _) (by kernel_rfl) fun v10 h=>?_
  refine cd 7 h (fun h=>?_) fun h=>?_
  ·cases h;exact lj 7
  refine cl 3 h (kfd _ _) (by kernel_rfl) fun v11 h=>?_
  refine jn1 4 .normal (fun v16=>⟨125,[(1,(fS v8)),(2,(.ref 1 0 0)),(4,(.ref 2 0 0)),(7,(.ref 3 0 0)),(12,(fI v11)),(74,(fB v16))],[(1,(.box 26 [(fS a0.name),(.fz (eL 1 eI a0.inputs)),(.fz (eL 2 eSy a0.symbols)),(.fz (eL 9 eRu a0.rules))])),(2,(.box 45 [(fI 0),(fI 0),(fI 0),(fI 0),(fI 0),(fS (⟨#[]⟩:BA)),(.fz (.atom (.slice none 0 0))),(fS (⟨#[]⟩:BA)),(.fz (.atom (.slice none 0 0)))])),(3,(.box 45 [(fI v7),(fI 0),(fI 0),(fI 0),(fI 0),(fS (⟨#[]⟩:BA)),(.fz (.atom (.slice none 0 0))),(fS (⟨#[]⟩:BA)),(.row 4 (List.length ([]:List Int)))])),(4,(.frow 3 1 (List.map eI ([]:List Int))))],[4,3,2,1],[]⟩) h (fun v16 h=>?_) fun v16 h=>?_
  ·refine gd 4 h (fun h=>?_) fun h=>?_
   ·cases h;exact lj 15
   refine byx 4 h fun v12 h=>?_
   refine gd 3 h (fun h=>?_) fun h=>?_
   ·cases h;exact lj 7
   obtain ⟨v13,hv13,h⟩:=qg.1 h
   refine nst 2 (kb8 (t:=9) (x:=(.tmp 69)) (lo:=none) (hi:=(some (.tmp 70))) (d:=tt9) (s:=v8) (l:=none) (h:=(some v11)) hv13 kaq) ?_
   refine cl 0 h (kd3 _) (by kernel_rfl) fun v14 h=>?_
   cases h;exact lj 3
  refine cd 0 h (fun h=>?_) fun h=>?_
  ·cases h;exact lr 7
  obtain ⟨v17,hv17,h⟩:=qg.1 h
  refine nst 9 (kb8 (t:=9) (x:=(.tmp 77)) (lo:=(some (.tmp 79))) (hi:=(some (.tmp 82))) (d:=tt9) (s:=v8) (l:=(some (w64 (v11+1)))) (h:=(some (w64 ((v8.size:Int) - 1)))) hv17 kaq) ?_
  refine cl 0 h (kre _) (by kernel_rfl) fun v18 h=>?_
  refine cd 12 h (fun h=>?_) fun h=>?_
  ·cases h;exact lr 7
  refine dz 2 5 [4] [3] (List.range 5) (by kernel_rfl) ?_
  obtain ⟨v19,hv19,h⟩:=qg.1 h
  refine nst 2 (kb8 (t:=9) (x:=(.tmp 90)) (lo:=none) (hi:=(some (.tmp 91))) (d:=tt9) (s:=v8) (l:=none) (h:=(some v11)) hv19 kaq) ?_
  refine lpx 11 (fun v20=>⟨125,[(2,(.ref 1 0 0)),(4,(.ref 2 0 0)),(7,(.ref 3 0 0)),(13,(.fz (eL 1 eS v18.1))),(15,(fI v20.1))],[(1,(.box 26 [(fS a0.name),(.fz (eL 1 eI a0.inputs)),(.fz (eL 2 eSy a0.symbols)),(.fz (eL 9 eRu a0.rules))])),(2,(.box 45 [(fI 0),(fI 0),(fI 0),(fI 0),(fI 0),(fS (⟨#[]⟩:BA)),(.fz (.atom (.slice none 0 0))),(fS (⟨#[]⟩:BA)),(.fz (.atom (.slice none 0 0)))])),(3,(.box 45 [(fI v7),(fI 3),(fI 0),(fI 0),(fI 0),(fS (⟨#[]⟩:BA)),(.fz (.atom (.slice none 0 0))),(fS v19),(.row 4 (List.length v20.2))])),(4,(.frow 3 1 (List.map eI v20.2)))],[4,3,2,1],[]⟩) (fun v26 e st=>Sum.elim (fun p=>e = .exit 0∧LeSt st ⟨125,[(4,(.ref 2 0 0)),(7,(.ref 3 0 0))],[(2,(.box 45 [(fI 0),(fI 0),(fI 0),(fI 0),(fI 0),(fS (⟨#[]⟩:BA)),(.fz (.atom (.slice none 0 0))),(fS (⟨#[]⟩:BA)),(.fz (.atom (.slice none 0 0)))])),(3,(.box 45 [(fI v7),(fI 3),(fI 0),(fI 0),(fI 0),(fS (⟨#[]⟩:BA)),(.fz (.atom (.slice none 0 0))),(fS v19),(.row 4 (List.length (p)))])),(4,(.frow 3 1 (List.map eI (p))))],[4,3,2],[]⟩) (fun p=>e = .ret∧retX TT st Tryz.f94.results.toList [.ag [.keep, .keep, .keep, .keep, .keep, .keep, .sl 4, .keep, .sl 1], .one .keep]=some (.tup [eRu (p.1),eI (p.2)])) v26) h (by kernel_rfl) (le_a) (fun v20 r h=>?_) fun v26 h e st' hq=>?_
  ·unfold kfg at h
   refine cd 8 h (fun h=>?_) fun h=>?_
   ·refine dw 4 9 ?_
    refine ix nS 5 h fun v21 h=>?_
    refine cl 1 h (kjg _ _) (by kernel_rfl) fun v22 h=>?_
    refine ap nI 2 h fun v23 h=>?_
    refine dw 4 5 ?_
    refine ix nS 3 h fun v24 h=>?_
    refine cl 2 h (kjg _ _) (by kernel_rfl) fun v25 h=>?_
    refine cd 2 h (fun h=>?_) fun h=>?_
    ·cases h;exact lor 7
    cases h;exact lj 6
   cases h;exact lo 1 (by kernel_rfl)
  rcases v26 with v27 | v28
  ·try simp only [qf,qh] at h
   obtain ⟨rfl,hle⟩:=hq
   refine ⟨_,hle,?_⟩
   cases h;exact lj 0
  ·try simp only [qf,qh] at h
   obtain ⟨rfl,hret⟩:=hq
   refine ⟨_,LeSt.refl,?_⟩
   cases h;exact lvr hret
 rcases v29 with v30 | v31
 ·try simp only [qf,qh] at h
  obtain ⟨rfl,hle⟩:=hq
  refine ⟨_,hle,?_⟩
  refine cd 7 h (fun h=>?_) fun h=>?_
  ·cases h;exact lq 7
  refine wle 7 (kgk (e2:=45) (id2:=2) (j:=8) (id:=4) (n:=List.length v30.2.2.2.2.2.2.2) (e:=3) (size:=1) (xs:=List.map eI v30.2.2.2.2.2.2.2) (cells:=[(fI v7),(fI v30.1),(fI v30.2.1),(fI v30.2.2.1),(fI v30.2.2.2.1),(fS v30.2.2.2.2.1),(.fz (eL 4 eVaR v30.2.2.2.2.2.1)),(fS v30.2.2.2.2.2.2.1),(.row 4 (List.length v30.2.2.2.2.2.2.2))]) (by kernel_rfl) (by kernel_rfl) (by kernel_rfl) (by simp)) ?_
  cases h;exact lq 1
 ·try simp only [qf,qh] at h
  obtain ⟨rfl,hret⟩:=hq
  refine ⟨_,LeSt.refl,?_⟩
  cases h;exact lv hret
def kh1 (a0:La):List (Nat×AObj):=[(1,(.box 26 [(fS a0.name),(.fz (eL 1 eI a0.inputs)),(.fz (eL 2 eSy a0.symbols)),(.fz (eL 9 eRu a0.rules))])),(2,(.box 26 [(fS (⟨#[]⟩:BA)),(.fz (.atom (.slice none 0 0))),(.fz (.atom (.slice none 0 0))),(.fz (.atom (.slice none 0 0)))]))]
def khj (a0:La) (a1:BA) (a2:Int):Option ((La)×(Int)):=(bif (a2 == 1) then ((kdz a1 (⟨#[108,97,110,103,117,97,103,101,32]⟩:BA)).bind fun v1=>((bif (!v1.2) then (some (true)) else ((kbo v1.1).bind fun v2=>(some (!v2)))).bind fun v4=>(bif v4 then (some (a0,8)) else (some ((La.mk v1.1 a0.inputs a0.symbols a0.rules),0))))) else (bif (a2 == 2) then ((kdz a1 (⟨#[105,110,112,117,116,115]⟩:BA)).bind fun v5=>((kgz v5.1).bind fun v6=>((bif (!v5.2) then (some (true)) else (some (!v6.2))).bind fun v8=>(bif v8 then (some (a0,8)) else (some ((La.mk a0.name v6.1 a0.symbols a0.rules),0)))))) else ((kdz a1 (⟨#[115,121,109,98,111,108,32]⟩:BA)).bind fun v9=>((bif v9.2 then (some ((List.length a0.rules:Int) == 0)) else (some (false))).bind fun v11=>(bif v11 then ((kcs v9.1 (⟨#[32]⟩:BA)).bind fun v12=>((bif (decide (v12<0)) then (some (true)) else ((cutS v9.1 0 v12).bind fun v13=>((kbo v13).bind fun v14=>(some (!v14))))).bind fun v16=>(bif v16 then (some (a0,8)) else ((cutS v9.1 (w64 (v12+1)) v9.1.size).bind fun v17=>((keg v17).bind fun v18=>(bif (!v18.2) then (some (a0,8)) else (((bif List.isEmpty a0.symbols then ((cutS v9.1 0 v12).bind fun v22=>((appN 24 ([]:List (Sy)) ([(Sy.mk v22 v18.1)]:List (Sy))).bind fun v23=>(some v23))) else ((appN 24 ([]:List (Sy)) a0.symbols).bind fun v19=>((cutS v9.1 0 v12).bind fun v20=>((app 24 v19 ([(Sy.mk v20 v18.1)]:List (Sy))).bind fun v21=>(some v21))))):Option (List Sy)).bind fun (v26:(List Sy))=>(some ((La.mk a0.name a0.inputs v26 a0.rules),0))))))))) else ((kdz a1 (⟨#[114,117,108,101,32]⟩:BA)).bind fun v27=>(bif (!v27.2) then (some (a0,8)) else ((khk a0 v27.1).bind fun v28=>(((bif List.isEmpty a0.rules then ((appN 120 ([]:List (Ru)) ([v28.1]:List (Ru))).bind fun v31=>(some v31)) else ((appN 120 ([]:List (Ru)) a0.rules).bind fun v29=>((app 120 v29 ([v28.1]:List (Ru))).bind fun v30=>(some v30)))):Option (List Ru)).bind fun (v34:(List Ru))=>(some ((La.mk a0.name a0.inputs a0.symbols v34),v28.2)))))))))))
theorem ksk (a0:La) (a1:BA) (a2:Int) (r:(La)×(Int)) (h:khj a0 a1 a2=some r):kad Tryz.prog 51 [eLa a0,eS a1,eI a2] (.tup [eLa r.1,eI r.2]):=by
 unfold khj at h
 refine pcl [.ag [.keep, .sl 1, .sl 2, .sl 9], .one .keep] Tryz.func51 ?_
 refine cd 12 h (fun h=>?_) fun h=>?_
 ·refine cl 3 h (khd _ _) (by kernel_rfl) fun v1 h=>?_
  refine jn1 8 .normal (fun v4=>⟨135,[(3,(.ref 1 0 0)),(6,(.ref 2 0 0)),(8,(fS v1.1)),(36,(fB v4))],(kh1 a0),[2,1],[]⟩) h (fun v4 h=>?_) fun v4 h=>?_
  ·refine gd 4 h (fun h=>?_) fun h=>?_
   ·cases h;exact lj 5
   refine cl 1 h (kd3 _) (by kernel_rfl) fun v2 h=>?_
   cases h;exact lj 3
  refine cd 0 h (fun h=>?_) fun h=>?_
  ·cases h;exact lq 7
  cases h;exact lq 14
 refine cd 7 h (fun h=>?_) fun h=>?_
 ·refine cl 3 h (khd _ _) (by kernel_rfl) fun v5 h=>?_
  refine cl 9 h (krb _) (by kernel_rfl) fun v6 h=>?_
  refine jn1 8 .normal (fun v8=>⟨135,[(3,(.ref 1 0 0)),(6,(.ref 2 0 0)),(12,(.fz (eL 1 eI v6.1))),(58,(fB v8))],(kh1 a0),[2,1],[]⟩) h (fun v8 h=>?_) fun v8 h=>?_
  ·refine gd 4 h (fun h=>?_) fun h=>?_
   ·cases h;exact lj 4
   cases h;exact lj 4
  refine cd 0 h (fun h=>?_) fun h=>?_
  ·cases h;exact lq 7
  cases h;exact lq 14
 refine cl 5 h (khd _ _) (by kernel_rfl) fun v9 h=>?_
 refine jn1 7 .normal (fun v11=>⟨135,[(1,(fS a1)),(3,(.ref 1 0 0)),(6,(.ref 2 0 0)),(14,(fS v9.1)),(74,(fB v11))],(kh1 a0),[2,1],[]⟩) h (fun v11 h=>?_) fun v11 h=>?_
 ·refine gd 3 h (fun h=>?_) fun h=>?_
  ·cases h;exact lj 6
  cases h;exact lj 6
 refine cd 0 h (fun h=>?_) fun h=>?_
 ·refine cl 3 h (kfd _ _) (by kernel_rfl) fun v12 h=>?_
  refine jn1 4 .normal (fun v16=>⟨135,[(3,(.ref 1 0 0)),(6,(.ref 2 0 0)),(14,(fS v9.1)),(16,(fI v12)),(85,(fB v16))],(kh1 a0),[2,1],[]⟩) h (fun v16 h=>?_) fun v16 h=>?_
  ·refine gd 4 h (fun h=>?_) fun h=>?_
   ·cases h;exact lj 7
   obtain ⟨v13,hv13,h⟩:=qg.1 h
   refine nst 2 (kb8 (t:=9) (x:=(.tmp 80)) (lo:=none) (hi:=(some (.tmp 81))) (d:=tt9) (s:=v9.1) (l:=none) (h:=(some v12)) hv13 kaq) ?_
   refine cl 0 h (kd3 _) (by kernel_rfl) fun v14 h=>?_
   cases h;exact lj 3
  refine cd 0 h (fun h=>?_) fun h=>?_
  ·cases h;exact lq 7
  obtain ⟨v17,hv17,h⟩:=qg.1 h
  refine nst 6 (kb8 (t:=9) (x:=(.tmp 88)) (lo:=(some (.tmp 90))) (hi:=none) (d:=tt9) (s:=v9.1) (l:=(some (w64 (v12+1)))) (h:=none) hv17 kaq) ?_
  refine cl 0 h (kkg _) (by kernel_rfl) fun v18 h=>?_
  refine cd 12 h (fun h=>?_) fun h=>?_
  ·cases h;exact lq 7
  refine jn1 2 .normal (fun v26=>⟨135,[(3,(.ref 1 0 0)),(6,(.ref 2 0 0))],[(1,(.box 26 [(fS a0.name),(.fz (eL 1 eI a0.inputs)),(.row 3 (List.length v26)),(.fz (eL 9 eRu a0.rules))])),(2,(.box 26 [(fS (⟨#[]⟩:BA)),(.fz (.atom (.slice none 0 0))),(.fz (.atom (.slice none 0 0))),(.fz (.atom (.slice none 0 0)))])),(3,(.frow 92 2 (List.map eSy v26)))],[3,2,1],[]⟩) h (fun v26 h=>?_) fun v26 h=>?_
  ·refine dz 0 10 [3] [3] (List.range 4) (by kernel_rfl) ?_
   refine nst 0 (kyg (st':=⟨135,[],[],[],[]⟩) (ids:=[]) (ts:=[]) (by kernel_rfl) (kqy (c := .lim 2 0 []) kaq)) ?_
   refine gdb 2 h (fun hE24 h=>?_) fun hE24 h=>?_
   ·refine zst 0 ((k1t (t:=23) (X:=(.tmp 98)) (Y:=(.tmp 100)) (d:=tt23) (e:=92) (de:=tt92) (enc:=eSy) (xs:=([]:List (Sy))) (ys:=a0.symbols) (n:=List.length ([]:List (Sy))) (m:=List.length a0.symbols) hE24 kaq (by kernel_rfl) (by kernel_rfl) (by kernel_rfl) (by kernel_rfl) (by kernel_rfl) (.inl (by kernel_rfl))).step) (by kernel_rfl) (by kernel_rfl) (by kernel_rfl) ?_
    obtain ⟨v22,hv22,h⟩:=qg.1 h
    refine nst 2 (kb8 (t:=9) (x:=(.tmp 102)) (lo:=none) (hi:=(some (.tmp 103))) (d:=tt9) (s:=v9.1) (l:=none) (h:=(some v12)) hv22 kaq) ?_
    obtain ⟨v23,hv23,h⟩:=qg.1 h
    refine sst 4 (kt1 (t:=23) (X:=(.tmp 101)) (Y:=(.tmp 107)) (d:=tt23) (e:=92) (de:=tt92) (enc:=eSy) (xs:=([]:List (Sy))) (ys:=([(Sy.mk v22 v18.1)]:List (Sy))) (n:=List.length ([]:List (Sy))) (m:=List.length ([(Sy.mk v22 v18.1)]:List (Sy))) (id:=3) hv23 kaq (by kernel_rfl) (by kernel_rfl) (by kernel_rfl) (by kernel_rfl) (by kernel_rfl) (by kernel_rfl) (by kernel_rfl) (by kernel_rfl) (.inr (by kernel_rfl))) (by kernel_rfl) ?_
    cases h;exact lj 3
   obtain ⟨v19,hv19,h⟩:=qg.1 h
   refine zst 0 (kt1 (t:=23) (X:=(.tmp 98)) (Y:=(.tmp 100)) (d:=tt23) (e:=92) (de:=tt92) (enc:=eSy) (xs:=([]:List (Sy))) (ys:=a0.symbols) (n:=List.length ([]:List (Sy))) (m:=List.length a0.symbols) (id:=3) hv19 kaq (by kernel_rfl) (by kernel_rfl) (by kernel_rfl) (by kernel_rfl) (by kernel_rfl) (by kernel_rfl) (by kernel_rfl) (by kernel_rfl) (.inl (by kernel_rfl))) (by kernel_rfl) (by kernel_rfl) (by kernel_rfl) ?_
   obtain ⟨v20,hv20,h⟩:=qg.1 h
   refine nst 2 (kb8 (t:=9) (x:=(.tmp 102)) (lo:=none) (hi:=(some (.tmp 103))) (d:=tt9) (s:=v9.1) (l:=none) (h:=(some v12)) hv20 kaq) ?_
   refine ap nSy 4 h fun v21 h=>?_
   cases h;exact lj 3
  refine wle 6 (kgk (e2:=26) (id2:=2) (j:=2) (id:=3) (n:=List.length v26) (e:=92) (size:=2) (xs:=List.map eSy v26) (cells:=[(fS a0.name),(.fz (eL 1 eI a0.inputs)),(.row 3 (List.length v26)),(.fz (eL 9 eRu a0.rules))]) (by kernel_rfl) (by kernel_rfl) (by kernel_rfl) (by simp)) ?_
  cases h;exact lq 1
 refine cl 4 h (khd _ _) (by kernel_rfl) fun v27 h=>?_
 refine cd 12 h (fun h=>?_) fun h=>?_
 ·cases h;exact lq 7
 refine cl 5 h (kso _ _) (by kernel_rfl) fun v28 h=>?_
 refine jn1 8 .normal (fun v34=>⟨135,[(3,(.ref 1 0 0)),(6,(.ref 2 0 0)),(22,(fI v28.2))],[(1,(.box 26 [(fS a0.name),(.fz (eL 1 eI a0.inputs)),(.fz (eL 2 eSy a0.symbols)),(.row 4 (List.length v34))])),(2,(.box 26 [(fS (⟨#[]⟩:BA)),(.fz (.atom (.slice none 0 0))),(.fz (.atom (.slice none 0 0))),(.fz (.atom (.slice none 0 0)))])),(4,(.frow 45 9 (List.map eRu v34)))],[4,2,1],[]⟩) h (fun v34 h=>?_) fun v34 h=>?_
 ·refine dz 0 6 [3] [4] (List.range 5) (by kernel_rfl) ?_
  refine nst 0 (kyg (st':=⟨135,[],[],[],[]⟩) (ids:=[]) (ts:=[]) (by kernel_rfl) (kqy (c := .lim 9 0 []) kaq)) ?_
  refine gdb 2 h (fun hE32 h=>?_) fun hE32 h=>?_
  ·refine zst 0 ((k1t (t:=24) (X:=(.tmp 125)) (Y:=(.tmp 127)) (d:=tt24) (e:=45) (de:=tt45) (enc:=eRu) (xs:=([]:List (Ru))) (ys:=a0.rules) (n:=List.length ([]:List (Ru))) (m:=List.length a0.rules) hE32 kaq (by kernel_rfl) (by kernel_rfl) (by kernel_rfl) (by kernel_rfl) (by kernel_rfl) (.inl (by kernel_rfl))).step) (by kernel_rfl) (by kernel_rfl) (by kernel_rfl) ?_
   obtain ⟨v31,hv31,h⟩:=qg.1 h
   refine sst 3 (kt1 (t:=24) (X:=(.tmp 128)) (Y:=(.tmp 130)) (d:=tt24) (e:=45) (de:=tt45) (enc:=eRu) (xs:=([]:List (Ru))) (ys:=([v28.1]:List (Ru))) (n:=List.length ([]:List (Ru))) (m:=List.length ([v28.1]:List (Ru))) (id:=4) hv31 kaq (by kernel_rfl) (by kernel_rfl) (by kernel_rfl) (by kernel_rfl) (by kernel_rfl) (by kernel_rfl) (by kernel_rfl) (by kernel_rfl) (.inr (by kernel_rfl))) (by kernel_rfl) ?_
   cases h;exact lj 3
  obtain ⟨v29,hv29,h⟩:=qg.1 h
  refine zst 0 (kt1 (t:=24) (X:=(.tmp 125)) (Y:=(.tmp 127)) (d:=tt24) (e:=45) (de:=tt45) (enc:=eRu) (xs:=([]:List (Ru))) (ys:=a0.rules) (n:=List.length ([]:List (Ru))) (m:=List.length a0.rules) (id:=4) hv29 kaq (by kernel_rfl) (by kernel_rfl) (by kernel_rfl) (by kernel_rfl) (by kernel_rfl) (by kernel_rfl) (by kernel_rfl) (by kernel_rfl) (.inl (by kernel_rfl))) (by kernel_rfl) (by kernel_rfl) (by kernel_rfl) ?_
  refine ap nRu 3 h fun v30 h=>?_
  cases h;exact lj 3
 refine wle 7 (kgk (e2:=26) (id2:=2) (j:=3) (id:=4) (n:=List.length v34) (e:=45) (size:=9) (xs:=List.map eRu v34) (cells:=[(fS a0.name),(.fz (eL 1 eI a0.inputs)),(.fz (eL 2 eSy a0.symbols)),(.row 4 (List.length v34))]) (by kernel_rfl) (by kernel_rfl) (by kernel_rfl) (by simp)) ?_
 cases h;exact lq 1
def ke7 (v1:(BA)×(Int)×(BA)×(List Int)×(List Sy)×(List Ru)):Option (((BA)×(Int)×(BA)×(List Int)×(List Sy)×(List Ru)) ⊕ (((Int)×(BA)×(List Int)×(List Sy)×(List Ru)) ⊕ ((La)×(Int)×(Int)))):=(bif (!(v1.1.toList == (⟨#[]⟩:BA).toList)) then ((kcs v1.1 (⟨#[10]⟩:BA)).bind fun v2=>(bif (decide (v2<0)) then (some (.inr (.inr ((La.mk (⟨#[]⟩:BA) ([]:List Int) ([]:List Sy) ([]:List Ru)),v1.2.1,8)))) else ((cutS v1.1 0 v2).bind fun v3=>((khj (La.mk v1.2.2.1 v1.2.2.2.1 v1.2.2.2.2.1 v1.2.2.2.2.2) v3 v1.2.1).bind fun v4=>(bif (v4.2 != 0) then (some (.inr (.inr ((La.mk (⟨#[]⟩:BA) ([]:List Int) ([]:List Sy) ([]:List Ru)),v1.2.1,v4.2)))) else ((cutS v1.1 (w64 (v2+1)) v1.1.size).bind fun v5=>(some (.inl (v5,(w64 (v1.2.1+1)),v4.1.name,v4.1.inputs,v4.1.symbols,v4.1.rules))))))))) else (some (.inr (.inl (v1.2.1,v1.2.2.1,v1.2.2.2.1,v1.2.2.2.2.1,v1.2.2.2.2.2)))))
def keo (a0:BA):Option ((La)×(Int)×(Int)):=(bif (decide (65536<(a0.size:Int))) then (some ((La.mk (⟨#[]⟩:BA) ([]:List Int) ([]:List Sy) ([]:List Ru)),0,2)) else ((kab (ke7) fuel (a0,1,(⟨#[]⟩:BA),([]:List Int),([]:List Sy),([]:List Ru))).bind fun (v6:(((Int)×(BA)×(List Int)×(List Sy)×(List Ru)) ⊕ ((La)×(Int)×(Int))))=>Sum.elim (fun v7=>(bif (decide (v7.1<3)) then (some ((La.mk (⟨#[]⟩:BA) ([]:List Int) ([]:List Sy) ([]:List Ru)),v7.1,8)) else ((kc7 (La.mk v7.2.1 v7.2.2.1 v7.2.2.2.1 v7.2.2.2.2)).bind fun v8=>(bif (v8 != 0) then (some ((La.mk (⟨#[]⟩:BA) ([]:List Int) ([]:List Sy) ([]:List Ru)),0,v8)) else (some ((La.mk v7.2.1 v7.2.2.1 v7.2.2.2.1 v7.2.2.2.2),0,0)))))) (fun v9=>(some v9)) v6))
theorem knc (a0:BA) (r:(La)×(Int)×(Int)) (h:keo a0=some r):kad Tryz.prog 22 [eS a0] (.tup [eLa r.1,eI r.2.1,eI r.2.2]):=by
 unfold keo at h
 refine pcl [.ag [.keep, .sl 1, .sl 2, .sl 9], .one .keep, .one .keep] Tryz.func22 ?_
 refine cd 13 h (fun h=>?_) fun h=>?_
 ·cases h;exact lq 8
 refine lpx 11 (fun v1=>⟨55,[(0,(fS v1.1)),(2,(.ref 1 0 0)),(5,(.ref 2 0 0)),(6,(fI v1.2.1))],[(1,(.box 26 [(fS (⟨#[]⟩:BA)),(.fz (.atom (.slice none 0 0))),(.fz (.atom (.slice none 0 0))),(.fz (.atom (.slice none 0 0)))])),(2,(.box 26 [(fS v1.2.2.1),(.fz (eL 1 eI v1.2.2.2.1)),(.fz (eL 2 eSy v1.2.2.2.2.1)),(.fz (eL 9 eRu v1.2.2.2.2.2))]))],[2,1],[]⟩) (fun v6 e st=>Sum.elim (fun p=>e = .exit 0∧LeSt st ⟨55,[(2,(.ref 1 0 0)),(5,(.ref 2 0 0)),(6,(fI (p.1)))],[(1,(.box 26 [(fS (⟨#[]⟩:BA)),(.fz (.atom (.slice none 0 0))),(.fz (.atom (.slice none 0 0))),(.fz (.atom (.slice none 0 0)))])),(2,(.box 26 [(fS (p.2.1)),(.fz (eL 1 eI (p.2.2.1))),(.fz (eL 2 eSy (p.2.2.2.1))),(.fz (eL 9 eRu (p.2.2.2.2)))]))],[2,1],[]⟩) (fun p=>e = .ret∧retX TT st Tryz.f22.results.toList [.ag [.keep, .sl 1, .sl 2, .sl 9], .one .keep, .one .keep]=some (.tup [eLa (p.1),eI (p.2.1),eI (p.2.2)])) v6) h (by kernel_rfl) (le_a) (fun v1 r h=>?_) fun v6 h e st' hq=>?_
 ·unfold ke7 at h
  refine cd 6 h (fun h=>?_) fun h=>?_
  ·refine cl 6 h (kfd _ _) (by kernel_rfl) fun v2 h=>?_
   refine cd 8 h (fun h=>?_) fun h=>?_
   ·cases h;exact lor 9
   refine dz 2 11 [9,10] [3] (List.range 4) (by kernel_rfl) ?_
   obtain ⟨v3,hv3,h⟩:=qg.1 h
   refine nst 3 (kb8 (t:=9) (x:=(.tmp 27)) (lo:=none) (hi:=(some (.tmp 28))) (d:=tt9) (s:=v1.1) (l:=none) (h:=(some v2)) hv3 kaq) ?_
   refine cl 1 h (ksk _ _ _) (by kernel_rfl) fun v4 h=>?_
   refine cd 14 h (fun h=>?_) fun h=>?_
   ·cases h;exact lor 10
   obtain ⟨v5,hv5,h⟩:=qg.1 h
   refine nst 10 (kb8 (t:=9) (x:=(.tmp 40)) (lo:=(some (.tmp 42))) (hi:=none) (d:=tt9) (s:=v1.1) (l:=(some (w64 (v2+1)))) (h:=none) hv5 kaq) ?_
   cases h;exact lj 7
  cases h;exact lo 1 (by kernel_rfl)
 rcases v6 with v7 | v9
 ·try simp only [qf,qh] at h
  obtain ⟨rfl,hle⟩:=hq
  refine ⟨_,hle,?_⟩
  refine cd 6 h (fun h=>?_) fun h=>?_
  ·cases h;exact lq 9
  refine cl 5 h (krd _) (by kernel_rfl) fun v8 h=>?_
  refine cd 7 h (fun h=>?_) fun h=>?_
  ·cases h;exact lq 9
  cases h;exact lq 9
 ·try simp only [qf,qh] at h
  obtain ⟨rfl,hret⟩:=hq
  refine ⟨_,LeSt.refl,?_⟩
  cases h;exact lv hret
def kfl (a0:BA):Option Bool:=(bif (decide (2000<(a0.size:Int))) then ((kgc ).bind fun v1=>(some v1)) else ((kd6 a0).bind fun v2=>((keo a0).bind fun v3=>(((kfj (La.mk v2.2.2.1 v2.2.2.2.1 v2.2.2.2.2.1 v2.2.2.2.2.2) v3.1).bind fun v4=>(bif v4 then (bif (v2.1 == v3.2.1) then (bif (v2.2.1 == v3.2.2) then ((kgc ).bind fun v5=>(some v5)) else (some (false))) else (some (false))) else (some (false)))).bind fun v7=>(some v7)))))
theorem kmh (a0:BA) (r:(Bool)) (h:kfl a0=some r):kas Tryz.prog 7 ([(fS a0)]++[]) [(1,(.glb GV))] [1] (.ret (fB r)) [(1,(.glb GV))] [1]:=by
 unfold kfl at h
 refine hcx (gi:=0) Tryz.func7 ?_
 intro p0 q0 w0
 refine cd 11 h (fun h=>?_) fun h=>?_
 ·refine hcl 2 [] [(1,1)] [(1,1)] [1] h (kkx) (fun _=>by kernel_rfl) fun v1 h=>?_
  cases h;exact lhy 3
 refine hcl 4 [.one .keep] [(1,1)] [(1,1),(2,2)] [1] h (kkc _) (fun _=>by kernel_rfl) fun v2 h=>?_
 refine cl 12 h (knc _) (by kernel_rfl) fun v3 h=>?_
 refine jn1 10 .normal (fun v7=>⟨41,[(2,(fB v7))],[(0,(.was p0 [1] q0 w0)),(1,(.glb GV))],[0,1],[]⟩) h (fun v7 h=>?_) fun v7 h=>?_
 ·refine cl 3 h (kmk _ _) (by kernel_rfl) fun v4 h=>?_
  refine gd 1 h (fun h=>?_) fun h=>?_
  ·refine gd 5 h (fun h=>?_) fun h=>?_
   ·refine gd 5 h (fun h=>?_) fun h=>?_
    ·refine hcl 0 [] [(1,1)] [(1,1)] [1] h (kkx) (fun _=>by kernel_rfl) fun v5 h=>?_
     cases h;exact lj 3
    cases h;exact lj 4
   cases h;exact lj 9
  cases h;exact lj 14
 cases h;exact lhy 1
end Go.Proofs.YtaimpcnpifoidaaGreatDoor
