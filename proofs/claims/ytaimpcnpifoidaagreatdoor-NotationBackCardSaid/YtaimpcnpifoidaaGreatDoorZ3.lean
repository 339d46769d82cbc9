import Derived.Test.YtaimpcnpifoidaaGreatDoorZ2
set_option linter.unusedVariables false
set_option linter.unusedSimpArgs false
set_option maxRecDepth 100000
namespace Go.Proofs.YtaimpcnpifoidaaGreatDoor
open Go Go.RowKit Go.Proofs
set_option maxHeartbeats 2000000
attribute [local irreducible] NStep kdf ko2 LeSt
structure S_notation_parser where
  f_s:BA
  f_at:Int
def kc3 (a0:S_notation_parser):Option (((Ex)×(Int)) ⊕ (Int)):=((cutS a0.f_s a0.f_at a0.f_s.size).bind fun v1=>((kgi v1).bind fun v2=>(bif (v2.2.2 == 0) then (some (.inl ((Ex.mk 2 0 v2.1 (⟨#[]⟩:BA) ([]:List Ex)),(a0.f_s.size:Int)))) else ((cutS v1 0 v2.2.1).bind fun v3=>((kgi v3).bind fun v4=>((((bif (v4.2.2 != 0) then ((kcg v1 (⟨#[48]⟩:BA)).bind fun v5=>(some v5)) else (some (false))).bind fun v7=>(bif v7 then ((cutS v1 0 1).bind fun v8=>((kgi v8).bind fun v9=>(some (1,v9.2.2,v9.1.type,v9.1.num,v9.1.text,v9.1.items)))) else (some (v2.2.1,v4.2.2,v4.1.type,v4.1.num,v4.1.text,v4.1.items)))):Option ((Int)×(Int)×(Int)×(Int)×(BA)×(List Va))).bind fun (v11:(Int)×(Int)×(Int)×(Int)×(BA)×(List Va))=>(bif (v11.2.1 != 0) then (some (.inr (w64 (a0.f_at+v11.1)))) else (some (.inl ((Ex.mk 2 0 (Va.mk v11.2.2.1 v11.2.2.2.1 v11.2.2.2.2.1 v11.2.2.2.2.2) (⟨#[]⟩:BA) ([]:List Ex)),(w64 (a0.f_at+v11.1))))))))))))
theorem kki (a0:S_notation_parser) (r:((Ex)×(Int)) ⊕ (Int)) (h:kc3 a0=some r):Sum.elim (fun v=>kat Tryz.prog 110 ([(.ref 1 0 0)]++[]) [(1,(.box 120 [(fS a0.f_s),(fI a0.f_at)]))] [1] (.ret (.fz (eExR (v.1)))) [(1,(.box 120 [(fS a0.f_s),(fI (v.2))]))] [1]) (fun v=>kat Tryz.prog 110 ([(.ref 1 0 0)]++[]) [(1,(.box 120 [(fS a0.f_s),(fI a0.f_at)]))] [1] (.pan (.iface 117 (.int .i64 (v)))) [(1,(.box 120 [(fS a0.f_s),(fI a0.f_at)]))] [1]) r:=by
 unfold kc3 at h
 refine hcx2 (gi:=0) Tryz.func110 (by kernel_rfl) (by kernel_rfl) (by kernel_rfl) (by kernel_rfl) (by kernel_rfl) (fun _=>by kernel_rfl) (fun _=>by kernel_rfl) (fun _=>by kernel_rfl) (by kernel_rfl) (fun _=>by kernel_rfl) (fun _=>by kernel_rfl) (fun _=>by kernel_rfl) ?_
 intro p0 q0 w0
 refine dw 5 8 ?_
 obtain ⟨v1,hv1,h⟩:=qi.1 h
 refine nst 9 (kjv (t:=9) (x:=(.tmp 10)) (lo:=(some (.tmp 14))) (hi:=none) (d:=tt9) (s:=a0.f_s) (l:=(some a0.f_at)) (h:=none) hv1 kb0) ?_
 refine cl 5 h (kkz _) (by kernel_rfl) fun v2 h=>?_
 refine cd 15 h (fun h=>?_) fun h=>?_
 ·refine wle 19 (le_a:LeSt _ ⟨77,[(2,(.ref 3 0 0))],[(0,(.was p0 [1] q0 w0)),(1,(.box 120 [(fS a0.f_s),(fI (a0.f_s.size:Int))])),(3,(.box 129 [(fI 2),(fI 0),(fI v2.1.type),(fI v2.1.num),(fS v2.1.text),(.fz (eL 4 eVaR v2.1.items)),(fS (⟨#[]⟩:BA)),(.fz (eL 1 eExR ([]:List Ex)))]))],[3,0,1],[]⟩) ?_
  refine wle 0 (LeSt.trans (show LeSt _ ⟨77,[(2,(.ref 3 0 0))],[(0,(.was p0 [1] q0 w0)),(1,(.box 120 [(fS a0.f_s),(fI (a0.f_s.size:Int))])),(3,(.box 129 [(fI 2),(fI 0),(fI v2.1.type),(fI v2.1.num),(fS v2.1.text),(.fz (eL 4 eVaR v2.1.items)),(fS (⟨#[]⟩:BA)),(.fz (eL 1 eExR ([]:List Ex)))]))],[3,0,1],[]⟩ from le_a) (LeSt.trans (kve 3 (e:=129) (xs:=[(eI 2),(eI 0),(eI v2.1.type),(eI v2.1.num),(eS v2.1.text),(eL 4 eVaR v2.1.items),(eS (⟨#[]⟩:BA)),(eL 1 eExR ([]:List Ex))]) (cells:=[(fI 2),(fI 0),(fI v2.1.type),(fI v2.1.num),(fS v2.1.text),(.fz (eL 4 eVaR v2.1.items)),(fS (⟨#[]⟩:BA)),(.fz (eL 1 eExR ([]:List Ex)))])) (show LeSt _ ⟨77,[(2,(.fz (eExR (Ex.mk 2 0 v2.1 (⟨#[]⟩:BA) ([]:List Ex)))))],[(0,(.was p0 [1] q0 w0)),(1,(.box 120 [(fS a0.f_s),(fI (a0.f_s.size:Int))]))],[3,0,1],[]⟩ from (by rw [kn3 2 0 v2.1 (⟨#[]⟩:BA) ([]:List Ex)];exact le_a)))) ?_
  cases h;exact lhy 1
 obtain ⟨v3,hv3,h⟩:=qi.1 h
 refine nst 5 (kjv (t:=9) (x:=(.tmp 36)) (lo:=none) (hi:=(some (.tmp 37))) (d:=tt9) (s:=v1) (l:=none) (h:=(some v2.2.1)) hv3 kb0) ?_
 refine cl 0 h (kkz _) (by kernel_rfl) fun v4 h=>?_
 refine jn1 8 .normal (fun v11=>⟨77,[(0,(.ref 1 0 0)),(4,(.ref 2 0 0)),(5,(fI v11.1)),(6,(fI v11.2.1))],[(0,(.was p0 [1] q0 w0)),(1,(.box 120 [(fS a0.f_s),(fI a0.f_at)])),(2,(.box 43 [(fI v11.2.2.1),(fI v11.2.2.2.1),(fS v11.2.2.2.2.1),(.fz (eL 4 eVaR v11.2.2.2.2.2))]))],[2,0,1],[]⟩) h (fun v11 h=>?_) fun v11 h=>?_
 ·refine jn1 1 .normal (fun v7=>⟨77,[(0,(.ref 1 0 0)),(3,(fS v1)),(4,(.ref 2 0 0)),(5,(fI v2.2.1)),(6,(fI v4.2.2)),(48,(fB v7))],[(0,(.was p0 [1] q0 w0)),(1,(.box 120 [(fS a0.f_s),(fI a0.f_at)])),(2,(.box 43 [(fI v4.1.type),(fI v4.1.num),(fS v4.1.text),(.fz (eL 4 eVaR v4.1.items))]))],[2,0,1],[]⟩) h (fun v7 h=>?_) fun v7 h=>?_
  ·refine gd 4 h (fun h=>?_) fun h=>?_
   ·refine cl 1 h (kkv _ _) (by kernel_rfl) fun v5 h=>?_
    cases h;exact lj 2
   cases h;exact lj 4
  refine cd 0 h (fun h=>?_) fun h=>?_
  ·obtain ⟨v8,hv8,h⟩:=qi.1 h
   refine nst 7 (kjv (t:=9) (x:=(.tmp 50)) (lo:=none) (hi:=(some (.tmp 51))) (d:=tt9) (s:=v1) (l:=none) (h:=(some 1)) hv8 kb0) ?_
   refine cl 0 h (kkz _) (by kernel_rfl) fun v9 h=>?_
   cases h;exact lj 7
  cases h;exact lj 1
 refine cd 6 h (fun h=>?_) fun h=>?_
 ·refine pnc 8 (v := .iface 117 (.int .i64 (w64 (a0.f_at+v11.1)))) ?_
  obtain rfl:=qp h;exact lhp 0 ⟨77,[],[(0,(.was p0 [1] q0 w0)),(1,(.box 120 [(fS a0.f_s),(fI a0.f_at)]))],[0,1],[]⟩ (le_a) rfl rfl (by kernel_rfl) rfl
 refine wle 20 (le_a:LeSt _ ⟨77,[(2,(.ref 3 0 0))],[(0,(.was p0 [1] q0 w0)),(1,(.box 120 [(fS a0.f_s),(fI (w64 (a0.f_at+v11.1)))])),(3,(.box 129 [(fI 2),(fI 0),(fI v11.2.2.1),(fI v11.2.2.2.1),(fS v11.2.2.2.2.1),(.fz (eL 4 eVaR v11.2.2.2.2.2)),(fS (⟨#[]⟩:BA)),(.fz (eL 1 eExR ([]:List Ex)))]))],[3,0,1],[]⟩) ?_
 refine wle 0 (LeSt.trans (show LeSt _ ⟨77,[(2,(.ref 3 0 0))],[(0,(.was p0 [1] q0 w0)),(1,(.box 120 [(fS a0.f_s),(fI (w64 (a0.f_at+v11.1)))])),(3,(.box 129 [(fI 2),(fI 0),(fI v11.2.2.1),(fI v11.2.2.2.1),(fS v11.2.2.2.2.1),(.fz (eL 4 eVaR v11.2.2.2.2.2)),(fS (⟨#[]⟩:BA)),(.fz (eL 1 eExR ([]:List Ex)))]))],[3,0,1],[]⟩ from le_a) (LeSt.trans (kve 3 (e:=129) (xs:=[(eI 2),(eI 0),(eI v11.2.2.1),(eI v11.2.2.2.1),(eS v11.2.2.2.2.1),(eL 4 eVaR v11.2.2.2.2.2),(eS (⟨#[]⟩:BA)),(eL 1 eExR ([]:List Ex))]) (cells:=[(fI 2),(fI 0),(fI v11.2.2.1),(fI v11.2.2.2.1),(fS v11.2.2.2.2.1),(.fz (eL 4 eVaR v11.2.2.2.2.2)),(fS (⟨#[]⟩:BA)),(.fz (eL 1 eExR ([]:List Ex)))])) (show LeSt _ ⟨77,[(2,(.fz (eExR (Ex.mk 2 0 (Va.mk v11.2.2.1 v11.2.2.2.1 v11.2.2.2.2.1 v11.2.2.2.2.2) (⟨#[]⟩:BA) ([]:List Ex)))))],[(0,(.was p0 [1] q0 w0)),(1,(.box 120 [(fS a0.f_s),(fI (w64 (a0.f_at+v11.1)))]))],[3,0,1],[]⟩ from (by rw [kn3 2 0 (Va.mk v11.2.2.1 v11.2.2.2.1 v11.2.2.2.2.1 v11.2.2.2.2.2) (⟨#[]⟩:BA) ([]:List Ex)];exact le_a)))) ?_
 cases h;exact lhy 1
def kgs (a0:S_notation_parser) (v1:(Int)):Option ((Int) ⊕ (Int)):=((bif (decide (v1<(a0.f_s.size:Int))) then ((byt a0.f_s v1).bind fun v2=>((kgz v2).bind fun v3=>(bif v3 then (some (true)) else ((byt a0.f_s v1).bind fun v4=>((ki6 v4).bind fun v5=>(some v5)))))) else (some (false))).bind fun v7=>(bif v7 then (some (.inl (w64 (v1+1)))) else (some (.inr v1))))
def kf9 (a0:S_notation_parser):Option BA:=((kaa (kgs a0) fuel a0.f_at).bind fun (v9:(Int))=>((cutS a0.f_s a0.f_at v9).bind fun v10=>(some v10)))
theorem kqg (a0:S_notation_parser) (r:(BA)) (h:kf9 a0=some r):kat Tryz.prog 111 ([(.ref 1 0 0)]++[]) [(1,(.box 120 [(fS a0.f_s),(fI a0.f_at)]))] [1] (.ret (fS r)) [(1,(.box 120 [(fS a0.f_s),(fI a0.f_at)]))] [1]:=by
 unfold kf9 at h
 refine hcx (gi:=0) Tryz.func111 ?_
 intro p0 q0 w0
 refine lp1 14 (fun v1=>⟨45,[(0,(.ref 1 0 0)),(3,(fI v1))],[(0,(.was p0 [1] q0 w0)),(1,(.box 120 [(fS a0.f_s),(fI a0.f_at)]))],[0,1],[]⟩) (.exit 0) (fun v9=>⟨45,[(0,(.ref 1 0 0)),(3,(fI v9))],[(0,(.was p0 [1] q0 w0)),(1,(.box 120 [(fS a0.f_s),(fI a0.f_at)]))],[0,1],[]⟩) h (fun v1 r h=>?_) fun v9 h=>?_
 ·unfold kgs at h
  refine jn1 2 .normal (fun v7=>⟨45,[(0,(.ref 1 0 0)),(3,(fI v1)),(32,(fB v7))],[(0,(.was p0 [1] q0 w0)),(1,(.box 120 [(fS a0.f_s),(fI a0.f_at)]))],[0,1],[]⟩) h (fun v7 h=>?_) fun v7 h=>?_
  ·refine gd 9 h (fun h=>?_) fun h=>?_
   ·refine byx 5 h fun v2 h=>?_
    refine cl 0 h (klq _) (by kernel_rfl) fun v3 h=>?_
    refine gd 1 h (fun h=>?_) fun h=>?_
    ·cases h;exact lj 10
    refine byx 5 h fun v4 h=>?_
    refine cl 0 h (kp4 _) (by kernel_rfl) fun v5 h=>?_
    cases h;exact lj 3
   cases h;exact lj 18
  refine cd 0 h (fun h=>?_) fun h=>?_
  ·cases h;exact lj 7
  cases h;exact lo 1 (by kernel_rfl)
 refine dw 1 9 ?_
 obtain ⟨v10,hv10,h⟩:=qi.1 h
 refine nst 10 (kjv (t:=9) (x:=(.tmp 38)) (lo:=(some (.tmp 42))) (hi:=(some (.tmp 43))) (d:=tt9) (s:=a0.f_s) (l:=(some a0.f_at)) (h:=(some v9)) hv10 kb0) ?_
 cases h;exact lhy 3
def kfd (a0:S_notation_parser) (a1:BA) (v1:(Int)×(Int)):Option (((Int)×(Int)) ⊕ ((Int) ⊕ ((Int)×(Int)))):=(bif (decide (v1.1<(a1.size:Int))) then ((bif (decide ((a0.f_s.size:Int)≤v1.2)) then (some (true)) else ((byt a0.f_s v1.2).bind fun v2=>((byt a1 v1.1).bind fun v3=>(some (v2 != v3))))).bind fun v5=>(bif v5 then (some (.inr (.inr (v1.2,v1.2)))) else (some (.inl ((w64 (v1.1+1)),(w64 (v1.2+1))))))) else (some (.inr (.inl v1.2))))
def ke4 (a0:S_notation_parser) (a1:BA):Option ((Int) ⊕ ((Int)×(Int))):=((kaa (kfd a0 a1) fuel (0,a0.f_at)).bind fun (v6:((Int) ⊕ ((Int)×(Int))))=>Sum.elim (fun v7=>(some (.inl v7))) (fun v8=>(some (.inr (v8.1,v8.2)))) v6)
theorem klm (a0:S_notation_parser) (a1:BA) (r:(Int) ⊕ ((Int)×(Int))) (h:ke4 a0 a1=some r):Sum.elim (fun v=>kat Tryz.prog 115 ([(.ref 1 0 0),(fS a1)]++[]) [(1,(.box 120 [(fS a0.f_s),(fI a0.f_at)]))] [1] (.ret (.fz (.tup []))) [(1,(.box 120 [(fS a0.f_s),(fI (v))]))] [1]) (fun v=>kat Tryz.prog 115 ([(.ref 1 0 0),(fS a1)]++[]) [(1,(.box 120 [(fS a0.f_s),(fI a0.f_at)]))] [1] (.pan (.iface 117 (.int .i64 (v.1)))) [(1,(.box 120 [(fS a0.f_s),(fI (v.2))]))] [1]) r:=by
 unfold ke4 at h
 refine hcx2 (gi:=0) Tryz.func115 (by kernel_rfl) (by kernel_rfl) (by kernel_rfl) (by kernel_rfl) (by kernel_rfl) (fun _=>by kernel_rfl) (fun _=>by kernel_rfl) (fun _=>by kernel_rfl) (by kernel_rfl) (fun _=>by kernel_rfl) (fun _=>by kernel_rfl) (fun _=>by kernel_rfl) ?_
 intro p0 q0 w0
 refine lpx 7 (fun v1=>⟨48,[(0,(.ref 1 0 0)),(1,(fS a1)),(6,(fI (a1.size:Int))),(7,(fI v1.1))],[(0,(.was p0 [1] q0 w0)),(1,(.box 120 [(fS a0.f_s),(fI v1.2)]))],[0,1],[]⟩) (fun v6 e st=>Sum.elim (fun p=>e = .exit 0∧LeSt st ⟨48,[],[(0,(.was p0 [1] q0 w0)),(1,(.box 120 [(fS a0.f_s),(fI (p))]))],[0,1],[]⟩) (fun p=>e = .panic [pnE (.iface 117 (.int .i64 (p.1)))]∧LeSt st ⟨48,[],[(0,(.was p0 [1] q0 w0)),(1,(.box 120 [(fS a0.f_s),(fI (p.2))]))],[0,1],[]⟩) v6) h (by kernel_rfl) (le_a) (fun v1 r h=>?_) fun v6 h e st' hq=>?_
 ·unfold kfd at h
  refine cd 5 h (fun h=>?_) fun h=>?_
  ·refine jn1 10 .normal (fun v5=>⟨48,[(0,(.ref 1 0 0)),(1,(fS a1)),(6,(fI (a1.size:Int))),(7,(fI v1.1)),(34,(fB v5))],[(0,(.was p0 [1] q0 w0)),(1,(.box 120 [(fS a0.f_s),(fI v1.2)]))],[0,1],[]⟩) h (fun v5 h=>?_) fun v5 h=>?_
   ·refine dw 0 23 ?_
    refine gd 11 h (fun h=>?_) fun h=>?_
    ·cases h;exact lj 16
    refine byx 8 h fun v2 h=>?_
    refine byx 2 h fun v3 h=>?_
    cases h;exact lj 4
   refine cd 0 h (fun h=>?_) fun h=>?_
   ·refine pnc 6 (v := .iface 117 (.int .i64 v1.2)) ?_
    cases h;exact lop 0 (le_a)
   cases h;exact lj 15
  cases h;exact lo 1 (by kernel_rfl)
 rcases v6 with v7 | v8
 ·try simp only [qf,qg] at h
  obtain ⟨rfl,hle⟩:=hq
  refine ⟨_,hle,?_⟩
  cases h;exact lhy 0
 ·try simp only [qf,qg] at h
  obtain ⟨rfl,hle⟩:=hq
  refine ⟨_,hle,?_⟩
  obtain rfl:=qp h;exact lhp 0 ⟨48,[],[(0,(.was p0 [1] q0 w0)),(1,(.box 120 [(fS a0.f_s),(fI v8.2)]))],[0,1],[]⟩ (le_a) rfl rfl (by kernel_rfl) rfl
def kdj (a0:S_notation_parser) (r20:(S_notation_parser)→Option (((Ex)×(Int)) ⊕ ((Int)×(Int)))) (v20:(S_api_Operator)×(Bool)) (v21:(Int)×(Int)×(List Ex)):Option (((Int)×(Int)×(List Ex)) ⊕ (((Int)×(List Ex)) ⊕ ((Int)×(Int)))):=(bif (decide (v21.1<(List.length v20.1.f_Args:Int))) then ((idx ([(⟨#[40]⟩:BA),(⟨#[44,32]⟩:BA)]:List BA) (imin v21.1 1)).bind fun v22=>((ke4 (S_notation_parser.mk a0.f_s v21.2.1) v22).bind fun v24=>Sum.elim (fun v23=>((r20 (S_notation_parser.mk a0.f_s v23)).bind fun v27=>Sum.elim (fun v26=>((app 8 v21.2.2 ([v26.1]:List (Ex))).bind fun v29=>(some (.inl ((w64 (v21.1+1)),v26.2,v29))))) (fun v28=>(some (.inr (.inr (v28.1,v28.2))))) v27)) (fun v25=>(some (.inr (.inr (v25.1,v25.2))))) v24)) else (some (.inr (.inl (v21.2.1,v21.2.2)))))
def kdw (r20:(S_notation_parser)→Option (((Ex)×(Int)) ⊕ ((Int)×(Int)))) (a0:S_notation_parser):Option (((Ex)×(Int)) ⊕ ((Int)×(Int))):=((bif (decide ((a0.f_s.size:Int)≤a0.f_at)) then (some (true)) else ((byt a0.f_s a0.f_at).bind fun v1=>((kgz v1).bind fun v2=>(some (!v2))))).bind fun v4=>(bif v4 then ((kc3 a0).bind fun v6=>Sum.elim (fun v5=>(some (.inl (v5.1,v5.2)))) (fun v7=>(some (.inr (v7,a0.f_at)))) v6) else ((kf9 a0).bind fun v8=>((bif (v8.toList == (⟨#[114]⟩:BA).toList) then ((cutS a0.f_s (w64 (a0.f_at+1)) a0.f_s.size).bind fun v9=>((kcg v9 (⟨#[34]⟩:BA)).bind fun v10=>(some v10))) else (some (false))).bind fun v12=>((bif (v8.toList == (⟨#[116,114,117,101]⟩:BA).toList) then (some (v8.toList == (⟨#[116,114,117,101]⟩:BA).toList)) else (some (v8.toList == (⟨#[102,97,108,115,101]⟩:BA).toList))).bind fun v14=>(bif v14 then ((kq9 (v8.toList == (⟨#[116,114,117,101]⟩:BA).toList)).bind fun v15=>(some (.inl ((Ex.mk 2 0 v15 (⟨#[]⟩:BA) ([]:List Ex)),(w64 (a0.f_at+(v8.size:Int))))))) else (bif v12 then ((kc3 a0).bind fun v17=>Sum.elim (fun v16=>(some (.inl (v16.1,v16.2)))) (fun v18=>(some (.inr (v18,a0.f_at)))) v17) else ((ki7 v8).bind fun v19=>(bif v19.2 then (some (.inl ((Ex.mk 1 v19.1 (Va.mk 0 0 (⟨#[]⟩:BA) ([]:List Va)) (⟨#[]⟩:BA) ([]:List Ex)),(w64 (a0.f_at+(v8.size:Int)))))) else ((kg8 v8).bind fun v20=>(bif (!v20.2) then (some (.inr (a0.f_at,a0.f_at))) else ((kaa (kdj a0 r20 v20) fuel (0,(w64 (a0.f_at+(v8.size:Int))),([]:List (Ex)))).bind fun (v30:(((Int)×(List Ex)) ⊕ ((Int)×(Int))))=>Sum.elim (fun v31=>((ke4 (S_notation_parser.mk a0.f_s v31.1) (⟨#[41]⟩:BA)).bind fun v33=>Sum.elim (fun v32=>(some (.inl ((Ex.mk 3 0 (Va.mk 0 0 (⟨#[]⟩:BA) ([]:List Va)) v8 v31.2),v32)))) (fun v34=>(some (.inr (v34.1,v34.2)))) v33)) (fun v35=>(some (.inr (v35.1,v35.2)))) v30))))))))))))
theorem kmr (r20:(S_notation_parser)→Option (((Ex)×(Int)) ⊕ ((Int)×(Int)))) (ih20:∀ (x0:S_notation_parser) r,r20 x0=some r→Sum.elim (fun v=>kat Tryz.prog 72 ([(.ref 1 0 0)]++[]) [(1,(.box 120 [(fS (x0.f_s)),(fI (x0.f_at))]))] [1] (.ret (.fz (eExR (v.1)))) [(1,(.box 120 [(fS (x0.f_s)),(fI (v.2))]))] [1]) (fun v=>kat Tryz.prog 72 ([(.ref 1 0 0)]++[]) [(1,(.box 120 [(fS (x0.f_s)),(fI (x0.f_at))]))] [1] (.pan (.iface 117 (.int .i64 (v.1)))) [(1,(.box 120 [(fS (x0.f_s)),(fI (v.2))]))] [1]) r) (a0:S_notation_parser) (r:((Ex)×(Int)) ⊕ ((Int)×(Int))) (h:kdw r20 a0=some r):Sum.elim (fun v=>kat Tryz.prog 72 ([(.ref 1 0 0)]++[]) [(1,(.box 120 [(fS a0.f_s),(fI a0.f_at)]))] [1] (.ret (.fz (eExR (v.1)))) [(1,(.box 120 [(fS a0.f_s),(fI (v.2))]))] [1]) (fun v=>kat Tryz.prog 72 ([(.ref 1 0 0)]++[]) [(1,(.box 120 [(fS a0.f_s),(fI a0.f_at)]))] [1] (.pan (.iface 117 (.int .i64 (v.1)))) [(1,(.box 120 [(fS a0.f_s),(fI (v.2))]))] [1]) r:=by
 unfold kdw at h
 refine hcx2 (gi:=0) Tryz.func72 (by kernel_rfl) (by kernel_rfl) (by kernel_rfl) (by kernel_rfl) (by kernel_rfl) (fun _=>by kernel_rfl) (fun _=>by kernel_rfl) (fun _=>by kernel_rfl) (by kernel_rfl) (fun _=>by kernel_rfl) (fun _=>by kernel_rfl) (fun _=>by kernel_rfl) ?_
 intro p0 q0 w0
 refine jn1 6 .normal (fun v4=>⟨144,[(0,(.ref 1 0 0)),(33,(fB v4))],[(0,(.was p0 [1] q0 w0)),(1,(.box 120 [(fS a0.f_s),(fI a0.f_at)]))],[0,1],[]⟩) h (fun v4 h=>?_) fun v4 h=>?_
 ·refine dw 0 19 ?_
  refine gd 11 h (fun h=>?_) fun h=>?_
  ·cases h;exact lj 14
  refine byx 9 h fun v1 h=>?_
  refine cl 0 h (klq _) (by kernel_rfl) fun v2 h=>?_
  cases h;exact lj 3
 refine cd 0 h (fun h=>?_) fun h=>?_
 ·refine hclS 3 [.one .keep] [(1,1)] [(1,1)] [1] h (kki _) (fun _=>by kernel_rfl) (fun _=>by kernel_rfl) (fun v7 h=>?_) fun v5 h=>?_
  ·obtain rfl:=qp h;exact lhp 0 ⟨144,[],[(0,(.was p0 [1] q0 w0)),(1,(.box 120 [(fS a0.f_s),(fI a0.f_at)]))],[0,1],[]⟩ (le_a) rfl rfl (by kernel_rfl) rfl
  cases h;exact lhy 3
 refine hcl 4 [.one .keep] [(1,1)] [(1,1)] [1] h (kqg _) (fun _=>by kernel_rfl) fun v8 h=>?_
 refine jn1 3 .normal (fun v12=>⟨144,[(0,(.ref 1 0 0)),(3,(fS v8)),(4,(fB v12))],[(0,(.was p0 [1] q0 w0)),(1,(.box 120 [(fS a0.f_s),(fI a0.f_at)]))],[0,1],[]⟩) h (fun v12 h=>?_) fun v12 h=>?_
 ·refine dw 0 12 ?_
  refine gd 3 h (fun h=>?_) fun h=>?_
  ·obtain ⟨v9,hv9,h⟩:=qi.1 h
   refine nst 10 (kjv (t:=9) (x:=(.tmp 44)) (lo:=(some (.tmp 49))) (hi:=none) (d:=tt9) (s:=a0.f_s) (l:=(some (w64 (a0.f_at+1)))) (h:=none) hv9 kb0) ?_
   refine cl 0 h (kkv _ _) (by kernel_rfl) fun v10 h=>?_
   cases h;exact lj 3
  cases h;exact lj 15
 refine jn1 7 .normal (fun v14=>⟨144,[(0,(.ref 1 0 0)),(3,(fS v8)),(4,(fB v12)),(54,(fB v14))],[(0,(.was p0 [1] q0 w0)),(1,(.box 120 [(fS a0.f_s),(fI a0.f_at)]))],[0,1],[]⟩) h (fun v14 h=>?_) fun v14 h=>?_
 ·refine cd 5 h (fun h=>?_) fun h=>?_
  ·cases h;exact lj 1
  cases h;exact lj 4
 refine cd 0 h (fun h=>?_) fun h=>?_
 ·refine cl 17 h (kzk _) (by kernel_rfl) fun v15 h=>?_
  refine wle 4 (le_a:LeSt _ ⟨144,[(2,(.ref 2 0 0))],[(0,(.was p0 [1] q0 w0)),(1,(.box 120 [(fS a0.f_s),(fI (w64 (a0.f_at+(v8.size:Int))))])),(2,(.box 129 [(fI 2),(fI 0),(fI v15.type),(fI v15.num),(fS v15.text),(.fz (eL 4 eVaR v15.items)),(fS (⟨#[]⟩:BA)),(.fz (eL 1 eExR ([]:List Ex)))]))],[2,0,1],[]⟩) ?_
  refine wle 0 (LeSt.trans (show LeSt _ ⟨144,[(2,(.ref 2 0 0))],[(0,(.was p0 [1] q0 w0)),(1,(.box 120 [(fS a0.f_s),(fI (w64 (a0.f_at+(v8.size:Int))))])),(2,(.box 129 [(fI 2),(fI 0),(fI v15.type),(fI v15.num),(fS v15.text),(.fz (eL 4 eVaR v15.items)),(fS (⟨#[]⟩:BA)),(.fz (eL 1 eExR ([]:List Ex)))]))],[2,0,1],[]⟩ from le_a) (LeSt.trans (kve 2 (e:=129) (xs:=[(eI 2),(eI 0),(eI v15.type),(eI v15.num),(eS v15.text),(eL 4 eVaR v15.items),(eS (⟨#[]⟩:BA)),(eL 1 eExR ([]:List Ex))]) (cells:=[(fI 2),(fI 0),(fI v15.type),(fI v15.num),(fS v15.text),(.fz (eL 4 eVaR v15.items)),(fS (⟨#[]⟩:BA)),(.fz (eL 1 eExR ([]:List Ex)))])) (show LeSt _ ⟨144,[(2,(.fz (eExR (Ex.mk 2 0 v15 (⟨#[]⟩:BA) ([]:List Ex)))))],[(0,(.was p0 [1] q0 w0)),(1,(.box 120 [(fS a0.f_s),(fI (w64 (a0.f_at+(v8.size:Int))))]))],[2,0,1],[]⟩ from (by rw [kn3 2 0 v15 (⟨#[]⟩:BA) ([]:List Ex)];exact le_a)))) ?_
  cases h;exact lhy 1
 refine cd 6 h (fun h=>?_) fun h=>?_
 ·refine hclS 3 [.one .keep] [(1,1)] [(1,1)] [1] h (kki _) (fun _=>by kernel_rfl) (fun _=>by kernel_rfl) (fun v18 h=>?_) fun v16 h=>?_
  ·obtain rfl:=qp h;exact lhp 0 ⟨144,[],[(0,(.was p0 [1] q0 w0)),(1,(.box 120 [(fS a0.f_s),(fI a0.f_at)]))],[0,1],[]⟩ (le_a) rfl rfl (by kernel_rfl) rfl
  cases h;exact lhy 3
 refine cl 5 h (kp5 _) (by kernel_rfl) fun v19 h=>?_
 refine cd 10 h (fun h=>?_) fun h=>?_
 ·refine wle 20 (le_a:LeSt _ ⟨144,[(2,(.ref 2 0 0))],[(0,(.was p0 [1] q0 w0)),(1,(.box 120 [(fS a0.f_s),(fI (w64 (a0.f_at+(v8.size:Int))))])),(2,(.box 129 [(fI 1),(fI v19.1),(fI 0),(fI 0),(fS (⟨#[]⟩:BA)),(.fz (eL 4 eVaR ([]:List Va))),(fS (⟨#[]⟩:BA)),(.fz (eL 1 eExR ([]:List Ex)))]))],[2,0,1],[]⟩) ?_
  refine wle 0 (LeSt.trans (show LeSt _ ⟨144,[(2,(.ref 2 0 0))],[(0,(.was p0 [1] q0 w0)),(1,(.box 120 [(fS a0.f_s),(fI (w64 (a0.f_at+(v8.size:Int))))])),(2,(.box 129 [(fI 1),(fI v19.1),(fI 0),(fI 0),(fS (⟨#[]⟩:BA)),(.fz (eL 4 eVaR ([]:List Va))),(fS (⟨#[]⟩:BA)),(.fz (eL 1 eExR ([]:List Ex)))]))],[2,0,1],[]⟩ from le_a) (LeSt.trans (kve 2 (e:=129) (xs:=[(eI 1),(eI v19.1),(eI 0),(eI 0),(eS (⟨#[]⟩:BA)),(eL 4 eVaR ([]:List Va)),(eS (⟨#[]⟩:BA)),(eL 1 eExR ([]:List Ex))]) (cells:=[(fI 1),(fI v19.1),(fI 0),(fI 0),(fS (⟨#[]⟩:BA)),(.fz (eL 4 eVaR ([]:List Va))),(fS (⟨#[]⟩:BA)),(.fz (eL 1 eExR ([]:List Ex)))])) (show LeSt _ ⟨144,[(2,(.fz (eExR (Ex.mk 1 v19.1 (Va.mk 0 0 (⟨#[]⟩:BA) ([]:List Va)) (⟨#[]⟩:BA) ([]:List Ex)))))],[(0,(.was p0 [1] q0 w0)),(1,(.box 120 [(fS a0.f_s),(fI (w64 (a0.f_at+(v8.size:Int))))]))],[2,0,1],[]⟩ from (by rw [kn3 1 v19.1 (Va.mk 0 0 (⟨#[]⟩:BA) ([]:List Va)) (⟨#[]⟩:BA) ([]:List Ex)];exact le_a)))) ?_
  cases h;exact lhy 1
 refine cl 4 h (kqo _) (by kernel_rfl) fun v20 h=>?_
 refine cd 13 h (fun h=>?_) fun h=>?_
 ·refine pnc 6 (v := .iface 117 (.int .i64 a0.f_at)) ?_
  obtain rfl:=qp h;exact lhp 0 ⟨144,[],[(0,(.was p0 [1] q0 w0)),(1,(.box 120 [(fS a0.f_s),(fI a0.f_at)]))],[0,1],[]⟩ (le_a) rfl rfl (by kernel_rfl) rfl
 refine wle 30 (ket (e2:=129) (e:=62) (size:=1) (id2:=3) (j:=7) (id:=4) (cells:=[(fI 3),(fI 0),(fI 0),(fI 0),(fS (⟨#[]⟩:BA)),(.fz (.atom (.slice none 0 0))),(fS v8),(.fz (.atom (.slice none 0 0)))])) ?_
 refine lpx 0 (fun v21=>⟨144,[(0,(.ref 1 0 0)),(9,(.ref 3 0 0)),(118,(fI (List.length v20.1.f_Args:Int))),(119,(fI v21.1))],[(0,(.was p0 [1] q0 w0)),(1,(.box 120 [(fS a0.f_s),(fI v21.2.1)])),(3,(.box 129 [(fI 3),(fI 0),(fI 0),(fI 0),(fS (⟨#[]⟩:BA)),(.fz (.atom (.slice none 0 0))),(fS v8),(.row 4 (List.length v21.2.2))])),(4,(.frow 62 1 (List.map eExR v21.2.2)))],[4,3,0,1],[]⟩) (fun v30 e st=>Sum.elim (fun p=>e = .exit 1∧LeSt st ⟨144,[(0,(.ref 1 0 0)),(9,(.ref 3 0 0))],[(0,(.was p0 [1] q0 w0)),(1,(.box 120 [(fS a0.f_s),(fI (p.1))])),(3,(.box 129 [(fI 3),(fI 0),(fI 0),(fI 0),(fS (⟨#[]⟩:BA)),(.fz (.atom (.slice none 0 0))),(fS v8),(.row 4 (List.length (p.2)))])),(4,(.frow 62 1 (List.map eExR (p.2))))],[4,3,0,1],[]⟩) (fun p=>e = .panic [pnE (.iface 117 (.int .i64 (p.1)))]∧LeSt st ⟨144,[],[(0,(.was p0 [1] q0 w0)),(1,(.box 120 [(fS a0.f_s),(fI (p.2))]))],[0,1],[]⟩) v30) h (by kernel_rfl) (le_a) (fun v21 r h=>?_) fun v30 h e st' hq=>?_
 ·unfold kdj at h
  refine cd 5 h (fun h=>?_) fun h=>?_
  ·refine ix nS 14 h fun v22 h=>?_
   refine hclS 1 [.one .keep, .one .keep] [(1,1)] [(1,1)] [1] h (klm _ _) (fun _=>by kernel_rfl) (fun _=>by kernel_rfl) (fun v25 h=>?_) fun v23 h=>?_
   ·cases h;exact lop 0 (le_a)
   refine dz 1 9 [6,8] [1,4] (List.range 5) (by kernel_rfl) ?_
   refine hclSZ 6 [.one .keep] [(1,1)] [(1,1)] [1] h (ih20 _) (fun _=>by kernel_rfl) (fun _=>by kernel_rfl) (by kernel_rfl) (fun _=>by kernel_rfl) (fun v28 h=>?_) (fun _ _=>?_) fun v26 h=>?_
   ·cases h;exact lop 0 (le_a)
   ·exact zdd 2
   refine apZ nExR 1 h (by kernel_rfl) (by kernel_rfl) (fun _=>by kernel_rfl) fun v29 h=>?_
   cases h;exact lj 9
  cases h;exact lo 1 (by kernel_rfl)
 rcases v30 with v31 | v35
 ·try simp only [qf,qg] at h
  obtain ⟨rfl,hle⟩:=hq
  refine ⟨_,hle,?_⟩
  refine hclS 3 [.one .keep, .one .keep] [(1,1)] [(1,1)] [1] h (klm _ _) (fun _=>by kernel_rfl) (fun _=>by kernel_rfl) (fun v34 h=>?_) fun v32 h=>?_
  ·obtain rfl:=qp h;exact lhp 0 ⟨144,[],[(0,(.was p0 [1] q0 w0)),(1,(.box 120 [(fS a0.f_s),(fI v34.2)]))],[0,1],[]⟩ (le_a) rfl rfl (by kernel_rfl) rfl
  refine wle 6 (kjs (e2:=129) (id2:=3) (j:=7) (id:=4) (n:=List.length v31.2) (e:=62) (size:=1) (xs:=List.map eExR v31.2) (cells:=[(fI 3),(fI 0),(fI 0),(fI 0),(fS (⟨#[]⟩:BA)),(.fz (.atom (.slice none 0 0))),(fS v8),(.row 4 (List.length v31.2))]) (by kernel_rfl) (by kernel_rfl) (by kernel_rfl) (by simp)) ?_
  refine wle 0 (le_a:LeSt _ ⟨144,[(2,(.ref 3 0 0))],[(0,(.was p0 [1] q0 w0)),(1,(.box 120 [(fS a0.f_s),(fI v32)])),(3,(.box 129 [(fI 3),(fI 0),(fI 0),(fI 0),(fS (⟨#[]⟩:BA)),(.fz (eL 4 eVaR ([]:List Va))),(fS v8),(.fz (eL 1 eExR v31.2))]))],[4,3,0,1],[]⟩) ?_
  refine wle 0 (LeSt.trans (show LeSt _ ⟨144,[(2,(.ref 3 0 0))],[(0,(.was p0 [1] q0 w0)),(1,(.box 120 [(fS a0.f_s),(fI v32)])),(3,(.box 129 [(fI 3),(fI 0),(fI 0),(fI 0),(fS (⟨#[]⟩:BA)),(.fz (eL 4 eVaR ([]:List Va))),(fS v8),(.fz (eL 1 eExR v31.2))]))],[4,3,0,1],[]⟩ from le_a) (LeSt.trans (kve 3 (e:=129) (xs:=[(eI 3),(eI 0),(eI 0),(eI 0),(eS (⟨#[]⟩:BA)),(eL 4 eVaR ([]:List Va)),(eS v8),(eL 1 eExR v31.2)]) (cells:=[(fI 3),(fI 0),(fI 0),(fI 0),(fS (⟨#[]⟩:BA)),(.fz (eL 4 eVaR ([]:List Va))),(fS v8),(.fz (eL 1 eExR v31.2))])) (show LeSt _ ⟨144,[(2,(.fz (eExR (Ex.mk 3 0 (Va.mk 0 0 (⟨#[]⟩:BA) ([]:List Va)) v8 v31.2))))],[(0,(.was p0 [1] q0 w0)),(1,(.box 120 [(fS a0.f_s),(fI v32)]))],[4,3,0,1],[]⟩ from (by rw [kn3 3 0 (Va.mk 0 0 (⟨#[]⟩:BA) ([]:List Va)) v8 v31.2];exact le_a)))) ?_
  cases h;exact lhy 1
 ·try simp only [qf,qg] at h
  obtain ⟨rfl,hle⟩:=hq
  refine ⟨_,hle,?_⟩
  obtain rfl:=qp h;exact lhp 0 ⟨144,[],[(0,(.was p0 [1] q0 w0)),(1,(.box 120 [(fS a0.f_s),(fI v35.2)]))],[0,1],[]⟩ (le_a) rfl rfl (by kernel_rfl) rfl
def kcd:Nat→(S_notation_parser)→Option (((Ex)×(Int)) ⊕ ((Int)×(Int)))
  | 0=>fun _=>none
  | n+1=>kdw (kcd n)
theorem kjl:∀ n:Nat,∀ (x0:S_notation_parser) r,kcd n x0=some r→Sum.elim (fun v=>kat Tryz.prog 72 ([(.ref 1 0 0)]++[]) [(1,(.box 120 [(fS (x0.f_s)),(fI (x0.f_at))]))] [1] (.ret (.fz (eExR (v.1)))) [(1,(.box 120 [(fS (x0.f_s)),(fI (v.2))]))] [1]) (fun v=>kat Tryz.prog 72 ([(.ref 1 0 0)]++[]) [(1,(.box 120 [(fS (x0.f_s)),(fI (x0.f_at))]))] [1] (.pan (.iface 117 (.int .i64 (v.1)))) [(1,(.box 120 [(fS (x0.f_s)),(fI (v.2))]))] [1]) r
  | 0=>fun _ _ h=>by cases h
  | n+1=>fun a0 r h=>kmr (kcd n) (kjl n) a0 r h
def kk8 (a0:La) (a1:Int) (v1:(Int)×(List Int)):Option (((Int)×(List Int)) ⊕ (List Int)):=(bif (decide (v1.1<(List.length a0.rules:Int))) then ((((idx a0.rules v1.1).bind fun v2=>(bif (v2.symbol == a1) then ((app 8 v1.2 ([v1.1]:List Int)).bind fun v3=>(some v3)) else (some v1.2))):Option (List Int)).bind fun (v5:(List Int))=>(some (.inl ((w64 (v1.1+1)),v5)))) else (some (.inr v1.2)))
def knj (a0:La) (a1:Int):Option (List Int):=((kaa (kk8 a0 a1) fuel (0,([]:List Int))).bind fun (v7:(List Int))=>(some v7))
theorem k2h (a0:La) (a1:Int) (r:List Int) (h:knj a0 a1=some r):kae Tryz.prog 73 [eLa a0,eI a1] (eL 1 eI r):=by
 unfold knj at h
 refine pcl [.one (.sl 1)] Tryz.func73 ?_
 refine wle 18 (kl3 (e:=3) (size:=1) (t:=5) (id:=2) (by decide)) ?_
 refine lp1 0 (fun v1=>⟨26,[(1,(fI a1)),(5,(.row 2 (List.length v1.2))),(9,(.fz (eL 9 eRu a0.rules))),(10,(fI (List.length a0.rules:Int))),(11,(fI v1.1))],[(2,(.frow 3 1 (List.map eI v1.2)))],[2],[]⟩) (.exit 0) (fun v7=>⟨26,[(5,(.row 2 (List.length v7)))],[(2,(.frow 3 1 (List.map eI v7)))],[2],[]⟩) h (fun v1 r h=>?_) fun v7 h=>?_
 ·unfold kk8 at h
  refine cd 5 h (fun h=>?_) fun h=>?_
  ·refine jn1 3 .normal (fun v5=>⟨26,[(1,(fI a1)),(5,(.row 2 (List.length v5))),(9,(.fz (eL 9 eRu a0.rules))),(10,(fI (List.length a0.rules:Int))),(11,(fI v1.1))],[(2,(.frow 3 1 (List.map eI v5)))],[2],[]⟩) h (fun v5 h=>?_) fun v5 h=>?_
   ·refine ix nRu 3 h fun v2 h=>?_
    refine cd 12 h (fun h=>?_) fun h=>?_
    ·refine ap nI 4 h fun v3 h=>?_
     cases h;exact lj 2
    cases h;exact lj 1
   cases h;exact lj 4
  cases h;exact lo 1 (by kernel_rfl)
 refine wle 5 (kpc (t:=4) (id:=2) (n:=List.length v7) (e:=3) (size:=1) (xs:=List.map eI v7) (by kernel_rfl) (by kernel_rfl) (by simp)) ?_
 cases h;exact lq 1
def kld (a0:Ru) (a1:Ex):Option Bool:=(((unEx a1).bind fun v1=>(bif (a0.kind == v1.kind) then ((unEx a1).bind fun v2=>(bif (a0.op.toList == v2.op.toList) then ((unEx a1).bind fun v3=>(bif (a0.input == v3.input) then ((unEx a1).bind fun v4=>((kf6 a0.const v4.value).bind fun v5=>(some v5))) else (some (false)))) else (some (false)))) else (some (false)))).bind fun v7=>(some v7))
theorem kx5 (a0:Ru) (a1:Ex) (r:Bool) (h:kld a0 a1=some r):kae Tryz.prog 74 [eRu a0,eExR a1] (eB r):=by
 unfold kld at h
 refine pcl [.one .keep] Tryz.func74 ?_
 refine jn1 6 .normal (fun v7=>⟨39,[(4,(fB v7))],[],[],[]⟩) h (fun v7 h=>?_) fun v7 h=>?_
 ·refine dw 0 32 ?_
  obtain ⟨v1,hv1,h⟩:=qi.1 h
  refine nst 3 (kvd (x:=(.tmp 7)) (e:=a1) (c:=v1) hv1) ?_
  refine gd 4 h (fun h=>?_) fun h=>?_
  ·obtain ⟨v2,hv2,h⟩:=qi.1 h
   refine nst 3 (kvd (x:=(.tmp 15)) (e:=a1) (c:=v2) hv2) ?_
   refine gd 5 h (fun h=>?_) fun h=>?_
   ·obtain ⟨v3,hv3,h⟩:=qi.1 h
    refine nst 3 (kvd (x:=(.tmp 24)) (e:=a1) (c:=v3) hv3) ?_
    refine gd 5 h (fun h=>?_) fun h=>?_
    ·obtain ⟨v4,hv4,h⟩:=qi.1 h
     refine nst 3 (kvd (x:=(.tmp 33)) (e:=a1) (c:=v4) hv4) ?_
     refine cl 3 h (ks4 _ _) (by kernel_rfl) fun v5 h=>?_
     cases h;exact lj 3
    cases h;exact lj 11
   cases h;exact lj 20
  cases h;exact lj 29
 cases h;exact lq 1
def khy (a0:Tm) (r34:(Tm)→Option (Tm)) (v1:(Int)×(List Tm)):Option (((Int)×(List Tm)) ⊕ (List Tm)):=(bif (decide (v1.1<(List.length a0.args:Int))) then ((idx a0.args v1.1).bind fun v2=>((r34 v2).bind fun v3=>((app 32 v1.2 ([v3]:List (Tm))).bind fun v4=>(some (.inl ((w64 (v1.1+1)),v4)))))) else (some (.inr v1.2)))
def kip (r34:(Tm)→Option (Tm)) (a0:Tm):Option (Tm):=((kaa (khy a0 r34) fuel (0,([]:List (Tm)))).bind fun (v6:(List Tm))=>(some (Tm.mk a0.rule v6)))
theorem ktm (r34:(Tm)→Option (Tm)) (ih34:∀ (x0:Tm) r,r34 x0=some r→kae Tryz.prog 34 [eTm x0] (eTm r)) (a0:Tm) (r:Tm) (h:kip r34 a0=some r):kae Tryz.prog 34 [eTm a0] (eTm r):=by
 unfold kip at h
 refine pcl [.ag [.keep, .sl 2]] Tryz.func34 ?_
 refine wle 22 (ket (e2:=29) (e:=29) (size:=2) (id2:=3) (j:=1) (id:=4) (cells:=[(fI a0.rule),(.fz (.atom (.slice none 0 0)))])) ?_
 refine lp1 0 (fun v1=>⟨25,[(2,(.ref 2 0 0)),(3,(.ref 3 0 0)),(10,(.fz (eL 2 eTmR a0.args))),(11,(fI (List.length a0.args:Int))),(12,(fI v1.1))],[(2,(.box 29 [(fI 0),(.fz (.atom (.slice none 0 0)))])),(3,(.box 29 [(fI a0.rule),(.row 4 (List.length v1.2))])),(4,(.frow 29 2 (List.map eTmR v1.2)))],[4,3,2],[]⟩) (.exit 0) (fun v6=>⟨25,[(2,(.ref 2 0 0)),(3,(.ref 3 0 0))],[(2,(.box 29 [(fI 0),(.fz (.atom (.slice none 0 0)))])),(3,(.box 29 [(fI a0.rule),(.row 4 (List.length v6))])),(4,(.frow 29 2 (List.map eTmR v6)))],[4,3,2],[]⟩) h (fun v1 r h=>?_) fun v6 h=>?_
 ·unfold khy at h
  refine cd 5 h (fun h=>?_) fun h=>?_
  ·refine ix nTmR 5 h fun v2 h=>?_
   refine dw 4 5 ?_
   refine cl 3 h (ih34 _) (by kernel_rfl) fun v3 h=>?_
   refine nst 0 ((kafl (st':=⟨25,[(19,(.fz (eTm v3)))],[],[],[]⟩) (ids:=[]) (ts:=[(19,(.one .keep))]) (by kernel_rfl) (kyb (c := .lim 2 1 [eTm v3]) kb0)).eqv (show AV.lim 2 1 [eTm v3] = .lim 2 1 (List.map eTmR ([v3]:List (Tm))) by simp only [List.map,koq])) ?_
   refine ap nTmR 1 h fun v4 h=>?_
   cases h;exact lj 7
  cases h;exact lo 1 (by kernel_rfl)
 refine wle 5 (kjs (e2:=29) (id2:=2) (j:=1) (id:=4) (n:=List.length v6) (e:=29) (size:=2) (xs:=List.map eTmR v6) (cells:=[(fI a0.rule),(.row 4 (List.length v6))]) (by kernel_rfl) (by kernel_rfl) (by kernel_rfl) (by simp)) ?_
 cases h;exact lq 1
def kg1:Nat→(Tm)→Option (Tm)
  | 0=>fun _=>none
  | n+1=>kip (kg1 n)
theorem kpk:∀ (n:Nat) (x0:Tm) r,kg1 n x0=some r→kae Tryz.prog 34 [eTm x0] (eTm r)
  | 0,_,_,h=>by cases h
  | n+1,x0,r,h=>ktm (kg1 n) (kpk n) x0 r h
def kib (a0:BA):Option ((Ex)×(Int)×(Int)):=((kcd fuel (S_notation_parser.mk a0 0)).bind fun v2=>Sum.elim (fun v1=>(bif (decide (v1.2<(a0.size:Int))) then (some (Ex.nil,v1.2,8)) else (some (v1.1,0,0)))) (fun v3=>(some (Ex.nil,v3.1,8))) v2)
theorem kv5 (a0:BA) (r:(Ex)×(Int)×(Int)) (h:kib a0=some r):kat Tryz.prog 32 ([(fS a0)]++[]) [] [] (.ret (.fz (.tup [(eExR r.1),(eI r.2.1),(eI r.2.2)]))) [(1,(.box 62 [(.fz (eExR r.1))])),(2,(.box 3 [(fI r.2.1)])),(3,(.box 33 [(fI r.2.2)]))] [1,2,3]:=by
 unfold kib at h
 refine hdx (gi:=0) Tryz.func32 ?_
 intro p0 q0 w0
 refine dfer 9 4 (f:=71) (vs:=[(.ref 1 0 0),(.ref 2 0 0),(.ref 3 0 0)]) ?_
 intro gs1 hgs1
 refine hclS 11 [.one .keep] [(5,1)] [(1,5)] [1] h (kjl fuel _) (fun _=>by kernel_rfl) (fun _=>by kernel_rfl) (fun v3 h=>?_) fun v1 h=>?_
 ·refine dfx 0 6 6 6 [2,3,4] (.panic [pnE (.iface 117 (.int .i64 v3.1))]) hgs1 Tryz.func71 (by kernel_rfl) (by kernel_rfl) (by kernel_rfl) (by kernel_rfl) (gi:=4) (pv:=(.iface 117 (.int .i64 v3.1))) ?_
  intro gs4
  obtain rfl:=qp h;exact ldx 23 (vs':=[(.ref 1 0 0),(.ref 2 0 0),(.ref 3 0 0)]) ⟨25,[(2,(.ref 1 0 0)),(3,(.ref 2 0 0)),(4,(.ref 3 0 0))],[(0,(.was p0 [] q0 w0)),(1,(.box 62 [(.fz (eExR (Ex.nil)))])),(2,(.box 3 [(fI v3.1)])),(3,(.box 33 [(fI 8)]))],[0,1,2,3],[]⟩ (by kernel_rfl) (by kernel_rfl) (le_a) rfl rfl
 refine cd 13 h (fun h=>?_) fun h=>?_
 ·refine pnc 6 (v := .iface 117 (.int .i64 v1.2)) ?_
  refine dfx 0 6 6 6 [2,3,4] (.panic [pnE (.iface 117 (.int .i64 v1.2))]) hgs1 Tryz.func71 (by kernel_rfl) (by kernel_rfl) (by kernel_rfl) (by kernel_rfl) (gi:=4) (pv:=(.iface 117 (.int .i64 v1.2))) ?_
  intro gs2
  obtain rfl:=qp h;exact ldx 23 (vs':=[(.ref 1 0 0),(.ref 2 0 0),(.ref 3 0 0)]) ⟨25,[(2,(.ref 1 0 0)),(3,(.ref 2 0 0)),(4,(.ref 3 0 0))],[(0,(.was p0 [] q0 w0)),(1,(.box 62 [(.fz (eExR (Ex.nil)))])),(2,(.box 3 [(fI v1.2)])),(3,(.box 33 [(fI 8)]))],[0,1,2,3],[]⟩ (by kernel_rfl) (by kernel_rfl) (le_a) rfl rfl
 refine dfx 9 6 6 6 [2,3,4] .ret hgs1 Tryz.func71 (by kernel_rfl) (by kernel_rfl) (by kernel_rfl) (by kernel_rfl) (gi:=4) (pv := .nilIface) ?_
 intro gs3
 obtain rfl:=qp h;exact ldx 9 (vs':=[(.ref 1 0 0),(.ref 2 0 0),(.ref 3 0 0)]) ⟨25,[(2,(.ref 1 0 0)),(3,(.ref 2 0 0)),(4,(.ref 3 0 0))],[(0,(.was p0 [] q0 w0)),(1,(.box 62 [(.fz (eExR v1.1))])),(2,(.box 3 [(fI 0)])),(3,(.box 33 [(fI 0)]))],[0,1,2,3],[]⟩ (by kernel_rfl) (by kernel_rfl) (le_a) rfl rfl
def kbz (a0:La) (a1:Ex) (r25:(La)→(Ex)→(Int)→Option ((Int)×(List Tm)×(Bool))) (v5:Ru) (v7:(Int)×(List Tm)):Option (((Int)×(List Tm)) ⊕ ((Unit) ⊕ (List Tm))):=(bif (decide (v7.1<(List.length v5.args:Int))) then ((idx v5.args v7.1).bind fun v8=>((unEx a1).bind fun v9=>((idx v9.args v7.1).bind fun v10=>((r25 a0 v10 v8).bind fun v11=>(bif (!v11.2.2) then (some (.inr (.inl ()))) else ((app 32 v7.2 ([(Tm.mk v11.1 v11.2.1)]:List (Tm))).bind fun v12=>(some (.inl ((w64 (v7.1+1)),v12))))))))) else (some (.inr (.inr v7.2))))
def kbx (a0:La) (a1:Ex) (r25:(La)→(Ex)→(Int)→Option ((Int)×(List Tm)×(Bool))) (v2:List Int) (v3:(Int)):Option ((Int) ⊕ ((Int)×(List Tm)×(Bool))):=(bif (decide (v3<(List.length v2:Int))) then ((((idx v2 v3).bind fun v4=>((idx a0.rules v4).bind fun v5=>((kld v5 a1).bind fun v6=>(bif (!v6) then (some (.inr ())) else ((kaa (kbz a0 a1 r25 v5) fuel (0,([]:List (Tm)))).bind fun (v13:((Unit) ⊕ (List Tm)))=>Sum.elim (fun v14=>(some (.inr ()))) (fun v15=>(some (.inl (v4,v15)))) v13))))):Option (((Int)×(List Tm)) ⊕ (Unit))).bind fun (v16:(((Int)×(List Tm)) ⊕ (Unit)))=>Sum.elim (fun v17=>(some (.inr (v17.1,v17.2,true)))) (fun v18=>(some (.inl (w64 (v3+1))))) v16) else (some (.inr (0,([]:List Tm),false))))
def kb2 (r25:(La)→(Ex)→(Int)→Option ((Int)×(List Tm)×(Bool))) (a0:La) (a1:Ex) (a2:Int):Option ((Int)×(List Tm)×(Bool)):=((knj a0 a2).bind fun v2=>((kaa (kbx a0 a1 r25 v2) fuel 0).bind fun (v20:(Int)×(List Tm)×(Bool))=>(some (v20.1,v20.2.1,v20.2.2))))
def kas:Nat→(La)→(Ex)→(Int)→Option ((Int)×(List Tm)×(Bool))
  | 0=>fun _ _ _=>none
  | n+1=>kb2 (kas n)
def kag (a0:La):Ex→Int→FV→Prop:=fun x s vx=>∃ (n:Nat) (r:(Int)×(List Tm)×(Bool)),kas n a0 x s=some r∧vx=(.agg [(eI r.1),(eL 2 eTmR r.2.1),(eB r.2.2)])
theorem khi:KeyT Tryz.prog 123:=⟨⟨62,129,3,_,_,_,_,_,Tryz.underlying123,rfl,rfl,by decide,by decide,rfl,rfl,rfl,rfl,by kernel_rfl,Tryz.underlying62,(show Tryz.prog.info? 129=some Tryz.t129 from by kernel_rfl),(show Tryz.t129.size≠0 from by decide),Tryz.underlying3⟩⟩
theorem km4 {f g:(La)→(Ex)→(Int)→Option ((Int)×(List Tm)×(Bool))} (hfg:∀ x y z,OLe (f x y z) (g x y z)) (a0:La) (a1:Ex) (a2:Int):OLe (kb2 f a0 a1 a2) (kb2 g a0 a1 a2):=by
 have h1:∀ v4 v6,OLe (kbz a0 a1 f v4 v6) (kbz a0 a1 g v4 v6):=by
  intro v4 v6
  unfold kbz
  (repeat' first | exact OLe.refl | assumption | (refine OLe.bind ?_ fun _=>?_) | refine OLe.ite ?_ ?_ | (refine OLe.sum (fun _=>?_) fun _=>?_) | (refine OLe.loop (fun _=>?_) _ _) | solve_by_elim)
 have h2:∀ v1 v2,OLe (kbx a0 a1 f v1 v2) (kbx a0 a1 g v1 v2):=by
  intro v1 v2
  unfold kbx
  (repeat' first | exact OLe.refl | assumption | (refine OLe.bind ?_ fun _=>?_) | refine OLe.ite ?_ ?_ | (refine OLe.sum (fun _=>?_) fun _=>?_) | (refine OLe.loop (fun _=>?_) _ _) | solve_by_elim)
 unfold kb2
 (repeat' first | exact OLe.refl | assumption | (refine OLe.bind ?_ fun _=>?_) | refine OLe.ite ?_ ?_ | (refine OLe.sum (fun _=>?_) fun _=>?_) | (refine OLe.loop (fun _=>?_) _ _) | solve_by_elim)
theorem kkl (a0:La) (a1:Ex) (a2:Int):∀ n k:Nat,OLe (kas n a0 a1 a2) (kas (n+k) a0 a1 a2):=by
 have h1:∀ (n:Nat) (x:La) (y:Ex) (z:Int),OLe (kas n x y z) (kas (n+1) x y z):=by
  intro n
  induction n with
  | zero=>exact fun x y z r h=>by cases h
  | succ n ih=>exact fun x y z=>km4 ih x y z
 intro n k
 induction k with
 | zero=>exact OLe.refl
 | succ k ih=>exact fun r h=>h1 (n+k) _ _ _ r (ih r h)
theorem koa {n m:Nat} {a0:La} {a1:Ex} {a2:Int} {r r':(Int)×(List Tm)×(Bool)} (h:kas n a0 a1 a2=some r) (h':kas m a0 a1 a2=some r'):r=r':=by
 have e1:=kkl a0 a1 a2 n m r h
 have e2:=kkl a0 a1 a2 m n r' h'
 rw [Nat.add_comm m n,e1] at e2
 exact qp e2
theorem knt (n:Nat) (ih25:∀ (x0:La) (x1:Ex) (x2:Int) r,kas n x0 x1 x2=some r→kat Tryz.prog 33 ([(.ref 1 0 0),(.fz (eExR (x1))),(fI (x2))]++[]) [(1,(.box 68 [(fS (x0.name)),(.fz (eL 1 eI (x0.inputs))),(.fz (eL 2 eSy (x0.symbols))),(.fz (eL 9 eRu (x0.rules))),(.mp 2)])),(2,(.memo (kd2 (kag x0)) none))] [1,2] (.ret (.fz (.agg [(eI r.1),(eL 2 eTmR r.2.1),(eB r.2.2)]))) [(1,(.box 68 [(fS (x0.name)),(.fz (eL 1 eI (x0.inputs))),(.fz (eL 2 eSy (x0.symbols))),(.fz (eL 9 eRu (x0.rules))),(.mp 2)])),(2,(.memo (kd2 (kag x0)) none)),(3,(.box 70 [(fI r.1),(.fz (eL 2 eTmR r.2.1)),(fB r.2.2)]))] [1,2,3]) (a0:La) (a1:Ex) (a2:Int) (r:(Int)×(List Tm)×(Bool)) (h:kb2 (kas n) a0 a1 a2=some r):kat Tryz.prog 33 ([(.ref 1 0 0),(.fz (eExR a1)),(fI a2)]++[]) [(1,(.box 68 [(fS a0.name),(.fz (eL 1 eI a0.inputs)),(.fz (eL 2 eSy a0.symbols)),(.fz (eL 9 eRu a0.rules)),(.mp 2)])),(2,(.memo (kd2 (kag a0)) none))] [1,2] (.ret (.fz (.agg [(eI r.1),(eL 2 eTmR r.2.1),(eB r.2.2)]))) [(1,(.box 68 [(fS a0.name),(.fz (eL 1 eI a0.inputs)),(.fz (eL 2 eSy a0.symbols)),(.fz (eL 9 eRu a0.rules)),(.mp 2)])),(2,(.memo (kd2 (kag a0)) none)),(3,(.box 70 [(fI r.1),(.fz (eL 2 eTmR r.2.1)),(fB r.2.2)]))] [1,2,3]:=by
 have hcopy:kas (n+1) a0 a1 a2=some r:=h
 unfold kb2 at h
 refine hcxS (gi:=0) Tryz.func33 ?_
 intro p0 q0 w0
 refine wmemo 13 (Ψ:=kag a0) (hi:=none) (X:=a1) (s:=a2) (e:=123) (b7:=4) 2 5 (fun v1 vx hv=>?_) (fun v1=>?_)
 ·obtain ⟨fuel1,rr,hd,rfl⟩:=hv
  have h:(some (rr.1,rr.2.1,rr.2.2))=some r:=by have hq:=koa hd hcopy;subst hq;rfl
  refine dz 0 11 [9,10] [6] (List.range 7) (by kernel_rfl) ?_
  refine nst 5 (kabh (t:=66) (x:=(.tmp 25)) (y:=(.tmp 26)) (id:=2) (gi:=5) (kt:=123) (et:=70) (Φ:=kd2 (kag a0)) (r:=(some (.agg [(eI (rr.1)),(eL 2 eTmR (rr.2.1)),(eB (rr.2.2))]))) (p:=v1) (s:=a2) (X:=a1) (zv := .agg #[.int .i64 0, .slice none 0 0, .bool false]) (zx := .agg [(eI 0),(.atom (.slice none 0 0)),(eB (false))]) (kur _) (by kernel_rfl) Tryz.underlying66 khi Tryz.t70 (by kernel_rfl) (by kernel_rfl) (fun _ _=>RF.zeroA (by kernel_rfl) (by kernel_rfl))) ?_
  refine wle 8 (le_a:LeSt _ ⟨96,[(0,(.ref 1 0 0)),(1,(.fz (eExR a1))),(2,(fI a2)),(6,(.ref 3 0 0)),(7,(.ref 4 0 0)),(8,(.ref 6 0 0)),(9,(fB (true)))],[(0,(.was p0 [1,2] q0 w0)),(1,(.box 68 [(fS a0.name),(.fz (eL 1 eI a0.inputs)),(.fz (eL 2 eSy a0.symbols)),(.fz (eL 9 eRu a0.rules)),(.mp 2)])),(2,(.memo (kd2 (kag a0)) none)),(3,(.box 70 [(fI 0),(.fz (.atom (.slice none 0 0))),(fB (false))])),(4,(.box 123 [(.fz (.atom (.pointer v1))),(fI a2)])),(5,(.gho [.pointer v1] [(.fz (eExR a1))])),(6,(.box 70 [(fI (rr.1)),(.fz (eL 2 eTmR (rr.2.1))),(fB (rr.2.2))]))],[6,5,4,3,0,1,2],[]⟩) ?_
  cases h;exact lhy 11
 ·refine dz 0 11 [9,10] [6] (List.range 7) (by kernel_rfl) ?_
  refine nst 5 (kabh (t:=66) (x:=(.tmp 25)) (y:=(.tmp 26)) (id:=2) (gi:=5) (kt:=123) (et:=70) (Φ:=kd2 (kag a0)) (r:=none) (p:=v1) (s:=a2) (X:=a1) (zv := .agg #[.int .i64 0, .slice none 0 0, .bool false]) (zx := .agg [(eI 0),(.atom (.slice none 0 0)),(eB (false))]) (kur _) (by kernel_rfl) Tryz.underlying66 khi Tryz.t70 (by kernel_rfl) (by kernel_rfl) (fun _ _=>RF.zeroA (by kernel_rfl) (by kernel_rfl))) ?_
  refine wle 8 (le_a:LeSt _ ⟨96,[(0,(.ref 1 0 0)),(1,(.fz (eExR a1))),(2,(fI a2)),(6,(.ref 3 0 0)),(7,(.ref 4 0 0)),(8,(.ref 6 0 0)),(9,(fB (false)))],[(0,(.was p0 [1,2] q0 w0)),(1,(.box 68 [(fS a0.name),(.fz (eL 1 eI a0.inputs)),(.fz (eL 2 eSy a0.symbols)),(.fz (eL 9 eRu a0.rules)),(.mp 2)])),(2,(.memo (kd2 (kag a0)) none)),(3,(.box 70 [(fI 0),(.fz (.atom (.slice none 0 0))),(fB (false))])),(4,(.box 123 [(.fz (.atom (.pointer v1))),(fI a2)])),(5,(.gho [.pointer v1] [(.fz (eExR a1))])),(6,(.box 70 [(fI 0),(.fz (.atom (.slice none 0 0))),(fB (false))]))],[6,5,4,3,0,1,2],[]⟩) ?_
  refine cl 20 h (k2h _ _) (by kernel_rfl) fun v2 h=>?_
  refine lp1 4 (fun v3=>⟨96,[(0,(.ref 1 0 0)),(1,(.fz (eExR a1))),(6,(.ref 3 0 0)),(7,(.ref 4 0 0)),(10,(.ref 7 0 0)),(37,(.fz (eL 1 eI v2))),(38,(fI (List.length v2:Int))),(39,(fI v3))],[(0,(.was p0 [1,2] q0 w0)),(1,(.box 68 [(fS a0.name),(.fz (eL 1 eI a0.inputs)),(.fz (eL 2 eSy a0.symbols)),(.fz (eL 9 eRu a0.rules)),(.mp 2)])),(2,(.memo (kd2 (kag a0)) none)),(3,(.box 70 [(fI 0),(.fz (.atom (.slice none 0 0))),(fB (false))])),(4,(.box 123 [(.fz (.atom (.pointer v1))),(fI a2)])),(5,(.gho [.pointer v1] [(.fz (eExR a1))])),(7,(.box 70 [(fI 0),(.fz (.atom (.slice none 0 0))),(fB (false))]))],[7,5,4,3,0,1,2],[]⟩) (.exit 0) (fun v20=>⟨96,[(0,(.ref 1 0 0)),(6,(.ref 3 0 0)),(7,(.ref 4 0 0)),(10,(.ref 7 0 0))],[(0,(.was p0 [1,2] q0 w0)),(1,(.box 68 [(fS a0.name),(.fz (eL 1 eI a0.inputs)),(.fz (eL 2 eSy a0.symbols)),(.fz (eL 9 eRu a0.rules)),(.mp 2)])),(2,(.memo (kd2 (kag a0)) none)),(3,(.box 70 [(fI 0),(.fz (.atom (.slice none 0 0))),(fB (false))])),(4,(.box 123 [(.fz (.atom (.pointer v1))),(fI a2)])),(5,(.gho [.pointer v1] [(.fz (eExR a1))])),(7,(.box 70 [(fI v20.1),(.fz (eL 2 eTmR v20.2.1)),(fB v20.2.2)]))],[7,5,4,3,0,1,2],[]⟩) h (fun v3 r h=>?_) fun v20 h=>?_
  ·unfold kbx at h
   refine cd 5 h (fun h=>?_) fun h=>?_
   ·refine jnQ 3 (fun v16 e st=>Sum.elim (fun p=>e = .exit 0∧LeSt st ⟨96,[(0,(.ref 1 0 0)),(6,(.ref 3 0 0)),(7,(.ref 4 0 0)),(10,(.ref 7 0 0))],[(0,(.was p0 [1,2] q0 w0)),(1,(.box 68 [(fS a0.name),(.fz (eL 1 eI a0.inputs)),(.fz (eL 2 eSy a0.symbols)),(.fz (eL 9 eRu a0.rules)),(.mp 2)])),(2,(.memo (kd2 (kag a0)) none)),(3,(.box 70 [(fI 0),(.fz (.atom (.slice none 0 0))),(fB (false))])),(4,(.box 123 [(.fz (.atom (.pointer v1))),(fI a2)])),(5,(.gho [.pointer v1] [(.fz (eExR a1))])),(7,(.box 70 [(fI (p.1)),(.row 10 (List.length (p.2))),(fB (true))])),(10,(.frow 29 2 (List.map eTmR (p.2))))],[10,7,5,4,3,0,1,2],[]⟩) (fun p=>e = .exit 1∧LeSt st ⟨96,[(0,(.ref 1 0 0)),(1,(.fz (eExR a1))),(6,(.ref 3 0 0)),(7,(.ref 4 0 0)),(10,(.ref 7 0 0)),(37,(.fz (eL 1 eI v2))),(38,(fI (List.length v2:Int))),(39,(fI v3))],[(0,(.was p0 [1,2] q0 w0)),(1,(.box 68 [(fS a0.name),(.fz (eL 1 eI a0.inputs)),(.fz (eL 2 eSy a0.symbols)),(.fz (eL 9 eRu a0.rules)),(.mp 2)])),(2,(.memo (kd2 (kag a0)) none)),(3,(.box 70 [(fI 0),(.fz (.atom (.slice none 0 0))),(fB (false))])),(4,(.box 123 [(.fz (.atom (.pointer v1))),(fI a2)])),(5,(.gho [.pointer v1] [(.fz (eExR a1))])),(7,(.box 70 [(fI 0),(.fz (.atom (.slice none 0 0))),(fB (false))]))],[7,5,4,3,0,1,2],[]⟩) v16) h (fun v16 h=>?_) fun v16 h e st' hq=>?_
    ·refine ix nI 2 h fun v4 h=>?_
     refine ix nRu 11 h fun v5 h=>?_
     refine cl 9 h (kx5 _ _) (by kernel_rfl) fun v6 h=>?_
     refine cd 2 h (fun h=>?_) fun h=>?_
     ·cases h;exact lj 1
     refine wle 17 (ket (e2:=29) (e:=29) (size:=2) (id2:=9) (j:=1) (id:=10) (cells:=[(fI v4),(.fz (.atom (.slice none 0 0)))])) ?_
     refine lpx 0 (fun v7=>⟨96,[(0,(.ref 1 0 0)),(1,(.fz (eExR a1))),(6,(.ref 3 0 0)),(7,(.ref 4 0 0)),(10,(.ref 7 0 0)),(14,(.ref 9 0 0)),(37,(.fz (eL 1 eI v2))),(38,(fI (List.length v2:Int))),(39,(fI v3)),(58,(.fz (eL 1 eI v5.args))),(59,(fI (List.length v5.args:Int))),(60,(fI v7.1))],[(0,(.was p0 [1,2] q0 w0)),(1,(.box 68 [(fS a0.name),(.fz (eL 1 eI a0.inputs)),(.fz (eL 2 eSy a0.symbols)),(.fz (eL 9 eRu a0.rules)),(.mp 2)])),(2,(.memo (kd2 (kag a0)) none)),(3,(.box 70 [(fI 0),(.fz (.atom (.slice none 0 0))),(fB (false))])),(4,(.box 123 [(.fz (.atom (.pointer v1))),(fI a2)])),(5,(.gho [.pointer v1] [(.fz (eExR a1))])),(7,(.box 70 [(fI 0),(.fz (.atom (.slice none 0 0))),(fB (false))])),(9,(.box 29 [(fI v4),(.row 10 (List.length v7.2))])),(10,(.frow 29 2 (List.map eTmR v7.2)))],[10,9,7,5,4,3,0,1,2],[]⟩) (fun v13 e st=>Sum.elim (fun p=>e = .exit 1∧LeSt st ⟨96,[(0,(.ref 1 0 0)),(1,(.fz (eExR a1))),(6,(.ref 3 0 0)),(7,(.ref 4 0 0)),(10,(.ref 7 0 0)),(37,(.fz (eL 1 eI v2))),(38,(fI (List.length v2:Int))),(39,(fI v3))],[(0,(.was p0 [1,2] q0 w0)),(1,(.box 68 [(fS a0.name),(.fz (eL 1 eI a0.inputs)),(.fz (eL 2 eSy a0.symbols)),(.fz (eL 9 eRu a0.rules)),(.mp 2)])),(2,(.memo (kd2 (kag a0)) none)),(3,(.box 70 [(fI 0),(.fz (.atom (.slice none 0 0))),(fB (false))])),(4,(.box 123 [(.fz (.atom (.pointer v1))),(fI a2)])),(5,(.gho [.pointer v1] [(.fz (eExR a1))])),(7,(.box 70 [(fI 0),(.fz (.atom (.slice none 0 0))),(fB (false))]))],[7,5,4,3,0,1,2],[]⟩) (fun p=>e = .exit 2∧LeSt st ⟨96,[(0,(.ref 1 0 0)),(6,(.ref 3 0 0)),(7,(.ref 4 0 0)),(10,(.ref 7 0 0)),(14,(.ref 9 0 0))],[(0,(.was p0 [1,2] q0 w0)),(1,(.box 68 [(fS a0.name),(.fz (eL 1 eI a0.inputs)),(.fz (eL 2 eSy a0.symbols)),(.fz (eL 9 eRu a0.rules)),(.mp 2)])),(2,(.memo (kd2 (kag a0)) none)),(3,(.box 70 [(fI 0),(.fz (.atom (.slice none 0 0))),(fB (false))])),(4,(.box 123 [(.fz (.atom (.pointer v1))),(fI a2)])),(5,(.gho [.pointer v1] [(.fz (eExR a1))])),(7,(.box 70 [(fI 0),(.fz (.atom (.slice none 0 0))),(fB (false))])),(9,(.box 29 [(fI v4),(.row 10 (List.length (p)))])),(10,(.frow 29 2 (List.map eTmR (p))))],[10,9,7,5,4,3,0,1,2],[]⟩) v13) h (by kernel_rfl) (le_a) (fun v7 r h=>?_) fun v13 h e st' hq=>?_
     ·unfold kbz at h
      refine cd 5 h (fun h=>?_) fun h=>?_
      ·refine ix nI 6 h fun v8 h=>?_
       obtain ⟨v9,hv9,h⟩:=qi.1 h
       refine nst 8 (kvd (x:=(.tmp 66)) (e:=a1) (c:=v9) hv9) ?_
       refine ix nExR 3 h fun v10 h=>?_
       refine hcl 2 [.one .keep, .one .keep, .one .keep] [(1,1),(2,2)] [(1,1),(2,2),(3,11)] [1,2] h (ih25 _ _ _) (fun _=>by kernel_rfl) fun v11 h=>?_
       refine cd 10 h (fun h=>?_) fun h=>?_
       ·cases h;exact lo 1 (by kernel_rfl)
       refine wle 6 (le_a:LeSt _ ⟨96,[(0,(.ref 1 0 0)),(1,(.fz (eExR a1))),(6,(.ref 3 0 0)),(7,(.ref 4 0 0)),(10,(.ref 7 0 0)),(14,(.ref 9 0 0)),(37,(.fz (eL 1 eI v2))),(38,(fI (List.length v2:Int))),(39,(fI v3)),(58,(.fz (eL 1 eI v5.args))),(59,(fI (List.length v5.args:Int))),(60,(fI v7.1)),(79,(.row 10 (List.length v7.2))),(81,(.fz (eTm (Tm.mk v11.1 v11.2.1))))],[(0,(.was p0 [1,2] q0 w0)),(1,(.box 68 [(fS a0.name),(.fz (eL 1 eI a0.inputs)),(.fz (eL 2 eSy a0.symbols)),(.fz (eL 9 eRu a0.rules)),(.mp 2)])),(2,(.memo (kd2 (kag a0)) none)),(3,(.box 70 [(fI 0),(.fz (.atom (.slice none 0 0))),(fB (false))])),(4,(.box 123 [(.fz (.atom (.pointer v1))),(fI a2)])),(5,(.gho [.pointer v1] [(.fz (eExR a1))])),(7,(.box 70 [(fI 0),(.fz (.atom (.slice none 0 0))),(fB (false))])),(9,(.box 29 [(fI v4),(.row 10 (List.length v7.2))])),(10,(.frow 29 2 (List.map eTmR v7.2)))],[10,9,7,5,4,3,0,1,2],[]⟩) ?_
       refine wle 1 (kt0 (t:=82) (x := .lim 2 1 [eTm (Tm.mk v11.1 v11.2.1)]) (y := .lim 2 1 (List.map eTmR ([(Tm.mk v11.1 v11.2.1)]:List (Tm)))) (by kernel_rfl) (by simp only [List.map,koq])) ?_
       refine ap nTmR 0 h fun v12 h=>?_
       cases h;exact lj 7
      cases h;exact lo 1 (by kernel_rfl)
     rcases v13 with v14 | v15
     ·try simp only [qf,qg] at h
      obtain ⟨rfl,hle⟩:=hq
      refine ⟨_,hle,?_⟩
      cases h;exact lj 0
     ·try simp only [qf,qg] at h
      obtain ⟨rfl,hle⟩:=hq
      refine ⟨_,hle,?_⟩
      cases h;exact lj 7
    rcases v16 with v17 | v18
    ·try simp only [qf,qg] at h
     obtain ⟨rfl,hle⟩:=hq
     refine ⟨_,hle,?_⟩
     cases h;exact lox 0 (LeSt.trans (kjs (e2:=70) (id2:=7) (j:=1) (id:=10) (n:=List.length v17.2) (e:=29) (size:=2) (xs:=List.map eTmR v17.2) (cells:=[(fI v17.1),(.row 10 (List.length v17.2)),(fB (true))]) (by kernel_rfl) (by kernel_rfl) (by kernel_rfl) (by simp)) (le_a))
    ·try simp only [qf,qg] at h
     obtain ⟨rfl,hle⟩:=hq
     refine ⟨_,hle,?_⟩
     cases h;exact lj 4
   cases h;exact lo 1 (by kernel_rfl)
  refine dw 1 6 ?_
  refine sst 7 (kaal (hi:=none) (t:=66) (x:=(.tmp 92)) (y:=(.tmp 93)) (v:=(.tmp 94)) (id:=2) (gi:=5) (kt:=123) (et:=70) (Φ:=kd2 (kag a0)) (p:=v1) (s:=a2) (X:=a1) (vx:=(.agg [(eI v20.1),(eL 2 eTmR v20.2.1),(eB v20.2.2)])) ⟨a1,a2,rfl,_,_,hcopy,by cases h;rfl⟩ (kur _) (by kernel_rfl) Tryz.underlying66 khi) (by kernel_rfl) ?_
  cases h;exact lhy 7
theorem kkb:∀ n:Nat,∀ (x0:La) (x1:Ex) (x2:Int) r,kas n x0 x1 x2=some r→kat Tryz.prog 33 ([(.ref 1 0 0),(.fz (eExR (x1))),(fI (x2))]++[]) [(1,(.box 68 [(fS (x0.name)),(.fz (eL 1 eI (x0.inputs))),(.fz (eL 2 eSy (x0.symbols))),(.fz (eL 9 eRu (x0.rules))),(.mp 2)])),(2,(.memo (kd2 (kag x0)) none))] [1,2] (.ret (.fz (.agg [(eI r.1),(eL 2 eTmR r.2.1),(eB r.2.2)]))) [(1,(.box 68 [(fS (x0.name)),(.fz (eL 1 eI (x0.inputs))),(.fz (eL 2 eSy (x0.symbols))),(.fz (eL 9 eRu (x0.rules))),(.mp 2)])),(2,(.memo (kd2 (kag x0)) none)),(3,(.box 70 [(fI r.1),(.fz (eL 2 eTmR r.2.1)),(fB r.2.2)]))] [1,2,3]
  | 0=>fun _ _ _ _ h=>by cases h
  | n+1=>fun a0 a1 a2 r h=>knt n (kkb n) a0 a1 a2 r h
def kfv (a0:La) (a1:Int) (a2:BA):Option ((Tm)×(Int)×(Int)):=((kdr a0).bind fun v1=>(bif (v1 != 0) then (some ((Tm.mk 0 ([]:List Tm)),0,v1)) else ((bif (decide (a1<0)) then (some (true)) else (some (decide ((List.length a0.symbols:Int)≤a1)))).bind fun v3=>(bif v3 then (some ((Tm.mk 0 ([]:List Tm)),0,1)) else (bif (decide (65536<(a2.size:Int))) then (some ((Tm.mk 0 ([]:List Tm)),0,2)) else ((kib a2).bind fun v4=>(bif (v4.2.2 != 0) then (some ((Tm.mk 0 ([]:List Tm)),v4.2.1,v4.2.2)) else ((kas fuel a0 v4.1 a1).bind fun v5=>((bif (!v5.2.2) then (some (true)) else ((keu a0 a1 (Tm.mk v5.1 v5.2.1)).bind fun v6=>(some (v6 != 0)))).bind fun v8=>(bif v8 then (some ((Tm.mk 0 ([]:List Tm)),0,7)) else ((kg1 fuel (Tm.mk v5.1 v5.2.1)).bind fun v9=>(some (v9,0,0)))))))))))))
theorem kio (a0:La) (a1:Int) (a2:BA) (r:(Tm)×(Int)×(Int)) (h:kfv a0 a1 a2=some r):kae Tryz.prog 14 [eLa a0,eI a1,eS a2] (.tup [eTm r.1,eI r.2.1,eI r.2.2]):=by
 unfold kfv at h
 refine pcl [.ag [.keep, .sl 2], .one .keep, .one .keep] Tryz.func14 ?_
 refine cl 11 h (kja _) (by kernel_rfl) fun v1 h=>?_
 refine cd 7 h (fun h=>?_) fun h=>?_
 ·cases h;exact lq 9
 refine jn1 3 .normal (fun v3=>⟨69,[(1,(fI a1)),(2,(fS a2)),(3,(.ref 1 0 0)),(6,(.ref 2 0 0)),(29,(fB v3))],[(1,(.box 26 [(fS a0.name),(.fz (eL 1 eI a0.inputs)),(.fz (eL 2 eSy a0.symbols)),(.fz (eL 9 eRu a0.rules))])),(2,(.box 29 [(fI 0),(.fz (.atom (.slice none 0 0)))]))],[2,1],[]⟩) h (fun v3 h=>?_) fun v3 h=>?_
 ·refine gd 4 h (fun h=>?_) fun h=>?_
  ·cases h;exact lj 7
  cases h;exact lj 7
 refine cd 0 h (fun h=>?_) fun h=>?_
 ·cases h;exact lq 8
 refine cd 8 h (fun h=>?_) fun h=>?_
 ·cases h;exact lq 8
 refine hcl 4 [.one .keep] [] [(1,3),(2,4),(3,5)] [] h (kv5 _) (fun _=>by kernel_rfl) fun v4 h=>?_
 refine cd 14 h (fun h=>?_) fun h=>?_
 ·cases h;exact lq 10
 refine sst 4 (k8u (t:=66) (id:=6) (kd2 (kag a0))) (by kernel_rfl) ?_
 refine hcl 9 [.one .keep, .one .keep, .one .keep] [(7,1),(6,2)] [(1,7),(2,6),(3,8)] [1,2] h (kkb fuel _ _ _) (fun _=>by kernel_rfl) fun v5 h=>?_
 refine jn1 5 .normal (fun v8=>⟨69,[(6,(.ref 2 0 0)),(14,(.ref 9 0 0)),(64,(fB v8))],[(2,(.box 29 [(fI 0),(.fz (.atom (.slice none 0 0)))])),(9,(.box 70 [(fI v5.1),(.fz (eL 2 eTmR v5.2.1)),(fB v5.2.2)]))],[9,2],[]⟩) h (fun v8 h=>?_) fun v8 h=>?_
 ·refine gd 5 h (fun h=>?_) fun h=>?_
  ·cases h;exact lj 8
  refine cl 4 h (ku3 _ _ _) (by kernel_rfl) fun v6 h=>?_
  cases h;exact lj 3
 refine cd 0 h (fun h=>?_) fun h=>?_
 ·cases h;exact lq 8
 refine cl 5 h (kpk _ _) (by kernel_rfl) fun v9 h=>?_
 cases h;exact lq 5
def kka (a0:Int):Option BA:=((bif (decide (a0<0)) then (some (true)) else (some (decide (9≤a0)))).bind fun v2=>(bif v2 then (some (⟨#[]⟩:BA)) else ((idx ([(⟨#[]⟩:BA),(⟨#[98,111,111,108]⟩:BA),(⟨#[105,110,116]⟩:BA),(⟨#[116,101,120,116]⟩:BA),(⟨#[98,105,116,115]⟩:BA),(⟨#[105,110,116,115]⟩:BA),(⟨#[116,101,120,116,115]⟩:BA),(⟨#[116,97,98,108,101]⟩:BA),(⟨#[112,97,116,116,101,114,110]⟩:BA)]:List BA) a0).bind fun v3=>(some v3))))
theorem kmi (a0:Int) (r:BA) (h:kka a0=some r):kae Tryz.prog 44 [eI a0] (eS r):=by
 unfold kka at h
 refine pcl [.one .keep] Tryz.func44 ?_
 refine jn1 12 .normal (fun v2=>⟨14,[(0,(fI a0)),(3,(.ref 1 0 0)),(10,(fB v2))],[(1,(.box 141 [(fS (⟨#[]⟩:BA)),(fS (⟨#[98,111,111,108]⟩:BA)),(fS (⟨#[105,110,116]⟩:BA)),(fS (⟨#[116,101,120,116]⟩:BA)),(fS (⟨#[98,105,116,115]⟩:BA)),(fS (⟨#[105,110,116,115]⟩:BA)),(fS (⟨#[116,101,120,116,115]⟩:BA)),(fS (⟨#[116,97,98,108,101]⟩:BA)),(fS (⟨#[112,97,116,116,101,114,110]⟩:BA))]))],[1],[]⟩) h (fun v2 h=>?_) fun v2 h=>?_
 ·refine gd 4 h (fun h=>?_) fun h=>?_
  ·cases h;exact lj 4
  cases h;exact lj 4
 refine cd 0 h (fun h=>?_) fun h=>?_
 ·cases h;exact lq 5
 obtain ⟨v3,hv3,h⟩:=qi.1 h
 refine nst 4 (kafn (enc:=eS) (t:=141) (e:=9) (eb:=141) (x:=(.tmp 3)) (y:=(.tmp 11)) (n:=9) (id:=1) (off:=0) (d:=k2q) (de:=tt9) (k := .i64) (cells:=[(fS (⟨#[]⟩:BA)),(fS (⟨#[98,111,111,108]⟩:BA)),(fS (⟨#[105,110,116]⟩:BA)),(fS (⟨#[116,101,120,116]⟩:BA)),(fS (⟨#[98,105,116,115]⟩:BA)),(fS (⟨#[105,110,116,115]⟩:BA)),(fS (⟨#[116,101,120,116,115]⟩:BA)),(fS (⟨#[116,97,98,108,101]⟩:BA)),(fS (⟨#[112,97,116,116,101,114,110]⟩:BA))]) hv3 kb0) ?_
 refine nst 0 (kaby (enc:=eS) (xs:=[(⟨#[]⟩:BA),(⟨#[98,111,111,108]⟩:BA),(⟨#[105,110,116]⟩:BA),(⟨#[116,101,120,116]⟩:BA),(⟨#[98,105,116,115]⟩:BA),(⟨#[105,110,116,115]⟩:BA),(⟨#[116,101,120,116,115]⟩:BA),(⟨#[116,97,98,108,101]⟩:BA),(⟨#[112,97,116,116,101,114,110]⟩:BA)]) (v:=v3) (i:=a0) (t:=9) (eb:=141) (x:=(.tmp 12)) (id:=1) (off:=0) (d:=tt9) (cells:=[(fS (⟨#[]⟩:BA)),(fS (⟨#[98,111,111,108]⟩:BA)),(fS (⟨#[105,110,116]⟩:BA)),(fS (⟨#[116,101,120,116]⟩:BA)),(fS (⟨#[98,105,116,115]⟩:BA)),(fS (⟨#[105,110,116,115]⟩:BA)),(fS (⟨#[116,101,120,116,115]⟩:BA)),(fS (⟨#[116,97,98,108,101]⟩:BA)),(fS (⟨#[112,97,116,116,101,114,110]⟩:BA))]) hv3 kb0) ?_
 cases h;exact lq 3
def kp3 (a0:BA) (v3:(Int)):Option ((Int) ⊕ ((Unit) ⊕ (Bool))):=(bif (decide (v3<(a0.size:Int))) then (((byt a0 v3).bind fun v4=>((kgz v4).bind fun v5=>(bif (!v5) then (bif (v3 == 0) then (some (true)) else ((byt a0 v3).bind fun v6=>(bif (v6 != 45) then ((byt a0 v3).bind fun v7=>((ki6 v7).bind fun v8=>(some (!v8)))) else (some (false))))) else (some (false))))).bind fun v10=>(bif v10 then (some (.inr (.inr false))) else (some (.inl (w64 (v3+1)))))) else (some (.inr (.inl ()))))
def khf (a0:BA):Option Bool:=((bif (decide ((a0.size:Int)<1)) then (some (true)) else (some (decide (24<(a0.size:Int))))).bind fun v2=>(bif v2 then (some false) else ((kaa (kp3 a0) fuel 0).bind fun (v11:((Unit) ⊕ (Bool)))=>Sum.elim (fun v12=>(some true)) (fun v13=>(some v13)) v11)))
theorem kin (a0:BA) (r:Bool) (h:khf a0=some r):kae Tryz.prog 87 [eS a0] (eB r):=by
 unfold khf at h
 refine pcl [.one .keep] Tryz.func87 ?_
 refine jn1 6 .normal (fun v2=>⟨40,[(0,(fS a0)),(11,(fB v2))],[],[],[]⟩) h (fun v2 h=>?_) fun v2 h=>?_
 ·refine gd 5 h (fun h=>?_) fun h=>?_
  ·cases h;exact lj 5
  cases h;exact lj 5
 refine cd 0 h (fun h=>?_) fun h=>?_
 ·cases h;exact lq 5
 refine lpx 9 (fun v3=>⟨40,[(0,(fS a0)),(13,(fI (a0.size:Int))),(14,(fI v3))],[],[],[]⟩) (fun v11 e st=>Sum.elim (fun p=>e = .exit 0∧LeSt st ⟨40,[],[],[],[]⟩) (fun p=>e = .ret∧retX TT st Tryz.f87.results.toList [.one .keep]=some (eB (p))) v11) h (by kernel_rfl) (le_a) (fun v3 r h=>?_) fun v11 h e st' hq=>?_
 ·unfold kp3 at h
  refine cd 5 h (fun h=>?_) fun h=>?_
  ·refine jn1 9 .normal (fun v10=>⟨40,[(0,(fS a0)),(13,(fI (a0.size:Int))),(14,(fI v3)),(38,(fB v10))],[],[],[]⟩) h (fun v10 h=>?_) fun v10 h=>?_
   ·refine byx 3 h fun v4 h=>?_
    refine cl 0 h (klq _) (by kernel_rfl) fun v5 h=>?_
    refine gd 2 h (fun h=>?_) fun h=>?_
    ·refine gd 3 h (fun h=>?_) fun h=>?_
     ·cases h;exact lj 14
     refine byx 2 h fun v6 h=>?_
     refine gd 2 h (fun h=>?_) fun h=>?_
     ·refine byx 2 h fun v7 h=>?_
      refine cl 0 h (kp4 _) (by kernel_rfl) fun v8 h=>?_
      cases h;exact lj 5
     cases h;exact lj 9
    cases h;exact lj 17
   refine cd 0 h (fun h=>?_) fun h=>?_
   ·cases h;exact lor 5
   cases h;exact lj 5
  cases h;exact lo 1 (by kernel_rfl)
 rcases v11 with v12 | v13
 ·try simp only [qf,qg] at h
  obtain ⟨rfl,hle⟩:=hq
  refine ⟨_,hle,?_⟩
  cases h;exact lq 5
 ·try simp only [qf,qg] at h
  obtain ⟨rfl,hret⟩:=hq
  refine ⟨_,LeSt.refl,?_⟩
  cases h;exact lv hret
def kpg (a0:BA) (v1:(Int)):Option ((Int) ⊕ ((Unit) ⊕ ((Int)×(Bool)))):=(bif (decide (v1≤8)) then ((kka v1).bind fun v2=>(bif (v2.toList == a0.toList) then (some (.inr (.inr (v1,true)))) else (some (.inl (w64 (v1+1)))))) else (some (.inr (.inl ()))))
def klo (a0:BA):Option ((Int)×(Bool)):=((kaa (kpg a0) fuel 1).bind fun (v3:((Unit) ⊕ ((Int)×(Bool))))=>Sum.elim (fun v4=>(some (0,false))) (fun v5=>(some v5)) v3)
theorem kpb (a0:BA) (r:(Int)×(Bool)) (h:klo a0=some r):kae Tryz.prog 88 [eS a0] (.tup [eI r.1,eB r.2]):=by
 unfold klo at h
 refine pcl [.one .keep, .one .keep] Tryz.func88 ?_
 refine lpx 11 (fun v1=>⟨14,[(0,(fS a0)),(4,(fI v1))],[],[],[]⟩) (fun v3 e st=>Sum.elim (fun p=>e = .exit 0∧LeSt st ⟨14,[],[],[],[]⟩) (fun p=>e = .ret∧retX TT st Tryz.f88.results.toList [.one .keep, .one .keep]=some (.tup [eI (p.1),eB (p.2)])) v3) h (by kernel_rfl) (le_a) (fun v1 r h=>?_) fun v3 h e st' hq=>?_
 ·unfold kpg at h
  refine cd 6 h (fun h=>?_) fun h=>?_
  ·refine cl 6 h (kmi _) (by kernel_rfl) fun v2 h=>?_
   refine cd 3 h (fun h=>?_) fun h=>?_
   ·cases h;exact lor 7
   cases h;exact lj 6
  cases h;exact lo 1 (by kernel_rfl)
 rcases v3 with v4 | v5
 ·try simp only [qf,qg] at h
  obtain ⟨rfl,hle⟩:=hq
  refine ⟨_,hle,?_⟩
  cases h;exact lq 6
 ·try simp only [qf,qg] at h
  obtain ⟨rfl,hret⟩:=hq
  refine ⟨_,LeSt.refl,?_⟩
  cases h;exact lv hret
def kfh (a0:BA) (a1:BA):Option Bool:=((bif (decide ((a1.size:Int)≤(a0.size:Int))) then ((cutS a0 (w64 ((a0.size:Int) - (a1.size:Int))) a0.size).bind fun v1=>(some (v1.toList == a1.toList))) else (some (false))).bind fun v3=>(some v3))
theorem kiz (a0:BA) (a1:BA) (r:Bool) (h:kfh a0 a1=some r):kae Tryz.prog 192 [eS a0,eS a1] (eB r):=by
 unfold kfh at h
 refine pcl [.one .keep] Tryz.func192 ?_
 refine jn1 5 .normal (fun v3=>⟨21,[(4,(fB v3))],[],[],[]⟩) h (fun v3 h=>?_) fun v3 h=>?_
 ·refine gd 7 h (fun h=>?_) fun h=>?_
  ·obtain ⟨v1,hv1,h⟩:=qi.1 h
   refine nst 6 (kjv (t:=9) (x:=(.tmp 11)) (lo:=(some (.tmp 16))) (hi:=none) (d:=tt9) (s:=a0) (l:=(some (w64 ((a0.size:Int) - (a1.size:Int))))) (h:=none) hv1 kb0) ?_
   cases h;exact lj 5
  cases h;exact lj 12
 cases h;exact lq 1
def kmk (a0:BA) (a1:BA):Option Bool:=((kfh a0 a1).bind fun v1=>(some v1))
theorem kt1 (a0:BA) (a1:BA) (r:Bool) (h:kmk a0 a1=some r):kae Tryz.prog 161 [eS a0,eS a1] (eB r):=by
 unfold kmk at h
 refine pcl [.one .keep] Tryz.func161 ?_
 refine cl 8 h (kiz _ _) (by kernel_rfl) fun v1 h=>?_
 cases h;exact lq 3
def kgu (a0:BA) (a1:BA):Option BA:=((kfh a0 a1).bind fun v1=>(bif v1 then ((cutS a0 0 (w64 ((a0.size:Int) - (a1.size:Int)))).bind fun v2=>(some v2)) else (some a0)))
theorem kml (a0:BA) (a1:BA) (r:BA) (h:kgu a0 a1=some r):kae Tryz.prog 193 [eS a0,eS a1] (eS r):=by
 unfold kgu at h
 refine pcl [.one .keep] Tryz.func193 ?_
 refine cl 9 h (kiz _ _) (by kernel_rfl) fun v1 h=>?_
 refine cd 1 h (fun h=>?_) fun h=>?_
 ·obtain ⟨v2,hv2,h⟩:=qi.1 h
  refine nst 8 (kjv (t:=9) (x:=(.tmp 8)) (lo:=none) (hi:=(some (.tmp 13))) (d:=tt9) (s:=a0) (l:=none) (h:=(some (w64 ((a0.size:Int) - (a1.size:Int))))) hv2 kb0) ?_
  cases h;exact lq 3
 cases h;exact lq 7
def klv (a0:BA) (a1:BA):Option BA:=((kgu a0 a1).bind fun v1=>(some v1))
theorem ksv (a0:BA) (a1:BA) (r:BA) (h:klv a0 a1=some r):kae Tryz.prog 162 [eS a0,eS a1] (eS r):=by
 unfold klv at h
 refine pcl [.one .keep] Tryz.func162 ?_
 refine cl 8 h (kml _ _) (by kernel_rfl) fun v1 h=>?_
 cases h;exact lq 3
def kgj (a0:List Int) (a1:List Int) (v1:(Int)):Option ((Int) ⊕ ((Unit) ⊕ (Bool))):=(bif (decide (v1<(List.length a0:Int))) then ((idx a0 v1).bind fun v2=>((idx a1 v1).bind fun v3=>(bif (v2 != v3) then (some (.inr (.inr false))) else (some (.inl (w64 (v1+1))))))) else (some (.inr (.inl ()))))
def kcu (a0:List Int) (a1:List Int):Option Bool:=(bif ((List.length a0:Int) != (List.length a1:Int)) then (some false) else ((kaa (kgj a0 a1) fuel 0).bind fun (v4:((Unit) ⊕ (Bool)))=>Sum.elim (fun v5=>(some true)) (fun v6=>(some v6)) v4))
theorem kk6 (a0:List Int) (a1:List Int) (r:Bool) (h:kcu a0 a1=some r):kae Tryz.prog 48 [(eL 1 eI) a0,(eL 1 eI) a1] (eB r):=by
 unfold kcu at h
 refine pcl [.one .keep] Tryz.func48 ?_
 refine cd 13 h (fun h=>?_) fun h=>?_
 ·cases h;exact lq 5
 refine lpx 7 (fun v1=>⟨26,[(0,(.fz (eL 1 eI a0))),(1,(.fz (eL 1 eI a1))),(5,(fI v1))],[],[],[]⟩) (fun v4 e st=>Sum.elim (fun p=>e = .exit 0∧LeSt st ⟨26,[],[],[],[]⟩) (fun p=>e = .ret∧retX TT st Tryz.f48.results.toList [.one .keep]=some (eB (p))) v4) h (by kernel_rfl) (le_a) (fun v1 r h=>?_) fun v4 h e st' hq=>?_
 ·unfold kgj at h
  refine cd 8 h (fun h=>?_) fun h=>?_
  ·refine dw 4 8 ?_
   refine ix nI 2 h fun v2 h=>?_
   refine ix nI 3 h fun v3 h=>?_
   refine cd 4 h (fun h=>?_) fun h=>?_
   ·cases h;exact lor 5
   cases h;exact lj 6
  cases h;exact lo 1 (by kernel_rfl)
 rcases v4 with v5 | v6
 ·try simp only [qf,qg] at h
  obtain ⟨rfl,hle⟩:=hq
  refine ⟨_,hle,?_⟩
  cases h;exact lq 5
 ·try simp only [qf,qg] at h
  obtain ⟨rfl,hret⟩:=hq
  refine ⟨_,LeSt.refl,?_⟩
  cases h;exact lv hret
def kfa (a0:Bool):Option Int:=(bif a0 then (some (-1)) else (some 1))
theorem kho (a0:Bool) (r:Int) (h:kfa a0=some r):kae Tryz.prog 163 [eB a0] (eI r):=by
 unfold kfa at h
 refine pcl [.one .keep] Tryz.func163 ?_
 refine cd 9 h (fun h=>?_) fun h=>?_
 ·cases h;exact lq 5
 cases h;exact lq 6
def kdc (r130:(Va)→(Va)→Option Int) (r164:(List Va)→(List Va)→Option Int) (a0:Va) (a1:Va):Option Int:=(bif (a0.type != a1.type) then ((kfa (decide (a0.type<a1.type))).bind fun v1=>(some v1)) else (bif (a0.num != a1.num) then ((kfa (decide (a0.num<a1.num))).bind fun v2=>(some v2)) else (bif (!(a0.text.toList == a1.text.toList)) then ((kfa (Op.bytesLess a0.text.toList a1.text.toList)).bind fun v3=>(some v3)) else ((r164 a0.items a1.items).bind fun v4=>(some v4)))))
theorem kpd (r130:(Va)→(Va)→Option Int) (r164:(List Va)→(List Va)→Option Int) (ih130:∀ (x0:Va) (x1:Va) r,r130 x0 x1=some r→kae Tryz.prog 130 [eVa x0,eVa x1] (eI r)) (ih164:∀ (x0:List Va) (x1:List Va) r,r164 x0 x1=some r→kae Tryz.prog 164 [(eL 4 eVaR) x0,(eL 4 eVaR) x1] (eI r)) (a0:Va) (a1:Va) (r:Int) (h:kdc r130 r164 a0 a1=some r):kae Tryz.prog 130 [eVa a0,eVa a1] (eI r):=by
 unfold kdc at h
 refine pcl [.one .keep] Tryz.func130 ?_
 refine cd 17 h (fun h=>?_) fun h=>?_
 ·refine cl 7 h (kho _) (by kernel_rfl) fun v1 h=>?_
  cases h;exact lq 3
 refine cd 9 h (fun h=>?_) fun h=>?_
 ·refine cl 7 h (kho _) (by kernel_rfl) fun v2 h=>?_
  cases h;exact lq 3
 refine cd 9 h (fun h=>?_) fun h=>?_
 ·refine cl 7 h (kho _) (by kernel_rfl) fun v3 h=>?_
  cases h;exact lq 3
 refine cl 7 h (ih164 _ _) (by kernel_rfl) fun v4 h=>?_
 cases h;exact lq 3
def kbe (a0:List Va) (a1:List Va) (r130:(Va)→(Va)→Option Int) (v1:(Int)):Option ((Int) ⊕ ((Unit) ⊕ (Int))):=((bif (decide (v1<(List.length a0:Int))) then (some (decide (v1<(List.length a1:Int)))) else (some (false))).bind fun v3=>(bif v3 then ((idx a0 v1).bind fun v4=>((idx a1 v1).bind fun v5=>((r130 v4 v5).bind fun v6=>(bif (v6 != 0) then (some (.inr (.inr v6))) else (some (.inl (w64 (v1+1)))))))) else (some (.inr (.inl ())))))
def kcm (r130:(Va)→(Va)→Option Int) (r164:(List Va)→(List Va)→Option Int) (a0:List Va) (a1:List Va):Option Int:=((kaa (kbe a0 a1 r130) fuel 0).bind fun (v7:((Unit) ⊕ (Int)))=>Sum.elim (fun v8=>(bif ((List.length a0:Int) == (List.length a1:Int)) then (some 0) else ((kfa (decide ((List.length a0:Int)<(List.length a1:Int)))).bind fun v9=>(some v9)))) (fun v10=>(some v10)) v7)
theorem knm (r130:(Va)→(Va)→Option Int) (r164:(List Va)→(List Va)→Option Int) (ih130:∀ (x0:Va) (x1:Va) r,r130 x0 x1=some r→kae Tryz.prog 130 [eVa x0,eVa x1] (eI r)) (ih164:∀ (x0:List Va) (x1:List Va) r,r164 x0 x1=some r→kae Tryz.prog 164 [(eL 4 eVaR) x0,(eL 4 eVaR) x1] (eI r)) (a0:List Va) (a1:List Va) (r:Int) (h:kcm r130 r164 a0 a1=some r):kae Tryz.prog 164 [(eL 4 eVaR) a0,(eL 4 eVaR) a1] (eI r):=by
 unfold kcm at h
 refine pcl [.one .keep] Tryz.func164 ?_
 refine lpx 10 (fun v1=>⟨42,[(0,(.fz (eL 4 eVaR a0))),(1,(.fz (eL 4 eVaR a1))),(5,(fI v1))],[],[],[]⟩) (fun v7 e st=>Sum.elim (fun p=>e = .exit 0∧LeSt st ⟨42,[(0,(.fz (eL 4 eVaR a0))),(1,(.fz (eL 4 eVaR a1)))],[],[],[]⟩) (fun p=>e = .ret∧retX TT st Tryz.f164.results.toList [.one .keep]=some (eI (p))) v7) h (by kernel_rfl) (le_a) (fun v1 r h=>?_) fun v7 h e st' hq=>?_
 ·unfold kbe at h
  refine jn1 2 .normal (fun v3=>⟨42,[(0,(.fz (eL 4 eVaR a0))),(1,(.fz (eL 4 eVaR a1))),(5,(fI v1)),(16,(fB v3))],[],[],[]⟩) h (fun v3 h=>?_) fun v3 h=>?_
  ·refine gd 6 h (fun h=>?_) fun h=>?_
   ·cases h;exact lj 6
   cases h;exact lj 6
  refine cd 0 h (fun h=>?_) fun h=>?_
  ·refine dw 4 8 ?_
   refine ix nVaR 2 h fun v4 h=>?_
   refine ix nVaR 3 h fun v5 h=>?_
   refine cl 2 h (ih130 _ _) (by kernel_rfl) fun v6 h=>?_
   refine cd 7 h (fun h=>?_) fun h=>?_
   ·cases h;exact lor 6
   cases h;exact lj 6
  cases h;exact lo 1 (by kernel_rfl)
 rcases v7 with v8 | v10
 ·try simp only [qf,qg] at h
  obtain ⟨rfl,hle⟩:=hq
  refine ⟨_,hle,?_⟩
  refine cd 9 h (fun h=>?_) fun h=>?_
  ·cases h;exact lq 5
  refine cl 8 h (kho _) (by kernel_rfl) fun v9 h=>?_
  cases h;exact lq 3
 ·try simp only [qf,qg] at h
  obtain ⟨rfl,hret⟩:=hq
  refine ⟨_,LeSt.refl,?_⟩
  cases h;exact lv hret
def kdp:Nat→((Va)→(Va)→Option Int)×((List Va)→(List Va)→Option Int)
  | 0=>(fun _ _=>none,fun _ _=>none)
  | n+1=>(kdc ((kdp n).1) ((kdp n).2),kcm ((kdp n).1) ((kdp n).2))
def ka8 (n:Nat):(Va)→(Va)→Option Int:=(kdp n).1
def kc4 (n:Nat):(List Va)→(List Va)→Option Int:=(kdp n).2
theorem kd1:∀ n:Nat,(∀ (x0:Va) (x1:Va) r,ka8 n x0 x1=some r→kae Tryz.prog 130 [eVa x0,eVa x1] (eI r))∧(∀ (x0:List Va) (x1:List Va) r,kc4 n x0 x1=some r→kae Tryz.prog 164 [(eL 4 eVaR) x0,(eL 4 eVaR) x1] (eI r))
  | 0=>⟨(fun _ _ _ h=>nomatch h),(fun _ _ _ h=>nomatch h)⟩
  | n+1=>⟨(kpd _ _ ((kd1 n).1) ((kd1 n).2)),(knm _ _ ((kd1 n).1) ((kd1 n).2))⟩
theorem kqb (n:Nat):∀ (x0:Va) (x1:Va) r,ka8 n x0 x1=some r→kae Tryz.prog 130 [eVa x0,eVa x1] (eI r):=(kd1 n).1
def kch (a0:Va) (a1:Va):Option Bool:=((ka8 fuel a0 a1).bind fun v1=>(some (v1 == 0)))
theorem kmh (a0:Va) (a1:Va) (r:Bool) (h:kch a0 a1=some r):kae Tryz.prog 90 [eVa a0,eVa a1] (eB r):=by
 unfold kch at h
 refine pcl [.one .keep] Tryz.func90 ?_
 refine cl 10 h (kqb _ _ _) (by kernel_rfl) fun v1 h=>?_
 cases h;exact lq 4
def kdo (a0:Ru) (a1:Ru):Option Bool:=((bif (a0.symbol == a1.symbol) then (bif (a0.kind == a1.kind) then (bif (a0.input == a1.input) then (bif (a0.op.toList == a1.op.toList) then ((kcu a0.args a1.args).bind fun v1=>(bif v1 then ((kch a0.const a1.const).bind fun v2=>(some v2)) else (some (false)))) else (some (false))) else (some (false))) else (some (false))) else (some (false))).bind fun v4=>(some v4))
theorem kle (a0:Ru) (a1:Ru) (r:Bool) (h:kdo a0 a1=some r):kae Tryz.prog 49 [eRu a0,eRu a1] (eB r):=by
 unfold kdo at h
 refine pcl [.one .keep] Tryz.func49 ?_
 refine jn1 7 .normal (fun v4=>⟨45,[(4,(fB v4))],[],[],[]⟩) h (fun v4 h=>?_) fun v4 h=>?_
 ·refine gd 7 h (fun h=>?_) fun h=>?_
  ·refine gd 7 h (fun h=>?_) fun h=>?_
   ·refine gd 7 h (fun h=>?_) fun h=>?_
    ·refine gd 7 h (fun h=>?_) fun h=>?_
     ·refine cl 4 h (kk6 _ _) (by kernel_rfl) fun v1 h=>?_
      refine gd 2 h (fun h=>?_) fun h=>?_
      ·refine cl 4 h (kmh _ _) (by kernel_rfl) fun v2 h=>?_
       cases h;exact lj 3
      cases h;exact lj 8
     cases h;exact lj 15
    cases h;exact lj 22
   cases h;exact lj 29
  cases h;exact lj 36
 cases h;exact lq 1
end Go.Proofs.YtaimpcnpifoidaaGreatDoor
