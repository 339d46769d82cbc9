import Derived.Test.YtaimpcnpifoidaaGreatDoorZ5
set_option linter.unusedVariables false
set_option linter.unusedSimpArgs false
set_option maxRecDepth 100000
namespace Go.Proofs.YtaimpcnpifoidaaGreatDoor
open Go Go.RowKit Go.Proofs
set_option maxHeartbeats 2000000
attribute [local irreducible] NStep kdf ko2 LeSt
def kha (a0:Int):Option BA:=((kwl a0 10).bind fun v1=>(some v1))
theorem kpy (a0:Int) (r:(BA)) (h:kha a0=some r):kat Tryz.prog 123 ([(fI a0)]++[]) [(1,(.glb GV))] [1] (.ret (fS r)) [(1,(.glb GV))] [1]:=by
 unfold kha at h
 refine hcx (gi:=0) Tryz.func123 ?_
 intro p0 q0 w0
 obtain ⟨v1,hv1,h⟩:=qi.1 h
 refine nst 7 (kabc (f:=151) (ts:=#[2,3]) (X:=(.tmp 3)) (Y:=(.const (.int .i64 10))) (n:=a0) (b:=10) (v:=v1) (g:=1) (m:=0) (gs:=GV) (vs:=gv1) (id:=1) hv1 k6t ⟨_,Tryz.func151,by kernel_rfl,by kernel_rfl⟩ (by kernel_rfl) (by kernel_rfl) (by kernel_rfl) (by kernel_rfl) (by kernel_rfl) (by kernel_rfl) (by kernel_rfl)) ?_
 cases h;exact lhy 3
def ki3 (a0:Int):Option BA:=((kha a0).bind fun v1=>(some v1))
theorem kxb (a0:Int) (r:(BA)) (h:ki3 a0=some r):kat Tryz.prog 83 ([(fI a0)]++[]) [(1,(.glb GV))] [1] (.ret (fS r)) [(1,(.glb GV))] [1]:=by
 unfold ki3 at h
 refine hcx (gi:=0) Tryz.func83 ?_
 intro p0 q0 w0
 refine hcl 7 [.one .keep] [(1,1)] [(1,1)] [1] h (kpy _) (fun _=>by kernel_rfl) fun v1 h=>?_
 cases h;exact lhy 3
def kal (a0:List Int) (a1:BA):Option (List Int):=((kb3 a0).bind fun v1=>((appS a0 a1).bind fun v2=>(some v2)))
theorem kav (a0:List Int) (a1:BA) (r:(List Int)) (h:kal a0 a1=some r):kat Tryz.prog 42 ([(.ref 1 0 0),(fS a1)]++[]) [(1,(.box 58 [(.opt 1),(.row 2 (List.length a0))])),(2,(.frow 5 1 (List.map eU8 a0)))] [1,2] (.ret (.fz (.tup [(eI (a1.size:Int)),(.atom .nilIface)]))) [(1,(.box 58 [(.opt 1),(.row 2 (List.length r))])),(2,(.frow 5 1 (List.map eU8 r)))] [1,2]:=by
 unfold kal at h
 refine hcx (gi:=0) Tryz.func42 ?_
 intro p0 q0 w0
 refine hcl 8 [.one .keep] [(1,1),(2,2)] [(1,1),(2,2)] [1,2] h (kjz _) (fun _=>by kernel_rfl) fun v1 h=>?_
 obtain ⟨v2,hv2,h⟩:=qi.1 h
 refine sst 9 (kaai (t:=56) (u:=9) (x:=(.tmp 12)) (y:=(.tmp 13)) (d:=tt56) (e:=5) (i:=Tryz.t5) (xs:=a0) (s:=a1) (id:=2) (n:=List.length a0) hv2 kb0 (by kernel_rfl) (by kernel_rfl) (by kernel_rfl) (by kernel_rfl) (by kernel_rfl) (by kernel_rfl) (by kernel_rfl) (by kernel_rfl) (by kernel_rfl) (by kernel_rfl) rfl) (by kernel_rfl) ?_
 cases h;exact lhy 12
def kjk (a0:Int) (a1:Int):Option BA:=((kwl a0 a1).bind fun v1=>(some v1))
theorem ksf (a0:Int) (a1:Int) (r:(BA)) (h:kjk a0 a1=some r):kat Tryz.prog 201 ([(fI a0),(fI a1)]++[]) [(1,(.glb GV))] [1] (.ret (fS r)) [(1,(.glb GV))] [1]:=by
 unfold kjk at h
 refine hcx (gi:=0) Tryz.func201 ?_
 intro p0 q0 w0
 obtain ⟨v1,hv1,h⟩:=qi.1 h
 refine nst 8 (kabc (f:=151) (ts:=#[2,3]) (X:=(.tmp 5)) (Y:=(.tmp 6)) (n:=a0) (b:=a1) (v:=v1) (g:=1) (m:=0) (gs:=GV) (vs:=gv1) (id:=1) hv1 k6t ⟨_,Tryz.func151,by kernel_rfl,by kernel_rfl⟩ (by kernel_rfl) (by kernel_rfl) (by kernel_rfl) (by kernel_rfl) (by kernel_rfl) (by kernel_rfl) (by kernel_rfl)) ?_
 cases h;exact lhy 3
def kfk (a0:List Int) (a1:Int):Option (List Int):=((byt (⟨#[48,49,50,51,52,53,54,55,56,57,97,98,99,100,101,102]⟩:BA) (Int.fdiv a1 (2 ^ (4:Nat)))).bind fun v1=>((kao a0 v1).bind fun v2=>((byt (⟨#[48,49,50,51,52,53,54,55,56,57,97,98,99,100,101,102]⟩:BA) (iand .u8 a1 15)).bind fun v3=>((kao v2 v3).bind fun v4=>(some v4)))))
theorem klx (a0:List Int) (a1:Int) (r:(List Int)) (h:kfk a0 a1=some r):kat Tryz.prog 202 ([(.ref 1 0 0),(.fz (eU8 a1))]++[]) [(1,(.box 58 [(.opt 1),(.row 2 (List.length a0))])),(2,(.frow 5 1 (List.map eU8 a0)))] [1,2] (.ret (.fz (.tup []))) [(1,(.box 58 [(.opt 1),(.row 2 (List.length r))])),(2,(.frow 5 1 (List.map eU8 r)))] [1,2]:=by
 unfold kfk at h
 refine hcx (gi:=0) Tryz.func202 ?_
 intro p0 q0 w0
 refine byx 5 h fun v1 h=>?_
 refine hcl 0 [.one .keep, .one .keep] [(1,1),(2,2)] [(1,1),(2,2)] [1,2] h (ka9 _ _) (fun _=>by kernel_rfl) fun v2 h=>?_
 refine byx 5 h fun v3 h=>?_
 refine hcl 0 [.one .keep, .one .keep] [(1,1),(2,2)] [(1,1),(2,2)] [1,2] h (ka9 _ _) (fun _=>by kernel_rfl) fun v4 h=>?_
 cases h;exact lhy 1
def kar (a0:BA):Option ((Int)×(Int)):=(bif (decide ((a0.size:Int)<1)) then (some (65533,0)) else ((byt a0 0).bind fun v1=>((idx gt2 v1).bind fun v2=>(bif (decide (240≤v2)) then ((byt a0 0).bind fun v3=>(some ((ior .i32 (kaim .i32 (IntKind.i32.wrap v3) (Int.fdiv (IntKind.i32.wrap ((IntKind.i32.wrap v2)*2 ^ (31:Nat))) (2 ^ (31:Nat)))) (iand .i32 65533 (Int.fdiv (IntKind.i32.wrap ((IntKind.i32.wrap v2)*2 ^ (31:Nat))) (2 ^ (31:Nat))))),1))) else ((idx gt3 (Int.fdiv v2 (2 ^ (4:Nat)))).bind fun v4=>(bif (decide ((a0.size:Int)<(w64 (iand .u8 v2 7)))) then (some (65533,1)) else ((byt a0 1).bind fun v5=>((bif (decide (v5<v4.f_lo)) then (some (true)) else (some (decide (v4.f_hi<v5)))).bind fun v7=>(bif v7 then (some (65533,1)) else (bif (decide ((w64 (iand .u8 v2 7))≤2)) then (some ((ior .i32 (IntKind.i32.wrap ((IntKind.i32.wrap (iand .u8 v1 31))*2 ^ (6:Nat))) (IntKind.i32.wrap (iand .u8 v5 63))),2)) else ((byt a0 2).bind fun v8=>((bif (decide (v8<128)) then (some (true)) else (some (decide (191<v8)))).bind fun v10=>(bif v10 then (some (65533,1)) else (bif (decide ((w64 (iand .u8 v2 7))≤3)) then (some ((ior .i32 (ior .i32 (IntKind.i32.wrap ((IntKind.i32.wrap (iand .u8 v1 15))*2 ^ (12:Nat))) (IntKind.i32.wrap ((IntKind.i32.wrap (iand .u8 v5 63))*2 ^ (6:Nat)))) (IntKind.i32.wrap (iand .u8 v8 63))),3)) else ((byt a0 3).bind fun v11=>((bif (decide (v11<128)) then (some (true)) else (some (decide (191<v11)))).bind fun v13=>(bif v13 then (some (65533,1)) else (some ((ior .i32 (ior .i32 (ior .i32 (IntKind.i32.wrap ((IntKind.i32.wrap (iand .u8 v1 7))*2 ^ (18:Nat))) (IntKind.i32.wrap ((IntKind.i32.wrap (iand .u8 v5 63))*2 ^ (12:Nat)))) (IntKind.i32.wrap ((IntKind.i32.wrap (iand .u8 v8 63))*2 ^ (6:Nat)))) (IntKind.i32.wrap (iand .u8 v11 63))),4)))))))))))))))))))
theorem kk2 (a0:BA) (r:(Int)×(Int)) (h:kar a0=some r):kat Tryz.prog 205 ([(fS a0)]++[]) [(1,(.glb GV))] [1] (.ret (.fz (.tup [(eI32 r.1),(eI r.2)]))) [(1,(.glb GV))] [1]:=by
 unfold kar at h
 refine hcx (gi:=0) Tryz.func205 ?_
 intro p0 q0 w0
 refine cd 17 h (fun h=>?_) fun h=>?_
 ·cases h;exact lhy 6
 refine byx 4 h fun v1 h=>?_
 obtain ⟨v2,hv2,h⟩:=qi.1 h
 refine nst 5 (kabs nU8 (xs:=gt2) (v:=v2) (g:=2) (m:=1) (n:=256) (gs:=GV) (vs:=gv2) (Y:=(.tmp 19)) (k := .u8) (i:=v1) (t:=246) (e:=5) (de:=tt5) (id:=1) hv2 (by kernel_rfl) kb0 Tryz.underlying246 (by kernel_rfl) (by kernel_rfl) (by kernel_rfl) (by decide) (by kernel_rfl) (by kernel_rfl) (by kernel_rfl) gt2_v gt2_1) ?_
 refine cd 9 h (fun h=>?_) fun h=>?_
 ·refine byx 11 h fun v3 h=>?_
  cases h;exact lhy 10
 obtain ⟨v4,hv4,h⟩:=qi.1 h
 refine nst 12 (kabs koe (xs:=gt3) (v:=v4) (g:=3) (m:=2) (n:=16) (gs:=GV) (vs:=gv3) (Y:=(.tmp 40)) (k := .u8) (i:=(Int.fdiv v2 (2 ^ (4:Nat)))) (t:=249) (e:=248) (de:=k21) (id:=1) hv4 (by kernel_rfl) kb0 Tryz.underlying249 (by kernel_rfl) (by kernel_rfl) (by kernel_rfl) (by decide) (by kernel_rfl) (by kernel_rfl) (by kernel_rfl) gt3_v gt3_1) ?_
 refine cd 11 h (fun h=>?_) fun h=>?_
 ·cases h;exact lhy 6
 refine byx 4 h fun v5 h=>?_
 refine jn1 4 .normal (fun v7=>⟨117,[(0,(fS a0)),(5,(.fz (eU8 v1))),(8,(fI (w64 (iand .u8 v2 7)))),(10,(.fz (eU8 v5))),(57,(fB v7))],[(0,(.was p0 [1] q0 w0)),(1,(.glb GV))],[0,1],[]⟩) h (fun v7 h=>?_) fun v7 h=>?_
 ·refine gd 6 h (fun h=>?_) fun h=>?_
  ·cases h;exact lj 6
  cases h;exact lj 6
 refine cd 0 h (fun h=>?_) fun h=>?_
 ·cases h;exact lhy 6
 refine cd 7 h (fun h=>?_) fun h=>?_
 ·cases h;exact lhy 14
 refine byx 4 h fun v8 h=>?_
 refine jn1 4 .normal (fun v10=>⟨117,[(0,(fS a0)),(5,(.fz (eU8 v1))),(8,(fI (w64 (iand .u8 v2 7)))),(10,(.fz (eU8 v5))),(11,(.fz (eU8 v8))),(75,(fB v10))],[(0,(.was p0 [1] q0 w0)),(1,(.glb GV))],[0,1],[]⟩) h (fun v10 h=>?_) fun v10 h=>?_
 ·refine gd 4 h (fun h=>?_) fun h=>?_
  ·cases h;exact lj 4
  cases h;exact lj 4
 refine cd 0 h (fun h=>?_) fun h=>?_
 ·cases h;exact lhy 6
 refine cd 7 h (fun h=>?_) fun h=>?_
 ·cases h;exact lhy 19
 refine byx 4 h fun v11 h=>?_
 refine jn1 4 .normal (fun v13=>⟨117,[(5,(.fz (eU8 v1))),(10,(.fz (eU8 v5))),(11,(.fz (eU8 v8))),(12,(.fz (eU8 v11))),(98,(fB v13))],[(0,(.was p0 [1] q0 w0)),(1,(.glb GV))],[0,1],[]⟩) h (fun v13 h=>?_) fun v13 h=>?_
 ·refine gd 4 h (fun h=>?_) fun h=>?_
  ·cases h;exact lj 4
  cases h;exact lj 4
 refine cd 0 h (fun h=>?_) fun h=>?_
 ·cases h;exact lhy 6
 cases h;exact lhy 25
def kbt (a0:BA):Option ((Int)×(Int)):=((bif (!(a0.toList == (⟨#[]⟩:BA).toList)) then ((byt a0 0).bind fun v1=>(some (decide (v1<128)))) else (some (false))).bind fun v3=>(bif v3 then ((byt a0 0).bind fun v4=>(some ((IntKind.i32.wrap v4),1))) else ((kar a0).bind fun v5=>(some (v5.1,v5.2)))))
theorem klw (a0:BA) (r:(Int)×(Int)) (h:kbt a0=some r):kat Tryz.prog 182 ([(fS a0)]++[]) [(1,(.glb GV))] [1] (.ret (.fz (.tup [(eI32 r.1),(eI r.2)]))) [(1,(.glb GV))] [1]:=by
 unfold kbt at h
 refine hcx (gi:=0) Tryz.func182 ?_
 intro p0 q0 w0
 refine jn1 7 .normal (fun v3=>⟨19,[(0,(fS a0)),(10,(fB v3))],[(0,(.was p0 [1] q0 w0)),(1,(.glb GV))],[0,1],[]⟩) h (fun v3 h=>?_) fun v3 h=>?_
 ·refine gd 4 h (fun h=>?_) fun h=>?_
  ·refine byx 1 h fun v1 h=>?_
   cases h;exact lj 3
  cases h;exact lj 5
 refine cd 0 h (fun h=>?_) fun h=>?_
 ·refine byx 3 h fun v4 h=>?_
  cases h;exact lhy 5
 refine hcl 2 [.one .keep] [(1,1)] [(1,1)] [1] h (kk2 _) (fun _=>by kernel_rfl) fun v5 h=>?_
 cases h;exact lhy 7
def kh5 (v13:List Int) (v14:(Int)×(List Int)):Option (((Int)×(List Int)) ⊕ (List Int)):=(bif (decide (v14.1<(List.length v13:Int))) then ((idx v13 v14.1).bind fun v15=>((kal v14.2 (⟨#[92,120]⟩:BA)).bind fun v16=>((kfk v16 v15).bind fun v17=>(some (.inl ((w64 (v14.1+1)),v17)))))) else (some (.inr v14.2)))
def kfs (a0:BA) (v2:(List Int)×(Nat)):Option (((List Int)×(Nat)) ⊕ (List Int)):=(bif decide (v2.2<ByteArray.size a0) then ((((bif ((((Utf8.decode a0 v2.2).1:Nat):Int) == 34) then (some (true)) else (some ((((Utf8.decode a0 v2.2).1:Nat):Int) == 92))).bind fun v5=>(bif v5 then ((kao v2.1 92).bind fun v6=>((kao v6 (wu8 (((Utf8.decode a0 v2.2).1:Nat):Int))).bind fun v7=>(some v7))) else ((kjo (((Utf8.decode a0 v2.2).1:Nat):Int)).bind fun v8=>(bif v8 then ((kao v2.1 (wu8 (((Utf8.decode a0 v2.2).1:Nat):Int))).bind fun v9=>(some v9)) else ((cutS a0 ((v2.2:Nat):Int) a0.size).bind fun v10=>((kbt v10).bind fun v11=>((cutS a0 ((v2.2:Nat):Int) (w64 (((v2.2:Nat):Int)+v11.2))).bind fun v12=>((s2b v12).bind fun v13=>((kaa (kh5 v13) fuel (0,v2.1)).bind fun (v19:(List Int))=>(some v19)))))))))):Option (List Int)).bind fun (v21:(List Int))=>(some (.inl (v21,(v2.2+(Utf8.decode a0 v2.2).2))))) else (some (.inr v2.1)))
def kjt (a0:BA):Option BA:=((kao ([]:List Int) 34).bind fun v1=>((kaa (kfs a0) fuel (v1,0)).bind fun (v23:(List Int))=>((kao v23 34).bind fun v24=>((kaw v24).bind fun v25=>(some (toBA v24))))))
theorem kvg (a0:BA) (r:(BA)) (h:kjt a0=some r):kat Tryz.prog 203 ([(fS a0)]++[]) [(1,(.glb GV))] [1] (.ret (fS r)) [(1,(.glb GV))] [1]:=by
 unfold kjt at h
 refine hcx (gi:=0) Tryz.func203 ?_
 intro p0 q0 w0
 refine wle 7 (ket (e:=5) (size:=1) (id2:=2) (j:=1) (id:=3) (e2:=58) (cells:=[(.fz (.atom (.pointer none))),(.fz (.atom (.slice none 0 0)))])) ?_
 refine wle 0 (kku (id:=2) (e2:=58) (cells:=[(.fz (.atom (.pointer none))),(.row 3 (List.length ([]:List Int)))]) (cells':=[.opt 2,(.row 3 (List.length ([]:List Int)))])) ?_
 refine hcl 3 [.one .keep, .one .keep] [(2,1),(3,2)] [(1,2),(2,3)] [1,2] h (ka9 _ _) (fun _=>by kernel_rfl) fun v1 h=>?_
 refine sst 5 (kahs (t:=9) (X:=(.tmp 11)) (s:=a0) (d:=tt9) (id:=4) kb0) (by kernel_rfl) ?_
 refine lp1 2 (fun v2=>⟨59,[(0,(fS a0)),(3,(.ref 2 0 0)),(12,(.ref 4 0 0))],[(0,(.was p0 [1] q0 w0)),(1,(.glb GV)),(2,(.box 58 [(.opt 2),(.row 3 (List.length v2.1))])),(3,(.frow 5 1 (List.map eU8 v2.1))),(4,(.sit a0 v2.2))],[4,3,2,0,1],[]⟩) (.exit 0) (fun v23=>⟨59,[(3,(.ref 2 0 0))],[(0,(.was p0 [1] q0 w0)),(1,(.glb GV)),(2,(.box 58 [(.opt 2),(.row 3 (List.length v23))])),(3,(.frow 5 1 (List.map eU8 v23)))],[3,2,0,1],[]⟩) h (fun v2 r h=>?_) fun v23 h=>?_
 ·unfold kfs at h
  refine wle 2 (LeSt.refl) ?_
  rcases kajk h with ⟨hN3,h⟩ | ⟨hN3,h⟩
  ·refine sst 0 (kakw (X:=(.tmp 12)) (s:=a0) (pos:=v2.2) (id:=4) hN3) (by kernel_rfl) ?_
   refine jn1 14 .normal (fun v21=>⟨59,[(0,(fS a0)),(3,(.ref 2 0 0)),(12,(.ref 4 0 0))],[(0,(.was p0 [1] q0 w0)),(1,(.glb GV)),(2,(.box 58 [(.opt 2),(.row 3 (List.length v21))])),(3,(.frow 5 1 (List.map eU8 v21))),(4,(.sit a0 (v2.2+(Utf8.decode a0 v2.2).2)))],[4,3,2,0,1],[]⟩) h (fun v21 h=>?_) fun v21 h=>?_
   ·refine jn1 1 .normal (fun v5=>⟨59,[(0,(fS a0)),(3,(.ref 2 0 0)),(4,(fI ((v2.2:Nat):Int))),(5,(.fz (eI32 (((Utf8.decode a0 v2.2).1:Nat):Int)))),(12,(.ref 4 0 0)),(40,(fB v5))],[(0,(.was p0 [1] q0 w0)),(1,(.glb GV)),(2,(.box 58 [(.opt 2),(.row 3 (List.length v2.1))])),(3,(.frow 5 1 (List.map eU8 v2.1))),(4,(.sit a0 (v2.2+(Utf8.decode a0 v2.2).2)))],[4,3,2,0,1],[]⟩) h (fun v5 h=>?_) fun v5 h=>?_
    ·refine gd 4 h (fun h=>?_) fun h=>?_
     ·cases h;exact lj 5
     cases h;exact lj 5
    refine cd 0 h (fun h=>?_) fun h=>?_
    ·refine hcl 2 [.one .keep, .one .keep] [(2,1),(3,2)] [(1,2),(2,3)] [1,2] h (ka9 _ _) (fun _=>by kernel_rfl) fun v6 h=>?_
     refine hcl 4 [.one .keep, .one .keep] [(2,1),(3,2)] [(1,2),(2,3)] [1,2] h (ka9 _ _) (fun _=>by kernel_rfl) fun v7 h=>?_
     cases h;exact lj 1
    refine cl 3 h (kq6 _) (by kernel_rfl) fun v8 h=>?_
    refine cd 2 h (fun h=>?_) fun h=>?_
    ·refine hcl 3 [.one .keep, .one .keep] [(2,1),(3,2)] [(1,2),(2,3)] [1,2] h (ka9 _ _) (fun _=>by kernel_rfl) fun v9 h=>?_
     cases h;exact lj 1
    obtain ⟨v10,hv10,h⟩:=qi.1 h
    refine nst 4 (kjv (t:=9) (x:=(.tmp 18)) (lo:=(some (.tmp 19))) (hi:=none) (d:=tt9) (s:=a0) (l:=(some ((v2.2:Nat):Int))) (h:=none) hv10 kb0) ?_
    refine hcl 0 [.one .keep] [(1,1)] [(1,1)] [1] h (klw _) (fun _=>by kernel_rfl) fun v11 h=>?_
    obtain ⟨v12,hv12,h⟩:=qi.1 h
    refine nst 13 (kjv (t:=9) (x:=(.tmp 24)) (lo:=(some (.tmp 25))) (hi:=(some (.tmp 28))) (d:=tt9) (s:=a0) (l:=(some ((v2.2:Nat):Int))) (h:=(some (w64 (((v2.2:Nat):Int)+v11.2)))) hv12 kb0) ?_
    obtain ⟨v13,hv13,h⟩:=qi.1 h
    refine nst 0 (s_s2b (sr:=9) (t:=56) (x:=(.tmp 29)) (s:=v12) (e:=5) (ds:=tt9) (d:=tt56) (de:=tt5) hv13 kb0) ?_
    refine lp1 4 (fun v14=>⟨59,[(0,(fS a0)),(3,(.ref 2 0 0)),(12,(.ref 4 0 0)),(30,(.fz (eL 1 eU8 v13))),(31,(fI (List.length v13:Int))),(32,(fI v14.1))],[(0,(.was p0 [1] q0 w0)),(1,(.glb GV)),(2,(.box 58 [(.opt 2),(.row 3 (List.length v14.2))])),(3,(.frow 5 1 (List.map eU8 v14.2))),(4,(.sit a0 (v2.2+(Utf8.decode a0 v2.2).2)))],[4,3,2,0,1],[]⟩) (.exit 3) (fun v19=>⟨59,[(0,(fS a0)),(3,(.ref 2 0 0)),(12,(.ref 4 0 0))],[(0,(.was p0 [1] q0 w0)),(1,(.glb GV)),(2,(.box 58 [(.opt 2),(.row 3 (List.length v19))])),(3,(.frow 5 1 (List.map eU8 v19))),(4,(.sit a0 (v2.2+(Utf8.decode a0 v2.2).2)))],[4,3,2,0,1],[]⟩) h (fun v14 r h=>?_) fun v19 h=>?_
    ·unfold kh5 at h
     refine cd 5 h (fun h=>?_) fun h=>?_
     ·refine ix nU8 5 h fun v15 h=>?_
      refine hcl 5 [.one .keep, .one .keep] [(2,1),(3,2)] [(1,2),(2,3)] [1,2] h (kav _ _) (fun _=>by kernel_rfl) fun v16 h=>?_
      refine hcl 3 [.one .keep, .one .keep] [(2,1),(3,2)] [(1,2),(2,3)] [1,2] h (klx _ _) (fun _=>by kernel_rfl) fun v17 h=>?_
      cases h;exact lj 5
     cases h;exact lo 1 (by kernel_rfl)
    cases h;exact lj 0
   cases h;exact lj 0
  ·refine sst 0 (kab4 (X:=(.tmp 12)) (s:=a0) (pos:=v2.2) (id:=4) hN3) (by kernel_rfl) ?_
   cases h;exact lo 5 (by kernel_rfl)
 refine hcl 2 [.one .keep, .one .keep] [(2,1),(3,2)] [(1,2),(2,3)] [1,2] h (ka9 _ _) (fun _=>by kernel_rfl) fun v24 h=>?_
 refine hcl 3 [.one .keep] [(2,1),(3,2)] [(1,2),(2,3)] [1,2] h (kee _) (fun _=>by kernel_rfl) fun v25 h=>?_
 cases h;exact lhy 3
def klj (p0:Env) (q0:Nat→Prop) (w0:World) (a0:List Int) (a1:Va):List (Nat×AObj):=[(0,(.was p0 [1,2,3] q0 w0)),(1,(.glb GV)),(2,(.box 58 [(.opt 2),(.row 3 (List.length a0))])),(3,(.frow 5 1 (List.map eU8 a0))),(4,(.box 43 [(fI a1.type),(fI a1.num),(fS a1.text),(.fz (eL 4 eVaR a1.items))]))]
def kcs (r35:(List Int)→(List Va)→Option (List Int)) (a0:List Int) (a1:Va):Option (List Int):=(((((((bif (a1.type == 1) then ((kh4 (a1.num == 1)).bind fun v1=>((kal a0 v1).bind fun v2=>(some (.inr (.inl v2))))) else (bif (a1.type == 2) then ((kjk a1.num 10).bind fun v3=>((kal a0 v3).bind fun v4=>(some (.inr (.inl v4))))) else (bif (a1.type == 4) then ((kal a0 (⟨#[48,120]⟩:BA)).bind fun v5=>((kfk v5 (wu8 a1.num)).bind fun v6=>(some (.inr (.inl v6))))) else (bif (a1.type == 8) then ((kao a0 114).bind fun v7=>(some (.inl v7))) else (bif (a1.type == 3) then (some (.inr (.inr (.inl ())))) else (some (.inr (.inr (.inr ()))))))))):Option ((List Int) ⊕ ((List Int) ⊕ ((Unit) ⊕ (Unit))))).bind fun (v8:((List Int) ⊕ ((List Int) ⊕ ((Unit) ⊕ (Unit)))))=>Sum.elim (fun v9=>(some (.inl v9))) (Sum.elim (fun v10=>(some (.inr (.inl v10)))) (Sum.elim (fun v11=>(some (.inl a0))) (fun v12=>(some (.inr (.inr ())))))) v8):Option ((List Int) ⊕ ((List Int) ⊕ (Unit)))).bind fun (v13:((List Int) ⊕ ((List Int) ⊕ (Unit))))=>Sum.elim (fun v14=>((kjt a1.text).bind fun v15=>((kal v14 v15).bind fun v16=>(some v16)))) (Sum.elim (fun v17=>(some v17)) (fun v18=>((km6 a1.type).bind fun v19=>((kal a0 v19.1).bind fun v20=>((r35 v20 a1.items).bind fun v21=>((kal v21 v19.2).bind fun v22=>(some v22))))))) v13):Option (List Int)).bind fun (v24:(List Int))=>(some v24))
theorem ku6 (r35:(List Int)→(List Va)→Option (List Int)) (ih35:∀ (x0:List Int) (x1:List Va) r,r35 x0 x1=some r→kat Tryz.prog 152 ([(.ref 2 0 0),(.fz (eL 4 eVaR (x1)))]++[]) [(1,(.glb GV)),(2,(.box 58 [(.opt 2),(.row 3 (List.length (x0)))])),(3,(.frow 5 1 (List.map eU8 (x0))))] [1,2,3] (.ret (.fz (.tup []))) [(1,(.glb GV)),(2,(.box 58 [(.opt 2),(.row 3 (List.length r))])),(3,(.frow 5 1 (List.map eU8 r)))] [1,2,3]) (a0:List Int) (a1:Va) (r:(List Int)) (h:kcs r35 a0 a1=some r):kat Tryz.prog 178 ([(.ref 2 0 0),(.fz (eVa a1))]++[]) [(1,(.glb GV)),(2,(.box 58 [(.opt 2),(.row 3 (List.length a0))])),(3,(.frow 5 1 (List.map eU8 a0)))] [1,2,3] (.ret (.fz (.tup []))) [(1,(.glb GV)),(2,(.box 58 [(.opt 2),(.row 3 (List.length r))])),(3,(.frow 5 1 (List.map eU8 r)))] [1,2,3]:=by
 unfold kcs at h
 refine hcx (gi:=0) Tryz.func178 ?_
 intro p0 q0 w0
 refine jn1 10 (.exit 0) (fun v24=>⟨59,[],[(0,(.was p0 [1,2,3] q0 w0)),(1,(.glb GV)),(2,(.box 58 [(.opt 2),(.row 3 (List.length v24))])),(3,(.frow 5 1 (List.map eU8 v24)))],[0,1,2,3],[]⟩) h (fun v24 h=>?_) fun v24 h=>?_
 ·refine jnQ 3 (fun v13 e st=>Sum.elim (fun p=>e = .normal∧LeSt st ⟨59,[(0,(.ref 2 0 0)),(3,(.ref 4 0 0))],[(0,(.was p0 [1,2,3] q0 w0)),(1,(.glb GV)),(2,(.box 58 [(.opt 2),(.row 3 (List.length (p)))])),(3,(.frow 5 1 (List.map eU8 (p)))),(4,(.box 43 [(fI a1.type),(fI a1.num),(fS a1.text),(.fz (eL 4 eVaR a1.items))]))],[4,0,1,2,3],[]⟩) (Sum.elim (fun p=>e = .exit 0∧LeSt st ⟨59,[],[(0,(.was p0 [1,2,3] q0 w0)),(1,(.glb GV)),(2,(.box 58 [(.opt 2),(.row 3 (List.length (p)))])),(3,(.frow 5 1 (List.map eU8 (p))))],[0,1,2,3],[]⟩) (fun p=>e = .exit 6∧LeSt st ⟨59,[(0,(.ref 2 0 0)),(3,(.ref 4 0 0))],(klj p0 q0 w0 a0 a1),[4,0,1,2,3],[]⟩)) v13) h (fun v13 h=>?_) fun v13 h e st' hq=>?_
  ·refine jnQ 1 (fun v8 e st=>Sum.elim (fun p=>e = .normal∧LeSt st ⟨59,[(0,(.ref 2 0 0)),(3,(.ref 4 0 0))],[(0,(.was p0 [1,2,3] q0 w0)),(1,(.glb GV)),(2,(.box 58 [(.opt 2),(.row 3 (List.length (p)))])),(3,(.frow 5 1 (List.map eU8 (p)))),(4,(.box 43 [(fI a1.type),(fI a1.num),(fS a1.text),(.fz (eL 4 eVaR a1.items))]))],[4,0,1,2,3],[]⟩) (Sum.elim (fun p=>e = .exit 0∧LeSt st ⟨59,[],[(0,(.was p0 [1,2,3] q0 w0)),(1,(.glb GV)),(2,(.box 58 [(.opt 2),(.row 3 (List.length (p)))])),(3,(.frow 5 1 (List.map eU8 (p))))],[0,1,2,3],[]⟩) (Sum.elim (fun p=>e = .exit 5∧LeSt st ⟨59,[(0,(.ref 2 0 0)),(3,(.ref 4 0 0))],(klj p0 q0 w0 a0 a1),[4,0,1,2,3],[]⟩) (fun p=>e = .exit 6∧LeSt st ⟨59,[(0,(.ref 2 0 0)),(3,(.ref 4 0 0))],(klj p0 q0 w0 a0 a1),[4,0,1,2,3],[]⟩))) v8) h (fun v8 h=>?_) fun v8 h e st' hq=>?_
   ·refine cd 15 h (fun h=>?_) fun h=>?_
    ·refine cl 7 h (kss _) (by kernel_rfl) fun v1 h=>?_
     refine hcl 0 [.one .keep, .one .keep] [(2,1),(3,2)] [(1,2),(2,3)] [1,2] h (kav _ _) (fun _=>by kernel_rfl) fun v2 h=>?_
     cases h;exact lj 2
    refine cd 7 h (fun h=>?_) fun h=>?_
    ·refine hcl 6 [.one .keep, .one .keep] [(1,1)] [(1,1)] [1] h (ksf _ _) (fun _=>by kernel_rfl) fun v3 h=>?_
     refine hcl 0 [.one .keep, .one .keep] [(2,1),(3,2)] [(1,2),(2,3)] [1,2] h (kav _ _) (fun _=>by kernel_rfl) fun v4 h=>?_
     cases h;exact lj 2
    refine cd 7 h (fun h=>?_) fun h=>?_
    ·refine hcl 5 [.one .keep, .one .keep] [(2,1),(3,2)] [(1,2),(2,3)] [1,2] h (kav _ _) (fun _=>by kernel_rfl) fun v5 h=>?_
     refine hcl 6 [.one .keep, .one .keep] [(2,1),(3,2)] [(1,2),(2,3)] [1,2] h (klx _ _) (fun _=>by kernel_rfl) fun v6 h=>?_
     cases h;exact lj 2
    refine cd 7 h (fun h=>?_) fun h=>?_
    ·refine hcl 3 [.one .keep, .one .keep] [(2,1),(3,2)] [(1,2),(2,3)] [1,2] h (ka9 _ _) (fun _=>by kernel_rfl) fun v7 h=>?_
     cases h;exact lj 1
    refine cd 6 h (fun h=>?_) fun h=>?_
    ·cases h;exact lj 1
    cases h;exact lj 2
   rcases v8 with v9 | (v10 | (v11 | v12))
   ·try simp only [qf,qg] at h
    obtain ⟨rfl,hle⟩:=hq
    refine ⟨_,hle,?_⟩
    cases h;exact lj 0
   ·try simp only [qf,qg] at h
    obtain ⟨rfl,hle⟩:=hq
    refine ⟨_,hle,?_⟩
    cases h;exact lj 0
   ·try simp only [qf,qg] at h
    obtain ⟨rfl,hle⟩:=hq
    refine ⟨_,hle,?_⟩
    cases h;exact lj 0
   ·try simp only [qf,qg] at h
    obtain ⟨rfl,hle⟩:=hq
    refine ⟨_,hle,?_⟩
    cases h;exact lj 0
  rcases v13 with v14 | (v17 | v18)
  ·try simp only [qf,qg] at h
   obtain ⟨rfl,hle⟩:=hq
   refine ⟨_,hle,?_⟩
   refine hcl 5 [.one .keep] [(1,1)] [(1,1)] [1] h (kvg _) (fun _=>by kernel_rfl) fun v15 h=>?_
   refine hcl 0 [.one .keep, .one .keep] [(2,1),(3,2)] [(1,2),(2,3)] [1,2] h (kav _ _) (fun _=>by kernel_rfl) fun v16 h=>?_
   cases h;exact lj 2
  ·try simp only [qf,qg] at h
   obtain ⟨rfl,hle⟩:=hq
   refine ⟨_,hle,?_⟩
   cases h;exact lj 0
  ·try simp only [qf,qg] at h
   obtain ⟨rfl,hle⟩:=hq
   refine ⟨_,hle,?_⟩
   refine cl 5 h (ku4 _) (by kernel_rfl) fun v19 h=>?_
   refine hcl 10 [.one .keep, .one .keep] [(2,1),(3,2)] [(1,2),(2,3)] [1,2] h (kav _ _) (fun _=>by kernel_rfl) fun v20 h=>?_
   refine hcl 6 [.one .keep, .one .keep] [(1,1),(2,2),(3,3)] [(1,1),(2,2),(3,3)] [1,2,3] h (ih35 _ _) (fun _=>by kernel_rfl) fun v21 h=>?_
   refine hcl 4 [.one .keep, .one .keep] [(2,1),(3,2)] [(1,2),(2,3)] [1,2] h (kav _ _) (fun _=>by kernel_rfl) fun v22 h=>?_
   cases h;exact lj 2
 cases h;exact lhy 0
def kdh (a1:List Va) (r35:(List Int)→(List Va)→Option (List Int)) (v1:(Int)×(List Int)):Option (((Int)×(List Int)) ⊕ (List Int)):=(bif (decide (v1.1<(List.length a1:Int))) then ((idx a1 v1.1).bind fun v2=>(((bif (decide (0<v1.1)) then ((kal v1.2 (⟨#[44,32]⟩:BA)).bind fun v3=>(some v3)) else (some v1.2)):Option (List Int)).bind fun (v5:(List Int))=>((kcs (r35) v5 v2).bind fun v6=>(some (.inl ((w64 (v1.1+1)),v6)))))) else (some (.inr v1.2)))
def kep (r35:(List Int)→(List Va)→Option (List Int)) (a0:List Int) (a1:List Va):Option (List Int):=((kaa (kdh a1 r35) fuel (0,a0)).bind fun (v8:(List Int))=>(some v8))
theorem kre (r35:(List Int)→(List Va)→Option (List Int)) (ih35:∀ (x0:List Int) (x1:List Va) r,r35 x0 x1=some r→kat Tryz.prog 152 ([(.ref 2 0 0),(.fz (eL 4 eVaR (x1)))]++[]) [(1,(.glb GV)),(2,(.box 58 [(.opt 2),(.row 3 (List.length (x0)))])),(3,(.frow 5 1 (List.map eU8 (x0))))] [1,2,3] (.ret (.fz (.tup []))) [(1,(.glb GV)),(2,(.box 58 [(.opt 2),(.row 3 (List.length r))])),(3,(.frow 5 1 (List.map eU8 r)))] [1,2,3]) (a0:List Int) (a1:List Va) (r:(List Int)) (h:kep r35 a0 a1=some r):kat Tryz.prog 152 ([(.ref 2 0 0),(.fz (eL 4 eVaR a1))]++[]) [(1,(.glb GV)),(2,(.box 58 [(.opt 2),(.row 3 (List.length a0))])),(3,(.frow 5 1 (List.map eU8 a0)))] [1,2,3] (.ret (.fz (.tup []))) [(1,(.glb GV)),(2,(.box 58 [(.opt 2),(.row 3 (List.length r))])),(3,(.frow 5 1 (List.map eU8 r)))] [1,2,3]:=by
 unfold kep at h
 refine hcx (gi:=0) Tryz.func152 ?_
 intro p0 q0 w0
 refine lp1 7 (fun v1=>⟨21,[(0,(.ref 2 0 0)),(6,(.fz (eL 4 eVaR a1))),(7,(fI (List.length a1:Int))),(8,(fI v1.1))],[(0,(.was p0 [1,2,3] q0 w0)),(1,(.glb GV)),(2,(.box 58 [(.opt 2),(.row 3 (List.length v1.2))])),(3,(.frow 5 1 (List.map eU8 v1.2)))],[0,1,2,3],[]⟩) (.exit 0) (fun v8=>⟨21,[],[(0,(.was p0 [1,2,3] q0 w0)),(1,(.glb GV)),(2,(.box 58 [(.opt 2),(.row 3 (List.length v8))])),(3,(.frow 5 1 (List.map eU8 v8)))],[0,1,2,3],[]⟩) h (fun v1 r h=>?_) fun v8 h=>?_
 ·unfold kdh at h
  refine cd 5 h (fun h=>?_) fun h=>?_
  ·refine ix nVaR 6 h fun v2 h=>?_
   refine jn1 6 .normal (fun v5=>⟨21,[(0,(.ref 2 0 0)),(5,(.ref 4 0 0)),(6,(.fz (eL 4 eVaR a1))),(7,(fI (List.length a1:Int))),(8,(fI v1.1))],[(0,(.was p0 [1,2,3] q0 w0)),(1,(.glb GV)),(2,(.box 58 [(.opt 2),(.row 3 (List.length v5))])),(3,(.frow 5 1 (List.map eU8 v5))),(4,(.box 43 [(fI v2.type),(fI v2.num),(fS v2.text),(.fz (eL 4 eVaR v2.items))]))],[4,0,1,2,3],[]⟩) h (fun v5 h=>?_) fun v5 h=>?_
   ·refine cd 5 h (fun h=>?_) fun h=>?_
    ·refine hcl 2 [.one .keep, .one .keep] [(2,1),(3,2)] [(1,2),(2,3)] [1,2] h (kav _ _) (fun _=>by kernel_rfl) fun v3 h=>?_
     cases h;exact lj 1
    cases h;exact lj 1
   refine hcl 3 [.one .keep, .one .keep] [(1,1),(2,2),(3,3)] [(1,1),(2,2),(3,3)] [1,2,3] h (ku6 (r35) (ih35) _ _) (fun _=>by kernel_rfl) fun v6 h=>?_
   cases h;exact lj 5
  cases h;exact lo 1 (by kernel_rfl)
 cases h;exact lhy 0
def kbr:Nat→(List Int)→(List Va)→Option (List Int)
  | 0=>fun _ _=>none
  | n+1=>kep (kbr n)
theorem knd:∀ n:Nat,∀ (x0:List Int) (x1:List Va) r,kbr n x0 x1=some r→kat Tryz.prog 152 ([(.ref 2 0 0),(.fz (eL 4 eVaR (x1)))]++[]) [(1,(.glb GV)),(2,(.box 58 [(.opt 2),(.row 3 (List.length (x0)))])),(3,(.frow 5 1 (List.map eU8 (x0))))] [1,2,3] (.ret (.fz (.tup []))) [(1,(.glb GV)),(2,(.box 58 [(.opt 2),(.row 3 (List.length r))])),(3,(.frow 5 1 (List.map eU8 r)))] [1,2,3]
  | 0=>fun _ _ _ h=>by cases h
  | n+1=>fun a0 a1 r h=>kre (kbr n) (knd n) a0 a1 r h
def kii (a0:List Va) (v1:(Int)):Option ((Int) ⊕ ((Unit) ⊕ (Int))):=(bif (decide (v1<(List.length a0:Int))) then ((idx a0 v1).bind fun v2=>((kah fuel v2).bind fun v3=>(bif (v3 != 0) then (some (.inr (.inr v3))) else (some (.inl (w64 (v1+1))))))) else (some (.inr (.inl ()))))
def kjx (a0:List Va):Option ((BA)×(Int)):=((kaa (kii a0) fuel 0).bind fun (v4:((Unit) ⊕ (Int)))=>Sum.elim (fun v5=>((kbr fuel ([]:List Int) a0).bind fun v6=>((kaw v6).bind fun v7=>(some ((toBA v6),0))))) (fun v8=>(some ((⟨#[]⟩:BA),v8))) v4)
theorem kta (a0:List Va) (r:(BA)×(Int)) (h:kjx a0=some r):kat Tryz.prog 124 ([(.fz (eL 4 eVaR a0))]++[]) [(1,(.glb GV))] [1] (.ret (.fz (.tup [(eS r.1),(eI r.2)]))) [(1,(.glb GV))] [1]:=by
 unfold kjx at h
 refine hcx (gi:=0) Tryz.func124 ?_
 intro p0 q0 w0
 refine lpx 13 (fun v1=>⟨23,[(0,(.fz (eL 4 eVaR a0))),(8,(.fz (eL 4 eVaR a0))),(9,(fI (List.length a0:Int))),(10,(fI v1))],[(0,(.was p0 [1] q0 w0)),(1,(.glb GV))],[0,1],[]⟩) (fun v4 e st=>Sum.elim (fun p=>e = .exit 0∧LeSt st ⟨23,[(0,(.fz (eL 4 eVaR a0)))],[(0,(.was p0 [1] q0 w0)),(1,(.glb GV))],[0,1],[]⟩) (fun p=>e = .ret∧LeSt st ⟨23,[(2,(fS (⟨#[]⟩:BA))),(3,(fI (p)))],[(0,(.was p0 [1] q0 w0)),(1,(.glb GV))],[0,1],[]⟩) v4) h (by kernel_rfl) (le_a) (fun v1 r h=>?_) fun v4 h e st' hq=>?_
 ·unfold kii at h
  refine cd 5 h (fun h=>?_) fun h=>?_
  ·refine ix nVaR 5 h fun v2 h=>?_
   refine cl 7 h (ks2 _ _) (by kernel_rfl) fun v3 h=>?_
   refine cd 7 h (fun h=>?_) fun h=>?_
   ·cases h;exact lo 7 (by kernel_rfl)
   cases h;exact lj 5
  cases h;exact lo 1 (by kernel_rfl)
 rcases v4 with v5 | v8
 ·try simp only [qf,qg] at h
  obtain ⟨rfl,hle⟩:=hq
  refine ⟨_,hle,?_⟩
  refine wle 3 (ket (e:=5) (size:=1) (id2:=2) (j:=1) (id:=3) (e2:=58) (cells:=[(.fz (.atom (.pointer none))),(.fz (.atom (.slice none 0 0)))])) ?_
  refine wle 0 (kku (id:=2) (e2:=58) (cells:=[(.fz (.atom (.pointer none))),(.row 3 (List.length ([]:List Int)))]) (cells':=[.opt 2,(.row 3 (List.length ([]:List Int)))])) ?_
  refine hcl 4 [.one .keep, .one .keep] [(1,1),(2,2),(3,3)] [(1,1),(2,2),(3,3)] [1,2,3] h (knd fuel _ _) (fun _=>by kernel_rfl) fun v6 h=>?_
  refine hcl 3 [.one .keep] [(2,1),(3,2)] [(1,2),(2,3)] [1,2] h (kee _) (fun _=>by kernel_rfl) fun v7 h=>?_
  cases h;exact lhy 4
 ·try simp only [qf,qg] at h
  obtain ⟨rfl,hle⟩:=hq
  refine ⟨_,hle,?_⟩
  cases h;exact lhy 0
def kie (a0:Va):Option ((BA)×(Int)):=((kjx ([a0]:List (Va))).bind fun v1=>(some (v1.1,v1.2)))
theorem kv8 (a0:Va) (r:(BA)×(Int)) (h:kie a0=some r):kat Tryz.prog 84 ([(.fz (eVa a0))]++[]) [(1,(.glb GV))] [1] (.ret (.fz (.tup [(eS r.1),(eI r.2)]))) [(1,(.glb GV))] [1]:=by
 unfold kie at h
 refine hcx (gi:=0) Tryz.func84 ?_
 intro p0 q0 w0
 refine wle 10 (kt0 (t:=5) (x := .lim 4 1 [eVa a0]) (y := .lim 4 1 (List.map eVaR ([a0]:List (Va)))) (by kernel_rfl) (by simp only [List.map,kl6])) ?_
 refine hcl 0 [(.one (.sl 4))] [(1,1)] [(1,1)] [1] h (kta _) (fun _=>by kernel_rfl) fun v1 h=>?_
 cases h;exact lhy 6
def kh9 (a0:Ru):Option BA:=(bif (a0.kind == 1) then ((ki3 a0.input).bind fun v1=>((cat (⟨#[105,110]⟩:BA) v1).bind fun v2=>(some v2))) else ((kie a0.const).bind fun v3=>(some v3.1)))
theorem kph (a0:Ru) (r:(BA)) (h:kh9 a0=some r):kat Tryz.prog 45 ([(.fz (eRu a0))]++[]) [(1,(.glb GV))] [1] (.ret (fS r)) [(1,(.glb GV))] [1]:=by
 unfold kh9 at h
 refine hcx (gi:=0) Tryz.func45 ?_
 intro p0 q0 w0
 refine cd 12 h (fun h=>?_) fun h=>?_
 ·refine hcl 4 [.one .keep] [(1,1)] [(1,1)] [1] h (kxb _) (fun _=>by kernel_rfl) fun v1 h=>?_
  obtain ⟨v2,hv2,h⟩:=qi.1 h
  refine nst 0 (kqh (t:=9) (X:=(.const (.string ⟨#[105,110]⟩))) (Y:=(.tmp 10)) (yt:=9) (s:=(⟨#[105,110]⟩:BA)) (u:=v1) hv2) ?_
  cases h;exact lhy 3
 refine hcl 5 [.one .keep] [(1,1)] [(1,1)] [1] h (kv8 _) (fun _=>by kernel_rfl) fun v3 h=>?_
 cases h;exact lhy 12
def khd (a1:La) (a2:Tm) (r29:(List Int)→(La)→(Tm)→Option (List Int)) (v5:(Int)×(List Int)):Option (((Int)×(List Int)) ⊕ (List Int)):=(bif (decide (v5.1<(List.length a2.args:Int))) then ((idx a2.args v5.1).bind fun v6=>((idx ([(⟨#[40]⟩:BA),(⟨#[44,32]⟩:BA)]:List BA) (imin v5.1 1)).bind fun v7=>((kal v5.2 v7).bind fun v8=>((r29 v8 a1 v6).bind fun v9=>(some (.inl ((w64 (v5.1+1)),v9))))))) else (some (.inr v5.2)))
def kh2 (r29:(List Int)→(La)→(Tm)→Option (List Int)) (a0:List Int) (a1:La) (a2:Tm):Option (List Int):=((idx a1.rules a2.rule).bind fun v1=>(bif (v1.kind != 3) then ((kh9 v1).bind fun v2=>((kal a0 v2).bind fun v3=>(some v3))) else ((kal a0 v1.op).bind fun v4=>((kaa (khd a1 a2 r29) fuel (0,v4)).bind fun (v11:(List Int))=>((kao v11 41).bind fun v12=>(some v12))))))
theorem ks5 (r29:(List Int)→(La)→(Tm)→Option (List Int)) (ih29:∀ (x0:List Int) (x1:La) (x2:Tm) r,r29 x0 x1 x2=some r→kat Tryz.prog 28 ([(.ref 2 0 0),(.fz (eLa (x1))),(.fz (eTm (x2)))]++[]) [(1,(.glb GV)),(2,(.box 58 [(.opt 2),(.row 3 (List.length (x0)))])),(3,(.frow 5 1 (List.map eU8 (x0))))] [1,2,3] (.ret (.fz (.tup []))) [(1,(.glb GV)),(2,(.box 58 [(.opt 2),(.row 3 (List.length r))])),(3,(.frow 5 1 (List.map eU8 r)))] [1,2,3]) (a0:List Int) (a1:La) (a2:Tm) (r:(List Int)) (h:kh2 r29 a0 a1 a2=some r):kat Tryz.prog 28 ([(.ref 2 0 0),(.fz (eLa a1)),(.fz (eTm a2))]++[]) [(1,(.glb GV)),(2,(.box 58 [(.opt 2),(.row 3 (List.length a0))])),(3,(.frow 5 1 (List.map eU8 a0)))] [1,2,3] (.ret (.fz (.tup []))) [(1,(.glb GV)),(2,(.box 58 [(.opt 2),(.row 3 (List.length r))])),(3,(.frow 5 1 (List.map eU8 r)))] [1,2,3]:=by
 unfold kh2 at h
 refine hcx (gi:=0) Tryz.func28 ?_
 intro p0 q0 w0
 refine ix nRu 11 h fun v1 h=>?_
 refine cd 11 h (fun h=>?_) fun h=>?_
 ·refine hcl 4 [.one .keep] [(1,1)] [(1,1)] [1] h (kph _) (fun _=>by kernel_rfl) fun v2 h=>?_
  refine hcl 0 [.one .keep, .one .keep] [(2,1),(3,2)] [(1,2),(2,3)] [1,2] h (kav _ _) (fun _=>by kernel_rfl) fun v3 h=>?_
  cases h;exact lhy 2
 refine hcl 6 [.one .keep, .one .keep] [(2,1),(3,2)] [(1,2),(2,3)] [1,2] h (kav _ _) (fun _=>by kernel_rfl) fun v4 h=>?_
 refine lp1 10 (fun v5=>⟨48,[(0,(.ref 2 0 0)),(4,(.ref 4 0 0)),(27,(.fz (eL 2 eTmR a2.args))),(28,(fI (List.length a2.args:Int))),(29,(fI v5.1))],[(0,(.was p0 [1,2,3] q0 w0)),(1,(.glb GV)),(2,(.box 58 [(.opt 2),(.row 3 (List.length v5.2))])),(3,(.frow 5 1 (List.map eU8 v5.2))),(4,(.box 26 [(fS a1.name),(.fz (eL 1 eI a1.inputs)),(.fz (eL 2 eSy a1.symbols)),(.fz (eL 9 eRu a1.rules))]))],[4,0,1,2,3],[]⟩) (.exit 0) (fun v11=>⟨48,[(0,(.ref 2 0 0))],[(0,(.was p0 [1,2,3] q0 w0)),(1,(.glb GV)),(2,(.box 58 [(.opt 2),(.row 3 (List.length v11))])),(3,(.frow 5 1 (List.map eU8 v11)))],[0,1,2,3],[]⟩) h (fun v5 r h=>?_) fun v11 h=>?_
 ·unfold khd at h
  refine cd 5 h (fun h=>?_) fun h=>?_
  ·refine ix nTmR 6 h fun v6 h=>?_
   refine ix nS 11 h fun v7 h=>?_
   refine hcl 1 [.one .keep, .one .keep] [(2,1),(3,2)] [(1,2),(2,3)] [1,2] h (kav _ _) (fun _=>by kernel_rfl) fun v8 h=>?_
   refine hcl 5 [.one .keep, .one .keep, .one .keep] [(1,1),(2,2),(3,3)] [(1,1),(2,2),(3,3)] [1,2,3] h (ih29 _ _ _) (fun _=>by kernel_rfl) fun v9 h=>?_
   cases h;exact lj 5
  cases h;exact lo 1 (by kernel_rfl)
 refine hcl 2 [.one .keep, .one .keep] [(2,1),(3,2)] [(1,2),(2,3)] [1,2] h (ka9 _ _) (fun _=>by kernel_rfl) fun v12 h=>?_
 cases h;exact lhy 1
def kgl:Nat→(List Int)→(La)→(Tm)→Option (List Int)
  | 0=>fun _ _ _=>none
  | n+1=>kh2 (kgl n)
theorem kod:∀ n:Nat,∀ (x0:List Int) (x1:La) (x2:Tm) r,kgl n x0 x1 x2=some r→kat Tryz.prog 28 ([(.ref 2 0 0),(.fz (eLa (x1))),(.fz (eTm (x2)))]++[]) [(1,(.glb GV)),(2,(.box 58 [(.opt 2),(.row 3 (List.length (x0)))])),(3,(.frow 5 1 (List.map eU8 (x0))))] [1,2,3] (.ret (.fz (.tup []))) [(1,(.glb GV)),(2,(.box 58 [(.opt 2),(.row 3 (List.length r))])),(3,(.frow 5 1 (List.map eU8 r)))] [1,2,3]
  | 0=>fun _ _ _ _ h=>by cases h
  | n+1=>fun a0 a1 a2 r h=>ks5 (kgl n) (kod n) a0 a1 a2 r h
def kdd (a0:La) (a1:Tm):Option ((BA)×(Int)):=((kdr a0).bind fun v1=>(bif (v1 != 0) then (some ((⟨#[]⟩:BA),v1)) else ((bif (decide (a1.rule<0)) then (some (true)) else (some (decide ((List.length a0.rules:Int)≤a1.rule)))).bind fun v3=>(bif v3 then (some ((⟨#[]⟩:BA),1)) else ((idx a0.rules a1.rule).bind fun v4=>((keu a0 v4.symbol a1).bind fun v5=>(bif (v5 != 0) then (some ((⟨#[]⟩:BA),v5)) else ((kgl fuel ([]:List Int) a0 a1).bind fun v6=>((kaw v6).bind fun v7=>(some ((toBA v6),0)))))))))))
theorem klg (a0:La) (a1:Tm) (r:(BA)×(Int)) (h:kdd a0 a1=some r):kat Tryz.prog 12 ([(.fz (eLa a0)),(.fz (eTm a1))]++[]) [(1,(.glb GV))] [1] (.ret (.fz (.tup [(eS r.1),(eI r.2)]))) [(1,(.glb GV))] [1]:=by
 unfold kdd at h
 refine hcx (gi:=0) Tryz.func12 ?_
 intro p0 q0 w0
 refine cl 11 h (kja _) (by kernel_rfl) fun v1 h=>?_
 refine cd 7 h (fun h=>?_) fun h=>?_
 ·cases h;exact lhy 7
 refine jn1 3 .normal (fun v3=>⟨42,[(2,(.ref 2 0 0)),(3,(.ref 3 0 0)),(24,(fB v3))],[(0,(.was p0 [1] q0 w0)),(1,(.glb GV)),(2,(.box 26 [(fS a0.name),(.fz (eL 1 eI a0.inputs)),(.fz (eL 2 eSy a0.symbols)),(.fz (eL 9 eRu a0.rules))])),(3,(.box 29 [(fI a1.rule),(.fz (eL 2 eTmR a1.args))]))],[3,2,0,1],[]⟩) h (fun v3 h=>?_) fun v3 h=>?_
 ·refine gd 5 h (fun h=>?_) fun h=>?_
  ·cases h;exact lj 8
  cases h;exact lj 8
 refine cd 0 h (fun h=>?_) fun h=>?_
 ·cases h;exact lhy 6
 refine dw 3 9 ?_
 refine ix nRu 5 h fun v4 h=>?_
 refine cl 4 h (ku3 _ _ _) (by kernel_rfl) fun v5 h=>?_
 refine cd 7 h (fun h=>?_) fun h=>?_
 ·cases h;exact lhy 7
 refine wle 4 (ket (e:=5) (size:=1) (id2:=4) (j:=1) (id:=5) (e2:=58) (cells:=[(.fz (.atom (.pointer none))),(.fz (.atom (.slice none 0 0)))])) ?_
 refine wle 0 (kku (id:=4) (e2:=58) (cells:=[(.fz (.atom (.pointer none))),(.row 5 (List.length ([]:List Int)))]) (cells':=[.opt 4,(.row 5 (List.length ([]:List Int)))])) ?_
 refine hcl 5 [.one .keep, .one .keep, .one .keep] [(1,1),(4,2),(5,3)] [(1,1),(2,4),(3,5)] [1,2,3] h (kod fuel _ _ _) (fun _=>by kernel_rfl) fun v6 h=>?_
 refine hcl 3 [.one .keep] [(4,1),(5,2)] [(1,4),(2,5)] [1,2] h (kee _) (fun _=>by kernel_rfl) fun v7 h=>?_
 cases h;exact lhy 4
def kdq (a0:List BA) (a1:List Int):Option (List Int):=((strings_Join a0 (⟨#[32]⟩:BA)).bind fun v1=>((cat v1 (⟨#[10]⟩:BA)).bind fun v2=>((kal a1 v2).bind fun v3=>(some v3))))
theorem kfm (a0:List BA) (a1:List Int) (r:(List Int)) (h:kdq a0 a1=some r):kat Tryz.prog 41 ([(.fz (eL 1 eS a0))]++[(.ref 1 0 0)]) [(1,(.box 58 [(.opt 1),(.row 2 (List.length a1))])),(2,(.frow 5 1 (List.map eU8 a1)))] [1,2] (.ret (.fz (.tup []))) [(1,(.box 58 [(.opt 1),(.row 2 (List.length r))])),(2,(.frow 5 1 (List.map eU8 r)))] [1,2]:=by
 unfold kdq at h
 refine hcx (gi:=0) Tryz.func41 ?_
 intro p0 q0 w0
 refine cl 2 h (kry _ _) (by kernel_rfl) fun v1 h=>?_
 obtain ⟨v2,hv2,h⟩:=qi.1 h
 refine nst 0 (kqh (t:=9) (X:=(.tmp 4)) (Y:=(.const (.string ⟨#[10]⟩))) (yt:=9) (s:=v1) (u:=(⟨#[10]⟩:BA)) hv2) ?_
 refine hcl 0 [.one .keep, .one .keep] [(1,1),(2,2)] [(1,1),(2,2)] [1,2] h (kav _ _) (fun _=>by kernel_rfl) fun v3 h=>?_
 cases h;exact lhy 1
def kkg (a0:La) (v17:Ru) (v18:(Int)×(List BA)):Option (((Int)×(List BA)) ⊕ (List BA)):=(bif (decide (v18.1<(List.length v17.args:Int))) then ((idx v17.args v18.1).bind fun v19=>((idx a0.symbols v19).bind fun v20=>((app 16 v18.2 ([v20.name]:List BA)).bind fun v21=>(some (.inl ((w64 (v18.1+1)),v21)))))) else (some (.inr v18.2)))
def kkj (a0:La) (v16:(Int)×(List Int)):Option (((Int)×(List Int)) ⊕ (List Int)):=(bif (decide (v16.1<(List.length a0.rules:Int))) then ((idx a0.rules v16.1).bind fun v17=>((bif (v17.kind == 3) then ((kaa (kkg a0 v17) fuel (0,([]:List BA))).bind fun (v23:(List BA))=>((cat v17.op (⟨#[40]⟩:BA)).bind fun v24=>((strings_Join v23 (⟨#[44,32]⟩:BA)).bind fun v25=>((cat v24 v25).bind fun v26=>((cat v26 (⟨#[41]⟩:BA)).bind fun v27=>(some v27)))))) else ((kh9 v17).bind fun v28=>(some v28))).bind fun v30=>((idx a0.symbols v17.symbol).bind fun v31=>((kdq ([(⟨#[114,117,108,101]⟩:BA),v31.name,(⟨#[61]⟩:BA),v30]:List BA) v16.2).bind fun v32=>(some (.inl ((w64 (v16.1+1)),v32))))))) else (some (.inr v16.2)))
def kkh (a0:La) (v10:(Int)×(List Int)):Option (((Int)×(List Int)) ⊕ (List Int)):=(bif (decide (v10.1<(List.length a0.symbols:Int))) then ((idx a0.symbols v10.1).bind fun v11=>((kka v11.type).bind fun v12=>((kdq ([(⟨#[115,121,109,98,111,108]⟩:BA),v11.name,v12]:List BA) v10.2).bind fun v13=>(some (.inl ((w64 (v10.1+1)),v13)))))) else (some (.inr v10.2)))
def kkf (a0:La) (v3:(Int)×(List BA)):Option (((Int)×(List BA)) ⊕ (List BA)):=(bif (decide (v3.1<(List.length a0.inputs:Int))) then ((idx a0.inputs v3.1).bind fun v4=>((kka v4).bind fun v5=>((app 16 v3.2 ([v5]:List BA)).bind fun v6=>(some (.inl ((w64 (v3.1+1)),v6)))))) else (some (.inr v3.2)))
def kiu (a0:La):Option ((BA)×(Int)):=((kdr a0).bind fun v1=>(bif (v1 != 0) then (some ((⟨#[]⟩:BA),v1)) else ((kdq ([(⟨#[108,97,110,103,117,97,103,101]⟩:BA),a0.name]:List BA) ([]:List Int)).bind fun v2=>((kaa (kkf a0) fuel (0,([(⟨#[105,110,112,117,116,115]⟩:BA)]:List BA))).bind fun (v8:(List BA))=>((kdq v8 v2).bind fun v9=>((kaa (kkh a0) fuel (0,v9)).bind fun (v15:(List Int))=>((kaa (kkj a0) fuel (0,v15)).bind fun (v34:(List Int))=>((kaw v34).bind fun v35=>(some ((toBA v34),0))))))))))
theorem kou (a0:La) (r:(BA)×(Int)) (h:kiu a0=some r):kat Tryz.prog 18 ([(.fz (eLa a0))]++[]) [(1,(.glb GV))] [1] (.ret (.fz (.tup [(eS r.1),(eI r.2)]))) [(1,(.glb GV))] [1]:=by
 unfold kiu at h
 refine hcx (gi:=0) Tryz.func18 ?_
 intro p0 q0 w0
 refine cl 10 h (kja _) (by kernel_rfl) fun v1 h=>?_
 refine cd 7 h (fun h=>?_) fun h=>?_
 ·cases h;exact lhy 7
 refine wle 4 (ket (e:=5) (size:=1) (id2:=3) (j:=1) (id:=4) (e2:=58) (cells:=[(.fz (.atom (.pointer none))),(.fz (.atom (.slice none 0 0)))])) ?_
 refine wle 0 (kku (id:=3) (e2:=58) (cells:=[(.fz (.atom (.pointer none))),(.row 4 (List.length ([]:List Int)))]) (cells':=[.opt 3,(.row 4 (List.length ([]:List Int)))])) ?_
 refine hcl 12 [(.one (.sl 1))] [(3,1),(4,2)] [(1,3),(2,4)] [1,2] h (kfm _ _) (fun _=>by kernel_rfl) fun v2 h=>?_
 refine sst 3 (kut (t:=84) (n:=1) (parts:=#[(0,(.const (.string ⟨#[105,110,112,117,116,115]⟩)))]) (d:=tt84) (e:=9) (de:=tt9) (enc:=eS) (xs:=([(⟨#[105,110,112,117,116,115]⟩:BA)]:List BA)) (id:=5) kb0 (by kernel_rfl) (by kernel_rfl) (by kernel_rfl) (by kernel_rfl) (by kernel_rfl) rfl) (by kernel_rfl) ?_
 refine lp1 11 (fun v3=>⟨111,[(1,(.ref 2 0 0)),(5,(.ref 3 0 0)),(6,(.fn 41 [(.ref 3 0 0)])),(7,(.row 5 (List.length v3.2))),(31,(.fz (eL 1 eI a0.inputs))),(32,(fI (List.length a0.inputs:Int))),(33,(fI v3.1))],[(0,(.was p0 [1] q0 w0)),(1,(.glb GV)),(2,(.box 26 [(fS a0.name),(.fz (eL 1 eI a0.inputs)),(.fz (eL 2 eSy a0.symbols)),(.fz (eL 9 eRu a0.rules))])),(3,(.box 58 [(.opt 3),(.row 4 (List.length v2))])),(4,(.frow 5 1 (List.map eU8 v2))),(5,(.frow 9 1 (List.map eS v3.2)))],[5,4,3,2,0,1],[]⟩) (.exit 0) (fun v8=>⟨111,[(1,(.ref 2 0 0)),(5,(.ref 3 0 0)),(6,(.fn 41 [(.ref 3 0 0)])),(7,(.row 5 (List.length v8)))],[(0,(.was p0 [1] q0 w0)),(1,(.glb GV)),(2,(.box 26 [(fS a0.name),(.fz (eL 1 eI a0.inputs)),(.fz (eL 2 eSy a0.symbols)),(.fz (eL 9 eRu a0.rules))])),(3,(.box 58 [(.opt 3),(.row 4 (List.length v2))])),(4,(.frow 5 1 (List.map eU8 v2))),(5,(.frow 9 1 (List.map eS v8)))],[5,4,3,2,0,1],[]⟩) h (fun v3 r h=>?_) fun v8 h=>?_
 ·unfold kkf at h
  refine cd 5 h (fun h=>?_) fun h=>?_
  ·refine ix nI 5 h fun v4 h=>?_
   refine cl 6 h (kmi _) (by kernel_rfl) fun v5 h=>?_
   refine ap nS 1 h fun v6 h=>?_
   cases h;exact lj 6
  cases h;exact lo 1 (by kernel_rfl)
 refine wle 4 (koz (id:=5) (n:=List.length v8) (e:=9) (size:=1) (xs:=List.map eS v8) [44] ⟨by kernel_rfl,trivial⟩ (by kernel_rfl) (by simp)) ?_
 refine hcl 0 [.one .keep] [(3,1),(4,2)] [(1,3),(2,4)] [1,2] h (kfm _ _) (fun _=>by kernel_rfl) fun v9 h=>?_
 refine lp1 10 (fun v10=>⟨111,[(1,(.ref 2 0 0)),(5,(.ref 3 0 0)),(6,(.fn 41 [(.ref 3 0 0)])),(47,(.fz (eL 2 eSy a0.symbols))),(48,(fI (List.length a0.symbols:Int))),(49,(fI v10.1))],[(0,(.was p0 [1] q0 w0)),(1,(.glb GV)),(2,(.box 26 [(fS a0.name),(.fz (eL 1 eI a0.inputs)),(.fz (eL 2 eSy a0.symbols)),(.fz (eL 9 eRu a0.rules))])),(3,(.box 58 [(.opt 3),(.row 4 (List.length v10.2))])),(4,(.frow 5 1 (List.map eU8 v10.2)))],[4,3,2,0,1],[]⟩) (.exit 2) (fun v15=>⟨111,[(1,(.ref 2 0 0)),(5,(.ref 3 0 0)),(6,(.fn 41 [(.ref 3 0 0)]))],[(0,(.was p0 [1] q0 w0)),(1,(.glb GV)),(2,(.box 26 [(fS a0.name),(.fz (eL 1 eI a0.inputs)),(.fz (eL 2 eSy a0.symbols)),(.fz (eL 9 eRu a0.rules))])),(3,(.box 58 [(.opt 3),(.row 4 (List.length v15))])),(4,(.frow 5 1 (List.map eU8 v15)))],[4,3,2,0,1],[]⟩) h (fun v10 r h=>?_) fun v15 h=>?_
 ·unfold kkh at h
  refine cd 5 h (fun h=>?_) fun h=>?_
  ·refine ix nSy 5 h fun v11 h=>?_
   refine dw 4 7 ?_
   refine cl 5 h (kmi _) (by kernel_rfl) fun v12 h=>?_
   refine hcl 2 [(.one (.sl 1))] [(3,1),(4,2)] [(1,3),(2,4)] [1,2] h (kfm _ _) (fun _=>by kernel_rfl) fun v13 h=>?_
   cases h;exact lj 5
  cases h;exact lo 1 (by kernel_rfl)
 refine lp1 9 (fun v16=>⟨111,[(1,(.ref 2 0 0)),(5,(.ref 3 0 0)),(6,(.fn 41 [(.ref 3 0 0)])),(63,(.fz (eL 9 eRu a0.rules))),(64,(fI (List.length a0.rules:Int))),(65,(fI v16.1))],[(0,(.was p0 [1] q0 w0)),(1,(.glb GV)),(2,(.box 26 [(fS a0.name),(.fz (eL 1 eI a0.inputs)),(.fz (eL 2 eSy a0.symbols)),(.fz (eL 9 eRu a0.rules))])),(3,(.box 58 [(.opt 3),(.row 4 (List.length v16.2))])),(4,(.frow 5 1 (List.map eU8 v16.2)))],[4,3,2,0,1],[]⟩) (.exit 4) (fun v34=>⟨111,[(5,(.ref 3 0 0))],[(0,(.was p0 [1] q0 w0)),(1,(.glb GV)),(3,(.box 58 [(.opt 3),(.row 4 (List.length v34))])),(4,(.frow 5 1 (List.map eU8 v34)))],[4,3,0,1],[]⟩) h (fun v16 r h=>?_) fun v34 h=>?_
 ·unfold kkj at h
  refine cd 5 h (fun h=>?_) fun h=>?_
  ·refine ix nRu 5 h fun v17 h=>?_
   refine jn1 9 .normal (fun v30=>⟨111,[(1,(.ref 2 0 0)),(5,(.ref 3 0 0)),(6,(.fn 41 [(.ref 3 0 0)])),(13,(.ref 5 0 0)),(14,(fS v30)),(63,(.fz (eL 9 eRu a0.rules))),(64,(fI (List.length a0.rules:Int))),(65,(fI v16.1))],[(0,(.was p0 [1] q0 w0)),(1,(.glb GV)),(2,(.box 26 [(fS a0.name),(.fz (eL 1 eI a0.inputs)),(.fz (eL 2 eSy a0.symbols)),(.fz (eL 9 eRu a0.rules))])),(3,(.box 58 [(.opt 3),(.row 4 (List.length v16.2))])),(4,(.frow 5 1 (List.map eU8 v16.2))),(5,(.box 45 [(fI v17.symbol),(fI v17.kind),(fI v17.input),(fI v17.const.type),(fI v17.const.num),(fS v17.const.text),(.fz (eL 4 eVaR v17.const.items)),(fS v17.op),(.fz (eL 1 eI v17.args))]))],[5,4,3,2,0,1],[]⟩) h (fun v30 h=>?_) fun v30 h=>?_
   ·refine cd 6 h (fun h=>?_) fun h=>?_
    ·refine wle 13 (kl3 (e:=9) (size:=1) (t:=15) (id:=6) (by decide)) ?_
     refine lp1 0 (fun v18=>⟨111,[(1,(.ref 2 0 0)),(5,(.ref 3 0 0)),(6,(.fn 41 [(.ref 3 0 0)])),(13,(.ref 5 0 0)),(15,(.row 6 (List.length v18.2))),(63,(.fz (eL 9 eRu a0.rules))),(64,(fI (List.length a0.rules:Int))),(65,(fI v16.1)),(73,(.fz (eL 1 eI v17.args))),(74,(fI (List.length v17.args:Int))),(75,(fI v18.1))],[(0,(.was p0 [1] q0 w0)),(1,(.glb GV)),(2,(.box 26 [(fS a0.name),(.fz (eL 1 eI a0.inputs)),(.fz (eL 2 eSy a0.symbols)),(.fz (eL 9 eRu a0.rules))])),(3,(.box 58 [(.opt 3),(.row 4 (List.length v16.2))])),(4,(.frow 5 1 (List.map eU8 v16.2))),(5,(.box 45 [(fI v17.symbol),(fI v17.kind),(fI v17.input),(fI v17.const.type),(fI v17.const.num),(fS v17.const.text),(.fz (eL 4 eVaR v17.const.items)),(fS v17.op),(.fz (eL 1 eI v17.args))])),(6,(.frow 9 1 (List.map eS v18.2)))],[6,5,4,3,2,0,1],[]⟩) (.exit 6) (fun v23=>⟨111,[(1,(.ref 2 0 0)),(5,(.ref 3 0 0)),(6,(.fn 41 [(.ref 3 0 0)])),(13,(.ref 5 0 0)),(15,(.row 6 (List.length v23))),(63,(.fz (eL 9 eRu a0.rules))),(64,(fI (List.length a0.rules:Int))),(65,(fI v16.1))],[(0,(.was p0 [1] q0 w0)),(1,(.glb GV)),(2,(.box 26 [(fS a0.name),(.fz (eL 1 eI a0.inputs)),(.fz (eL 2 eSy a0.symbols)),(.fz (eL 9 eRu a0.rules))])),(3,(.box 58 [(.opt 3),(.row 4 (List.length v16.2))])),(4,(.frow 5 1 (List.map eU8 v16.2))),(5,(.box 45 [(fI v17.symbol),(fI v17.kind),(fI v17.input),(fI v17.const.type),(fI v17.const.num),(fS v17.const.text),(.fz (eL 4 eVaR v17.const.items)),(fS v17.op),(.fz (eL 1 eI v17.args))])),(6,(.frow 9 1 (List.map eS v23)))],[6,5,4,3,2,0,1],[]⟩) h (fun v18 r h=>?_) fun v23 h=>?_
     ·unfold kkg at h
      refine cd 5 h (fun h=>?_) fun h=>?_
      ·refine ix nI 5 h fun v19 h=>?_
       refine ix nSy 8 h fun v20 h=>?_
       refine ap nS 3 h fun v21 h=>?_
       cases h;exact lj 6
      cases h;exact lo 1 (by kernel_rfl)
     refine dw 0 5 ?_
     obtain ⟨v24,hv24,h⟩:=qi.1 h
     refine nst 2 (kqh (t:=9) (X:=(.tmp 90)) (Y:=(.const (.string ⟨#[40]⟩))) (yt:=9) (s:=v17.op) (u:=(⟨#[40]⟩:BA)) hv24) ?_
     refine clL 1 [(.row 92 6 (List.length v23) 9 1 (List.map eS v23))] h (kry _ _) (kacl (kaew (by kernel_rfl) (by kernel_rfl) (by simp)) (kaf0)) (by kernel_rfl) (fun _=>by kernel_rfl) fun v25 h=>?_
     obtain ⟨v26,hv26,h⟩:=qi.1 h
     refine nst 1 (kqh (t:=9) (X:=(.tmp 91)) (Y:=(.tmp 93)) (yt:=9) (s:=v24) (u:=v25) hv26) ?_
     obtain ⟨v27,hv27,h⟩:=qi.1 h
     refine nst 0 (kqh (t:=9) (X:=(.tmp 94)) (Y:=(.const (.string ⟨#[41]⟩))) (yt:=9) (s:=v26) (u:=(⟨#[41]⟩:BA)) hv27) ?_
     cases h;exact lj 2
    refine hcl 2 [.one .keep] [(1,1)] [(1,1)] [1] h (kph _) (fun _=>by kernel_rfl) fun v28 h=>?_
    cases h;exact lj 2
   refine ix nSy 6 h fun v31 h=>?_
   refine hcl 4 [(.one (.sl 1))] [(3,1),(4,2)] [(1,3),(2,4)] [1,2] h (kfm _ _) (fun _=>by kernel_rfl) fun v32 h=>?_
   cases h;exact lj 5
  cases h;exact lo 1 (by kernel_rfl)
 refine hcl 2 [.one .keep] [(3,1),(4,2)] [(1,3),(2,4)] [1,2] h (kee _) (fun _=>by kernel_rfl) fun v35 h=>?_
 cases h;exact lhy 4
def km9 (v7:List BA) (v8:(Int)):Option ((Int) ⊕ ((Unit) ⊕ (Unit))):=(bif (decide (v8<(List.length v7:Int))) then ((idx v7 v8).bind fun v9=>((khf v9).bind fun v10=>(bif (!v10) then (some (.inr (.inr ()))) else (some (.inl (w64 (v8+1))))))) else (some (.inr (.inl ()))))
def kl1 (a0:BA):Option ((BA)×(List BA)×(Bool)):=((strings_Cut a0 (⟨#[40]⟩:BA)).bind fun v1=>((bif (!v1.2.2) then (some (true)) else ((khf v1.1).bind fun v2=>(bif (!v2) then (some (true)) else ((kmk v1.2.1 (⟨#[41]⟩:BA)).bind fun v3=>(some (!v3)))))).bind fun v5=>(bif v5 then (some ((⟨#[]⟩:BA),([]:List BA),false)) else ((klv v1.2.1 (⟨#[41]⟩:BA)).bind fun v6=>(bif (v6.toList == (⟨#[]⟩:BA).toList) then (some (v1.1,([]:List BA),true)) else ((kw4 v6 (⟨#[44,32]⟩:BA)).bind fun v7=>((kaa (km9 v7) fuel 0).bind fun (v11:((Unit) ⊕ (Unit)))=>Sum.elim (fun v12=>(some (v1.1,v7,true))) (fun v13=>(some ((⟨#[]⟩:BA),([]:List BA),false))) v11)))))))
theorem ksu (a0:BA) (r:(BA)×(List BA)×(Bool)) (h:kl1 a0=some r):kat Tryz.prog 129 ([(fS a0)]++[]) [(1,(.glb GV))] [1] (.ret (.fz (.tup [(eS r.1),(eL 1 eS r.2.1),(eB r.2.2)]))) [(1,(.glb GV))] [1]:=by
 unfold kl1 at h
 refine hcx (gi:=0) Tryz.func129 ?_
 intro p0 q0 w0
 refine cl 9 h (kl4 _ _) (by kernel_rfl) fun v1 h=>?_
 refine jn1 10 .normal (fun v5=>⟨48,[(5,(fS v1.1)),(6,(fS v1.2.1)),(28,(fB v5))],[(0,(.was p0 [1] q0 w0)),(1,(.glb GV))],[0,1],[]⟩) h (fun v5 h=>?_) fun v5 h=>?_
 ·refine gd 4 h (fun h=>?_) fun h=>?_
  ·cases h;exact lj 10
  refine cl 1 h (kin _) (by kernel_rfl) fun v2 h=>?_
  refine gd 3 h (fun h=>?_) fun h=>?_
  ·cases h;exact lj 5
  refine cl 1 h (kt1 _ _) (by kernel_rfl) fun v3 h=>?_
  cases h;exact lj 3
 refine cd 0 h (fun h=>?_) fun h=>?_
 ·cases h;exact lhy 7
 refine cl 4 h (ksv _ _) (by kernel_rfl) fun v6 h=>?_
 refine cd 8 h (fun h=>?_) fun h=>?_
 ·cases h;exact lhy 8
 obtain ⟨v7,hv7,h⟩:=qi.1 h
 refine nst 4 (k7n (ts:=#[9,9]) (X:=(.tmp 34)) (Y:=(.const (.string ⟨#[44,32]⟩))) (s:=v6) (sep:=(⟨#[44,32]⟩:BA)) (v:=v7) (m:=5) (gs:=GV) (id:=1) hv7 ⟨_,Tryz.func86,by kernel_rfl,by kernel_rfl⟩ (by kernel_rfl) (by kernel_rfl) (by kernel_rfl) (by kernel_rfl) (by kernel_rfl)) ?_
 refine lpx 10 (fun v8=>⟨48,[(5,(fS v1.1)),(8,(.fz (eL 1 eS v7))),(36,(.fz (eL 1 eS v7))),(37,(fI (List.length v7:Int))),(38,(fI v8))],[(0,(.was p0 [1] q0 w0)),(1,(.glb GV))],[0,1],[]⟩) (fun v11 e st=>Sum.elim (fun p=>e = .exit 0∧LeSt st ⟨48,[(5,(fS v1.1)),(8,(.fz (eL 1 eS v7)))],[(0,(.was p0 [1] q0 w0)),(1,(.glb GV))],[0,1],[]⟩) (fun p=>e = .ret∧LeSt st ⟨48,[(2,(fS (⟨#[]⟩:BA))),(3,(.fz (.atom (.slice none 0 0)))),(4,(fB (false)))],[(0,(.was p0 [1] q0 w0)),(1,(.glb GV))],[0,1],[]⟩) v11) h (by kernel_rfl) (le_a) (fun v8 r h=>?_) fun v11 h e st' hq=>?_
 ·unfold km9 at h
  refine cd 5 h (fun h=>?_) fun h=>?_
  ·refine ix nS 5 h fun v9 h=>?_
   refine cl 6 h (kin _) (by kernel_rfl) fun v10 h=>?_
   refine cd 2 h (fun h=>?_) fun h=>?_
   ·cases h;exact lo 7 (by kernel_rfl)
   cases h;exact lj 5
  cases h;exact lo 1 (by kernel_rfl)
 rcases v11 with v12 | v13
 ·try simp only [qf,qg] at h
  obtain ⟨rfl,hle⟩:=hq
  refine ⟨_,hle,?_⟩
  cases h;exact lhy 9
 ·try simp only [qf,qg] at h
  obtain ⟨rfl,hle⟩:=hq
  refine ⟨_,hle,?_⟩
  cases h;exact lhy 0
def kkr (a4:List (BA×Int)) (v10:(Int)×(Int)×(Int)×(Int)×(BA)×(List Va)×(BA)×(List BA)) (v11:(Int)×(Int)×(List Int)):Option (((Int)×(Int)×(List Int)) ⊕ (((Int)×(List Int)) ⊕ (Unit))):=(bif (decide (v11.1<(List.length v10.2.2.2.2.2.2.2:Int))) then ((((idx v10.2.2.2.2.2.2.2 v11.1).bind fun v12=>(bif (!(mhas a4 v12)) then (some (.inr ())) else (bif (v11.1 == 0) then (some (.inl ((mget a4 v12 0),v11.2.2))) else ((app 8 v11.2.2 ([(mget a4 v12 0)]:List Int)).bind fun v13=>(some (.inl (v11.2.1,v13))))))):Option (((Int)×(List Int)) ⊕ (Unit))).bind fun (v14:(((Int)×(List Int)) ⊕ (Unit)))=>Sum.elim (fun v15=>(some (.inl ((w64 (v11.1+1)),v15.1,v15.2)))) (fun v16=>(some (.inr (.inr ())))) v14) else (some (.inr (.inl (v11.2.1,v11.2.2)))))
def kje (a0:BA) (a1:List Int) (a2:List Sy) (a3:List Ru) (a4:List (BA×Int)) (a5:BA):Option ((Int)×(List Ru)):=((k7v a5 (⟨#[32,61,32]⟩:BA)).bind fun v1=>((bif (!v1.2.2) then (some (true)) else ((khf v1.1).bind fun v2=>(some (!v2)))).bind fun v4=>(bif v4 then (some (8,a3)) else ((((ki7 v1.2.1).bind fun v5=>(bif v5.2 then (some (.inl (1,v5.1,0,0,(⟨#[]⟩:BA),([]:List Va),(⟨#[]⟩:BA),([v1.1]:List BA)))) else ((kgi v1.2.1).bind fun v6=>(bif (v6.2.2 == 0) then (some (.inl (2,0,v6.1.type,v6.1.num,v6.1.text,v6.1.items,(⟨#[]⟩:BA),([v1.1]:List BA)))) else ((kl1 v1.2.1).bind fun v7=>(bif (!v7.2.2) then (some (.inr ())) else ((app 16 ([v1.1]:List BA) v7.2.1).bind fun v8=>(some (.inl (3,0,0,0,(⟨#[]⟩:BA),([]:List Va),v7.1,v8)))))))))):Option (((Int)×(Int)×(Int)×(Int)×(BA)×(List Va)×(BA)×(List BA)) ⊕ (Unit))).bind fun (v9:(((Int)×(Int)×(Int)×(Int)×(BA)×(List Va)×(BA)×(List BA)) ⊕ (Unit)))=>Sum.elim (fun v10=>((kaa (kkr a4 v10) fuel (0,0,([]:List Int))).bind fun (v17:(((Int)×(List Int)) ⊕ (Unit)))=>Sum.elim (fun v18=>((app 120 a3 ([(Ru.mk v18.1 v10.1 v10.2.1 (Va.mk v10.2.2.1 v10.2.2.2.1 v10.2.2.2.2.1 v10.2.2.2.2.2.1) v10.2.2.2.2.2.2.1 v18.2)]:List (Ru))).bind fun v19=>(some (0,v19)))) (fun v20=>(some (5,a3))) v17)) (fun v21=>(some (8,a3))) v9))))
theorem kpf (a0:BA) (a1:List Int) (a2:List Sy) (a3:List Ru) (a4:List (BA×Int)) (a5:BA) (r:(Int)×(List Ru)) (h:kje a0 a1 a2 a3 a4 a5=some r):kat Tryz.prog 89 ([(.ref 2 0 0),(fS a5)]++[]) [(1,(.glb GV)),(2,(.box 97 [(fS a0),(.row 3 (List.length a1)),(.row 4 (List.length a2)),(.row 5 (List.length a3)),(.mp 6)])),(3,(.frow 3 1 (List.map eI a1))),(4,(.frow 92 2 (List.map eSy a2))),(5,(.frow 45 9 (List.map eRu a3))),(6,(.smap (List.map (fun p=>(p.1,eI p.2)) a4)))] [1,2,3,4,5,6] (.ret (fI r.1)) [(1,(.glb GV)),(2,(.box 97 [(fS a0),(.row 3 (List.length a1)),(.row 4 (List.length a2)),(.row 5 (List.length r.2)),(.mp 6)])),(3,(.frow 3 1 (List.map eI a1))),(4,(.frow 92 2 (List.map eSy a2))),(5,(.frow 45 9 (List.map eRu r.2))),(6,(.smap (List.map (fun p=>(p.1,eI p.2)) a4)))] [1,2,3,4,5,6]:=by
 unfold kje at h
 refine hcx (gi:=0) Tryz.func89 ?_
 intro p0 q0 w0
 obtain ⟨v1,hv1,h⟩:=qi.1 h
 refine nst 7 (n_cut (ts:=#[9,9]) (X:=(.tmp 23)) (Y:=(.const (.string ⟨#[32,61,32]⟩))) (s:=a5) (sep:=(⟨#[32,61,32]⟩:BA)) (v:=v1) (m:=5) (gs:=GV) (id:=1) hv1 ⟨_,Tryz.func46,by kernel_rfl,by kernel_rfl⟩ (by kernel_rfl) (by kernel_rfl) (by kernel_rfl) (by kernel_rfl) (by kernel_rfl)) ?_
 refine jn1 10 .normal (fun v4=>⟨112,[(0,(.ref 2 0 0)),(5,(fS v1.1)),(6,(fS v1.2.1)),(34,(fB v4))],[(0,(.was p0 [1,2,3,4,5,6] q0 w0)),(1,(.glb GV)),(2,(.box 97 [(fS a0),(.row 3 (List.length a1)),(.row 4 (List.length a2)),(.row 5 (List.length a3)),(.mp 6)])),(3,(.frow 3 1 (List.map eI a1))),(4,(.frow 92 2 (List.map eSy a2))),(5,(.frow 45 9 (List.map eRu a3))),(6,(.smap (List.map (fun p=>(p.1,eI p.2)) a4)))],[0,1,2,3,4,5,6],[]⟩) h (fun v4 h=>?_) fun v4 h=>?_
 ·refine gd 4 h (fun h=>?_) fun h=>?_
  ·cases h;exact lj 5
  refine cl 1 h (kin _) (by kernel_rfl) fun v2 h=>?_
  cases h;exact lj 3
 refine cd 0 h (fun h=>?_) fun h=>?_
 ·cases h;exact lhy 5
 refine sst 10 (kut (t:=84) (n:=1) (parts:=#[(0,(.tmp 36))]) (d:=tt84) (e:=9) (de:=tt9) (enc:=eS) (xs:=([v1.1]:List BA)) (id:=8) kb0 (by kernel_rfl) (by kernel_rfl) (by kernel_rfl) (by kernel_rfl) (by kernel_rfl) rfl) (by kernel_rfl) ?_
 refine jnQ 3 (fun v9 e st=>Sum.elim (fun p=>e = .normal∧LeSt st ⟨112,[(0,(.ref 2 0 0)),(8,(.ref 7 0 0)),(9,(.row 8 (List.length (p.2.2.2.2.2.2.2))))],[(0,(.was p0 [1,2,3,4,5,6] q0 w0)),(1,(.glb GV)),(2,(.box 97 [(fS a0),(.row 3 (List.length a1)),(.row 4 (List.length a2)),(.row 5 (List.length a3)),(.mp 6)])),(3,(.frow 3 1 (List.map eI a1))),(4,(.frow 92 2 (List.map eSy a2))),(5,(.frow 45 9 (List.map eRu a3))),(6,(.smap (List.map (fun p=>(p.1,eI p.2)) a4))),(7,(.box 45 [(fI 0),(fI (p.1)),(fI (p.2.1)),(fI (p.2.2.1)),(fI (p.2.2.2.1)),(fS (p.2.2.2.2.1)),(.fz (eL 4 eVaR (p.2.2.2.2.2.1))),(fS (p.2.2.2.2.2.2.1)),(.fz (.atom (.slice none 0 0)))])),(8,(.frow 9 1 (List.map eS (p.2.2.2.2.2.2.2))))],[8,7,0,1,2,3,4,5,6],[]⟩) (fun p=>e = .ret∧LeSt st ⟨112,[(4,(fI 8))],[(0,(.was p0 [1,2,3,4,5,6] q0 w0)),(1,(.glb GV)),(2,(.box 97 [(fS a0),(.row 3 (List.length a1)),(.row 4 (List.length a2)),(.row 5 (List.length a3)),(.mp 6)])),(3,(.frow 3 1 (List.map eI a1))),(4,(.frow 92 2 (List.map eSy a2))),(5,(.frow 45 9 (List.map eRu a3))),(6,(.smap (List.map (fun p=>(p.1,eI p.2)) a4)))],[0,1,2,3,4,5,6],[]⟩) v9) h (fun v9 h=>?_) fun v9 h e st' hq=>?_
 ·refine cl 3 h (kp5 _) (by kernel_rfl) fun v5 h=>?_
  refine cd 10 h (fun h=>?_) fun h=>?_
  ·cases h;exact lj 5
  refine cl 3 h (kkz _) (by kernel_rfl) fun v6 h=>?_
  refine cd 14 h (fun h=>?_) fun h=>?_
  ·refine dz 0 3 [2] [7] (List.range 10) (by kernel_rfl) ?_
   cases h;exact lj 7
  refine hcl 3 [.one .keep] [(1,1)] [(1,1)] [1] h (ksu _) (fun _=>by kernel_rfl) fun v7 h=>?_
  refine cd 14 h (fun h=>?_) fun h=>?_
  ·cases h;exact lj 5
  refine ap nS 12 h fun v8 h=>?_
  cases h;exact lj 2
 rcases v9 with v10 | v21
 ·try simp only [qf,qg] at h
  obtain ⟨rfl,hle⟩:=hq
  refine ⟨_,hle,?_⟩
  refine nst 4 (kj0 (t:=84) (x:=(.tmp 71)) (d:=tt84) (id:=8) (e2:=9) (e:=9) (size:=1) (n:=List.length v10.2.2.2.2.2.2.2) (xs:=List.map eS v10.2.2.2.2.2.2.2) kb0 (by kernel_rfl) (by kernel_rfl) rfl (by kernel_rfl) (by kernel_rfl) (by simp)) ?_
  refine wle 3 (ket (e2:=45) (e:=3) (size:=1) (id2:=7) (j:=8) (id:=9) (cells:=[(fI 0),(fI v10.1),(fI v10.2.1),(fI v10.2.2.1),(fI v10.2.2.2.1),(fS v10.2.2.2.2.1),(.fz (eL 4 eVaR v10.2.2.2.2.2.1)),(fS v10.2.2.2.2.2.2.1),(.fz (.atom (.slice none 0 0)))])) ?_
  refine lpx 0 (fun v11=>⟨112,[(0,(.ref 2 0 0)),(8,(.ref 7 0 0)),(71,(.row 8 (List.length v10.2.2.2.2.2.2.2))),(72,(fI (List.length v10.2.2.2.2.2.2.2:Int))),(73,(fI v11.1))],[(0,(.was p0 [1,2,3,4,5,6] q0 w0)),(1,(.glb GV)),(2,(.box 97 [(fS a0),(.row 3 (List.length a1)),(.row 4 (List.length a2)),(.row 5 (List.length a3)),(.mp 6)])),(3,(.frow 3 1 (List.map eI a1))),(4,(.frow 92 2 (List.map eSy a2))),(5,(.frow 45 9 (List.map eRu a3))),(6,(.smap (List.map (fun p=>(p.1,eI p.2)) a4))),(7,(.box 45 [(fI v11.2.1),(fI v10.1),(fI v10.2.1),(fI v10.2.2.1),(fI v10.2.2.2.1),(fS v10.2.2.2.2.1),(.fz (eL 4 eVaR v10.2.2.2.2.2.1)),(fS v10.2.2.2.2.2.2.1),(.row 9 (List.length v11.2.2))])),(8,(.frow 9 1 (List.map eS v10.2.2.2.2.2.2.2))),(9,(.frow 3 1 (List.map eI v11.2.2)))],[9,8,7,0,1,2,3,4,5,6],[]⟩) (fun v17 e st=>Sum.elim (fun p=>e = .exit 0∧LeSt st ⟨112,[(0,(.ref 2 0 0)),(8,(.ref 7 0 0))],[(0,(.was p0 [1,2,3,4,5,6] q0 w0)),(1,(.glb GV)),(2,(.box 97 [(fS a0),(.row 3 (List.length a1)),(.row 4 (List.length a2)),(.row 5 (List.length a3)),(.mp 6)])),(3,(.frow 3 1 (List.map eI a1))),(4,(.frow 92 2 (List.map eSy a2))),(5,(.frow 45 9 (List.map eRu a3))),(6,(.smap (List.map (fun p=>(p.1,eI p.2)) a4))),(7,(.box 45 [(fI (p.1)),(fI v10.1),(fI v10.2.1),(fI v10.2.2.1),(fI v10.2.2.2.1),(fS v10.2.2.2.2.1),(.fz (eL 4 eVaR v10.2.2.2.2.2.1)),(fS v10.2.2.2.2.2.2.1),(.row 9 (List.length (p.2)))])),(9,(.frow 3 1 (List.map eI (p.2))))],[9,7,0,1,2,3,4,5,6],[]⟩) (fun p=>e = .ret∧LeSt st ⟨112,[(4,(fI 5))],[(0,(.was p0 [1,2,3,4,5,6] q0 w0)),(1,(.glb GV)),(2,(.box 97 [(fS a0),(.row 3 (List.length a1)),(.row 4 (List.length a2)),(.row 5 (List.length a3)),(.mp 6)])),(3,(.frow 3 1 (List.map eI a1))),(4,(.frow 92 2 (List.map eSy a2))),(5,(.frow 45 9 (List.map eRu a3))),(6,(.smap (List.map (fun p=>(p.1,eI p.2)) a4)))],[0,1,2,3,4,5,6],[]⟩) v17) h (by kernel_rfl) (le_a) (fun v11 r h=>?_) fun v17 h e st' hq=>?_
  ·unfold kkr at h
   refine cd 5 h (fun h=>?_) fun h=>?_
   ·refine jnQ 3 (fun v14 e st=>Sum.elim (fun p=>e = .normal∧LeSt st ⟨112,[(0,(.ref 2 0 0)),(8,(.ref 7 0 0)),(71,(.row 8 (List.length v10.2.2.2.2.2.2.2))),(72,(fI (List.length v10.2.2.2.2.2.2.2:Int))),(73,(fI v11.1))],[(0,(.was p0 [1,2,3,4,5,6] q0 w0)),(1,(.glb GV)),(2,(.box 97 [(fS a0),(.row 3 (List.length a1)),(.row 4 (List.length a2)),(.row 5 (List.length a3)),(.mp 6)])),(3,(.frow 3 1 (List.map eI a1))),(4,(.frow 92 2 (List.map eSy a2))),(5,(.frow 45 9 (List.map eRu a3))),(6,(.smap (List.map (fun p=>(p.1,eI p.2)) a4))),(7,(.box 45 [(fI (p.1)),(fI v10.1),(fI v10.2.1),(fI v10.2.2.1),(fI v10.2.2.2.1),(fS v10.2.2.2.2.1),(.fz (eL 4 eVaR v10.2.2.2.2.2.1)),(fS v10.2.2.2.2.2.2.1),(.row 9 (List.length (p.2)))])),(8,(.frow 9 1 (List.map eS v10.2.2.2.2.2.2.2))),(9,(.frow 3 1 (List.map eI (p.2))))],[9,8,7,0,1,2,3,4,5,6],[]⟩) (fun p=>e = .ret∧LeSt st ⟨112,[(4,(fI 5))],[(0,(.was p0 [1,2,3,4,5,6] q0 w0)),(1,(.glb GV)),(2,(.box 97 [(fS a0),(.row 3 (List.length a1)),(.row 4 (List.length a2)),(.row 5 (List.length a3)),(.mp 6)])),(3,(.frow 3 1 (List.map eI a1))),(4,(.frow 92 2 (List.map eSy a2))),(5,(.frow 45 9 (List.map eRu a3))),(6,(.smap (List.map (fun p=>(p.1,eI p.2)) a4)))],[0,1,2,3,4,5,6],[]⟩) v14) h (fun v14 h=>?_) fun v14 h e st' hq=>?_
    ·obtain ⟨v12,hv12,h⟩:=qi.1 h
     refine nst 3 (kab0 (t:=84) (X:=(.tmp 71)) (Y:=(.tmp 73)) (id:=8) (k := .i64) (d:=tt84) (e:=9) (de:=tt9) (enc:=eS) (xs:=v10.2.2.2.2.2.2.2) (n:=List.length v10.2.2.2.2.2.2.2) hv12 kb0 (by kernel_rfl) (by kernel_rfl) (by kernel_rfl) (by kernel_rfl) (by kernel_rfl) (by kernel_rfl) (by kernel_rfl) rfl) ?_
     refine nst 0 (kact (t:=9) (X:=(.tmp 76)) (id:=8) (d:=tt9) (enc:=eS) (xs:=v10.2.2.2.2.2.2.2) (x:=v12) (i:=v11.1) (n:=List.length v10.2.2.2.2.2.2.2) hv12 kb0 (by kernel_rfl) (by kernel_rfl) (by kernel_rfl) (by kernel_rfl) (by kernel_rfl) rfl (fun _=>rfl)) ?_
     refine nst 10 (k05 (t:=95) (x:=(.tmp 82)) (y:=(.tmp 83)) (enc:=eI) (m:=a4) (s:=v12) (z:=0) (id:=6) (d:=tt95) (kt:=9) (et:=3) (kd:=tt9) (.int .i64 0) (by kernel_rfl) kb0 rfl (by kernel_rfl) rfl (by kernel_rfl) Tryz.t3 (by kernel_rfl) (by kernel_rfl) (by kernel_rfl) rfl) ?_
     refine cd 12 h (fun h=>?_) fun h=>?_
     ·cases h;exact lj 5
     refine cd 6 h (fun h=>?_) fun h=>?_
     ·cases h;exact lj 5
     refine ap nI 5 h fun v13 h=>?_
     cases h;exact lj 3
    rcases v14 with v15 | v16
    ·try simp only [qf,qg] at h
     obtain ⟨rfl,hle⟩:=hq
     refine ⟨_,hle,?_⟩
     cases h;exact lj 4
    ·try simp only [qf,qg] at h
     obtain ⟨rfl,hle⟩:=hq
     refine ⟨_,hle,?_⟩
     cases h;exact lo 0 (by kernel_rfl)
   cases h;exact lo 1 (by kernel_rfl)
  rcases v17 with v18 | v20
  ·try simp only [qf,qg] at h
   obtain ⟨rfl,hle⟩:=hq
   refine ⟨_,hle,?_⟩
   refine wle 1 (kjs (e2:=45) (id2:=7) (j:=8) (id:=9) (n:=List.length v18.2) (e:=3) (size:=1) (xs:=List.map eI v18.2) (cells:=[(fI v18.1),(fI v10.1),(fI v10.2.1),(fI v10.2.2.1),(fI v10.2.2.2.1),(fS v10.2.2.2.2.1),(.fz (eL 4 eVaR v10.2.2.2.2.2.1)),(fS v10.2.2.2.2.2.2.1),(.row 9 (List.length v18.2))]) (by kernel_rfl) (by kernel_rfl) (by kernel_rfl) (by simp)) ?_
   refine dz 0 9 [8] [5] (List.range 10) (by kernel_rfl) ?_
   refine apZ nRu 8 h (by kernel_rfl) (by kernel_rfl) (fun _=>by kernel_rfl) fun v19 h=>?_
   cases h;exact lhy 11
  ·try simp only [qf,qg] at h
   obtain ⟨rfl,hle⟩:=hq
   refine ⟨_,hle,?_⟩
   cases h;exact lhy 0
 ·try simp only [qf,qg] at h
  obtain ⟨rfl,hle⟩:=hq
  refine ⟨_,hle,?_⟩
  cases h;exact lhy 0
def kko (v3:List BA) (v7:(Int)×(List Int)):Option (((Int)×(List Int)) ⊕ ((List Int) ⊕ (List Int))):=(bif (decide (v7.1<(List.length v3:Int))) then ((idx v3 v7.1).bind fun v8=>((klo v8).bind fun v9=>(bif (!v9.2) then (some (.inr (.inr v7.2))) else ((app 8 v7.2 ([v9.1]:List Int)).bind fun v10=>(some (.inl ((w64 (v7.1+1)),v10))))))) else (some (.inr (.inl v7.2))))
def kjb (a0:BA) (a1:List Int) (a2:List Sy) (a3:List Ru) (a4:List (BA×Int)) (a5:Int) (a6:BA):Option ((Int)×(BA)×(List Int)×(List Sy)×(List Ru)×(List (BA×Int))):=((strings_Cut a6 (⟨#[32]⟩:BA)).bind fun v1=>((kw4 a6 (⟨#[32]⟩:BA)).bind fun v2=>((cutL v2 1 (List.length v2)).bind fun v3=>(((bif (a5 == 1) then ((bif (!(v1.1.toList == (⟨#[108,97,110,103,117,97,103,101]⟩:BA).toList)) then (some (true)) else ((khf v1.2.1).bind fun v4=>(some (!v4)))).bind fun v6=>(bif v6 then (some (.inr (8,a1,a3))) else (some (.inl (v1.2.1,a1,a2,a4))))) else (bif (a5 == 2) then (bif (!(v1.1.toList == (⟨#[105,110,112,117,116,115]⟩:BA).toList)) then (some (.inr (8,a1,a3))) else ((kaa (kko v3) fuel (0,a1)).bind fun (v11:((List Int) ⊕ (List Int)))=>Sum.elim (fun v12=>(some (.inl (a0,v12,a2,a4)))) (fun v13=>(some (.inr (8,v13,a3)))) v11)) else ((bif (v1.1.toList == (⟨#[115,121,109,98,111,108]⟩:BA).toList) then (some ((List.length a3:Int) == 0)) else (some (false))).bind fun v15=>(bif v15 then ((bif ((List.length v3:Int) != 2) then (some (true)) else ((idx v3 0).bind fun v16=>((khf v16).bind fun v17=>(some (!v17))))).bind fun v19=>(bif v19 then (some (.inr (8,a1,a3))) else ((idx v3 1).bind fun v20=>((klo v20).bind fun v21=>(bif (!v21.2) then (some (.inr (8,a1,a3))) else ((((idx v3 0).bind fun v22=>(bif (!(mhas a4 v22)) then ((idx v3 0).bind fun v23=>(some (mput a4 v23 (List.length a2:Int)))) else (some a4))):Option (List (BA×Int))).bind fun (v25:(List (BA×Int)))=>((idx v3 0).bind fun v26=>((app 24 a2 ([(Sy.mk v26 v21.1)]:List (Sy))).bind fun v27=>(some (.inl (a0,a1,v27,v25))))))))))) else (bif (v1.1.toList == (⟨#[114,117,108,101]⟩:BA).toList) then ((kje a0 a1 a2 a3 a4 v1.2.1).bind fun v28=>(some (.inr (v28.1,a1,v28.2)))) else (some (.inr (8,a1,a3)))))))):Option (((BA)×(List Int)×(List Sy)×(List (BA×Int))) ⊕ ((Int)×(List Int)×(List Ru)))).bind fun (v29:(((BA)×(List Int)×(List Sy)×(List (BA×Int))) ⊕ ((Int)×(List Int)×(List Ru))))=>Sum.elim (fun v30=>(some (0,v30.1,v30.2.1,v30.2.2.1,a3,v30.2.2.2))) (fun v31=>(some (v31.1,a0,v31.2.1,a2,v31.2.2,a4))) v29))))
theorem kpo (a0:BA) (a1:List Int) (a2:List Sy) (a3:List Ru) (a4:List (BA×Int)) (a5:Int) (a6:BA) (r:(Int)×(BA)×(List Int)×(List Sy)×(List Ru)×(List (BA×Int))) (h:kjb a0 a1 a2 a3 a4 a5 a6=some r):kat Tryz.prog 47 ([(.ref 2 0 0),(fI a5),(fS a6)]++[]) [(1,(.glb GV)),(2,(.box 97 [(fS a0),(.row 3 (List.length a1)),(.row 4 (List.length a2)),(.row 5 (List.length a3)),(.mp 6)])),(3,(.frow 3 1 (List.map eI a1))),(4,(.frow 92 2 (List.map eSy a2))),(5,(.frow 45 9 (List.map eRu a3))),(6,(.smap (List.map (fun p=>(p.1,eI p.2)) a4)))] [1,2,3,4,5,6] (.ret (fI r.1)) [(1,(.glb GV)),(2,(.box 97 [(fS r.2.1),(.row 3 (List.length r.2.2.1)),(.row 4 (List.length r.2.2.2.1)),(.row 5 (List.length r.2.2.2.2.1)),(.mp 6)])),(3,(.frow 3 1 (List.map eI r.2.2.1))),(4,(.frow 92 2 (List.map eSy r.2.2.2.1))),(5,(.frow 45 9 (List.map eRu r.2.2.2.2.1))),(6,(.smap (List.map (fun p=>(p.1,eI p.2)) r.2.2.2.2.2)))] [1,2,3,4,5,6]:=by
 unfold kjb at h
 refine hcx (gi:=0) Tryz.func47 ?_
 intro p0 q0 w0
 refine cl 7 h (kl4 _ _) (by kernel_rfl) fun v1 h=>?_
 obtain ⟨v2,hv2,h⟩:=qi.1 h
 refine nst 11 (k7n (ts:=#[9,9]) (X:=(.tmp 25)) (Y:=(.const (.string ⟨#[32]⟩))) (s:=a6) (sep:=(⟨#[32]⟩:BA)) (v:=v2) (m:=5) (gs:=GV) (id:=1) hv2 ⟨_,Tryz.func86,by kernel_rfl,by kernel_rfl⟩ (by kernel_rfl) (by kernel_rfl) (by kernel_rfl) (by kernel_rfl) (by kernel_rfl)) ?_
 obtain ⟨v3,hv3,h⟩:=qi.1 h
 refine nst 0 (kabq (t:=84) (x:=(.tmp 26)) (lo:=(some (.const (.int .i64 1)))) (hi:=none) (d:=tt84) (e:=9) (de:=tt9) (size:=1) (enc:=eS) (xs:=v2) (l:=(some 1)) (h:=none) hv3 kb0) ?_
 refine jnQ 4 (fun v29 e st=>Sum.elim (fun p=>e = .normal∧LeSt st ⟨153,[],[(0,(.was p0 [1,2,3,4,5,6] q0 w0)),(1,(.glb GV)),(2,(.box 97 [(fS (p.1)),(.row 3 (List.length (p.2.1))),(.row 4 (List.length (p.2.2.1))),(.row 5 (List.length a3)),(.mp 6)])),(3,(.frow 3 1 (List.map eI (p.2.1)))),(4,(.frow 92 2 (List.map eSy (p.2.2.1)))),(5,(.frow 45 9 (List.map eRu a3))),(6,(.smap (List.map (fun p=>(p.1,eI p.2)) (p.2.2.2))))],[0,1,2,3,4,5,6],[]⟩) (fun p=>e = .ret∧LeSt st ⟨153,[(6,(fI (p.1)))],[(0,(.was p0 [1,2,3,4,5,6] q0 w0)),(1,(.glb GV)),(2,(.box 97 [(fS a0),(.row 3 (List.length (p.2.1))),(.row 4 (List.length a2)),(.row 5 (List.length (p.2.2))),(.mp 6)])),(3,(.frow 3 1 (List.map eI (p.2.1)))),(4,(.frow 92 2 (List.map eSy a2))),(5,(.frow 45 9 (List.map eRu (p.2.2)))),(6,(.smap (List.map (fun p=>(p.1,eI p.2)) a4)))],[0,1,2,3,4,5,6],[]⟩) v29) h (fun v29 h=>?_) fun v29 h e st' hq=>?_
 ·refine cd 6 h (fun h=>?_) fun h=>?_
  ·refine jn1 2 .normal (fun v6=>⟨153,[(0,(.ref 2 0 0)),(8,(fS v1.2.1)),(37,(fB v6))],[(0,(.was p0 [1,2,3,4,5,6] q0 w0)),(1,(.glb GV)),(2,(.box 97 [(fS a0),(.row 3 (List.length a1)),(.row 4 (List.length a2)),(.row 5 (List.length a3)),(.mp 6)])),(3,(.frow 3 1 (List.map eI a1))),(4,(.frow 92 2 (List.map eSy a2))),(5,(.frow 45 9 (List.map eRu a3))),(6,(.smap (List.map (fun p=>(p.1,eI p.2)) a4)))],[0,1,2,3,4,5,6],[]⟩) h (fun v6 h=>?_) fun v6 h=>?_
   ·refine gd 4 h (fun h=>?_) fun h=>?_
    ·cases h;exact lj 5
    refine cl 1 h (kin _) (by kernel_rfl) fun v4 h=>?_
    cases h;exact lj 3
   refine cd 0 h (fun h=>?_) fun h=>?_
   ·cases h;exact lj 5
   cases h;exact lj 9
  refine cd 6 h (fun h=>?_) fun h=>?_
  ·refine cd 6 h (fun h=>?_) fun h=>?_
   ·cases h;exact lj 5
   refine lpx 8 (fun v7=>⟨153,[(0,(.ref 2 0 0)),(48,(.fz (eL 1 eS v3))),(49,(fI (List.length v3:Int))),(50,(fI v7.1))],[(0,(.was p0 [1,2,3,4,5,6] q0 w0)),(1,(.glb GV)),(2,(.box 97 [(fS a0),(.row 3 (List.length v7.2)),(.row 4 (List.length a2)),(.row 5 (List.length a3)),(.mp 6)])),(3,(.frow 3 1 (List.map eI v7.2))),(4,(.frow 92 2 (List.map eSy a2))),(5,(.frow 45 9 (List.map eRu a3))),(6,(.smap (List.map (fun p=>(p.1,eI p.2)) a4)))],[0,1,2,3,4,5,6],[]⟩) (fun v11 e st=>Sum.elim (fun p=>e = .exit 1∧LeSt st ⟨153,[],[(0,(.was p0 [1,2,3,4,5,6] q0 w0)),(1,(.glb GV)),(2,(.box 97 [(fS a0),(.row 3 (List.length (p))),(.row 4 (List.length a2)),(.row 5 (List.length a3)),(.mp 6)])),(3,(.frow 3 1 (List.map eI (p)))),(4,(.frow 92 2 (List.map eSy a2))),(5,(.frow 45 9 (List.map eRu a3))),(6,(.smap (List.map (fun p=>(p.1,eI p.2)) a4)))],[0,1,2,3,4,5,6],[]⟩) (fun p=>e = .ret∧LeSt st ⟨153,[(6,(fI 8))],[(0,(.was p0 [1,2,3,4,5,6] q0 w0)),(1,(.glb GV)),(2,(.box 97 [(fS a0),(.row 3 (List.length (p))),(.row 4 (List.length a2)),(.row 5 (List.length a3)),(.mp 6)])),(3,(.frow 3 1 (List.map eI (p)))),(4,(.frow 92 2 (List.map eSy a2))),(5,(.frow 45 9 (List.map eRu a3))),(6,(.smap (List.map (fun p=>(p.1,eI p.2)) a4)))],[0,1,2,3,4,5,6],[]⟩) v11) h (by kernel_rfl) (le_a) (fun v7 r h=>?_) fun v11 h e st' hq=>?_
   ·unfold kko at h
    refine cd 5 h (fun h=>?_) fun h=>?_
    ·refine ix nS 5 h fun v8 h=>?_
     refine cl 6 h (kpb _) (by kernel_rfl) fun v9 h=>?_
     refine cd 12 h (fun h=>?_) fun h=>?_
     ·cases h;exact lo 5 (by kernel_rfl)
     refine ap nI 10 h fun v10 h=>?_
     cases h;exact lj 9
    cases h;exact lo 1 (by kernel_rfl)
   rcases v11 with v12 | v13
   ·try simp only [qf,qg] at h
    obtain ⟨rfl,hle⟩:=hq
    refine ⟨_,hle,?_⟩
    cases h;exact lj 0
   ·try simp only [qf,qg] at h
    obtain ⟨rfl,hle⟩:=hq
    refine ⟨_,hle,?_⟩
    cases h;exact lj 0
  refine jn1 1 .normal (fun v15=>⟨153,[(0,(.ref 2 0 0)),(7,(fS v1.1)),(8,(fS v1.2.1)),(10,(.fz (eL 1 eS v3))),(74,(fB v15))],[(0,(.was p0 [1,2,3,4,5,6] q0 w0)),(1,(.glb GV)),(2,(.box 97 [(fS a0),(.row 3 (List.length a1)),(.row 4 (List.length a2)),(.row 5 (List.length a3)),(.mp 6)])),(3,(.frow 3 1 (List.map eI a1))),(4,(.frow 92 2 (List.map eSy a2))),(5,(.frow 45 9 (List.map eRu a3))),(6,(.smap (List.map (fun p=>(p.1,eI p.2)) a4)))],[0,1,2,3,4,5,6],[]⟩) h (fun v15 h=>?_) fun v15 h=>?_
  ·refine gd 4 h (fun h=>?_) fun h=>?_
   ·refine nst 5 (kj0 (t:=24) (x:=(.tmp 82)) (d:=tt24) (id:=5) (e2:=45) (e:=45) (size:=9) (n:=List.length a3) (xs:=List.map eRu a3) kb0 (by kernel_rfl) (by kernel_rfl) rfl (by kernel_rfl) (by kernel_rfl) (by simp)) ?_
    cases h;exact lj 4
   cases h;exact lj 10
  refine cd 0 h (fun h=>?_) fun h=>?_
  ·refine jn1 2 .normal (fun v19=>⟨153,[(0,(.ref 2 0 0)),(10,(.fz (eL 1 eS v3))),(95,(fB v19))],[(0,(.was p0 [1,2,3,4,5,6] q0 w0)),(1,(.glb GV)),(2,(.box 97 [(fS a0),(.row 3 (List.length a1)),(.row 4 (List.length a2)),(.row 5 (List.length a3)),(.mp 6)])),(3,(.frow 3 1 (List.map eI a1))),(4,(.frow 92 2 (List.map eSy a2))),(5,(.frow 45 9 (List.map eRu a3))),(6,(.smap (List.map (fun p=>(p.1,eI p.2)) a4)))],[0,1,2,3,4,5,6],[]⟩) h (fun v19 h=>?_) fun v19 h=>?_
   ·refine gd 5 h (fun h=>?_) fun h=>?_
    ·cases h;exact lj 7
    refine ix nS 1 h fun v16 h=>?_
    refine cl 1 h (kin _) (by kernel_rfl) fun v17 h=>?_
    cases h;exact lj 3
   refine cd 0 h (fun h=>?_) fun h=>?_
   ·cases h;exact lj 5
   refine ix nS 4 h fun v20 h=>?_
   refine cl 1 h (kpb _) (by kernel_rfl) fun v21 h=>?_
   refine cd 12 h (fun h=>?_) fun h=>?_
   ·cases h;exact lj 5
   refine jn1 2 .normal (fun v25=>⟨153,[(0,(.ref 2 0 0)),(10,(.fz (eL 1 eS v3))),(15,(fI v21.1))],[(0,(.was p0 [1,2,3,4,5,6] q0 w0)),(1,(.glb GV)),(2,(.box 97 [(fS a0),(.row 3 (List.length a1)),(.row 4 (List.length a2)),(.row 5 (List.length a3)),(.mp 6)])),(3,(.frow 3 1 (List.map eI a1))),(4,(.frow 92 2 (List.map eSy a2))),(5,(.frow 45 9 (List.map eRu a3))),(6,(.smap (List.map (fun p=>(p.1,eI p.2)) v25)))],[0,1,2,3,4,5,6],[]⟩) h (fun v25 h=>?_) fun v25 h=>?_
   ·refine dw 1 12 ?_
    refine ix nS 5 h fun v22 h=>?_
    refine nst 1 (k05 (t:=95) (x:=(.tmp 109)) (y:=(.tmp 112)) (enc:=eI) (m:=a4) (s:=v22) (z:=0) (id:=6) (d:=tt95) (kt:=9) (et:=3) (kd:=tt9) (.int .i64 0) (by kernel_rfl) kb0 rfl (by kernel_rfl) rfl (by kernel_rfl) Tryz.t3 (by kernel_rfl) (by kernel_rfl) (by kernel_rfl) rfl) ?_
    refine cd 12 h (fun h=>?_) fun h=>?_
    ·refine dw 0 13 ?_
     refine ix nS 5 h fun v23 h=>?_
     refine nst 6 (kj0 (t:=23) (x:=(.tmp 129)) (d:=tt23) (id:=4) (e2:=92) (e:=92) (size:=2) (n:=List.length a2) (xs:=List.map eSy a2) kb0 (by kernel_rfl) (by kernel_rfl) rfl (by kernel_rfl) (by kernel_rfl) (by simp)) ?_
     refine sst 1 (kxk (t:=95) (x:=(.tmp 121)) (y:=(.tmp 124)) (v:=(.tmp 130)) (enc:=eI) (m:=a4) (s:=v23) (z:=(List.length a2:Int)) (id:=6) (d:=tt95) (kt:=9) (et:=3) (kd:=tt9) (by kernel_rfl) kb0 rfl (by kernel_rfl) rfl) (by kernel_rfl) ?_
     cases h;exact lj 1
    cases h;exact lj 1
   refine dz 0 13 [12] [4] (List.range 7) (by kernel_rfl) ?_
   refine ix nS 7 h fun v26 h=>?_
   refine apZ nSy 4 h (by kernel_rfl) (by kernel_rfl) (fun _=>by kernel_rfl) fun v27 h=>?_
   cases h;exact lj 6
  refine cd 6 h (fun h=>?_) fun h=>?_
  ·refine hcl 4 [.one .keep, .one .keep] [(1,1),(2,2),(3,3),(4,4),(5,5),(6,6)] [(1,1),(2,2),(3,3),(4,4),(5,5),(6,6)] [1,2,3,4,5,6] h (kpf _ _ _ _ _ _) (fun _=>by kernel_rfl) fun v28 h=>?_
   cases h;exact lj 3
  cases h;exact lj 5
 rcases v29 with v30 | v31
 ·try simp only [qf,qg] at h
  obtain ⟨rfl,hle⟩:=hq
  refine ⟨_,hle,?_⟩
  cases h;exact lhy 5
 ·try simp only [qf,qg] at h
  obtain ⟨rfl,hle⟩:=hq
  refine ⟨_,hle,?_⟩
  cases h;exact lhy 0
def kkk (v1:(BA)×(Int)×(BA)×(List Int)×(List Sy)×(List Ru)×(List (BA×Int))):Option (((BA)×(Int)×(BA)×(List Int)×(List Sy)×(List Ru)×(List (BA×Int))) ⊕ (((Int)×(BA)×(List Int)×(List Sy)×(List Ru)×(List (BA×Int))) ⊕ ((Int)×(Int)))):=(bif (!(v1.1.toList == (⟨#[]⟩:BA).toList)) then ((strings_Cut v1.1 (⟨#[10]⟩:BA)).bind fun v2=>(bif (!v2.2.2) then (some (.inr (.inr ((w64 (v1.2.1+1)),8)))) else ((kjb v1.2.2.1 v1.2.2.2.1 v1.2.2.2.2.1 v1.2.2.2.2.2.1 v1.2.2.2.2.2.2 (w64 (v1.2.1+1)) v2.1).bind fun v3=>(bif (v3.1 != 0) then (some (.inr (.inr ((w64 (v1.2.1+1)),v3.1)))) else (some (.inl (v2.2.1,(w64 (v1.2.1+1)),v3.2.1,v3.2.2.1,v3.2.2.2.1,v3.2.2.2.2.1,v3.2.2.2.2.2))))))) else (some (.inr (.inl (v1.2.1,v1.2.2.1,v1.2.2.2.1,v1.2.2.2.2.1,v1.2.2.2.2.2.1,v1.2.2.2.2.2.2)))))
def kir (a0:BA):Option ((Int)×(Int)×(BA)×(List Int)×(List Sy)×(List Ru)):=(bif (decide (65536<(a0.size:Int))) then (some (0,2,(⟨#[]⟩:BA),([]:List Int),([]:List Sy),([]:List Ru))) else ((kaa (kkk) fuel (a0,0,(⟨#[]⟩:BA),([]:List Int),([]:List (Sy)),([]:List (Ru)),([]:List (BA×Int)))).bind fun (v4:(((Int)×(BA)×(List Int)×(List Sy)×(List Ru)×(List (BA×Int))) ⊕ ((Int)×(Int))))=>Sum.elim (fun v5=>(bif (decide (v5.1<2)) then (some ((w64 (v5.1+1)),8,(⟨#[]⟩:BA),([]:List Int),([]:List Sy),([]:List Ru))) else ((kdr (La.mk v5.2.1 v5.2.2.1 v5.2.2.2.1 v5.2.2.2.2.1)).bind fun v6=>(bif (v6 != 0) then (some (0,v6,(⟨#[]⟩:BA),([]:List Int),([]:List Sy),([]:List Ru))) else (some (0,0,v5.2.1,v5.2.2.1,v5.2.2.2.1,v5.2.2.2.2.1)))))) (fun v7=>(some (v7.1,v7.2,(⟨#[]⟩:BA),([]:List Int),([]:List Sy),([]:List Ru)))) v4))
theorem kop (a0:BA) (r:(Int)×(Int)×(BA)×(List Int)×(List Sy)×(List Ru)) (h:kir a0=some r):kat Tryz.prog 20 ([(fS a0)]++[]) [(1,(.glb GV))] [1] (.ret (.fz (.tup [(.agg [(eS r.2.2.1),(eL 1 eI r.2.2.2.1),(eL 2 eSy r.2.2.2.2.1),(eL 9 eRu r.2.2.2.2.2)]),(eI r.1),(eI r.2.1)]))) [(1,(.glb GV)),(2,(.box 26 [(fS r.2.2.1),(.fz (eL 1 eI r.2.2.2.1)),(.fz (eL 2 eSy r.2.2.2.2.1)),(.fz (eL 9 eRu r.2.2.2.2.2))]))] [1,2]:=by
 unfold kir at h
 refine hcx (gi:=0) Tryz.func20 ?_
 intro p0 q0 w0
 refine cd 13 h (fun h=>?_) fun h=>?_
 ·cases h;exact lhy 8
 refine sst 3 (k1l (t:=95) (id:=3)) (by kernel_rfl) ?_
 refine wle 10 (ket (e2:=97) (e:=3) (size:=1) (id2:=4) (j:=1) (id:=5) (cells:=[(fS (⟨#[]⟩:BA)),(.fz (.atom (.slice none 0 0))),(.fz (.atom (.slice none 0 0))),(.fz (.atom (.slice none 0 0))),(.mp 3)])) ?_
 refine wle 0 (ket (e2:=97) (e:=92) (size:=2) (id2:=4) (j:=2) (id:=6) (cells:=[(fS (⟨#[]⟩:BA)),(.row 5 (List.length ([]:List Int))),(.fz (.atom (.slice none 0 0))),(.fz (.atom (.slice none 0 0))),(.mp 3)])) ?_
 refine wle 0 (ket (e2:=97) (e:=45) (size:=9) (id2:=4) (j:=3) (id:=7) (cells:=[(fS (⟨#[]⟩:BA)),(.row 5 (List.length ([]:List Int))),(.row 6 (List.length ([]:List (Sy)))),(.fz (.atom (.slice none 0 0))),(.mp 3)])) ?_
 refine lpx 0 (fun v1=>⟨61,[(0,(fS v1.1)),(2,(.ref 2 0 0)),(5,(.ref 4 0 0)),(6,(fI v1.2.1))],[(0,(.was p0 [1] q0 w0)),(1,(.glb GV)),(2,(.box 26 [(fS (⟨#[]⟩:BA)),(.fz (.atom (.slice none 0 0))),(.fz (.atom (.slice none 0 0))),(.fz (.atom (.slice none 0 0)))])),(3,(.smap (List.map (fun p=>(p.1,eI p.2)) v1.2.2.2.2.2.2))),(4,(.box 97 [(fS v1.2.2.1),(.row 5 (List.length v1.2.2.2.1)),(.row 6 (List.length v1.2.2.2.2.1)),(.row 7 (List.length v1.2.2.2.2.2.1)),(.mp 3)])),(5,(.frow 3 1 (List.map eI v1.2.2.2.1))),(6,(.frow 92 2 (List.map eSy v1.2.2.2.2.1))),(7,(.frow 45 9 (List.map eRu v1.2.2.2.2.2.1)))],[7,6,5,4,3,2,0,1],[]⟩) (fun v4 e st=>Sum.elim (fun p=>e = .exit 0∧LeSt st ⟨61,[(2,(.ref 2 0 0)),(5,(.ref 4 0 0)),(6,(fI (p.1)))],[(0,(.was p0 [1] q0 w0)),(1,(.glb GV)),(2,(.box 26 [(fS (⟨#[]⟩:BA)),(.fz (.atom (.slice none 0 0))),(.fz (.atom (.slice none 0 0))),(.fz (.atom (.slice none 0 0)))])),(3,(.smap (List.map (fun p=>(p.1,eI p.2)) (p.2.2.2.2.2)))),(4,(.box 97 [(fS (p.2.1)),(.row 5 (List.length (p.2.2.1))),(.row 6 (List.length (p.2.2.2.1))),(.row 7 (List.length (p.2.2.2.2.1))),(.mp 3)])),(5,(.frow 3 1 (List.map eI (p.2.2.1)))),(6,(.frow 92 2 (List.map eSy (p.2.2.2.1)))),(7,(.frow 45 9 (List.map eRu (p.2.2.2.2.1))))],[7,6,5,4,3,2,0,1],[]⟩) (fun p=>e = .ret∧LeSt st ⟨61,[(2,(.ref 2 0 0)),(3,(fI (p.1))),(4,(fI (p.2)))],[(0,(.was p0 [1] q0 w0)),(1,(.glb GV)),(2,(.box 26 [(fS (⟨#[]⟩:BA)),(.fz (.atom (.slice none 0 0))),(.fz (.atom (.slice none 0 0))),(.fz (.atom (.slice none 0 0)))]))],[2,0,1],[]⟩) v4) h (by kernel_rfl) (le_a) (fun v1 r h=>?_) fun v4 h e st' hq=>?_
 ·unfold kkk at h
  refine cd 6 h (fun h=>?_) fun h=>?_
  ·refine cl 11 h (kl4 _ _) (by kernel_rfl) fun v2 h=>?_
   refine cd 14 h (fun h=>?_) fun h=>?_
   ·cases h;exact lo 9 (by kernel_rfl)
   refine hcl 7 [.one .keep, .one .keep, .one .keep] [(1,1),(4,2),(5,3),(6,4),(7,5),(3,6)] [(1,1),(2,4),(3,5),(4,6),(5,7),(6,3)] [1,2,3,4,5,6] h (kpo _ _ _ _ _ _ _) (fun _=>by kernel_rfl) fun v3 h=>?_
   refine cd 7 h (fun h=>?_) fun h=>?_
   ·cases h;exact lo 10 (by kernel_rfl)
   cases h;exact lj 5
  cases h;exact lo 1 (by kernel_rfl)
 rcases v4 with v5 | v7
 ·try simp only [qf,qg] at h
  obtain ⟨rfl,hle⟩:=hq
  refine ⟨_,hle,?_⟩
  refine cd 6 h (fun h=>?_) fun h=>?_
  ·cases h;exact lhy 10
  refine wle 8 (LeSt.trans (show LeSt _ ⟨61,[(2,(.ref 2 0 0)),(5,(.ref 4 0 0)),(51,(.agg [(fS v5.2.1),(.row 5 (List.length v5.2.2.1)),(.row 6 (List.length v5.2.2.2.1)),(.row 7 (List.length v5.2.2.2.2.1))]))],[(0,(.was p0 [1] q0 w0)),(1,(.glb GV)),(2,(.box 26 [(fS (⟨#[]⟩:BA)),(.fz (.atom (.slice none 0 0))),(.fz (.atom (.slice none 0 0))),(.fz (.atom (.slice none 0 0)))])),(3,(.smap (List.map (fun p=>(p.1,eI p.2)) v5.2.2.2.2.2))),(4,(.box 97 [(fS v5.2.1),(.row 5 (List.length v5.2.2.1)),(.row 6 (List.length v5.2.2.2.1)),(.row 7 (List.length v5.2.2.2.2.1)),(.mp 3)])),(5,(.frow 3 1 (List.map eI v5.2.2.1))),(6,(.frow 92 2 (List.map eSy v5.2.2.2.1))),(7,(.frow 45 9 (List.map eRu v5.2.2.2.2.1)))],[7,6,5,4,3,2,0,1],[]⟩ from le_a) (LeSt.trans (ky7 5 (n:=List.length v5.2.2.1) (k:=2) (e:=3) (size:=1) (xs:=List.map eI v5.2.2.1) (by kernel_rfl) (by simp)) (show LeSt _ ⟨61,[(2,(.ref 2 0 0)),(5,(.ref 4 0 0)),(51,(.agg [(fS v5.2.1),(.fz (eL 1 eI v5.2.2.1)),(.row 6 (List.length v5.2.2.2.1)),(.row 7 (List.length v5.2.2.2.2.1))]))],[(0,(.was p0 [1] q0 w0)),(1,(.glb GV)),(2,(.box 26 [(fS (⟨#[]⟩:BA)),(.fz (.atom (.slice none 0 0))),(.fz (.atom (.slice none 0 0))),(.fz (.atom (.slice none 0 0)))])),(3,(.smap (List.map (fun p=>(p.1,eI p.2)) v5.2.2.2.2.2))),(4,(.box 97 [(fS v5.2.1),(.fz (eL 1 eI v5.2.2.1)),(.row 6 (List.length v5.2.2.2.1)),(.row 7 (List.length v5.2.2.2.2.1)),(.mp 3)])),(6,(.frow 92 2 (List.map eSy v5.2.2.2.1))),(7,(.frow 45 9 (List.map eRu v5.2.2.2.2.1)))],[7,6,5,4,3,2,0,1],[]⟩ from le_a))) ?_
  refine wle 0 (LeSt.trans (show LeSt _ ⟨61,[(2,(.ref 2 0 0)),(5,(.ref 4 0 0)),(51,(.agg [(fS v5.2.1),(.fz (eL 1 eI v5.2.2.1)),(.row 6 (List.length v5.2.2.2.1)),(.row 7 (List.length v5.2.2.2.2.1))]))],[(0,(.was p0 [1] q0 w0)),(1,(.glb GV)),(2,(.box 26 [(fS (⟨#[]⟩:BA)),(.fz (.atom (.slice none 0 0))),(.fz (.atom (.slice none 0 0))),(.fz (.atom (.slice none 0 0)))])),(3,(.smap (List.map (fun p=>(p.1,eI p.2)) v5.2.2.2.2.2))),(4,(.box 97 [(fS v5.2.1),(.fz (eL 1 eI v5.2.2.1)),(.row 6 (List.length v5.2.2.2.1)),(.row 7 (List.length v5.2.2.2.2.1)),(.mp 3)])),(6,(.frow 92 2 (List.map eSy v5.2.2.2.1))),(7,(.frow 45 9 (List.map eRu v5.2.2.2.2.1)))],[7,6,5,4,3,2,0,1],[]⟩ from le_a) (LeSt.trans (ky7 6 (n:=List.length v5.2.2.2.1) (k:=2) (e:=92) (size:=2) (xs:=List.map eSy v5.2.2.2.1) (by kernel_rfl) (by simp)) (show LeSt _ ⟨61,[(2,(.ref 2 0 0)),(5,(.ref 4 0 0)),(51,(.agg [(fS v5.2.1),(.fz (eL 1 eI v5.2.2.1)),(.fz (eL 2 eSy v5.2.2.2.1)),(.row 7 (List.length v5.2.2.2.2.1))]))],[(0,(.was p0 [1] q0 w0)),(1,(.glb GV)),(2,(.box 26 [(fS (⟨#[]⟩:BA)),(.fz (.atom (.slice none 0 0))),(.fz (.atom (.slice none 0 0))),(.fz (.atom (.slice none 0 0)))])),(3,(.smap (List.map (fun p=>(p.1,eI p.2)) v5.2.2.2.2.2))),(4,(.box 97 [(fS v5.2.1),(.fz (eL 1 eI v5.2.2.1)),(.fz (eL 2 eSy v5.2.2.2.1)),(.row 7 (List.length v5.2.2.2.2.1)),(.mp 3)])),(7,(.frow 45 9 (List.map eRu v5.2.2.2.2.1)))],[7,6,5,4,3,2,0,1],[]⟩ from le_a))) ?_
  refine wle 0 (LeSt.trans (show LeSt _ ⟨61,[(2,(.ref 2 0 0)),(5,(.ref 4 0 0)),(51,(.agg [(fS v5.2.1),(.fz (eL 1 eI v5.2.2.1)),(.fz (eL 2 eSy v5.2.2.2.1)),(.row 7 (List.length v5.2.2.2.2.1))]))],[(0,(.was p0 [1] q0 w0)),(1,(.glb GV)),(2,(.box 26 [(fS (⟨#[]⟩:BA)),(.fz (.atom (.slice none 0 0))),(.fz (.atom (.slice none 0 0))),(.fz (.atom (.slice none 0 0)))])),(3,(.smap (List.map (fun p=>(p.1,eI p.2)) v5.2.2.2.2.2))),(4,(.box 97 [(fS v5.2.1),(.fz (eL 1 eI v5.2.2.1)),(.fz (eL 2 eSy v5.2.2.2.1)),(.row 7 (List.length v5.2.2.2.2.1)),(.mp 3)])),(7,(.frow 45 9 (List.map eRu v5.2.2.2.2.1)))],[7,6,5,4,3,2,0,1],[]⟩ from le_a) (LeSt.trans (ky7 7 (n:=List.length v5.2.2.2.2.1) (k:=2) (e:=45) (size:=9) (xs:=List.map eRu v5.2.2.2.2.1) (by kernel_rfl) (by simp)) (show LeSt _ ⟨61,[(2,(.ref 2 0 0)),(5,(.ref 4 0 0)),(51,(.fz (.agg [(eS v5.2.1),(eL 1 eI v5.2.2.1),(eL 2 eSy v5.2.2.2.1),(eL 9 eRu v5.2.2.2.2.1)])))],[(0,(.was p0 [1] q0 w0)),(1,(.glb GV)),(2,(.box 26 [(fS (⟨#[]⟩:BA)),(.fz (.atom (.slice none 0 0))),(.fz (.atom (.slice none 0 0))),(.fz (.atom (.slice none 0 0)))])),(3,(.smap (List.map (fun p=>(p.1,eI p.2)) v5.2.2.2.2.2))),(4,(.box 97 [(fS v5.2.1),(.fz (eL 1 eI v5.2.2.1)),(.fz (eL 2 eSy v5.2.2.2.1)),(.fz (eL 9 eRu v5.2.2.2.2.1)),(.mp 3)]))],[7,6,5,4,3,2,0,1],[]⟩ from le_a))) ?_
  refine cl 0 h (kja _) (by kernel_rfl) fun v6 h=>?_
  refine cd 7 h (fun h=>?_) fun h=>?_
  ·cases h;exact lhy 9
  cases h;exact lhy 12
 ·try simp only [qf,qg] at h
  obtain ⟨rfl,hle⟩:=hq
  refine ⟨_,hle,?_⟩
  cases h;exact lhy 0
def kej :Option Bool:=((klh ).bind fun v1=>((kdd v1 (Tm.mk 1 ([(Tm.mk 0 ([]:List Tm)),(Tm.mk 0 ([]:List Tm))]:List (Tm)))).bind fun v2=>((kfv v1 0 (⟨#[97,100,100,40,105,110,48,44,32,105,110,48,41]⟩:BA)).bind fun v3=>((kfv v1 0 (⟨#[97,100,100,40,105,110,48,44,105,110,48,41]⟩:BA)).bind fun v4=>((kfv v1 0 (⟨#[102,111,111,40,105,110,48,41]⟩:BA)).bind fun v5=>((kfv v1 0 (⟨#[97,100,100,40,49,44,32,105,110,48,41]⟩:BA)).bind fun v6=>((kiu v1).bind fun v7=>((kir v7.1).bind fun v8=>((bif (v2.2 != 0) then (some (true)) else (bif (v3.2.2 != 0) then (some (true)) else (bif (v4.2.2 != 8) then (some (true)) else (bif (v5.2.2 != 8) then (some (true)) else (bif (v6.2.2 != 7) then (some (true)) else (bif (v7.2 != 0) then (some (true)) else (some (v8.2.1 != 0)))))))).bind fun v10=>(bif v10 then (some (false)) else ((kjn 2).bind fun v11=>((bif (v2.1.toList == (⟨#[97,100,100,40,105,110,48,44,32,105,110,48,41]⟩:BA).toList) then (bif (v3.1.rule == 1) then (bif ((List.length v3.1.args:Int) == 2) then (bif (v4.2.1 == 8) then (bif (v5.2.1 == 0) then ((kli v1 (La.mk v8.2.2.1 v8.2.2.2.1 v8.2.2.2.2.1 v8.2.2.2.2.2)).bind fun v12=>(bif v12 then ((cat (⟨#[108,97,110,103,117,97,103,101,32,110,10,105,110,112,117,116,115,32]⟩:BA) v11).bind fun v13=>((cat v13 (⟨#[10,115,121,109,98,111,108,32,83,32]⟩:BA)).bind fun v14=>((cat v14 v11).bind fun v15=>((cat v15 (⟨#[10,114,117,108,101,32,83,32,61,32,105,110,48,10,114,117,108,101,32,83,32,61,32,97,100,100,40,83,44,32,83,41,10]⟩:BA)).bind fun v16=>(some (v7.1.toList == v16.toList)))))) else (some (false)))) else (some (false))) else (some (false))) else (some (false))) else (some (false))) else (some (false))).bind fun v18=>(some v18)))))))))))))
theorem kil  (r:(Bool)) (h:kej =some r):kat Tryz.prog 11 ([]++[]) [(1,(.glb GV))] [1] (.ret (fB r)) [(1,(.glb GV))] [1]:=by
 unfold kej at h
 refine hcx (gi:=0) Tryz.func11 ?_
 intro p0 q0 w0
 refine cl 6 h (kr9) (by kernel_rfl) fun v1 h=>?_
 refine wle 8 (le_a:LeSt _ ⟨130,[(1,(.ref 2 0 0)),(24,(.fz (eLa v1))),(25,(.fz (eTm (Tm.mk 0 ([]:List Tm))))),(26,(.fz (.agg [(eI 0),(.atom (.slice none 0 0))])))],[(0,(.was p0 [1] q0 w0)),(1,(.glb GV)),(2,(.box 26 [(fS v1.name),(.fz (eL 1 eI v1.inputs)),(.fz (eL 2 eSy v1.symbols)),(.fz (eL 9 eRu v1.rules))]))],[2,0,1],[]⟩) ?_
 refine wle 0 (le_a:LeSt _ ⟨130,[(1,(.ref 2 0 0)),(24,(.fz (eLa v1))),(25,(.fz (eTm (Tm.mk 0 ([]:List Tm))))),(26,(.fz (eTm (Tm.mk 0 ([]:List Tm)))))],[(0,(.was p0 [1] q0 w0)),(1,(.glb GV)),(2,(.box 26 [(fS v1.name),(.fz (eL 1 eI v1.inputs)),(.fz (eL 2 eSy v1.symbols)),(.fz (eL 9 eRu v1.rules))]))],[2,0,1],[]⟩) ?_
 refine wle 1 (kt0 (t:=27) (x := .lim 2 2 [eTm (Tm.mk 0 ([]:List Tm)),eTm (Tm.mk 0 ([]:List Tm))]) (y := .lim 2 2 (List.map eTmR ([(Tm.mk 0 ([]:List Tm)),(Tm.mk 0 ([]:List Tm))]:List (Tm)))) (by kernel_rfl) (by simp only [List.map,koq])) ?_
 refine hcl 1 [.one .keep,(.ag [.keep, .sl 2])] [(1,1)] [(1,1)] [1] h (klg _ _) (fun _=>by kernel_rfl) fun v2 h=>?_
 refine cl 9 h (kio _ _ _) (by kernel_rfl) fun v3 h=>?_
 refine cl 12 h (kio _ _ _) (by kernel_rfl) fun v4 h=>?_
 refine cl 12 h (kio _ _ _) (by kernel_rfl) fun v5 h=>?_
 refine cl 12 h (kio _ _ _) (by kernel_rfl) fun v6 h=>?_
 refine hcl 12 [.one .keep] [(1,1)] [(1,1)] [1] h (kou _) (fun _=>by kernel_rfl) fun v7 h=>?_
 refine hcl 9 [.one .keep] [(1,1)] [(1,1),(2,7)] [1] h (kop _) (fun _=>by kernel_rfl) fun v8 h=>?_
 refine jn1 11 .normal (fun v10=>⟨130,[(1,(.ref 2 0 0)),(2,(fS v2.1)),(4,(.ref 3 0 0)),(8,(fI v4.2.1)),(11,(fI v5.2.1)),(16,(fS v7.1)),(18,(.ref 8 0 0)),(92,(fB v10))],[(0,(.was p0 [1] q0 w0)),(1,(.glb GV)),(2,(.box 26 [(fS v1.name),(.fz (eL 1 eI v1.inputs)),(.fz (eL 2 eSy v1.symbols)),(.fz (eL 9 eRu v1.rules))])),(3,(.box 29 [(fI v3.1.rule),(.fz (eL 2 eTmR v3.1.args))])),(8,(.box 26 [(fS v8.2.2.1),(.fz (eL 1 eI v8.2.2.2.1)),(.fz (eL 2 eSy v8.2.2.2.2.1)),(.fz (eL 9 eRu v8.2.2.2.2.2))]))],[8,3,2,0,1],[]⟩) h (fun v10 h=>?_) fun v10 h=>?_
 ·refine gd 4 h (fun h=>?_) fun h=>?_
  ·cases h;exact lj 24
  refine gd 4 h (fun h=>?_) fun h=>?_
  ·cases h;exact lj 20
  refine gd 4 h (fun h=>?_) fun h=>?_
  ·cases h;exact lj 16
  refine gd 4 h (fun h=>?_) fun h=>?_
  ·cases h;exact lj 12
  refine gd 4 h (fun h=>?_) fun h=>?_
  ·cases h;exact lj 8
  refine gd 4 h (fun h=>?_) fun h=>?_
  ·cases h;exact lj 4
  cases h;exact lj 4
 refine cd 0 h (fun h=>?_) fun h=>?_
 ·cases h;exact lhy 5
 refine cl 3 h (kp2 _) (by kernel_rfl) fun v11 h=>?_
 refine jn1 3 .normal (fun v18=>⟨130,[(0,(fB v18))],[(0,(.was p0 [1] q0 w0)),(1,(.glb GV))],[0,1],[]⟩) h (fun v18 h=>?_) fun v18 h=>?_
 ·refine gd 4 h (fun h=>?_) fun h=>?_
  ·refine gd 5 h (fun h=>?_) fun h=>?_
   ·refine gd 6 h (fun h=>?_) fun h=>?_
    ·refine gd 4 h (fun h=>?_) fun h=>?_
     ·refine gd 4 h (fun h=>?_) fun h=>?_
      ·refine cl 2 h (ksc _ _) (by kernel_rfl) fun v12 h=>?_
       refine gd 2 h (fun h=>?_) fun h=>?_
       ·obtain ⟨v13,hv13,h⟩:=qi.1 h
        refine nst 2 (kqh (t:=9) (X:=(.const (.string ⟨#[108,97,110,103,117,97,103,101,32,110,10,105,110,112,117,116,115,32]⟩))) (Y:=(.tmp 122)) (yt:=9) (s:=(⟨#[108,97,110,103,117,97,103,101,32,110,10,105,110,112,117,116,115,32]⟩:BA)) (u:=v11) hv13) ?_
        obtain ⟨v14,hv14,h⟩:=qi.1 h
        refine nst 0 (kqh (t:=9) (X:=(.tmp 123)) (Y:=(.const (.string ⟨#[10,115,121,109,98,111,108,32,83,32]⟩))) (yt:=9) (s:=v13) (u:=(⟨#[10,115,121,109,98,111,108,32,83,32]⟩:BA)) hv14) ?_
        obtain ⟨v15,hv15,h⟩:=qi.1 h
        refine nst 1 (kqh (t:=9) (X:=(.tmp 124)) (Y:=(.tmp 125)) (yt:=9) (s:=v14) (u:=v11) hv15) ?_
        obtain ⟨v16,hv16,h⟩:=qi.1 h
        refine nst 0 (kqh (t:=9) (X:=(.tmp 126)) (Y:=(.const (.string ⟨#[10,114,117,108,101,32,83,32,61,32,105,110,48,10,114,117,108,101,32,83,32,61,32,97,100,100,40,83,44,32,83,41,10]⟩))) (yt:=9) (s:=v15) (u:=(⟨#[10,114,117,108,101,32,83,32,61,32,105,110,48,10,114,117,108,101,32,83,32,61,32,97,100,100,40,83,44,32,83,41,10]⟩:BA)) hv16) ?_
        cases h;exact lj 4
       cases h;exact lj 11
      cases h;exact lj 16
     cases h;exact lj 20
    cases h;exact lj 24
   cases h;exact lj 30
  cases h;exact lj 35
 cases h;exact lhy 1
end Go.Proofs.YtaimpcnpifoidaaGreatDoor
