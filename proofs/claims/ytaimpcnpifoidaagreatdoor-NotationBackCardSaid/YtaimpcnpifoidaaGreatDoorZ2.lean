import Derived.Test.YtaimpcnpifoidaaGreatDoorZ1
set_option linter.unusedVariables false
set_option linter.unusedSimpArgs false
set_option maxRecDepth 100000
namespace Go.Proofs.YtaimpcnpifoidaaGreatDoor
open Go Go.RowKit Go.Proofs
set_option maxHeartbeats 2000000
attribute [local irreducible] NStep kdf ko2 LeSt
structure S_literal_reader where
  f_s:BA
  f_at:Int
def kau (a0:S_literal_reader):Option Int:=(bif (decide (a0.f_at<(a0.f_s.size:Int))) then ((byt a0.f_s a0.f_at).bind fun v1=>(some v1)) else (some 0))
theorem ka5 (a0:S_literal_reader) (r:(Int)) (h:kau a0=some r):kat Tryz.prog 184 ([(.ref 1 0 0)]++[]) [(1,(.box 202 [(fS a0.f_s),(fI a0.f_at)]))] [1] (.ret (.fz (eU8 r))) [(1,(.box 202 [(fS a0.f_s),(fI a0.f_at)]))] [1]:=by
 unfold kau at h
 refine hcx (gi:=0) Tryz.func184 ?_
 intro p0 q0 w0
 refine dw 6 9 ?_
 refine cd 12 h (fun h=>?_) fun h=>?_
 ·refine dw 1 8 ?_
  refine byx 9 h fun v1 h=>?_
  cases h;exact lhy 3
 cases h;exact lhy 6
def kdb (a0:S_literal_reader) (a1:BA) (v1:(Int)×(Int)):Option (((Int)×(Int)) ⊕ ((Int) ⊕ (Int))):=(bif (decide (v1.1<(a1.size:Int))) then ((bif (decide ((a0.f_s.size:Int)≤v1.2)) then (some (true)) else ((byt a0.f_s v1.2).bind fun v2=>((byt a1 v1.1).bind fun v3=>(some (v2 != v3))))).bind fun v5=>(bif v5 then (some (.inr (.inr v1.2))) else (some (.inl ((w64 (v1.1+1)),(w64 (v1.2+1))))))) else (some (.inr (.inl v1.2))))
def kaq (a0:S_literal_reader) (a1:BA):Option ((Bool)×(Int)):=((kaa (kdb a0 a1) fuel (0,a0.f_at)).bind fun (v6:((Int) ⊕ (Int)))=>Sum.elim (fun v7=>(some (true,v7))) (fun v8=>(some (false,v8))) v6)
theorem kbk (a0:S_literal_reader) (a1:BA) (r:(Bool)×(Int)) (h:kaq a0 a1=some r):kat Tryz.prog 185 ([(.ref 1 0 0),(fS a1)]++[]) [(1,(.box 202 [(fS a0.f_s),(fI a0.f_at)]))] [1] (.ret (fB r.1)) [(1,(.box 202 [(fS a0.f_s),(fI r.2)]))] [1]:=by
 unfold kaq at h
 refine hcx (gi:=0) Tryz.func185 ?_
 intro p0 q0 w0
 refine lpx 12 (fun v1=>⟨44,[(0,(.ref 1 0 0)),(1,(fS a1)),(7,(fI (a1.size:Int))),(8,(fI v1.1))],[(0,(.was p0 [1] q0 w0)),(1,(.box 202 [(fS a0.f_s),(fI v1.2)]))],[0,1],[]⟩) (fun v6 e st=>Sum.elim (fun p=>e = .exit 0∧LeSt st ⟨44,[],[(0,(.was p0 [1] q0 w0)),(1,(.box 202 [(fS a0.f_s),(fI (p))]))],[0,1],[]⟩) (fun p=>e = .ret∧LeSt st ⟨44,[(4,(fB (false)))],[(0,(.was p0 [1] q0 w0)),(1,(.box 202 [(fS a0.f_s),(fI (p))]))],[0,1],[]⟩) v6) h (by kernel_rfl) (le_a) (fun v1 r h=>?_) fun v6 h e st' hq=>?_
 ·unfold kdb at h
  refine cd 5 h (fun h=>?_) fun h=>?_
  ·refine jn1 10 .normal (fun v5=>⟨44,[(0,(.ref 1 0 0)),(1,(fS a1)),(7,(fI (a1.size:Int))),(8,(fI v1.1)),(35,(fB v5))],[(0,(.was p0 [1] q0 w0)),(1,(.box 202 [(fS a0.f_s),(fI v1.2)]))],[0,1],[]⟩) h (fun v5 h=>?_) fun v5 h=>?_
   ·refine dw 0 23 ?_
    refine gd 11 h (fun h=>?_) fun h=>?_
    ·cases h;exact lj 16
    refine byx 8 h fun v2 h=>?_
    refine byx 2 h fun v3 h=>?_
    cases h;exact lj 4
   refine cd 0 h (fun h=>?_) fun h=>?_
   ·cases h;exact lo 5 (by kernel_rfl)
   cases h;exact lj 15
  cases h;exact lo 1 (by kernel_rfl)
 rcases v6 with v7 | v8
 ·try simp only [qf,qg] at h
  obtain ⟨rfl,hle⟩:=hq
  refine ⟨_,hle,?_⟩
  cases h;exact lhy 5
 ·try simp only [qf,qg] at h
  obtain ⟨rfl,hle⟩:=hq
  refine ⟨_,hle,?_⟩
  cases h;exact lhy 0
def kbj (a0:List Int):Option Unit:=(some ())
theorem kls (a0:List Int) (r:Unit) (h:kbj a0=some r):kat Tryz.prog 206 ([(.ref 1 0 0)]++[]) [(1,(.box 58 [(.opt 1),(.row 2 (List.length a0))])),(2,(.frow 5 1 (List.map eU8 a0)))] [1,2] (.ret (fI (List.length a0:Int))) [(1,(.box 58 [(.opt 1),(.row 2 (List.length a0))])),(2,(.frow 5 1 (List.map eU8 a0)))] [1,2]:=by
 unfold kbj at h
 refine hcx (gi:=0) Tryz.func206 ?_
 intro p0 q0 w0
 refine nst 10 (kj0 (t:=56) (x:=(.tmp 6)) (d:=tt56) (id:=2) (e2:=5) (e:=5) (size:=1) (n:=List.length a0) (xs:=List.map eU8 a0) kb0 (by kernel_rfl) (by kernel_rfl) rfl (by kernel_rfl) (by kernel_rfl) (by simp)) ?_
 cases h;exact lhy 3
def kaw (a0:List Int):Option Unit:=(some ())
theorem kee (a0:List Int) (r:Unit) (h:kaw a0=some r):kat Tryz.prog 29 ([(.ref 1 0 0)]++[]) [(1,(.box 58 [(.opt 1),(.row 2 (List.length a0))])),(2,(.frow 5 1 (List.map eU8 a0)))] [1,2] (.ret (fS (toBA a0))) [(1,(.box 58 [(.opt 1),(.row 2 0)]))] [1,2]:=by
 unfold kaw at h
 refine hcx (gi:=0) Tryz.func29 ?_
 intro p0 q0 w0
 refine dw 5 10 ?_
 refine nst 4 (k59 (x:=(.tmp 6)) (ts:=#[56]) (id:=2) (e':=5) (e:=5) (size:=1) (n:=List.length a0) (xs:=List.map eU8 a0) (by kernel_rfl) (by kernel_rfl) (by kernel_rfl) (by kernel_rfl) (by simp)) ?_
 refine nst 4 (kj0 (t:=56) (x:=(.tmp 11)) (d:=tt56) (id:=2) (e2:=5) (e:=5) (size:=1) (n:=List.length a0) (xs:=List.map eU8 a0) kb0 (by kernel_rfl) (by kernel_rfl) rfl (by kernel_rfl) (by kernel_rfl) (by simp)) ?_
 refine sst 1 (k02 (x:=(.tmp 7)) (y:=(.tmp 12)) (pt:=115) (it:=3) (e:=5) (id:=2) (xs:=a0) (by kernel_rfl) (by kernel_rfl) (by kernel_rfl) (by kernel_rfl) (by kernel_rfl) rfl) (by kernel_rfl) ?_
 refine wle 0 (kagc (ids:=[0,1,2]) (ts:=[(12, .one .keep),(13, .one .keep)]) (os:=[(0,[]),(1,[.keep, .zr])]):LeSt _ ⟨14,[(12,(fI (List.length a0:Int))),(13,(fS (toBA a0)))],[(0,(.was p0 [1,2] q0 w0)),(1,(.box 58 [(.opt 1),(.row 2 0)]))],[0,1,2],[]⟩) ?_
 cases h;exact lhy 3
def kb3 (a0:List Int):Option Unit:=(some ())
theorem kjz (a0:List Int) (r:Unit) (h:kb3 a0=some r):kat Tryz.prog 81 ([(.ref 1 0 0)]++[]) [(1,(.box 58 [(.opt 1),(.row 2 (List.length a0))])),(2,(.frow 5 1 (List.map eU8 a0)))] [1,2] (.ret (.fz (.tup []))) [(1,(.box 58 [(.opt 1),(.row 2 (List.length a0))])),(2,(.frow 5 1 (List.map eU8 a0)))] [1,2]:=by
 unfold kb3 at h
 refine hcx (gi:=0) Tryz.func81 ?_
 intro p0 q0 w0
 refine opc 0 (id:=1) (e:=58) (cells:=[(.row 2 (List.length a0))]) ?_ ?_
 ·refine nst 6 (kadt (t:=55) (x:=(.tmp 5)) (y:=(.const (.pointer none))) (yt:=55) (te:=58) false) ?_
  refine nst 5 (k82 (src:=55) (t:=171) (x:=(.tmp 8)) (te:=58) (id:=1) (j:=Tryz.t58) (e:=58) (cells:=[(.fz (.atom (.pointer none))),(.row 2 (List.length a0))])) ?_
  refine nst 0 (k9d (f:=121) (ts:=#[171]) (X:=(.tmp 9)) (fn:=Tryz.f121) (by kernel_rfl) Tryz.func121) ?_
  refine nst 0 (k4e (src:=171) (t:=55) (x:=(.tmp 10)) (u:=58) (id:=1) (j:=Tryz.t58) (e:=58) (cells:=[(.fz (.atom (.pointer none))),(.row 2 (List.length a0))])) ?_
  obtain rfl:=qp h;exact lh 4 ⟨20,[],[(0,(.was p0 [1,2] q0 w0)),(1,(.box 58 [(.opt 1),(.row 2 (List.length a0))])),(2,(.frow 5 1 (List.map eU8 a0)))],[0,1,2],[]⟩ (LeSt.trans (kku (id:=1) (e2:=58) (cells:=[(.ref 1 0 0),(.row 2 (List.length a0))]) (cells':=[.opt 1,(.row 2 (List.length a0))])) (le_a)) rfl rfl
 ·refine nst 6 (kae3 (t:=55) (x:=(.tmp 5)) (y:=(.const (.pointer none))) (yt:=55) (te:=58) (id:=1) (off:=0) (e:=58) (cells:=[(.ref 1 0 0),(.row 2 (List.length a0))]) false) ?_
  refine nst 9 (kabl (t:=55) (x:=(.tmp 17)) (y:=(.tmp 18)) (yt:=55) (te:=58) (id:=1) (off:=0) (j:=Tryz.t58) (e:=58) (cells:=[(.ref 1 0 0),(.row 2 (List.length a0))]) true) ?_
  obtain rfl:=qp h;exact lh 3 ⟨20,[],[(0,(.was p0 [1,2] q0 w0)),(1,(.box 58 [(.opt 1),(.row 2 (List.length a0))])),(2,(.frow 5 1 (List.map eU8 a0)))],[0,1,2],[]⟩ (LeSt.trans (kku (id:=1) (e2:=58) (cells:=[(.ref 1 0 0),(.row 2 (List.length a0))]) (cells':=[.opt 1,(.row 2 (List.length a0))])) (le_a)) rfl rfl
def kao (a0:List Int) (a1:Int):Option (List Int):=((kb3 a0).bind fun v1=>((app 1 a0 ([a1]:List Int)).bind fun v2=>(some v2)))
theorem ka9 (a0:List Int) (a1:Int) (r:(List Int)) (h:kao a0 a1=some r):kat Tryz.prog 65 ([(.ref 1 0 0),(.fz (eU8 a1))]++[]) [(1,(.box 58 [(.opt 1),(.row 2 (List.length a0))])),(2,(.frow 5 1 (List.map eU8 a0)))] [1,2] (.ret (.fz (.atom .nilIface))) [(1,(.box 58 [(.opt 1),(.row 2 (List.length r))])),(2,(.frow 5 1 (List.map eU8 r)))] [1,2]:=by
 unfold kao at h
 refine hcx (gi:=0) Tryz.func65 ?_
 intro p0 q0 w0
 refine hcl 7 [.one .keep] [(1,1),(2,2)] [(1,1),(2,2)] [1,2] h (kjz _) (fun _=>by kernel_rfl) fun v1 h=>?_
 refine ap nU8 10 h fun v2 h=>?_
 cases h;exact lhy 9
def kjg (p0:Env) (q0:Nat→Prop) (w0:World) (a0:S_literal_reader) (v2:(Int)×(List Int)):List (Nat×AObj):=[(0,(.was p0 [1] q0 w0)),(1,(.box 202 [(fS a0.f_s),(fI v2.1)])),(2,(.box 58 [(.opt 2),(.row 3 (List.length v2.2))])),(3,(.frow 5 1 (List.map eU8 v2.2)))]
def kaz (a0:S_literal_reader) (a1:Int) (a2:Int) (v2:(Int)×(List Int)):Option (((Int)×(List Int)) ⊕ ((Int) ⊕ ((BA)×(Bool)×(Int)))):=(bif (decide (v2.1<(a0.f_s.size:Int))) then ((byt a0.f_s v2.1).bind fun v3=>((((bif (v3 == 34) then ((kbj v2.2).bind fun v4=>(some (decide (a1≤(List.length v2.2:Int))))) else (some (false))).bind fun v6=>(bif v6 then ((kaw v2.2).bind fun v7=>(some (.inr ((toBA v2.2),true,(w64 (v2.1+1)))))) else ((bif (v3 == 34) then (some (true)) else ((kbj v2.2).bind fun v8=>(bif ((List.length v2.2:Int) == a2) then (some (true)) else ((kjo (IntKind.i32.wrap v3)).bind fun v9=>(some (!v9)))))).bind fun v11=>(bif v11 then (some (.inr ((⟨#[]⟩:BA),false,v2.1))) else (bif (v3 == 92) then ((kau (S_literal_reader.mk a0.f_s (w64 (v2.1+1)))).bind fun v12=>((bif (v12 != 34) then (some (v12 != 92)) else (some (false))).bind fun v14=>(bif v14 then (some (.inr ((⟨#[]⟩:BA),false,(w64 (v2.1+1))))) else (some (.inl (v12,(w64 (v2.1+1)))))))) else (some (.inl (v3,v2.1)))))))):Option (((Int)×(Int)) ⊕ ((BA)×(Bool)×(Int)))).bind fun (v15:(((Int)×(Int)) ⊕ ((BA)×(Bool)×(Int))))=>Sum.elim (fun v16=>((kao v2.2 v16.1).bind fun v17=>(some (.inl ((w64 (v16.2+1)),v17))))) (fun v18=>(some (.inr (.inr (v18.1,v18.2.1,v18.2.2))))) v15)) else (some (.inr (.inl v2.1))))
def kby (a0:S_literal_reader) (a1:Int) (a2:Int):Option ((BA)×(Bool)×(Int)):=((kaq a0 (⟨#[34]⟩:BA)).bind fun v1=>(bif (!v1.1) then (some ((⟨#[]⟩:BA),false,v1.2)) else ((kaa (kaz a0 a1 a2) fuel (v1.2,([]:List Int))).bind fun (v19:((Int) ⊕ ((BA)×(Bool)×(Int))))=>Sum.elim (fun v20=>(some ((⟨#[]⟩:BA),false,v20))) (fun v21=>(some (v21.1,v21.2.1,v21.2.2))) v19)))
theorem kjc (a0:S_literal_reader) (a1:Int) (a2:Int) (r:(BA)×(Bool)×(Int)) (h:kby a0 a1 a2=some r):kat Tryz.prog 186 ([(.ref 1 0 0),(fI a1),(fI a2)]++[]) [(1,(.box 202 [(fS a0.f_s),(fI a0.f_at)]))] [1] (.ret (.fz (.tup [(eS r.1),(eB r.2.1)]))) [(1,(.box 202 [(fS a0.f_s),(fI r.2.2)]))] [1]:=by
 unfold kby at h
 refine hcx (gi:=0) Tryz.func186 ?_
 intro p0 q0 w0
 refine hcl 9 [.one .keep, .one .keep] [(1,1)] [(1,1)] [1] h (kbk _ _) (fun _=>by kernel_rfl) fun v1 h=>?_
 refine cd 2 h (fun h=>?_) fun h=>?_
 ·cases h;exact lhy 6
 refine wle 4 (ket (e:=5) (size:=1) (id2:=2) (j:=1) (id:=3) (e2:=58) (cells:=[(.fz (.atom (.pointer none))),(.fz (.atom (.slice none 0 0)))])) ?_
 refine wle 0 (kku (id:=2) (e2:=58) (cells:=[(.fz (.atom (.pointer none))),(.row 3 (List.length ([]:List Int)))]) (cells':=[.opt 2,(.row 3 (List.length ([]:List Int)))])) ?_
 refine lpx 3 (fun v2=>⟨89,[(0,(.ref 1 0 0)),(1,(fI a1)),(2,(fI a2)),(8,(.ref 2 0 0))],(kjg p0 q0 w0 a0 v2),[3,2,0,1],[]⟩) (fun v19 e st=>Sum.elim (fun p=>e = .exit 0∧LeSt st ⟨89,[],[(0,(.was p0 [1] q0 w0)),(1,(.box 202 [(fS a0.f_s),(fI (p))]))],[0,1],[]⟩) (fun p=>e = .ret∧LeSt st ⟨89,[(6,(fS (p.1))),(7,(fB (p.2.1)))],[(0,(.was p0 [1] q0 w0)),(1,(.box 202 [(fS a0.f_s),(fI (p.2.2))]))],[0,1],[]⟩) v19) h (by kernel_rfl) (le_a) (fun v2 r h=>?_) fun v19 h e st' hq=>?_
 ·unfold kaz at h
  refine dw 2 9 ?_
  refine cd 12 h (fun h=>?_) fun h=>?_
  ·refine dw 3 8 ?_
   refine byx 9 h fun v3 h=>?_
   refine jnQ 4 (fun v15 e st=>Sum.elim (fun p=>e = .normal∧LeSt st ⟨89,[(0,(.ref 1 0 0)),(1,(fI a1)),(2,(fI a2)),(8,(.ref 2 0 0)),(9,(.fz (eU8 (p.1))))],[(0,(.was p0 [1] q0 w0)),(1,(.box 202 [(fS a0.f_s),(fI (p.2))])),(2,(.box 58 [(.opt 2),(.row 3 (List.length v2.2))])),(3,(.frow 5 1 (List.map eU8 v2.2)))],[3,2,0,1],[]⟩) (fun p=>e = .ret∧LeSt st ⟨89,[(6,(fS (p.1))),(7,(fB (p.2.1)))],[(0,(.was p0 [1] q0 w0)),(1,(.box 202 [(fS a0.f_s),(fI (p.2.2))]))],[0,1],[]⟩) v15) h (fun v15 h=>?_) fun v15 h e st' hq=>?_
   ·refine jn1 1 .normal (fun v6=>⟨89,[(0,(.ref 1 0 0)),(1,(fI a1)),(2,(fI a2)),(8,(.ref 2 0 0)),(9,(.fz (eU8 v3))),(32,(fB v6))],(kjg p0 q0 w0 a0 v2),[3,2,0,1],[]⟩) h (fun v6 h=>?_) fun v6 h=>?_
    ·refine gd 4 h (fun h=>?_) fun h=>?_
     ·refine hcl 0 [.one .keep] [(2,1),(3,2)] [(1,2),(2,3)] [1,2] h (kls _) (fun _=>by kernel_rfl) fun v4 h=>?_
      cases h;exact lj 5
     cases h;exact lj 6
    refine cd 0 h (fun h=>?_) fun h=>?_
    ·refine hcl 13 [.one .keep] [(2,1),(3,2)] [(1,2),(2,3)] [1,2] h (kee _) (fun _=>by kernel_rfl) fun v7 h=>?_
     cases h;exact lj 4
    refine jn1 1 .normal (fun v11=>⟨89,[(0,(.ref 1 0 0)),(1,(fI a1)),(2,(fI a2)),(8,(.ref 2 0 0)),(9,(.fz (eU8 v3))),(48,(fB v11))],(kjg p0 q0 w0 a0 v2),[3,2,0,1],[]⟩) h (fun v11 h=>?_) fun v11 h=>?_
    ·refine gd 4 h (fun h=>?_) fun h=>?_
     ·cases h;exact lj 12
     refine hcl 0 [.one .keep] [(2,1),(3,2)] [(1,2),(2,3)] [1,2] h (kls _) (fun _=>by kernel_rfl) fun v8 h=>?_
     refine gd 4 h (fun h=>?_) fun h=>?_
     ·cases h;exact lj 7
     refine cl 2 h (kq6 _) (by kernel_rfl) fun v9 h=>?_
     cases h;exact lj 4
    refine cd 0 h (fun h=>?_) fun h=>?_
    ·cases h;exact lj 6
    refine cd 6 h (fun h=>?_) fun h=>?_
    ·refine hcl 14 [.one .keep] [(1,1)] [(1,1)] [1] h (ka5 _) (fun _=>by kernel_rfl) fun v12 h=>?_
     refine jn1 3 .normal (fun v14=>⟨89,[(0,(.ref 1 0 0)),(1,(fI a1)),(2,(fI a2)),(8,(.ref 2 0 0)),(9,(.fz (eU8 v12))),(79,(fB v14))],[(0,(.was p0 [1] q0 w0)),(1,(.box 202 [(fS a0.f_s),(fI (w64 (v2.1+1)))])),(2,(.box 58 [(.opt 2),(.row 3 (List.length v2.2))])),(3,(.frow 5 1 (List.map eU8 v2.2)))],[3,2,0,1],[]⟩) h (fun v14 h=>?_) fun v14 h=>?_
     ·refine gd 4 h (fun h=>?_) fun h=>?_
      ·cases h;exact lj 4
      cases h;exact lj 4
     refine cd 0 h (fun h=>?_) fun h=>?_
     ·cases h;exact lj 6
     cases h;exact lj 1
    cases h;exact lj 1
   rcases v15 with v16 | v18
   ·try simp only [qf,qg] at h
    obtain ⟨rfl,hle⟩:=hq
    refine ⟨_,hle,?_⟩
    refine hcl 3 [.one .keep, .one .keep] [(2,1),(3,2)] [(1,2),(2,3)] [1,2] h (ka9 _ _) (fun _=>by kernel_rfl) fun v17 h=>?_
    cases h;exact lj 11
   ·try simp only [qf,qg] at h
    obtain ⟨rfl,hle⟩:=hq
    refine ⟨_,hle,?_⟩
    cases h;exact lo 0 (by kernel_rfl)
  cases h;exact lo 1 (by kernel_rfl)
 rcases v19 with v20 | v21
 ·try simp only [qf,qg] at h
  obtain ⟨rfl,hle⟩:=hq
  refine ⟨_,hle,?_⟩
  cases h;exact lhy 6
 ·try simp only [qf,qg] at h
  obtain ⟨rfl,hle⟩:=hq
  refine ⟨_,hle,?_⟩
  cases h;exact lhy 0
def kay (a0:S_literal_reader) (v8:(Int)×(Int)×(Int)):Option (((Int)×(Int)×(Int)) ⊕ ((Int)×(Int))):=((bif (decide (48≤v8.2.1)) then (bif (decide (v8.2.1≤57)) then (bif (decide (0<v8.1)) then (some (decide ((w64 ((w64 (10*v8.1))+(w64 (wu8 (v8.2.1 - 48)))))≤1000000))) else (bif (decide (48<v8.2.1)) then (some (decide ((w64 ((w64 (10*v8.1))+(w64 (wu8 (v8.2.1 - 48)))))≤1000000))) else (some (false)))) else (some (false))) else (some (false))).bind fun v10=>(bif v10 then ((kau (S_literal_reader.mk a0.f_s (w64 (v8.2.2+1)))).bind fun v11=>(some (.inl ((w64 ((w64 (10*v8.1))+(w64 (wu8 (v8.2.1 - 48))))),v11,(w64 (v8.2.2+1)))))) else (some (.inr (v8.1,v8.2.2)))))
def kek (a0:S_literal_reader):Option ((Bool)×(Int)×(Int)):=((((kau a0).bind fun v1=>(bif (v1 == 45) then (some ((-1),(w64 (a0.f_at+1)))) else (some (1,a0.f_at)))):Option ((Int)×(Int))).bind fun (v3:(Int)×(Int))=>((bif (v3.1 == 1) then ((kau (S_literal_reader.mk a0.f_s v3.2)).bind fun v4=>(some (v4 == 48))) else (some (false))).bind fun v6=>(bif v6 then (some (true,(w64 (v3.2+1)),0)) else ((kau (S_literal_reader.mk a0.f_s v3.2)).bind fun v7=>((kaa (kay a0) fuel (0,v7,v3.2)).bind fun (v13:(Int)×(Int))=>(some ((decide (0<v13.1)),v13.2,(w64 (v3.1*v13.1)))))))))
theorem klc (a0:S_literal_reader) (r:(Bool)×(Int)×(Int)) (h:kek a0=some r):kat Tryz.prog 188 ([(.ref 1 0 0)]++[]) [(1,(.box 202 [(fS a0.f_s),(fI a0.f_at)]))] [1] (.ret (.fz (.tup [(.agg [(eI 2),(eI r.2.2),(eS (⟨#[]⟩:BA)),(.atom (.slice none 0 0))]),(eB r.1)]))) [(1,(.box 202 [(fS a0.f_s),(fI r.2.1)])),(2,(.box 43 [(fI 2),(fI r.2.2),(fS (⟨#[]⟩:BA)),(.fz (.atom (.slice none 0 0)))]))] [1,2]:=by
 unfold kek at h
 refine hcx (gi:=0) Tryz.func188 ?_
 intro p0 q0 w0
 refine jn1 10 .normal (fun v3=>⟨78,[(0,(.ref 1 0 0)),(2,(.ref 2 0 0)),(4,(fI v3.1))],[(0,(.was p0 [1] q0 w0)),(1,(.box 202 [(fS a0.f_s),(fI v3.2)])),(2,(.box 43 [(fI 0),(fI 0),(fS (⟨#[]⟩:BA)),(.fz (.atom (.slice none 0 0)))]))],[2,0,1],[]⟩) h (fun v3 h=>?_) fun v3 h=>?_
 ·refine hcl 3 [.one .keep] [(1,1)] [(1,1)] [1] h (ka5 _) (fun _=>by kernel_rfl) fun v1 h=>?_
  refine cd 2 h (fun h=>?_) fun h=>?_
  ·cases h;exact lj 14
  cases h;exact lj 1
 refine jn1 2 .normal (fun v6=>⟨78,[(0,(.ref 1 0 0)),(2,(.ref 2 0 0)),(4,(fI v3.1)),(23,(fB v6))],[(0,(.was p0 [1] q0 w0)),(1,(.box 202 [(fS a0.f_s),(fI v3.2)])),(2,(.box 43 [(fI 0),(fI 0),(fS (⟨#[]⟩:BA)),(.fz (.atom (.slice none 0 0)))]))],[2,0,1],[]⟩) h (fun v6 h=>?_) fun v6 h=>?_
 ·refine gd 4 h (fun h=>?_) fun h=>?_
  ·refine hcl 1 [.one .keep] [(1,1)] [(1,1)] [1] h (ka5 _) (fun _=>by kernel_rfl) fun v4 h=>?_
   cases h;exact lj 3
  cases h;exact lj 5
 refine cd 0 h (fun h=>?_) fun h=>?_
 ·cases h;exact lhy 18
 refine hcl 9 [.one .keep] [(1,1)] [(1,1)] [1] h (ka5 _) (fun _=>by kernel_rfl) fun v7 h=>?_
 refine lp1 3 (fun v8=>⟨78,[(0,(.ref 1 0 0)),(2,(.ref 2 0 0)),(4,(fI v3.1)),(5,(fI v8.1)),(6,(.fz (eU8 v8.2.1)))],[(0,(.was p0 [1] q0 w0)),(1,(.box 202 [(fS a0.f_s),(fI v8.2.2)])),(2,(.box 43 [(fI 0),(fI 0),(fS (⟨#[]⟩:BA)),(.fz (.atom (.slice none 0 0)))]))],[2,0,1],[]⟩) (.exit 0) (fun v13=>⟨78,[(2,(.ref 2 0 0)),(4,(fI v3.1)),(5,(fI v13.1))],[(0,(.was p0 [1] q0 w0)),(1,(.box 202 [(fS a0.f_s),(fI v13.2)])),(2,(.box 43 [(fI 0),(fI 0),(fS (⟨#[]⟩:BA)),(.fz (.atom (.slice none 0 0)))]))],[2,0,1],[]⟩) h (fun v8 r h=>?_) fun v13 h=>?_
 ·unfold kay at h
  refine jn1 2 .normal (fun v10=>⟨78,[(0,(.ref 1 0 0)),(2,(.ref 2 0 0)),(4,(fI v3.1)),(5,(fI v8.1)),(6,(.fz (eU8 v8.2.1))),(56,(fB v10))],[(0,(.was p0 [1] q0 w0)),(1,(.box 202 [(fS a0.f_s),(fI v8.2.2)])),(2,(.box 43 [(fI 0),(fI 0),(fS (⟨#[]⟩:BA)),(.fz (.atom (.slice none 0 0)))]))],[2,0,1],[]⟩) h (fun v10 h=>?_) fun v10 h=>?_
  ·refine gd 4 h (fun h=>?_) fun h=>?_
   ·refine gd 4 h (fun h=>?_) fun h=>?_
    ·refine gd 3 h (fun h=>?_) fun h=>?_
     ·cases h;exact lj 14
     refine gd 5 h (fun h=>?_) fun h=>?_
     ·cases h;exact lj 9
     cases h;exact lj 9
    cases h;exact lj 17
   cases h;exact lj 21
  refine cd 0 h (fun h=>?_) fun h=>?_
  ·refine hcl 25 [.one .keep] [(1,1)] [(1,1)] [1] h (ka5 _) (fun _=>by kernel_rfl) fun v11 h=>?_
   cases h;exact lj 2
  cases h;exact lo 1 (by kernel_rfl)
 cases h;exact lhy 12
def kfp (a0:S_literal_reader) (a2:Int) (a3:Int) (v3:(Int)×(List Va)):Option (((Int)×(List Va)) ⊕ ((List Va)×(Bool)×(Int))):=((kek (S_literal_reader.mk a0.f_s v3.1)).bind fun v4=>(bif (!v4.1) then (some (.inr (([]:List Va),false,v4.2.1))) else ((app 56 v3.2 ([(Va.mk 2 v4.2.2 (⟨#[]⟩:BA) ([]:List Va))]:List (Va))).bind fun v5=>((kau (S_literal_reader.mk a0.f_s v4.2.1)).bind fun v6=>(bif (v6 == a2) then (some (.inr (v5,true,(w64 (v4.2.1+1))))) else (((bif ((List.length v5:Int) == a3) then (some (true,v4.2.1)) else ((kaq (S_literal_reader.mk a0.f_s v4.2.1) (⟨#[44,32]⟩:BA)).bind fun v7=>(some ((!v7.1),v7.2)))):Option ((Bool)×(Int))).bind fun (v9:(Bool)×(Int))=>(bif v9.1 then (some (.inr (([]:List Va),false,v9.2))) else (some (.inl (v9.2,v5))))))))))
def kgr (a0:S_literal_reader) (a1:Int) (a2:Int) (a3:Int):Option ((List Va)×(Bool)×(Int)):=((kaq a0 (Utf8.encode a1)).bind fun v1=>(bif (!v1.1) then (some (([]:List Va),false,v1.2)) else ((kau (S_literal_reader.mk a0.f_s v1.2)).bind fun v2=>(bif (v2 == a2) then (some (([]:List Va),true,(w64 (v1.2+1)))) else ((kaa (kfp a0 a2 a3) fuel (v1.2,([]:List (Va)))).bind fun (v11:(List Va)×(Bool)×(Int))=>(some (v11.1,v11.2.1,v11.2.2)))))))
theorem kq5 (a0:S_literal_reader) (a1:Int) (a2:Int) (a3:Int) (r:(List Va)×(Bool)×(Int)) (h:kgr a0 a1 a2 a3=some r):kat Tryz.prog 187 ([(.ref 1 0 0),(.fz (eU8 a1)),(.fz (eU8 a2)),(fI a3),(.mth 188 [(.ref 1 0 0)])]++[]) [(1,(.box 202 [(fS a0.f_s),(fI a0.f_at)]))] [1] (.ret (.fz (.tup [(eL 4 eVaR r.1),(eB r.2.1)]))) [(1,(.box 202 [(fS a0.f_s),(fI r.2.2)]))] [1]:=by
 unfold kgr at h
 refine hcx (gi:=0) Tryz.func187 ?_
 intro p0 q0 w0
 refine nst 10 (k0e (sr:=5) (t:=9) (x:=(.tmp 16)) (ds:=tt5) (d:=tt9) (k := .u8) (n:=a1) kb0) ?_
 refine hcl 0 [.one .keep, .one .keep] [(1,1)] [(1,1)] [1] h (kbk _ _) (fun _=>by kernel_rfl) fun v1 h=>?_
 refine cd 2 h (fun h=>?_) fun h=>?_
 ·cases h;exact lhy 6
 refine hcl 5 [.one .keep] [(1,1)] [(1,1)] [1] h (ka5 _) (fun _=>by kernel_rfl) fun v2 h=>?_
 refine cd 3 h (fun h=>?_) fun h=>?_
 ·cases h;exact lhy 17
 refine wle 6 (kl3 (e:=43) (size:=4) (t:=12) (id:=2) (by decide)) ?_
 refine lp1 0 (fun v3=>⟨63,[(0,(.ref 1 0 0)),(2,(.fz (eU8 a2))),(3,(fI a3)),(4,(.mth 188 [(.ref 1 0 0)])),(12,(.row 2 (List.length v3.2)))],[(0,(.was p0 [1] q0 w0)),(1,(.box 202 [(fS a0.f_s),(fI v3.1)])),(2,(.frow 43 4 (List.map eVaR v3.2)))],[2,0,1],[]⟩) .ret (fun v11=>⟨63,[(10,(.fz (eL 4 eVaR v11.1))),(11,(fB v11.2.1))],[(0,(.was p0 [1] q0 w0)),(1,(.box 202 [(fS a0.f_s),(fI v11.2.2)]))],[0,1],[]⟩) h (fun v3 r h=>?_) fun v11 h=>?_
 ·unfold kfp at h
  refine hcl 4 [] [(1,1)] [(1,1),(2,3)] [1] h (klc _) (fun _=>by kernel_rfl) fun v4 h=>?_
  refine cd 13 h (fun h=>?_) fun h=>?_
  ·cases h;exact lo 6 (by kernel_rfl)
  refine wle 5 (le_a:LeSt _ ⟨63,[(0,(.ref 1 0 0)),(2,(.fz (eU8 a2))),(3,(fI a3)),(4,(.mth 188 [(.ref 1 0 0)])),(38,(.row 2 (List.length v3.2))),(39,(.fz (eVa (Va.mk 2 v4.2.2 (⟨#[]⟩:BA) ([]:List Va)))))],[(0,(.was p0 [1] q0 w0)),(1,(.box 202 [(fS a0.f_s),(fI v4.2.1)])),(2,(.frow 43 4 (List.map eVaR v3.2)))],[2,0,1],[]⟩) ?_
  refine wle 1 (kt0 (t:=40) (x := .lim 4 1 [eVa (Va.mk 2 v4.2.2 (⟨#[]⟩:BA) ([]:List Va))]) (y := .lim 4 1 (List.map eVaR ([(Va.mk 2 v4.2.2 (⟨#[]⟩:BA) ([]:List Va))]:List (Va)))) (by kernel_rfl) (by simp only [List.map,kl6])) ?_
  refine ap nVaR 0 h fun v5 h=>?_
  refine hcl 6 [.one .keep] [(1,1)] [(1,1)] [1] h (ka5 _) (fun _=>by kernel_rfl) fun v6 h=>?_
  refine cd 3 h (fun h=>?_) fun h=>?_
  ·refine wle 17 (koz (id:=2) (n:=List.length v5) (e:=43) (size:=4) (xs:=List.map eVaR v5) [10] ⟨by kernel_rfl,trivial⟩ (by kernel_rfl) (by simp)) ?_
   cases h;exact lo 1 (by kernel_rfl)
  refine jn1 2 .normal (fun v9=>⟨63,[(0,(.ref 1 0 0)),(2,(.fz (eU8 a2))),(3,(fI a3)),(4,(.mth 188 [(.ref 1 0 0)])),(12,(.row 2 (List.length v5))),(62,(fB v9.1))],[(0,(.was p0 [1] q0 w0)),(1,(.box 202 [(fS a0.f_s),(fI v9.2)])),(2,(.frow 43 4 (List.map eVaR v5)))],[2,0,1],[]⟩) h (fun v9 h=>?_) fun v9 h=>?_
  ·refine nst 2 (kj0 (t:=41) (x:=(.tmp 54)) (d:=tt41) (id:=2) (e2:=43) (e:=43) (size:=4) (n:=List.length v5) (xs:=List.map eVaR v5) kb0 (by kernel_rfl) (by kernel_rfl) rfl (by kernel_rfl) (by kernel_rfl) (by simp)) ?_
   refine gd 3 h (fun h=>?_) fun h=>?_
   ·cases h;exact lj 5
   refine hcl 1 [.one .keep, .one .keep] [(1,1)] [(1,1)] [1] h (kbk _ _) (fun _=>by kernel_rfl) fun v7 h=>?_
   cases h;exact lj 3
  refine cd 0 h (fun h=>?_) fun h=>?_
  ·cases h;exact lo 6 (by kernel_rfl)
  cases h;exact lj 1
 cases h;exact lhy 0
def kcn (a0:S_literal_reader):Option ((Bool)×(Int)×(BA)):=((kby a0 0 64).bind fun v1=>(some (v1.2.1,v1.2.2,v1.1)))
theorem kkq (a0:S_literal_reader) (r:(Bool)×(Int)×(BA)) (h:kcn a0=some r):kat Tryz.prog 189 ([(.ref 1 0 0)]++[]) [(1,(.box 202 [(fS a0.f_s),(fI a0.f_at)]))] [1] (.ret (.fz (.tup [(.agg [(eI 3),(eI 0),(eS r.2.2),(.atom (.slice none 0 0))]),(eB r.1)]))) [(1,(.box 202 [(fS a0.f_s),(fI r.2.1)])),(2,(.box 43 [(fI 3),(fI 0),(fS r.2.2),(.fz (.atom (.slice none 0 0)))]))] [1,2]:=by
 unfold kcn at h
 refine hcx (gi:=0) Tryz.func189 ?_
 intro p0 q0 w0
 refine hcl 8 [.one .keep, .one .keep, .one .keep] [(1,1)] [(1,1)] [1] h (kjc _ _ _) (fun _=>by kernel_rfl) fun v1 h=>?_
 cases h;exact lhy 15
def kfj (a0:S_literal_reader) (a2:Int) (a3:Int) (v3:(Int)×(List Va)):Option (((Int)×(List Va)) ⊕ ((List Va)×(Bool)×(Int))):=((kcn (S_literal_reader.mk a0.f_s v3.1)).bind fun v4=>(bif (!v4.1) then (some (.inr (([]:List Va),false,v4.2.1))) else ((app 56 v3.2 ([(Va.mk 3 0 v4.2.2 ([]:List Va))]:List (Va))).bind fun v5=>((kau (S_literal_reader.mk a0.f_s v4.2.1)).bind fun v6=>(bif (v6 == a2) then (some (.inr (v5,true,(w64 (v4.2.1+1))))) else (((bif ((List.length v5:Int) == a3) then (some (true,v4.2.1)) else ((kaq (S_literal_reader.mk a0.f_s v4.2.1) (⟨#[44,32]⟩:BA)).bind fun v7=>(some ((!v7.1),v7.2)))):Option ((Bool)×(Int))).bind fun (v9:(Bool)×(Int))=>(bif v9.1 then (some (.inr (([]:List Va),false,v9.2))) else (some (.inl (v9.2,v5))))))))))
def kf7 (a0:S_literal_reader) (a1:Int) (a2:Int) (a3:Int):Option ((List Va)×(Bool)×(Int)):=((kaq a0 (Utf8.encode a1)).bind fun v1=>(bif (!v1.1) then (some (([]:List Va),false,v1.2)) else ((kau (S_literal_reader.mk a0.f_s v1.2)).bind fun v2=>(bif (v2 == a2) then (some (([]:List Va),true,(w64 (v1.2+1)))) else ((kaa (kfj a0 a2 a3) fuel (v1.2,([]:List (Va)))).bind fun (v11:(List Va)×(Bool)×(Int))=>(some (v11.1,v11.2.1,v11.2.2)))))))
theorem kqc (a0:S_literal_reader) (a1:Int) (a2:Int) (a3:Int) (r:(List Va)×(Bool)×(Int)) (h:kf7 a0 a1 a2 a3=some r):kat Tryz.prog 187 ([(.ref 1 0 0),(.fz (eU8 a1)),(.fz (eU8 a2)),(fI a3),(.mth 189 [(.ref 1 0 0)])]++[]) [(1,(.box 202 [(fS a0.f_s),(fI a0.f_at)]))] [1] (.ret (.fz (.tup [(eL 4 eVaR r.1),(eB r.2.1)]))) [(1,(.box 202 [(fS a0.f_s),(fI r.2.2)]))] [1]:=by
 unfold kf7 at h
 refine hcx (gi:=0) Tryz.func187 ?_
 intro p0 q0 w0
 refine nst 10 (k0e (sr:=5) (t:=9) (x:=(.tmp 16)) (ds:=tt5) (d:=tt9) (k := .u8) (n:=a1) kb0) ?_
 refine hcl 0 [.one .keep, .one .keep] [(1,1)] [(1,1)] [1] h (kbk _ _) (fun _=>by kernel_rfl) fun v1 h=>?_
 refine cd 2 h (fun h=>?_) fun h=>?_
 ·cases h;exact lhy 6
 refine hcl 5 [.one .keep] [(1,1)] [(1,1)] [1] h (ka5 _) (fun _=>by kernel_rfl) fun v2 h=>?_
 refine cd 3 h (fun h=>?_) fun h=>?_
 ·cases h;exact lhy 17
 refine wle 6 (kl3 (e:=43) (size:=4) (t:=12) (id:=2) (by decide)) ?_
 refine lp1 0 (fun v3=>⟨63,[(0,(.ref 1 0 0)),(2,(.fz (eU8 a2))),(3,(fI a3)),(4,(.mth 189 [(.ref 1 0 0)])),(12,(.row 2 (List.length v3.2)))],[(0,(.was p0 [1] q0 w0)),(1,(.box 202 [(fS a0.f_s),(fI v3.1)])),(2,(.frow 43 4 (List.map eVaR v3.2)))],[2,0,1],[]⟩) .ret (fun v11=>⟨63,[(10,(.fz (eL 4 eVaR v11.1))),(11,(fB v11.2.1))],[(0,(.was p0 [1] q0 w0)),(1,(.box 202 [(fS a0.f_s),(fI v11.2.2)]))],[0,1],[]⟩) h (fun v3 r h=>?_) fun v11 h=>?_
 ·unfold kfj at h
  refine hcl 4 [] [(1,1)] [(1,1),(2,3)] [1] h (kkq _) (fun _=>by kernel_rfl) fun v4 h=>?_
  refine cd 13 h (fun h=>?_) fun h=>?_
  ·cases h;exact lo 6 (by kernel_rfl)
  refine wle 5 (le_a:LeSt _ ⟨63,[(0,(.ref 1 0 0)),(2,(.fz (eU8 a2))),(3,(fI a3)),(4,(.mth 189 [(.ref 1 0 0)])),(38,(.row 2 (List.length v3.2))),(39,(.fz (eVa (Va.mk 3 0 v4.2.2 ([]:List Va)))))],[(0,(.was p0 [1] q0 w0)),(1,(.box 202 [(fS a0.f_s),(fI v4.2.1)])),(2,(.frow 43 4 (List.map eVaR v3.2)))],[2,0,1],[]⟩) ?_
  refine wle 1 (kt0 (t:=40) (x := .lim 4 1 [eVa (Va.mk 3 0 v4.2.2 ([]:List Va))]) (y := .lim 4 1 (List.map eVaR ([(Va.mk 3 0 v4.2.2 ([]:List Va))]:List (Va)))) (by kernel_rfl) (by simp only [List.map,kl6])) ?_
  refine ap nVaR 0 h fun v5 h=>?_
  refine hcl 6 [.one .keep] [(1,1)] [(1,1)] [1] h (ka5 _) (fun _=>by kernel_rfl) fun v6 h=>?_
  refine cd 3 h (fun h=>?_) fun h=>?_
  ·refine wle 17 (koz (id:=2) (n:=List.length v5) (e:=43) (size:=4) (xs:=List.map eVaR v5) [10] ⟨by kernel_rfl,trivial⟩ (by kernel_rfl) (by simp)) ?_
   cases h;exact lo 1 (by kernel_rfl)
  refine jn1 2 .normal (fun v9=>⟨63,[(0,(.ref 1 0 0)),(2,(.fz (eU8 a2))),(3,(fI a3)),(4,(.mth 189 [(.ref 1 0 0)])),(12,(.row 2 (List.length v5))),(62,(fB v9.1))],[(0,(.was p0 [1] q0 w0)),(1,(.box 202 [(fS a0.f_s),(fI v9.2)])),(2,(.frow 43 4 (List.map eVaR v5)))],[2,0,1],[]⟩) h (fun v9 h=>?_) fun v9 h=>?_
  ·refine nst 2 (kj0 (t:=41) (x:=(.tmp 54)) (d:=tt41) (id:=2) (e2:=43) (e:=43) (size:=4) (n:=List.length v5) (xs:=List.map eVaR v5) kb0 (by kernel_rfl) (by kernel_rfl) rfl (by kernel_rfl) (by kernel_rfl) (by simp)) ?_
   refine gd 3 h (fun h=>?_) fun h=>?_
   ·cases h;exact lj 5
   refine hcl 1 [.one .keep, .one .keep] [(1,1)] [(1,1)] [1] h (kbk _ _) (fun _=>by kernel_rfl) fun v7 h=>?_
   cases h;exact lj 3
  refine cd 0 h (fun h=>?_) fun h=>?_
  ·cases h;exact lo 6 (by kernel_rfl)
  cases h;exact lj 1
 cases h;exact lhy 0
def kia (a0:S_literal_reader):Option Unit:=(some ())
theorem kqz (a0:S_literal_reader) (r:Unit) (h:kia a0=some r):kat Tryz.prog 190 ([(.ref 1 0 0)]++[]) [(1,(.box 202 [(fS a0.f_s),(fI a0.f_at)]))] [1] (.ret (.fn 208 [(.ref 2 0 0),(.ref 3 0 0)])) [(1,(.box 202 [(fS a0.f_s),(fI a0.f_at)])),(2,(.box 200 [(.ref 1 0 0)])),(3,(.box 3 [(fI 0)]))] [1,2,3]:=by
 unfold kia at h
 refine hcx (gi:=0) Tryz.func190 ?_
 intro p0 q0 w0
 cases h;exact lhy 16
def kdt (a0:S_literal_reader) (a1:Int) (v2:(Int)×(List Va)):Option (((Int)×(List Va)) ⊕ ((Bool)×(Int)×(Int)×(Int)×(List Va))):=((kcn (S_literal_reader.mk a0.f_s v2.1)).bind fun v3=>(bif (!v3.1) then (some (.inr (false,v3.2.1,a1,0,([]:List Va)))) else ((app 56 v2.2 ([(Va.mk 3 0 v3.2.2 ([]:List Va))]:List (Va))).bind fun v4=>(((kau (S_literal_reader.mk a0.f_s v3.2.1)).bind fun v5=>(bif (v5 == 125) then (bif (a1 == 0) then (some (true)) else (some ((List.length v4:Int) == a1))) else (some (false)))).bind fun v7=>(bif v7 then (some (.inr (true,(w64 (v3.2.1+1)),(List.length v4:Int),6,v4))) else (((bif ((List.length v4:Int) == 8) then (some (true,v3.2.1)) else (bif ((List.length v4:Int) == a1) then (some (true,v3.2.1)) else ((kaq (S_literal_reader.mk a0.f_s v3.2.1) (⟨#[44,32]⟩:BA)).bind fun v8=>(some ((!v8.1),v8.2))))):Option ((Bool)×(Int))).bind fun (v10:(Bool)×(Int))=>(bif v10.1 then (some (.inr (false,v10.2,a1,0,([]:List Va)))) else (some (.inl (v10.2,v4))))))))))
def kel (a0:S_literal_reader) (a1:Int):Option ((Bool)×(Int)×(Int)×(Int)×(List Va)):=((kaq a0 (⟨#[123]⟩:BA)).bind fun v1=>(bif (!v1.1) then (some (false,v1.2,a1,0,([]:List Va))) else ((kaa (kdt a0 a1) fuel (v1.2,([]:List (Va)))).bind fun (v12:(Bool)×(Int)×(Int)×(Int)×(List Va))=>(some (v12.1,v12.2.1,v12.2.2.1,v12.2.2.2.1,v12.2.2.2.2)))))
theorem kpz (a0:S_literal_reader) (a1:Int) (r:(Bool)×(Int)×(Int)×(Int)×(List Va)) (h:kel a0 a1=some r):kat Tryz.prog 208 ([]++[(.ref 1 0 0),(.ref 3 0 0)]) [(1,(.box 200 [(.ref 2 0 0)])),(2,(.box 202 [(fS a0.f_s),(fI a0.f_at)])),(3,(.box 3 [(fI a1)]))] [1,2,3] (.ret (.fz (.tup [(.agg [(eI r.2.2.2.1),(eI 0),(eS (⟨#[]⟩:BA)),(eL 4 eVaR r.2.2.2.2)]),(eB r.1)]))) [(1,(.box 200 [(.ref 2 0 0)])),(2,(.box 202 [(fS a0.f_s),(fI r.2.1)])),(3,(.box 3 [(fI r.2.2.1)])),(4,(.box 43 [(fI r.2.2.2.1),(fI 0),(fS (⟨#[]⟩:BA)),(.fz (eL 4 eVaR r.2.2.2.2))]))] [1,2,3,4]:=by
 unfold kel at h
 refine hcx (gi:=0) Tryz.func208 ?_
 intro p0 q0 w0
 refine hcl 9 [.one .keep, .one .keep] [(2,1)] [(1,2)] [1] h (kbk _ _) (fun _=>by kernel_rfl) fun v1 h=>?_
 refine cd 2 h (fun h=>?_) fun h=>?_
 ·cases h;exact lhy 7
 refine wle 8 (ket (e2:=43) (e:=43) (size:=4) (id2:=5) (j:=3) (id:=6) (cells:=[(fI 6),(fI 0),(fS (⟨#[]⟩:BA)),(.fz (.atom (.slice none 0 0)))])) ?_
 refine lp1 0 (fun v2=>⟨64,[(0,(.ref 1 0 0)),(1,(.ref 3 0 0)),(2,(.ref 4 0 0)),(4,(.ref 5 0 0))],[(0,(.was p0 [1,2,3] q0 w0)),(1,(.box 200 [(.ref 2 0 0)])),(2,(.box 202 [(fS a0.f_s),(fI v2.1)])),(3,(.box 3 [(fI a1)])),(4,(.box 43 [(fI 0),(fI 0),(fS (⟨#[]⟩:BA)),(.fz (.atom (.slice none 0 0)))])),(5,(.box 43 [(fI 6),(fI 0),(fS (⟨#[]⟩:BA)),(.row 6 (List.length v2.2))])),(6,(.frow 43 4 (List.map eVaR v2.2)))],[6,5,4,0,1,2,3],[]⟩) .ret (fun v12=>⟨64,[(2,(.ref 4 0 0)),(3,(fB v12.1))],[(0,(.was p0 [1,2,3] q0 w0)),(1,(.box 200 [(.ref 2 0 0)])),(2,(.box 202 [(fS a0.f_s),(fI v12.2.1)])),(3,(.box 3 [(fI v12.2.2.1)])),(4,(.box 43 [(fI v12.2.2.2.1),(fI 0),(fS (⟨#[]⟩:BA)),(.fz (eL 4 eVaR v12.2.2.2.2))]))],[4,0,1,2,3],[]⟩) h (fun v2 r h=>?_) fun v12 h=>?_
 ·unfold kdt at h
  refine hcl 4 [.one .keep] [(2,1)] [(1,2),(2,7)] [1] h (kkq _) (fun _=>by kernel_rfl) fun v3 h=>?_
  refine cd 13 h (fun h=>?_) fun h=>?_
  ·cases h;exact lo 7 (by kernel_rfl)
  refine wle 6 (le_a:LeSt _ ⟨64,[(0,(.ref 1 0 0)),(1,(.ref 3 0 0)),(2,(.ref 4 0 0)),(4,(.ref 5 0 0)),(22,(.row 6 (List.length v2.2))),(23,(.fz (eVa (Va.mk 3 0 v3.2.2 ([]:List Va)))))],[(0,(.was p0 [1,2,3] q0 w0)),(1,(.box 200 [(.ref 2 0 0)])),(2,(.box 202 [(fS a0.f_s),(fI v3.2.1)])),(3,(.box 3 [(fI a1)])),(4,(.box 43 [(fI 0),(fI 0),(fS (⟨#[]⟩:BA)),(.fz (.atom (.slice none 0 0)))])),(5,(.box 43 [(fI 6),(fI 0),(fS (⟨#[]⟩:BA)),(.row 6 (List.length v2.2))])),(6,(.frow 43 4 (List.map eVaR v2.2)))],[6,5,4,0,1,2,3],[]⟩) ?_
  refine wle 1 (kt0 (t:=24) (x := .lim 4 1 [eVa (Va.mk 3 0 v3.2.2 ([]:List Va))]) (y := .lim 4 1 (List.map eVaR ([(Va.mk 3 0 v3.2.2 ([]:List Va))]:List (Va)))) (by kernel_rfl) (by simp only [List.map,kl6])) ?_
  refine ap nVaR 0 h fun v4 h=>?_
  refine nst 7 (kj0 (t:=41) (x:=(.tmp 28)) (d:=tt41) (id:=6) (e2:=43) (e:=43) (size:=4) (n:=List.length v4) (xs:=List.map eVaR v4) kb0 (by kernel_rfl) (by kernel_rfl) rfl (by kernel_rfl) (by kernel_rfl) (by simp)) ?_
  refine jn1 4 .normal (fun v7=>⟨64,[(0,(.ref 1 0 0)),(1,(.ref 3 0 0)),(2,(.ref 4 0 0)),(4,(.ref 5 0 0)),(7,(fI (List.length v4:Int))),(41,(fB v7))],[(0,(.was p0 [1,2,3] q0 w0)),(1,(.box 200 [(.ref 2 0 0)])),(2,(.box 202 [(fS a0.f_s),(fI v3.2.1)])),(3,(.box 3 [(fI a1)])),(4,(.box 43 [(fI 0),(fI 0),(fS (⟨#[]⟩:BA)),(.fz (.atom (.slice none 0 0)))])),(5,(.box 43 [(fI 6),(fI 0),(fS (⟨#[]⟩:BA)),(.row 6 (List.length v4))])),(6,(.frow 43 4 (List.map eVaR v4)))],[6,5,4,0,1,2,3],[]⟩) h (fun v7 h=>?_) fun v7 h=>?_
  ·refine hcl 2 [.one .keep] [(2,1)] [(1,2)] [1] h (ka5 _) (fun _=>by kernel_rfl) fun v5 h=>?_
   refine gd 2 h (fun h=>?_) fun h=>?_
   ·refine gd 3 h (fun h=>?_) fun h=>?_
    ·cases h;exact lj 6
    cases h;exact lj 6
   cases h;exact lj 9
  refine cd 0 h (fun h=>?_) fun h=>?_
  ·refine wle 22 (kjs (e2:=43) (id2:=4) (j:=3) (id:=6) (n:=List.length v4) (e:=43) (size:=4) (xs:=List.map eVaR v4) (cells:=[(fI 6),(fI 0),(fS (⟨#[]⟩:BA)),(.row 6 (List.length v4))]) (by kernel_rfl) (by kernel_rfl) (by kernel_rfl) (by simp)) ?_
   cases h;exact lo 1 (by kernel_rfl)
  refine jn1 2 .normal (fun v10=>⟨64,[(0,(.ref 1 0 0)),(1,(.ref 3 0 0)),(2,(.ref 4 0 0)),(4,(.ref 5 0 0)),(62,(fB v10.1))],[(0,(.was p0 [1,2,3] q0 w0)),(1,(.box 200 [(.ref 2 0 0)])),(2,(.box 202 [(fS a0.f_s),(fI v10.2)])),(3,(.box 3 [(fI a1)])),(4,(.box 43 [(fI 0),(fI 0),(fS (⟨#[]⟩:BA)),(.fz (.atom (.slice none 0 0)))])),(5,(.box 43 [(fI 6),(fI 0),(fS (⟨#[]⟩:BA)),(.row 6 (List.length v4))])),(6,(.frow 43 4 (List.map eVaR v4)))],[6,5,4,0,1,2,3],[]⟩) h (fun v10 h=>?_) fun v10 h=>?_
  ·refine gd 4 h (fun h=>?_) fun h=>?_
   ·cases h;exact lj 10
   refine gd 5 h (fun h=>?_) fun h=>?_
   ·cases h;exact lj 5
   refine hcl 1 [.one .keep, .one .keep] [(2,1)] [(1,2)] [1] h (kbk _ _) (fun _=>by kernel_rfl) fun v8 h=>?_
   cases h;exact lj 3
  refine cd 0 h (fun h=>?_) fun h=>?_
  ·cases h;exact lo 7 (by kernel_rfl)
  cases h;exact lj 1
 cases h;exact lhy 0
def kd0 (a0:S_literal_reader) (a2:Int) (a3:Int) (v3:(Int)×(Int)×(List Va)):Option (((Int)×(Int)×(List Va)) ⊕ ((List Va)×(Bool)×(Int)×(Int))):=((kel (S_literal_reader.mk a0.f_s v3.1) v3.2.1).bind fun v4=>(bif (!v4.1) then (some (.inr (([]:List Va),false,v4.2.1,v4.2.2.1))) else ((app 56 v3.2.2 ([(Va.mk v4.2.2.2.1 0 (⟨#[]⟩:BA) v4.2.2.2.2)]:List (Va))).bind fun v5=>((kau (S_literal_reader.mk a0.f_s v4.2.1)).bind fun v6=>(bif (v6 == a2) then (some (.inr (v5,true,(w64 (v4.2.1+1)),v4.2.2.1))) else (((bif ((List.length v5:Int) == a3) then (some (true,v4.2.1)) else ((kaq (S_literal_reader.mk a0.f_s v4.2.1) (⟨#[44,32]⟩:BA)).bind fun v7=>(some ((!v7.1),v7.2)))):Option ((Bool)×(Int))).bind fun (v9:(Bool)×(Int))=>(bif v9.1 then (some (.inr (([]:List Va),false,v9.2,v4.2.2.1))) else (some (.inl (v9.2,v4.2.2.1,v5))))))))))
def kf8 (a0:S_literal_reader) (a1:Int) (a2:Int) (a3:Int) (a4:Int):Option ((List Va)×(Bool)×(Int)×(Int)):=((kaq a0 (Utf8.encode a1)).bind fun v1=>(bif (!v1.1) then (some (([]:List Va),false,v1.2,a4)) else ((kau (S_literal_reader.mk a0.f_s v1.2)).bind fun v2=>(bif (v2 == a2) then (some (([]:List Va),true,(w64 (v1.2+1)),a4)) else ((kaa (kd0 a0 a2 a3) fuel (v1.2,a4,([]:List (Va)))).bind fun (v11:(List Va)×(Bool)×(Int)×(Int))=>(some (v11.1,v11.2.1,v11.2.2.1,v11.2.2.2)))))))
theorem kqf (a0:S_literal_reader) (a1:Int) (a2:Int) (a3:Int) (a4:Int) (r:(List Va)×(Bool)×(Int)×(Int)) (h:kf8 a0 a1 a2 a3 a4=some r):kat Tryz.prog 187 ([(.ref 1 0 0),(.fz (eU8 a1)),(.fz (eU8 a2)),(fI a3),(.fn 208 [(.ref 2 0 0),(.ref 3 0 0)])]++[]) [(1,(.box 202 [(fS a0.f_s),(fI a0.f_at)])),(2,(.box 200 [(.ref 1 0 0)])),(3,(.box 3 [(fI a4)]))] [1,2,3] (.ret (.fz (.tup [(eL 4 eVaR r.1),(eB r.2.1)]))) [(1,(.box 202 [(fS a0.f_s),(fI r.2.2.1)])),(2,(.box 200 [(.ref 1 0 0)])),(3,(.box 3 [(fI r.2.2.2)]))] [1,2,3]:=by
 unfold kf8 at h
 refine hcx (gi:=0) Tryz.func187 ?_
 intro p0 q0 w0
 refine nst 10 (k0e (sr:=5) (t:=9) (x:=(.tmp 16)) (ds:=tt5) (d:=tt9) (k := .u8) (n:=a1) kb0) ?_
 refine hcl 0 [.one .keep, .one .keep] [(1,1)] [(1,1)] [1] h (kbk _ _) (fun _=>by kernel_rfl) fun v1 h=>?_
 refine cd 2 h (fun h=>?_) fun h=>?_
 ·cases h;exact lhy 6
 refine hcl 5 [.one .keep] [(1,1)] [(1,1)] [1] h (ka5 _) (fun _=>by kernel_rfl) fun v2 h=>?_
 refine cd 3 h (fun h=>?_) fun h=>?_
 ·cases h;exact lhy 17
 refine wle 6 (kl3 (e:=43) (size:=4) (t:=12) (id:=4) (by decide)) ?_
 refine lp1 0 (fun v3=>⟨63,[(0,(.ref 1 0 0)),(2,(.fz (eU8 a2))),(3,(fI a3)),(4,(.fn 208 [(.ref 2 0 0),(.ref 3 0 0)])),(12,(.row 4 (List.length v3.2.2)))],[(0,(.was p0 [1,2,3] q0 w0)),(1,(.box 202 [(fS a0.f_s),(fI v3.1)])),(2,(.box 200 [(.ref 1 0 0)])),(3,(.box 3 [(fI v3.2.1)])),(4,(.frow 43 4 (List.map eVaR v3.2.2)))],[4,0,1,2,3],[]⟩) .ret (fun v11=>⟨63,[(10,(.fz (eL 4 eVaR v11.1))),(11,(fB v11.2.1))],[(0,(.was p0 [1,2,3] q0 w0)),(1,(.box 202 [(fS a0.f_s),(fI v11.2.2.1)])),(2,(.box 200 [(.ref 1 0 0)])),(3,(.box 3 [(fI v11.2.2.2)]))],[0,1,2,3],[]⟩) h (fun v3 r h=>?_) fun v11 h=>?_
 ·unfold kd0 at h
  refine hcl 4 [] [(2,1),(1,2),(3,3)] [(1,2),(2,1),(3,3),(4,5)] [1,2,3] h (kpz _ _) (fun _=>by kernel_rfl) fun v4 h=>?_
  refine cd 13 h (fun h=>?_) fun h=>?_
  ·cases h;exact lo 6 (by kernel_rfl)
  refine wle 5 (le_a:LeSt _ ⟨63,[(0,(.ref 1 0 0)),(2,(.fz (eU8 a2))),(3,(fI a3)),(4,(.fn 208 [(.ref 2 0 0),(.ref 3 0 0)])),(38,(.row 4 (List.length v3.2.2))),(39,(.fz (eVa (Va.mk v4.2.2.2.1 0 (⟨#[]⟩:BA) v4.2.2.2.2))))],[(0,(.was p0 [1,2,3] q0 w0)),(1,(.box 202 [(fS a0.f_s),(fI v4.2.1)])),(2,(.box 200 [(.ref 1 0 0)])),(3,(.box 3 [(fI v4.2.2.1)])),(4,(.frow 43 4 (List.map eVaR v3.2.2)))],[4,0,1,2,3],[]⟩) ?_
  refine wle 1 (kt0 (t:=40) (x := .lim 4 1 [eVa (Va.mk v4.2.2.2.1 0 (⟨#[]⟩:BA) v4.2.2.2.2)]) (y := .lim 4 1 (List.map eVaR ([(Va.mk v4.2.2.2.1 0 (⟨#[]⟩:BA) v4.2.2.2.2)]:List (Va)))) (by kernel_rfl) (by simp only [List.map,kl6])) ?_
  refine ap nVaR 0 h fun v5 h=>?_
  refine hcl 6 [.one .keep] [(1,1)] [(1,1)] [1] h (ka5 _) (fun _=>by kernel_rfl) fun v6 h=>?_
  refine cd 3 h (fun h=>?_) fun h=>?_
  ·refine wle 17 (koz (id:=4) (n:=List.length v5) (e:=43) (size:=4) (xs:=List.map eVaR v5) [10] ⟨by kernel_rfl,trivial⟩ (by kernel_rfl) (by simp)) ?_
   cases h;exact lo 1 (by kernel_rfl)
  refine jn1 2 .normal (fun v9=>⟨63,[(0,(.ref 1 0 0)),(2,(.fz (eU8 a2))),(3,(fI a3)),(4,(.fn 208 [(.ref 2 0 0),(.ref 3 0 0)])),(12,(.row 4 (List.length v5))),(62,(fB v9.1))],[(0,(.was p0 [1,2,3] q0 w0)),(1,(.box 202 [(fS a0.f_s),(fI v9.2)])),(2,(.box 200 [(.ref 1 0 0)])),(3,(.box 3 [(fI v4.2.2.1)])),(4,(.frow 43 4 (List.map eVaR v5)))],[4,0,1,2,3],[]⟩) h (fun v9 h=>?_) fun v9 h=>?_
  ·refine nst 2 (kj0 (t:=41) (x:=(.tmp 54)) (d:=tt41) (id:=4) (e2:=43) (e:=43) (size:=4) (n:=List.length v5) (xs:=List.map eVaR v5) kb0 (by kernel_rfl) (by kernel_rfl) rfl (by kernel_rfl) (by kernel_rfl) (by simp)) ?_
   refine gd 3 h (fun h=>?_) fun h=>?_
   ·cases h;exact lj 5
   refine hcl 1 [.one .keep, .one .keep] [(1,1)] [(1,1)] [1] h (kbk _ _) (fun _=>by kernel_rfl) fun v7 h=>?_
   cases h;exact lj 3
  refine cd 0 h (fun h=>?_) fun h=>?_
  ·cases h;exact lo 6 (by kernel_rfl)
  cases h;exact lj 1
 cases h;exact lhy 0
def ked (a0:S_literal_reader) (v1:(Int)×(Int)×(Int)):Option (((Int)×(Int)×(Int)) ⊕ (((Int)×(Int)) ⊕ (Int))):=(bif (decide (v1.2.1<2)) then ((kau (S_literal_reader.mk a0.f_s v1.2.2)).bind fun v2=>((kmw v2).bind fun v3=>((bif (decide ((a0.f_s.size:Int)≤v1.2.2)) then (some (true)) else (some (decide (v3<0)))).bind fun v5=>(bif v5 then (some (.inr (.inr v1.2.2))) else (some (.inl ((w64 ((w64 (16*v1.1))+v3)),(w64 (v1.2.1+1)),(w64 (v1.2.2+1))))))))) else (some (.inr (.inl (v1.1,v1.2.2)))))
def kgq (a0:S_literal_reader):Option ((Bool)×(Int)×(Int)×(Int)):=((kaa (ked a0) fuel (0,0,(w64 (a0.f_at+2)))).bind fun (v6:(((Int)×(Int)) ⊕ (Int)))=>Sum.elim (fun v7=>(some (true,v7.2,4,v7.1))) (fun v8=>(some (false,v8,0,0))) v6)
theorem kqv (a0:S_literal_reader) (r:(Bool)×(Int)×(Int)×(Int)) (h:kgq a0=some r):kat Tryz.prog 191 ([(.ref 1 0 0)]++[]) [(1,(.box 202 [(fS a0.f_s),(fI a0.f_at)]))] [1] (.ret (.fz (.tup [(.agg [(eI r.2.2.1),(eI r.2.2.2),(eS (⟨#[]⟩:BA)),(.atom (.slice none 0 0))]),(eB r.1)]))) [(1,(.box 202 [(fS a0.f_s),(fI r.2.1)])),(2,(.box 43 [(fI r.2.2.1),(fI r.2.2.2),(fS (⟨#[]⟩:BA)),(.fz (.atom (.slice none 0 0)))]))] [1,2]:=by
 unfold kgq at h
 refine hcx (gi:=0) Tryz.func191 ?_
 intro p0 q0 w0
 refine lpx 26 (fun v1=>⟨47,[(0,(.ref 1 0 0)),(2,(.ref 2 0 0)),(4,(fI v1.1)),(13,(fI v1.2.1))],[(0,(.was p0 [1] q0 w0)),(1,(.box 202 [(fS a0.f_s),(fI v1.2.2)])),(2,(.box 43 [(fI 0),(fI 0),(fS (⟨#[]⟩:BA)),(.fz (.atom (.slice none 0 0)))]))],[2,0,1],[]⟩) (fun v6 e st=>Sum.elim (fun p=>e = .exit 0∧LeSt st ⟨47,[(2,(.ref 2 0 0)),(4,(fI (p.1)))],[(0,(.was p0 [1] q0 w0)),(1,(.box 202 [(fS a0.f_s),(fI (p.2))])),(2,(.box 43 [(fI 0),(fI 0),(fS (⟨#[]⟩:BA)),(.fz (.atom (.slice none 0 0)))]))],[2,0,1],[]⟩) (fun p=>e = .ret∧LeSt st ⟨47,[(2,(.ref 2 0 0)),(3,(fB (false)))],[(0,(.was p0 [1] q0 w0)),(1,(.box 202 [(fS a0.f_s),(fI (p))])),(2,(.box 43 [(fI 0),(fI 0),(fS (⟨#[]⟩:BA)),(.fz (.atom (.slice none 0 0)))]))],[2,0,1],[]⟩) v6) h (by kernel_rfl) (le_a) (fun v1 r h=>?_) fun v6 h e st' hq=>?_
 ·unfold ked at h
  refine cd 5 h (fun h=>?_) fun h=>?_
  ·refine hcl 6 [.one .keep] [(1,1)] [(1,1)] [1] h (ka5 _) (fun _=>by kernel_rfl) fun v2 h=>?_
   refine cl 0 h (k0p _) (by kernel_rfl) fun v3 h=>?_
   refine jn1 4 .normal (fun v5=>⟨47,[(0,(.ref 1 0 0)),(2,(.ref 2 0 0)),(4,(fI v1.1)),(5,(fI v3)),(13,(fI v1.2.1)),(31,(fB v5))],[(0,(.was p0 [1] q0 w0)),(1,(.box 202 [(fS a0.f_s),(fI v1.2.2)])),(2,(.box 43 [(fI 0),(fI 0),(fS (⟨#[]⟩:BA)),(.fz (.atom (.slice none 0 0)))]))],[2,0,1],[]⟩) h (fun v5 h=>?_) fun v5 h=>?_
   ·refine dw 0 9 ?_
    refine gd 12 h (fun h=>?_) fun h=>?_
    ·cases h;exact lj 4
    cases h;exact lj 4
   refine cd 0 h (fun h=>?_) fun h=>?_
   ·cases h;exact lo 7 (by kernel_rfl)
   cases h;exact lj 23
  cases h;exact lo 1 (by kernel_rfl)
 rcases v6 with v7 | v8
 ·try simp only [qf,qg] at h
  obtain ⟨rfl,hle⟩:=hq
  refine ⟨_,hle,?_⟩
  cases h;exact lhy 8
 ·try simp only [qf,qg] at h
  obtain ⟨rfl,hle⟩:=hq
  refine ⟨_,hle,?_⟩
  cases h;exact lhy 0
def ke2 (a0:S_literal_reader):Option ((Bool)×(Int)×(Int)×(Int)×(BA)×(List Va)):=((kau a0).bind fun v1=>(((bif (v1 == 116) then ((kaq a0 (⟨#[116,114,117,101]⟩:BA)).bind fun v2=>(some (.inr (v2.1,v2.2,1,1,(⟨#[]⟩:BA),([]:List Va))))) else (bif (v1 == 102) then ((kaq a0 (⟨#[102,97,108,115,101]⟩:BA)).bind fun v3=>(some (.inr (v3.1,v3.2,1,0,(⟨#[]⟩:BA),([]:List Va))))) else (bif (v1 == 34) then ((kby a0 0 64).bind fun v4=>(some (.inr (v4.2.1,v4.2.2,3,0,v4.1,([]:List Va))))) else (bif (v1 == 114) then ((kby (S_literal_reader.mk a0.f_s (w64 (a0.f_at+1))) 1 40).bind fun v5=>(some (.inr (v5.2.1,v5.2.2,8,0,v5.1,([]:List Va))))) else (bif (v1 == 91) then ((kgr a0 91 93 16).bind fun v6=>(some (.inr (v6.2.1,v6.2.2,5,0,(⟨#[]⟩:BA),v6.1)))) else (bif (v1 == 123) then ((kf7 a0 123 125 16).bind fun v7=>(some (.inr (v7.2.1,v7.2.2,6,0,(⟨#[]⟩:BA),v7.1)))) else (bif (v1 == 60) then ((kia a0).bind fun v8=>((kf8 a0 60 62 8 0).bind fun v9=>(some (.inr (v9.2.1,v9.2.2.1,7,0,(⟨#[]⟩:BA),v9.1))))) else (bif (v1 == 48) then ((cutS a0.f_s a0.f_at a0.f_s.size).bind fun v10=>((kcg v10 (⟨#[48,120]⟩:BA)).bind fun v11=>(bif v11 then ((kgq a0).bind fun v12=>(some (.inr (v12.1,v12.2.1,v12.2.2.1,v12.2.2.2,(⟨#[]⟩:BA),([]:List Va))))) else (some (.inl ()))))) else (some (.inl ())))))))))):Option ((Unit) ⊕ ((Bool)×(Int)×(Int)×(Int)×(BA)×(List Va)))).bind fun (v13:((Unit) ⊕ ((Bool)×(Int)×(Int)×(Int)×(BA)×(List Va))))=>Sum.elim (fun v14=>((kek a0).bind fun v15=>(some (v15.1,v15.2.1,2,v15.2.2,(⟨#[]⟩:BA),([]:List Va))))) (fun v16=>(some (v16.1,v16.2.1,v16.2.2.1,v16.2.2.2.1,v16.2.2.2.2.1,v16.2.2.2.2.2))) v13))
theorem kqi (a0:S_literal_reader) (r:(Bool)×(Int)×(Int)×(Int)×(BA)×(List Va)) (h:ke2 a0=some r):kat Tryz.prog 160 ([(.ref 1 0 0)]++[]) [(1,(.box 202 [(fS a0.f_s),(fI a0.f_at)]))] [1] (.ret (.fz (.tup [(.agg [(eI r.2.2.1),(eI r.2.2.2.1),(eS r.2.2.2.2.1),(eL 4 eVaR r.2.2.2.2.2)]),(eB r.1)]))) [(1,(.box 202 [(fS a0.f_s),(fI r.2.1)])),(2,(.box 43 [(fI r.2.2.1),(fI r.2.2.2.1),(fS r.2.2.2.2.1),(.fz (eL 4 eVaR r.2.2.2.2.2))]))] [1,2]:=by
 unfold ke2 at h
 refine hcx (gi:=0) Tryz.func160 ?_
 intro p0 q0 w0
 refine hcl 9 [.one .keep] [(1,1)] [(1,1)] [1] h (ka5 _) (fun _=>by kernel_rfl) fun v1 h=>?_
 refine jnQ 7 (fun v13 e st=>Sum.elim (fun p=>e = .normal∧LeSt st ⟨111,[(0,(.ref 1 0 0)),(2,(.ref 2 0 0))],[(0,(.was p0 [1] q0 w0)),(1,(.box 202 [(fS a0.f_s),(fI a0.f_at)])),(2,(.box 43 [(fI 0),(fI 0),(fS (⟨#[]⟩:BA)),(.fz (.atom (.slice none 0 0)))]))],[2,0,1],[]⟩) (fun p=>e = .ret∧LeSt st ⟨111,[(2,(.ref 2 0 0)),(3,(fB (p.1)))],[(0,(.was p0 [1] q0 w0)),(1,(.box 202 [(fS a0.f_s),(fI (p.2.1))])),(2,(.box 43 [(fI (p.2.2.1)),(fI (p.2.2.2.1)),(fS (p.2.2.2.2.1)),(.fz (eL 4 eVaR (p.2.2.2.2.2)))]))],[2,0,1],[]⟩) v13) h (fun v13 h=>?_) fun v13 h e st' hq=>?_
 ·refine cd 5 h (fun h=>?_) fun h=>?_
  ·refine hcl 4 [.one .keep, .one .keep] [(1,1)] [(1,1)] [1] h (kbk _ _) (fun _=>by kernel_rfl) fun v2 h=>?_
   cases h;exact lj 4
  refine cd 5 h (fun h=>?_) fun h=>?_
  ·refine hcl 4 [.one .keep, .one .keep] [(1,1)] [(1,1)] [1] h (kbk _ _) (fun _=>by kernel_rfl) fun v3 h=>?_
   cases h;exact lj 4
  refine cd 5 h (fun h=>?_) fun h=>?_
  ·refine hcl 3 [.one .keep, .one .keep, .one .keep] [(1,1)] [(1,1)] [1] h (kjc _ _ _) (fun _=>by kernel_rfl) fun v4 h=>?_
   cases h;exact lj 15
  refine cd 5 h (fun h=>?_) fun h=>?_
  ·refine hcl 14 [.one .keep, .one .keep, .one .keep] [(1,1)] [(1,1)] [1] h (kjc _ _ _) (fun _=>by kernel_rfl) fun v5 h=>?_
   cases h;exact lj 15
  refine cd 5 h (fun h=>?_) fun h=>?_
  ·refine hcl 5 [.one .keep, .one .keep, .one .keep, .one .keep, .one .keep] [(1,1)] [(1,1)] [1] h (kq5 _ _ _ _) (fun _=>by kernel_rfl) fun v6 h=>?_
   cases h;exact lj 15
  refine cd 5 h (fun h=>?_) fun h=>?_
  ·refine hcl 5 [.one .keep, .one .keep, .one .keep, .one .keep, .one .keep] [(1,1)] [(1,1)] [1] h (kqc _ _ _ _) (fun _=>by kernel_rfl) fun v7 h=>?_
   cases h;exact lj 15
  refine cd 5 h (fun h=>?_) fun h=>?_
  ·refine hcl 4 [.one .keep] [(1,1)] [(1,1),(2,3),(3,4)] [1] h (kqz _) (fun _=>by kernel_rfl) fun v8 h=>?_
   refine hcl 0 [.one .keep, .one .keep, .one .keep, .one .keep, .one .keep] [(1,1),(3,2),(4,3)] [(1,1),(2,3),(3,4)] [1,2,3] h (kqf _ _ _ _ _) (fun _=>by kernel_rfl) fun v9 h=>?_
   cases h;exact lj 15
  refine cd 5 h (fun h=>?_) fun h=>?_
  ·refine dw 1 8 ?_
   obtain ⟨v10,hv10,h⟩:=qi.1 h
   refine nst 9 (kjv (t:=9) (x:=(.tmp 96)) (lo:=(some (.tmp 100))) (hi:=none) (d:=tt9) (s:=a0.f_s) (l:=(some a0.f_at)) (h:=none) hv10 kb0) ?_
   refine cl 0 h (kkv _ _) (by kernel_rfl) fun v11 h=>?_
   refine cd 1 h (fun h=>?_) fun h=>?_
   ·refine hcl 3 [.one .keep] [(1,1)] [(1,1),(2,3)] [1] h (kqv _) (fun _=>by kernel_rfl) fun v12 h=>?_
    cases h;exact lj 6
   cases h;exact lj 1
  cases h;exact lj 1
 rcases v13 with v14 | v16
 ·try simp only [qf,qg] at h
  obtain ⟨rfl,hle⟩:=hq
  refine ⟨_,hle,?_⟩
  refine hcl 3 [.one .keep] [(1,1)] [(1,1),(2,3)] [1] h (klc _) (fun _=>by kernel_rfl) fun v15 h=>?_
  cases h;exact lhy 6
 ·try simp only [qf,qg] at h
  obtain ⟨rfl,hle⟩:=hq
  refine ⟨_,hle,?_⟩
  cases h;exact lhy 0
def kgi (a0:BA):Option ((Va)×(Int)×(Int)):=((ke2 (S_literal_reader.mk a0 0)).bind fun v1=>((bif (!v1.1) then (some (true)) else (some (decide (v1.2.1<(a0.size:Int))))).bind fun v3=>(bif v3 then (some ((Va.mk 0 0 (⟨#[]⟩:BA) ([]:List Va)),v1.2.1,8)) else (some ((Va.mk v1.2.2.1 v1.2.2.2.1 v1.2.2.2.2.1 v1.2.2.2.2.2),0,0)))))
theorem kkz (a0:BA) (r:(Va)×(Int)×(Int)) (h:kgi a0=some r):kae Tryz.prog 128 [eS a0] (.tup [eVa r.1,eI r.2.1,eI r.2.2]):=by
 unfold kgi at h
 refine pcl [.ag [.keep, .keep, .keep, .sl 4], .one .keep, .one .keep] Tryz.func128 ?_
 refine hcl 16 [.one .keep] [(2,1)] [(1,2),(2,3)] [1] h (kqi _) (fun _=>by kernel_rfl) fun v1 h=>?_
 refine jn1 9 .normal (fun v3=>⟨33,[(2,(.ref 1 0 0)),(5,(.ref 2 0 0)),(6,(.ref 4 0 0)),(26,(fB v3))],[(1,(.box 43 [(fI 0),(fI 0),(fS (⟨#[]⟩:BA)),(.fz (.atom (.slice none 0 0)))])),(2,(.box 202 [(fS a0),(fI v1.2.1)])),(4,(.box 43 [(fI v1.2.2.1),(fI v1.2.2.2.1),(fS v1.2.2.2.2.1),(.fz (eL 4 eVaR v1.2.2.2.2.2))]))],[4,2,1],[]⟩) h (fun v3 h=>?_) fun v3 h=>?_
 ·refine gd 4 h (fun h=>?_) fun h=>?_
  ·cases h;exact lj 9
  cases h;exact lj 9
 refine cd 0 h (fun h=>?_) fun h=>?_
 ·refine dz 1 6 [5] [1] (List.range 5) (by kernel_rfl) ?_
  cases h;exact lq 11
 cases h;exact lq 9
def ki6 (a0:Int):Option Bool:=((bif (decide (48≤a0)) then (some (decide (a0≤57))) else (some (false))).bind fun v2=>(some v2))
theorem kp4 (a0:Int) (r:Bool) (h:ki6 a0=some r):kae Tryz.prog 127 [eU8 a0] (eB r):=by
 unfold ki6 at h
 refine pcl [.one .keep] Tryz.func127 ?_
 refine jn1 5 .normal (fun v2=>⟨9,[(2,(fB v2))],[],[],[]⟩) h (fun v2 h=>?_) fun v2 h=>?_
 ·refine gd 4 h (fun h=>?_) fun h=>?_
  ·cases h;exact lj 5
  cases h;exact lj 5
 cases h;exact lq 1
def kq9 (a0:Bool):Option (Va):=(bif a0 then (some (Va.mk 1 1 (⟨#[]⟩:BA) ([]:List Va))) else (some (Va.mk 1 0 (⟨#[]⟩:BA) ([]:List Va))))
theorem kzk (a0:Bool) (r:Va) (h:kq9 a0=some r):kae Tryz.prog 113 [eB a0] (eVa r):=by
 unfold kq9 at h
 refine pcl [.ag [.keep, .keep, .keep, .sl 4]] Tryz.func113 ?_
 refine cd 9 h (fun h=>?_) fun h=>?_
 ·cases h;exact lq 6
 cases h;exact lq 7
def ki7 (a0:BA):Option ((Int)×(Bool)):=((bif ((a0.size:Int) == 3) then ((cutS a0 0 2).bind fun v1=>(bif (v1.toList == (⟨#[105,110]⟩:BA).toList) then ((byt a0 2).bind fun v2=>(bif (decide (48≤v2)) then ((byt a0 2).bind fun v3=>(some (decide (v3<52)))) else (some (false)))) else (some (false)))) else (some (false))).bind fun v5=>(bif v5 then ((byt a0 2).bind fun v6=>(some ((w64 (wu8 (v6 - 48))),true))) else (some (0,false))))
theorem kp5 (a0:BA) (r:(Int)×(Bool)) (h:ki7 a0=some r):kae Tryz.prog 114 [eS a0] (.tup [eI r.1,eB r.2]):=by
 unfold ki7 at h
 refine pcl [.one .keep, .one .keep] Tryz.func114 ?_
 refine jn1 7 .normal (fun v5=>⟨26,[(0,(fS a0)),(21,(fB v5))],[],[],[]⟩) h (fun v5 h=>?_) fun v5 h=>?_
 ·refine gd 5 h (fun h=>?_) fun h=>?_
  ·obtain ⟨v1,hv1,h⟩:=qi.1 h
   refine nst 1 (kjv (t:=9) (x:=(.tmp 8)) (lo:=none) (hi:=(some (.const (.int .i64 2)))) (d:=tt9) (s:=a0) (l:=none) (h:=(some 2)) hv1 kb0) ?_
   refine gd 3 h (fun h=>?_) fun h=>?_
   ·refine byx 1 h fun v2 h=>?_
    refine gd 3 h (fun h=>?_) fun h=>?_
    ·refine byx 1 h fun v3 h=>?_
     cases h;exact lj 3
    cases h;exact lj 5
   cases h;exact lj 10
  cases h;exact lj 15
 refine cd 0 h (fun h=>?_) fun h=>?_
 ·refine byx 3 h fun v6 h=>?_
  cases h;exact lq 6
 cases h;exact lq 7
end Go.Proofs.YtaimpcnpifoidaaGreatDoor
