import Derived.Test.YtjpkdegjcilndaaGreatDoorTT
set_option linter.all false
set_option maxRecDepth 100000
namespace Go.Proofs.YtjpkdegjcilndaaGreatDoor
open Go Go.RowKit Go.Proofs Go.Proofs.Tryz
set_option maxHeartbeats 2000000
attribute [local irreducible] NStep StepA kgr kiu LeSt
set_option linter.unusedSectionVars false
variable [Dr]
def kb9 (a0 a1:List Int) (v1:Int):Option (Int ⊕ (Unit ⊕ Bool)):=bif v1<(a0.length:Int) then (idx a0 v1).bind fun v2=>(idx a1 v1).bind fun v3=>bif v2 != v3 then some (.inr (.inr false)) else some (.inl (w64 (v1+1))) else some (.inr (.inl ()))
def kch (a0 a1:List Int):Option Bool:=bif (a0.length:Int) != (a1.length:Int) then some false else (kab (kb9 a0 a1) fuel 0).bind fun v4=>Sum.elim (fun v5=>some true) (fun v6=>some v6) v4
theorem ksb (a0 a1:List Int) (r:Bool) (h:kch a0 a1=some r):PCall prog 110 [(eL 1 eI) a0,(eL 1 eI) a1] (eB r):=pcl [.one .keep] func110 (by kernel_rfl) (by kernel_rfl) (by kernel_rfl)<|cd 13 h (lQ 5) fun h=>lpq 9 h (fun v1=>⟨26,[(0,.fz (eL 1 eI a0)),(1,.fz (eL 1 eI a1)),(12,fI (a0.length:Int)),(13,fI v1)],[],[],[]⟩) (.exit 0) (fun v5=>⟨26,[],[],[],[]⟩) eB (fun v1 r h=>cd 5 h (fun h=>dw 9 8 (by kernel_rfl)<|ix nI 2 h fun v2 h=>ix nI 3 h fun v3 h=>cd 4 h (lR 5) (lJ 5)) (lO 1)) fun _=>lQ 5
def kr4 (a0 a1:Va):St:=⟨75,[(2,.ref 1 0 0),(3,.ref 2 0 0)],[(1,.box 68 [fI a0.type,fI a0.num,fS a0.text,.fz (eL 4 eVaR a0.items)]),(2,.box 68 [fI a1.type,fI a1.num,fS a1.text,.fz (eL 4 eVaR a1.items)])],[2,1],[]⟩
def kbv (a0 a1:Va) (r152:(Va)->(Va)->Option Int) (v1:Int):Option (Int ⊕ (Unit ⊕ Int)):=bif v1<(a0.items.length:Int) then (idx a0.items v1).bind fun v2=>bif v1 == (a1.items.length:Int) then some (.inr (.inr 1)) else (idx a1.items v1).bind fun v3=>(r152 v2 v3).bind fun v4=>bif v4 != 0 then some (.inr (.inr v4)) else some (.inl (w64 (v1+1))) else some (.inr (.inl ()))
def kge (r152:(Va)->(Va)->Option Int) (a0 a1:Va):Option Int:=bif a0.type<a1.type then some (-1) else bif a1.type<a0.type then some 1 else bif a0.num<a1.num then some (-1) else bif a1.num<a0.num then some 1 else bif Op.bytesLess a0.text.toList a1.text.toList then some (-1) else bif !((Op.bytesLess a0.text.toList a1.text.toList) || (a0.text.toList == a1.text.toList)) then some 1 else (kab (kbv a0 a1 r152) fuel 0).bind fun v5=>Sum.elim (fun v6=>bif (a0.items.length:Int)<(a1.items.length:Int) then some (-1) else some 0) (fun v7=>some v7) v5
theorem kwu (r152:(Va)->(Va)->Option Int) (ih152:∀ (x0:Va) (x1:Va) r,r152 x0 x1=some r->PCall prog 152 [eVa x0,eVa x1] (eI r)) (a0 a1:Va) (r:Int) (h:kge r152 a0 a1=some r):PCall prog 152 [eVa a0,eVa a1] (eI r):=pcl [.one .keep] func152 (by kernel_rfl) (by kernel_rfl) (by kernel_rfl)<|cd 17 h (lQ 5) fun h=>cd 9 h (lQ 5) fun h=>cd 9 h (lQ 5) fun h=>cd 9 h (lQ 5) fun h=>cd 9 h (lQ 5) fun h=>cd 9 h (lQ 5) fun h=>lpq 10 h (fun v1=>aS (kr4 a0 a1) [(45,.fz (eL 4 eVaR a0.items)),(46,fI (a0.items.length:Int)),(47,fI v1)] []) (.exit 1) (fun v6=>kr4 a0 a1) eI (fun v1 r h=>cd 5 h (fun h=>ix nVaR 6 h fun v2 h=>cd 14 h (lR 5) fun h=>dw 2 6 (by kernel_rfl)<|ix nVaR 4 h fun v3 h=>cl 2 h (ih152 _ _) fun v4 h=>cd 7 h (lR 6) (lJ 5)) (lO 1)) fun v6 h=>cd 11 h (lQ 5) (lQ 6)
def kcp:Nat->(Va)->(Va)->Option Int
  | 0=>fun _ _=>none
  | n+1=>kge (kcp n)
theorem krj:∀ (n:Nat) (x0:Va) (x1:Va) r,kcp n x0 x1=some r->PCall prog 152 [eVa x0,eVa x1] (eI r)
  | 0,_,_,_,h=>by cases h
  | n+1,x0,x1,r,h=>kwu (kcp n) (krj n) x0 x1 r h
def kga (a0 a1:Va):Option Bool:=(kcp fuel a0 a1).bind fun v1=>some (v1 == 0)
theorem k22 (a0 a1:Va) (r:Bool) (h:kga a0 a1=some r):PCall prog 111 [eVa a0,eVa a1] (eB r):=pcl [.one .keep] func111 (by kernel_rfl) (by kernel_rfl) (by kernel_rfl)<|cl 10 h (krj _ _ _) fun _=>lQ 4
def kd0 (a0 a1:Ru):Option Bool:=(bif a0.symbol == a1.symbol then bif a0.kind == a1.kind then bif a0.input == a1.input then bif a0.op.toList == a1.op.toList then (kch a0.args a1.args).bind fun v1=>bif v1 then (kga a0.const a1.const).bind fun v2=>some v2 else some false else some false else some false else some false else some false).bind fun v4=>some v4
theorem koq (a0 a1:Ru) (r:Bool) (h:kd0 a0 a1=some r):PCall prog 69 [eRu a0,eRu a1] (eB r):=pcl [.one .keep] func69 (by kernel_rfl) (by kernel_rfl) (by kernel_rfl)<|jn1 7 .normal (fun v4=>⟨45,[(4,fB v4)],[],[],[]⟩) h (fun v4 h=>gd 7 h (fun h=>gd 7 h (fun h=>gd 7 h (fun h=>gd 7 h (fun h=>cl 4 h (ksb _ _) fun v1 h=>gd 2 h (fun h=>cl 4 h (k22 _ _) fun _=>lJ 3) (lJ 8)) (lJ 15)) (lJ 22)) (lJ 29)) (lJ 36)) fun _=>lQ 1
def kfy (a0:BA) (v3:Int):Option (Int ⊕ (Unit ⊕ Bool)):=bif v3<(a0.size:Int) then (byt a0 v3).bind fun v4=>(bif 97<=(ior .u8 v4 32) then some (decide ((ior .u8 v4 32)<=122)) else some false).bind fun v6=>(bif !v6 then bif v3 == 0 then some true else bif v4 != 45 then bif v4<48 then some true else some (decide (57<v4)) else some false else some false).bind fun v8=>bif v8 then some (.inr (.inr false)) else some (.inl (w64 (v3+1))) else some (.inr (.inl ()))
def ki4 (a0:BA):Option Bool:=(bif (a0.size:Int)<1 then some true else some (decide (24<(a0.size:Int)))).bind fun v2=>bif v2 then some false else (kab (kfy a0) fuel 0).bind fun v9=>Sum.elim (fun v10=>some true) (fun v11=>some v11) v9
theorem krt (a0:BA) (r:Bool) (h:ki4 a0=some r):PCall prog 64 [eS a0] (eB r):=pcl [.one .keep] func64 (by kernel_rfl) (by kernel_rfl) (by kernel_rfl)<|jn1 6 .normal (fun v2=>⟨49,[(0,fS a0),(13,fB v2)],[],[],[]⟩) h (fun v2 h=>gd 5 h (lJ 5) (lJ 5)) fun v2 h=>cd 0 h (lQ 5) fun h=>lpq 9 h (fun v3=>⟨49,[(0,fS a0),(15,fI (a0.size:Int)),(16,fI v3)],[],[],[]⟩) (.exit 0) (fun v10=>⟨49,[],[],[],[]⟩) eB (fun v3 r h=>cd 5 h (fun h=>byx 12 h fun v4 h=>jn1 3 .normal (fun v6=>⟨49,[(0,fS a0),(3,fI v3),(4,.fz (eU8 v4)),(5,fB v6),(15,fI (a0.size:Int)),(16,fI v3)],[],[],[]⟩) h (fun v6 h=>gd 5 h (lJ 6) (lJ 6)) fun v6 h=>jn1 1 .normal (fun v8=>⟨49,[(0,fS a0),(15,fI (a0.size:Int)),(16,fI v3),(47,fB v8)],[],[],[]⟩) h (fun v8 h=>gd 4 h (fun h=>gd 3 h (lJ 13) fun h=>gd 3 h (fun h=>gd 3 h (lJ 7) (lJ 7)) (lJ 10)) (lJ 16)) fun v8 h=>cd 0 h (lR 5) (lJ 5)) (lO 1)) fun _=>lQ 5
def ki2 (a0:Int):Option Bool:=(bif 1<=a0 then some (decide (a0<=8)) else some false).bind fun v2=>some v2
theorem krp (a0:Int) (r:Bool) (h:ki2 a0=some r):PCall prog 65 [eI a0] (eB r):=pcl [.one .keep] func65 (by kernel_rfl) (by kernel_rfl) (by kernel_rfl)<|jn1 5 .normal (fun v2=>⟨9,[(2,fB v2)],[],[],[]⟩) h (fun v2 h=>gd 4 h (lJ 5) (lJ 5)) fun _=>lQ 1
def kid (a0:La) (a1:Int):Option Bool:=(bif 0<=a1 then some (decide (a1<(a0.symbols.length:Int))) else some false).bind fun v2=>some v2
theorem kqp (a0:La) (a1:Int) (r:Bool) (h:kid a0 a1=some r):PCall prog 105 [eLa a0,eI a1] (eB r):=pcl [.one .keep] func105 (by kernel_rfl) (by kernel_rfl) (by kernel_rfl)<|jn1 6 .normal (fun v2=>⟨14,[(4,fB v2)],[],[],[]⟩) h (fun v2 h=>gd 4 h (lJ 8) (lJ 8)) fun _=>lQ 1
def kgc (a0 a1:Int):Option Int:=bif a0 != a1 then some 3 else some 0
theorem kok (a0 a1 r:Int) (h:kgc a0 a1=some r):PCall prog 106 [eI a0,eI a1] (eI r):=pcl [.one .keep] func106 (by kernel_rfl) (by kernel_rfl) (by kernel_rfl)<|cd 11 h (lQ 5) (lQ 6)
def kso (a0:Va):St:=⟨38,[(1,.ref 1 0 0)],[(1,.box 68 [fI a0.type,fI a0.num,fS a0.text,.fz (eL 4 eVaR a0.items)])],[1],[]⟩
def kd7 (a0:Va):Option Bool:=(bif a0.type == 1 then some (a0.type == 1) else bif a0.type == 2 then some (a0.type == 2) else some (a0.type == 4)).bind fun v2=>bif v2 then (bif a0.text.toList == (⟨#[]⟩:BA).toList then some ((a0.items.length:Int) == 0) else some false).bind fun v4=>some v4 else (bif a0.type == 3 then some (a0.type == 3) else some (a0.type == 8)).bind fun v6=>bif v6 then (bif a0.num == 0 then some ((a0.items.length:Int) == 0) else some false).bind fun v8=>some v8 else (bif a0.num == 0 then some (a0.text.toList == (⟨#[]⟩:BA).toList) else some false).bind fun v10=>some v10
theorem k1d (a0:Va) (r:Bool) (h:kd7 a0=some r):PCall prog 146 [eVa a0] (eB r):=pcl [.one .keep] func146 (by kernel_rfl) (by kernel_rfl) (by kernel_rfl)<|jn1 13 .normal (fun v2=>aS (kso a0) [(4,fI a0.type),(5,fB v2)] []) h (fun v2 h=>cd 5 h (lJ 1) fun h=>cd 5 h (lJ 1) (lJ 4)) fun v2 h=>cd 0 h (fun h=>jn1 1 .normal (fun v4=>⟨38,[(2,fB v4)],[],[],[]⟩) h (fun v4 h=>gd 5 h (lJ 7) (lJ 7)) fun _=>lQ 1) fun h=>jn1 1 .normal (fun v6=>aS (kso a0) [(18,fB v6)] []) h (fun v6 h=>cd 5 h (lJ 1) (lJ 4)) fun v6 h=>cd 0 h (fun h=>jn1 1 .normal (fun v8=>⟨38,[(2,fB v8)],[],[],[]⟩) h (fun v8 h=>gd 5 h (lJ 7) (lJ 7)) fun _=>lQ 1) fun h=>jn1 2 .normal (fun v10=>⟨38,[(2,fB v10)],[],[],[]⟩) h (fun v10 h=>gd 5 h (lJ 6) (lJ 6)) fun _=>lQ 1
def kim (a0 a1 a2:Int):Option Int:=(bif a0<a1 then some true else some (decide (a2<a0))).bind fun v2=>bif v2 then some 1 else some 0
theorem kn1 (a0 a1 a2 r:Int) (h:kim a0 a1 a2=some r):PCall prog 147 [eI a0,eI a1,eI a2] (eI r):=pcl [.one .keep] func147 (by kernel_rfl) (by kernel_rfl) (by kernel_rfl)<|jn1 6 .normal (fun v2=>⟨15,[(14,fB v2)],[],[],[]⟩) h (fun v2 h=>gd 5 h (lJ 5) (lJ 5)) fun v2 h=>cd 0 h (lQ 5) (lQ 6)
def kfx (a0:BA) (v1:Int):Option (Int ⊕ (Unit ⊕ Bool)):=bif v1<(a0.size:Int) then ((byt a0 v1).bind fun v2=>bif v2<32 then some true else (byt a0 v1).bind fun v3=>some (decide (126<v3))).bind fun v5=>bif v5 then some (.inr (.inr false)) else some (.inl (w64 (v1+1))) else some (.inr (.inl ()))
def kkw (a0:BA):Option Bool:=(kab (kfx a0) fuel 0).bind fun v6=>Sum.elim (fun v7=>some true) (fun v8=>some v8) v6
theorem kz0 (a0:BA) (r:Bool) (h:kkw a0=some r):PCall prog 173 [eS a0] (eB r):=pcl [.one .keep] func173 (by kernel_rfl) (by kernel_rfl) (by kernel_rfl)<|lpq 10 h (fun v1=>⟨20,[(0,fS a0),(3,fI v1)],[],[],[]⟩) (.exit 0) (fun v7=>⟨20,[],[],[],[]⟩) eB (fun v1 r h=>cd 8 h (fun h=>jn1 4 .normal (fun v5=>⟨20,[(0,fS a0),(3,fI v1),(19,fB v5)],[],[],[]⟩) h (fun v5 h=>byx 3 h fun v2 h=>gd 2 h (lJ 6) fun h=>byx 2 h fun _=>lJ 3) fun v5 h=>cd 0 h (lR 5) (lJ 6)) (lO 1)) fun _=>lQ 5
def kjl (a0:BA) (a1 a2:Int):Option Int:=(bif (a0.size:Int)<a1 then some true else some (decide (a2<(a0.size:Int)))).bind fun v2=>bif v2 then some 2 else (kkw a0).bind fun v3=>bif !v3 then some 1 else some 0
theorem k3i (a0:BA) (a1 a2 r:Int) (h:kjl a0 a1 a2=some r):PCall prog 148 [eS a0,eI a1,eI a2] (eI r):=pcl [.one .keep] func148 (by kernel_rfl) (by kernel_rfl) (by kernel_rfl)<|jn1 6 .normal (fun v2=>⟨20,[(0,fS a0),(16,fB v2)],[],[],[]⟩) h (fun v2 h=>gd 6 h (lJ 6) (lJ 6)) fun v2 h=>cd 0 h (lQ 5) fun h=>cl 5 h (kz0 _) fun v3 h=>cd 2 h (lQ 5) (lQ 6)
def kbt (a0:Va):St:=⟨54,[(1,.ref 1 0 0)],[(1,.box 68 [fI a0.type,fI a0.num,fS a0.text,.fz (eL 4 eVaR a0.items)])],[1],[]⟩
def kb7 (r107:(Va)->Option Int) (r149:(List Va)->(Int)->Option Int) (r150:(List Va)->Option Int) (a0:Va):Option Int:=(bif a0.type<1 then some true else some (decide (8<a0.type))).bind fun v2=>bif v2 then some 3 else (kd7 a0).bind fun v3=>bif !v3 then some 4 else ((((((((bif a0.type == 1 then (kim a0.num 0 1).bind fun v4=>some (.inr (.inr (.inr (.inr (.inr v4))))) else bif a0.type == 2 then (kim a0.num (-1000000) 1000000).bind fun v5=>some (.inr (.inr (.inr (.inr (.inr v5))))) else bif a0.type == 4 then (kim a0.num 0 255).bind fun v6=>some (.inr (.inr (.inr (.inr (.inr v6))))) else bif a0.type == 8 then some (.inl ()) else bif a0.type == 3 then some (.inr (.inr (.inl ()))) else bif a0.type == 5 then some (.inr (.inr (.inr (.inl ())))) else bif a0.type == 6 then some (.inr (.inr (.inr (.inr (.inl ()))))) else some (.inr (.inl ()))):Option (Unit ⊕ (Unit ⊕ (Unit ⊕ (Unit ⊕ (Unit ⊕ Int)))))).bind fun v7=>Sum.elim (fun v8=>some (.inl (1,40))) (Sum.elim (fun v9=>some (.inr (.inl ()))) (Sum.elim (fun v10=>some (.inl (0,64))) (Sum.elim (fun v11=>some (.inr (.inr (.inl ())))) (Sum.elim (fun v12=>some (.inr (.inr (.inr (.inl ()))))) (fun v13=>some (.inr (.inr (.inr (.inr v13))))))))) v7):Option (Int×Int ⊕ (Unit ⊕ (Unit ⊕ (Unit ⊕ Int))))).bind fun v14=>Sum.elim (fun v15=>(kjl a0.text v15.1 v15.2).bind fun v16=>some (.inr (.inr (.inr v16)))) (Sum.elim (fun v17=>some (.inr (.inl ()))) (Sum.elim (fun v18=>some (.inl ())) (Sum.elim (fun v19=>some (.inr (.inr (.inl ())))) (fun v20=>some (.inr (.inr (.inr v20))))))) v14):Option (Unit ⊕ (Unit ⊕ (Unit ⊕ Int)))).bind fun v21=>Sum.elim (fun v22=>some (.inl 2)) (Sum.elim (fun v23=>some (.inr (.inl ()))) (Sum.elim (fun v24=>some (.inl 3)) (fun v25=>some (.inr (.inr v25))))) v21):Option (Int ⊕ (Unit ⊕ Int))).bind fun v26=>Sum.elim (fun v27=>(r149 a0.items v27).bind fun v28=>some v28) (Sum.elim (fun v29=>(r150 a0.items).bind fun v30=>some v30) (fun v31=>some v31)) v26
theorem kz8 (r107:(Va)->Option Int) (r149:(List Va)->(Int)->Option Int) (r150:(List Va)->Option Int) (ih107:∀ (x0:Va) r,r107 x0=some r->PCall prog 107 [eVa x0] (eI r)) (ih149:∀ (x0:List Va) (x1:Int) r,r149 x0 x1=some r->PCall prog 149 [(eL 4 eVaR) x0,eI x1] (eI r)) (ih150:∀ (x0:List Va) r,r150 x0=some r->PCall prog 150 [(eL 4 eVaR) x0] (eI r)) (a0:Va) (r:Int) (h:kb7 r107 r149 r150 a0=some r):PCall prog 107 [eVa a0] (eI r):=by
 refine pcl [.one .keep] func107 (by kernel_rfl) (by kernel_rfl) (by kernel_rfl)<|jn1 7 .normal (fun v2=>aS (kbt a0) [(13,fB v2)] []) h (fun v2 h=>gd 5 h (lJ 5) (lJ 5)) fun v2 h=>cd 0 h (lQ 5) fun h=>cl 5 h (k1d _) fun v3 h=>cd 2 h (lQ 5) fun h=>jnQ 15 (fun v26 e st=>Sum.elim (fun p=>e = .normal/\LeSt st (aS (kbt a0) [(5,fI p)] [])) (Sum.elim (fun p=>e = .exit 0/\LeSt st (kbt a0)) (fun p=>e = .ret/\retX TT st Tryz.f107.results.toList [.one .keep]=some (eI p))) v26) h (fun v26 h=>?_) fun v26 h e st' c=>?_
 ·refine jnQ 1 (fun v21 e st=>Sum.elim (fun p=>e = .normal/\LeSt st (aS (kbt a0) [(5,fI 2)] [])) (Sum.elim (fun p=>e = .exit 0/\LeSt st (kbt a0)) (Sum.elim (fun p=>e = .exit 7/\LeSt st (aS (kbt a0) [(5,fI 3)] [])) (fun p=>e = .ret/\retX TT st Tryz.f107.results.toList [.one .keep]=some (eI p)))) v21) h (fun v21 h=>?_) fun v21 h e st' c=>?_
  ·refine jnQ 3 (fun v14 e st=>Sum.elim (fun p=>e = .normal/\LeSt st (aS (kbt a0) [(3,fI (p.1)),(4,fI (p.2))] [])) (Sum.elim (fun p=>e = .exit 0/\LeSt st (kbt a0)) (Sum.elim (fun p=>e = .exit 6/\LeSt st (kbt a0)) (Sum.elim (fun p=>e = .exit 7/\LeSt st (aS (kbt a0) [(5,fI 3)] [])) (fun p=>e = .ret/\retX TT st Tryz.f107.results.toList [.one .keep]=some (eI p))))) v14) h (fun v14 h=>?_) fun v14 h e st' c=>?_
   ·refine jnQ 1 (fun v7 e st=>Sum.elim (fun p=>e = .normal/\LeSt st (aS (kbt a0) [(3,fI 1),(4,fI 40)] [])) (Sum.elim (fun p=>e = .exit 0/\LeSt st (kbt a0)) (Sum.elim (fun p=>e = .exit 5/\LeSt st (aS (kbt a0) [(3,fI 0),(4,fI 64)] [])) (Sum.elim (fun p=>e = .exit 6/\LeSt st (kbt a0)) (Sum.elim (fun p=>e = .exit 7/\LeSt st (aS (kbt a0) [(5,fI 3)] [])) (fun p=>e = .ret/\retX TT st Tryz.f107.results.toList [.one .keep]=some (eI p)))))) v7) h (fun v7 h=>?_) fun v7 h e st' c=>?_
    ·refine cd 15 h (fun h=>?_) fun h=>?_
     ·refine cl 6 h (kn1 _ _ _) fun v4 h=>?_;cases h;exact lr 3
     refine cd 7 h (fun h=>?_) fun h=>?_
     ·refine cl 6 h (kn1 _ _ _) fun v5 h=>?_;cases h;exact lr 3
     refine cd 7 h (fun h=>?_) fun h=>cd 7 h (lJ 5) fun h=>cd 7 h (lJ 1) fun h=>cd 7 h (lJ 1) fun h=>cd 6 h (lJ 1) (lJ 2)
     ·refine cl 6 h (kn1 _ _ _) fun v6 h=>?_;cases h;exact lr 3
    rcases v7 with v8 | (v9 | (v10 | (v11 | (v12 | v13))))
    ·(try simp only [qaf,qay] at h);obtain ⟨rfl,a⟩:=c
     refine ⟨_,a,?_⟩;cases h;exact lj 0
    ·(try simp only [qaf,qay] at h);obtain ⟨rfl,a⟩:=c
     refine ⟨_,a,?_⟩;cases h;exact lj 0
    ·(try simp only [qaf,qay] at h);obtain ⟨rfl,a⟩:=c
     refine ⟨_,a,?_⟩;cases h;exact lj 0
    ·(try simp only [qaf,qay] at h);obtain ⟨rfl,a⟩:=c
     refine ⟨_,a,?_⟩;cases h;exact lj 0
    ·(try simp only [qaf,qay] at h);obtain ⟨rfl,a⟩:=c
     refine ⟨_,a,?_⟩;cases h;exact lj 0
    ·(try simp only [qaf,qay] at h);obtain ⟨rfl,b⟩:=c
     refine ⟨_,LeSt.refl,?_⟩;cases h;exact lvr b
   rcases v14 with v15 | (v17 | (v18 | (v19 | v20)))
   ·(try simp only [qaf,qay] at h);obtain ⟨rfl,a⟩:=c
    refine ⟨_,a,?_⟩;refine cl 7 h (k3i _ _ _) fun v16 h=>?_;cases h;exact lr 3
   ·(try simp only [qaf,qay] at h);obtain ⟨rfl,a⟩:=c
    refine ⟨_,a,?_⟩;cases h;exact lj 0
   ·(try simp only [qaf,qay] at h);obtain ⟨rfl,a⟩:=c
    refine ⟨_,a,?_⟩;cases h;exact lj 3
   ·(try simp only [qaf,qay] at h);obtain ⟨rfl,a⟩:=c
    refine ⟨_,a,?_⟩;cases h;exact lj 0
   ·(try simp only [qaf,qay] at h);obtain ⟨rfl,b⟩:=c
    refine ⟨_,LeSt.refl,?_⟩;cases h;exact lvr b
  rcases v21 with v22 | (v23 | (v24 | v25))
  ·(try simp only [qaf,qay] at h);obtain ⟨rfl,a⟩:=c
   refine ⟨_,a,?_⟩;cases h;exact lj 0
  ·(try simp only [qaf,qay] at h);obtain ⟨rfl,a⟩:=c
   refine ⟨_,a,?_⟩;cases h;exact lj 0
  ·(try simp only [qaf,qay] at h);obtain ⟨rfl,a⟩:=c
   refine ⟨_,a,?_⟩;cases h;exact lj 0
  ·(try simp only [qaf,qay] at h);obtain ⟨rfl,b⟩:=c
   refine ⟨_,LeSt.refl,?_⟩;cases h;exact lvr b
 rcases v26 with v27 | (v29 | v31)
 ·(try simp only [qaf,qay] at h);obtain ⟨rfl,a⟩:=c
  refine ⟨_,a,?_⟩;refine cl 6 h (ih149 _ _) fun v28 h=>?_;cases h;exact lq 3
 ·(try simp only [qaf,qay] at h);obtain ⟨rfl,a⟩:=c
  refine ⟨_,a,?_⟩;refine cl 4 h (ih150 _) fun v30 h=>?_;cases h;exact lq 3
 ·(try simp only [qaf,qay] at h);obtain ⟨rfl,b⟩:=c
  refine ⟨_,LeSt.refl,?_⟩;cases h;exact lv b
def ka0 (a0:List Va) (a1:Int) (r107:(Va)->Option Int) (v1:Int):Option (Int ⊕ (Unit ⊕ Int)):=bif v1<(a0.length:Int) then (idx a0 v1).bind fun v2=>bif v2.type != a1 then some (.inr (.inr 3)) else (r107 v2).bind fun v3=>bif v3 != 0 then some (.inr (.inr v3)) else some (.inl (w64 (v1+1))) else some (.inr (.inl ()))
def khe (r107:(Va)->Option Int) (r149:(List Va)->(Int)->Option Int) (r150:(List Va)->Option Int) (a0:List Va) (a1:Int):Option Int:=bif 16<(a0.length:Int) then some 2 else (kab (ka0 a0 a1 r107) fuel 0).bind fun v4=>Sum.elim (fun v5=>some 0) (fun v6=>some v6) v4
theorem kwl (r107:(Va)->Option Int) (r149:(List Va)->(Int)->Option Int) (r150:(List Va)->Option Int) (ih107:∀ (x0:Va) r,r107 x0=some r->PCall prog 107 [eVa x0] (eI r)) (ih149:∀ (x0:List Va) (x1:Int) r,r149 x0 x1=some r->PCall prog 149 [(eL 4 eVaR) x0,eI x1] (eI r)) (ih150:∀ (x0:List Va) r,r150 x0=some r->PCall prog 150 [(eL 4 eVaR) x0] (eI r)) (a0:List Va) (a1 r:Int) (h:khe r107 r149 r150 a0 a1=some r):PCall prog 149 [(eL 4 eVaR) a0,eI a1] (eI r):=pcl [.one .keep] func149 (by kernel_rfl) (by kernel_rfl) (by kernel_rfl)<|cd 11 h (lQ 5) fun h=>lpq 9 h (fun v1=>⟨27,[(1,fI a1),(11,.fz (eL 4 eVaR a0)),(12,fI (a0.length:Int)),(13,fI v1)],[],[],[]⟩) (.exit 0) (fun v5=>⟨27,[],[],[],[]⟩) eI (fun v1 r h=>cd 5 h (fun h=>ix nVaR 5 h fun v2 h=>cd 12 h (lR 5) fun h=>cl 4 h (ih107 _) fun v3 h=>cd 7 h (lR 6) (lJ 5)) (lO 1)) fun _=>lQ 5
def kwe (a0:List Va) (v1:Int):St:=⟨45,[(0,.fz (eL 4 eVaR a0)),(9,.fz (eL 4 eVaR a0)),(10,fI (a0.length:Int)),(11,fI v1)],[],[],[]⟩
def kbl (a0:List Va) (r107:(Va)->Option Int) (v1:Int):Option (Int ⊕ (Unit ⊕ Int)):=bif v1<(a0.length:Int) then (idx a0 v1).bind fun v2=>bif v2.type != 6 then some (.inr (.inr 3)) else (bif (v2.items.length:Int)<1 then some true else bif 8<(v2.items.length:Int) then some true else (idx a0 0).bind fun v3=>some ((v2.items.length:Int) != (v3.items.length:Int))).bind fun v5=>bif v5 then some (.inr (.inr 2)) else (r107 v2).bind fun v6=>bif v6 != 0 then some (.inr (.inr v6)) else some (.inl (w64 (v1+1))) else some (.inr (.inl ()))
def kkb (r107:(Va)->Option Int) (r149:(List Va)->(Int)->Option Int) (r150:(List Va)->Option Int) (a0:List Va):Option Int:=bif 8<(a0.length:Int) then some 2 else (kab (kbl a0 r107) fuel 0).bind fun v7=>Sum.elim (fun v8=>some 0) (fun v9=>some v9) v7
theorem k1l (r107:(Va)->Option Int) (r149:(List Va)->(Int)->Option Int) (r150:(List Va)->Option Int) (ih107:∀ (x0:Va) r,r107 x0=some r->PCall prog 107 [eVa x0] (eI r)) (ih149:∀ (x0:List Va) (x1:Int) r,r149 x0 x1=some r->PCall prog 149 [(eL 4 eVaR) x0,eI x1] (eI r)) (ih150:∀ (x0:List Va) r,r150 x0=some r->PCall prog 150 [(eL 4 eVaR) x0] (eI r)) (a0:List Va) (r:Int) (h:kkb r107 r149 r150 a0=some r):PCall prog 150 [(eL 4 eVaR) a0] (eI r):=pcl [.one .keep] func150 (by kernel_rfl) (by kernel_rfl) (by kernel_rfl)<|cd 11 h (lQ 5) fun h=>lpq 9 h (fun v1=>kwe a0 v1) (.exit 0) (fun v8=>⟨45,[],[],[],[]⟩) eI (fun v1 r h=>cd 5 h (fun h=>ix nVaR 5 h fun v2 h=>cd 11 h (lR 5) fun h=>jn1 3 .normal (fun v5=>aS (kwe a0 v1) [(4,.ref 1 0 0),(38,fB v5)] [(1,.box 68 [fI v2.type,fI v2.num,fS v2.text,.fz (eL 4 eVaR v2.items)])]) h (fun v5 h=>dw 0 19 (by kernel_rfl)<|gd 5 h (lJ 18) fun h=>gd 6 h (lJ 12) fun h=>ix nVaR 4 h fun _=>lJ 7) fun v5 h=>cd 0 h (lR 5) fun h=>cl 4 h (ih107 _) fun v6 h=>cd 7 h (lR 6) (lJ 5)) (lO 1)) fun _=>lQ 5
def kcq:Nat->((Va)->Option Int)×((List Va)->(Int)->Option Int)×((List Va)->Option Int)
  | 0=>(fun _=>none,fun _ _=>none,fun _=>none)
  | n+1=>(kb7 ((kcq n).1) ((kcq n).2.1) ((kcq n).2.2),khe ((kcq n).1) ((kcq n).2.1) ((kcq n).2.2),kkb ((kcq n).1) ((kcq n).2.1) ((kcq n).2.2))
def ka1 (n:Nat):(Va)->Option Int:=(kcq n).1
def kie (n:Nat):(List Va)->(Int)->Option Int:=(kcq n).2.1
def kl1 (n:Nat):(List Va)->Option Int:=(kcq n).2.2
theorem kcn:∀ n:Nat,(∀ (x0:Va) r,ka1 n x0=some r->PCall prog 107 [eVa x0] (eI r))/\(∀ (x0:List Va) (x1:Int) r,kie n x0 x1=some r->PCall prog 149 [(eL 4 eVaR) x0,eI x1] (eI r))/\(∀ (x0:List Va) r,kl1 n x0=some r->PCall prog 150 [(eL 4 eVaR) x0] (eI r))
  | 0=>⟨(fun _ _ h=>nomatch h),(fun _ _ _ h=>nomatch h),(fun _ _ h=>nomatch h)⟩
  | n+1=>⟨kz8 _ _ _ ((kcn n).1) ((kcn n).2.1) ((kcn n).2.2),kwl _ _ _ ((kcn n).1) ((kcn n).2.1) ((kcn n).2.2),k1l _ _ _ ((kcn n).1) ((kcn n).2.1) ((kcn n).2.2)⟩
theorem k3u (n:Nat):∀ (x0:Va) r,ka1 n x0=some r->PCall prog 107 [eVa x0] (eI r):=(kcn n).1
def kgg (a0:BA) (a1:Int):Option Int:=some (Lib.indexByte (ByteArray.data a0).toList (Int.toNat a1).toUInt8)
theorem km1 (a0:BA) (a1 r:Int) (h:kgg a0 a1=some r):PCall prog 203 [eS a0,eU8 a1] (eI r):=pcl [.one .keep] func203 (by kernel_rfl) (by kernel_rfl) (by kernel_rfl)<|nst 8 (kada 210 Tryz.f210 #[9,5] (.tmp 5) (.tmp 6) a0 a1 (by kernel_rfl) func210) (by kernel_rfl)<|(lQ 3) h
def kh1 (a0 a1:BA):Option Int:=(bif (a1.size:Int) == 0 then some true else some (a1.toList == a0.toList)).bind fun v2=>bif v2 then some 0 else bif (a1.size:Int) == 1 then (byt a1 0).bind fun v3=>(kgg a0 v3).bind fun v4=>some v4 else bif (a0.size:Int)<=(a1.size:Int) then some (-1) else none
theorem kon (a0 a1:BA) (r:Int) (h:kh1 a0 a1=some r):PCall prog 197 [eS a0,eS a1] (eI r):=by refine pcl [.one .keep] func197 (by kernel_rfl) (by kernel_rfl) (by kernel_rfl)<|jn1 13 .normal (fun v2=>⟨143,[(0,fS a0),(1,fS a1),(5,fI (a1.size:Int)),(16,fB v2)],[],[],[]⟩) h (fun v2 h=>gd 4 h (lJ 6) (lJ 6)) fun v2 h=>cd 0 h (lQ 5) fun h=>cd 6 h (fun h=>byx 4 h fun v3 h=>cl 0 h (km1 _ _) fun _=>lQ 3) fun h=>cd 8 h (lQ 5) fun h=>?_;cases h
def kij (a0 a1:BA):Option (BA×BA×Bool):=(kh1 a0 a1).bind fun v1=>bif 0<=v1 then (cutS a0 0 v1).bind fun v2=>(cutS a0 (w64 (v1+(a1.size:Int))) a0.size).bind fun v3=>some (v2,v3,true) else some (a0,(⟨#[]⟩:BA),false)
theorem kpp (a0 a1:BA) (r:BA×BA×Bool) (h:kij a0 a1=some r):PCall prog 195 [eS a0,eS a1] (.tup [eS r.1,eS r.2.1,eB r.2.2]):=pcl [.one .keep, .one .keep, .one .keep] func195 (by kernel_rfl) (by kernel_rfl) (by kernel_rfl)<|cl 11 h (kon _ _) fun v1 h=>cd 7 h (fun h=>dw 1 10 (by kernel_rfl)<|ob h fun v2 a h=>nst 2 (kadm (d:=tt9) (t:=9) (.tmp 13) none (some (.tmp 14)) none (some v1) a0 a tt_ok) (by kernel_rfl)<|ob h fun v3 b h=>nst 5 (kadm (d:=tt9) (t:=9) (.tmp 16) (some (.tmp 20)) none (some (w64 (v1+(a1.size:Int)))) none a0 b tt_ok) (by kernel_rfl)<|(lQ 6) h) (lQ 9)
def kta (a0 a1:BA):Option (BA×BA×Bool):=(kij a0 a1).bind fun v1=>some (v1.1,v1.2.1,v1.2.2)
theorem k23 (a0 a1:BA) (r:BA×BA×Bool) (h:kta a0 a1=some r):PCall prog 190 [eS a0,eS a1] (.tup [eS r.1,eS r.2.1,eB r.2.2]):=pcl [.one .keep, .one .keep, .one .keep] func190 (by kernel_rfl) (by kernel_rfl) (by kernel_rfl)<|cl 10 h (kpp _ _) fun _=>lQ 8
def kk7 (a0:Int):Option Int:=bif a0 == 66 then some 1 else bif a0 == 73 then some 2 else bif a0 == 84 then some 3 else bif a0 == 86 then some 4 else bif a0 == 76 then some 5 else bif a0 == 83 then some 6 else bif a0 == 77 then some 7 else some 8
theorem kp2 (a0 r:Int) (h:kk7 a0=some r):PCall prog 191 [eU8 a0] (eI r):=pcl [.one .keep] func191 (by kernel_rfl) (by kernel_rfl) (by kernel_rfl)<|cd 15 h (lQ 5) fun h=>cd 5 h (lQ 5) fun h=>cd 5 h (lQ 5) fun h=>cd 5 h (lQ 5) fun h=>cd 5 h (lQ 5) fun h=>cd 5 h (lQ 5) fun h=>cd 5 h (lQ 5) (lQ 6)
structure Sac where
  yf:BA
  ye:List Int
  yi:Int
def knv (x:Sac):FV := .agg [eS (x.yf),(eL 1 eI) (x.ye),eI (x.yi)]
structure Sae where
  yk:Sac
  yq:BA
def kbc (x:Sae):FV := .agg [eS (x.yk.yf),(eL 1 eI) (x.yk.ye),eI (x.yk.yi),eS (x.yq)]
def kjt:En Sae:=⟨kbc,4,fun x=>(kbc x).cells,fun _=>rfl,fun _=>rfl⟩
def khp (a0:BA) (a1:List BA) (v1:Int×List Sae):St:=⟨62,[(0,fS a0),(13,.fz (eL 1 eS a1)),(14,fI (a1.length:Int)),(15,fI v1.1)],[(1,.frow 184 4 (v1.2.map kbc))],[1],[]⟩
def kp1 (v3:BA×BA×Bool) (v4:Int×List Int):Option (Int×List Int ⊕ List Int):=bif decide (v4.1<(w64 ((v3.2.1.size:Int) - 1))) then (byt v3.2.1 v4.1).bind fun v5=>(kk7 v5).bind fun v6=>(app 8 v4.2 ([v6]:List Int)).bind fun v7=>some (.inl ((w64 (v4.1+1)),v7)) else some (.inr v4.2)
def kp3 (a0:BA) (a1:List BA) (v1:Int×List Sae):Option (Int×List Sae ⊕ List Sae):=bif v1.1<(a1.length:Int) then (idx a1 v1.1).bind fun v2=>(kta v2 (⟨#[58]⟩:BA)).bind fun v3=>(kab (kp1 v3) fuel (0,([]:List Int))).bind fun v9=>(byt v3.2.1 (w64 ((v3.2.1.size:Int) - 1))).bind fun v10=>(kk7 v10).bind fun v11=>(app 64 v1.2 ([Sae.mk (Sac.mk v3.1 v9 v11) a0]:List Sae)).bind fun v12=>some (.inl ((w64 (v1.1+1)),v12)) else some (.inr v1.2)
def kej (a0:BA) (a1:List BA):Option (List Sae):=(kab (kp3 a0 a1) fuel (0,([]:List Sae))).bind fun v14=>some v14
theorem kez (a0:BA) (a1:List BA) (r:List Sae) (h:kej a0 a1=some r):PCall prog 184 [eS a0,(eL 1 eS) a1] (eL 4 kbc r):=pcl [.one (.sl 4)] func184 (by kernel_rfl) (by kernel_rfl) (by kernel_rfl)<|wle 16 (kh9 1 184 4 5)<|lp1 0 (fun v1=>aS (khp a0 a1 v1) [(5,.row 1 v1.2.length)] []) (.exit 0) (fun v14=>⟨62,[(5,.row 1 v14.length)],[(1,.frow 184 4 (v14.map kbc))],[1],[]⟩) h (fun v1 r h=>cd 5 h (fun h=>ix nS 5 h fun v2 h=>cl 6 h (k23 _ _) fun v3 h=>wle 31 (kgq 3 184 1 2 1 3 [fS v3.1,.fz (.atom (.slice none 0 0)),fI 0,fS a0])<|lp1 0 (fun v4=>aS (khp a0 a1 v1) [(5,.row 1 v1.2.length),(9,fS v3.2.1),(11,.ref 2 0 0),(32,fI (w64 ((v3.2.1.size:Int) - 1))),(33,fI v4.1)] [(2,.box 184 [fS v3.1,.row 3 v4.2.length,fI 0,fS a0]),(3,.frow 3 1 (v4.2.map eI))]) (.exit 2) (fun v9=>aS (khp a0 a1 v1) [(5,.row 1 v1.2.length),(9,fS v3.2.1),(11,.ref 2 0 0)] [(2,.box 184 [fS v3.1,.row 3 v9.length,fI 0,fS a0]),(3,.frow 3 1 (v9.map eI))]) h (fun v4 r h=>cd 5 h (fun h=>dw 8 8 (by kernel_rfl)<|byx 5 h fun v5 h=>cl 0 h (kp2 _) fun v6 h=>ap nI 2 h fun _=>lJ 8) (lO 1)) fun v9 h=>byx 6 h fun v10 h=>cl 0 h (kp2 _) fun v11 h=>wle 7 (LeSt.trans (show LeSt _ (aS (khp a0 a1 v1) [(56,.row 1 v1.2.length),(57,.agg [fS v3.1,.row 3 v9.length,fI v11,fS a0])] [(3,.frow 3 1 (v9.map eI))]) from le_a) (LeSt.trans (kamq 3 v9.length 1 3 1 (List.map eI v9) (by kernel_rfl) (by simp)) (show LeSt _ (iS (aS (khp a0 a1 v1) [(56,.row 1 v1.2.length),(57,.fz (.agg [eS v3.1,eL 1 eI v9,eI v11,eS a0]))] []) [3,1]) from le_a)))<|ap kjt 1 h fun _=>lJ 6) (lO 1)) fun v14 h=>wle 5 (kib 4 1 v14.length 184 4 (List.map kbc v14))<|(lQ 1) h
end Go.Proofs.YtjpkdegjcilndaaGreatDoor
