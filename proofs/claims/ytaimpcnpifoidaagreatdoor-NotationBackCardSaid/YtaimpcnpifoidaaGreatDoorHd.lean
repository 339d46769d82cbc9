import Derived.Test.YtaimpcnpifoidaaGreatDoorDrawE
set_option linter.unusedVariables false
set_option linter.unusedSimpArgs false
namespace Go.Proofs.YtaimpcnpifoidaaGreatDoor
open Go Go.RowKit
def rn:List (Nat×Nat)→Nat→Nat
 | [],i=>i
 | (k,j)::l,i=>bif Nat.beq k i then j else rn l i
mutual
def renA (r:List (Nat×Nat)):AV→AV
 | .fz x => .fz x
 | .agg cs => .agg (kqa r cs)
 | .tup vs => .tup (kqa r vs)
 | .ref id n off => .ref (rn r id) n off
 | .row id n => .row (rn r id) n
 | .lim a b c => .lim a b c
 | .mp id => .mp (rn r id)
 | .opt id => .opt (rn r id)
 | .sdp id n => .sdp (rn r id) n
 | .win id n lo hi => .win (rn r id) n lo hi
 | .irow id g j => .irow (rn r id) g j
 | .iref id g j off => .iref (rn r id) g j off
 | .fn f cap => .fn f (kqa r cap)
 | .mth f cap => .mth f (kqa r cap)
 | .any => .any
def kqa (r:List (Nat×Nat)):List AV→List AV
 | []=>[]
 | x::l=>renA r x::kqa r l
end
mutual
def okA (ids:List Nat):AV→Bool
 | .fz _=>true
 | .agg cs=>okAs ids cs
 | .tup vs=>okAs ids vs
 | .ref id _ _=>ids.contains id
 | .row id _=>ids.contains id
 | .lim _ _ _=>true
 | .mp id=>ids.contains id
 | .opt id=>ids.contains id
 | .sdp id _=>ids.contains id
 | .win id _ _ _=>ids.contains id
 | .irow id _ _=>ids.contains id
 | .iref id _ _ _=>ids.contains id
 | .fn _ cap=>okAs ids cap
 | .mth _ cap=>okAs ids cap
 | .any=>true
def okAs (ids:List Nat):List AV→Bool
 | []=>true
 | x::l=>okA ids x && okAs ids l
end
def renO (r:List (Nat×Nat)):AObj→AObj
 | .box e cs => .box e (kqa r cs)
 | .frow e s xs => .frow e s xs
 | .smap kv => .smap kv
 | .gho cs vs => .gho cs (kqa r vs)
 | .was a b c d => .was a b c d
 | .tab g ov eo ei rows => .tab g ov eo ei rows
 | .glb gs => .glb gs
 | .sit s pos => .sit s pos
 | .memo Φ h => .memo Φ h
def okO (ids:List Nat):AObj→Bool
 | .box _ cs=>okAs ids cs
 | .frow _ _ _=>true
 | .smap _=>true
 | .tab _ _ _ _ _=>true
 | .gho _ vs=>okAs ids vs
 | .glb _=>true
 | .sit _ _=>true
 | .memo _ _=>true
 | _=>false
theorem km7 (r:List (Nat×Nat)):∀ l,kqa r l=l.map (renA r)
 | []=>rfl
 | x::l=>by simp [kqa,km7 r l]
theorem kot (ids:List Nat):∀ l,okAs ids l=l.all (okA ids)
 | []=>rfl
 | x::l=>by simp [okAs,kot ids l]
theorem kxh (r:List (Nat×Nat)) (x:AV):(renA r x).single=x.single:=by cases x <;> rfl
section
variable {P:Program} {F S0:Nat→Prop} {N0:Nat} {w w':World} {S S':Nat→Prop} {ψ ψ':Env} {K K':Nat→Prop} {T:List (TypeId×TD)} {o:Oper} {a:Act} {st:St} {t:TypeId} {d:TD} {ids:List Nat}
theorem RV.ren {r:List (Nat×Nat)} {v:Value} {x:AV} (h:RV ψ K S w v x) (hr:∀ i,K i→K' (rn r i)∧ψ'.len (rn r i)=ψ.len i∧ψ'.val (rn r i)=ψ.val i):RV ψ' K' S w v (renA r x):=by
 induction h with
 | fz h=>exact .fz h
 | agg h h1 _ ih=>
  simp only [renA,km7]
  refine .agg (by simpa using h) (fun x hx=>?_) fun i v x hv hx=>?_
  ·obtain ⟨y,hy,rfl⟩:=qao.1 hx
   rw [kxh];exact h1 y hy
  ·simp only [List.getElem?_map,qj] at hx
   obtain ⟨y,hy,rfl⟩:=hx
   exact ih i v y hv hy
 | tup h _ ih=>
  simp only [renA,km7]
  refine .tup (by simpa using h) fun i v x hv hx=>?_
  simp only [List.getElem?_map,qj] at hx
  obtain ⟨y,hy,rfl⟩:=hx
  exact ih i v y hv hy
 | @ref id n off v hk hn h1 hv=>
  obtain ⟨e1,e2,e3⟩:=hr id hk
  exact .ref e1 (by omega) h1 fun h=>by rw [e3];exact hv (by omega)
 | @row id n v hk hn h1 hv=>
  obtain ⟨e1,e2,e3⟩:=hr id hk
  exact .row e1 (by omega) h1 fun h=>by rw [e3];exact hv (by omega)
 | lim h=>exact .lim h
 | @mp id v hk h1 hv=>
  obtain ⟨e1,e2,e3⟩:=hr id hk
  exact .mp e1 h1 fun h=>by rw [e3];exact hv (by omega)
 | fn h _ ih=>
  simp only [renA,km7]
  refine .fn (by simpa using h) fun i v x hv hx=>?_
  simp only [List.getElem?_map,qj] at hx
  obtain ⟨y,hy,rfl⟩:=hx
  exact ih i v y hv hy
 | mth h _ ih=>
  simp only [renA,km7]
  refine .mth (by simpa using h) fun i v x hv hx=>?_
  simp only [List.getElem?_map,qj] at hx
  obtain ⟨y,hy,rfl⟩:=hx
  exact ih i v y hv hy
 | @opt id v hk h1 hv=>
  obtain ⟨e1,e2,e3⟩:=hr id hk
  exact .opt e1 h1 fun h=>by rw [e3];exact hv (by omega)
 | @sdp id n v hk hn h1 hv=>
  obtain ⟨e1,e2,e3⟩:=hr id hk
  exact .sdp e1 (by omega) h1 fun h=>by rw [e3];exact hv (by omega)
 | @win id n lo hi v hk hn h1 hv=>
  obtain ⟨e1,e2,e3⟩:=hr id hk
  exact .win e1 (by omega) h1 fun h=>by rw [e3];exact hv (by omega)
 | @irow id g j v hk hn h1 hv=>
  obtain ⟨e1,e2,e3⟩:=hr id hk
  exact .irow e1 (by omega) h1 fun h=>by rw [e3];exact hv (by omega)
 | @iref id g j off v hk hn h1 hv=>
  obtain ⟨e1,e2,e3⟩:=hr id hk
  exact .iref e1 (by omega) h1 fun h=>by rw [e3];exact hv (by omega)
 | any=>exact .any
theorem RV.subA {v:Value} {x:AV} (h:RV ψ K S w v x) (ho:okA ids x=true):RV ψ (·∈ids) S w v x:=by
 induction h with
 | fz h=>exact .fz h
 | agg h h1 _ ih=>
  rw [okA,kot] at ho
  exact .agg h h1 fun i v x hv hx=>ih i v x hv hx (qm.1 ho x (qt hx))
 | tup h _ ih=>
  rw [okA,kot] at ho
  exact .tup h fun i v x hv hx=>ih i v x hv hx (qm.1 ho x (qt hx))
 | ref hK hn h1 hv=>exact .ref (by simpa [okA] using ho) hn h1 hv
 | row hK hn h1 hv=>exact .row (by simpa [okA] using ho) hn h1 hv
 | lim h=>exact .lim h
 | mp hK h1 hv=>exact .mp (by simpa [okA] using ho) h1 hv
 | fn h _ ih=>
  rw [okA,kot] at ho
  exact .fn h fun i v x hv hx=>ih i v x hv hx (qm.1 ho x (qt hx))
 | mth h _ ih=>
  rw [okA,kot] at ho
  exact .mth h fun i v x hv hx=>ih i v x hv hx (qm.1 ho x (qt hx))
 | opt hK h1 hv=>exact .opt (by simpa [okA] using ho) h1 hv
 | sdp hK hn h1 hv=>exact .sdp (by simpa [okA] using ho) hn h1 hv
 | win hK hn h1 hv=>exact .win (by simpa [okA] using ho) hn h1 hv
 | irow hK hn h1 hv=>exact .irow (by simpa [okA] using ho) hn h1 hv
 | iref hK hn h1 hv=>exact .iref (by simpa [okA] using ho) hn h1 hv
 | any=>exact .any
theorem ObR.subA {id:Nat} {ob:AObj} (h:ObR ψ K S w id ob) (ho:okO ids ob=true):ObR ψ (·∈ids) S w id ob:=by
 cases ob with
 | box e cells=>
  obtain ⟨k0,b,cs,k1,k2,k3,k4,k5⟩:=h
  rw [okO,kot] at ho
  exact ⟨k0,b,cs,k1,k2,k3,k4,fun i v x hv hx=>(k5 i v x hv hx).subA (qm.1 ho x (qt hx))⟩
 | frow e s xs=>exact h
 | smap kv=>exact h
 | glb gs=>exact h
 | sit s pos=>exact h
 | memo Φ hi=>exact h
 | tab g ov eo ei rows=>exact h
 | gho cs vs=>
  obtain ⟨k0,k1,k2,k3⟩:=h
  rw [okO,kot] at ho
  exact ⟨k0,k1,k2,fun i v x hv hx=>(k3 i v x hv hx).subA (qm.1 ho x (qt hx))⟩
 | was a b c d=>cases ho
theorem ObR.ren {r:List (Nat×Nat)} {id:Nat} {ob:AObj} (h:ObR ψ K S w id ob) (hr:∀ i,K i→K' (rn r i)∧ψ'.len (rn r i)=ψ.len i∧ψ'.val (rn r i)=ψ.val i) (hid:K id)
  (ho:okO ids ob=true):ObR ψ' K' S w (rn r id) (renO r ob):=by
 obtain ⟨e1,e2,e3⟩:=hr id hid
 cases ob with
 | box e cells=>
  obtain ⟨k0,b,cs,k1,k2,k3,k4,k5⟩:=h
  simp only [renO,km7]
  refine ⟨by omega,b,cs,by rw [e3,k1],k2,by simpa using k3,fun x hx=>?_,fun i v x hv hx=>?_⟩
  ·obtain ⟨y,hy,rfl⟩:=qao.1 hx
   rw [kxh];exact k4 y hy
  ·simp only [List.getElem?_map,qj] at hx
   obtain ⟨y,hy,rfl⟩:=hx
   exact (k5 i v y hv hy).ren hr
 | frow e s xs=>
  obtain ⟨k0,k1,cs,k2,k3⟩:=h
  exact ⟨by omega,k1,cs,by rw [e3];exact k2,k3⟩
 | sit s pos=>
  obtain ⟨k0,b,k1,k2⟩:=h
  exact ⟨by omega,b,by rw [e3,k1],k2⟩
 | glb gs=>
  obtain ⟨k0,k1,k2,k3⟩:=h
  exact ⟨by omega,by rw [e3];exact k1,by rw [e3];exact k2,k3⟩
 | smap kv=>
  obtain ⟨k0,b,es,cl,k1,k2⟩:=h
  exact ⟨by omega,b,es,cl,by rw [e3,k1],k2⟩
 | memo Φ hi=>
  obtain ⟨k0,b,es,cl,k1,k2⟩:=h
  exact ⟨by omega,b,es,cl,by rw [e3,k1],k2⟩
 | tab g ov eo ei rows=>
  obtain ⟨k0,vs,k1,k2⟩:=h
  exact ⟨by omega,vs,by rw [e3,k1],k2⟩
 | gho cs vs=>
  obtain ⟨k0,k1,k2,k3⟩:=h
  simp only [renO,km7]
  refine ⟨by omega,by rw [e3];exact k1,by rw [e3];exact k2,fun i v x hv hx=>?_⟩
  simp only [List.getElem?_map,qj] at hx
  obtain ⟨y,hy,rfl⟩:=hx
  exact (k3 i v y hv hy).ren hr
 | was a b c d=>cases ho
inductive HEnd where
 | ret (res:AV)
 | pan (v:Value)
def HEnd.ok (ids:List Nat):HEnd→Bool
 | .ret x=>okA ids x
 | .pan _=>true
def HEnd.ren (r:List (Nat×Nat)):HEnd→HEnd
 | .ret x => .ret (renA r x)
 | .pan v => .pan v
def HEnd.is (e:Ending) (ψ:Env) (K:Nat→Prop) (S:Nat→Prop) (w:World):HEnd→Prop
 | .ret res=>∃ v,e = .returned v∧RV ψ K S w v res
 | .pan v=>e = .panicked [{ v:=v,recovered:=false }]
def kat (P:Program) (f:FuncId) (args:List AV) (pre:List (Nat×AObj)) (ids:List Nat) (E:HEnd) (post:List (Nat×AObj)) (ids':List Nat):Prop:=
 (∃ fn, P.funcs[f]? = some fn ∧ fn.body.isNone = false ∧ (fn.name == "runtime.NumGoroutine") = false) ∧
 ∀ (F S0:Nat→Prop) (N0:Nat) (ψ:Env) (S:Nat→Prop) (w:World) (vs:Array Value),vs.size=args.length→(∀ (i:Nat) (v:Value) (x:AV),vs[i]?=some v→args[i]?=some x→RV ψ (·∈ids) S w v x)→Core F S0 N0 pre ids ψ S w →
  Calls P f vs w fun e w'=>∃ ψ' S',E.is e ψ' (·∈ids') S' w'∧Core F S0 N0 post ids' ψ' S' w'∧Fr F w w'∧Ext (·∈ids) ψ ψ'∧(∀ i,i∈ids→i∈ids')∧(∀ b,S b→S' b)∧Same S w w'
def resA (T:List (TypeId×TD)) (st:St):ResultVar→Option AV
 | .tmp t=>some (st.get t)
 | .cell x t=>match ka3 T t,kl8 st (st.get x) with
  | some d,some xs=>kr5 d xs
  | _,_=>none
def kwu (T:List (TypeId×TD)) (st:St):List ResultVar→Option (List AV)
 | []=>some []
 | r::rs=>match resA T st r,kwu T st rs with
  | some y,some ys=>some (y::ys)
  | _,_=>none
def k8n (T:List (TypeId×TD)) (st:St) (rs:List ResultVar):Option AV:=match kwu T st rs with
 | some [y]=>some y
 | some ys=>some (tupA ys)
 | none=>none
def retA (T:List (TypeId×TD)) (st:St) (rs:List ResultVar):Option AV:=match st.dfr with
 | []=>k8n T st rs
 | _=>none
theorem kx7 {T:List (TypeId×TD)} {st:St} {rs:List ResultVar} {y:AV} (h:retA T st rs=some y):st.dfr=[]∧k8n T st rs=some y:=by
 unfold retA  at h
 split at h
 ·rename_i hd;exact ⟨hd,h⟩
 ·cases h
def kn7 (T:List (TypeId×TD)) (rs:List ResultVar) (g:Nat) (ids:List Nat) (E:HEnd) (post:List (Nat×AObj)) (ids':List Nat) (ψ0:Env) (S1:Nat→Prop) (w0:World) (e:Exit) (st:St):Prop:=
 st.heap=(g, .was ψ0 ids S1 w0)::post∧st.ids=g::ids'∧(match E with
  | .ret res=>(e = .normal∨e = .ret)∧retA T st rs=some res
  | .pan v=>st.dfr=[]∧e = .panic [{ v:=v,recovered:=false }])
theorem k3o (hT:TOk P T) (hs:Sim F S0 N0 st ψ S a w):∀ {rs:List ResultVar} {ys:List AV},kwu T st rs=some ys →
  ∃ vs:List Value,(rs.mapM (kmt a.tmps)).run P w = .ok vs w∧vs.length=ys.length∧∀ (i:Nat) (v:Value) (y:AV),vs[i]?=some v→ys[i]?=some y→RV ψ (·∈st.ids) S w v y
 | [],ys,h=>by simp only [kwu,qh] at h;subst h;exact ⟨[],by simp,rfl,fun i v y h=>by simp at h⟩
 | r::rs,ys,h=>by
  simp only [kwu] at h
  split at h
  ·rename_i y ys' h1 h2
   injection h with h
   subst h
   obtain ⟨vs,k1,k2,k3⟩:=k3o hT hs h2
   have key:∃ v,(kmt a.tmps r).run P w = .ok v w∧RV ψ (·∈st.ids) S w v y:=by
    unfold resA at h1
    split at h1
    ·rename_i t
     injection h1 with h1
     subst h1
     exact ⟨_,rfl,hs.tmps t⟩
    ·rename_i x t
     split at h1
     ·rename_i d xs hd hx
      obtain ⟨ad,u,e1,e2,e3⟩:=k7o (hT.get hd) (hs.tmps x) (fun id o ho=>(hs.core.obj id o ho).2.1) hx h1
      refine ⟨u,?_,e3⟩
      simp only [kmt,e1,asAddr,Sem.run_bind,Sem.run_pure,Result.andThen_ok,e2]
     ·cases h1
   obtain ⟨v,e1,e2⟩:=key
   refine ⟨v::vs,?_,by simp [k2],fun i v' y' hv hy=>?_⟩
   ·rw [List.mapM_cons]
    simp only [Sem.run_bind,e1,Result.andThen_ok,k1,Sem.run_pure]
   ·cases i with
    | zero=>simp at hv hy;subst hv hy;exact e2
    | succ i=>exact k3 i v' y' (by simpa using hv) (by simpa using hy)
  ·cases h
theorem k7p (hT:TOk P T) (hs:Sim F S0 N0 st ψ S a w) {fn:Func} {y:AV} (h:retA T st fn.results.toList=some y):∃ v,(results fn a.tmps).run P w = .ok v w∧RV ψ (·∈st.ids) S w v y:=by
 replace h:=(kx7 h).2
 unfold k8n at h
 have key:∀ ys,kwu T st fn.results.toList=some ys→∃ vs:List Value,(results fn a.tmps).run P w = .ok (if h:vs.length=1 then vs[0] else .tuple vs.toArray) w∧vs.length=ys.length∧∀ (i:Nat) (v:Value) (y:AV),vs[i]?=some v→ys[i]?=some y→RV ψ (·∈st.ids) S w v y:=fun ys hy=>by
  obtain ⟨vs,k1,k2,k3⟩:=k3o hT hs hy
  refine ⟨vs,?_,k2,k3⟩
  unfold results
  rw [Array.mapM_eq_mapM_toList]
  have hg:∀ (g:ResultVar→Sem Value),(∀ x,g x=kmt a.tmps x)→(fn.results.toList.mapM g).run P w = .ok vs w:=fun g hg=>by rw [show g=kmt a.tmps from funext hg];exact k1
  simp only [Sem.run_bind,Sem.run_map]
  rw [hg _ fun x=>by cases x <;> rfl]
  simp only [Result.andThen_ok,Sem.run_pure]
  simp
 split at h
 ·rename_i z hz
  injection h with h
  subst h
  obtain ⟨vs,k1,k2,k3⟩:=key _ hz
  have hl:vs.length=1:=by simpa using k2
  rw [dif_pos hl] at k1
  exact ⟨_,k1,k3 0 _ _ (List.getElem?_eq_getElem (by omega)) rfl⟩
 ·rename_i ys hne hy
  injection h with h
  subst h
  obtain ⟨vs,k1,k2,k3⟩:=key _ hy
  have hl:¬ vs.length=1:=fun hl=>by
   rw [k2] at hl
   obtain ⟨z,rfl⟩:=List.length_eq_one_iff.1 hl
   exact hne z rfl
  rw [dif_neg hl] at k1
  exact ⟨_,k1,RV.tupA (by simpa using k2) fun i v x hv hx=>k3 i v x (by simpa using hv) hx⟩
 ·cases h
theorem k5t (hT : TOk P T) {f : FuncId} {fn : Func} {c : Code} {args : List AV} {pre : List (Nat × AObj)} {E : HEnd} {post : List (Nat × AObj)} {ids' : List Nat} {g : Nat} (hf : P.funcs[f]? = some fn) (hb : fn.body = some c) (hn : (fn.name == "runtime.NumGoroutine") = false)
  (hle:Nat.ble args.length fn.ntmps=true) (hg:ids.contains g=false)
  (h:∀ ψ0 S1 w0,awp P c { n:=fn.ntmps,tmps:=argT 0 args,heap:=(g, .was ψ0 ids S1 w0)::pre,ids:=g::ids } (kn7 T fn.results.toList g ids E post ids' ψ0 S1 w0)) (hg':ids'.contains g=false) (hp':(post.all fun p=>okO ids' p.2)=true) (hE:E.ok ids'=true)
  (hk:(post.all fun p=>ids'.contains p.1)=true):kat P f args pre ids E post ids':=by
 have hle:=qac hle
 have hg:g∉ids:=by simpa using hg
 have hg':g∉ids':=by simpa using hg'
 refine ⟨⟨fn,hf,by rw [hb];rfl,hn⟩,fun F S0 N0 ψ S w vs hs hr hc=>calls_of_wp hf hb ?_⟩
 have hcore:=hc.add (n:=0) (v := .nilFunc) (w':=w) (ob := .was ψ ids S w) (kaj _) hg (fun b hb=>by cases hb)
  ⟨ke1 _ _,by rw [kbn];rfl,by rw [kbn];rfl,keo hg _ _,fun i hi=>qk _ hi,fun b hb=>hb,fun _ _ _=>rfl⟩
 have hsim:Sim F S0 N0 { n:=fn.ntmps,tmps:=argT 0 args,heap:=(g, .was ψ ids S w)::pre,ids:=g::ids } (ψ.set g 0 .nilFunc) S
   { tmps:=vs++Array.replicate (fn.ntmps - vs.size) undef,defers:=[] } w:=by
  refine ⟨rfl,by simp;omega,fun t=>?_,hcore⟩
  show RV _ _ _ w _ (look .any (argT 0 args) t)
  rcases kqr args 0 t with h | ⟨x,_,h1,h2⟩
  ·rw [h];exact .any
  ·rw [h2]
   have h1:args[t]?=some x:=by simpa using h1
   have hlt:t<vs.size:=by rw [hs];exact (List.getElem?_eq_some_iff.1 h1).1
   have:(vs++Array.replicate (fn.ntmps - vs.size) undef).getD t undef=vs[t]:=by
    rw [qaj,Array.getElem?_append_left hlt]
    simp [hlt]
   rw [this]
   exact (hr t _ x (by simp [hlt]) h1).keep (keo hg _ _) (fun _ h=>qk _ h) (fun _ h=>h) (fun _ _ _=>rfl)
 refine wp_mono (h _ _ _ F S0 N0 _ S _ w hsim) ?_
 rintro e a' w' ⟨st',ψ',S',⟨hh,hi,hq⟩,h2,h3⟩
 have hgo:kab st'.heap g=some (.was ψ ids S w):=by rw [hh,kai,if_pos rfl]
 obtain ⟨_,⟨_,_,_,k1,k2,k3,k4⟩,_⟩:=h2.core.obj g _ hgo
 have hids:∀ i,i∈ids→i∈ids':=fun i hii=>by
  have:=k2 i hii
  rw [hi] at this
  rcases q8.1 this with rfl | h
  ·exact absurd hii hg
  ·exact h
 have kn7:∀ i ob,kab post i=some ob→i∈ids'∧okO ids' ob=true:=fun i ob ho=>by
  have hm:∀ {l:List (Nat×AObj)},kab l i=some ob→(i,ob)∈l:=fun {l}=>by
   induction l with
   | nil=>intro h;cases h
   | cons p l ih=>
    intro h
    obtain ⟨k,v⟩:=p
    rw [kai] at h
    split at h
    ·rename_i hk;subst hk;injection h with h;subst h;exact qo ..
    ·exact qk _ (ih h)
  have hm:=hm ho
  exact ⟨by simpa using qm.1 hk _ hm,by simpa using qm.1 hp' _ hm⟩
 have hl:∀ i ob,kab post i=some ob→kab st'.heap i=some ob:=fun i ob ho=>by
  have hne:g≠i:=fun e=>hg' (e ▸ (kn7 i ob ho).1)
  rw [hh,kai,if_neg hne];exact ho
 have hcore':Core F S0 N0 post ids' ψ' S' w':=by
  refine ⟨fun i ob ho=>?_,fun i i' ob ob' b ho ho'=>h2.core.inj i i' ob ob' b (hl i ob ho) (hl i' ob' ho'),h2.core.lt,h2.core.s0,h2.core.n0,h2.core.fr⟩
  obtain ⟨_,m2,m3⟩:=h2.core.obj i ob (hl i ob ho)
  exact ⟨(kn7 i ob ho).1,m2.subA (kn7 i ob ho).2,m3⟩
 cases E with
 | ret res=>
  obtain ⟨he,hres⟩:=hq
  have fin:a'.defers=[]∧∃ v,(results fn a'.tmps).run P w' = .ok v w'∧∃ ψ'' S'',HEnd.is (.returned v) ψ'' (·∈ids') S'' w' (.ret res)∧Core F S0 N0 post ids' ψ'' S'' w'∧Fr F w w'∧Ext (·∈ids) ψ ψ''∧(∀ i,i∈ids→i∈ids')∧(∀ b,S b→S'' b)∧Same S w w':=by
   obtain ⟨v,e1,e2⟩:=k7p hT h2 hres
   exact ⟨h2.defers.trans (kx7 hres).1,v,e1,ψ',S',⟨v,rfl,e2.subA hE⟩,hcore',h3,k1,hids,k3,k4⟩
  rcases he with rfl | rfl <;> exact fin
 | pan v=>
  obtain ⟨hd,rfl⟩:=hq
  exact ⟨h2.defers.trans hd,ψ',S',rfl,hcore',h3,k1,hids,k3,k4⟩
end
end Go.Proofs.YtaimpcnpifoidaaGreatDoor
set_option linter.unusedVariables false
set_option linter.unusedSimpArgs false
namespace Go.Proofs.YtaimpcnpifoidaaGreatDoor
open Go Go.RowKit
def kji (foot:List Nat):List (Nat×AObj)→List (Nat×AObj)
 | []=>[]
 | (k,v)::l=>bif foot.contains k then kji foot l else (k,v)::kji foot l
def renH (r:List (Nat×Nat)):List (Nat×AObj)→List (Nat×AObj)
 | []=>[]
 | (k,v)::l=>(rn r k,renO r v)::renH r l
def renI (r:List (Nat×Nat)):List Nat→List Nat
 | []=>[]
 | k::l=>rn r k::renI r l
theorem k7t (r:List (Nat×Nat)):∀ l,renI r l=l.map (rn r)
 | []=>rfl
 | x::l=>by simp [renI,k7t r l]
def k2s:List Nat→Bool
 | []=>true
 | x::l=>!l.contains x && k2s l
def preX (st:St) (r1 r2:List (Nat×Nat)) (foot:List Nat):List Nat→Option (List (Nat×AObj))
 | []=>some []
 | i::l=>match kab st.heap (rn r2 i),preX st r1 r2 foot l with
  | some ob,some r=>bif okO foot ob then some ((i,renO r1 ob)::r) else none
  | _,_=>none
def kn0 (st:St) (r1:List (Nat×Nat)) (foot:List Nat):List C1→List Operand→Option (List AV)
 | [],[]=>some []
 | c::cs,x::xs=>match kn0 st r1 foot cs xs with
  | some r=>bif okA foot (co1 c (st.eval x)) then some (renA r1 (co1 c (st.eval x))::r) else none
  | none=>none
 | _,_=>none
def kno (r1:List (Nat×Nat)) (foot:List Nat):List AV→Option (List AV)
 | []=>some []
 | x::xs=>match kno r1 foot xs with
  | some r=>bif okA foot x then some (renA r1 x::r) else none
  | none=>none
def kl2 (st:St) (r1 r2:List (Nat×Nat)) (keys ids0 ids1:List Nat) (post:List (Nat×AObj)):Bool:=
 ids0.all (fun i=>st.ids.contains (rn r2 i) && Nat.beq (rn r1 (rn r2 i)) i) && (ids1.all (fun i=>ids0.contains i || !st.ids.contains (rn r2 i)) && (k2s (renI r2 ids1) && ((post.all fun p=>okO ids1 p.2) && keys.all ids0.contains)))
theorem k1r {f:Nat→Nat}:∀ {l:List Nat},k2s (l.map f)=true→∀ i j,i∈l→j∈l→f i=f j→i=j
 | [],_,i,j,hi,_,_=>by cases hi
 | x::l,h,i,j,hi,hj,he=>by
  simp only [qah,k2s,qu,Bool.not_eq_true'] at h
  have hx:∀ k,k∈l→f k≠f x:=fun k hk e=>by
   have:f x∈l.map f:=e ▸ List.mem_map_of_mem hk
   have h1:=h.1
   simp only [List.contains_eq_mem,decide_eq_false_iff_not] at h1
   exact h1 this
  rcases q8.1 hi with h1 | h1
  ·rcases q8.1 hj with h2 | h2
   ·rw [h1,h2]
   ·exact absurd (by rw [← he,h1]) (hx j h2)
  ·rcases q8.1 hj with h2 | h2
   ·exact absurd (by rw [he,h2]) (hx i h1)
   ·exact k1r h.2 i j h1 h2 he
theorem knk {i:Nat}:∀ {A B:List (Nat×AObj)} {ob:AObj},kab (A++B) i=some ob→kab A i=some ob∨(kab A i=none∧kab B i=some ob)
 | [],B,ob,h => .inr ⟨rfl,h⟩
 | (k,v)::A,B,ob,h=>by
  rw [qag,kai] at h
  rw [kai]
  by_cases hk:k=i
  ·rw [if_pos hk] at h ⊢; exact .inl h
  ·rw [if_neg hk] at h ⊢; exact knk h
theorem kl9 {r:List (Nat×Nat)} {j:Nat}:∀ {A:List (Nat×AObj)} {ob:AObj},kab (renH r A) j=some ob→∃ i o,kab A i=some o∧rn r i=j∧ob=renO r o
 | [],ob,h=>by cases h
 | (k,v)::A,ob,h=>by
  simp only [renH] at h
  rw [kai] at h
  by_cases hk:rn r k=j
  ·rw [if_pos hk] at h
   injection h with h
   exact ⟨k,v,by rw [kai,if_pos rfl],hk,h.symm⟩
  ·rw [if_neg hk] at h
   obtain ⟨i,o,h1,h2,h3⟩:=kl9 h
   exact ⟨i,o,by rw [kai,if_neg (fun e=>hk (by rw [e];exact h2))];exact h1,h2,h3⟩
theorem klz {foot:List Nat}:∀ {l:List (Nat×AObj)} {k:Nat} {ob:AObj},kab (kji foot l) k=some ob→k∉foot∧kab l k=some ob
 | [],k,ob,h=>by cases h
 | (j,v)::l,k,ob,h=>by
  simp only [kji] at h
  cases hb:foot.contains j with
  | true=>
   rw [hb] at h
   obtain ⟨h1,h2⟩:=klz h
   refine ⟨h1,?_⟩
   rw [kai,if_neg (fun e=>h1 (by subst e;simpa using hb))]
   exact h2
  | false=>
   rw [hb] at h
   simp only [qb,kai] at h
   rw [kai]
   by_cases hk:j=k
   ·subst hk
    rw [if_pos rfl] at h ⊢
    exact ⟨by simpa using hb,h⟩
   ·rw [if_neg hk] at h ⊢
    exact klz h
section
variable {P:Program} {F S0:Nat→Prop} {N0:Nat} {w w':World} {S S':Nat→Prop} {ψ ψ':Env} {K K':Nat→Prop} {T:List (TypeId×TD)} {o:Oper} {a:Act} {st:St} {t:TypeId} {d:TD}
theorem kwx {r1 r2:List (Nat×Nat)} {foot:List Nat}:∀ {l:List Nat} {pre:List (Nat×AObj)},preX st r1 r2 foot l=some pre→∀ i ob,kab pre i=some ob→i∈l∧∃ ob',kab st.heap (rn r2 i)=some ob'∧okO foot ob'=true∧ob=renO r1 ob'
 | [],pre,h,i,ob,ho=>by simp only [preX,qh] at h;subst h;cases ho
 | k::l,pre,h,i,ob,ho=>by
  simp only [preX] at h
  split at h
  ·rename_i ob1 r h1 h2
   cases hb:okO foot ob1 with
   | false=>rw [hb] at h;cases h
   | true=>
    rw [hb] at h
    simp only [qd,qh] at h
    subst h
    rw [kai] at ho
    by_cases hk:k=i
    ·subst hk
     rw [if_pos rfl] at ho
     injection ho with ho
     exact ⟨qo ..,ob1,h1,hb,ho.symm⟩
    ·rw [if_neg hk] at ho
     exact (kwx h2 i ob ho).imp (qk _) id
  ·cases h
theorem k33 {r1:List (Nat×Nat)} {foot ids:List Nat} (h:∀ t,RV ψ (·∈ids) S w (a.tmps.getD t undef) (st.get t)):∀ {cs:List C1} {xs:List Operand} {ys:List AV},kn0 st r1 foot cs xs=some ys →
  ys.length=xs.length∧∀ (i:Nat) (x:Operand) (y:AV),xs[i]?=some x→ys[i]?=some y→∃ z,y=renA r1 z∧RV ψ (·∈foot) S w (a.eval x) z
 | [],[],ys,hh=>by simp only [kn0,qh] at hh;subst hh;exact ⟨rfl,fun i x y h=>by simp at h⟩
 | c::cs,x::xs,ys,hh=>by
  simp only [kn0] at hh
  split at hh
  ·rename_i r h1
   cases hb:okA foot (co1 c (st.eval x)) with
   | false=>rw [hb] at hh;cases hh
   | true=>
    rw [hb] at hh
    simp only [qd,qh] at hh
    subst hh
    obtain ⟨e1,e2⟩:=k33 h h1
    refine ⟨by simp [e1],fun i x' y' hx hy=>?_⟩
    cases i with
    | zero=>
     simp at hx hy
     subst hx hy
     exact ⟨_,rfl,(ksz (c:=c) (Sim.eval_tmps h x)).subA hb⟩
    | succ i=>exact e2 i x' y' (by simpa using hx) (by simpa using hy)
  ·cases hh
 | [],_::_,ys,hh=>by cases hh
 | _::_,[],ys,hh=>by cases hh
theorem k3y {r1:List (Nat×Nat)} {foot:List Nat} {cs:Array Value}:∀ {xs ys:List AV},kno r1 foot xs=some ys→ys.length=xs.length∧∀ (i:Nat) (y:AV),ys[i]?=some y→∃ x,xs[i]?=some x∧okA foot x=true∧y=renA r1 x
 | [],ys,hh=>by simp only [kno,qh] at hh;subst hh;exact ⟨rfl,fun i y h=>by simp at h⟩
 | x::xs,ys,hh=>by
  simp only [kno] at hh
  split at hh
  ·rename_i r h1
   cases hb:okA foot x with
   | false=>rw [hb] at hh;cases hh
   | true=>
    rw [hb] at hh
    simp only [qd,qh] at hh
    subst hh
    obtain ⟨e1,e2⟩:=k3y (cs:=cs) h1
    refine ⟨by simp [e1],fun i y hy=>?_⟩
    cases i with
    | zero=>simp at hy;subst hy;exact ⟨x,rfl,hb,rfl⟩
    | succ i=>simpa using e2 i y (by simpa using hy)
  ·cases hh
theorem k57 {f:FuncId} {as_:List AV} {pre:List (Nat×AObj)} {ids0 ids1:List Nat} {E:HEnd} {post:List (Nat×AObj)} {keys:List Nat} (hc:kat P f as_ pre ids0 E post ids1) (r1 r2:List (Nat×Nat))
  (hcore:Core F S0 N0 st.heap st.ids ψ S w) (hfoot:kl2 st r1 r2 keys ids0 ids1 post=true) (hpre:preX st r1 r2 (renI r2 ids0) keys=some pre) {vs:Array Value} (hvs:vs.size=as_.length)
  (hv:∀ (i:Nat) (v:Value) (y:AV),vs[i]?=some v→as_[i]?=some y→∃ z,y=renA r1 z∧RV ψ (·∈renI r2 ids0) S w v z):
  Calls P f vs w fun e w'=>∃ ψ' S',(E.ren r2).is e ψ' (·∈renI r2 ids1++st.ids) S' w'∧Core F S0 N0 (renH r2 post++kji (renI r2 ids0) st.heap) (renI r2 ids1++st.ids) ψ' S' w'∧Fr F w w'∧Ext (·∈st.ids) ψ ψ'∧(∀ b,S b→S' b)∧Same S w w':=by
 simp only [kl2,qu,qm,Bool.or_eq_true,Bool.not_eq_true',List.contains_eq_mem,decide_eq_true_eq,decide_eq_false_iff_not] at hfoot
 obtain ⟨c1,c2,c3,c4,c5⟩:=hfoot
 simp only [k7t] at hpre hv c3 ⊢
 have inj:=k1r c3
 have hf0:∀ j,j∈ids0.map (rn r2)→∃ i,i∈ids0∧rn r2 i=j∧rn r1 j=i:=fun j hj=>by
  obtain ⟨i,hi,rfl⟩:=qao.1 hj
  exact ⟨i,hi,rfl,qr (c1 i hi).2⟩
 -- the callee's view
 let ψc:Env:=⟨fun i=>ψ.len (rn r2 i),fun i=>ψ.val (rn r2 i)⟩
 let Fc:Nat→Prop:=fun b=>F b∨∃ j ob,kab st.heap j=some ob∧j∉ids0.map (rn r2)∧Blk (ψ.val j) b
 let Sc:Nat→Prop:=fun b=>S b∨∃ j ob,kab st.heap j=some ob∧j∈ids0.map (rn r2)∧Blk (ψ.val j) b
 have hr1:∀ j,j∈ids0.map (rn r2)→rn r1 j∈ids0∧ψc.len (rn r1 j)=ψ.len j∧ψc.val (rn r1 j)=ψ.val j:=fun j hj=>by
  obtain ⟨i,hi,h1,h2⟩:=hf0 j hj
  rw [h2]
  exact ⟨hi,by show ψ.len (rn r2 i)=_;rw [h1],by show ψ.val (rn r2 i)=_;rw [h1]⟩
 have hcc:Core Fc Sc w.heap.size pre ids0 ψc S w:=by
  refine ⟨fun i ob ho=>?_,fun i i' ob ob' b ho ho' hne hb hb'=>?_,hcore.lt,fun b hb => .inl (.inl hb),qw _,fun b hb=>?_⟩
  ·obtain ⟨hi,ob',h1,h2,rfl⟩:=kwx hpre i ob ho
   obtain ⟨k1,k2,k3⟩:=hcore.obj _ _ h1
   have hi0:=c5 i hi
   have hid:rn r2 i∈ids0.map (rn r2):=List.mem_map_of_mem hi0
   have hri:=qr (c1 i hi0).2
   have hO:=(k2.subA h2).ren (ψ':=ψc) (K':=(·∈ids0)) hr1 hid h2
   rw [hri] at hO
   refine ⟨hi0,hO,fun b hb=>⟨(k3 b hb).1,?_, .inl (.inr ⟨_,ob',h1,hid,hb⟩)⟩⟩
   rintro (hf | ⟨j,oj,hj1,hj2,hj3⟩)
   ·exact (k3 b hb).2.1 hf
   ·exact hcore.inj _ _ _ _ b hj1 h1 (fun e=>hj2 (e ▸ hid)) hj3 hb
  ·obtain ⟨hi,ob1,h1,_,_⟩:=kwx hpre i ob ho
   obtain ⟨hi',ob2,h2,_,_⟩:=kwx hpre i' ob' ho'
   refine hcore.inj _ _ _ _ b h1 h2 (fun e=>hne ?_) hb hb'
   have e1:=qr (c1 i (c5 i hi)).2
   have e2:=qr (c1 i' (c5 i' hi')).2
   rw [← e1,← e2,e]
  ·rcases hb with hf | ⟨j,oj,hj1,_,hj3⟩
   ·exact hcore.fr b hf
   ·exact (hcore.obj j oj hj1).2.1.lt hj3
 refine (hc.2 Fc Sc w.heap.size ψc S w vs hvs (fun i v y h1 h2=>?_) hcc).mono ?_
 ·obtain ⟨z,rfl,hz⟩:=hv i v y h1 h2
  exact hz.ren hr1
 rintro e w' ⟨ψc',S',hE,hcore',hfr,hext,hsub,hS,hsame⟩
 have hfind:∀ i,i∈ids1→ids1.find? (fun k=>Nat.beq (rn r2 k) (rn r2 i))=some i:=fun i hi=>by
  cases h:ids1.find? (fun k=>Nat.beq (rn r2 k) (rn r2 i)) with
  | none=>
   rw [List.find?_eq_none] at h
   exact absurd (Nat.beq_refl _) (h i hi)
  | some k=>
   have h1:=List.find?_some h
   rw [inj k i (List.mem_of_find?_eq_some h) hi (qr h1)]
 have hnone:∀ j,(∀ i,i∈ids1→rn r2 i≠j)→ids1.find? (fun k=>Nat.beq (rn r2 k) j)=none:=fun j hj=>by
  rw [List.find?_eq_none]
  intro i hi h
  exact hj i hi (qr h)
 let ψ':Env:=⟨fun j=>match ids1.find? (fun k=>Nat.beq (rn r2 k) j) with | some i=>ψc'.len i | none=>ψ.len j,fun j=>match ids1.find? (fun k=>Nat.beq (rn r2 k) j) with | some i=>ψc'.val i | none=>ψ.val j⟩
 have hat:∀ i,i∈ids1→ψ'.len (rn r2 i)=ψc'.len i∧ψ'.val (rn r2 i)=ψc'.val i:=fun i hi=>by
  constructor
  ·show (match ids1.find? (fun k=>Nat.beq (rn r2 k) (rn r2 i)) with | some i=>ψc'.len i | none=>ψ.len (rn r2 i))=_
   rw [hfind i hi]
  ·show (match ids1.find? (fun k=>Nat.beq (rn r2 k) (rn r2 i)) with | some i=>ψc'.val i | none=>ψ.val (rn r2 i))=_
   rw [hfind i hi]
 have hoff:∀ j,(∀ i,i∈ids1→rn r2 i≠j)→ψ'.len j=ψ.len j∧ψ'.val j=ψ.val j:=fun j hj=>by
  constructor
  ·show (match ids1.find? (fun k=>Nat.beq (rn r2 k) j) with | some i=>ψc'.len i | none=>ψ.len j)=_
   rw [hnone j hj]
  ·show (match ids1.find? (fun k=>Nat.beq (rn r2 k) j) with | some i=>ψc'.val i | none=>ψ.val j)=_
   rw [hnone j hj]
 have hrest:∀ j,j∈st.ids→j∉ids0.map (rn r2)→ψ'.len j=ψ.len j∧ψ'.val j=ψ.val j:=fun j hj hn=>hoff j fun i hi e=>by
  rcases c2 i hi with h | h
  ·exact hn (e ▸ List.mem_map_of_mem h)
  ·exact h (e ▸ hj)
 have hExt:Ext (·∈st.ids) ψ ψ':=fun j hj=>by
  by_cases hn:j∈ids0.map (rn r2)
  ·obtain ⟨i,hi,h1,h2⟩:=hf0 j hn
   obtain ⟨e1,e2⟩:=hext i hi
   obtain ⟨e3,e4⟩:=hat i (hsub i hi)
   rw [← h1,e3,e4]
   exact ⟨e1,e2⟩
  ·obtain ⟨e1,e2⟩:=hrest j hj hn
   exact ⟨by omega,fun _=>e2⟩
 have hren:∀ i,i∈ids1→rn r2 i∈ids1.map (rn r2)++st.ids∧ψ'.len (rn r2 i)=ψc'.len i∧ψ'.val (rn r2 i)=ψc'.val i:=fun i hi=>
  ⟨List.mem_append_left _ (List.mem_map_of_mem hi),hat i hi⟩
 have hK:∀ i,i∈st.ids→i∈ids1.map (rn r2)++st.ids:=fun i hi=>List.mem_append_right _ hi
 have hS0:∀ b,Sc b∨w.heap.size≤b→S0 b∨N0≤b:=fun b hb=>by
  rcases hb with (hb | ⟨j,oj,h1,_,h3⟩) | hb
  ·exact hcore.s0 b hb
  ·exact ((hcore.obj j oj h1).2.2 b h3).2.2
  ·exact .inr (qaw hcore.n0 hb)
 have hother:∀ j oj b,kab st.heap j=some oj→j∉ids0.map (rn r2)→Blk (ψ.val j) b→Fc b∧¬ (Sc b∨w.heap.size≤b):=fun j oj b h1 h2 h3=>by
  refine ⟨.inr ⟨j,oj,h1,h2,h3⟩,?_⟩
  rintro ((hb | ⟨k,ok,g1,g2,g3⟩) | hb)
  ·exact ((hcore.obj j oj h1).2.2 b h3).1 hb
  ·exact hcore.inj j k oj ok b h1 g1 (fun e=>h2 (e ▸ g2)) h3 g3
  ·have:=(hcore.obj j oj h1).2.1.lt h3;omega
 refine ⟨ψ',S',?_,⟨fun j oj ho=>?_,fun j j' oj oj' b ho ho' hne hb hb'=>?_,hcore'.lt,fun b hb=>hS0 b (hcore'.s0 b hb),qaw hcore.n0 hfr.size,fun b hb=>Nat.lt_of_lt_of_le (hcore.fr b hb) hfr.size⟩,
  ⟨hfr.os,hfr.tape,hfr.output,hfr.size,fun b hb=>hfr.block b (.inl hb)⟩,hExt,hS,hsame⟩
 ·cases E with
  | ret res=>
   obtain ⟨v,rfl,hv⟩:=hE
   exact ⟨v,rfl,hv.ren hren⟩
  | pan v=>exact hE
 ·rcases knk ho with h | ⟨_,h⟩
  ·obtain ⟨i,ob,h1,rfl,rfl⟩:=kl9 h
   obtain ⟨k1,k2,k3⟩:=hcore'.obj i ob h1
   refine ⟨(hren i k1).1,k2.ren (ids:=ids1) hren k1 ?_,fun b hb=>?_⟩
   ·have hm:∀ {l:List (Nat×AObj)},kab l i=some ob→(i,ob)∈l:=fun {l}=>by
     induction l with
     | nil=>intro h;cases h
     | cons p l ih=>
      intro h
      obtain ⟨k,v⟩:=p
      rw [kai] at h
      split at h
      ·rename_i hk
       cases hk
       cases qp h
       exact qo ..
      ·exact qk _ (ih h)
    exact c4 _ (hm h1)
   ·rw [(hat i k1).2] at hb
    obtain ⟨m1,m2,m3⟩:=k3 b hb
    exact ⟨m1,fun hf=>m2 (.inl hf),hS0 b m3⟩
  ·obtain ⟨hn,h1⟩:=klz h
   obtain ⟨k1,k2,k3⟩:=hcore.obj j oj h1
   have hso:=hrest j k1 hn
   refine ⟨hK j k1,k2.keep hExt hK hS hsame hso fun b hb=>hfr.block b (hother j oj b h1 hn hb).1,fun b hb=>?_⟩
   rw [hso.2] at hb
   exact ⟨fun hs=>(hother j oj b h1 hn hb).2 (hcore'.s0 b hs),(k3 b hb).2⟩
 ·have bA:∀ {i ob},kab post i=some ob→Blk (ψ'.val (rn r2 i)) b→¬ Fc b:=fun {i ob} h1 hb=>by
   obtain ⟨k1,_,k3⟩:=hcore'.obj i ob h1
   rw [(hat i k1).2] at hb
   exact (k3 b hb).2.1
  rcases knk ho with h | ⟨_,h⟩ <;> rcases knk ho' with h' | ⟨_,h'⟩
  ·obtain ⟨i,ob,h1,rfl,rfl⟩:=kl9 h
   obtain ⟨i',ob',h1',rfl,rfl⟩:=kl9 h'
   obtain ⟨k1,_,_⟩:=hcore'.obj i ob h1
   obtain ⟨k1',_,_⟩:=hcore'.obj i' ob' h1'
   rw [(hat i k1).2] at hb
   rw [(hat i' k1').2] at hb'
   exact hcore'.inj i i' ob ob' b h1 h1' (fun e=>hne (by rw [e])) hb hb'
  ·obtain ⟨i,ob,h1,rfl,rfl⟩:=kl9 h
   obtain ⟨hn',h1'⟩:=klz h'
   rw [(hrest j' (hcore.obj j' oj' h1').1 hn').2] at hb'
   exact bA h1 hb (hother j' oj' b h1' hn' hb').1
  ·obtain ⟨i',ob',h1',rfl,rfl⟩:=kl9 h'
   obtain ⟨hn,h1⟩:=klz h
   rw [(hrest j (hcore.obj j oj h1).1 hn).2] at hb
   exact bA h1' hb' (hother j oj b h1 hn hb).1
  ·obtain ⟨hn,h1⟩:=klz h
   obtain ⟨hn',h1'⟩:=klz h'
   rw [(hrest j (hcore.obj j oj h1).1 hn).2] at hb
   rw [(hrest j' (hcore.obj j' oj' h1').1 hn').2] at hb'
   exact hcore.inj j j' oj oj' b h1 h1' hne hb hb'
def fnOf (n:Nat):AV→Option (FuncId×List AV)
 | .fn f cap=>some (f,cap)
 | .mth f fst=>bif Nat.beq n 0 then some (f,fst) else none
 | _=>none
theorem k81 {f : FuncId} {fst : Array Value} {x : Operand} {args : Array Operand} {ts : Array TypeId} (ho : o.op = .call { callee := .value x, args := args, argTypes := ts }) (hx : a.eval x = .func (.func f) fst #[]) (h0 : args.size = 0) (hf : ∃ fn, P.funcs[f]? = some fn ∧ fn.body.isNone = false ∧ (fn.name == "runtime.NumGoroutine") = false) :
  (execOp a.eval o).run P w = .ok (.enter f (args.map a.eval++fst)) w:=by
 obtain ⟨fn,h1,h2,h3⟩:=hf
 have h2':fn.body≠none:=by intro h;rw [h] at h2;cases h2
 simp only [qy,ne_eq] at h3
 have hn:args=#[]:=Array.eq_empty_of_size_eq_zero h0
 subst hn
 simp [execOp,ho,resolve,hx,Deferred.ofValue,invoke,callFunc,h1,h2',h3]
theorem k77 {f : FuncId} {caps : Array Value} {x : Operand} {args : Array Operand} {ts : Array TypeId} (ho : o.op = .call { callee := .value x, args := args, argTypes := ts }) (hx : a.eval x = .func (.func f) #[] caps) (hf : ∃ fn, P.funcs[f]? = some fn ∧ fn.body.isNone = false ∧ (fn.name == "runtime.NumGoroutine") = false) :
  (execOp a.eval o).run P w = .ok (.enter f (args.map a.eval++caps)) w:=by
 obtain ⟨fn,h1,h2,h3⟩:=hf
 have h2':fn.body≠none:=by intro h;rw [h] at h2;cases h2
 simp only [qy,ne_eq] at h3
 simp [execOp,ho,resolve,hx,Deferred.ofValue,invoke,callFunc,h1,h2',h3]
theorem kyk {f:FuncId} {cap:List AV} {x:Operand} {args:Array Operand} {ts:Array TypeId} {cs:List C1} {as1 as2 pre:_} {ids0 ids1:List Nat} {E:HEnd} {post:List (Nat×AObj)} {keys:List Nat} (r1 r2:List (Nat×Nat)) (ho:o.op = .call { callee := .value x,args:=args,argTypes:=ts })
  (hx:fnOf args.size (st.eval x)=some (f,cap)) (hc:kat P f (as1++as2) pre ids0 E post ids1) (hargs:kn0 st r1 (renI r2 ids0) cs args.toList=some as1) (hcap:kno r1 (renI r2 ids0) cap=some as2)
  (hfoot:kl2 st r1 r2 keys ids0 ids1 post=true) (hpre:preX st r1 r2 (renI r2 ids0) keys=some pre) (hs:Sim F S0 N0 st ψ S a w):
  ∃ vs,(execOp a.eval o).run P w = .ok (.enter f vs) w∧Calls P f vs w fun e w'=>∃ ψ' S',(E.ren r2).is e ψ' (·∈renI r2 ids1++st.ids) S' w'∧Core F S0 N0 (renH r2 post++kji (renI r2 ids0) st.heap) (renI r2 ids1++st.ids) ψ' S' w'∧Fr F w w'∧Ext (·∈st.ids) ψ ψ'∧(∀ b,S b→S' b)∧Same S w w':=by
 have hvx:=hs.eval x
 obtain ⟨caps,hrun,hcs,hcr⟩:∃ caps:Array Value,(execOp a.eval o).run P w = .ok (.enter f (args.map a.eval++caps)) w∧caps.size=cap.length∧∀ (i:Nat) (v:Value) (y:AV),caps[i]?=some v→cap[i]?=some y→RV ψ (·∈st.ids) S w v y:=by
  generalize hu:a.eval x=u at hvx
  generalize st.eval x=y at hx hvx
  unfold fnOf at hx
  split at hx
  ·simp only [qh,qad] at hx
   obtain ⟨rfl,rfl⟩:=hx
   cases hvx with
   | fn h hr=>exact ⟨_,k77 ho hu hc.1,h,hr⟩
  ·rename_i f' fst
   cases hb:Nat.beq args.size 0 with
   | false=>rw [hb] at hx;cases hx
   | true=>
    rw [hb] at hx
    simp only [qd,qh,qad] at hx
    obtain ⟨rfl,rfl⟩:=hx
    cases hvx with
    | mth h hr=>exact ⟨_,k81 ho hu (qr hb) hc.1,h,hr⟩
  ·cases hx
 refine ⟨_,hrun,?_⟩
 obtain ⟨e1,e2⟩:=k33 hs.tmps hargs
 obtain ⟨e3,e4⟩:=k3y (cs:=caps) hcap
 refine k57 hc r1 r2 hs.core hfoot hpre (by simp [e1,e3,hcs]) fun i v y hv hy=>?_
 by_cases hi:i<args.size
 ·rw [Array.getElem?_append_left (by simpa using hi)] at hv
  rw [List.getElem?_append_left (by rw [e1];simpa using hi)] at hy
  simp only [Array.getElem?_map,qj] at hv
  obtain ⟨p,hp,rfl⟩:=hv
  exact e2 i p y (by simpa using hp) hy
 ·rw [Array.getElem?_append_right (by simpa using hi)] at hv
  rw [List.getElem?_append_right (by rw [e1];simpa using hi)] at hy
  have hl:as1.length=args.size:=by rw [e1];simp
  obtain ⟨z,h1,h2,rfl⟩:=e4 _ y hy
  exact ⟨z,rfl,(hcr _ v z (by simpa using hv) (by rw [← h1,hl])).subA h2⟩
theorem kaak {f:FuncId} {cap:List AV} {x:Operand} {args:Array Operand} {ts:Array TypeId} {cs:List C1} {as1 as2 pre:_} {ids0 ids1:List Nat} {res:AV} {post:List (Nat×AObj)} {keys:List Nat} (r1 r2:List (Nat×Nat)) (ho:o.op = .call { callee := .value x,args:=args,argTypes:=ts })
  (hx:fnOf args.size (st.eval x)=some (f,cap)) (hc:kat P f (as1++as2) pre ids0 (.ret res) post ids1) (hargs:kn0 st r1 (renI r2 ids0) cs args.toList=some as1) (hcap:kno r1 (renI r2 ids0) cap=some as2)
  (hfoot:kl2 st r1 r2 keys ids0 ids1 post=true) (hpre:preX st r1 r2 (renI r2 ids0) keys=some pre):
  kdf P o st (renA r2 res) (renH r2 post++kji (renI r2 ids0) st.heap) (renI r2 ids1++st.ids):=by
 intro F S0 N0 ψ S a w hs
 obtain ⟨vs,h1,h2⟩:=kyk r1 r2 ho hx hc hargs hcap hfoot hpre hs
 unfold khr
 rw [h1]
 refine h2.mono ?_
 rintro e w' ⟨ψ',S',⟨v,rfl,hv⟩,h3,h4,h5,h6,h7⟩
 exact ⟨v,rfl,ψ',S',h3,hv,h4,h5,fun i hi=>List.mem_append_right _ hi,h6,h7⟩
theorem h_pan {f:FuncId} {cap:List AV} {ops:Array Oper} {l:List Oper} {Q:Exit→St→Prop} {x:Operand} {args:Array Operand} {ts:Array TypeId} {cs:List C1} {as1 as2 pre:_} {ids0 ids1:List Nat} {v:Value} {post:List (Nat×AObj)} {keys:List Nat} (r1 r2:List (Nat×Nat)) (ho:o.op = .call { callee := .value x,args:=args,argTypes:=ts })
  (hx:fnOf args.size (st.eval x)=some (f,cap)) (hc:kat P f (as1++as2) pre ids0 (.pan v) post ids1) (hargs:kn0 st r1 (renI r2 ids0) cs args.toList=some as1) (hcap:kno r1 (renI r2 ids0) cap=some as2)
  (hfoot:kl2 st r1 r2 keys ids0 ids1 post=true) (hpre:preX st r1 r2 (renI r2 ids0) keys=some pre) (hg:kdv ops st o=some true)
  (hn:Q (.panic [{ v:=v,recovered:=false }]) { st with heap:=renH r2 post++kji (renI r2 ids0) st.heap,ids:=renI r2 ids1++st.ids }):awpL P ops (o::l) st Q:=by
 intro F S0 N0 ψ S a w hs
 obtain ⟨vs,h1,h2⟩:=kyk r1 r2 ho hx hc hargs hcap hfoot hpre hs
 unfold wpList
 rw [kjw hs hg]
 refine .inl ?_
 unfold Oper.wp
 rw [h1]
 show Calls P f vs w _
 refine h2.mono ?_
 rintro e w' ⟨ψ',S',rfl,h3,h4,h5,h6,h7⟩
 exact ⟨_,ψ',S',hn,⟨hs.defers,hs.size,fun t=>(hs.tmps t).keep h5 (fun i hi=>List.mem_append_right _ hi) h6 h7,h3⟩,h4⟩
def hQ (T:List (TypeId×TD)) (rs:List ResultVar) (g:Nat) (ids:List Nat) (E:HEnd) (post:List (Nat×AObj)) (ids':List Nat) (ψ0:Env) (S1:Nat→Prop) (w0:World) (e:Exit) (st:St):Prop:=
 ∃ st2,LeSt st st2∧kn7 T rs g ids E post ids' ψ0 S1 w0 e st2
theorem kz5 {rs:List ResultVar} {g:Nat} {ids ids':List Nat} {res:AV} {post:List (Nat×AObj)} {ψ0:Env} {S1:Nat→Prop} {w0:World} {e:Exit} {st st2:St} (hl:LeSt st st2) (hh:st2.heap=(g, .was ψ0 ids S1 w0)::post) (hi:st2.ids=g::ids')
  (he:e = .normal∨e = .ret) (hr:retA T st2 rs=some res):hQ T rs g ids (.ret res) post ids' ψ0 S1 w0 e st:=⟨st2,hl,hh,hi,he,hr⟩
theorem kak2 {rs:List ResultVar} {g:Nat} {ids ids':List Nat} {v:Value} {post:List (Nat×AObj)} {ψ0:Env} {S1:Nat→Prop} {w0:World} {st st2:St} (hl:LeSt st st2) (hh:st2.heap=(g, .was ψ0 ids S1 w0)::post) (hi:st2.ids=g::ids') (hd:st2.dfr=[]):
  hQ T rs g ids (.pan v) post ids' ψ0 S1 w0 (.panic [{ v:=v,recovered:=false }]) st:=⟨st2,hl,hh,hi,hd,rfl⟩
theorem kvq (hT : TOk P T) {f : FuncId} {fn : Func} {c : Code} {args : List AV} {pre : List (Nat × AObj)} {ids : List Nat} {E : HEnd} {post : List (Nat × AObj)} {ids' : List Nat} {g : Nat} (hf : P.funcs[f]? = some fn) (hb : fn.body = some c) (hn : (fn.name == "runtime.NumGoroutine") = false)
  (hle:Nat.ble args.length fn.ntmps=true) (hg:ids.contains g=false) (hg':ids'.contains g=false) (hp':(post.all fun p=>okO ids' p.2)=true) (hE:E.ok ids'=true) (hk:(post.all fun p=>ids'.contains p.1)=true)
  (h:∀ ψ0 S1 w0,awp P c { n:=fn.ntmps,tmps:=argT 0 args,heap:=(g, .was ψ0 ids S1 w0)::pre,ids:=g::ids } (hQ T fn.results.toList g ids E post ids' ψ0 S1 w0)):kat P f args pre ids E post ids':=
 k5t hT hf hb hn hle hg (fun ψ0 S1 w0=>kui (h ψ0 S1 w0)) hg' hp' hE hk
end
end Go.Proofs.YtaimpcnpifoidaaGreatDoor
