import Derived.Test.YtpnnpkmjohkgiaaGreatDoorDrawE
set_option linter.all false
namespace Go.Proofs.YtpnnpkmjohkgiaaGreatDoor
open Go Go.RowKit
def rn:List (Nat×Nat)->Nat->Nat
 | [],i=>i
 | (k,j)::l,i=>bif Nat.beq k i then j else rn l i
mutual
def renA (r:List (Nat×Nat)):AV->AV
 | .fz x => .fz x
 | .agg cs => .agg (kgw r cs)
 | .tup vs => .tup (kgw r vs)
 | .ref id n off => .ref (rn r id) n off
 | .row id n => .row (rn r id) n
 | .lim a b c => .lim a b c
 | .mp id => .mp (rn r id)
 | .opt id => .opt (rn r id)
 | .sdp id n => .sdp (rn r id) n
 | .win id n lo hi => .win (rn r id) n lo hi
 | .irow id g j => .irow (rn r id) g j
 | .iref id g j off => .iref (rn r id) g j off
 | .bsl id g off len cap => .bsl (rn r id) g off len cap
 | .fn f cap => .fn f (kgw r cap)
 | .mth f cap => .mth f (kgw r cap)
 | .any => .any
def kgw (r:List (Nat×Nat)):List AV->List AV
 | []=>[]
 | x::l=>renA r x::kgw r l
end
mutual
def okA (ids:List Nat):AV->Bool
 | .fz _=>true
 | .agg cs=>okAs ids cs
 | .tup vs=>okAs ids vs
 | .ref id _ _=>ids.contains id
 | .row id _=>ids.contains id
 | .lim _ _ _=>true
 | .mp id=>ids.contains id
 | .opt id=>ids.contains id
 | .sdp id _=>ids.contains id
 | .win id _ _ _=>ids.contains id
 | .irow id _ _=>ids.contains id
 | .iref id _ _ _=>ids.contains id
 | .bsl id _ _ _ _=>ids.contains id
 | .fn _ cap=>okAs ids cap
 | .mth _ cap=>okAs ids cap
 | .any=>true
def okAs (ids:List Nat):List AV->Bool
 | []=>true
 | x::l=>okA ids x && okAs ids l
end
def renO (r:List (Nat×Nat)):AObj->AObj
 | .box e cs => .box e (kgw r cs)
 | .frow e s xs => .frow e s xs
 | .smap kv => .smap kv
 | .gho cs vs => .gho cs (kgw r vs)
 | .was a b c d => .was a b c d
 | .tab g ov eo ei rows => .tab g ov eo ei rows
 | .glb gs => .glb gs
 | .sit s pos => .sit s pos
 | .memo Φ h => .memo Φ h
 | .xo k => .xo k
def okO (ids:List Nat):AObj->Bool
 | .box _ cs=>okAs ids cs
 | .frow _ _ _=>true
 | .smap _=>true
 | .tab _ _ _ _ _=>true
 | .gho _ vs=>okAs ids vs
 | .glb _=>true
 | .sit _ _=>true
 | .memo _ _=>true
 | _=>false
theorem kfn (r:List (Nat×Nat)):∀ l,kgw r l=l.map (renA r)
 | []=>rfl
 | x::l=>by simp [kgw,kfn r l]
theorem kfs (ids:List Nat):∀ l,okAs ids l=l.all (okA ids)
 | []=>rfl
 | x::l=>by simp [okAs,kfs ids l]
theorem kk2 (r:List (Nat×Nat)) (x:AV):(renA r x).single=x.single:=by cases x <;> rfl
section
variable {P:Program} {F S0:Nat->Prop} {N0:Nat} {w w':World} {S S':Nat->Prop} {ψ ψ':Env} {K K':Nat->Prop} {T:List (TypeId×TD)} {o:Oper} {a:Act} {st:St} {t:TypeId} {d:TD} {ids:List Nat}
theorem RV.ren {r:List (Nat×Nat)} {v:Value} {x:AV} (h:RV ψ K S w v x) (hr:∀ i,K i->K' (rn r i)/\ψ'.len (rn r i)=ψ.len i/\ψ'.val (rn r i)=ψ.val i):RV ψ' K' S w v (renA r x):=by
 induction h with
 | fz h=>exact .fz h
 | agg h h1 _ ih=>
  simp only [renA,kfn];refine .agg (by simpa using h) (fun x a=>?_) fun i v x hv a=>?_;obtain ⟨y,hy,rfl⟩:=qaf.1 a;rw [kk2];exact h1 y hy
  ·simp only [qr,qp] at a;obtain ⟨y,hy,rfl⟩:=a;exact ih i v y hv hy
 | tup h _ ih=>
  simp only [renA,kfn];refine .tup (by simpa using h) fun i v x hv a=>?_;simp only [qr,qp] at a;obtain ⟨y,hy,rfl⟩:=a;exact ih i v y hv hy
 | @ref id n off v hk hn h1 hv=>
  obtain ⟨e1,e2,e3⟩:=hr id hk;exact .ref e1 (by omega) h1 fun h=>by rw [e3];exact hv (by omega)
 | @row id n v hk hn h1 hv=>
  obtain ⟨e1,e2,e3⟩:=hr id hk;exact .row e1 (by omega) h1 fun h=>by rw [e3];exact hv (by omega)
 | lim h=>exact .lim h
 | @mp id v hk h1 hv=>
  obtain ⟨e1,e2,e3⟩:=hr id hk;exact .mp e1 h1 fun h=>by rw [e3];exact hv (by omega)
 | fn h _ ih=>
  simp only [renA,kfn];refine .fn (by simpa using h) fun i v x hv a=>?_;simp only [qr,qp] at a;obtain ⟨y,hy,rfl⟩:=a;exact ih i v y hv hy
 | mth h _ ih=>
  simp only [renA,kfn];refine .mth (by simpa using h) fun i v x hv a=>?_;simp only [qr,qp] at a;obtain ⟨y,hy,rfl⟩:=a;exact ih i v y hv hy
 | @opt id v hk h1 hv=>
  obtain ⟨e1,e2,e3⟩:=hr id hk;exact .opt e1 h1 fun h=>by rw [e3];exact hv (by omega)
 | @sdp id n v hk hn h1 hv=>
  obtain ⟨e1,e2,e3⟩:=hr id hk;exact .sdp e1 (by omega) h1 fun h=>by rw [e3];exact hv (by omega)
 | @win id n lo hi v hk hn h1 hv=>
  obtain ⟨e1,e2,e3⟩:=hr id hk;exact .win e1 (by omega) h1 fun h=>by rw [e3];exact hv (by omega)
 | @irow id g j v hk hn h1 hv=>
  obtain ⟨e1,e2,e3⟩:=hr id hk;exact .irow e1 (by omega) h1 fun h=>by rw [e3];exact hv (by omega)
 | @iref id g j off v hk hn h1 hv=>
  obtain ⟨e1,e2,e3⟩:=hr id hk;exact .iref e1 (by omega) h1 fun h=>by rw [e3];exact hv (by omega)
 | @bsl id g off len cap v hk hn h1 hv=>
  obtain ⟨e1,e2,e3⟩:=hr id hk;exact .bsl e1 (by omega) h1 fun h=>by rw [e3];exact hv (by omega)
 | any=>exact .any
theorem RV.subA {v:Value} {x:AV} (h:RV ψ K S w v x) (ho:okA ids x=true):RV ψ (·∈ids) S w v x:=by
 induction h with
 | fz h=>exact .fz h
 | agg h h1 _ ih=>
  rw [okA,kfs] at ho;exact .agg h h1 fun i v x hv a=>ih i v x hv a (ql.1 ho x (qm a))
 | tup h _ ih=>
  rw [okA,kfs] at ho;exact .tup h fun i v x hv a=>ih i v x hv a (ql.1 ho x (qm a))
 | ref hK hn h1 hv=>exact .ref (by simpa [okA] using ho) hn h1 hv
 | row hK hn h1 hv=>exact .row (by simpa [okA] using ho) hn h1 hv
 | lim h=>exact .lim h
 | mp hK h1 hv=>exact .mp (by simpa [okA] using ho) h1 hv
 | fn h _ ih=>
  rw [okA,kfs] at ho;exact .fn h fun i v x hv a=>ih i v x hv a (ql.1 ho x (qm a))
 | mth h _ ih=>
  rw [okA,kfs] at ho;exact .mth h fun i v x hv a=>ih i v x hv a (ql.1 ho x (qm a))
 | opt hK h1 hv=>exact .opt (by simpa [okA] using ho) h1 hv
 | sdp hK hn h1 hv=>exact .sdp (by simpa [okA] using ho) hn h1 hv
 | win hK hn h1 hv=>exact .win (by simpa [okA] using ho) hn h1 hv
 | irow hK hn h1 hv=>exact .irow (by simpa [okA] using ho) hn h1 hv
 | iref hK hn h1 hv=>exact .iref (by simpa [okA] using ho) hn h1 hv
 | bsl hK hn h1 hv=>exact .bsl (by simpa [okA] using ho) hn h1 hv
 | any=>exact .any
theorem ObR.subA {id:Nat} {ob:AObj} (h:ObR ψ K S w id ob) (ho:okO ids ob=true):ObR ψ (·∈ids) S w id ob:=by
 cases ob with
 | box e cells=>
  obtain ⟨k0,b,cs,k1,k2,k3,k4,k5⟩:=h;rw [okO,kfs] at ho;exact ⟨k0,b,cs,k1,k2,k3,k4,fun i v x hv f=>(k5 i v x hv f).subA (ql.1 ho x (qm f))⟩
 | frow e s xs=>exact h
 | smap kv=>exact h
 | glb gs=>exact h
 | sit s pos=>exact h
 | memo Φ hi=>exact h
 | xo k=>cases ho
 | tab g ov eo ei rows=>exact h
 | gho cs vs=>
  obtain ⟨k0,k1,k2,k3⟩:=h;rw [okO,kfs] at ho;exact ⟨k0,k1,k2,fun i v x hv f=>(k3 i v x hv f).subA (ql.1 ho x (qm f))⟩
 | was a b c d=>cases ho
theorem ObR.ren {r:List (Nat×Nat)} {id:Nat} {ob:AObj} (h:ObR ψ K S w id ob) (hr:∀ i,K i->K' (rn r i)/\ψ'.len (rn r i)=ψ.len i/\ψ'.val (rn r i)=ψ.val i) (j:K id)
  (ho:okO ids ob=true):ObR ψ' K' S w (rn r id) (renO r ob):=by
 obtain ⟨e1,e2,e3⟩:=hr id j;cases ob with
 | box e cells=>
  obtain ⟨k0,b,cs,k1,k2,k3,k4,k5⟩:=h;simp only [renO,kfn];refine ⟨by omega,b,cs,by rw [e3,k1],k2,by simpa using k3,fun x f=>?_,fun i v x hv f=>?_⟩;obtain ⟨y,hy,rfl⟩:=qaf.1 f;rw [kk2];exact k4 y hy
  ·simp only [qr,qp] at f;obtain ⟨y,hy,rfl⟩:=f;exact (k5 i v y hv hy).ren hr
 | frow e s xs=>
  obtain ⟨k0,k1,cs,k2,k3⟩:=h;exact ⟨by omega,k1,cs,by rw [e3];exact k2,k3⟩
 | sit s pos=>
  obtain ⟨k0,b,k1,k2⟩:=h;exact ⟨by omega,b,by rw [e3,k1],k2⟩
 | glb gs=>
  obtain ⟨k0,k1,k2,k3⟩:=h;exact ⟨by omega,by rw [e3];exact k1,by rw [e3];exact k2,k3⟩
 | smap kv=>
  obtain ⟨k0,b,es,cl,k1,k2⟩:=h;exact ⟨by omega,b,es,cl,by rw [e3,k1],k2⟩
 | memo Φ hi=>
  obtain ⟨k0,b,es,cl,k1,k2⟩:=h;exact ⟨by omega,b,es,cl,by rw [e3,k1],k2⟩
 | xo k=>cases ho
 | tab g ov eo ei rows=>
  obtain ⟨k0,vs,k1,k2⟩:=h;exact ⟨by omega,vs,by rw [e3,k1],k2⟩
 | gho cs vs=>
  obtain ⟨k0,k1,k2,k3⟩:=h;simp only [renO,kfn];refine ⟨by omega,by rw [e3];exact k1,by rw [e3];exact k2,fun i v x hv f=>?_⟩;simp only [qr,qp] at f;obtain ⟨y,hy,rfl⟩:=f;exact (k3 i v y hv hy).ren hr
 | was a b c d=>cases ho
inductive HEnd where
 | ret (res:AV)
 | pan (v:Value)
def HEnd.ok (ids:List Nat):HEnd->Bool
 | .ret x=>okA ids x
 | .pan _=>true
def HEnd.ren (r:List (Nat×Nat)):HEnd->HEnd
 | .ret x => .ret (renA r x)
 | .pan v => .pan v
def HEnd.is (e:Ending) (ψ:Env) (K S:Nat->Prop) (w:World):HEnd->Prop
 | .ret res=>∃ v,e = .returned v/\RV ψ K S w v res
 | .pan v=>e = .panicked [{ v:=v,recovered:=false }]
def kdh (P:Program) (f:FuncId) (args:List AV) (pre:List (Nat×AObj)) (ids:List Nat) (E:HEnd) (post:List (Nat×AObj)) (ids':List Nat):Prop:=
 (∃ fn, P.funcs[f]? = some fn /\ fn.body.isNone = false /\ (fn.name == "runtime.NumGoroutine") = false) /\
 ∀ (F S0:Nat->Prop) (N0:Nat) (ψ:Env) (S:Nat->Prop) (w:World) (vs:Array Value),vs.size=args.length->(∀ (i:Nat) (v:Value) (x:AV),vs[i]?=some v->args[i]?=some x->RV ψ (·∈ids) S w v x)->Core F S0 N0 pre ids ψ S w ->
  Calls P f vs w fun e w'=>∃ ψ' S',E.is e ψ' (·∈ids') S' w'/\Core F S0 N0 post ids' ψ' S' w'/\Fr F w w'/\Ext (·∈ids) ψ ψ'/\(∀ i,i∈ids->i∈ids')/\(∀ b,S b->S' b)/\Same S w w'
def resA (T:List (TypeId×TD)) (st:St):ResultVar->Option AV
 | .tmp t=>some (st.get t)
 | .cell x t=>match kad T t,kft st (st.get x) with
  | some d,some xs=>kfj d xs
  | _,_=>none
def kj2 (T:List (TypeId×TD)) (st:St):List ResultVar->Option (List AV)
 | []=>some []
 | r::rs=>match resA T st r,kj2 T st rs with
  | some y,some ys=>some (y::ys)
  | _,_=>none
def kra (T:List (TypeId×TD)) (st:St) (rs:List ResultVar):Option AV:=match kj2 T st rs with
 | some [y]=>some y
 | some ys=>some (tupA ys)
 | none=>none
def retA (T:List (TypeId×TD)) (st:St) (rs:List ResultVar):Option AV:=match st.dfr with
 | []=>kra T st rs
 | _=>none
theorem kpy {T:List (TypeId×TD)} {st:St} {rs:List ResultVar} {y:AV} (h:retA T st rs=some y):st.dfr=[]/\kra T st rs=some y:=by
 unfold retA  at h;split at h;rename_i a;exact ⟨a,h⟩
 ·cases h
def kkd (T:List (TypeId×TD)) (rs:List ResultVar) (g:Nat) (ids:List Nat) (E:HEnd) (post:List (Nat×AObj)) (ids':List Nat) (ψ0:Env) (S1:Nat->Prop) (w0:World) (e:Exit) (st:St):Prop:=
 st.heap=(g, .was ψ0 ids S1 w0)::post/\st.ids=g::ids'/\(match E with
  | .ret res=>(e = .normal\/e = .ret)/\retA T st rs=some res
  | .pan v=>st.dfr=[]/\e = .panic [{ v:=v,recovered:=false }])
theorem kp0 (b:TOk P T) (hs:Sim F S0 N0 st ψ S a w):∀ {rs:List ResultVar} {ys:List AV},kj2 T st rs=some ys ->
  ∃ vs:List Value,(rs.mapM (kds a.tmps)).run P w = .ok vs w/\vs.length=ys.length/\∀ (i:Nat) (v:Value) (y:AV),vs[i]?=some v->ys[i]?=some y->RV ψ (·∈st.ids) S w v y
 | [],ys,h=>by simp only [kj2,qb] at h;subst h;exact ⟨[],by simp,rfl,fun i v y h=>by simp at h⟩
 | r::rs,ys,h=>by
  simp only [kj2] at h;split at h
  ·rename_i y ys' h1 c;injection h with h;subst h;obtain ⟨vs,k1,k2,k3⟩:=kp0 b hs c;have key:∃ v,(kds a.tmps r).run P w = .ok v w/\RV ψ (·∈st.ids) S w v y:=by
    unfold resA at h1;split at h1;rename_i t;injection h1 with h1;subst h1;exact ⟨_,rfl,hs.tmps t⟩
    ·rename_i x t;split at h1;rename_i d xs e f;obtain ⟨ad,u,e1,e2,e3⟩:=kqx (b.get e) (hs.tmps x) (fun id o ho=>(hs.core.obj id o ho).2.1) f h1;refine ⟨u,?_,e3⟩;simp only [kds,e1,asAddr,Sem.run_bind,Sem.run_pure,Result.andThen_ok,e2]
     ·cases h1
   obtain ⟨v,e1,e2⟩:=key;refine ⟨v::vs,?_,by simp [k2],fun i v' y' hv hy=>?_⟩;rw [List.mapM_cons];simp only [Sem.run_bind,e1,Result.andThen_ok,k1,Sem.run_pure]
   ·cases i with
    | zero=>simp at hv hy;subst hv hy;exact e2
    | succ i=>exact k3 i v' y' (by simpa using hv) (by simpa using hy)
  ·cases h
theorem ky0 (d:TOk P T) (hs:Sim F S0 N0 st ψ S a w) {fn:Func} {y:AV} (h:retA T st fn.results.toList=some y):∃ v,(results fn a.tmps).run P w = .ok v w/\RV ψ (·∈st.ids) S w v y:=by
 replace h:=(kpy h).2;unfold kra at h;have key:∀ ys,kj2 T st fn.results.toList=some ys->∃ vs:List Value,(results fn a.tmps).run P w = .ok (if h:vs.length=1 then vs[0] else .tuple vs.toArray) w/\vs.length=ys.length/\∀ (i:Nat) (v:Value) (y:AV),vs[i]?=some v->ys[i]?=some y->RV ψ (·∈st.ids) S w v y:=fun ys hy=>by
  obtain ⟨vs,k1,k2,k3⟩:=kp0 d hs hy;refine ⟨vs,?_,k2,k3⟩;unfold results;rw [Array.mapM_eq_mapM_toList];have b:∀ (g:ResultVar->Sem Value),(∀ x,g x=kds a.tmps x)->(fn.results.toList.mapM g).run P w = .ok vs w:=fun g b=>by rw [show g=kds a.tmps from funext b];exact k1
  simp only [Sem.run_bind,Sem.run_map];rw [b _ fun x=>by cases x <;> rfl];simp only [Result.andThen_ok,Sem.run_pure];simp
 split at h
 ·rename_i z e;injection h with h;subst h;obtain ⟨vs,k1,k2,k3⟩:=key _ e;have hl:vs.length=1:=by simpa using k2
  rw [dif_pos hl] at k1;exact ⟨_,k1,k3 0 _ _ (qa (by omega)) rfl⟩
 ·rename_i ys c hy;injection h with h;subst h;obtain ⟨vs,k1,k2,k3⟩:=key _ hy;have hl:¬ vs.length=1:=fun hl=>by rw [k2] at hl;obtain ⟨z,rfl⟩:=List.length_eq_one_iff.1 hl;exact c z rfl
  rw [dif_neg hl] at k1;exact ⟨_,k1,RV.tupA (by simpa using k2) fun i v x hv f=>k3 i v x (by simpa using hv) f⟩
 ·cases h
theorem kp6 (K : TOk P T) {f : FuncId} {fn : Func} {c : Code} {args : List AV} {pre : List (Nat × AObj)} {E : HEnd} {post : List (Nat × AObj)} {ids' : List Nat} {g : Nat} (hf : P.funcs[f]? = some fn) (s : fn.body = some c) (hn : (fn.name == "runtime.NumGoroutine") = false)
  (y:Nat.ble args.length fn.ntmps=true) (u:ids.contains g=false)
  (h:∀ ψ0 S1 w0,awp P c { n:=fn.ntmps,tmps:=argT 0 args,heap:=(g, .was ψ0 ids S1 w0)::pre,ids:=g::ids } (kkd T fn.results.toList g ids E post ids' ψ0 S1 w0)) (o:ids'.contains g=false) (B:(post.all fun p=>okO ids' p.2)=true) (L:E.ok ids'=true)
  (hk:(post.all fun p=>ids'.contains p.1)=true):kdh P f args pre ids E post ids':=by
 have y:=qk y;have u:g∉ids:=by simpa using u
 have o:g∉ids':=by simpa using o
 refine ⟨⟨fn,hf,by rw [s];rfl,hn⟩,fun F S0 N0 ψ S w vs hs hr hc=>calls_of_wp hf s ?_⟩;have q:=hc.add (n:=0) (v := .nilFunc) (w':=w) (ob := .was ψ ids S w) (kag _) u (fun b s=>by cases s)
  ⟨kbz _ _,by rw [kar];rfl,by rw [kar];rfl,kb2 u _ _,fun i hi=>qs _ hi,fun b s=>s,fun _ _ _=>rfl⟩
 have z:Sim F S0 N0 { n:=fn.ntmps,tmps:=argT 0 args,heap:=(g, .was ψ ids S w)::pre,ids:=g::ids } (ψ.set g 0 .nilFunc) S
   { tmps:=vs++Array.replicate (fn.ntmps - vs.size) undef,defers:=[] } w:=by
  refine ⟨rfl,by simp;omega,fun t=>?_,q⟩;show RV _ _ _ w _ (look .any (argT 0 args) t);rcases kg7 args 0 t with h | ⟨x,_,h1,d⟩;rw [h];exact .any
  ·rw [d];have h1:args[t]?=some x:=(by simpa using h1);have r:t<vs.size:=(by rw [hs];exact (qd.1 h1).1);have:(vs++Array.replicate (fn.ntmps - vs.size) undef).getD t undef=vs[t]:=(by rw [qap,qa7 r];simp [r]);rw [this];exact (hr t _ x (by simp [r]) h1).keep (kb2 u _ _) (fun _ h=>qs _ h) (fun _ h=>h) (fun _ _ _=>rfl)
 refine wp_mono (h _ _ _ F S0 N0 _ S _ w z) ?_;rintro e a' w' ⟨st',ψ',S',⟨H,hi,I⟩,d,J⟩;have C:kab st'.heap g=some (.was ψ ids S w):=by rw [H,kae,qq rfl]
 obtain ⟨_,⟨_,_,_,k1,k2,k3,k4⟩,_⟩:=d.core.obj g _ C;have j:∀ i,i∈ids->i∈ids':=fun i A=>by
  have:=k2 i A;rw [hi] at this;rcases qaw.1 this with rfl | h;exact absurd A u
  ·exact h
 have kkd:∀ i ob,kab post i=some ob->i∈ids'/\okO ids' ob=true:=fun i ob ho=>by
  have hm:∀ {l:List (Nat×AObj)},kab l i=some ob->(i,ob)∈l:=fun {l}=>by
   induction l with
   | nil=>intro h;cases h
   | cons p l ih=>
    intro h;obtain ⟨k,v⟩:=p;rw [kae] at h;split at h;rename_i hk;subst hk;injection h with h;subst h;exact qv ..
    ·exact qs _ (ih h)
  have hm:=hm ho;exact ⟨by simpa using ql.1 hk _ hm,by simpa using ql.1 B _ hm⟩
 have hl:∀ i ob,kab post i=some ob->kab st'.heap i=some ob:=fun i ob ho=>by have D:g≠i:=fun e=>o (e ▸ (kkd i ob ho).1);rw [H,kae,qh D];exact ho
 have a:Core F S0 N0 post ids' ψ' S' w':=by refine ⟨fun i ob ho=>?_,fun i i' ob ob' b ho G=>d.core.inj i i' ob ob' b (hl i ob ho) (hl i' ob' G),d.core.lt,d.core.s0,d.core.n0,d.core.fr⟩;obtain ⟨_,m2,m3⟩:=d.core.obj i ob (hl i ob ho);exact ⟨(kkd i ob ho).1,m2.subA (kkd i ob ho).2,m3⟩
 cases E with
 | ret res=>
  obtain ⟨M,m⟩:=I;have fin:a'.defers=[]/\∃ v,(results fn a'.tmps).run P w' = .ok v w'/\∃ ψ'' S'',HEnd.is (.returned v) ψ'' (·∈ids') S'' w' (.ret res)/\Core F S0 N0 post ids' ψ'' S'' w'/\Fr F w w'/\Ext (·∈ids) ψ ψ''/\(∀ i,i∈ids->i∈ids')/\(∀ b,S b->S'' b)/\Same S w w':=by obtain ⟨v,e1,e2⟩:=ky0 K d m;exact ⟨d.defers.trans (kpy m).1,v,e1,ψ',S',⟨v,rfl,e2.subA L⟩,a,J,k1,j,k3,k4⟩
  rcases M with rfl | rfl <;> exact fin
 | pan v=>
  obtain ⟨N,rfl⟩:=I;exact ⟨d.defers.trans N,ψ',S',rfl,a,J,k1,j,k3,k4⟩
end
def ke2 (foot:List Nat):List (Nat×AObj)->List (Nat×AObj)
 | []=>[]
 | (k,v)::l=>bif foot.contains k then ke2 foot l else (k,v)::ke2 foot l
def renH (r:List (Nat×Nat)):List (Nat×AObj)->List (Nat×AObj)
 | []=>[]
 | (k,v)::l=>(rn r k,renO r v)::renH r l
def renI (r:List (Nat×Nat)):List Nat->List Nat
 | []=>[]
 | k::l=>rn r k::renI r l
theorem kqu (r:List (Nat×Nat)):∀ l,renI r l=l.map (rn r)
 | []=>rfl
 | x::l=>by simp [renI,kqu r l]
def koi:List Nat->Bool
 | []=>true
 | x::l=>!l.contains x && koi l
def preX (st:St) (r1 r2:List (Nat×Nat)) (foot:List Nat):List Nat->Option (List (Nat×AObj))
 | []=>some []
 | i::l=>match kab st.heap (rn r2 i),preX st r1 r2 foot l with
  | some ob,some r=>bif okO foot ob then some ((i,renO r1 ob)::r) else none
  | _,_=>none
def khz (st:St) (r1:List (Nat×Nat)) (foot:List Nat):List C1->List Operand->Option (List AV)
 | [],[]=>some []
 | c::cs,x::xs=>match khz st r1 foot cs xs with
  | some r=>bif okA foot (co1 c (st.eval x)) then some (renA r1 (co1 c (st.eval x))::r) else none
  | none=>none
 | _,_=>none
def khy (r1:List (Nat×Nat)) (foot:List Nat):List AV->Option (List AV)
 | []=>some []
 | x::xs=>match khy r1 foot xs with
  | some r=>bif okA foot x then some (renA r1 x::r) else none
  | none=>none
def kgq (st:St) (r1 r2:List (Nat×Nat)) (keys ids0 ids1:List Nat) (post:List (Nat×AObj)):Bool:=
 ids0.all (fun i=>st.ids.contains (rn r2 i) && Nat.beq (rn r1 (rn r2 i)) i) && (ids1.all (fun i=>ids0.contains i || !st.ids.contains (rn r2 i)) && (koi (renI r2 ids1) && ((post.all fun p=>okO ids1 p.2) && keys.all ids0.contains)))
theorem kne {f:Nat->Nat}:∀ {l:List Nat},koi (l.map f)=true->∀ i j,i∈l->j∈l->f i=f j->i=j
 | [],_,i,j,hi,_,_=>by cases hi
 | x::l,h,i,j,hi,c,b=>by
  simp only [qa3,koi,qn,Bool.not_eq_true'] at h;have d:∀ k,k∈l->f k≠f x:=fun k hk e=>by have:f x∈l.map f:=e ▸ List.mem_map_of_mem hk;have h1:=h.1;simp only [List.contains_eq_mem,decide_eq_false_iff_not] at h1;exact h1 this
  rcases qaw.1 hi with h1 | h1
  ·rcases qaw.1 c with a | a;rw [h1,a]
   ·exact absurd (by rw [<- b,h1]) (d j a)
  ·rcases qaw.1 c with a | a;exact absurd (by rw [b,a]) (d i h1)
   ·exact kne h.2 i j h1 a b
theorem kfy {i:Nat}:∀ {A B:List (Nat×AObj)} {ob:AObj},kab (A++B) i=some ob->kab A i=some ob\/(kab A i=none/\kab B i=some ob)
 | [],B,ob,h => .inr ⟨rfl,h⟩
 | (k,v)::A,B,ob,h=>by
  rw [List.cons_append,kae] at h;rw [kae];by_cases hk:k=i;rw [qq hk] at h ⊢; exact .inl h
  ·rw [qh hk] at h ⊢; exact kfy h
theorem ke6 {r:List (Nat×Nat)} {j:Nat}:∀ {A:List (Nat×AObj)} {ob:AObj},kab (renH r A) j=some ob->∃ i o,kab A i=some o/\rn r i=j/\ob=renO r o
 | [],ob,h=>by cases h
 | (k,v)::A,ob,h=>by
  simp only [renH] at h;rw [kae] at h;by_cases hk:rn r k=j;rw [qq hk] at h;injection h with h;exact ⟨k,v,by rw [kae,qq rfl],hk,h.symm⟩
  ·rw [qh hk] at h;obtain ⟨i,o,h1,a,b⟩:=ke6 h;exact ⟨i,o,by rw [kae,qh (fun e=>hk (by rw [e];exact a))];exact h1,a,b⟩
theorem kez {foot:List Nat}:∀ {l:List (Nat×AObj)} {k:Nat} {ob:AObj},kab (ke2 foot l) k=some ob->k∉foot/\kab l k=some ob
 | [],k,ob,h=>by cases h
 | (j,v)::l,k,ob,h=>by
  simp only [ke2] at h;cases a:foot.contains j with
  | true=>
   rw [a] at h;obtain ⟨h1,b⟩:=kez h;refine ⟨h1,?_⟩;rw [kae,qh (fun e=>h1 (by subst e;simpa using a))];exact b
  | false=>
   rw [a] at h;simp only [qg,kae] at h;rw [kae];by_cases hk:j=k;subst hk;rw [qq rfl] at h ⊢;exact ⟨by simpa using a,h⟩
   ·rw [qh hk] at h ⊢;exact kez h
section
variable {P:Program} {F S0:Nat->Prop} {N0:Nat} {w w':World} {S S':Nat->Prop} {ψ ψ':Env} {K K':Nat->Prop} {T:List (TypeId×TD)} {o:Oper} {a:Act} {st:St} {t:TypeId} {d:TD}
theorem kj5 {r1 r2:List (Nat×Nat)} {foot:List Nat}:∀ {l:List Nat} {pre:List (Nat×AObj)},preX st r1 r2 foot l=some pre->∀ i ob,kab pre i=some ob->i∈l/\∃ ob',kab st.heap (rn r2 i)=some ob'/\okO foot ob'=true/\ob=renO r1 ob'
 | [],pre,h,i,ob,ho=>by simp only [preX,qb] at h;subst h;cases ho
 | k::l,pre,h,i,ob,ho=>by
  simp only [preX] at h;split at h
  ·rename_i ob1 r h1 b;cases a:okO foot ob1 with
   | false=>rw [a] at h;cases h
   | true=>
    rw [a] at h;simp only [qe,qb] at h;subst h;rw [kae] at ho;by_cases hk:k=i;subst hk;rw [qq rfl] at ho;injection ho with ho;exact ⟨qv ..,ob1,h1,a,ho.symm⟩
    ·rw [qh hk] at ho;exact (kj5 b i ob ho).imp (qs _) id
  ·cases h
theorem kpu {r1:List (Nat×Nat)} {foot ids:List Nat} (h:∀ t,RV ψ (·∈ids) S w (a.tmps.getD t undef) (st.get t)):∀ {cs:List C1} {xs:List Operand} {ys:List AV},khz st r1 foot cs xs=some ys ->
  ys.length=xs.length/\∀ (i:Nat) (x:Operand) (y:AV),xs[i]?=some x->ys[i]?=some y->∃ z,y=renA r1 z/\RV ψ (·∈foot) S w (a.eval x) z
 | [],[],ys,b=>by simp only [khz,qb] at b;subst b;exact ⟨rfl,fun i x y h=>by simp at h⟩
 | c::cs,x::xs,ys,b=>by
  simp only [khz] at b;split at b
  ·rename_i r h1;cases d:okA foot (co1 c (st.eval x)) with
   | false=>rw [d] at b;cases b
   | true=>
    rw [d] at b;simp only [qe,qb] at b;subst b;obtain ⟨e1,e2⟩:=kpu h h1;refine ⟨by simp [e1],fun i x' y' e hy=>?_⟩;cases i with
    | zero=>
     simp at e hy;subst e hy;exact ⟨_,rfl,(kjk (c:=c) (Sim.eval_tmps h x)).subA d⟩
    | succ i=>exact e2 i x' y' (by simpa using e) (by simpa using hy)
  ·cases b
 | [],_::_,ys,b=>by cases b
 | _::_,[],ys,b=>by cases b
theorem kpi {r1:List (Nat×Nat)} {foot:List Nat} {cs:Array Value}:∀ {xs ys:List AV},khy r1 foot xs=some ys->ys.length=xs.length/\∀ (i:Nat) (y:AV),ys[i]?=some y->∃ x,xs[i]?=some x/\okA foot x=true/\y=renA r1 x
 | [],ys,a=>by simp only [khy,qb] at a;subst a;exact ⟨rfl,fun i y h=>by simp at h⟩
 | x::xs,ys,a=>by
  simp only [khy] at a;split at a
  ·rename_i r h1;cases b:okA foot x with
   | false=>rw [b] at a;cases a
   | true=>
    rw [b] at a;simp only [qe,qb] at a;subst a;obtain ⟨e1,e2⟩:=kpi (cs:=cs) h1;refine ⟨by simp [e1],fun i y hy=>?_⟩;cases i with
    | zero=>simp at hy;subst hy;exact ⟨x,rfl,b,rfl⟩
    | succ i=>simpa using e2 i y (by simpa using hy)
  ·cases a
theorem kp8 {f:FuncId} {as_:List AV} {pre:List (Nat×AObj)} {ids0 ids1:List Nat} {E:HEnd} {post:List (Nat×AObj)} {keys:List Nat} (hc:kdh P f as_ pre ids0 E post ids1) (r1 r2:List (Nat×Nat))
  (a:Core F S0 N0 st.heap st.ids ψ S w) (A:kgq st r1 r2 keys ids0 ids1 post=true) (s:preX st r1 r2 (renI r2 ids0) keys=some pre) {vs:Array Value} (aa:vs.size=as_.length)
  (hv:∀ (i:Nat) (v:Value) (y:AV),vs[i]?=some v->as_[i]?=some y->∃ z,y=renA r1 z/\RV ψ (·∈renI r2 ids0) S w v z):
  Calls P f vs w fun e w'=>∃ ψ' S',(E.ren r2).is e ψ' (·∈renI r2 ids1++st.ids) S' w'/\Core F S0 N0 (renH r2 post++ke2 (renI r2 ids0) st.heap) (renI r2 ids1++st.ids) ψ' S' w'/\Fr F w w'/\Ext (·∈st.ids) ψ ψ'/\(∀ b,S b->S' b)/\Same S w w':=by
 simp only [kgq,qn,ql,Bool.or_eq_true,Bool.not_eq_true',List.contains_eq_mem,qbb,decide_eq_false_iff_not] at A;obtain ⟨c1,c2,c3,c4,c5⟩:=A;simp only [kqu] at s hv c3 ⊢;have inj:=kne c3;have R:∀ j,j∈ids0.map (rn r2)->∃ i,i∈ids0/\rn r2 i=j/\rn r1 j=i:=fun j u=>by obtain ⟨i,hi,rfl⟩:=qaf.1 u;exact ⟨i,hi,rfl,qf (c1 i hi).2⟩
 -- the callee's view
 let ψc:Env:=⟨fun i=>ψ.len (rn r2 i),fun i=>ψ.val (rn r2 i)⟩
 let Fc:Nat->Prop:=fun b=>F b\/∃ j ob,kab st.heap j=some ob/\j∉ids0.map (rn r2)/\Blk (ψ.val j) b
 let Sc:Nat->Prop:=fun b=>S b\/∃ j ob,kab st.heap j=some ob/\j∈ids0.map (rn r2)/\Blk (ψ.val j) b
 have T:∀ j,j∈ids0.map (rn r2)->rn r1 j∈ids0/\ψc.len (rn r1 j)=ψ.len j/\ψc.val (rn r1 j)=ψ.val j:=fun j u=>by obtain ⟨i,hi,h1,x⟩:=R j u;rw [x];exact ⟨hi,by show ψ.len (rn r2 i)=_;rw [h1],by show ψ.val (rn r2 i)=_;rw [h1]⟩
 have ab:Core Fc Sc w.heap.size pre ids0 ψc S w:=by
  refine ⟨fun i ob ho=>?_,fun i i' ob ob' b ho K H d q=>?_,a.lt,fun b d => .inl (.inl d),qt _,fun b d=>?_⟩
  ·obtain ⟨hi,ob',h1,x,rfl⟩:=kj5 s i ob ho;obtain ⟨k1,k2,k3⟩:=a.obj _ _ h1;have L:=c5 i hi;have M:rn r2 i∈ids0.map (rn r2):=List.mem_map_of_mem L;have ac:=qf (c1 i L).2;have hO:=(k2.subA x).ren (ψ':=ψc) (K':=(·∈ids0)) T M x;rw [ac] at hO;refine ⟨L,hO,fun b d=>⟨(k3 b d).1,?_, .inl (.inr ⟨_,ob',h1,M,d⟩)⟩⟩;rintro (hf | ⟨j,oj,N,ad,O⟩);exact (k3 b d).2.1 hf
   ·exact a.inj _ _ _ _ b N h1 (fun e=>ad (e ▸ M)) O d
  obtain ⟨hi,ob1,h1,_,_⟩:=kj5 s i ob ho;obtain ⟨ae,ob2,x,_,_⟩:=kj5 s i' ob' K;refine a.inj _ _ _ _ b h1 x (fun e=>H ?_) d q;have e1:=qf (c1 i (c5 i hi)).2;have e2:=qf (c1 i' (c5 i' ae)).2;rw [<- e1,<- e2,e]
  ·rcases d with hf | ⟨j,oj,N,_,O⟩;exact a.fr b hf
   ·exact (a.obj j oj N).2.1.lt O
 refine (hc.2 Fc Sc w.heap.size ψc S w vs aa (fun i v y h1 x=>?_) ab).mono ?_;obtain ⟨z,rfl,hz⟩:=hv i v y h1 x;exact hz.ren T;rintro e w' ⟨ψc',S',hE,g,r,U,V,hS,B⟩;have C:∀ i,i∈ids1->ids1.find? (fun k=>Nat.beq (rn r2 k) (rn r2 i))=some i:=fun i hi=>by
  cases h:ids1.find? (fun k=>Nat.beq (rn r2 k) (rn r2 i)) with
  | none=>
   rw [List.find?_eq_none] at h;exact absurd (Nat.beq_refl _) (h i hi)
  | some k=>
   have h1:=List.find?_some h;rw [inj k i (List.mem_of_find?_eq_some h) hi (qf h1)]
 have D:∀ j,(∀ i,i∈ids1->rn r2 i≠j)->ids1.find? (fun k=>Nat.beq (rn r2 k) j)=none:=fun j u=>by rw [List.find?_eq_none];intro i hi h;exact u i hi (qf h)
 let ψ':Env:=⟨fun j=>match ids1.find? (fun k=>Nat.beq (rn r2 k) j) with | some i=>ψc'.len i | none=>ψ.len j,fun j=>match ids1.find? (fun k=>Nat.beq (rn r2 k) j) with | some i=>ψc'.val i | none=>ψ.val j⟩
 have t:∀ i,i∈ids1->ψ'.len (rn r2 i)=ψc'.len i/\ψ'.val (rn r2 i)=ψc'.val i:=fun i hi=>by
  constructor
  ·show (match ids1.find? (fun k=>Nat.beq (rn r2 k) (rn r2 i)) with | some i=>ψc'.len i | none=>ψ.len (rn r2 i))=_
   rw [C i hi]
  ·show (match ids1.find? (fun k=>Nat.beq (rn r2 k) (rn r2 i)) with | some i=>ψc'.val i | none=>ψ.val (rn r2 i))=_
   rw [C i hi]
 have X:∀ j,(∀ i,i∈ids1->rn r2 i≠j)->ψ'.len j=ψ.len j/\ψ'.val j=ψ.val j:=fun j u=>by
  constructor
  ·show (match ids1.find? (fun k=>Nat.beq (rn r2 k) j) with | some i=>ψc'.len i | none=>ψ.len j)=_
   rw [D j u]
  ·show (match ids1.find? (fun k=>Nat.beq (rn r2 k) j) with | some i=>ψc'.val i | none=>ψ.val j)=_
   rw [D j u]
 have m:∀ j,j∈st.ids->j∉ids0.map (rn r2)->ψ'.len j=ψ.len j/\ψ'.val j=ψ.val j:=fun j u hn=>X j fun i hi e=>by
  rcases c2 i hi with h | h;exact hn (e ▸ List.mem_map_of_mem h)
  ·exact h (e ▸ u)
 have J:Ext (·∈st.ids) ψ ψ':=fun j u=>by
  by_cases hn:j∈ids0.map (rn r2);obtain ⟨i,hi,h1,x⟩:=R j hn;obtain ⟨e1,e2⟩:=U i hi;obtain ⟨e3,e4⟩:=t i (V i hi);rw [<- h1,e3,e4];exact ⟨e1,e2⟩
  ·obtain ⟨e1,e2⟩:=m j u hn;exact ⟨by omega,fun _=>e2⟩
 have G:∀ i,i∈ids1->rn r2 i∈ids1.map (rn r2)++st.ids/\ψ'.len (rn r2 i)=ψc'.len i/\ψ'.val (rn r2 i)=ψc'.val i:=fun i hi=>
  ⟨List.mem_append_left _ (List.mem_map_of_mem hi),t i hi⟩
 have hK:∀ i,i∈st.ids->i∈ids1.map (rn r2)++st.ids:=fun i hi=>List.mem_append_right _ hi;have Y:∀ b,Sc b\/w.heap.size<=b->S0 b\/N0<=b:=fun b d=>by
  rcases d with (d | ⟨j,oj,h1,_,Q⟩) | d;exact a.s0 b d;exact ((a.obj j oj h1).2.2 b Q).2.2
  ·exact .inr (qat a.n0 d)
 have n:∀ j oj b,kab st.heap j=some oj->j∉ids0.map (rn r2)->Blk (ψ.val j) b->Fc b/\¬ (Sc b\/w.heap.size<=b):=fun j oj b h1 x Q=>by
  refine ⟨.inr ⟨j,oj,h1,x,Q⟩,?_⟩;rintro ((d | ⟨k,ok,g1,g2,g3⟩) | d);exact ((a.obj j oj h1).2.2 b Q).1 d;exact a.inj j k oj ok b h1 g1 (fun e=>x (e ▸ g2)) Q g3
  ·have:=(a.obj j oj h1).2.1.lt Q;omega
 refine ⟨ψ',S',?_,⟨fun j oj ho=>?_,fun j j' oj oj' b ho K H d q=>?_,g.lt,fun b d=>Y b (g.s0 b d),qat a.n0 r.size,fun b d=>qa6 (a.fr b d) r.size⟩,
  ⟨r.os,r.tape,r.output,r.size,fun b d=>r.block b (.inl d)⟩,J,hS,B⟩
 ·cases E with
  | ret res=>
   obtain ⟨v,rfl,hv⟩:=hE;exact ⟨v,rfl,hv.ren G⟩
  | pan v=>exact hE
 ·rcases kfy ho with h | ⟨_,h⟩
  ·obtain ⟨i,ob,h1,rfl,rfl⟩:=ke6 h;obtain ⟨k1,k2,k3⟩:=g.obj i ob h1;refine ⟨(G i k1).1,k2.ren (ids:=ids1) G k1 ?_,fun b d=>?_⟩
   ·have hm:∀ {l:List (Nat×AObj)},kab l i=some ob->(i,ob)∈l:=fun {l}=>by
     induction l with
     | nil=>intro h;cases h
     | cons p l ih=>
      intro h;obtain ⟨k,v⟩:=p;rw [kae] at h;split at h;rename_i hk;cases hk;cases qag h;exact qv ..
      ·exact qs _ (ih h)
    exact c4 _ (hm h1)
   ·rw [(t i k1).2] at d;obtain ⟨m1,m2,m3⟩:=k3 b d;exact ⟨m1,fun hf=>m2 (.inl hf),Y b m3⟩
  ·obtain ⟨hn,h1⟩:=kez h;obtain ⟨k1,k2,k3⟩:=a.obj j oj h1;have Z:=m j k1 hn;refine ⟨hK j k1,k2.keep J hK hS B Z fun b d=>r.block b (n j oj b h1 hn d).1,fun b d=>?_⟩;rw [Z.2] at d;exact ⟨fun hs=>(n j oj b h1 hn d).2 (g.s0 b hs),(k3 b d).2⟩
 ·have bA:∀ {i ob},kab post i=some ob->Blk (ψ'.val (rn r2 i)) b->¬ Fc b:=fun {i ob} h1 d=>by obtain ⟨k1,_,k3⟩:=g.obj i ob h1;rw [(t i k1).2] at d;exact (k3 b d).2.1
  rcases kfy ho with h | ⟨_,h⟩ <;> rcases kfy K with h' | ⟨_,h'⟩;obtain ⟨i,ob,h1,rfl,rfl⟩:=ke6 h;obtain ⟨i',ob',o,rfl,rfl⟩:=ke6 h';obtain ⟨k1,_,_⟩:=g.obj i ob h1;obtain ⟨k1',_,_⟩:=g.obj i' ob' o;rw [(t i k1).2] at d;rw [(t i' k1').2] at q;exact g.inj i i' ob ob' b h1 o (fun e=>H (by rw [e])) d q;obtain ⟨i,ob,h1,rfl,rfl⟩:=ke6 h;obtain ⟨I,o⟩:=kez h';rw [(m j' (a.obj j' oj' o).1 I).2] at q;exact bA h1 d (n j' oj' b o I q).1;obtain ⟨i',ob',o,rfl,rfl⟩:=ke6 h';obtain ⟨hn,h1⟩:=kez h;rw [(m j (a.obj j oj h1).1 hn).2] at d;exact bA o q (n j oj b h1 hn d).1
  ·obtain ⟨hn,h1⟩:=kez h;obtain ⟨I,o⟩:=kez h';rw [(m j (a.obj j oj h1).1 hn).2] at d;rw [(m j' (a.obj j' oj' o).1 I).2] at q;exact a.inj j j' oj oj' b h1 o H d q
def fnOf (n:Nat):AV->Option (FuncId×List AV)
 | .fn f cap=>some (f,cap)
 | .mth f fst=>bif Nat.beq n 0 then some (f,fst) else none
 | _=>none
theorem krw {f : FuncId} {fst : Array Value} {x : Operand} {args : Array Operand} {ts : Array TypeId} (ho : o.op = .call { callee := .value x, args := args, argTypes := ts }) (e : a.eval x = .func (.func f) fst #[]) (h0 : args.size = 0) (hf : ∃ fn, P.funcs[f]? = some fn /\ fn.body.isNone = false /\ (fn.name == "runtime.NumGoroutine") = false) :
  (execOp a.eval o).run P w = .ok (.enter f (args.map a.eval++fst)) w:=by
 obtain ⟨fn,h1,c,d⟩:=hf;have b:fn.body≠none:=by intro h;rw [h] at c;cases c
 simp only [beq_eq_false_iff_ne,ne_eq] at d;have hn:args=#[]:=Array.eq_empty_of_size_eq_zero h0;subst hn;simp [execOp,ho,resolve,e,Deferred.ofValue,invoke,callFunc,h1,b,d]
theorem ksz {f : FuncId} {caps : Array Value} {x : Operand} {args : Array Operand} {ts : Array TypeId} (ho : o.op = .call { callee := .value x, args := args, argTypes := ts }) (e : a.eval x = .func (.func f) #[] caps) (hf : ∃ fn, P.funcs[f]? = some fn /\ fn.body.isNone = false /\ (fn.name == "runtime.NumGoroutine") = false) :
  (execOp a.eval o).run P w = .ok (.enter f (args.map a.eval++caps)) w:=by
 obtain ⟨fn,h1,c,d⟩:=hf;have b:fn.body≠none:=by intro h;rw [h] at c;cases c
 simp only [beq_eq_false_iff_ne,ne_eq] at d;simp [execOp,ho,resolve,e,Deferred.ofValue,invoke,callFunc,h1,b,d]
theorem ku7 {f:FuncId} {cap:List AV} {x:Operand} {args:Array Operand} {ts:Array TypeId} {cs:List C1} {as1 as2 pre:_} {ids0 ids1:List Nat} {E:HEnd} {post:List (Nat×AObj)} {keys:List Nat} (r1 r2:List (Nat×Nat)) (ho:o.op = .call { callee := .value x,args:=args,argTypes:=ts })
  (c:fnOf args.size (st.eval x)=some (f,cap)) (hc:kdh P f (as1++as2) pre ids0 E post ids1) (g:khz st r1 (renI r2 ids0) cs args.toList=some as1) (k:khy r1 (renI r2 ids0) cap=some as2)
  (j:kgq st r1 r2 keys ids0 ids1 post=true) (l:preX st r1 r2 (renI r2 ids0) keys=some pre) (hs:Sim F S0 N0 st ψ S a w):
  ∃ vs,(execOp a.eval o).run P w = .ok (.enter f vs) w/\Calls P f vs w fun e w'=>∃ ψ' S',(E.ren r2).is e ψ' (·∈renI r2 ids1++st.ids) S' w'/\Core F S0 N0 (renH r2 post++ke2 (renI r2 ids0) st.heap) (renI r2 ids1++st.ids) ψ' S' w'/\Fr F w w'/\Ext (·∈st.ids) ψ ψ'/\(∀ b,S b->S' b)/\Same S w w':=by
 have d:=hs.eval x;obtain ⟨caps,m,n,q⟩:∃ caps:Array Value,(execOp a.eval o).run P w = .ok (.enter f (args.map a.eval++caps)) w/\caps.size=cap.length/\∀ (i:Nat) (v:Value) (y:AV),caps[i]?=some v->cap[i]?=some y->RV ψ (·∈st.ids) S w v y:=by
  generalize s:a.eval x=u at d;generalize st.eval x=y at c d;unfold fnOf at c;split at c
  ·simp only [qb,qj] at c;obtain ⟨rfl,rfl⟩:=c;cases d with
   | fn h hr=>exact ⟨_,ksz ho s hc.1,h,hr⟩
  ·rename_i f' fst;cases r:Nat.beq args.size 0 with
   | false=>rw [r] at c;cases c
   | true=>
    rw [r] at c;simp only [qe,qb,qj] at c;obtain ⟨rfl,rfl⟩:=c;cases d with
    | mth h hr=>exact ⟨_,krw ho s (qf r) hc.1,h,hr⟩
  ·cases c
 refine ⟨_,m,?_⟩;obtain ⟨e1,e2⟩:=kpu hs.tmps g;obtain ⟨e3,e4⟩:=kpi (cs:=caps) k;refine kp8 hc r1 r2 hs.core j l (by simp [e1,e3,n]) fun i v y hv hy=>?_;by_cases hi:i<args.size;rw [qa7 (by simpa using hi)] at hv;rw [qy (by rw [e1];simpa using hi)] at hy;simp only [Array.getElem?_map,qp] at hv;obtain ⟨p,hp,rfl⟩:=hv;exact e2 i p y (by simpa using hp) hy
 ·rw [Array.getElem?_append_right (by simpa using hi)] at hv;rw [qac (by rw [e1];simpa using hi)] at hy;have hl:as1.length=args.size:=by rw [e1];simp
  obtain ⟨z,h1,t,rfl⟩:=e4 _ y hy;exact ⟨z,rfl,(q _ v z (by simpa using hv) (by rw [<- h1,hl])).subA t⟩
theorem kpj {f:FuncId} {cap:List AV} {x:Operand} {args:Array Operand} {ts:Array TypeId} {cs:List C1} {as1 as2 pre:_} {ids0 ids1:List Nat} {res:AV} {post:List (Nat×AObj)} {keys:List Nat} (r1 r2:List (Nat×Nat)) (ho:o.op = .call { callee := .value x,args:=args,argTypes:=ts })
  (h:fnOf args.size (st.eval x)=some (f,cap)) (hc:kdh P f (as1++as2) pre ids0 (.ret res) post ids1) (b:khz st r1 (renI r2 ids0) cs args.toList=some as1) (d:khy r1 (renI r2 ids0) cap=some as2)
  (c:kgq st r1 r2 keys ids0 ids1 post=true) (g:preX st r1 r2 (renI r2 ids0) keys=some pre):
  StepA P o st (renA r2 res) (renH r2 post++ke2 (renI r2 ids0) st.heap) (renI r2 ids1++st.ids):=by
 intro F S0 N0 ψ S a w hs;obtain ⟨vs,h1,j⟩:=ku7 r1 r2 ho h hc b d c g hs;unfold kcv;rw [h1];refine j.mono ?_;rintro e w' ⟨ψ',S',⟨v,rfl,hv⟩,k,l,m,n,p⟩;exact ⟨v,rfl,ψ',S',k,hv,l,m,fun i hi=>List.mem_append_right _ hi,n,p⟩
def hQ (T:List (TypeId×TD)) (rs:List ResultVar) (g:Nat) (ids:List Nat) (E:HEnd) (post:List (Nat×AObj)) (ids':List Nat) (ψ0:Env) (S1:Nat->Prop) (w0:World) (e:Exit) (st:St):Prop:=
 ∃ st2,LeSt st st2/\kkd T rs g ids E post ids' ψ0 S1 w0 e st2
theorem ktl {rs:List ResultVar} {g:Nat} {ids ids':List Nat} {res:AV} {post:List (Nat×AObj)} {ψ0:Env} {S1:Nat->Prop} {w0:World} {e:Exit} {st st2:St} (hl:LeSt st st2) (a:st2.heap=(g, .was ψ0 ids S1 w0)::post) (hi:st2.ids=g::ids')
  (b:e = .normal\/e = .ret) (hr:retA T st2 rs=some res):hQ T rs g ids (.ret res) post ids' ψ0 S1 w0 e st:=⟨st2,hl,a,hi,b,hr⟩
theorem ko7 (e : TOk P T) {f : FuncId} {fn : Func} {c : Code} {args : List AV} {pre : List (Nat × AObj)} {ids : List Nat} {E : HEnd} {post : List (Nat × AObj)} {ids' : List Nat} {g : Nat} (hf : P.funcs[f]? = some fn) (i : fn.body = some c) (hn : (fn.name == "runtime.NumGoroutine") = false)
  (a:Nat.ble args.length fn.ntmps=true) (j:ids.contains g=false) (b:ids'.contains g=false) (d:(post.all fun p=>okO ids' p.2)=true) (k:E.ok ids'=true) (hk:(post.all fun p=>ids'.contains p.1)=true)
  (h:∀ ψ0 S1 w0,awp P c { n:=fn.ntmps,tmps:=argT 0 args,heap:=(g, .was ψ0 ids S1 w0)::pre,ids:=g::ids } (hQ T fn.results.toList g ids E post ids' ψ0 S1 w0)):kdh P f args pre ids E post ids':=
 kp6 e hf i hn a j (fun ψ0 S1 w0=>ki1 (h ψ0 S1 w0)) b d k hk
end
end Go.Proofs.YtpnnpkmjohkgiaaGreatDoor
