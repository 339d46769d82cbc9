import Derived.Test.YtnlhjbnpjefjgaaGreatDoorDrawE
import Derived.Laws.StructEq
import Derived.Laws.BytesString
import Derived.Lib.ConvBytes
import Derived.Deep.AppendSrc
import Derived.Lib.Builder
import Derived.Lib.AppendStr
import Derived.Lib.UnsafeStr
set_option linter.all false
set_option linter.unusedSectionVars false
namespace Go.Proofs.YtnlhjbnpjefjgaaGreatDoor
open Go Go.RowKit
variable [Dr]
def rn:List (Nat×Nat)->Nat->Nat
 | [],i=>i
 | (k,j)::l,i=>bif Nat.beq k i then j else rn l i
mutual
def renA (r:List (Nat×Nat)):AV->AV
 | .fz x => .fz x
 | .agg cs => .agg (kmc r cs)
 | .tup vs => .tup (kmc r vs)
 | .ref id n off => .ref (rn r id) n off
 | .row id n => .row (rn r id) n
 | .lim a b c => .lim a b c
 | .mp id => .mp (rn r id)
 | .opt id => .opt (rn r id)
 | .sdp id n => .sdp (rn r id) n
 | .win id n lo hi => .win (rn r id) n lo hi
 | .irow id g j => .irow (rn r id) g j
 | .iref id g j off => .iref (rn r id) g j off
 | .bsl id g off len cap => .bsl (rn r id) g off len cap
 | .fn f cap => .fn f (kmc r cap)
 | .mth f cap => .mth f (kmc r cap)
 | .any => .any
def kmc (r:List (Nat×Nat)):List AV->List AV
 | []=>[]
 | x::l=>renA r x::kmc r l
end
mutual
def okA (ids:List Nat):AV->Bool
 | .fz _=>true
 | .agg cs=>okAs ids cs
 | .tup vs=>okAs ids vs
 | .ref id _ _=>ids.contains id
 | .row id _=>ids.contains id
 | .lim _ _ _=>true
 | .mp id=>ids.contains id
 | .opt id=>ids.contains id
 | .sdp id _=>ids.contains id
 | .win id _ _ _=>ids.contains id
 | .irow id _ _=>ids.contains id
 | .iref id _ _ _=>ids.contains id
 | .bsl id _ _ _ _=>ids.contains id
 | .fn _ cap=>okAs ids cap
 | .mth _ cap=>okAs ids cap
 | .any=>true
def okAs (ids:List Nat):List AV->Bool
 | []=>true
 | x::l=>okA ids x && okAs ids l
end
def renO (r:List (Nat×Nat)):AObj->AObj
 | .box e cs => .box e (kmc r cs)
 | .frow e s xs => .frow e s xs
 | .smap kv => .smap kv
 | .gho cs vs => .gho cs (kmc r vs)
 | .was a b c d => .was a b c d
 | .tab g ov eo ei rows => .tab g ov eo ei rows
 | .glb gs => .glb gs
 | .sit s pos => .sit s pos
 | .memo Φ h => .memo Φ h
 | .xo k => .xo k
def okO (ids:List Nat):AObj->Bool
 | .box _ cs=>okAs ids cs
 | .frow _ _ _=>true
 | .smap _=>true
 | .tab _ _ _ _ _=>true
 | .gho _ vs=>okAs ids vs
 | .glb _=>true
 | .sit _ _=>true
 | .memo _ _=>true
 | .xo (.imap _)=>true
 | _=>false
theorem kj0 (r:List (Nat×Nat)):∀ l,kmc r l=l.map (renA r)
 | []=>rfl
 | x::l=>by simp [kmc,kj0 r l]
theorem kih (ids:List Nat):∀ l,okAs ids l=l.all (okA ids)
 | []=>rfl
 | x::l=>by simp [okAs,kih ids l]
theorem ksg (r:List (Nat×Nat)) (x:AV):(renA r x).single=x.single:=by cases x <;> rfl
variable {P:Program} {F S0:Nat->Prop} {N0:Nat} {w w':World} {S S':Nat->Prop} {ψ ψ':Env} {K K':Nat->Prop} {T:List (TypeId×TD)} {o:Oper} {a:Act} {st:St} {t:TypeId} {d:TD} {ids:List Nat}
theorem RV.ren {r:List (Nat×Nat)} {v:Value} {x:AV} (h:RV ψ K S w v x) (hr:∀ i,K i->K' (rn r i)/\ψ'.len (rn r i)=ψ.len i/\ψ'.val (rn r i)=ψ.val i):RV ψ' K' S w v (renA r x):=by
 induction h with
 | fz h=>exact .fz h
 | agg h h1 _ ih=>
  simp only [renA,kj0];refine .agg (by simpa using h) (fun x a=>?_) fun i v x hv a=>?_;obtain ⟨y,hy,rfl⟩:=qaf.1 a;rw [ksg];exact h1 y hy
  ·simp only [ql,qw] at a;obtain ⟨y,hy,rfl⟩:=a;exact ih i v y hv hy
 | tup h _ ih=>
  simp only [renA,kj0];refine .tup (by simpa using h) fun i v x hv a=>?_;simp only [ql,qw] at a;obtain ⟨y,hy,rfl⟩:=a;exact ih i v y hv hy
 | @ref id n off v hk hn h1 hv=>
  obtain ⟨e1,e2,e3⟩:=hr id hk;exact .ref e1 (by omega) h1 fun h=>by rw [e3];exact hv (by omega)
 | @row id n v hk hn h1 hv=>
  obtain ⟨e1,e2,e3⟩:=hr id hk;exact .row e1 (by omega) h1 fun h=>by rw [e3];exact hv (by omega)
 | lim h=>exact .lim h
 | @mp id v hk h1 hv=>
  obtain ⟨e1,e2,e3⟩:=hr id hk;exact .mp e1 h1 fun h=>by rw [e3];exact hv (by omega)
 | fn h _ ih=>
  simp only [renA,kj0];refine .fn (by simpa using h) fun i v x hv a=>?_;simp only [ql,qw] at a;obtain ⟨y,hy,rfl⟩:=a;exact ih i v y hv hy
 | mth h _ ih=>
  simp only [renA,kj0];refine .mth (by simpa using h) fun i v x hv a=>?_;simp only [ql,qw] at a;obtain ⟨y,hy,rfl⟩:=a;exact ih i v y hv hy
 | @opt id v hk h1 hv=>
  obtain ⟨e1,e2,e3⟩:=hr id hk;exact .opt e1 h1 fun h=>by rw [e3];exact hv (by omega)
 | @sdp id n v hk hn h1 hv=>
  obtain ⟨e1,e2,e3⟩:=hr id hk;exact .sdp e1 (by omega) h1 fun h=>by rw [e3];exact hv (by omega)
 | @win id n lo hi v hk hn h1 hv=>
  obtain ⟨e1,e2,e3⟩:=hr id hk;exact .win e1 (by omega) h1 fun h=>by rw [e3];exact hv (by omega)
 | @irow id g j v hk hn h1 hv=>
  obtain ⟨e1,e2,e3⟩:=hr id hk;exact .irow e1 (by omega) h1 fun h=>by rw [e3];exact hv (by omega)
 | @iref id g j off v hk hn h1 hv=>
  obtain ⟨e1,e2,e3⟩:=hr id hk;exact .iref e1 (by omega) h1 fun h=>by rw [e3];exact hv (by omega)
 | @bsl id g off len cap v hk hn h1 hv=>
  obtain ⟨e1,e2,e3⟩:=hr id hk;exact .bsl e1 (by omega) h1 fun h=>by rw [e3];exact hv (by omega)
 | any=>exact .any
theorem RV.subA {v:Value} {x:AV} (h:RV ψ K S w v x) (ho:okA ids x=true):RV ψ (·∈ids) S w v x:=by
 induction h with
 | fz h=>exact .fz h
 | agg h h1 _ ih=>
  rw [okA,kih] at ho;exact .agg h h1 fun i v x hv a=>ih i v x hv a (qu.1 ho x (qk a))
 | tup h _ ih=>
  rw [okA,kih] at ho;exact .tup h fun i v x hv a=>ih i v x hv a (qu.1 ho x (qk a))
 | ref hK hn h1 hv=>exact .ref (by simpa [okA] using ho) hn h1 hv
 | row hK hn h1 hv=>exact .row (by simpa [okA] using ho) hn h1 hv
 | lim h=>exact .lim h
 | mp hK h1 hv=>exact .mp (by simpa [okA] using ho) h1 hv
 | fn h _ ih=>
  rw [okA,kih] at ho;exact .fn h fun i v x hv a=>ih i v x hv a (qu.1 ho x (qk a))
 | mth h _ ih=>
  rw [okA,kih] at ho;exact .mth h fun i v x hv a=>ih i v x hv a (qu.1 ho x (qk a))
 | opt hK h1 hv=>exact .opt (by simpa [okA] using ho) h1 hv
 | sdp hK hn h1 hv=>exact .sdp (by simpa [okA] using ho) hn h1 hv
 | win hK hn h1 hv=>exact .win (by simpa [okA] using ho) hn h1 hv
 | irow hK hn h1 hv=>exact .irow (by simpa [okA] using ho) hn h1 hv
 | iref hK hn h1 hv=>exact .iref (by simpa [okA] using ho) hn h1 hv
 | bsl hK hn h1 hv=>exact .bsl (by simpa [okA] using ho) hn h1 hv
 | any=>exact .any
theorem ObR.subA {id:Nat} {ob:AObj} (h:ObR ψ K S w id ob) (ho:okO ids ob=true):ObR ψ (·∈ids) S w id ob:=by
 cases ob with
 | box e cells=>
  obtain ⟨k0,b,cs,k1,k2,k3,k4,k5⟩:=h;rw [okO,kih] at ho;exact ⟨k0,b,cs,k1,k2,k3,k4,fun i v x hv f=>(k5 i v x hv f).subA (qu.1 ho x (qk f))⟩
 | frow e s xs=>exact h
 | smap kv=>exact h
 | glb gs=>exact h
 | sit s pos=>exact h
 | memo Φ hi=>exact h
 | xo k=>cases k with
  | imap kv=>exact h
  | _=>cases ho
 | tab g ov eo ei rows=>exact h
 | gho cs vs=>
  obtain ⟨k0,k1,k2,k3⟩:=h;rw [okO,kih] at ho;exact ⟨k0,k1,k2,fun i v x hv f=>(k3 i v x hv f).subA (qu.1 ho x (qk f))⟩
 | was a b c d=>cases ho
theorem ObR.ren {r:List (Nat×Nat)} {id:Nat} {ob:AObj} (h:ObR ψ K S w id ob) (hr:∀ i,K i->K' (rn r i)/\ψ'.len (rn r i)=ψ.len i/\ψ'.val (rn r i)=ψ.val i) (j:K id)
  (ho:okO ids ob=true):ObR ψ' K' S w (rn r id) (renO r ob):=by
 obtain ⟨e1,e2,e3⟩:=hr id j;cases ob with
 | box e cells=>
  obtain ⟨k0,b,cs,k1,k2,k3,k4,k5⟩:=h;simp only [renO,kj0];refine ⟨by omega,b,cs,by rw [e3,k1],k2,by simpa using k3,fun x f=>?_,fun i v x hv f=>?_⟩;obtain ⟨y,hy,rfl⟩:=qaf.1 f;rw [ksg];exact k4 y hy
  ·simp only [ql,qw] at f;obtain ⟨y,hy,rfl⟩:=f;exact (k5 i v y hv hy).ren hr
 | frow e s xs=>
  obtain ⟨k0,k1,cs,k2,k3⟩:=h;exact ⟨by omega,k1,cs,by rw [e3];exact k2,k3⟩
 | sit s pos=>
  obtain ⟨k0,b,k1,k2⟩:=h;exact ⟨by omega,b,by rw [e3,k1],k2⟩
 | glb gs=>
  obtain ⟨k0,k1,k2,k3⟩:=h;exact ⟨by omega,by rw [e3];exact k1,by rw [e3];exact k2,k3⟩
 | smap kv=>
  obtain ⟨k0,b,es,cl,k1,k2⟩:=h;exact ⟨by omega,b,es,cl,by rw [e3,k1],k2⟩
 | memo Φ hi=>
  obtain ⟨k0,b,es,cl,k1,k2⟩:=h;exact ⟨by omega,b,es,cl,by rw [e3,k1],k2⟩
 | xo k=>cases k with
  | imap kv=>
   obtain ⟨k0,b,es,k1,k2⟩:=h;exact ⟨by omega,b,es,by rw [e3,k1],k2⟩
  | _=>cases ho
 | tab g ov eo ei rows=>
  obtain ⟨k0,vs,k1,k2⟩:=h;exact ⟨by omega,vs,by rw [e3,k1],k2⟩
 | gho cs vs=>
  obtain ⟨k0,k1,k2,k3⟩:=h;simp only [renO,kj0];refine ⟨by omega,by rw [e3];exact k1,by rw [e3];exact k2,fun i v x hv f=>?_⟩;simp only [ql,qw] at f;obtain ⟨y,hy,rfl⟩:=f;exact (k3 i v y hv hy).ren hr
 | was a b c d=>cases ho
inductive HEnd where
 | ret (res:AV)
 | pan (v:Value)
def HEnd.ok (ids:List Nat):HEnd->Bool
 | .ret x=>okA ids x
 | .pan _=>true
def HEnd.ren (r:List (Nat×Nat)):HEnd->HEnd
 | .ret x => .ret (renA r x)
 | .pan v => .pan v
def HEnd.is (e:Ending) (ψ:Env) (K S:Nat->Prop) (w:World):HEnd->Prop
 | .ret res=>∃ v,e = .returned v/\RV ψ K S w v res
 | .pan v=>e = .panicked [{ v:=v,recovered:=false }]
def ka3 (P:Program) (f:FuncId) (args:List AV) (pre:List (Nat×AObj)) (ids:List Nat) (E:HEnd) (post:List (Nat×AObj)) (ids':List Nat):Prop:=
 (∃ fn, P.funcs[f]? = some fn /\ fn.body.isNone = false /\ (fn.name == "runtime.NumGoroutine") = false) /\
 ∀ (F S0:Nat->Prop) (N0:Nat) (ψ:Env) (S:Nat->Prop) (w:World) (vs:Array Value),vs.size=args.length->(∀ (i:Nat) (v:Value) (x:AV),vs[i]?=some v->args[i]?=some x->RV ψ (·∈ids) S w v x)->Core F S0 N0 pre ids ψ S w ->
  Calls P f vs w fun e w'=>∃ ψ' S',E.is e ψ' (·∈ids') S' w'/\Core F S0 N0 post ids' ψ' S' w'/\Fr F w w'/\Ext (·∈ids) ψ ψ'/\(∀ i,i∈ids->i∈ids')/\(∀ b,S b->S' b)/\Same S w w'
def resA (T:List (TypeId×TD)) (st:St):ResultVar->Option AV
 | .tmp t=>some (st.get t)
 | .cell x t=>match kad T t,kj9 st (st.get x) with
  | some d,some xs=>kjt d xs
  | _,_=>none
def kq5 (T:List (TypeId×TD)) (st:St):List ResultVar->Option (List AV)
 | []=>some []
 | r::rs=>match resA T st r,kq5 T st rs with
  | some y,some ys=>some (y::ys)
  | _,_=>none
def k0q (T:List (TypeId×TD)) (st:St) (rs:List ResultVar):Option AV:=match kq5 T st rs with
 | some [y]=>some y
 | some ys=>some (tupA ys)
 | none=>none
def retA (T:List (TypeId×TD)) (st:St) (rs:List ResultVar):Option AV:=match st.dfr with
 | []=>k0q T st rs
 | _=>none
theorem kyr {T:List (TypeId×TD)} {st:St} {rs:List ResultVar} {y:AV} (h:retA T st rs=some y):st.dfr=[]/\k0q T st rs=some y:=by
 unfold retA  at h;split at h;rename_i a;exact ⟨a,h⟩
 ·cases h
def krh (T:List (TypeId×TD)) (rs:List ResultVar) (g:Nat) (ids:List Nat) (E:HEnd) (post:List (Nat×AObj)) (ids':List Nat) (ψ0:Env) (S1:Nat->Prop) (w0:World) (e:Exit) (st:St):Prop:=
 st.heap=(g, .was ψ0 ids S1 w0)::post/\st.ids=g::ids'/\(match E with
  | .ret res=>(e = .normal\/e = .ret)/\retA T st rs=some res
  | .pan v=>st.dfr=[]/\e = .panic [{ v:=v,recovered:=false }])
theorem kyt (b:TOk P T) (hs:Sim F S0 N0 st ψ S a w):∀ {rs:List ResultVar} {ys:List AV},kq5 T st rs=some ys ->
  ∃ vs:List Value,(rs.mapM (kgw a.tmps)).run P w = .ok vs w/\vs.length=ys.length/\∀ (i:Nat) (v:Value) (y:AV),vs[i]?=some v->ys[i]?=some y->RV ψ (·∈st.ids) S w v y
 | [],ys,h=>by simp only [kq5,qc] at h;subst h;exact ⟨[],by simp,rfl,fun i v y h=>by simp at h⟩
 | r::rs,ys,h=>by
  simp only [kq5] at h;split at h
  ·rename_i y ys' h1 c;injection h with h;subst h;obtain ⟨vs,k1,k2,k3⟩:=kyt b hs c;have key:∃ v,(kgw a.tmps r).run P w = .ok v w/\RV ψ (·∈st.ids) S w v y:=by
    unfold resA at h1;split at h1;rename_i t;injection h1 with h1;subst h1;exact ⟨_,rfl,hs.tmps t⟩
    ·rename_i x t;split at h1;rename_i d xs e f;obtain ⟨ad,u,e1,e2,e3⟩:=k0a (b.get e) (hs.tmps x) (fun id o ho=>(hs.core.obj id o ho).2.1) f h1;refine ⟨u,?_,e3⟩;simp only [kgw,e1,asAddr,Sem.run_bind,Sem.run_pure,Result.andThen_ok,e2]
     ·cases h1
   obtain ⟨v,e1,e2⟩:=key;refine ⟨v::vs,?_,by simp [k2],fun i v' y' hv hy=>?_⟩;rw [List.mapM_cons];simp only [Sem.run_bind,e1,Result.andThen_ok,k1,Sem.run_pure]
   ·cases i with
    | zero=>simp at hv hy;subst hv hy;exact e2
    | succ i=>exact k3 i v' y' (by simpa using hv) (by simpa using hy)
  ·cases h
theorem k8c (d:TOk P T) (hs:Sim F S0 N0 st ψ S a w) {fn:Func} {y:AV} (h:retA T st fn.results.toList=some y):∃ v,(results fn a.tmps).run P w = .ok v w/\RV ψ (·∈st.ids) S w v y:=by
 replace h:=(kyr h).2;unfold k0q at h;have key:∀ ys,kq5 T st fn.results.toList=some ys->∃ vs:List Value,(results fn a.tmps).run P w = .ok (if h:vs.length=1 then vs[0] else .tuple vs.toArray) w/\vs.length=ys.length/\∀ (i:Nat) (v:Value) (y:AV),vs[i]?=some v->ys[i]?=some y->RV ψ (·∈st.ids) S w v y:=fun ys hy=>by
  obtain ⟨vs,k1,k2,k3⟩:=kyt d hs hy;refine ⟨vs,?_,k2,k3⟩;unfold results;rw [Array.mapM_eq_mapM_toList];have b:∀ (g:ResultVar->Sem Value),(∀ x,g x=kgw a.tmps x)->(fn.results.toList.mapM g).run P w = .ok vs w:=fun g b=>by rw [show g=kgw a.tmps from funext b];exact k1
  simp only [Sem.run_bind,Sem.run_map];rw [b _ fun x=>by cases x <;> rfl];simp only [Result.andThen_ok,Sem.run_pure];simp
 split at h
 ·rename_i z e;injection h with h;subst h;obtain ⟨vs,k1,k2,k3⟩:=key _ e;have hl:vs.length=1:=by simpa using k2
  rw [dif_pos hl] at k1;exact ⟨_,k1,k3 0 _ _ (qa (by omega)) rfl⟩
 ·rename_i ys c hy;injection h with h;subst h;obtain ⟨vs,k1,k2,k3⟩:=key _ hy;have hl:¬ vs.length=1:=fun hl=>by rw [k2] at hl;obtain ⟨z,rfl⟩:=List.length_eq_one_iff.1 hl;exact c z rfl
  rw [dif_neg hl] at k1;exact ⟨_,k1,RV.tupA (by simpa using k2) fun i v x hv f=>k3 i v x (by simpa using hv) f⟩
 ·cases h
theorem ky4 (K : TOk P T) {f : FuncId} {fn : Func} {c : Code} {args : List AV} {pre : List (Nat × AObj)} {E : HEnd} {post : List (Nat × AObj)} {ids' : List Nat} {g : Nat} (hf : P.funcs[f]? = some fn) (s : fn.body = some c) (hn : (fn.name == "runtime.NumGoroutine") = false)
  (y:Nat.ble args.length fn.ntmps=true) (u:ids.contains g=false)
  (h:∀ ψ0 S1 w0,awp P c { n:=fn.ntmps,tmps:=argT 0 args,heap:=(g, .was ψ0 ids S1 w0)::pre,ids:=g::ids } (krh T fn.results.toList g ids E post ids' ψ0 S1 w0)) (o:ids'.contains g=false) (B:(post.all fun p=>okO ids' p.2)=true) (L:E.ok ids'=true)
  (hk:(post.all fun p=>ids'.contains p.1)=true):ka3 P f args pre ids E post ids':=by
 have y:=qr y;have u:g∉ids:=by simpa using u
 have o:g∉ids':=by simpa using o
 refine ⟨⟨fn,hf,by rw [s];rfl,hn⟩,fun F S0 N0 ψ S w vs hs hr hc=>calls_of_wp hf s ?_⟩;have q:=hc.add (n:=0) (v := .nilFunc) (w':=w) (ob := .was ψ ids S w) (kai _) u (fun b s=>by cases s)
  ⟨kbq _ _,by rw [kap];rfl,by rw [kap];rfl,kbs u _ _,fun i hi=>qh _ hi,fun b s=>s,fun _ _ _=>rfl⟩
 have z:Sim F S0 N0 { n:=fn.ntmps,tmps:=argT 0 args,heap:=(g, .was ψ ids S w)::pre,ids:=g::ids } (ψ.set g 0 .nilFunc) S
   { tmps:=vs++Array.replicate (fn.ntmps - vs.size) undef,defers:=[] } w:=by
  refine ⟨rfl,by simp;omega,fun t=>?_,q⟩;show RV _ _ _ w _ (look .any (argT 0 args) t);rcases kmq args 0 t with h | ⟨x,_,h1,d⟩;rw [h];exact .any
  ·rw [d];have h1:args[t]?=some x:=(by simpa using h1);have r:t<vs.size:=(by rw [hs];exact (qd.1 h1).1);have:(vs++Array.replicate (fn.ntmps - vs.size) undef).getD t undef=vs[t]:=(by rw [qa3,qbn r];simp [r]);rw [this];exact (hr t _ x (by simp [r]) h1).keep (kbs u _ _) (fun _ h=>qh _ h) (fun _ h=>h) (fun _ _ _=>rfl)
 refine wp_mono (h _ _ _ F S0 N0 _ S _ w z) ?_;rintro e a' w' ⟨st',ψ',S',⟨H,hi,I⟩,d,J⟩;have C:kaa st'.heap g=some (.was ψ ids S w):=by rw [H,kah,qn rfl]
 obtain ⟨_,⟨_,_,_,k1,k2,k3,k4⟩,_⟩:=d.core.obj g _ C;have j:∀ i,i∈ids->i∈ids':=fun i A=>by
  have:=k2 i A;rw [hi] at this;rcases qat.1 this with rfl | h;exact absurd A u
  ·exact h
 have krh:∀ i ob,kaa post i=some ob->i∈ids'/\okO ids' ob=true:=fun i ob ho=>by
  have hm:∀ {l:List (Nat×AObj)},kaa l i=some ob->(i,ob)∈l:=fun {l}=>by
   induction l with
   | nil=>intro h;cases h
   | cons p l ih=>
    intro h;obtain ⟨k,v⟩:=p;rw [kah] at h;split at h;rename_i hk;subst hk;injection h with h;subst h;exact qq ..
    ·exact qh _ (ih h)
  have hm:=hm ho;exact ⟨by simpa using qu.1 hk _ hm,by simpa using qu.1 B _ hm⟩
 have hl:∀ i ob,kaa post i=some ob->kaa st'.heap i=some ob:=fun i ob ho=>by have D:g≠i:=fun e=>o (e ▸ (krh i ob ho).1);rw [H,kah,qj D];exact ho
 have a:Core F S0 N0 post ids' ψ' S' w':=by refine ⟨fun i ob ho=>?_,fun i i' ob ob' b ho G=>d.core.inj i i' ob ob' b (hl i ob ho) (hl i' ob' G),d.core.lt,d.core.s0,d.core.n0,d.core.fr⟩;obtain ⟨_,m2,m3⟩:=d.core.obj i ob (hl i ob ho);exact ⟨(krh i ob ho).1,m2.subA (krh i ob ho).2,m3⟩
 cases E with
 | ret res=>
  obtain ⟨M,m⟩:=I;have fin:a'.defers=[]/\∃ v,(results fn a'.tmps).run P w' = .ok v w'/\∃ ψ'' S'',HEnd.is (.returned v) ψ'' (·∈ids') S'' w' (.ret res)/\Core F S0 N0 post ids' ψ'' S'' w'/\Fr F w w'/\Ext (·∈ids) ψ ψ''/\(∀ i,i∈ids->i∈ids')/\(∀ b,S b->S'' b)/\Same S w w':=by obtain ⟨v,e1,e2⟩:=k8c K d m;exact ⟨d.defers.trans (kyr m).1,v,e1,ψ',S',⟨v,rfl,e2.subA L⟩,a,J,k1,j,k3,k4⟩
  rcases M with rfl | rfl <;> exact fin
 | pan v=>
  obtain ⟨N,rfl⟩:=I;exact ⟨d.defers.trans N,ψ',S',rfl,a,J,k1,j,k3,k4⟩
end Go.Proofs.YtnlhjbnpjefjgaaGreatDoor
set_option linter.all false
namespace Go.Proofs.YtnlhjbnpjefjgaaGreatDoor
open Go Go.RowKit
variable [Dr]
def ki6 (foot:List Nat):List (Nat×AObj)->List (Nat×AObj)
 | []=>[]
 | (k,v)::l=>bif foot.contains k then ki6 foot l else (k,v)::ki6 foot l
def renH (r:List (Nat×Nat)):List (Nat×AObj)->List (Nat×AObj)
 | []=>[]
 | (k,v)::l=>(rn r k,renO r v)::renH r l
def renI (r:List (Nat×Nat)):List Nat->List Nat
 | []=>[]
 | k::l=>rn r k::renI r l
theorem kz8 (r:List (Nat×Nat)):∀ l,renI r l=l.map (rn r)
 | []=>rfl
 | x::l=>by simp [renI,kz8 r l]
def kwu:List Nat->Bool
 | []=>true
 | x::l=>!l.contains x && kwu l
def preX (st:St) (r1 r2:List (Nat×Nat)) (foot:List Nat):List Nat->Option (List (Nat×AObj))
 | []=>some []
 | i::l=>match kaa st.heap (rn r2 i),preX st r1 r2 foot l with
  | some ob,some r=>bif okO foot ob then some ((i,renO r1 ob)::r) else none
  | _,_=>none
def kn5 (st:St) (r1:List (Nat×Nat)) (foot:List Nat):List C1->List Operand->Option (List AV)
 | [],[]=>some []
 | c::cs,x::xs=>match kn5 st r1 foot cs xs with
  | some r=>bif okA foot (co1 c (st.eval x)) then some (renA r1 (co1 c (st.eval x))::r) else none
  | none=>none
 | _,_=>none
def kn3 (r1:List (Nat×Nat)) (foot:List Nat):List AV->Option (List AV)
 | []=>some []
 | x::xs=>match kn3 r1 foot xs with
  | some r=>bif okA foot x then some (renA r1 x::r) else none
  | none=>none
def klx (st:St) (r1 r2:List (Nat×Nat)) (keys ids0 ids1:List Nat) (post:List (Nat×AObj)):Bool:=
 ids0.all (fun i=>st.ids.contains (rn r2 i) && Nat.beq (rn r1 (rn r2 i)) i) && (ids1.all (fun i=>ids0.contains i || !st.ids.contains (rn r2 i)) && (kwu (renI r2 ids1) && ((post.all fun p=>okO ids1 p.2) && keys.all ids0.contains)))
theorem kvb {f:Nat->Nat}:∀ {l:List Nat},kwu (l.map f)=true->∀ i j,i∈l->j∈l->f i=f j->i=j
 | [],_,i,j,hi,_,_=>by cases hi
 | x::l,h,i,j,hi,c,b=>by
  simp only [qao,kwu,qv,qb2] at h;have d:∀ k,k∈l->f k≠f x:=fun k hk e=>by have:f x∈l.map f:=e ▸ qby hk;have h1:=h.1;simp only [List.contains_eq_mem,qbf] at h1;exact h1 this
  rcases qat.1 hi with h1 | h1
  ·rcases qat.1 c with a | a;rw [h1,a]
   ·exact absurd (by rw [<- b,h1]) (d j a)
  ·rcases qat.1 c with a | a;exact absurd (by rw [b,a]) (d i h1)
   ·exact kvb h.2 i j h1 a b
theorem kkn {i:Nat}:∀ {A B:List (Nat×AObj)} {ob:AObj},kaa (A++B) i=some ob->kaa A i=some ob\/(kaa A i=none/\kaa B i=some ob)
 | [],B,ob,h => .inr ⟨rfl,h⟩
 | (k,v)::A,B,ob,h=>by
  rw [qbp,kah] at h;rw [kah];by_cases hk:k=i;rw [qn hk] at h ⊢; exact .inl h
  ·rw [qj hk] at h ⊢; exact kkn h
theorem kjc {r:List (Nat×Nat)} {j:Nat}:∀ {A:List (Nat×AObj)} {ob:AObj},kaa (renH r A) j=some ob->∃ i o,kaa A i=some o/\rn r i=j/\ob=renO r o
 | [],ob,h=>by cases h
 | (k,v)::A,ob,h=>by
  simp only [renH] at h;rw [kah] at h;by_cases hk:rn r k=j;rw [qn hk] at h;injection h with h;exact ⟨k,v,by rw [kah,qn rfl],hk,h.symm⟩
  ·rw [qj hk] at h;obtain ⟨i,o,h1,a,b⟩:=kjc h;exact ⟨i,o,by rw [kah,qj (fun e=>hk (by rw [e];exact a))];exact h1,a,b⟩
theorem kix {foot:List Nat}:∀ {l:List (Nat×AObj)} {k:Nat} {ob:AObj},kaa (ki6 foot l) k=some ob->k∉foot/\kaa l k=some ob
 | [],k,ob,h=>by cases h
 | (j,v)::l,k,ob,h=>by
  simp only [ki6] at h;cases a:foot.contains j with
  | true=>
   rw [a] at h;obtain ⟨h1,b⟩:=kix h;refine ⟨h1,?_⟩;rw [kah,qj (fun e=>h1 (by subst e;simpa using a))];exact b
  | false=>
   rw [a] at h;simp only [qf,kah] at h;rw [kah];by_cases hk:j=k;subst hk;rw [qn rfl] at h ⊢;exact ⟨by simpa using a,h⟩
   ·rw [qj hk] at h ⊢;exact kix h
variable {P:Program} {F S0:Nat->Prop} {N0:Nat} {w w':World} {S S':Nat->Prop} {ψ ψ':Env} {K K':Nat->Prop} {T:List (TypeId×TD)} {o:Oper} {a:Act} {st:St} {t:TypeId} {d:TD}
theorem kq9 {r1 r2:List (Nat×Nat)} {foot:List Nat}:∀ {l:List Nat} {pre:List (Nat×AObj)},preX st r1 r2 foot l=some pre->∀ i ob,kaa pre i=some ob->i∈l/\∃ ob',kaa st.heap (rn r2 i)=some ob'/\okO foot ob'=true/\ob=renO r1 ob'
 | [],pre,h,i,ob,ho=>by simp only [preX,qc] at h;subst h;cases ho
 | k::l,pre,h,i,ob,ho=>by
  simp only [preX] at h;split at h
  ·rename_i ob1 r h1 b;cases a:okO foot ob1 with
   | false=>rw [a] at h;cases h
   | true=>
    rw [a] at h;simp only [qe,qc] at h;subst h;rw [kah] at ho;by_cases hk:k=i;subst hk;rw [qn rfl] at ho;injection ho with ho;exact ⟨qq ..,ob1,h1,a,ho.symm⟩
    ·rw [qj hk] at ho;exact (kq9 b i ob ho).imp (qh _) id
  ·cases h
theorem kyo {r1:List (Nat×Nat)} {foot ids:List Nat} (h:∀ t,RV ψ (·∈ids) S w (a.tmps.getD t undef) (st.get t)):∀ {cs:List C1} {xs:List Operand} {ys:List AV},kn5 st r1 foot cs xs=some ys ->
  ys.length=xs.length/\∀ (i:Nat) (x:Operand) (y:AV),xs[i]?=some x->ys[i]?=some y->∃ z,y=renA r1 z/\RV ψ (·∈foot) S w (a.eval x) z
 | [],[],ys,b=>by simp only [kn5,qc] at b;subst b;exact ⟨rfl,fun i x y h=>by simp at h⟩
 | c::cs,x::xs,ys,b=>by
  simp only [kn5] at b;split at b
  ·rename_i r h1;cases d:okA foot (co1 c (st.eval x)) with
   | false=>rw [d] at b;cases b
   | true=>
    rw [d] at b;simp only [qe,qc] at b;subst b;obtain ⟨e1,e2⟩:=kyo h h1;refine ⟨by simp [e1],fun i x' y' e hy=>?_⟩;cases i with
    | zero=>
     simp at e hy;subst e hy;exact ⟨_,rfl,(kmz c (Sim.eval_tmps h x)).subA d⟩
    | succ i=>exact e2 i x' y' (by simpa using e) (by simpa using hy)
  ·cases b
 | [],_::_,ys,b=>by cases b
 | _::_,[],ys,b=>by cases b
theorem kx2 {r1:List (Nat×Nat)} {foot:List Nat} {cs:Array Value}:∀ {xs ys:List AV},kn3 r1 foot xs=some ys->ys.length=xs.length/\∀ (i:Nat) (y:AV),ys[i]?=some y->∃ x,xs[i]?=some x/\okA foot x=true/\y=renA r1 x
 | [],ys,a=>by simp only [kn3,qc] at a;subst a;exact ⟨rfl,fun i y h=>by simp at h⟩
 | x::xs,ys,a=>by
  simp only [kn3] at a;split at a
  ·rename_i r h1;cases b:okA foot x with
   | false=>rw [b] at a;cases a
   | true=>
    rw [b] at a;simp only [qe,qc] at a;subst a;obtain ⟨e1,e2⟩:=kx2 (cs:=cs) h1;refine ⟨by simp [e1],fun i y hy=>?_⟩;cases i with
    | zero=>simp at hy;subst hy;exact ⟨x,rfl,b,rfl⟩
    | succ i=>simpa using e2 i y (by simpa using hy)
  ·cases a
theorem ky9 {f:FuncId} {as_:List AV} {pre:List (Nat×AObj)} {ids0 ids1:List Nat} {E:HEnd} {post:List (Nat×AObj)} {keys:List Nat} (hc:ka3 P f as_ pre ids0 E post ids1) (r1 r2:List (Nat×Nat))
  (a:Core F S0 N0 st.heap st.ids ψ S w) (A:klx st r1 r2 keys ids0 ids1 post=true) (s:preX st r1 r2 (renI r2 ids0) keys=some pre) {vs:Array Value} (aa:vs.size=as_.length)
  (hv:∀ (i:Nat) (v:Value) (y:AV),vs[i]?=some v->as_[i]?=some y->∃ z,y=renA r1 z/\RV ψ (·∈renI r2 ids0) S w v z):
  Calls P f vs w fun e w'=>∃ ψ' S',(E.ren r2).is e ψ' (·∈renI r2 ids1++st.ids) S' w'/\Core F S0 N0 (renH r2 post++ki6 (renI r2 ids0) st.heap) (renI r2 ids1++st.ids) ψ' S' w'/\Fr F w w'/\Ext (·∈st.ids) ψ ψ'/\(∀ b,S b->S' b)/\Same S w w':=by
 simp only [klx,qv,qu,qbx,qb2,List.contains_eq_mem,qay,qbf] at A;obtain ⟨c1,c2,c3,c4,c5⟩:=A;simp only [kz8] at s hv c3 ⊢;have inj:=kvb c3;have R:∀ j,j∈ids0.map (rn r2)->∃ i,i∈ids0/\rn r2 i=j/\rn r1 j=i:=fun j u=>by obtain ⟨i,hi,rfl⟩:=qaf.1 u;exact ⟨i,hi,rfl,qi (c1 i hi).2⟩
 -- the callee's view
 let ψc:Env:=⟨fun i=>ψ.len (rn r2 i),fun i=>ψ.val (rn r2 i)⟩
 let Fc:Nat->Prop:=fun b=>F b\/∃ j ob,kaa st.heap j=some ob/\j∉ids0.map (rn r2)/\Blk (ψ.val j) b
 let Sc:Nat->Prop:=fun b=>S b\/∃ j ob,kaa st.heap j=some ob/\j∈ids0.map (rn r2)/\Blk (ψ.val j) b
 have T:∀ j,j∈ids0.map (rn r2)->rn r1 j∈ids0/\ψc.len (rn r1 j)=ψ.len j/\ψc.val (rn r1 j)=ψ.val j:=fun j u=>by obtain ⟨i,hi,h1,x⟩:=R j u;rw [x];exact ⟨hi,by show ψ.len (rn r2 i)=_;rw [h1],by show ψ.val (rn r2 i)=_;rw [h1]⟩
 have ab:Core Fc Sc w.heap.size pre ids0 ψc S w:=by
  refine ⟨fun i ob ho=>?_,fun i i' ob ob' b ho K H d q=>?_,a.lt,fun b d => .inl (.inl d),qy _,fun b d=>?_⟩
  ·obtain ⟨hi,ob',h1,x,rfl⟩:=kq9 s i ob ho;obtain ⟨k1,k2,k3⟩:=a.obj _ _ h1;have L:=c5 i hi;have M:rn r2 i∈ids0.map (rn r2):=qby L;have ac:=qi (c1 i L).2;have hO:=(k2.subA x).ren (ψ':=ψc) (K':=(·∈ids0)) T M x;rw [ac] at hO;refine ⟨L,hO,fun b d=>⟨(k3 b d).1,?_, .inl (.inr ⟨_,ob',h1,M,d⟩)⟩⟩;rintro (hf | ⟨j,oj,N,ad,O⟩);exact (k3 b d).2.1 hf
   ·exact a.inj _ _ _ _ b N h1 (fun e=>ad (e ▸ M)) O d
  obtain ⟨hi,ob1,h1,_,_⟩:=kq9 s i ob ho;obtain ⟨ae,ob2,x,_,_⟩:=kq9 s i' ob' K;refine a.inj _ _ _ _ b h1 x (fun e=>H ?_) d q;have e1:=qi (c1 i (c5 i hi)).2;have e2:=qi (c1 i' (c5 i' ae)).2;rw [<- e1,<- e2,e]
  ·rcases d with hf | ⟨j,oj,N,_,O⟩;exact a.fr b hf
   ·exact (a.obj j oj N).2.1.lt O
 refine (hc.2 Fc Sc w.heap.size ψc S w vs aa (fun i v y h1 x=>?_) ab).mono ?_;obtain ⟨z,rfl,hz⟩:=hv i v y h1 x;exact hz.ren T;rintro e w' ⟨ψc',S',hE,g,r,U,V,hS,B⟩;have C:∀ i,i∈ids1->ids1.find? (fun k=>Nat.beq (rn r2 k) (rn r2 i))=some i:=fun i hi=>by
  cases h:ids1.find? (fun k=>Nat.beq (rn r2 k) (rn r2 i)) with
  | none=>
   rw [List.find?_eq_none] at h;exact absurd (Nat.beq_refl _) (h i hi)
  | some k=>
   have h1:=List.find?_some h;rw [inj k i (List.mem_of_find?_eq_some h) hi (qi h1)]
 have D:∀ j,(∀ i,i∈ids1->rn r2 i≠j)->ids1.find? (fun k=>Nat.beq (rn r2 k) j)=none:=fun j u=>by rw [List.find?_eq_none];intro i hi h;exact u i hi (qi h)
 let ψ':Env:=⟨fun j=>match ids1.find? (fun k=>Nat.beq (rn r2 k) j) with | some i=>ψc'.len i | none=>ψ.len j,fun j=>match ids1.find? (fun k=>Nat.beq (rn r2 k) j) with | some i=>ψc'.val i | none=>ψ.val j⟩
 have t:∀ i,i∈ids1->ψ'.len (rn r2 i)=ψc'.len i/\ψ'.val (rn r2 i)=ψc'.val i:=fun i hi=>by
  constructor
  ·show (match ids1.find? (fun k=>Nat.beq (rn r2 k) (rn r2 i)) with | some i=>ψc'.len i | none=>ψ.len (rn r2 i))=_
   rw [C i hi]
  ·show (match ids1.find? (fun k=>Nat.beq (rn r2 k) (rn r2 i)) with | some i=>ψc'.val i | none=>ψ.val (rn r2 i))=_
   rw [C i hi]
 have X:∀ j,(∀ i,i∈ids1->rn r2 i≠j)->ψ'.len j=ψ.len j/\ψ'.val j=ψ.val j:=fun j u=>by
  constructor
  ·show (match ids1.find? (fun k=>Nat.beq (rn r2 k) j) with | some i=>ψc'.len i | none=>ψ.len j)=_
   rw [D j u]
  ·show (match ids1.find? (fun k=>Nat.beq (rn r2 k) j) with | some i=>ψc'.val i | none=>ψ.val j)=_
   rw [D j u]
 have m:∀ j,j∈st.ids->j∉ids0.map (rn r2)->ψ'.len j=ψ.len j/\ψ'.val j=ψ.val j:=fun j u hn=>X j fun i hi e=>by
  rcases c2 i hi with h | h;exact hn (e ▸ qby h)
  ·exact h (e ▸ u)
 have J:Ext (·∈st.ids) ψ ψ':=fun j u=>by
  by_cases hn:j∈ids0.map (rn r2);obtain ⟨i,hi,h1,x⟩:=R j hn;obtain ⟨e1,e2⟩:=U i hi;obtain ⟨e3,e4⟩:=t i (V i hi);rw [<- h1,e3,e4];exact ⟨e1,e2⟩
  ·obtain ⟨e1,e2⟩:=m j u hn;exact ⟨by omega,fun _=>e2⟩
 have G:∀ i,i∈ids1->rn r2 i∈ids1.map (rn r2)++st.ids/\ψ'.len (rn r2 i)=ψc'.len i/\ψ'.val (rn r2 i)=ψc'.val i:=fun i hi=>
  ⟨List.mem_append_left _ (qby hi),t i hi⟩
 have hK:∀ i,i∈st.ids->i∈ids1.map (rn r2)++st.ids:=fun i hi=>qb3 _ hi;have Y:∀ b,Sc b\/w.heap.size<=b->S0 b\/N0<=b:=fun b d=>by
  rcases d with (d | ⟨j,oj,h1,_,Q⟩) | d;exact a.s0 b d;exact ((a.obj j oj h1).2.2 b Q).2.2
  ·exact .inr (qap a.n0 d)
 have n:∀ j oj b,kaa st.heap j=some oj->j∉ids0.map (rn r2)->Blk (ψ.val j) b->Fc b/\¬ (Sc b\/w.heap.size<=b):=fun j oj b h1 x Q=>by
  refine ⟨.inr ⟨j,oj,h1,x,Q⟩,?_⟩;rintro ((d | ⟨k,ok,g1,g2,g3⟩) | d);exact ((a.obj j oj h1).2.2 b Q).1 d;exact a.inj j k oj ok b h1 g1 (fun e=>x (e ▸ g2)) Q g3
  ·have:=(a.obj j oj h1).2.1.lt Q;omega
 refine ⟨ψ',S',?_,⟨fun j oj ho=>?_,fun j j' oj oj' b ho K H d q=>?_,g.lt,fun b d=>Y b (g.s0 b d),qap a.n0 r.size,fun b d=>qbo (a.fr b d) r.size⟩,
  ⟨r.os,r.tape,r.output,r.size,fun b d=>r.block b (.inl d),r.drawn⟩,J,hS,B⟩
 ·cases E with
  | ret res=>
   obtain ⟨v,rfl,hv⟩:=hE;exact ⟨v,rfl,hv.ren G⟩
  | pan v=>exact hE
 ·rcases kkn ho with h | ⟨_,h⟩
  ·obtain ⟨i,ob,h1,rfl,rfl⟩:=kjc h;obtain ⟨k1,k2,k3⟩:=g.obj i ob h1;refine ⟨(G i k1).1,k2.ren (ids:=ids1) G k1 ?_,fun b d=>?_⟩
   ·have hm:∀ {l:List (Nat×AObj)},kaa l i=some ob->(i,ob)∈l:=fun {l}=>by
     induction l with
     | nil=>intro h;cases h
     | cons p l ih=>
      intro h;obtain ⟨k,v⟩:=p;rw [kah] at h;split at h;rename_i hk;cases hk;cases qag h;exact qq ..
      ·exact qh _ (ih h)
    exact c4 _ (hm h1)
   ·rw [(t i k1).2] at d;obtain ⟨m1,m2,m3⟩:=k3 b d;exact ⟨m1,fun hf=>m2 (.inl hf),Y b m3⟩
  ·obtain ⟨hn,h1⟩:=kix h;obtain ⟨k1,k2,k3⟩:=a.obj j oj h1;have Z:=m j k1 hn;refine ⟨hK j k1,k2.keep J hK hS B Z fun b d=>r.block b (n j oj b h1 hn d).1,fun b d=>?_⟩;rw [Z.2] at d;exact ⟨fun hs=>(n j oj b h1 hn d).2 (g.s0 b hs),(k3 b d).2⟩
 ·have bA:∀ {i ob},kaa post i=some ob->Blk (ψ'.val (rn r2 i)) b->¬ Fc b:=fun {i ob} h1 d=>by obtain ⟨k1,_,k3⟩:=g.obj i ob h1;rw [(t i k1).2] at d;exact (k3 b d).2.1
  rcases kkn ho with h | ⟨_,h⟩ <;> rcases kkn K with h' | ⟨_,h'⟩;obtain ⟨i,ob,h1,rfl,rfl⟩:=kjc h;obtain ⟨i',ob',o,rfl,rfl⟩:=kjc h';obtain ⟨k1,_,_⟩:=g.obj i ob h1;obtain ⟨k1',_,_⟩:=g.obj i' ob' o;rw [(t i k1).2] at d;rw [(t i' k1').2] at q;exact g.inj i i' ob ob' b h1 o (fun e=>H (by rw [e])) d q;obtain ⟨i,ob,h1,rfl,rfl⟩:=kjc h;obtain ⟨I,o⟩:=kix h';rw [(m j' (a.obj j' oj' o).1 I).2] at q;exact bA h1 d (n j' oj' b o I q).1;obtain ⟨i',ob',o,rfl,rfl⟩:=kjc h';obtain ⟨hn,h1⟩:=kix h;rw [(m j (a.obj j oj h1).1 hn).2] at d;exact bA o q (n j oj b h1 hn d).1
  ·obtain ⟨hn,h1⟩:=kix h;obtain ⟨I,o⟩:=kix h';rw [(m j (a.obj j oj h1).1 hn).2] at d;rw [(m j' (a.obj j' oj' o).1 I).2] at q;exact a.inj j j' oj oj' b h1 o H d q
def fnOf (n:Nat):AV->Option (FuncId×List AV)
 | .fn f cap=>some (f,cap)
 | .mth f fst=>bif Nat.beq n 0 then some (f,fst) else none
 | _=>none
theorem k09 {f : FuncId} {fst : Array Value} {x : Operand} {args : Array Operand} {ts : Array TypeId} (ho : o.op = .call { callee := .value x, args := args, argTypes := ts }) (e : a.eval x = .func (.func f) fst #[]) (h0 : args.size = 0) (hf : ∃ fn, P.funcs[f]? = some fn /\ fn.body.isNone = false /\ (fn.name == "runtime.NumGoroutine") = false) :
  (execOp a.eval o).run P w = .ok (.enter f (args.map a.eval++fst)) w:=by
 obtain ⟨fn,h1,c,d⟩:=hf;have b:fn.body≠none:=by intro h;rw [h] at c;cases c
 simp only [qbu,ne_eq] at d;have hn:args=#[]:=Array.eq_empty_of_size_eq_zero h0;subst hn;simp [execOp,ho,resolve,e,Deferred.ofValue,invoke,callFunc,h1,b,d]
theorem k1u {f : FuncId} {caps : Array Value} {x : Operand} {args : Array Operand} {ts : Array TypeId} (ho : o.op = .call { callee := .value x, args := args, argTypes := ts }) (e : a.eval x = .func (.func f) #[] caps) (hf : ∃ fn, P.funcs[f]? = some fn /\ fn.body.isNone = false /\ (fn.name == "runtime.NumGoroutine") = false) :
  (execOp a.eval o).run P w = .ok (.enter f (args.map a.eval++caps)) w:=by
 obtain ⟨fn,h1,c,d⟩:=hf;have b:fn.body≠none:=by intro h;rw [h] at c;cases c
 simp only [qbu,ne_eq] at d;simp [execOp,ho,resolve,e,Deferred.ofValue,invoke,callFunc,h1,b,d]
theorem k4n {f:FuncId} {cap:List AV} {x:Operand} {args:Array Operand} {ts:Array TypeId} {cs:List C1} {as1 as2 pre:_} {ids0 ids1:List Nat} {E:HEnd} {post:List (Nat×AObj)} {keys:List Nat} (r1 r2:List (Nat×Nat)) (ho:o.op = .call { callee := .value x,args:=args,argTypes:=ts })
  (c:fnOf args.size (st.eval x)=some (f,cap)) (hc:ka3 P f (as1++as2) pre ids0 E post ids1) (g:kn5 st r1 (renI r2 ids0) cs args.toList=some as1) (k:kn3 r1 (renI r2 ids0) cap=some as2)
  (j:klx st r1 r2 keys ids0 ids1 post=true) (l:preX st r1 r2 (renI r2 ids0) keys=some pre) (hs:Sim F S0 N0 st ψ S a w):
  ∃ vs,(execOp a.eval o).run P w = .ok (.enter f vs) w/\Calls P f vs w fun e w'=>∃ ψ' S',(E.ren r2).is e ψ' (·∈renI r2 ids1++st.ids) S' w'/\Core F S0 N0 (renH r2 post++ki6 (renI r2 ids0) st.heap) (renI r2 ids1++st.ids) ψ' S' w'/\Fr F w w'/\Ext (·∈st.ids) ψ ψ'/\(∀ b,S b->S' b)/\Same S w w':=by
 have d:=hs.eval x;obtain ⟨caps,m,n,q⟩:∃ caps:Array Value,(execOp a.eval o).run P w = .ok (.enter f (args.map a.eval++caps)) w/\caps.size=cap.length/\∀ (i:Nat) (v:Value) (y:AV),caps[i]?=some v->cap[i]?=some y->RV ψ (·∈st.ids) S w v y:=by
  generalize s:a.eval x=u at d;generalize st.eval x=y at c d;unfold fnOf at c;split at c
  ·simp only [qc,qt] at c;obtain ⟨rfl,rfl⟩:=c;cases d with
   | fn h hr=>exact ⟨_,k1u ho s hc.1,h,hr⟩
  ·rename_i f' fst;cases r:Nat.beq args.size 0 with
   | false=>rw [r] at c;cases c
   | true=>
    rw [r] at c;simp only [qe,qc,qt] at c;obtain ⟨rfl,rfl⟩:=c;cases d with
    | mth h hr=>exact ⟨_,k09 ho s (qi r) hc.1,h,hr⟩
  ·cases c
 refine ⟨_,m,?_⟩;obtain ⟨e1,e2⟩:=kyo hs.tmps g;obtain ⟨e3,e4⟩:=kx2 (cs:=caps) k;refine ky9 hc r1 r2 hs.core j l (by simp [e1,e3,n]) fun i v y hv hy=>?_;by_cases hi:i<args.size;rw [qbn (by simpa using hi)] at hv;rw [qac (by rw [e1];simpa using hi)] at hy;simp only [Array.getElem?_map,qw] at hv;obtain ⟨p,hp,rfl⟩:=hv;exact e2 i p y (by simpa using hp) hy
 ·rw [Array.getElem?_append_right (by simpa using hi)] at hv;rw [qai (by rw [e1];simpa using hi)] at hy;have hl:as1.length=args.size:=by rw [e1];simp
  obtain ⟨z,h1,t,rfl⟩:=e4 _ y hy;exact ⟨z,rfl,(q _ v z (by simpa using hv) (by rw [<- h1,hl])).subA t⟩
theorem kx6 {f:FuncId} {cap:List AV} {x:Operand} {args:Array Operand} {ts:Array TypeId} {cs:List C1} {as1 as2 pre:_} {ids0 ids1:List Nat} {res:AV} {post:List (Nat×AObj)} {keys:List Nat} (r1 r2:List (Nat×Nat)) (ho:o.op = .call { callee := .value x,args:=args,argTypes:=ts })
  (h:fnOf args.size (st.eval x)=some (f,cap)) (hc:ka3 P f (as1++as2) pre ids0 (.ret res) post ids1) (b:kn5 st r1 (renI r2 ids0) cs args.toList=some as1) (d:kn3 r1 (renI r2 ids0) cap=some as2)
  (c:klx st r1 r2 keys ids0 ids1 post=true) (g:preX st r1 r2 (renI r2 ids0) keys=some pre):
  StepA P o st (renA r2 res) (renH r2 post++ki6 (renI r2 ids0) st.heap) (renI r2 ids1++st.ids):=by
 intro F S0 N0 ψ S a w hs;obtain ⟨vs,h1,j⟩:=k4n r1 r2 ho h hc b d c g hs;unfold kcm;rw [h1];refine j.mono ?_;rintro e w' ⟨ψ',S',⟨v,rfl,hv⟩,k,l,m,n,p⟩;exact ⟨v,rfl,ψ',S',k,hv,l,m,fun i hi=>qb3 _ hi,n,p⟩
def hQ (T:List (TypeId×TD)) (rs:List ResultVar) (g:Nat) (ids:List Nat) (E:HEnd) (post:List (Nat×AObj)) (ids':List Nat) (ψ0:Env) (S1:Nat->Prop) (w0:World) (e:Exit) (st:St):Prop:=
 ∃ st2,LeSt st st2/\krh T rs g ids E post ids' ψ0 S1 w0 e st2
theorem k2m {rs:List ResultVar} {g:Nat} {ids ids':List Nat} {res:AV} {post:List (Nat×AObj)} {ψ0:Env} {S1:Nat->Prop} {w0:World} {e:Exit} {st st2:St} (hl:LeSt st st2) (a:st2.heap=(g, .was ψ0 ids S1 w0)::post) (hi:st2.ids=g::ids')
  (b:e = .normal\/e = .ret) (hr:retA T st2 rs=some res):hQ T rs g ids (.ret res) post ids' ψ0 S1 w0 e st:=⟨st2,hl,a,hi,b,hr⟩
theorem kxn (e : TOk P T) {f : FuncId} {fn : Func} {c : Code} {args : List AV} {pre : List (Nat × AObj)} {ids : List Nat} {E : HEnd} {post : List (Nat × AObj)} {ids' : List Nat} {g : Nat} (hf : P.funcs[f]? = some fn) (i : fn.body = some c) (hn : (fn.name == "runtime.NumGoroutine") = false)
  (a:Nat.ble args.length fn.ntmps=true) (j:ids.contains g=false) (b:ids'.contains g=false) (d:(post.all fun p=>okO ids' p.2)=true) (k:E.ok ids'=true) (hk:(post.all fun p=>ids'.contains p.1)=true)
  (h:∀ ψ0 S1 w0,awp P c { n:=fn.ntmps,tmps:=argT 0 args,heap:=(g, .was ψ0 ids S1 w0)::pre,ids:=g::ids } (hQ T fn.results.toList g ids E post ids' ψ0 S1 w0)):ka3 P f args pre ids E post ids':=
 ky4 e hf i hn a j (fun ψ0 S1 w0=>kpr (h ψ0 S1 w0)) b d k hk
end Go.Proofs.YtnlhjbnpjefjgaaGreatDoor
set_option linter.all false
set_option linter.unusedSectionVars false
namespace Go.Proofs.YtnlhjbnpjefjgaaGreatDoor
open Go Go.RowKit
variable [Dr]
def toBA (xs:List Int):BA:=xs.foldl (fun r n=>r.push (UInt8.ofNat n.toNat)) ByteArray.empty
section
variable {P:Program} {F S0:Nat->Prop} {N0:Nat} {w w':World} {S S':Nat->Prop} {ψ:Env} {K:Nat->Prop} {T:List (TypeId×TD)} {o:Oper} {a:Act} {st:St} {t:TypeId} {d:TD} {id:Nat}
theorem k26 {sr:TypeId} {x:Operand} {k k':IntKind} {n:Int} {ds:TD} (b:TOk P T) (ho:o.op = .convert sr t x) (hs:kad T sr=some ds) (c:kad T t=some d) (hk:d.kind = .int k) (f:st.eval x = .fz (.atom (.int k' n))):NStep P o st (.fz (.atom (.int k (k.wrap n)))):=by obtain ⟨_,e,h1,_⟩:=b.get hs;obtain ⟨_,e',g,a⟩:=b.get c;rw [hk] at a;cases e' <;> simp only [kff] at a;subst a;exact kaac ds ho ⟨_,h1⟩ g f
theorem kz3 {sr:TypeId} {x:Operand} {s:BA} {ds:TD} (c:TOk P T) (ho:o.op = .convert sr t x) (hs:kad T sr=some ds) (b:ds.kind = .str) (e:kad T t=some d) (hk:d.kind = .str) (f:st.eval x = .fz (.atom (.string s))):NStep P o st (.fz (.atom (.string s))):=by intro ψ S a w ht g;have h1:=Sim.eval_tmps ht x;rw [f] at h1;refine kaf w (.string s) ?_ ⟨kai _, .fz (.atom rfl)⟩;simp [execOp,ho,h1.atom,convert,run_underlying ((c.get hs).str b),run_underlying ((c.get e).str hk)]
theorem k4i {n:Nat} {parts:Array (Nat×Operand)} {e:TypeId} {de:TD} {xs:List FV} (ho:o.op = .buildSlice t n parts) (X:TdOk P t d) (hk:d.kind = .slice e) (I:TdOk P e de) (g:0<de.size) (hn:xs.length=n) (T:n*de.size<=16777216)
  (hp:kks de.size 0 (kcw st parts)=some xs) (A:st.ids.contains id=false):StepA P o st (.row id n) ((id, .frow e de.size xs)::st.heap) (id::st.ids):=by
 have A:id∉st.ids:=by simpa using A
 subst hn;intro F S0 N0 ψ S a w J;have ht:=J.tmps;obtain ⟨e1,e2⟩:=kkt ht parts;obtain ⟨p1,p2⟩:=kql hp;obtain ⟨vs,C⟩:∃ vs:List Value,vs=parts.toList.map (fun p=>a.eval p.2):=⟨_,rfl⟩;have f:parts.toList.length=xs.length:=by
  have:(kcw st parts).length=xs.length:=by rw [p1];simp
  simpa [kcw] using this
 have D:vs.length=xs.length:=by rw [C];simp at f ⊢; exact f
 have k:∀ (i:Nat) (x:FV),xs[i]?=some x->∃ v p,vs[i]?=some v/\parts.toList[i]?=some p/\p.1=i/\RF S w v x:=fun i x B=>by
  have hi:i<parts.toList.length:=by rw [f];exact (qd.1 B).1
  have Y:(kcw st parts)[i]?=some (i, .fz x):=by rw [p1];simp [B]
  have E:parts.toList[i]?=some parts.toList[i]:=qa hi;have L:(parts.map fun (i,x)=>(i,a.eval x)).toList[i]?=some (parts.toList[i].1,a.eval parts.toList[i].2):=by simp [E]
  obtain ⟨r1,r2⟩:=e2 i _ _ L Y;exact ⟨a.eval parts.toList[i].2,parts.toList[i],by rw [C,ql,E];rfl,E,r1,r2.inv⟩
 have M:(parts.map fun (i,x)=>(i,a.eval x)).toList=(vs.zipIdx 0).map (fun x=>(x.2,x.1)):=by
  apply qb1;intro i;by_cases hi:i<xs.length;obtain ⟨v,p,h1,U,Z,_⟩:=k i xs[i] (qa hi);have:v=a.eval p.2:=(by rw [C,ql,U] at h1;simpa using h1.symm);simp only [Array.toList_map,ql,List.getElem?_zipIdx,h1,U,qaw,Nat.zero_add];rw [this,Z]
  ·rw [qa4 (by simp at f ⊢; omega),qa4 (by simp [D];omega)]
 have c:∀ v∈vs,v.cells.size=de.size:=fun v hv=>by obtain ⟨i,hi,rfl⟩:=qah.1 hv;obtain ⟨v,p,h1,_,_,N⟩:=k i xs[i] (qa (by omega));rw [qa hi] at h1;injection h1 with h1;rw [h1,(N.cells (p2 _ (qo _)).2).1,(p2 _ (qo _)).1]
 obtain ⟨z,O,aa⟩:=I.zero (P:=P) (w:=w);obtain ⟨cells,hcl⟩:∃ cells:Array Value,cells=(vs.flatMap fun v=>v.cells.toList).toArray:=⟨_,rfl⟩;have K:(Instr.buildSlice t xs.length (parts.map fun (i,x)=>(i,a.eval x))).run P w = .ok (.slice (some ⟨w.heap.size,0,none⟩) xs.length xs.length) (w.alloc (.cells cells e)):=by
  have Q:¬ xs.length*de.size > 2 ^ 24:=by omega
  have m:∀ c0:Array Value,xs.length*de.size=c0.size->Instr.fill (fun i=>some (i*de.size,de.size)) c0 (parts.map fun (i,x)=>(i,a.eval x)).toList=some cells:=fun c0 R=>by rw [M,Great.fill_whole g vs c0 c (by rw [D];exact R),hcl]
  unfold Instr.buildSlice;rw [Sem.run_bind,run_underlying (X.slice hk),Result.andThen_ok];simp only [Sem.run_bind,I.size,Result.andThen_ok,qj Q];by_cases h0:xs.length*de.size=0
  ·simp only [qn h0,Sem.run_bind,Sem.run_pure,Result.andThen_ok];rw [m];rfl
   ·simp
  ·simp only [qj h0,Sem.run_bind,O,Result.andThen_ok,Sem.run_pure];rw [m];rfl
   ·simp
 have q:cells.toList.length=xs.length*de.size:=by
  rw [hcl];have:∀ l:List Value,(∀ v∈l,v.cells.size=de.size)->(l.flatMap fun v=>v.cells.toList).length=l.length*de.size:=fun l=>by
   induction l with
   | nil=>intro _;simp
   | cons v l ih=>
    intro h;rw [qbv,qaj,ih fun u hu=>h u (qh _ hu),qa7,h v (qq ..),qbq,Nat.succ_mul,Nat.add_comm]
  simpa [D] using this vs c
 have r:=J.core;have G:Grow w (w.alloc (.cells cells e)):=kax _ _;refine kaf (w.alloc (.cells cells e)) (.slice (some ⟨w.heap.size,0,none⟩) xs.length xs.length) ?_ ⟨ψ.set id xs.length (.slice (some ⟨w.heap.size,0,none⟩) xs.length xs.length),S,?_,?_,kf9 _ r.fr,kbs A _ _,fun _ h=>qh _ h,fun _ h=>h,Same.of_grow G⟩;have s:=K;simp only [execOp,ho,Sem.run_bind];rw [show (parts.map fun (i,x)=>(i,a.eval x))=parts.map (fun x=>(x.1,a.eval x.2)) from rfl] at s;simp [s]
 ·refine r.add G A (fun b T=>by simp [kar] at T;omega) ⟨kbq _ _,g,cells.toList,?_,fun x B=>p2 x B,fun i x j v y B hv hy=>?_⟩
  ·rw [kap];refine ⟨q, .inr ⟨w.heap.size,xs.length,cells,rfl,qar _,heap_alloc_new w _,qy _,?_,by simpa using q,?_⟩⟩;have:xs.length*1<=xs.length*de.size:=Nat.mul_le_mul_left _ g;unfold maxLen;omega
   ·rw [<- q,qae]
  ·obtain ⟨u,p,h1,_,_,N⟩:=k i x B;have V:j<de.size:=(by have:=(qd.1 hy).1;rw [(p2 x (qk B)).1] at this;exact this);have H:=Great.flat_get g vs c (i*de.size+j);rw [show (i*de.size+j) / de.size=i by rw [Nat.mul_comm,Nat.mul_add_div g,Nat.div_eq_of_lt V];omega,show (i*de.size+j) % de.size=j by rw [Nat.mul_comm,Nat.mul_add_mod,Nat.mod_eq_of_lt V],h1] at H;simp only [qb] at H;rw [hcl] at hv;simp only [] at hv;rw [H] at hv;have:=(N.cells (p2 x (qk B)).2).2.1 j v y (by simpa using hv) hy;exact this.keep (Same.of_grow G)
 ·exact .row (qq ..) (by rw [kbq];exact qy _) rfl fun _=>(kap _ _).symm
theorem kna (t:TypeId) (d:TD) (id:Nat) {α:Type} (enc:α->FV) (n:Nat) (parts:Array (Nat×Operand)) (e:TypeId) (de:TD) (xs:List α) (c:TOk P T:=by exact kaj) (h:Nat.ble (n*de.size) 16777216=true:=by kernel_rfl) (hp:kks de.size 0 (kcw st parts)=some (xs.map enc):=by kernel_rfl) (b:st.ids.contains id=false:=by kernel_rfl) (ho:o.op = .buildSlice t n parts:=by kernel_rfl) (f:kad T t=some d:=by kernel_rfl) (hk:d.kind = .slice e:=by kernel_rfl) (a:kad T e=some de:=by kernel_rfl) (g:Nat.ble 1 de.size=true:=by kernel_rfl) (hn:xs.length=n:=by rfl):StepA P o st (.row id xs.length) ((id, .frow e de.size (xs.map enc))::st.heap) (id::st.ids):=by have:=k4i (id:=id) ho (c.get f) hk (c.get a) (qr g) (by simpa using hn) (qr h) hp b;rw [<- hn] at this;exact this
end
end Go.Proofs.YtnlhjbnpjefjgaaGreatDoor
set_option linter.all false
namespace Go.Proofs.YtnlhjbnpjefjgaaGreatDoor
open Go Go.RowKit
variable [Dr]
section
variable {P:Program} {F S0:Nat->Prop} {N0:Nat} {w w':World} {S S':Nat->Prop} {ψ:Env} {K:Nat->Prop} {T:List (TypeId×TD)} {o:Oper} {a:Act} {st:St} {t:TypeId} {d:TD} {id:Nat}
theorem kj4 (t:TypeId) (d:TD) (id:Nat) (x:Operand) (e e2:TypeId) (size n:Nat) (xs:List FV) (k:TOk P T:=by exact kaj) (ho:o.op = .call { callee := .builtin .len,args:=#[x],argTypes:=#[t] }:=by kernel_rfl) (l:kad T t=some d:=by kernel_rfl) (hk:d.kind = .slice e2:=by rfl) (m:st.eval x = .row id n:=by kernel_rfl) (i:kaa st.heap id=some (.frow e size xs):=by kernel_rfl) (c:n=xs.length:=by simp):
  NStep P o st (.fz (.atom (.int .i64 n))):=by
 intro ψ S a w j p;have h0:=Sim.eval_tmps j x;rw [m] at h0;obtain ⟨k0,q,cs,f,_⟩:=p id _ i;have hv:∃ A cap,a.eval x = .slice A n cap:=by
  generalize a.eval x=u at h0;cases h0 with
  | row hK hn h1 hv=>
   obtain rfl:=hv (by rw [k0,c]);rcases f.2 with ⟨b,h⟩ | ⟨g,cap,cur,b,_⟩;exact ⟨none,0,by rw [b,c,h]⟩
   ·exact ⟨some ⟨g,0,none⟩,cap,by rw [b,c]⟩
 obtain ⟨A,cap,hv⟩:=hv;refine kaf w (.int .i64 n) ?_ ⟨kai _, .fz (.atom rfl)⟩;simp [execOp,ho,resolve,invoke,builtin,Builtin.len_,run_underlying ((k.get l).slice hk),hv,goInt]
theorem knv {s:Value} {size m:Nat} {zs:List FV} (hs:RF S w s (.lst size m zs)):∃ A cap news,s = .slice A m cap/\m=zs.length/\m<=cap/\cap<=9223372036854775807/\news.length=zs.length*size/\(∀ u∈news,u.oneCell'=true)/\RowR S w size zs news/\ElR size zs /\
  ((A=none/\zs=[])\/(zs=[]/\∃ ad,A=some ad)\/∃ ad,A=some ad/\∀ j u,news[j]?=some u->w.cell? (ad.add j)=some u):=by
 obtain ⟨A,cap,css,rfl,rfl,hc,hm,k,ha,hl,hr⟩:=hs.lst_inv;have a:ElR size zs:=fun x l=>by obtain ⟨i,hi,rfl⟩:=qah.1 l;exact (hl i _ (qa hi)).2
 by_cases e:zs=[]
 ·subst e;refine ⟨A,cap,[],rfl,rfl,hc,hm,by simp,(fun u h=>by cases h),(fun i x j v y h=>by simp at h),a,?_⟩;cases A with
  | none=>exact .inl ⟨rfl,rfl⟩
  | some ad=>exact .inr (.inl ⟨rfl,ad,rfl⟩)
 ·obtain ⟨y0,ys,rfl⟩:∃ y0 ys,zs=y0::ys:=by
   cases zs with
   | nil=>exact absurd rfl e
   | cons y ys=>exact ⟨y,ys,rfl⟩
  obtain ⟨b,off,rfl,_,_⟩:=ha 0 y0 rfl;obtain ⟨news,hn,d,p⟩:=kux (b:=b) (w:=w) (size:=size) (Q:=fun c y=>(∀ j v z,c[j]?=some v->y.cells[j]?=some z->RF S w v z)/\(∀ u∈c,u.oneCell'=true)) (y0::ys) off fun i y hy=>by obtain ⟨b',o',hA,_,d⟩:=ha i y hy;injection hA with hA;injection hA with e1 e2;subst e1 e2;obtain ⟨l1,l2,l3⟩:=hl i y hy;refine ⟨css i,d,l1,fun j v z hv k=>hr i y j v z hy hv k,fun u n=>?_⟩;obtain ⟨j,f,rfl⟩:=qah.1 n;have g:j<y.cells.length:=(by omega);exact (hr i y j _ _ hy (qa f) (qa g)).one (l3 _ (qo g))
  refine ⟨some ⟨b,off,none⟩,cap,news,rfl,rfl,hc,hm,hn,fun u n=>?_,fun i x j v y l hv hy=>?_,a, .inr (.inr ⟨_,rfl,fun j u h=>by rw [kbo];exact d j u h⟩)⟩;obtain ⟨j,f,rfl⟩:=qah.1 n;have o:j / size<(y0::ys).length:=(by rw [Nat.div_lt_iff_lt_mul k];omega);refine (p (j / size) _ (qa o)).2 _ ?_;rw [qal];refine ⟨j % size,?_⟩;rw [qad,qn (Nat.mod_lt _ k),qan,show j / size*size+j % size=j by rw [Nat.mul_comm];exact Nat.div_add_mod j size];exact qa f
  ·have f:j<size:=(by have:=(qd.1 hy).1;rw [(a x (qk l)).1] at this;exact this);refine (p i x l).1 j v y ?_ hy;rw [qad,qn f,qan];exact hv
theorem kz2 {s:Value} {size m:Nat} {zs:List FV} {e:TypeId} (ht:P.underlying t=some (.slice e)) (hs:RF S w s (.lst size m zs)):∃ news,Src P size t s m news w/\news.length=zs.length*size/\RowR S w size zs news/\ElR size zs:=by
 obtain ⟨A,cap,news,rfl,rfl,h1,g,a,b,c,d,f⟩:=knv hs;refine ⟨news,?_,a,c,d⟩;rcases f with ⟨rfl,rfl⟩ | ⟨rfl,ad,rfl⟩ | ⟨ad,rfl,h⟩;have:news=[]:=qa6 (by simpa using a);subst this;exact Src.ofNil w ht cap;have:news=[]:=qa6 (by simpa using a);subst this;exact Src.ofSlice w ht ad 0 cap [] (by simp) (fun j u h=>by simp at h) (fun u h=>by cases h)
 ·exact Src.ofSlice w ht ad _ cap news a h b
theorem k3l {s:Value} {size m:Nat} {zs:List FV} (hs:RF S w s (.lst size m zs)):∃ A cap olds,s = .slice A m cap/\m=zs.length/\m<=cap/\cap<=9223372036854775807/\(Builtin.firstCells size m (.slice A m cap)).run P w.drew = .ok olds.toArray w.drew/\olds.length=zs.length*size/\RowR S w size zs olds/\ElR size zs:=by
 obtain ⟨A,cap,news,rfl,rfl,h1,b,a,f,c,d,e⟩:=knv hs;refine ⟨A,cap,news,rfl,rfl,h1,b,?_,a,c,d⟩;rcases e with ⟨rfl,rfl⟩ | ⟨rfl,ad,rfl⟩ | ⟨ad,rfl,h⟩;have:news=[]:=qa6 (by simpa using a);subst this;exact run_firstCells_none w.drew size 0 0 cap;have:news=[]:=qa6 (by simpa using a);subst this;exact run_firstCells_some w.drew size 0 ad 0 cap [] (by simp) (fun j u h=>by simp at h)
 ·exact run_firstCells_some w.drew size _ ad _ cap news a (by simpa using h)
theorem k4v {x y:Operand} {e:TypeId} {de:TD} {n m:Nat} {xs zs:List FV} (ho:o.op = .call { callee := .builtin .append,args:=#[x,y],argTypes:=#[t,t] }) (hd:TdOk P t d) (hk:d.kind = .slice e) (J:TdOk P e de) (hz:0<de.size) (K:de.zero.length=de.size)
  (L:st.eval x = .lim de.size n xs) (hy:st.eval y = .fz (.lst de.size m zs)\/st.eval y = .lim de.size m zs) (M:zs≠[]) (r:(xs.length+zs.length)*(de.bytes+1)<=140737488355328) (f:st.ids.contains id=false):
  StepA P o st (.row id (xs++zs).length) ((id, .frow e de.size (xs++zs))::st.heap) (id::st.ids):=by
 have f:id∉st.ids:=by simpa using f
 intro F S0 N0 ψ S a w j;have c:=j.core;have k:∃ A,a.eval x = .slice A n n/\RF S w (.slice A n n) (.lst de.size n xs):=by
  have hv:=j.eval x;rw [L] at hv;generalize a.eval x=u at hv;cases hv with
  | lim h=>exact ⟨_,rfl,h⟩
 obtain ⟨A,k,N⟩:=k;have s:RF S w (a.eval y) (.lst de.size m zs):=by
  have hv:=j.eval y;rcases hy with hy | hy;rw [hy] at hv;exact hv.inv
  ·rw [hy] at hv;generalize a.eval y=u at hv;cases hv with
   | lim h=>exact h
 have l:=r;rw [Nat.mul_add,qbt] at l;have ht:=hd.slice hk;obtain ⟨⟨i,z,hi,B,O,Q,R⟩,_⟩:=J;have T:z.cells.size=de.size:=by rw [<- qa7,R,K]
 obtain ⟨A',cap',olds,hA,U,_,_,C,D,V,E⟩:=k3l (P:=P) N;injection hA with X ae Y;subst X Y;obtain ⟨news,G,Z,aa,H⟩:=kz2 (P:=P) ht s;have hm:m=zs.length:=by obtain ⟨_,_,_,_,h,_⟩:=knv s;exact h
 have ad:0<zs.length:=List.length_pos_iff.2 M;subst hm;subst U;have I:=run_append_grow_src (P:=P) w t t o.type e i z ht hi Q A xs.length xs.length olds (by rw [B];exact C) (a.eval y) zs.length news (by rw [B];exact G) (by omega) (by omega) (by rw [O];exact growslice_fits (by omega) (by omega));have ab:=grownCap_ge w (xs.length+zs.length) xs.length e;have ac:grownCap w (xs.length+zs.length) xs.length e<=maxLen:=grownCap_le_maxLen w (xs.length+zs.length) xs.length e (by unfold maxLen;omega);have g:Grow w (w.drew.alloc (.cells ((olds++news).toArray++Builtin.zeroCells z.cells (grownCap w (xs.length+zs.length) xs.length e - (xs.length+zs.length))) e)):=
  (kvc w).trans (kax w.drew _)
 have p:(xs++zs).length=xs.length+zs.length:=qaj;have q:(olds++news).length=(xs.length+zs.length)*de.size:=by rw [qaj,D,Z,qbi]
 refine kaf _ (.slice (some ⟨w.heap.size,0,none⟩) (xs.length+zs.length) (grownCap w (xs.length+zs.length) xs.length e)) ?_ ⟨ψ.set id (xs.length+zs.length) (.slice (some ⟨w.heap.size,0,none⟩) (xs.length+zs.length) (grownCap w (xs.length+zs.length) xs.length e)),S,c.add g f (fun b hb=>by simp [kar] at hb;omega) ⟨by rw [kbq,p],hz,olds++news,?_,?_,?_⟩,?_,Fr.of_grow c.fr g,kbs f _ _,fun _ h=>qh _ h,fun _ h=>h,Same.of_grow g⟩;simp only [execOp,ho,resolve,invoke,builtin,Sem.run_bind,Sem.run_pure,Result.andThen_ok,List.map_toArray,qao,List.map_nil,k,I]
 ·rw [kap,p];refine ⟨q, .inr ⟨w.heap.size,_,_,rfl,qar _,heap_alloc_new w.drew _,ab,ac,?_,?_⟩⟩;simp only [Array.size_append,List.size_toArray,size_zeroCells,T,q,<- qbi];congr 1;omega
  ·simp only [Array.toList_append];rw [<- q];exact List.take_left
 exact fun x L=>(qab.1 L).elim (E x) (H x);exact (RowR.append hz V aa D E).keep (Same.of_grow g)
 ·rw [p];exact .row (qq ..) (by rw [kbq];exact qy _) rfl fun _=>(kap _ _).symm
def appN {α:Type} (bytes:Nat) (xs ys:List α):Option (List α):=bif ys.isEmpty then none else app bytes xs ys
theorem kpk (t:TypeId) (d:TD) (id:Nat) {α:Type} (enc:α->FV) {bytes:Nat} (xs ys:List α) {r:List α} (X Y:Operand) (e:TypeId) (de:TD) (n m:Nat) (h:appN bytes xs ys=some r) (hy:st.eval Y = .fz (.lst de.size m (ys.map enc))\/st.eval Y = .lim de.size m (ys.map enc)) (k:TOk P T:=by exact kaj) (i:st.ids.contains id=false:=by kernel_rfl) (ho:o.op = .call { callee := .builtin .append,args:=#[X,Y],argTypes:=#[t,t] }:=by kernel_rfl) (l:kad T t=some d:=by kernel_rfl) (hk:d.kind = .slice e:=by kernel_rfl) (c:kad T e=some de:=by kernel_rfl) (p:Nat.ble 1 de.size=true:=by kernel_rfl) (f:de.zero.length=de.size:=by kernel_rfl) (g:de.bytes=bytes:=by kernel_rfl) (q:st.eval X = .lim de.size n (xs.map enc):=by kernel_rfl):
  StepA P o st (.row id r.length) ((id, .frow e de.size (r.map enc))::st.heap) (id::st.ids):=by
 unfold appN at h;cases b:ys.isEmpty with
 | true=>rw [b] at h;cases h
 | false=>
  rw [b] at h;obtain ⟨rfl,a⟩:=kyn h;subst g;have j:ys.map enc≠[]:=fun h0=>by have:ys=[]:=(by simpa using h0);rw [this] at b;cases b
  have:=k4v (id:=id) (P:=P) ho (k.get l) hk (k.get c) (qr p) f q hy j (by simpa using a) i;rw [<- qas,qaa] at this;exact this
theorem kvk {α:Type} (enc:α->FV) (xs ys:List α) (X Y:Operand) (e:TypeId) (de:TD) (n m:Nat) (D:ys.isEmpty=true) (B:TOk P T) (hy:st.eval Y = .fz (.lst de.size m (ys.map enc))\/st.eval Y = .lim de.size m (ys.map enc)) (ho:o.op = .call { callee := .builtin .append,args:=#[X,Y],argTypes:=#[t,t] }:=by kernel_rfl) (E:kad T t=some d:=by kernel_rfl) (hk:d.kind = .slice e:=by kernel_rfl) (q:kad T e=some de:=by kernel_rfl) (F:st.eval X = .lim de.size n (xs.map enc):=by kernel_rfl):NStep P o st (.lim de.size n (xs.map enc)):=by
 intro ψ S a w ht _;have r:ys=[]:=List.isEmpty_iff.1 D;subst r;have f:∃ A,a.eval X = .slice A n n/\RF S w (.slice A n n) (.lst de.size n (xs.map enc)):=by
  have hv:=Sim.eval_tmps ht X;rw [F] at hv;generalize a.eval X=u at hv;cases hv with
  | lim h=>exact ⟨_,rfl,h⟩
 obtain ⟨A,f,s⟩:=f;have j:RF S w (a.eval Y) (.lst de.size m []):=by
  have hv:=Sim.eval_tmps ht Y;rcases hy with hy | hy;rw [hy] at hv;exact hv.inv
  ·rw [hy] at hv;generalize a.eval Y=u at hv;cases hv with
   | lim h=>exact h
 have k:=(B.get E).slice hk;obtain ⟨⟨i,z,hi,x,G,H,I⟩,_⟩:=B.get q;obtain ⟨news,c,y,J,C⟩:=kz2 (P:=P) k j;have hm:m=0:=by obtain ⟨_,_,_,_,h,_⟩:=knv j;exact h
 subst hm;have g:news=[]:=qa6 (by simpa using y);subst g;rw [<- x] at c;have l:(Builtin.append_ #[t,t] o.type #[.slice A n n,a.eval Y]).run P w = .ok (.slice A n n) w:=by rcases c.kind with ⟨e',p⟩ | p <;> cases A <;> simp [Builtin.append_,run_underlying k,run_underlying p,sizeOf,typeInfo,hi,c.len,c.cells,storeCells]
 refine kaf w (.slice A n n) ?_ ⟨kai _, .lim (s.mono fun b K => .inl K)⟩;simp only [execOp,ho,resolve,invoke,builtin,Sem.run_bind,Sem.run_pure,Result.andThen_ok,List.map_toArray,qao,List.map_nil,f,l]
end
def fI (x:Int):AV := .fz (eI x)
def fB (x:Bool):AV := .fz (eB x)
end Go.Proofs.YtnlhjbnpjefjgaaGreatDoor
