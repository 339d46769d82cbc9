import Derived.Test.YtjpkdegjcilndaaGreatDoorTT
import Derived.Test.YtjpkdegjcilndaaGreatDoorEE
import Derived.Test.YtjpkdegjcilndaaGreatDoorRj
import Derived.Test.YtjpkdegjcilndaaGreatDoorRj
set_option linter.all false
set_option linter.unusedSectionVars false
namespace Go.Proofs.YtjpkdegjcilndaaGreatDoor
open Go Go.RowKit Go.Proofs.Tryz
section
variable {P:Program} {F S0:Nat->Prop} {N0:Nat} {w w':World} {S S':Nat->Prop} {ψ ψ':Env} {K:Nat->Prop} {T:List (TypeId×TD)} {o:Oper} {a:Act} {st:St} {t:TypeId} {d:TD} {id:Nat} {ids:List Nat} {heap:List (Nat×AObj)}
theorem Core.upd3 {n id2:Nat} {v:Value} {ob ob2 ob':AObj} (h:Core F S0 N0 heap ids ψ S w) (A:kaa heap id=some ob) (t:kaa heap id2=some ob2) (q:w.heap.size<=w'.heap.size) (m:∀ k,k<w.heap.size->¬ Blk (ψ.val id) k->w'.heap[k]?=w.heap[k]?)
  (hx:ψ.len id<n) (p:∀ b,Blk v b->Blk (ψ.val id) b\/Blk (ψ.val id2) b\/w.heap.size<=b) (H:ObR (ψ.set id n v) (·∈ids) S w' id ob'):
  Core F S0 N0 ((id,ob')::ka9 id2 heap) ids (ψ.set id n v) S w'/\Same S w w'/\∀ b,F b->w'.heap[b]?=w.heap[b]?:=by
 obtain ⟨B,I,r⟩:=h.obj id ob A;obtain ⟨D,E,u⟩:=h.obj id2 ob2 t;have hk:Same S w w':=fun b p hl=>m b hl fun e=>(r b e).1 p;refine ⟨⟨fun i o' c=>?_,fun i i' o' o'' b j a s g d=>?_,fun b p=>qa8 (h.lt b p) q,h.s0,qav h.n0 q,fun b p=>qa8 (h.fr b p) q⟩,hk,fun b y=>m b (h.fr b y) fun e=>(r b e).2.1 y⟩
 ·rw [kac] at c;by_cases o:id=i
  ·subst o;rw [qo rfl] at c;injection c with c;subst c;refine ⟨B,H,fun b f=>?_⟩;rw [kai] at f;rcases p b f with h1 | h1 | h1;exact r b h1;exact u b h1
   ·exact ⟨fun hs=>by have:=h.lt b hs;omega,fun y=>by have:=h.fr b y;omega, .inr (by have:=h.n0;omega)⟩
  ·rw [qi o] at c;obtain ⟨_,c⟩:=kbe id2 c;obtain ⟨h1,G,J⟩:=h.obj i o' c;have x:=ka6 ψ (Ne.symm o) n v;refine ⟨h1,G.keep (kl2 (.inl hx)) (fun _ h=>h) (fun _ h=>h) hk x fun b f=>m b (G.lt f) fun e=>h.inj i id o' ob b c A (Ne.symm o) f e,fun b f=>J b (by rw [x.2] at f;exact f)⟩
 ·have key:∀ {i' o''},id≠i'->kaa (ka9 id2 heap) i'=some o''->∀ {b},Blk v b->¬ Blk ((ψ.set id n v).val i') b:=fun {i' o''} l hl {b} g d=>by
   obtain ⟨C,hl⟩:=kbe id2 hl;rw [(ka6 ψ (Ne.symm l) n v).2] at d;rcases p b g with z | z | z;exact h.inj id i' ob o'' b A hl l z d;exact h.inj id2 i' ob2 o'' b t hl (Ne.symm C) z d
   ·have:=(h.obj i' o'' hl).2.1.lt d;omega
  rw [kac] at j a;by_cases o:id=i;subst o;rw [qi s] at a;rw [kai] at g;exact key s a g d
  ·rw [qi o] at j;by_cases l:id=i';subst l;rw [kai] at d;exact key o j d g
   ·rw [qi l] at a;obtain ⟨_,j⟩:=kbe id2 j;obtain ⟨_,a⟩:=kbe id2 a;rw [(ka6 ψ (Ne.symm o) n v).2] at g;rw [(ka6 ψ (Ne.symm l) n v).2] at d;exact h.inj i i' o' o'' b j a s g d
def slV (x:Option Addr×Nat×Nat):Value := .slice x.1 x.2.1 x.2.2
theorem kahr {rows rows':List (List Value)} (zs:List Value) (A B:Operand) {g n:Nat} (idL idR:Nat) {ov:Value} {eo ei:TypeId} (de:TD) {cap:Option Nat} (hT:TOk P T) (ho:o.op = .call { callee := .builtin .append,args:=#[A,B],argTypes:=#[t,t] }) (hd:kad T t=some d) (hk:d.kind = .slice eo) (av:kad T eo=some de) (hz:de.size=1) (aw:de.zero.length=1) (hA:st.eval A = .fz (.atom ov)) (r:kaa st.heap id=some (.tab g ov eo ei rows)) (hB:st.eval B = .bsl idL 0 0 1 cap) (hL:kaa st.heap idL=some (.xo (.blk 0 eo 1 [.row idR n]))) (M:kaa st.heap idR=some (.frow ei 1 (zs.map .atom))) (hn:n=zs.length) (Z:(rows.length+1)*(de.bytes+1)<=140737488355328) (ax:rows++[zs]=rows'):
  kgr P o st fun c h i=>∃ x,c = .fz (.atom (slV x))/\h=(id, .tab (g+1) (slV x) eo ei rows')::ka9 idR (ka9 idL st.heap)/\i=st.ids:=by
 subst hn ax;intro F S0 N0 ψ S a w hs;have l:=hs.core;have ay:=hT.get hd;have az:=hT.get av;have aa:id≠idL:=fun e=>by rw [e,hL] at r;cases r
 have ab:id≠idR:=fun e=>by rw [e,M] at r;cases r
 have N:idR≠idL:=fun e=>by rw [e,hL] at M;cases M
 obtain ⟨bl,⟨hg,vs,ac,ad,D,a0,J⟩,bm⟩:=l.obj id _ r;obtain ⟨bd,⟨ae,_,cs,m,_,af⟩,be⟩:=l.obj idR _ M;obtain ⟨bf,⟨a1,_,bL,cL,nL,capL,a2,a3,bg,bh,ag,_,ah⟩,bi⟩:=l.obj idL _ hL;rw [qaa] at ae m;obtain ⟨u,hu⟩:∃ u,u=ψ.val idR:=⟨_,rfl⟩;rw [<- hu] at m;have ai:u.oneCell'=true:=krc m;have a4:∀ z∈zs,z.oneCell'=true:=fun z a5=>by
  obtain ⟨i,hi,rfl⟩:=qai.1 a5;have a6:i<cs.length:=by rw [m.1];omega
  have:=af i (.atom zs[i]) 0 cs[i] (.atom zs[i]) (by rw [qq,qb hi];rfl) (by simp [qb a6]) rfl;have key:∀ z y,RF S w z (.atom y)->y.oneCell'=true:=fun z y h=>by cases h with | atom h=>exact h
  exact key _ _ this
 have a7:cs=zs:=by
  have hcl:cs.length=zs.length:=by rw [m.1,qbi]
  apply List.ext_getElem hcl;intro k h1 H;have:=af k (.atom zs[k]) 0 cs[k] (.atom zs[k]) (by rw [qq,qb H];rfl) (by simp [qb h1]) rfl;exact this.atom_eq
 -- the literal
 have a8:cL[0]?=some u:=by
  have h1:0<cL.size:=by have:=ag;simp at this;omega
  have:=ah 0 cL[0] (.row idR zs.length) (by simp [h1]) rfl;have H:cL[0]=u:=by
   generalize cL[0]=z at this;cases this with
   | row hK a9 h1 hv=>rw [hu];exact hv ae.symm
  simp [h1,H]
 have ba:a.eval A=ov:=by have h0:=hs.eval A;rw [hA] at h0;exact h0.atom
 have bb:RF (fun b=>b=bL) w (a.eval B) (.lst de.size 1 [.atom u]):=by
  have h0:=hs.eval B;rw [hB] at h0;generalize a.eval B=z at h0;cases h0 with
  | bsl hK a9 h1 hv=>
   obtain ⟨b,c,e1,rfl,e3,e4,_⟩:=hv a1.symm;rw [a2] at e1;injection e1 with e1;subst e1;rw [hz];refine .lst (fun _=>[u]) rfl e3 e4 (by omega) (fun i x hx=>?_) (fun i x hx=>?_) fun i x j v y hx hv hy=>?_;have hi:i=0:=(by have:=(qg.1 hx).1;simp at this;exact this);subst hi;refine ⟨bL,0,rfl,rfl,fun j v O=>?_⟩;have Q:j=0:=(by have:=(qg.1 O).1;simp at this;exact this);subst Q;simp at O;subst O;show w.cell? ⟨bL,0+0,none⟩=some u;simp [World.cell?,a3,a8];have hi:i=0:=(by have:=(qg.1 hx).1;simp at this;exact this);subst hi;simp at hx;subst hx;exact ⟨rfl,rfl,fun y hy=>by simp [FV.cells] at hy;subst hy;exact ai⟩
   ·have hi:i=0:=(by have:=(qg.1 hx).1;simp at this;exact this);subst hi;simp at hx;subst hx;have Q:j=0:=(by have:=(qg.1 hv).1;simp at this;exact this);subst Q;simp at hv;simp [FV.cells] at hy;subst hv hy;exact .atom ai
 rw [Nat.mul_add,qbi] at Z;obtain ⟨v',w',news,K,q,p,aj,ak,al,bj,bk⟩:=kaao o.type (ay.slice hk) az (by omega) (by rw [aw,hz]) (by rw [hz];exact D) bb (by simp;omega) (by simp;omega);rw [hz] at q al ak;have R:news=[u]:=by
  have h1:news.length=1:=by simpa using ak
  obtain ⟨x,rfl⟩:=List.length_eq_one_iff.1 h1;have:=al 0 (.atom u) 0 x (.atom u) rfl rfl rfl;rw [this.atom_eq]
 subst R;have E:∀ v b,v∈ov::vs->kak v=some b->Blk (ψ.val id) b:=fun v b hv f=>by rw [ac];exact .inr ⟨v,by simpa [kfi] using hv,f⟩
 have U:∀ b,kak u=some b->Blk (ψ.val idR) b:=fun b f => .of (hu ▸ f);have bc:v'.oneCell'=true:=krc q;have V:∀ b,kak v'=some b->kak ov=some b\/b=w.heap.size:=fun b f=>by
  rw [kuo q] at f;rcases aj with e | e;left;rw [kuo D,<- e,f]
  ·right;rw [f] at e;exact qw e
 have s:∀ k,k<w.heap.size->kak ov≠some k->w'.heap[k]?=w.heap[k]?:=fun k hk X=>p.block k hk fun e=>X (by rw [kuo D];exact e.symm);have am:∀ v b,v∈ov::vs->kak v=some b->b<w.heap.size:=fun v b hv f=>(l.obj id _ r).2.1.lt (E v b hv f);have L:∀ b,kak u=some b->b<w.heap.size:=fun b f=>(l.obj idR _ M).2.1.lt (U b f);have I:∀ v b,v∈ov::vs->kak v=some b->kak u≠some b:=fun v b hv f C=>l.inj id idR _ _ b r M ab (E v b hv f) (U b C);have an:∀ v b,v∈vs->kak v=some b->kak ov≠some b:=fun v b hv f C=>by obtain ⟨i,hi,rfl⟩:=qai.1 hv;exact J 0 (i+1) ov vs[i] b rfl (by rw [qag];exact qb hi) (by omega) C f
 have ao:∀ v b,v∈vs++[u]->kak v=some b->kak v'≠some b:=fun v b hv f aq=>by
  rcases qau.1 hv with hv | hv
  ·rcases V b aq with e | e;exact an v b hv f e
   ·have:=am v b (qh _ hv) f;omega
  ·obtain rfl:=qa2.1 hv;rcases V b aq with e | e;exact I ov b (qu ..) e f
   ·have:=L b f;omega
 have c0:=kxf l hL;have k1:kaa (ka9 idL st.heap) id=some (.tab g ov eo ei rows):=koh aa r;have k2:kaa (ka9 idL st.heap) idR=some (.frow ei 1 (zs.map .atom)):=koh N M;obtain ⟨c1,c2,c3⟩:=c0.upd3 (n:=g+1) (v := .tuple (v'::(vs++[u])).toArray) (w':=w') (ob' := .tab (g+1) v' eo ei (rows++[zs])) k1 k2 p.size (fun k hk X=>s k hk fun e=>X (E ov k (qu ..) e)) (by omega) (fun b f=>by
   rcases f with f | ⟨v,hv,f⟩;cases f
   ·simp only [kfi] at hv;rcases qac.1 hv with rfl | hv
    ·rcases V b f with e | e;exact .inl (E ov b (qu ..) e)
     ·exact .inr (.inr (by omega))
    ·rcases qau.1 hv with hv | hv;exact .inl (E v b (qh _ hv) f)
     ·obtain rfl:=qa2.1 hv;exact .inr (.inl (U b f))) (by
  refine ⟨kbf _ _,vs++[u],kai _ _,by simp [ad],by simpa using q,fun j v xs hv hx=>?_,fun i j v1 v2 b h1 H ar G=>?_⟩
  ·by_cases O:j<vs.length;rw [qad O] at hv;rw [qad (by omega)] at hx;obtain ⟨q1,q2⟩:=a0 j v xs hv hx;refine ⟨kgn q1 fun b f=>?_,q2⟩;have f:=kha f;have au:=qn hv;exact s b (am v b (qh _ au) f) (an v b au f)
   ·have Y:j=vs.length:=(by have:=(qg.1 hv).1;simp at this;omega);subst Y;rw [qae (qx _),qbs] at hv;rw [qae (by omega),ad,qbs] at hx;cases hv;cases hx;rw [a7] at m;refine ⟨kgn m fun b f=>?_,a4⟩;have f:=kha f;exact s b (L b f) fun e=>I ov b (qu ..) e f
  ·cases i with
   | zero=>cases j with
    | zero=>exact absurd rfl ar
    | succ j=>
     rw [qag] at H;cases h1;exact fun C=>ao v2 b (qn H) C G
   | succ i=>
    rw [qag] at h1;cases j with
    | zero=>cases H;exact ao v1 b (qn h1) G
    | succ j=>
     rw [qag] at H;have sp:∀ (k:Nat) (v:Value),(vs++[u])[k]?=some v->(vs[k]?=some v)\/(k=vs.length/\v=u):=fun k v hk=>by
      by_cases O:k<vs.length;rw [qad O] at hk;exact .inl hk
      ·have Y:k=vs.length:=(by have:=(qg.1 hk).1;simp at this;omega);subst Y;rw [qae (qx _),qbs] at hk;cases hk;exact .inr ⟨rfl,rfl⟩
     rcases sp i v1 h1 with q1 | ⟨e1,q1⟩ <;> rcases sp j v2 H with q2 | ⟨e2,q2⟩;exact J (i+1) (j+1) v1 v2 b (by rw [qag];exact q1) (by rw [qag];exact q2) ar G;exact q2 ▸ I v1 b (qh _ (qn q1)) G;exact fun C=>I v2 b (qh _ (qn q2)) C (q1 ▸ G)
     ·omega)
 obtain ⟨x,hx⟩:∃ x,v'=slV x:=by
  rcases q.2 with ⟨h,_⟩ | ⟨g0,c0,cu0,h,_⟩;exact ⟨(none,0,0),h⟩
  ·exact ⟨(_,_,_),h⟩
 refine kae w' v' ?_ ⟨_,_,_,⟨x,by rw [hx],by rw [hx],rfl⟩,_,_,c1, .fz (.atom bc),⟨p.os,p.tape,p.output,p.size,c3,fun _=>ksi K⟩,kl2 (.inl (by omega)),fun _ h=>h,fun b f => .inl f,fun b f hl=>c2 b (.inl f) hl⟩;simp only [execOp,ho,resolve,invoke,builtin,Sem.run_bind,Sem.run_pure,Result.andThen_ok,List.map_toArray,qa0,List.map_nil,ba,K]
theorem kaep (id:Nat) (eo ei:TypeId) (c:st.ids.contains id=false):LeSt st { st with heap:=(id, .tab 0 (.slice none 0 0) eo ei [])::st.heap,ids:=id::st.ids }:=by
 have c:id∉st.ids:=by simpa using c
 intro F S0 N0 ψ S a w hs;have hadd:=hs.core.addB (n:=0) (v := .tuple #[.slice none 0 0]) (w':=w) (ob := .tab 0 (.slice none 0 0) eo ei []) (kaf _) c (fun b d=>by
  rcases d with d | ⟨u,e,d⟩;cases d
  ·obtain rfl:=qa2.1 (show u∈[Value.slice none 0 0] from e);cases d) ⟨kbf _ _,[],kai _ _,rfl,⟨by simp, .inl ⟨rfl,rfl⟩⟩,(fun j v xs hv=>by simp at hv),fun i j u v b e hv f g=>by
  have h1:=(qg.1 e).1;have l:=(qg.1 hv).1;simp at h1 l;omega⟩
 exact ⟨ψ.set id 0 (.tuple #[.slice none 0 0]),S,hs.defers,hs.size,fun k=>(hs.tmps k).keep (ka8 c _ _) (fun _ h=>qh _ h) (fun _ h=>h) (fun _ _ _=>rfl),hadd⟩
theorem kajj (t:Nat) {id g:Nat} (xs:List FV) {ov:Value} {eo ei:TypeId} {rows:List (List Value)} {c:FV} (hx:st.get t = .fz (.agg (xs++[.atom ov]))) (f:kaa st.heap id=some (.tab g ov eo ei rows)) (hn:NStep P o { st with tmps:=(t, .fz (.agg (xs++[tabF rows])))::st.tmps } (.fz c)) (hc:kaa7 c=true):NStep P o st (.fz c):=by
 intro ψ S a w ht m
 let SB:Nat->Prop:=fun b=>S b\/∃ id ob,kaa st.heap id=some ob/\Blk (ψ.val id) b
 have j:∀ b,(S b\/Blk (ψ.val id) b)->SB b:=fun b e=>e.imp _root_.id fun e=>⟨id,_,f,e⟩;refine kls ?_ (hn ψ SB a w (fun k=>?_) fun id ob n=>?_)
 ·rintro v w' ⟨p,hv⟩;refine ⟨p, .fz ?_⟩;have hv:=hv.inv;cases c with
  | atom u=>cases hv with | atom h=>exact .atom h
  | tup vs=>
   cases hv with
   | tup h hr=>
    refine .tup h fun i v x hv hx=>?_;have d:=qr.1 hc x (qn hx);have:=hr i v x hv hx;cases x with
    | atom u=>cases this with | atom h=>exact .atom h
    | _=>cases d
  | _=>cases hc
 ·show RV ψ (·∈st.ids) SB w _ (look .any ((t,AV.fz (.agg (xs++[tabF rows])))::st.tmps) k);rw [kat];split
  ·rename_i q;subst q;have hv:=ht t;rw [hx] at hv;refine .fz ?_;have hv:=hv.inv;generalize a.tmps.getD t undef=z at hv;cases hv with
   | @agg cs _ h h1 hr=>
    simp only [qah,qaz] at h;refine .agg (by simpa using h) (fun x d=>?_) fun i v x hv d=>?_
    ·rcases qau.1 d with hm | hm;exact h1 x (qau.2 (.inl hm))
     ·obtain rfl:=qa2.1 hm;rfl
    ·by_cases hi:i<xs.length;rw [qad hi] at d;exact (hr i v x hv (by rw [qad hi,d])).mono fun b e => .inl e
     ·have l:i=xs.length:=(by have:=(qg.1 d).1;simp at this;omega);subst l;rw [qae (qx _),qbs] at d;cases d;have:=(hr xs.length v (.atom ov) hv (by rw [qae (qx _),qbs];rfl)).atom_eq;rw [this];exact (kv2 (m id _ f)).mono j
  ·exact (ht k).mono (fun _ h=>h) fun b e => .inl e
 ·exact (m id ob n).keep Ext.refl (fun _ h=>h) (fun b e => .inl e) (fun _ _ _=>rfl) ⟨rfl,rfl⟩ fun _ _=>rfl
theorem k5k (id2 id g j:Nat) (ov:Value) (eo ei e2:TypeId) (rows:List (List Value)) (cells:List AV) (y:FV) (d:kaa st.heap id2=some (.box e2 cells)) (hx:cells[j]?=some (.fz (.atom ov))) (l:kaa st.heap id=some (.tab g ov eo ei rows)) (hy:y=tabF rows):
  LeSt st { st with heap:=(id2, .box e2 (cells.set j (.fz y)))::ka9 id st.heap }:=by
 subst hy;intro F S0 N0 ψ S a w hs;have c1:=kxf hs.core l;have c2:=kv2 (hs.core.obj id _ l).2.1;have p:id2≠id:=fun h=>by rw [h,l] at d;cases d
 have n:kaa (ka9 id st.heap) id2=some (.box e2 cells):=koh p d;obtain ⟨k1,⟨k0,b,cs,k2,k3,k4,k5,k6⟩,k7⟩:=c1.obj id2 _ n;refine ⟨ψ,_,hs.defers,hs.size,fun k=>(hs.tmps k).mono (fun _ h=>h) fun _ h => .inl h,⟨fun i o e=>?_,fun i i' o o' b e q m t=>?_,c1.lt,c1.s0,c1.n0,c1.fr⟩⟩
 ·rw [kac] at e;by_cases hi:id2=i
  ·subst hi;rw [qo rfl] at e;injection e with e;subst e;refine ⟨k1,⟨k0,b,cs,k2,k3,by simpa using k4,fun x hx=>?_,fun i v x hv c=>?_⟩,k7⟩
   ·rcases List.mem_or_eq_of_mem_set hx with hx | rfl;exact k5 x hx
    ·rfl
   ·rw [List.getElem?_set] at c;split at c
    ·rename_i r;subst r;split at c;injection c with c;subst c;have s:=k6 j v _ hv hx;refine .fz ?_;rw [s.atom];exact c2
     ·cases c
    ·exact k6 i v x hv c
  ·rw [qi hi] at e;exact c1.obj i o e
 ·have f:∀ {i:Nat} {o:AObj},kaa ((id2,AObj.box e2 (cells.set j (.fz (tabF rows))))::ka9 id st.heap) i=some o->∃ o',kaa (ka9 id st.heap) i=some o':=fun {i o} h=>by
   rw [kac] at h;by_cases hi:id2=i;subst hi;exact ⟨_,n⟩
   ·rw [qi hi] at h;exact ⟨_,h⟩
  obtain ⟨o1,h1⟩:=f e;obtain ⟨o2,n⟩:=f q;exact c1.inj i i' o1 o2 b h1 n m t
theorem sstV [Rd] {P:Program} [t:Tab P] {g:Cfg} {Q:Exit->St->Prop} (k:Nat) (F:Option Addr×Nat×Nat->List (Nat×AObj)->List (Nat×AObj)) (hn:kgr P (klx (crun P k g)) (stOf (crun P k g)) fun c h i=>∃ x,c = .fz (.atom (slV x))/\h=F x (stOf (crun P k g)).heap/\i=(stOf (crun P k g)).ids) (hv:okP (crun P k g)=true)
  (a:∀ x,W P (rsmA (.fz (.atom (slV x))) (F x (stOf (crun P k g)).heap) (stOf (crun P k g)).ids (crun P k g)) Q):W P g Q:=sstD k hn hv fun c h i hr=>by
 obtain ⟨ov,rfl,rfl,rfl⟩:=hr;exact a ov
end
def openRow:List Bool:=List.replicate 25 false
theorem kamd:mkL 1 false 25=some openRow:=by unfold mkL;rw [qo (by decide)];rfl
theorem kalf {o:Oper} {st:St} (b:o.op = .makeSlice 194 (.const (.int .i64 25)) (.const (.int .i64 25))) (a:st.ids.contains 5=false):StepA prog o st (.row 5 openRow.length) ((5, .frow 4 1 (openRow.map eB))::st.heap) (5::st.ids):=
 kw0 _ tt194 _ eB (.const (.int .i64 25)) (.const (.int .i64 25)) _ tt4 .i64 .i64 (.bool false) kamd (by kernel_rfl) (by kernel_rfl) (by kernel_rfl) (by kernel_rfl) (by kernel_rfl) (N:=b) (hx:=(by kernel_rfl)) (hy:=(by kernel_rfl)) (f:=a)
theorem kama {o:Oper} {st:St} (b:o.op = .buildSlice 153 1 #[(0, .tmp 16)]) (hx:st.get 16 = .row 5 openRow.length) (a:st.ids.contains 6=false):StepA prog o st (.bsl 6 0 0 1 (some 1)) ((6, .xo (.blk 0 194 1 [.row 5 openRow.length]))::st.heap) (6::st.ids):=
 kaer (de:=tt194) (d:=k58) #[(0, .tmp 16)] b (tt_ok.get (by kernel_rfl)) (by kernel_rfl) (tt_ok.get (by kernel_rfl)) (by decide) rfl (by decide) (by simp [kdf,St.eval,hx];kernel_rfl) a
theorem kal3 {o:Oper} {st:St} (g:Nat) (ov:Value) (rows rows':List (List Bool)) (h:app 24 rows [openRow]=some rows') (b:o.op = .call { callee := .builtin .append,args:=#[.tmp 15, .tmp 17],argTypes:=#[153,153] }) (hA:st.get 15 = .fz (.atom ov)) (a:kaa st.heap 4=some (.tab g ov 194 4 (rows.map (List.map vB)))) (e:st.get 17 = .bsl 6 0 0 1 (some 1)) (f:kaa st.heap 6=some (.xo (.blk 0 194 1 [.row 5 openRow.length]))) (j:kaa st.heap 5=some (.frow 4 1 (openRow.map eB))):
  kgr prog o st fun c h i=>∃ x,c = .fz (.atom (slV x))/\h=(4, .tab (g+1) (slV x) 194 4 (rows'.map (List.map vB)))::ka9 5 (ka9 6 st.heap)/\i=st.ids:=by
 unfold app at h;split at h;rename_i k;injection h with h;subst h;exact kahr (d:=k58) (id:=4) (openRow.map vB) (.tmp 15) (.tmp 17) 6 5 tt194 tt_ok b (by kernel_rfl) (by kernel_rfl) (by kernel_rfl) (by kernel_rfl) (by kernel_rfl) hA a e f j (by kernel_rfl) (by simpa [show tt194.bytes=24 from by kernel_rfl] using k) (by simp)
 ·cases h
def kt8 (a0:La) (v:Int×List (List Bool)):Option ((Int×List (List Bool)) ⊕ List (List Bool)):=
 bif decide (v.1<(List.length a0.symbols:Int)) then Option.bind (app 24 v.2 [openRow]) fun v1=>some (.inl (w64 (v.1+1),v1)) else some (.inr v.2)
def kui (a0:La) (sz:Int) (v:Int×List (List Bool)):Option ((Int×List (List Bool)) ⊕ List (List Bool)):=
 bif decide (v.1<(List.length a0.rules:Int)) then Option.bind (idx a0.rules v.1) fun v1=>Option.bind (kbo ⟨a0,v.2⟩ v.1) fun v2=>Option.bind (kci ⟨a0,v.2⟩ v2 (w64 (sz - 1))) fun v3=>
  Option.bind (bif v3 then Option.bind (idx v.2 v1.symbol) fun v4=>Option.bind (idx v4 sz) fun _=>some (v.2.set v1.symbol.toNat (v4.set sz.toNat true)) else some v.2) fun v5=>some (.inl (w64 (v.1+1),v5)) else some (.inr v.2)
def kyo (a0:La) (v:Int×List (List Bool)):Option ((Int×List (List Bool)) ⊕ List (List Bool)):=
 bif decide (v.1<=24) then Option.bind (kab (kui a0 v.1) fuel (0,v.2)) fun v1=>some (.inl (w64 (v.1+1),v1)) else some (.inr v.2)
def kkc (a0:La):Option kah:=
 Option.bind (kab (kt8 a0) fuel (0,[])) fun v1=>Option.bind (kab (kyo a0) fuel (1,v1)) fun v2=>some ⟨a0,v2⟩
def opC (a0:La):List AV:=[fS a0.name, .fz ((eL 1 eI) a0.inputs), .fz ((eL 2 eSy) a0.symbols), .fz ((eL 9 eRu) a0.rules)]
def opZ:List AV:=[fS ⟨#[]⟩, .fz (.atom (.slice none 0 0)), .fz (.atom (.slice none 0 0)), .fz (.atom (.slice none 0 0)), .fz (.atom (.slice none 0 0))]
def opS (a0:La) (t:List (Nat×AV)) (gg:Nat×Option Addr×Nat×Nat) (rows:List (List Bool)):St:=
 ⟨50,t++[(1, .ref 1 0 0),(2, .ref 2 0 0),(3, .ref 3 0 0)],[(4, .tab gg.1 (slV gg.2) 194 4 (rows.map (List.map vB))),(3, .box 155 (opC a0++[.fz (.atom (slV gg.2))])),(2, .box 155 opZ),(1, .box 26 (opC a0))],[4,3,2,1],[]⟩
theorem kafp (a0:La) (x:Option Addr×Nat×Nat) (hs:List (List Bool)) (a1:Int) (r:List Int) (h:kbo ⟨a0,hs⟩ a1=some r):PCall prog 159 [.agg [eS a0.name,(eL 1 eI) a0.inputs,(eL 2 eSy) a0.symbols,(eL 9 eRu) a0.rules, .atom (slV x)],eI a1] ((eL 1 eI) (r)):=by unfold kbo at h;refine pcl [.one (.sl 1)] func159 (by kernel_rfl) (by kernel_rfl) (by kernel_rfl) ?_;refine ix nRu 12 h fun v1 h=>?_;refine cd 10 h (fun h=>?_) fun h=>?_;cases h;exact lq 7 (by kernel_rfl);cases h;exact lq 6 (by kernel_rfl)
theorem kajl {o:Oper} {st:St} (a0:La) (x:Option Addr×Nat×Nat) (rows:List (List Bool)) (i:Int) (r:List Int) (h:kbo ⟨a0,rows⟩ i=some r) (c:o.op = .call { callee := .value (.func 159),args:=#[.tmp 34, .tmp 35],argTypes:=#[155,3] }) (a:st.get 34 = .fz (.agg [eS a0.name,(eL 1 eI) a0.inputs,(eL 2 eSy) a0.symbols,(eL 9 eRu) a0.rules, .atom (slV x)])) (b:st.get 35=fI i):NStep prog o st (.fz ((eL 1 eI) r)):=by
 refine k2u [.one .keep, .one .keep] c ?_ (kafp a0 x rows i r h);have e34:look .any st.tmps 34 = .fz (.agg [eS a0.name,(eL 1 eI) a0.inputs,(eL 2 eSy) a0.symbols,(eL 9 eRu) a0.rules, .atom (slV x)]):=a;have e35:look .any st.tmps 35=fI i:=b;simp [kpk,k5y,St.eval,St.get,e34,e35];rfl
theorem op_tA {o:Oper} {st:St} (g:Nat) (x:Option Addr×Nat×Nat) (rows:List (List Bool)) (row:List Bool) (i:Int) (h:idx rows i=some row) (b:o.op = .indexAddr 153 (.tmp 41) (.tmp 43)) (hx:st.get 41 = .fz (.atom (slV x))) (a:kaa st.heap 4=some (.tab g (slV x) 194 4 (rows.map (List.map vB)))) (hK:st.ids.contains 4=true) (hy:st.get 43=fI i):NStep prog o st (.iref 4 g 0 i.toNat):=
 ksr k58 _ vB _ _ _ (.tmp 41) (.tmp 43) _ tt194 .i64 _ _ _ h (x:=b) (hd:=(by kernel_rfl)) (hk:=(by kernel_rfl)) (l:=(by kernel_rfl)) (y:=(by kernel_rfl)) (hx:=hx) (q:=a) (hK:=hK) (hy:=hy)
theorem op_tL {o:Oper} {st:St} (g:Nat) (x:Option Addr×Nat×Nat) (rows:List (List Bool)) (row:List Bool) (i:Int) (h:idx rows i=some row) (b:o.op = .load 194 (.tmp 44)) (hx:st.get 44 = .iref 4 g 0 i.toNat) (a:kaa st.heap 4=some (.tab g (slV x) 194 4 (rows.map (List.map vB)))) (hK:st.ids.contains 4=true):NStep prog o st (.irow 4 g (i.toNat+1)):=
 kxh tt194 vB _ _ _ (.tmp 44) _ _ _ h (z:=b) (hd:=(by kernel_rfl)) (hk:=(by kernel_rfl)) (hx:=hx) (n:=a) (hK:=hK)
theorem op_iA {o:Oper} {st:St} (g:Nat) (x:Option Addr×Nat×Nat) (rows:List (List Bool)) (row:List Bool) (i j:Int) (b:Bool) (h:idx rows i=some row) (c:idx row j=some b) (e:o.op = .indexAddr 194 (.tmp 45) (.tmp 46)) (hx:st.get 45 = .irow 4 g (i.toNat+1)) (a:kaa st.heap 4=some (.tab g (slV x) 194 4 (rows.map (List.map vB)))) (hK:st.ids.contains 4=true) (hy:st.get 46=fI j):NStep prog o st (.iref 4 g (i.toNat+1) j.toNat):=
 kwn tt194 vB _ _ _ _ _ (.tmp 45) (.tmp 46) _ tt4 .i64 _ _ _ h c (B:=e) (hd:=(by kernel_rfl)) (hk:=(by kernel_rfl)) (c:=(by kernel_rfl)) (C:=(by kernel_rfl)) (hx:=hx) (y:=a) (hK:=hK) (hy:=hy)
theorem op_iS {o:Oper} {st:St} (g:Nat) (x:Option Addr×Nat×Nat) (rows:List (List Bool)) (row:List Bool) (i j:Int) (b:Bool) (h:idx rows i=some row) (c:idx row j=some b) (e:o.op = .store 4 (.tmp 47) (.const (.bool true))) (hx:st.get 47 = .iref 4 g (i.toNat+1) j.toNat) (a:kaa st.heap 4=some (.tab g (slV x) 194 4 (rows.map (List.map vB)))):StepA prog o st .any ((4, .tab g (slV x) 194 4 ((rows.set i.toNat (row.set j.toNat true)).map (List.map vB)))::st.heap) st.ids:=
 k2k (d:=tt4) vB _ _ true (.tmp 47) (.const (.bool true)) h c tt_ok (ho:=e) (hd:=(by kernel_rfl)) (hz:=(by kernel_rfl)) (hx:=hx) (I:=a) (hy:=(by kernel_rfl))
theorem kagb {o:Oper} {st:St} (a0:La) (g:Nat) (x:Option Addr×Nat×Nat) (rows:List (List Bool)) (al:List Int) (sz:Int) (b:Bool) (h:kci ⟨a0,rows⟩ al sz=some b) (i:o.op = .call { callee := .value (.func 158),args:=#[.tmp 33, .tmp 36, .tmp 38],argTypes:=#[155,22,3] }) (a:st.get 33 = .fz (.agg [eS a0.name,(eL 1 eI) a0.inputs,(eL 2 eSy) a0.symbols,(eL 9 eRu) a0.rules, .atom (slV x)])) (c:st.get 36 = .fz ((eL 1 eI) al)) (d:st.get 38=fI sz) (e:kaa st.heap 4=some (.tab g (slV x) 194 4 (rows.map (List.map vB)))):NStep prog o st (.fz (eB b)):=by
 have ht:tabF (rows.map (List.map vB))=(eL 1 (eL 1 eB)) rows:=(kve (enc:=eB) (f:=vB) rows).symm;refine kajj 33 [eS a0.name,(eL 1 eI) a0.inputs,(eL 2 eSy) a0.symbols,(eL 9 eRu) a0.rules] a e (k2u [.one .keep, .one .keep, .one .keep] i ?_ (kh8 ⟨a0,rows⟩ al sz b h)) rfl;rw [ht];have e36:look .any st.tmps 36 = .fz ((eL 1 eI) al):=c;have e38:look .any st.tmps 38=fI sz:=d;simp [kpk,k5y,St.eval,St.get,kat,e36,e38];rfl
theorem kza (a0:La) (r:kah) (h:kkc a0=some r):PCall prog 120 [eLa a0] (kb4 r):=by
 unfold kkc at h;refine pcl [.ag [.keep, .keep, .keep, .keep, .keep]] func120 (by kernel_rfl) (by kernel_rfl) (by kernel_rfl) ?_;refine wle 12 (kaep 4 194 4 (by kernel_rfl)) ?_;refine lpD 9 (fun v gg=>opS a0 [(11,fI (List.length a0.symbols:Int)),(12,fI v.1)] gg v.2) (.exit 0) (fun v1 gg=>opS a0 [] gg v1) (0,none,0,0) h (le_a (by kernel_rfl)) (fun v gg r h=>?_) fun v1 gg h=>?_
 ·unfold kt8 at h;refine cd 5 h (fun h=>?_) fun h=>?_
  ·obtain ⟨v2,c,h⟩:=ql.1 h;refine dz 3 4 [2,3] [5,6] (List.range 7) ?_;refine zst 2 (kalf ?_ ?_) ?_ ?_ ?_ ?_
   iterate 5 kernel_rfl
   refine zst 0 (kama ?_ ?_ ?_) ?_ ?_ ?_ ?_
   iterate 6 kernel_rfl
   refine sstV 1 (fun x hp=>(4, .tab (gg.1+1) (slV x) 194 4 (v2.map (List.map vB)))::ka9 5 (ka9 6 hp)) (kal3 gg.1 (slV gg.2) v.2 v2 ?_ ?_ ?_ ?_ ?_ ?_ ?_) ?_ ?_;exact c
   iterate 7 kernel_rfl
   intro x;obtain rfl:=qw h;exact ljD 7 (gg.1+1,x) (le_a (by kernel_rfl))
  ·obtain rfl:=qw h;exact loD 1 gg (le_a (by kernel_rfl))
 refine lpD 6 (fun v gg=>opS a0 [(4,fI v.1)] gg v.2) (.exit 2) (fun v2 gg=>opS a0 [] gg v2) gg h (le_a (by kernel_rfl)) (fun v gg r h=>?_) fun v2 gg h=>?_
 ·unfold kyo at h;refine cd 6 h (fun h=>?_) fun h=>?_
  ·refine lpD 11 (fun x gg=>opS a0 [(4,fI v.1),(26, .fz ((eL 9 eRu) a0.rules)),(27,fI (List.length a0.rules:Int)),(28,fI x.1)] gg x.2) (.exit 4) (fun v3 gg=>opS a0 [(4,fI v.1)] gg v3) gg h (le_a (by kernel_rfl)) (fun x gg r h=>?_) fun v3 gg h=>?_
   ·unfold kui at h;refine cd 5 h (fun h=>?_) fun h=>?_
    ·refine ix nRu 6 h fun v1 h=>?_;refine dw 6 7 (by kernel_rfl) ?_;obtain ⟨v2,c,h⟩:=ql.1 h;refine nst 3 (kajl a0 gg.2 x.2 x.1 v2 ?_ ?_ ?_ ?_) ?_ ?_;exact c
     iterate 4 kernel_rfl
     obtain ⟨v3,e,h⟩:=ql.1 h;refine nst 2 (kagb a0 gg.1 gg.2 x.2 v2 (w64 (v.1 - 1)) v3 ?_ ?_ ?_ ?_ ?_ ?_) ?_ ?_;exact e
     iterate 6 kernel_rfl
     refine jn1 2 .normal (fun v5=>opS a0 [(4,fI v.1),(26, .fz ((eL 9 eRu) a0.rules)),(27,fI (List.length a0.rules:Int)),(28,fI x.1)] gg v5) h (fun v5 h=>?_) fun v5 h=>?_
     ·refine cd 0 h (fun h=>?_) fun h=>?_
      ·obtain ⟨v6,a,h⟩:=ql.1 h;obtain ⟨v7,d,h⟩:=ql.1 h;apply nst 5 (op_tA gg.1 gg.2 x.2 v6 v1.symbol ?_ ?_ ?_ ?_ ?_ ?_)
       any_goals (first | with_reducible exact a | kernel_rfl)
       apply nst 0 (op_tL gg.1 gg.2 x.2 v6 v1.symbol ?_ ?_ ?_ ?_ ?_)
       any_goals (first | with_reducible exact a | kernel_rfl)
       apply nst 1 (op_iA gg.1 gg.2 x.2 v6 v1.symbol v.1 v7 ?_ ?_ ?_ ?_ ?_ ?_ ?_)
       any_goals (first | with_reducible exact a | with_reducible exact d | kernel_rfl)
       apply sst 0 (op_iS gg.1 gg.2 x.2 v6 v1.symbol v.1 v7 ?_ ?_ ?_ ?_ ?_)
       any_goals (first | with_reducible exact a | with_reducible exact d | kernel_rfl)
       obtain rfl:=qw h;exact lj 1 (by kernel_rfl)
      ·obtain rfl:=qw h;exact lj 1 (by kernel_rfl)
     obtain rfl:=qw h;exact ljD 4 gg (le_a (by kernel_rfl))
    ·obtain rfl:=qw h;exact loD 1 gg (le_a (by kernel_rfl))
   obtain rfl:=qw h;exact ljD 5 gg (le_a (by kernel_rfl))
  ·obtain rfl:=qw h;exact loD 1 gg (le_a (by kernel_rfl))
 obtain rfl:=qw h;refine wle 0 (k5k 3 4 gg.1 4 (slV gg.2) 194 4 155 (v2.map (List.map vB)) (opC a0++[.fz (.atom (slV gg.2))]) ((eL 1 (eL 1 eB)) v2) ?_ ?_ ?_ ?_) ?_
 ·kernel_rfl
 ·kernel_rfl
 ·kernel_rfl
 exact kve v2;exact lq 6 (by kernel_rfl)
set_option linter.unusedVariables false
def kk6 (a0:La) (a1 a2:Int):Option (List Tm×Int):=Option.bind (kkc a0) fun x=>kr0 x a0 a1 a2
theorem kxc (a0:La) (a1 a2:Int) (r:List Tm×Int) (h:kk6 a0 a1 a2=some r):PCall prog 75 [eLa a0,eI a1,eI a2] (.tup [(eL 2 eTmR) (r.1),eI (r.2)]):=by obtain ⟨x,hx,h⟩:=ql.1 h;exact k1p (kza a0 x hx) h
end Go.Proofs.YtjpkdegjcilndaaGreatDoor
