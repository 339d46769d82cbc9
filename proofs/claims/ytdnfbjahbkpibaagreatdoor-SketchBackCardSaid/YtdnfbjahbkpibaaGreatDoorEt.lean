import Derived.Test.YtdnfbjahbkpibaaGreatDoorTT
import Derived.Test.YtdnfbjahbkpibaaGreatDoorEE
import Derived.Test.YtdnfbjahbkpibaaGreatDoorRj
import Derived.Test.YtdnfbjahbkpibaaGreatDoorRj
set_option linter.all false
set_option linter.unusedSectionVars false
namespace Go.Proofs.YtdnfbjahbkpibaaGreatDoor
open Go Go.RowKit Go.Proofs.Tryz
section
variable {P:Program} {F S0:Nat->Prop} {N0:Nat} {w w':World} {S S':Nat->Prop} {ψ ψ':Env} {K:Nat->Prop} {T:List (TypeId×TD)} {o:Oper} {a:Act} {st:St} {t:TypeId} {d:TD} {id:Nat} {ids:List Nat} {heap:List (Nat×AObj)}
theorem Core.upd3 {n id2:Nat} {v:Value} {ob ob2 ob':AObj} (h:Core F S0 N0 heap ids ψ S w) (A:kaa heap id=some ob) (t:kaa heap id2=some ob2) (q:w.heap.size<=w'.heap.size) (m:∀ k,k<w.heap.size->¬ Blk (ψ.val id) k->w'.heap[k]?=w.heap[k]?)
  (hx:ψ.len id<n) (p:∀ b,Blk v b->Blk (ψ.val id) b\/Blk (ψ.val id2) b\/w.heap.size<=b) (H:ObR (ψ.set id n v) (·∈ids) S w' id ob'):
  Core F S0 N0 ((id,ob')::ka6 id2 heap) ids (ψ.set id n v) S w'/\Same S w w'/\∀ b,F b->w'.heap[b]?=w.heap[b]?:=by
 obtain ⟨B,I,r⟩:=h.obj id ob A;obtain ⟨D,E,u⟩:=h.obj id2 ob2 t;have hk:Same S w w':=fun b p hl=>m b hl fun e=>(r b e).1 p;refine ⟨⟨fun i o' c=>?_,fun i i' o' o'' b j a s g d=>?_,fun b p=>qbh (h.lt b p) q,h.s0,qay h.n0 q,fun b p=>qbh (h.fr b p) q⟩,hk,fun b y=>m b (h.fr b y) fun e=>(r b e).2.1 y⟩
 ·rw [kac] at c;by_cases o:id=i
  ·subst o;rw [qo rfl] at c;injection c with c;subst c;refine ⟨B,H,fun b f=>?_⟩;rw [kaj] at f;rcases p b f with h1 | h1 | h1;exact r b h1;exact u b h1
   ·exact ⟨fun hs=>by have:=h.lt b hs;omega,fun y=>by have:=h.fr b y;omega, .inr (by have:=h.n0;omega)⟩
  ·rw [qi o] at c;obtain ⟨_,c⟩:=kbu id2 c;obtain ⟨h1,G,J⟩:=h.obj i o' c;have x:=kb7 ψ (Ne.symm o) n v;refine ⟨h1,G.keep (kn4 (.inl hx)) (fun _ h=>h) (fun _ h=>h) hk x fun b f=>m b (G.lt f) fun e=>h.inj i id o' ob b c A (Ne.symm o) f e,fun b f=>J b (by rw [x.2] at f;exact f)⟩
 ·have key:∀ {i' o''},id≠i'->kaa (ka6 id2 heap) i'=some o''->∀ {b},Blk v b->¬ Blk ((ψ.set id n v).val i') b:=fun {i' o''} l hl {b} g d=>by
   obtain ⟨C,hl⟩:=kbu id2 hl;rw [(kb7 ψ (Ne.symm l) n v).2] at d;rcases p b g with z | z | z;exact h.inj id i' ob o'' b A hl l z d;exact h.inj id2 i' ob2 o'' b t hl (Ne.symm C) z d
   ·have:=(h.obj i' o'' hl).2.1.lt d;omega
  rw [kac] at j a;by_cases o:id=i;subst o;rw [qi s] at a;rw [kaj] at g;exact key s a g d
  ·rw [qi o] at j;by_cases l:id=i';subst l;rw [kaj] at d;exact key o j d g
   ·rw [qi l] at a;obtain ⟨_,j⟩:=kbu id2 j;obtain ⟨_,a⟩:=kbu id2 a;rw [(kb7 ψ (Ne.symm o) n v).2] at g;rw [(kb7 ψ (Ne.symm l) n v).2] at d;exact h.inj i i' o' o'' b j a s g d
def slV (x:Option Addr×Nat×Nat):Value := .slice x.1 x.2.1 x.2.2
theorem kafk {rows rows':List (List Value)} (zs:List Value) (A B:Operand) {g n:Nat} (idL idR:Nat) {ov:Value} {eo ei:TypeId} (de:TD) {cap:Option Nat} (hT:TOk P T) (ho:o.op = .call { callee := .builtin .append,args:=#[A,B],argTypes:=#[t,t] }) (hd:kad T t=some d) (hk:d.kind = .slice eo) (av:kad T eo=some de) (hz:de.size=1) (aw:de.zero.length=1) (hA:st.eval A = .fz (.atom ov)) (r:kaa st.heap id=some (.tab g ov eo ei rows)) (hB:st.eval B = .bsl idL 0 0 1 cap) (hL:kaa st.heap idL=some (.xo (.blk 0 eo 1 [.row idR n]))) (M:kaa st.heap idR=some (.frow ei 1 (zs.map .atom))) (hn:n=zs.length) (Z:(rows.length+1)*(de.bytes+1)<=140737488355328) (ax:rows++[zs]=rows'):
  kfw P o st fun c h i=>∃ x,c = .fz (.atom (slV x))/\h=(id, .tab (g+1) (slV x) eo ei rows')::ka6 idR (ka6 idL st.heap)/\i=st.ids:=by
 subst hn ax;intro F S0 N0 ψ S a w hs;have l:=hs.core;have ay:=hT.get hd;have az:=hT.get av;have aa:id≠idL:=fun e=>by rw [e,hL] at r;cases r
 have ab:id≠idR:=fun e=>by rw [e,M] at r;cases r
 have N:idR≠idL:=fun e=>by rw [e,hL] at M;cases M
 obtain ⟨bl,⟨hg,vs,ac,ad,D,a0,J⟩,bm⟩:=l.obj id _ r;obtain ⟨bd,⟨ae,_,cs,m,_,af⟩,be⟩:=l.obj idR _ M;obtain ⟨bf,⟨a1,_,bL,cL,nL,capL,a2,a3,bg,bh,ag,_,ah⟩,bi⟩:=l.obj idL _ hL;rw [qt] at ae m;obtain ⟨u,hu⟩:∃ u,u=ψ.val idR:=⟨_,rfl⟩;rw [<- hu] at m;have ai:u.oneCell'=true:=kr5 m;have a4:∀ z∈zs,z.oneCell'=true:=fun z a5=>by
  obtain ⟨i,hi,rfl⟩:=qaj.1 a5;have a6:i<cs.length:=by rw [m.1];omega
  have:=af i (.atom zs[i]) 0 cs[i] (.atom zs[i]) (by rw [qn,qb hi];rfl) (by simp [qb a6]) rfl;have key:∀ z y,RF S w z (.atom y)->y.oneCell'=true:=fun z y h=>by cases h with | atom h=>exact h
  exact key _ _ this
 have a7:cs=zs:=by
  have hcl:cs.length=zs.length:=by rw [m.1,qbk]
  apply List.ext_getElem hcl;intro k h1 H;have:=af k (.atom zs[k]) 0 cs[k] (.atom zs[k]) (by rw [qn,qb H];rfl) (by simp [qb h1]) rfl;exact this.atom_eq
 -- the literal
 have a8:cL[0]?=some u:=by
  have h1:0<cL.size:=by have:=ag;simp at this;omega
  have:=ah 0 cL[0] (.row idR zs.length) (by simp [h1]) rfl;have H:cL[0]=u:=by
   generalize cL[0]=z at this;cases this with
   | row hK a9 h1 hv=>rw [hu];exact hv ae.symm
  simp [h1,H]
 have ba:a.eval A=ov:=by have h0:=hs.eval A;rw [hA] at h0;exact h0.atom
 have bb:RF (fun b=>b=bL) w (a.eval B) (.lst de.size 1 [.atom u]):=by
  have h0:=hs.eval B;rw [hB] at h0;generalize a.eval B=z at h0;cases h0 with
  | bsl hK a9 h1 hv=>
   obtain ⟨b,c,e1,rfl,e3,e4,_⟩:=hv a1.symm;rw [a2] at e1;injection e1 with e1;subst e1;rw [hz];refine .lst (fun _=>[u]) rfl e3 e4 (by omega) (fun i x hx=>?_) (fun i x hx=>?_) fun i x j v y hx hv hy=>?_;have hi:i=0:=(by have:=(qf.1 hx).1;simp at this;exact this);subst hi;refine ⟨bL,0,rfl,rfl,fun j v O=>?_⟩;have Q:j=0:=(by have:=(qf.1 O).1;simp at this;exact this);subst Q;simp at O;subst O;show w.cell? ⟨bL,0+0,none⟩=some u;simp [World.cell?,a3,a8];have hi:i=0:=(by have:=(qf.1 hx).1;simp at this;exact this);subst hi;simp at hx;subst hx;exact ⟨rfl,rfl,fun y hy=>by simp [FV.cells] at hy;subst hy;exact ai⟩
   ·have hi:i=0:=(by have:=(qf.1 hx).1;simp at this;exact this);subst hi;simp at hx;subst hx;have Q:j=0:=(by have:=(qf.1 hv).1;simp at this;exact this);subst Q;simp at hv;simp [FV.cells] at hy;subst hv hy;exact .atom ai
 rw [Nat.mul_add,qbk] at Z;obtain ⟨v',w',news,K,q,p,aj,ak,al,bj,bk⟩:=k8a o.type (ay.slice hk) az (by omega) (by rw [aw,hz]) (by rw [hz];exact D) bb (by simp;omega) (by simp;omega);rw [hz] at q al ak;have R:news=[u]:=by
  have h1:news.length=1:=by simpa using ak
  obtain ⟨x,rfl⟩:=List.length_eq_one_iff.1 h1;have:=al 0 (.atom u) 0 x (.atom u) rfl rfl rfl;rw [this.atom_eq]
 subst R;have E:∀ v b,v∈ov::vs->kak v=some b->Blk (ψ.val id) b:=fun v b hv f=>by rw [ac];exact .inr ⟨v,by simpa [kff] using hv,f⟩
 have U:∀ b,kak u=some b->Blk (ψ.val idR) b:=fun b f => .of (hu ▸ f);have bc:v'.oneCell'=true:=kr5 q;have V:∀ b,kak v'=some b->kak ov=some b\/b=w.heap.size:=fun b f=>by
  rw [ksq q] at f;rcases aj with e | e;left;rw [ksq D,<- e,f]
  ·right;rw [f] at e;exact qs e
 have s:∀ k,k<w.heap.size->kak ov≠some k->w'.heap[k]?=w.heap[k]?:=fun k hk X=>p.block k hk fun e=>X (by rw [ksq D];exact e.symm);have am:∀ v b,v∈ov::vs->kak v=some b->b<w.heap.size:=fun v b hv f=>(l.obj id _ r).2.1.lt (E v b hv f);have L:∀ b,kak u=some b->b<w.heap.size:=fun b f=>(l.obj idR _ M).2.1.lt (U b f);have I:∀ v b,v∈ov::vs->kak v=some b->kak u≠some b:=fun v b hv f C=>l.inj id idR _ _ b r M ab (E v b hv f) (U b C);have an:∀ v b,v∈vs->kak v=some b->kak ov≠some b:=fun v b hv f C=>by obtain ⟨i,hi,rfl⟩:=qaj.1 hv;exact J 0 (i+1) ov vs[i] b rfl (by rw [qaw];exact qb hi) (by omega) C f
 have ao:∀ v b,v∈vs++[u]->kak v=some b->kak v'≠some b:=fun v b hv f aq=>by
  rcases qat.1 hv with hv | hv
  ·rcases V b aq with e | e;exact an v b hv f e
   ·have:=am v b (qh _ hv) f;omega
  ·obtain rfl:=qav.1 hv;rcases V b aq with e | e;exact I ov b (qv ..) e f
   ·have:=L b f;omega
 have c0:=k2k l hL;have k1:kaa (ka6 idL st.heap) id=some (.tab g ov eo ei rows):=knk aa r;have k2:kaa (ka6 idL st.heap) idR=some (.frow ei 1 (zs.map .atom)):=knk N M;obtain ⟨c1,c2,c3⟩:=c0.upd3 (n:=g+1) (v := .tuple (v'::(vs++[u])).toArray) (w':=w') (ob' := .tab (g+1) v' eo ei (rows++[zs])) k1 k2 p.size (fun k hk X=>s k hk fun e=>X (E ov k (qv ..) e)) (by omega) (fun b f=>by
   rcases f with f | ⟨v,hv,f⟩;cases f
   ·simp only [kff] at hv;rcases qae.1 hv with rfl | hv
    ·rcases V b f with e | e;exact .inl (E ov b (qv ..) e)
     ·exact .inr (.inr (by omega))
    ·rcases qat.1 hv with hv | hv;exact .inl (E v b (qh _ hv) f)
     ·obtain rfl:=qav.1 hv;exact .inr (.inl (U b f))) (by
  refine ⟨kbh _ _,vs++[u],kaj _ _,by simp [ad],by simpa using q,fun j v xs hv hx=>?_,fun i j v1 v2 b h1 H ar G=>?_⟩
  ·by_cases O:j<vs.length;rw [qac O] at hv;rw [qac (by omega)] at hx;obtain ⟨q1,q2⟩:=a0 j v xs hv hx;refine ⟨khq q1 fun b f=>?_,q2⟩;have f:=khl f;have au:=qj hv;exact s b (am v b (qh _ au) f) (an v b au f)
   ·have Y:j=vs.length:=(by have:=(qf.1 hv).1;simp at this;omega);subst Y;rw [qab (qx _),qb8] at hv;rw [qab (by omega),ad,qb8] at hx;cases hv;cases hx;rw [a7] at m;refine ⟨khq m fun b f=>?_,a4⟩;have f:=khl f;exact s b (L b f) fun e=>I ov b (qv ..) e f
  ·cases i with
   | zero=>cases j with
    | zero=>exact absurd rfl ar
    | succ j=>
     rw [qaw] at H;cases h1;exact fun C=>ao v2 b (qj H) C G
   | succ i=>
    rw [qaw] at h1;cases j with
    | zero=>cases H;exact ao v1 b (qj h1) G
    | succ j=>
     rw [qaw] at H;have sp:∀ (k:Nat) (v:Value),(vs++[u])[k]?=some v->(vs[k]?=some v)\/(k=vs.length/\v=u):=fun k v hk=>by
      by_cases O:k<vs.length;rw [qac O] at hk;exact .inl hk
      ·have Y:k=vs.length:=(by have:=(qf.1 hk).1;simp at this;omega);subst Y;rw [qab (qx _),qb8] at hk;cases hk;exact .inr ⟨rfl,rfl⟩
     rcases sp i v1 h1 with q1 | ⟨e1,q1⟩ <;> rcases sp j v2 H with q2 | ⟨e2,q2⟩;exact J (i+1) (j+1) v1 v2 b (by rw [qaw];exact q1) (by rw [qaw];exact q2) ar G;exact q2 ▸ I v1 b (qh _ (qj q1)) G;exact fun C=>I v2 b (qh _ (qj q2)) C (q1 ▸ G)
     ·omega)
 obtain ⟨x,hx⟩:∃ x,v'=slV x:=by
  rcases q.2 with ⟨h,_⟩ | ⟨g0,c0,cu0,h,_⟩;exact ⟨(none,0,0),h⟩
  ·exact ⟨(_,_,_),h⟩
 refine kae w' v' ?_ ⟨_,_,_,⟨x,by rw [hx],by rw [hx],rfl⟩,_,_,c1, .fz (.atom bc),⟨p.os,p.tape,p.output,p.size,c3,fun _=>kq0 K⟩,kn4 (.inl (by omega)),fun _ h=>h,fun b f => .inl f,fun b f hl=>c2 b (.inl f) hl⟩;simp only [execOp,ho,resolve,invoke,builtin,Sem.run_bind,Sem.run_pure,Result.andThen_ok,List.map_toArray,qa5,List.map_nil,ba,K]
theorem kack (id:Nat) (eo ei:TypeId) (c:st.ids.contains id=false):LeSt st { st with heap:=(id, .tab 0 (.slice none 0 0) eo ei [])::st.heap,ids:=id::st.ids }:=by
 have c:id∉st.ids:=by simpa using c
 intro F S0 N0 ψ S a w hs;have hadd:=hs.core.addB (n:=0) (v := .tuple #[.slice none 0 0]) (w':=w) (ob := .tab 0 (.slice none 0 0) eo ei []) (kaf _) c (fun b d=>by
  rcases d with d | ⟨u,e,d⟩;cases d
  ·obtain rfl:=qav.1 (show u∈[Value.slice none 0 0] from e);cases d) ⟨kbh _ _,[],kaj _ _,rfl,⟨by simp, .inl ⟨rfl,rfl⟩⟩,(fun j v xs hv=>by simp at hv),fun i j u v b e hv f g=>by
  have h1:=(qf.1 e).1;have l:=(qf.1 hv).1;simp at h1 l;omega⟩
 exact ⟨ψ.set id 0 (.tuple #[.slice none 0 0]),S,hs.defers,hs.size,fun k=>(hs.tmps k).keep (ka4 c _ _) (fun _ h=>qh _ h) (fun _ h=>h) (fun _ _ _=>rfl),hadd⟩
theorem kahi (t:Nat) {id g:Nat} (xs:List FV) {ov:Value} {eo ei:TypeId} {rows:List (List Value)} {c:FV} (hx:st.get t = .fz (.agg (xs++[.atom ov]))) (f:kaa st.heap id=some (.tab g ov eo ei rows)) (hn:NStep P o { st with tmps:=(t, .fz (.agg (xs++[tabF rows])))::st.tmps } (.fz c)) (hc:k8s c=true):NStep P o st (.fz c):=by
 intro ψ S a w ht m
 let SB:Nat->Prop:=fun b=>S b\/∃ id ob,kaa st.heap id=some ob/\Blk (ψ.val id) b
 have j:∀ b,(S b\/Blk (ψ.val id) b)->SB b:=fun b e=>e.imp _root_.id fun e=>⟨id,_,f,e⟩;refine kjv ?_ (hn ψ SB a w (fun k=>?_) fun id ob n=>?_)
 ·rintro v w' ⟨p,hv⟩;refine ⟨p, .fz ?_⟩;have hv:=hv.inv;cases c with
  | atom u=>cases hv with | atom h=>exact .atom h
  | tup vs=>
   cases hv with
   | tup h hr=>
    refine .tup h fun i v x hv hx=>?_;have d:=qu.1 hc x (qj hx);have:=hr i v x hv hx;cases x with
    | atom u=>cases this with | atom h=>exact .atom h
    | _=>cases d
  | _=>cases hc
 ·show RV ψ (·∈st.ids) SB w _ (look .any ((t,AV.fz (.agg (xs++[tabF rows])))::st.tmps) k);rw [kas];split
  ·rename_i q;subst q;have hv:=ht t;rw [hx] at hv;refine .fz ?_;have hv:=hv.inv;generalize a.tmps.getD t undef=z at hv;cases hv with
   | @agg cs _ h h1 hr=>
    simp only [qy,qah] at h;refine .agg (by simpa using h) (fun x d=>?_) fun i v x hv d=>?_
    ·rcases qat.1 d with hm | hm;exact h1 x (qat.2 (.inl hm))
     ·obtain rfl:=qav.1 hm;rfl
    ·by_cases hi:i<xs.length;rw [qac hi] at d;exact (hr i v x hv (by rw [qac hi,d])).mono fun b e => .inl e
     ·have l:i=xs.length:=(by have:=(qf.1 d).1;simp at this;omega);subst l;rw [qab (qx _),qb8] at d;cases d;have:=(hr xs.length v (.atom ov) hv (by rw [qab (qx _),qb8];rfl)).atom_eq;rw [this];exact (kyr (m id _ f)).mono j
  ·exact (ht k).mono (fun _ h=>h) fun b e => .inl e
 ·exact (m id ob n).keep Ext.refl (fun _ h=>h) (fun b e => .inl e) (fun _ _ _=>rfl) ⟨rfl,rfl⟩ fun _ _=>rfl
theorem k28 (id2 id g j:Nat) (ov:Value) (eo ei e2:TypeId) (rows:List (List Value)) (cells:List AV) (y:FV) (d:kaa st.heap id2=some (.box e2 cells)) (hx:cells[j]?=some (.fz (.atom ov))) (l:kaa st.heap id=some (.tab g ov eo ei rows)) (hy:y=tabF rows):
  LeSt st { st with heap:=(id2, .box e2 (cells.set j (.fz y)))::ka6 id st.heap }:=by
 subst hy;intro F S0 N0 ψ S a w hs;have c1:=k2k hs.core l;have c2:=kyr (hs.core.obj id _ l).2.1;have p:id2≠id:=fun h=>by rw [h,l] at d;cases d
 have n:kaa (ka6 id st.heap) id2=some (.box e2 cells):=knk p d;obtain ⟨k1,⟨k0,b,cs,k2,k3,k4,k5,k6⟩,k7⟩:=c1.obj id2 _ n;refine ⟨ψ,_,hs.defers,hs.size,fun k=>(hs.tmps k).mono (fun _ h=>h) fun _ h => .inl h,⟨fun i o e=>?_,fun i i' o o' b e q m t=>?_,c1.lt,c1.s0,c1.n0,c1.fr⟩⟩
 ·rw [kac] at e;by_cases hi:id2=i
  ·subst hi;rw [qo rfl] at e;injection e with e;subst e;refine ⟨k1,⟨k0,b,cs,k2,k3,by simpa using k4,fun x hx=>?_,fun i v x hv c=>?_⟩,k7⟩
   ·rcases List.mem_or_eq_of_mem_set hx with hx | rfl;exact k5 x hx
    ·rfl
   ·rw [List.getElem?_set] at c;split at c
    ·rename_i r;subst r;split at c;injection c with c;subst c;have s:=k6 j v _ hv hx;refine .fz ?_;rw [s.atom];exact c2
     ·cases c
    ·exact k6 i v x hv c
  ·rw [qi hi] at e;exact c1.obj i o e
 ·have f:∀ {i:Nat} {o:AObj},kaa ((id2,AObj.box e2 (cells.set j (.fz (tabF rows))))::ka6 id st.heap) i=some o->∃ o',kaa (ka6 id st.heap) i=some o':=fun {i o} h=>by
   rw [kac] at h;by_cases hi:id2=i;subst hi;exact ⟨_,n⟩
   ·rw [qi hi] at h;exact ⟨_,h⟩
  obtain ⟨o1,h1⟩:=f e;obtain ⟨o2,n⟩:=f q;exact c1.inj i i' o1 o2 b h1 n m t
theorem sstV [Rd] {P:Program} [t:Tab P] {g:Cfg} {Q:Exit->St->Prop} (k:Nat) (F:Option Addr×Nat×Nat->List (Nat×AObj)->List (Nat×AObj)) (hn:kfw P (klb (crun P k g)) (stOf (crun P k g)) fun c h i=>∃ x,c = .fz (.atom (slV x))/\h=F x (stOf (crun P k g)).heap/\i=(stOf (crun P k g)).ids) (hv:okP (crun P k g)=true)
  (a:∀ x,W P (rsmA (.fz (.atom (slV x))) (F x (stOf (crun P k g)).heap) (stOf (crun P k g)).ids (crun P k g)) Q):W P g Q:=sstD k hn hv fun c h i hr=>by
 obtain ⟨ov,rfl,rfl,rfl⟩:=hr;exact a ov
end
def openRow:List Bool:=List.replicate 25 false
theorem kakf:mkL 1 false 25=some openRow:=by unfold mkL;rw [qo (by decide)];rfl
theorem kaje {o:Oper} {st:St} (b:o.op = .makeSlice 181 (.const (.int .i64 25)) (.const (.int .i64 25))) (a:st.ids.contains 5=false):StepA prog o st (.row 5 openRow.length) ((5, .frow 4 1 (openRow.map eB))::st.heap) (5::st.ids):=
 k4n tt181 eB (.const (.int .i64 25)) (.const (.int .i64 25)) _ tt4 .i64 .i64 (.bool false) kakf (by kernel_rfl) (by kernel_rfl) (by kernel_rfl) (by kernel_rfl) (by kernel_rfl) (N:=b) (hx:=(by kernel_rfl)) (hy:=(by kernel_rfl)) (f:=a)
theorem kakc {o:Oper} {st:St} (b:o.op = .buildSlice 144 1 #[(0, .tmp 16)]) (hx:st.get 16 = .row 5 openRow.length) (a:st.ids.contains 6=false):StepA prog o st (.bsl 6 0 0 1 (some 1)) ((6, .xo (.blk 0 181 1 [.row 5 openRow.length]))::st.heap) (6::st.ids):=
 kacn (de:=tt181) (d:=k3m) #[(0, .tmp 16)] b (tt_ok.get (by kernel_rfl)) (by kernel_rfl) (tt_ok.get (by kernel_rfl)) (by decide) rfl (by decide) (by simp [kct,St.eval,hx];kernel_rfl) a
theorem kaj6 {o:Oper} {st:St} (g:Nat) (ov:Value) (rows rows':List (List Bool)) (h:app 24 rows [openRow]=some rows') (b:o.op = .call { callee := .builtin .append,args:=#[.tmp 15, .tmp 17],argTypes:=#[144,144] }) (hA:st.get 15 = .fz (.atom ov)) (a:kaa st.heap 4=some (.tab g ov 181 4 (rows.map (List.map vB)))) (e:st.get 17 = .bsl 6 0 0 1 (some 1)) (f:kaa st.heap 6=some (.xo (.blk 0 181 1 [.row 5 openRow.length]))) (j:kaa st.heap 5=some (.frow 4 1 (openRow.map eB))):
  kfw prog o st fun c h i=>∃ x,c = .fz (.atom (slV x))/\h=(4, .tab (g+1) (slV x) 181 4 (rows'.map (List.map vB)))::ka6 5 (ka6 6 st.heap)/\i=st.ids:=by
 unfold app at h;split at h;rename_i k;injection h with h;subst h;exact kafk (d:=k3m) (id:=4) (openRow.map vB) (.tmp 15) (.tmp 17) 6 5 tt181 tt_ok b (by kernel_rfl) (by kernel_rfl) (by kernel_rfl) (by kernel_rfl) (by kernel_rfl) hA a e f j (by kernel_rfl) (by simpa [show tt181.bytes=24 from by kernel_rfl] using k) (by simp)
 ·cases h
def ksa (a0:La) (v:Int×List (List Bool)):Option ((Int×List (List Bool)) ⊕ List (List Bool)):=
 bif decide (v.1<(List.length a0.symbols:Int)) then Option.bind (app 24 v.2 [openRow]) fun v1=>some (.inl (w64 (v.1+1),v1)) else some (.inr v.2)
def ksk (a0:La) (sz:Int) (v:Int×List (List Bool)):Option ((Int×List (List Bool)) ⊕ List (List Bool)):=
 bif decide (v.1<(List.length a0.rules:Int)) then Option.bind (idx a0.rules v.1) fun v1=>Option.bind (kbi ⟨a0,v.2⟩ v.1) fun v2=>Option.bind (kb4 ⟨a0,v.2⟩ v2 (w64 (sz - 1))) fun v3=>
  Option.bind (bif v3 then Option.bind (idx v.2 v1.symbol) fun v4=>Option.bind (idx v4 sz) fun _=>some (v.2.set v1.symbol.toNat (v4.set sz.toNat true)) else some v.2) fun v5=>some (.inl (w64 (v.1+1),v5)) else some (.inr v.2)
def kwh (a0:La) (v:Int×List (List Bool)):Option ((Int×List (List Bool)) ⊕ List (List Bool)):=
 bif decide (v.1<=24) then Option.bind (kab (ksk a0 v.1) fuel (0,v.2)) fun v1=>some (.inl (w64 (v.1+1),v1)) else some (.inr v.2)
def kjm (a0:La):Option kah:=
 Option.bind (kab (ksa a0) fuel (0,[])) fun v1=>Option.bind (kab (kwh a0) fuel (1,v1)) fun v2=>some ⟨a0,v2⟩
def opC (a0:La):List AV:=[fS a0.name, .fz ((eL 1 eI) a0.inputs), .fz ((eL 2 eSy) a0.symbols), .fz ((eL 9 eRu) a0.rules)]
def opZ:List AV:=[fS ⟨#[]⟩, .fz (.atom (.slice none 0 0)), .fz (.atom (.slice none 0 0)), .fz (.atom (.slice none 0 0)), .fz (.atom (.slice none 0 0))]
def opS (a0:La) (t:List (Nat×AV)) (gg:Nat×Option Addr×Nat×Nat) (rows:List (List Bool)):St:=
 ⟨50,t++[(1, .ref 1 0 0),(2, .ref 2 0 0),(3, .ref 3 0 0)],[(4, .tab gg.1 (slV gg.2) 181 4 (rows.map (List.map vB))),(3, .box 146 (opC a0++[.fz (.atom (slV gg.2))])),(2, .box 146 opZ),(1, .box 26 (opC a0))],[4,3,2,1],[]⟩
theorem kadp (a0:La) (x:Option Addr×Nat×Nat) (hs:List (List Bool)) (a1:Int) (r:List Int) (h:kbi ⟨a0,hs⟩ a1=some r):PCall prog 122 [.agg [eS a0.name,(eL 1 eI) a0.inputs,(eL 2 eSy) a0.symbols,(eL 9 eRu) a0.rules, .atom (slV x)],eI a1] ((eL 1 eI) (r)):=by unfold kbi at h;refine pcl [.one (.sl 1)] func122 (by kernel_rfl) (by kernel_rfl) (by kernel_rfl) ?_;refine ix nRu 12 h fun v1 h=>?_;refine cd 10 h (fun h=>?_) fun h=>?_;cases h;exact lq 7 (by kernel_rfl);cases h;exact lq 6 (by kernel_rfl)
theorem kahk {o:Oper} {st:St} (a0:La) (x:Option Addr×Nat×Nat) (rows:List (List Bool)) (i:Int) (r:List Int) (h:kbi ⟨a0,rows⟩ i=some r) (c:o.op = .call { callee := .value (.func 122),args:=#[.tmp 34, .tmp 35],argTypes:=#[146,3] }) (a:st.get 34 = .fz (.agg [eS a0.name,(eL 1 eI) a0.inputs,(eL 2 eSy) a0.symbols,(eL 9 eRu) a0.rules, .atom (slV x)])) (b:st.get 35=fI i):NStep prog o st (.fz ((eL 1 eI) r)):=by
 refine k0e [.one .keep, .one .keep] c ?_ (kadp a0 x rows i r h);have e34:look .any st.tmps 34 = .fz (.agg [eS a0.name,(eL 1 eI) a0.inputs,(eL 2 eSy) a0.symbols,(eL 9 eRu) a0.rules, .atom (slV x)]):=a;have e35:look .any st.tmps 35=fI i:=b;simp [kmr,k3r,St.eval,St.get,e34,e35];rfl
theorem op_tA {o:Oper} {st:St} (g:Nat) (x:Option Addr×Nat×Nat) (rows:List (List Bool)) (row:List Bool) (i:Int) (h:idx rows i=some row) (b:o.op = .indexAddr 144 (.tmp 41) (.tmp 43)) (hx:st.get 41 = .fz (.atom (slV x))) (a:kaa st.heap 4=some (.tab g (slV x) 181 4 (rows.map (List.map vB)))) (hK:st.ids.contains 4=true) (hy:st.get 43=fI i):NStep prog o st (.iref 4 g 0 i.toNat):=
 kabp (d:=k3m) vB (.tmp 41) (.tmp 43) tt181 .i64 h tt_ok b (by kernel_rfl) (by kernel_rfl) (by kernel_rfl) (by kernel_rfl) hx a hK hy
theorem op_tL {o:Oper} {st:St} (g:Nat) (x:Option Addr×Nat×Nat) (rows:List (List Bool)) (row:List Bool) (i:Int) (h:idx rows i=some row) (b:o.op = .load 181 (.tmp 44)) (hx:st.get 44 = .iref 4 g 0 i.toNat) (a:kaa st.heap 4=some (.tab g (slV x) 181 4 (rows.map (List.map vB)))) (hK:st.ids.contains 4=true):NStep prog o st (.irow 4 g (i.toNat+1)):=
 kacf (d:=tt181) vB (.tmp 44) h tt_ok b (by kernel_rfl) (by kernel_rfl) hx a hK
theorem op_iA {o:Oper} {st:St} (g:Nat) (x:Option Addr×Nat×Nat) (rows:List (List Bool)) (row:List Bool) (i j:Int) (b:Bool) (h:idx rows i=some row) (c:idx row j=some b) (e:o.op = .indexAddr 181 (.tmp 45) (.tmp 46)) (hx:st.get 45 = .irow 4 g (i.toNat+1)) (a:kaa st.heap 4=some (.tab g (slV x) 181 4 (rows.map (List.map vB)))) (hK:st.ids.contains 4=true) (hy:st.get 46=fI j):NStep prog o st (.iref 4 g (i.toNat+1) j.toNat):=
 kaam (d:=tt181) vB (.tmp 45) (.tmp 46) tt4 .i64 h c tt_ok e (by kernel_rfl) (by kernel_rfl) (by kernel_rfl) (by kernel_rfl) hx a hK hy
theorem op_iS {o:Oper} {st:St} (g:Nat) (x:Option Addr×Nat×Nat) (rows:List (List Bool)) (row:List Bool) (i j:Int) (b:Bool) (h:idx rows i=some row) (c:idx row j=some b) (e:o.op = .store 4 (.tmp 47) (.const (.bool true))) (hx:st.get 47 = .iref 4 g (i.toNat+1) j.toNat) (a:kaa st.heap 4=some (.tab g (slV x) 181 4 (rows.map (List.map vB)))):StepA prog o st .any ((4, .tab g (slV x) 181 4 ((rows.set i.toNat (row.set j.toNat true)).map (List.map vB)))::st.heap) st.ids:=
 k97 (d:=tt4) vB true (.tmp 47) (.const (.bool true)) h c tt_ok e (by kernel_rfl) (by kernel_rfl) hx a (by kernel_rfl)
theorem kaeb {o:Oper} {st:St} (a0:La) (g:Nat) (x:Option Addr×Nat×Nat) (rows:List (List Bool)) (al:List Int) (sz:Int) (b:Bool) (h:kb4 ⟨a0,rows⟩ al sz=some b) (i:o.op = .call { callee := .value (.func 121),args:=#[.tmp 33, .tmp 36, .tmp 38],argTypes:=#[146,22,3] }) (a:st.get 33 = .fz (.agg [eS a0.name,(eL 1 eI) a0.inputs,(eL 2 eSy) a0.symbols,(eL 9 eRu) a0.rules, .atom (slV x)])) (c:st.get 36 = .fz ((eL 1 eI) al)) (d:st.get 38=fI sz) (e:kaa st.heap 4=some (.tab g (slV x) 181 4 (rows.map (List.map vB)))):NStep prog o st (.fz (eB b)):=by
 have ht:tabF (rows.map (List.map vB))=(eL 1 (eL 1 eB)) rows:=(k46 (f:=vB) eB rows).symm;refine kahi 33 [eS a0.name,(eL 1 eI) a0.inputs,(eL 2 eSy) a0.symbols,(eL 9 eRu) a0.rules] a e (k0e [.one .keep, .one .keep, .one .keep] i ?_ (khd ⟨a0,rows⟩ al sz b h)) rfl;rw [ht];have e36:look .any st.tmps 36 = .fz ((eL 1 eI) al):=c;have e38:look .any st.tmps 38=fI sz:=d;simp [kmr,k3r,St.eval,St.get,kas,e36,e38];rfl
theorem kw2 (a0:La) (r:kah) (h:kjm a0=some r):PCall prog 91 [eLa a0] (kbw r):=by
 unfold kjm at h;refine pcl [.ag [.keep, .keep, .keep, .keep, .keep]] func91 (by kernel_rfl) (by kernel_rfl) (by kernel_rfl) ?_;refine wle 12 (kack 4 181 4 (by kernel_rfl)) ?_;refine lpD 9 (fun v gg=>opS a0 [(11,fI (List.length a0.symbols:Int)),(12,fI v.1)] gg v.2) (.exit 0) (fun v1 gg=>opS a0 [] gg v1) (0,none,0,0) h (le_a (by kernel_rfl)) (fun v gg r h=>?_) fun v1 gg h=>?_
 ·unfold ksa at h;refine cd 5 h (fun h=>?_) fun h=>?_
  ·obtain ⟨v2,c,h⟩:=qm.1 h;refine dz 3 4 [2,3] [5,6] (List.range 7) ?_;refine zst 2 (kaje ?_ ?_) ?_ ?_ ?_ ?_
   iterate 5 kernel_rfl
   refine zst 0 (kakc ?_ ?_ ?_) ?_ ?_ ?_ ?_
   iterate 6 kernel_rfl
   refine sstV 1 (fun x hp=>(4, .tab (gg.1+1) (slV x) 181 4 (v2.map (List.map vB)))::ka6 5 (ka6 6 hp)) (kaj6 gg.1 (slV gg.2) v.2 v2 ?_ ?_ ?_ ?_ ?_ ?_ ?_) ?_ ?_;exact c
   iterate 7 kernel_rfl
   intro x;obtain rfl:=qs h;exact ljD 7 (gg.1+1,x) (le_a (by kernel_rfl))
  ·obtain rfl:=qs h;exact loD 1 gg (le_a (by kernel_rfl))
 refine lpD 6 (fun v gg=>opS a0 [(4,fI v.1)] gg v.2) (.exit 2) (fun v2 gg=>opS a0 [] gg v2) gg h (le_a (by kernel_rfl)) (fun v gg r h=>?_) fun v2 gg h=>?_
 ·unfold kwh at h;refine cd 6 h (fun h=>?_) fun h=>?_
  ·refine lpD 11 (fun x gg=>opS a0 [(4,fI v.1),(26, .fz ((eL 9 eRu) a0.rules)),(27,fI (List.length a0.rules:Int)),(28,fI x.1)] gg x.2) (.exit 4) (fun v3 gg=>opS a0 [(4,fI v.1)] gg v3) gg h (le_a (by kernel_rfl)) (fun x gg r h=>?_) fun v3 gg h=>?_
   ·unfold ksk at h;refine cd 5 h (fun h=>?_) fun h=>?_
    ·refine ix nRu 6 h fun v1 h=>?_;refine dw 6 7 (by kernel_rfl) ?_;obtain ⟨v2,c,h⟩:=qm.1 h;refine nst 3 (kahk a0 gg.2 x.2 x.1 v2 ?_ ?_ ?_ ?_) ?_ ?_;exact c
     iterate 4 kernel_rfl
     obtain ⟨v3,e,h⟩:=qm.1 h;refine nst 2 (kaeb a0 gg.1 gg.2 x.2 v2 (w64 (v.1 - 1)) v3 ?_ ?_ ?_ ?_ ?_ ?_) ?_ ?_;exact e
     iterate 6 kernel_rfl
     refine jn1 2 .normal (fun v5=>opS a0 [(4,fI v.1),(26, .fz ((eL 9 eRu) a0.rules)),(27,fI (List.length a0.rules:Int)),(28,fI x.1)] gg v5) h (fun v5 h=>?_) fun v5 h=>?_
     ·refine cd 0 h (fun h=>?_) fun h=>?_
      ·obtain ⟨v6,a,h⟩:=qm.1 h;obtain ⟨v7,d,h⟩:=qm.1 h;apply nst 5 (op_tA gg.1 gg.2 x.2 v6 v1.symbol ?_ ?_ ?_ ?_ ?_ ?_)
       any_goals (first | with_reducible exact a | kernel_rfl)
       apply nst 0 (op_tL gg.1 gg.2 x.2 v6 v1.symbol ?_ ?_ ?_ ?_ ?_)
       any_goals (first | with_reducible exact a | kernel_rfl)
       apply nst 1 (op_iA gg.1 gg.2 x.2 v6 v1.symbol v.1 v7 ?_ ?_ ?_ ?_ ?_ ?_ ?_)
       any_goals (first | with_reducible exact a | with_reducible exact d | kernel_rfl)
       apply sst 0 (op_iS gg.1 gg.2 x.2 v6 v1.symbol v.1 v7 ?_ ?_ ?_ ?_ ?_)
       any_goals (first | with_reducible exact a | with_reducible exact d | kernel_rfl)
       obtain rfl:=qs h;exact lj 1 (by kernel_rfl)
      ·obtain rfl:=qs h;exact lj 1 (by kernel_rfl)
     obtain rfl:=qs h;exact ljD 4 gg (le_a (by kernel_rfl))
    ·obtain rfl:=qs h;exact loD 1 gg (le_a (by kernel_rfl))
   obtain rfl:=qs h;exact ljD 5 gg (le_a (by kernel_rfl))
  ·obtain rfl:=qs h;exact loD 1 gg (le_a (by kernel_rfl))
 obtain rfl:=qs h;refine wle 0 (k28 3 4 gg.1 4 (slV gg.2) 181 4 146 (v2.map (List.map vB)) (opC a0++[.fz (.atom (slV gg.2))]) ((eL 1 (eL 1 eB)) v2) ?_ ?_ ?_ ?_) ?_
 ·kernel_rfl
 ·kernel_rfl
 ·kernel_rfl
 exact k46 _ v2;exact lq 6 (by kernel_rfl)
set_option linter.unusedVariables false
def kkn (a0:La) (a1 a2:Int):Option (List Tm×Int):=Option.bind (kjm a0) fun x=>kqn x a0 a1 a2
theorem kva (a0:La) (a1 a2:Int) (r:List Tm×Int) (h:kkn a0 a1 a2=some r):PCall prog 57 [eLa a0,eI a1,eI a2] (.tup [(eL 2 eTmR) (r.1),eI (r.2)]):=by obtain ⟨x,hx,h⟩:=qm.1 h;exact kzj (kw2 a0 x hx) h
end Go.Proofs.YtdnfbjahbkpibaaGreatDoor
