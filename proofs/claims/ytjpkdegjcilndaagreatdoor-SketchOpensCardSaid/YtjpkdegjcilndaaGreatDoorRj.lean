import Derived.Test.YtjpkdegjcilndaaGreatDoorTT
import Derived.Test.YtjpkdegjcilndaaGreatDoorEE
import Derived.Test.YtjpkdegjcilndaaGreatDoorCg
set_option linter.all false
set_option linter.unusedSectionVars false
namespace Go.Proofs.YtjpkdegjcilndaaGreatDoor
open Go Go.RowKit Go.Proofs.Tryz
def ken (Ds:List Nat):(Nat->Prop)->List Nat->World->Prop:=fun _ bs W=>Ds.Nodup/\∀ D∈Ds,D∈bs/\W.heap[D]?=some (.deferred (some []))
def kjw (D:Nat):Deferred:={ target := .collected D,args:=#[] }
def ydV (l:Nat):Value := .func (.yield l) #[] #[]
def blkL (v:Value):List Nat:=(kak v).toList++(kfi v).filterMap kak
theorem blkL_iff {v:Value} {b:Nat}:b∈blkL v↔Blk v b:=by unfold blkL Blk;rw [qau,List.mem_filterMap,Option.mem_toList]
def k2o (ψ:Env) (h:List (Nat×AObj)):List Nat:=h.flatMap fun p=>blkL (ψ.val p.1)
theorem k4n:∀ {l:List (Nat×AObj)} {i:Nat} {ob:AObj},kaa l i=some ob->∃ ob',(i,ob')∈l
 | [],_,_,h=>by cases h
 | (k,v)::l,i,ob,h=>by
  rw [kac] at h;by_cases hk:k=i;subst hk;exact ⟨v,qu ..⟩
  ·rw [qi hk] at h;obtain ⟨o,a⟩:=k4n h;exact ⟨o,qh _ a⟩
theorem k8n:∀ {l:List (Nat×AObj)} {i:Nat} {ob:AObj},(i,ob)∈l->∃ ob',kaa l i=some ob'
 | (k,v)::l,i,ob,h=>by
  rw [kac];by_cases hk:k=i;exact ⟨v,by rw [qo hk]⟩
  ·rw [qi hk];rcases qac.1 h with h | h;injection h with h1 _;exact absurd h1.symm hk
   ·exact k8n h
theorem k64 {ψ:Env} {h:List (Nat×AObj)} {b:Nat} (hm:b∈k2o ψ h):∃ i ob,kaa h i=some ob/\Blk (ψ.val i) b:=by obtain ⟨⟨i,ob⟩,h1,a⟩:=qa1.1 hm;obtain ⟨ob',c⟩:=k8n h1;exact ⟨i,ob',c,blkL_iff.1 a⟩
theorem k46 {ψ:Env} {h:List (Nat×AObj)} {i:Nat} {ob:AObj} {b:Nat} (a:kaa h i=some ob) (c:Blk (ψ.val i) b):b∈k2o ψ h:=by obtain ⟨o,hm⟩:=k4n a;exact qa1.2 ⟨_,hm,blkL_iff.2 c⟩
variable {P:Program} {F S0:Nat->Prop} {N0:Nat} {w w':World} {S S':Nat->Prop} {ψ:Env} {o:Oper} {a:Act} {st:St}
theorem Core.look {h1 d:List (Nat×AObj)} {ids:List Nat} (h:Core F S0 N0 h1 ids ψ S w) (e:∀ id ob,kaa d id=some ob->kaa h1 id=some ob):Core F S0 N0 d ids ψ S w:=
 ⟨fun id o a=>h.obj id o (e id o a),fun id id' o o' b a c=>h.inj id id' o o' b (e id o a) (e id' o' c),h.lt,h.s0,h.n0,h.fr⟩
theorem Core.still {heap:List (Nat×AObj)} {ids:List Nat} (h:Core F S0 N0 heap ids ψ S w) (hk:Same S w w') (a:w'.heap.size=w.heap.size) (d:∀ i ob b,kaa heap i=some ob->Blk (ψ.val i) b->w'.heap[b]?=w.heap[b]?):Core F S0 N0 heap ids ψ S w':=
 ⟨fun i ob h1=>⟨(h.obj i ob h1).1,(h.obj i ob h1).2.1.keep Ext.refl (fun _ h=>h) (fun _ h=>h) hk ⟨rfl,rfl⟩ fun b c=>d i ob b h1 c,(h.obj i ob h1).2.2⟩,h.inj,fun b c=>by rw [a];exact h.lt b c,h.s0,by rw [a];exact h.n0,fun b c=>by rw [a];exact h.fr b c⟩
theorem Sim.still {st:St} (h:Sim F S0 N0 st ψ S a w) (hk:Same S w w') (c:w'.heap.size=w.heap.size) (d:∀ i ob b,kaa st.heap i=some ob->Blk (ψ.val i) b->w'.heap[b]?=w.heap[b]?):Sim F S0 N0 st ψ S a w':=
 ⟨h.defers,h.size,fun t=>(h.tmps t).keep Ext.refl (fun _ h=>h) (fun _ h=>h) hk,h.core.still hk c d⟩
def kyc {σ:Type} (st:St) (tm:Array Value) (gw l D:Nat) (rec:Loop) (Hc:σ->List (Nat×AObj)) (s:σ) (Sx:Nat->Prop) (bs:List Nat) (W:World):Prop:=
 ∃ (ψ ψ0:Env) (S1:Nat->Prop) (w1:World),Core (fun _=>False) (fun _=>True) 0 ((gw, .was ψ0 st.ids S1 w1)::Hc s) (gw::st.ids) ψ Sx W/\(∀ t,RV ψ (·∈st.ids) Sx W (tm.getD t undef) (look .any st.tmps t)) /\
  (∀ i ob b,kaa (Hc s) i=some ob->Blk (ψ.val i) b->b∈bs/\b≠D/\b≠l)/\D∈bs/\l∈bs/\W.heap[D]?=some (.deferred (some []))/\W.heap[l]?=some (.loop rec)
theorem k9z {σ:Type} {tm:Array Value} {gw l D:Nat} {rec:Loop} {Hc:σ->List (Nat×AObj)} {s:σ} {bs:List Nat} (m:∀ s,kaa (Hc s) gw=none) (h:kyc st tm gw l D rec Hc s S bs w):OpqC (kyc st tm gw l D rec Hc s) S bs w:=by
 obtain ⟨ψ,ψ0,S1,w1,h1,n,e,f,g,o,p⟩:=h;intro S2 w2 q1 q2 q3 q4 q5;refine ⟨ψ,ψ0,S1,w1,⟨fun i ob c=>?_,h1.inj,q2,fun _ _ => .inl trivial,qaj _,fun _ h=>h.elim⟩,fun t=>(n t).keep Ext.refl (fun _ h=>h) q1 q4,e,f,g,(q5 D f).trans o,(q5 l g).trans p⟩;obtain ⟨k1,k2,k3⟩:=h1.obj i ob c;have d:∀ b,Blk (ψ.val i) b->b∈bs:=fun b a=>by
  rw [kac] at c;by_cases j:gw=i
  ·subst j;rw [qo rfl] at c;injection c with c;subst c;obtain ⟨_,e1,e2,_⟩:=k2;rcases a with a | ⟨u,k,_⟩;rw [e1] at a;cases a
   ·rw [e2] at k;cases k
  ·rw [qi j] at c;exact (e i ob b c a).1
 exact ⟨k1,k2.keep Ext.refl (fun _ h=>h) q1 q4 ⟨rfl,rfl⟩ fun b a=>q5 b (d b a),fun b a=>⟨q3 b (d b a),fun h=>h, .inl trivial⟩⟩
abbrev awpR (l:Nat) (P:Program) (c:Code) (st:St) (Q:Exit->St->Prop):Prop:=@awp dr0 ⟨some l⟩ P c st Q
theorem set1 {tm:Array Value} {p:Nat} {v:Value} {t:Nat} (hp:p<tm.size):(tm.setIfInBounds p v).getD t undef=if p=t then v else tm.getD t undef:=by
 by_cases h:p=t;subst h;rw [qo rfl,qam,Array.getElem?_setIfInBounds_self_of_lt hp];rfl
 ·rw [qi h,qam,Array.getElem?_setIfInBounds_ne h,<- qam]
theorem kab2 {σ α:Type} {enc:α->FV} {step:σ->α->Option σ} {st:St} {tm:Array Value} {gw l D p fn:Nat} {assign body:Code} {Hc:σ->List (Nat×AObj)} (S:∀ s,kaa (Hc s) gw=none) (hn:tm.size=st.n) (hp:p<st.n)
  (J:∀ (s:σ) (x:α) (s':σ),step s x=some s'->∀ (ψ1:Env) (S1:Nat->Prop) (w1:World),
   awpR l P assign { n:=st.n,tmps:=(p, .fz (enc x))::st.tmps,heap:=(gw, .was ψ1 st.ids S1 w1)::Hc s,ids:=gw::st.ids,dfr:=[] } fun e st1=>e = .normal /\
    awpR l P body st1 fun e st2=>e = .normal/\LeSt st2 { n:=st.n,tmps:=[],heap:=(gw, .was ψ1 st.ids S1 w1)::Hc s',ids:=gw::st.ids,dfr:=[] }):
  klt P l enc step (kyc st tm gw l D { state := .ready,pending:=none,fn:=fn,tmps:=tm,params:=#[p],assign:=assign,body:=body,defers:=D } Hc):=by
 obtain ⟨rec,m⟩:∃ rec:LoopState->Loop,rec=fun x=>{ state:=x,pending:=none,fn:=fn,tmps:=tm,params:=#[p],assign:=assign,body:=body,defers:=D }:=⟨_,rfl⟩;rw [show ({ state := .ready,pending:=none,fn:=fn,tmps:=tm,params:=#[p],assign:=assign,body:=body,defers:=D }:Loop)=rec .ready by rw [m]];intro s x s' hst F2 S2 bs2 W v hJ G T hF ak;obtain ⟨ψ,ψ0,S1,w1,r,U,V,hD,hl,K,L⟩:=hJ S2 W (fun _ h=>h) T (fun b c=>(G b c).2.1) (fun _ _ _=>rfl) (fun _ _=>rfl);have al:¬ S2 l:=(G l hl).2.1;have am:¬ S2 D:=(G D hD).2.1;have an:=(G l hl).1;have ao:=(G D hD).1;have X:D≠l:=fun e=>by rw [e,L] at K;cases K
 have hy:=run_yield (P:=P) (args:=#[v]) L (by rw [m];rfl);have Y:(Instr.yield l #[v]).run P W = .ok (.round l fn (tm.setIfInBounds p v) assign body) W:=by rw [hy,m];simp
 clear hy;refine ⟨fn,tm.setIfInBounds p v,assign,body,Y,roundIn_of_wpIn (F:=Fence.wide) trivial ?_⟩;clear Y;obtain ⟨Fb,j⟩:∃ Fb:Nat->Prop,∀ b,Fb b↔(F2 b\/b=l\/b=D):=⟨_,fun _=>Iff.rfl⟩;obtain ⟨S0b,z⟩:∃ S0b:Nat->Prop,∀ b,S0b b↔((S2 b\/b∈bs2)/\b≠l/\b≠D):=⟨_,fun _=>Iff.rfl⟩;obtain ⟨Z,⟨aq,aa,ab,_⟩,_⟩:=r.obj gw (.was ψ0 st.ids S1 w1) (by rw [kac,qo rfl]);have A:∀ i ob,kaa ((gw, .was ψ st.ids S2 W)::Hc s) i=some ob->(i=gw/\ob = .was ψ st.ids S2 W)\/(i≠gw/\kaa (Hc s) i=some ob):=fun i ob f=>by
  rw [kac] at f;by_cases he:gw=i;rw [qo he] at f;injection f with f;exact .inl ⟨he.symm,f.symm⟩
  ·rw [qi he] at f;exact .inr ⟨Ne.symm he,f⟩
 have H:∀ i ob,kaa ((gw, .was ψ st.ids S2 W)::Hc s) i=some ob->∃ ob',kaa ((gw, .was ψ0 st.ids S1 w1)::Hc s) i=some ob':=fun i ob f=>by
  rcases A i ob f with ⟨rfl,_⟩ | ⟨M,h⟩;exact ⟨_,by rw [kac,qo rfl]⟩
  ·exact ⟨ob,by rw [kac,qi (Ne.symm M)];exact h⟩
 have ar:Sim Fb S0b W.heap.size { n:=st.n,tmps:=(p, .fz (enc x))::st.tmps,heap:=(gw, .was ψ st.ids S2 W)::Hc s,ids:=gw::st.ids,dfr:=[] } ψ S2 { tmps:=tm.setIfInBounds p v,defers:=[] } W:=by
  refine ⟨rfl,by simpa using hn,fun t=>?_,⟨fun i ob f=>?_,fun i i' ob ob' b h1 h2=>?_,T,fun b c => .inl ((z b).2 ⟨.inl c,fun e=>al (e ▸ c),fun e=>am (e ▸ c)⟩),qx _,fun b c=>?_⟩⟩
  ·show RV ψ _ S2 W ((tm.setIfInBounds p v).getD t undef) (look .any ((p, .fz (enc x))::st.tmps) t);rw [set1 (by omega),kat];by_cases h:p=t;rw [qo h,qo h];exact .fz ak
   ·rw [qi h,qi h];exact (U t).keep Ext.refl (fun _ h=>qh _ h) (fun _ h=>h) (fun _ _ _=>rfl)
  ·rcases A i ob f with ⟨rfl,rfl⟩ | ⟨M,h⟩
   ·refine ⟨Z,⟨aq,aa,ab,Ext.refl,fun _ h=>qh _ h,fun _ h=>h,fun _ _ _=>rfl⟩,fun b c=>?_⟩;rcases c with c | ⟨u,hu,_⟩;rw [aa] at c;cases c
    ·rw [ab] at hu;cases hu
   ·obtain ⟨k1,k2,k3⟩:=r.obj i ob (by rw [kac,qi (Ne.symm M)];exact h);refine ⟨k1,k2,fun b c=>?_⟩;obtain ⟨q1,q2,q3⟩:=V i ob b h c;refine ⟨(k3 b c).1,fun N=>?_, .inl ((z b).2 ⟨.inr q1,q3,q2⟩)⟩;rcases (j b).1 N with N | N | N;exact (G b q1).2.2 N;exact q3 N
    ·exact q2 N
  obtain ⟨o1,h1⟩:=H i ob h1;obtain ⟨o2,h2⟩:=H i' ob' h2;exact r.inj i i' o1 o2 b h1 h2
  ·rcases (j b).1 c with h | rfl | rfl;exact hF b h;exact an
   ·exact ao
 show assign.wpIn (Fence.wide.inRound l) 0 P _ { tmps:=tm.setIfInBounds p v,defers:=[] } W;refine wpIn_mono (J s x s' hst ψ S2 W Fb S0b _ ψ S2 _ W ar) ?_;rintro e a1 Wa ⟨st1,ψa,Sa,⟨rfl,au⟩,O,w⟩;have ac:Wa.heap[l]?=some (.loop (rec .ready)):=(w.block l ((j l).2 (.inr (.inl rfl)))).trans L;have ad:l<Wa.heap.size:=(qak.1 ac).1;have B:∀ {st':St} {ψ':Env} {S':Nat->Prop} {a':Act} {W':World},Sim Fb S0b W.heap.size st' ψ' S' a' W'->(∀ b,S' b->b≠l)/\∀ i ob b,kaa st'.heap i=some ob->Blk (ψ'.val i) b->b≠l:=fun h=>⟨fun b hS e=>by
  subst e;rcases h.core.s0 _ hS with h1 | h1;exact ((z _).1 h1).2.1 rfl
  ·omega,fun i ob b f av e=>by
  subst e;exact ((h.core.obj i ob f).2.2 _ av).2.1 ((j _).2 (.inr (.inl rfl)))⟩
 have g:∀ {W':World} {ob:Obj} (b:Nat),b≠l->(W'.putObj l ob).heap[b]?=W'.heap[b]?:=fun b h=>World.putObj_heap_other h;refine ⟨_,run_beginRound ac (by rw [m]),?_⟩;have aw:Sim Fb S0b W.heap.size st1 ψa Sa a1 (Wa.putObj l (.loop { rec .ready with state := .busy })):=O.still (fun b c _=>g b ((B O).1 b c)) World.putObj_size fun i ob b f c=>g b ((B O).2 i ob b f c);refine wpIn_mono (au Fb S0b _ ψa Sa a1 _ aw) ?_;rintro e a2 Wc ⟨st2,ψ2,Sc,⟨rfl,ax⟩,ay,y⟩;obtain ⟨ψ3,S3,Q⟩:=ax Fb S0b _ ψ2 Sc a2 Wc ay;have ae:Wc.heap[l]?=some (.loop { rec .ready with state := .busy }):=(y.block l ((j l).2 (.inr (.inl rfl)))).trans (World.putObj_heap_same ad);have af:l<Wc.heap.size:=(qak.1 ae).1;have C:=run_endRound (P:=P) none ae;have az:({ { rec .ready with state := .busy } with state:=if (none:Option Code).isNone then .ready else .done,pending:=none }:Loop)=rec .ready:=by rw [m];rfl
 rw [az] at C;have k:=Q.still (w':=Wc.putObj l (.loop (rec .ready))) (fun b c _=>g b ((B Q).1 b c)) World.putObj_size fun i ob b f c=>g b ((B Q).2 i ob b f c);obtain ⟨Wd,o⟩:∃ Wd,Wd=Wc.putObj l (.loop (rec .ready)):=⟨_,rfl⟩;rw [<- o] at C k;have ag:Wd.heap.size=Wc.heap.size:=by rw [o];exact World.putObj_size
 obtain ⟨_,⟨_,_,_,hE,_,R,E⟩,_⟩:=k.core.obj gw (.was ψ st.ids S2 W) (by show kaa ((gw, .was ψ st.ids S2 W)::Hc s') gw=_;rw [kac,qo rfl]);have a0:Wd.heap[l]?=some (.loop (rec .ready)):=by rw [o];exact World.putObj_heap_same af
 have a3:Wd.heap[D]?=some (.deferred (some [])):=by rw [o,g D X,y.block D ((j D).2 (.inr (.inr rfl))),g D X,w.block D ((j D).2 (.inr (.inr rfl)))];exact K
 have a4:W.heap.size<=Wd.heap.size:=by rw [ag];exact qav w.size (by have:=y.size;rw [World.putObj_size] at this;exact this)
 have a5:∀ i ob,kaa (Hc s') i=some ob->kaa ((gw, .was ψ st.ids S2 W)::Hc s') i=some ob:=fun i ob f=>by rw [kac,qi (fun e=>by subst e;rw [S] at f;cases f)];exact f
 have ah:∀ i ob b,kaa (Hc s') i=some ob->Blk (ψ3.val i) b->b<Wd.heap.size/\¬ S3 b/\¬ F2 b/\b≠D/\b≠l/\(b∈bs2\/W.heap.size<=b):=fun i ob b f c=>by
  obtain ⟨_,k2,k3⟩:=k.core.obj i ob (a5 i ob f);obtain ⟨q1,q2,q3⟩:=k3 b c;refine ⟨k2.lt c,q1,fun h=>q2 ((j b).2 (.inl h)),fun h=>q2 ((j b).2 (.inr (.inr h))),fun h=>q2 ((j b).2 (.inr (.inl h))),?_⟩;rcases q3 with q3 | q3
  ·rcases ((z b).1 q3).1 with q | q;exact absurd (R b q) q1
   ·exact .inl q
  ·exact .inr q3
 have a6:∀ b,S3 b->b<Wd.heap.size/\(S2 b\/b∈bs2\/W.heap.size<=b):=fun b c=>⟨k.core.lt b c,by
  rcases k.core.s0 b c with q | q
  ·rcases ((z b).1 q).1 with q | q;exact .inl q
   ·exact .inr (.inl q)
  ·exact .inr (.inr q)⟩
 have ai:¬ S3 l:=fun h=>(B k).1 l h rfl;have aj:¬ S3 D:=fun h=>by
  rcases k.core.s0 D h with q | q;exact ((z D).1 q).2.2 rfl
  ·omega
 have a7:kyc st tm gw l D (rec .ready) Hc s' S3 (k2o ψ3 (Hc s')++[D,l]) Wd:=by
  refine ⟨ψ3,ψ,S2,W,⟨fun i ob f=>?_,k.core.inj,k.core.lt,fun _ _ => .inl trivial,qaj _,fun _ h=>h.elim⟩,fun t=>(U t).keep hE (fun _ h=>h) R E,fun i ob b f c=>?_,by simp,by simp,a3,a0⟩;obtain ⟨k1,k2,k3⟩:=k.core.obj i ob f;exact ⟨k1,k2,fun b c=>⟨(k3 b c).1,fun h=>h, .inl trivial⟩⟩
  ·obtain ⟨_,_,_,q4,q5,_⟩:=ah i ob b f c;exact ⟨List.mem_append_left _ (k46 f c),q4,q5⟩
 refine ⟨_,_,C,rfl,S3,k2o ψ3 (Hc s')++[D,l],k9z S a7,fun b c=>?_,R,a6,E,?_⟩
 ·rcases qau.1 c with c | c;obtain ⟨i,ob,h1,h2⟩:=k64 c;obtain ⟨q1,q2,q3,_,_,q6⟩:=ah i ob b h1 h2;exact ⟨q1,q2,q3,q6⟩
  ·simp only [qac,List.not_mem_nil,or_false] at c;rcases c with rfl | rfl;exact ⟨by omega,aj,(G _ hD).2.2, .inl hD⟩
   ·exact ⟨by omega,ai,(G _ hl).2.2, .inl hl⟩
 ·refine ⟨?_,?_,?_,a4,fun b c=>?_,fun d=>no0 d⟩;rw [o];exact y.os.trans w.os;rw [o];exact y.tape.trans w.tape;rw [o];exact y.output.trans w.output
  ·have I:b≠l:=fun e=>(G l hl).2.2 (e ▸ c);rw [o,g b I,y.block b ((j b).2 (.inl c)),g b I,w.block b ((j b).2 (.inl c))]
theorem kamm {σ α:Type} {P:Program} {enc:α->FV} {step:σ->α->Option σ} {g:Operand} {p gw k kd gf:Nat} {assign body:Code} {st:St} {Hc:σ->List (Nat×AObj)} {caps:List AV} {heapI:List (Nat×AObj)} {idsI ids':List Nat} {s0 s1:σ} {Ds:List Nat} {r:AV} {post:(σ->(Nat->Prop)->List Nat->World->Prop)->List (Nat×AObj)} (Q:Exit->St->Prop) (hx:st.eval g = .fn gf caps) (hp:p<st.n) (aa:∀ s,kaa (Hc s) gw=none) (N:gw∉st.ids) (hk:k∉st.ids) (bd:k∉idsI) (hH:∀ i ob,kaa (Hc s0) i=some ob->kaa st.heap i=some ob) (hI:∀ i ob,kaa heapI i=some ob->kaa st.heap i=some ob/\i∈idsI/\okO idsI ob=true/\kaa (Hc s0) i=none) (am:∀ i,i∈idsI->i∈st.ids) (ay:caps.all (okA idsI)=true) (ab:∀ s,kaa (Hc s) kd=some (.xo (.opq (ken Ds)))) (be:∀ (l:Nat) (J:σ->(Nat->Prop)->List Nat->World->Prop),klt P l enc step J->HCall P gf (.fz (.atom (ydV l))::caps) ((k, .xo (.opq (J s0)))::heapI) (k::idsI) (.ret r) (post J) ids'/\kaa (post J) k=some (.xo (.opq (J s1)))) (an:∀ (l:Nat) (s:σ) (x:α) (s':σ),step s x=some s'->∀ (ψ1:Env) (S1:Nat->Prop) (w1:World),
   awpR l P assign { n:=st.n,tmps:=(p, .fz (enc x))::st.tmps,heap:=(gw, .was ψ1 st.ids S1 w1)::Hc s,ids:=gw::st.ids,dfr:=[] } fun e st1=>e = .normal /\
    awpR l P body st1 fun e st2=>e = .normal/\LeSt st2 { n:=st.n,tmps:=[],heap:=(gw, .was ψ1 st.ids S1 w1)::Hc s',ids:=gw::st.ids,dfr:=[] }) (hn:∀ D,Q .normal { n:=st.n,tmps:=st.tmps,heap:=(kd, .xo (.opq (ken (D::Ds))))::Hc s1,ids:=gw::st.ids,dfr:=kjw D::st.dfr }):awp P (.rangeFunc g #[p] assign body) st Q:=by
 intro F S0 N0 ψ S a w hs;have c:=hs.core;have ao:=hs.eval g;rw [hx] at ao;obtain ⟨lb,bf,bg,bh⟩:∃ lb:Array Value,a.eval g = .func (.func gf) #[] lb/\lb.size=caps.length/\∀ (i:Nat) (v:Value) (y:AV),lb[i]?=some v->caps[i]?=some y->RV ψ (·∈st.ids) S w v y:=by
  generalize a.eval g=u at ao;cases ao with
  | fn h hr=>exact ⟨_,rfl,h,hr⟩
 refine wpIn_rangeFunc ?_;intro fn bz;obtain ⟨W1,O⟩:∃ W1,W1=(w.alloc (.deferred (some []))).alloc (.loop { state := .ready,pending:=none,fn:=fn,tmps:=a.tmps,params:=#[p],assign:=assign,body:=body,defers:=w.heap.size }):=⟨_,rfl⟩;obtain ⟨rec,G⟩:∃ rec:Loop,rec={ state := .ready,pending:=none,fn:=fn,tmps:=a.tmps,params:=#[p],assign:=assign,body:=body,defers:=w.heap.size }:=⟨_,rfl⟩;have az:W1.heap[w.heap.size+1]?=some (.loop rec):=by rw [O,G];have:=World.alloc_heap_new (w.alloc (.deferred (some []))) (.loop { state := .ready,pending:=none,fn:=fn,tmps:=a.tmps,params:=#[p],assign:=assign,body:=body,defers:=w.heap.size });rwa [World.size_alloc] at this
 have z:Grow w W1:=by rw [O];exact Below.kit rfl (((RowKit.Below.refl _ w).alloc (qx _) _).alloc (by simp) _)
 have a0:W1.heap[w.heap.size]?=some (.deferred (some [])):=by rw [O];exact (RowKit.Below.heap_alloc _ _ _ (by simp)).trans (World.alloc_heap_new w _)
 have bt:W1.heap.size=w.heap.size+2:=by rw [O];simp
 obtain ⟨J,hJ⟩:∃ J,J=kyc st a.tmps gw (w.heap.size+1) w.heap.size rec Hc:=⟨_,rfl⟩;have hY:klt P (w.heap.size+1) enc step J:=by rw [hJ,G];exact kab2 aa hs.size hp (an (w.heap.size+1))
 obtain ⟨⟨⟨fnI,hf,a1,ag⟩,R⟩,khu⟩:=be _ J hY;have bi:fnI.body≠none:=by intro e;rw [e] at a1;cases a1
 simp only [qar,ne_eq] at ag;refine ⟨w.heap.size+1,[kjw w.heap.size],W1,{ target := .fn (.func gf) lb,args:=#[ydV (w.heap.size+1)] },W1,gf,#[ydV (w.heap.size+1)]++lb,W1,?_,?_,fun _ _=>trivial,?_,(fun h=>by cases h),?_⟩;rw [O];exact run_enterLoop_outer _ _ _ _ _;simp only [resolve,bf];simp [go_sem,ydV];simp [invoke,callFunc,hf,bi,ag,go_sem];refine k0u ?_;obtain ⟨D,hD⟩:∃ D,D=w.heap.size:=⟨_,rfl⟩;obtain ⟨l,hl⟩:∃ l,l=w.heap.size+1:=⟨_,rfl⟩;rw [<- hl,<- hD] at hJ;rw [<- hl] at az ⊢;rw [<- hD] at a0 ⊢;have bj:D≠l:=by omega
 have ac:Same S w W1:=Same.of_grow z;rw [<- hl] at R
 -- the consumer's objects
 obtain ⟨ψg,aq⟩:∃ ψg,ψg=ψ.set gw 0 .nilFunc:=⟨_,rfl⟩;have T:=c.add (n:=0) (v := .nilFunc) (w':=W1) (ob := .was ψ st.ids S w) z N (fun b f=>by cases f) ⟨kbf _ _,by rw [kai];rfl,by rw [kai];rfl,ka8 N _ _,fun i hi=>qh _ hi,fun b f=>f,ac⟩;rw [<- aq] at T;have U:∀ i ob,kaa ((gw, .was ψ st.ids S w)::Hc s0) i=some ob->kaa ((gw, .was ψ st.ids S w)::st.heap) i=some ob:=fun i ob m=>by
  rw [kac] at m ⊢;by_cases he:gw=i;rw [qo he] at m ⊢; exact m
  ·rw [qi he] at m ⊢; exact hH i ob m
 have ah:∀ i,i≠gw->ψg.val i=ψ.val i:=fun i hi=>by rw [aq];exact (ka6 _ hi _ _).2
 have E:∀ i ob,kaa (Hc s0) i=some ob->i≠gw:=fun i ob m e=>by subst e;rw [aa] at m;cases m
 obtain ⟨bs0,H⟩:∃ bs0,bs0=k2o ψg (Hc s0)++[D,l]:=⟨_,rfl⟩;have ar:∀ b,b∈bs0->(∃ i ob,kaa (Hc s0) i=some ob/\Blk (ψ.val i) b)\/b=D\/b=l:=fun b f=>by
  rw [H] at f;rcases qau.1 f with f | f;obtain ⟨i,ob,h1,A⟩:=k64 f;exact .inl ⟨i,ob,h1,by rw [<- ah i (E i ob h1)];exact A⟩
  ·simp only [qac,List.not_mem_nil,or_false] at f;exact .inr f
 have a2:kyc st a.tmps gw l D rec Hc s0 S bs0 W1:=by
  refine ⟨ψg,ψ,S,w,⟨fun i ob m=>?_,fun i i' o o' b h1 A=>T.inj i i' o o' b (U i o h1) (U i' o' A),T.lt,fun _ _ => .inl trivial,qaj _,fun _ h=>h.elim⟩,fun t=>?_,fun i ob b m f=>?_,by rw [H];simp,by rw [H];simp,a0,az⟩;obtain ⟨k1,k2,k3⟩:=T.obj i ob (U i ob m);exact ⟨k1,k2,fun b f=>⟨(k3 b f).1,fun h=>h, .inl trivial⟩⟩;refine (hs.tmps t).keep ?_ (fun _ h=>h) (fun _ h=>h) ac;rw [aq];exact ka8 N _ _
  ·have b0:=(c.obj i ob (hH i ob m)).2.1.lt (by rw [<- ah i (E i ob m)];exact f);refine ⟨?_,by omega,by omega⟩;rw [H];exact List.mem_append_left _ (k46 m f)
 -- what the function is bc
 obtain ⟨ψk,au⟩:∃ ψk,ψk=ψ.set k 0 (.tuple (bs0.map fun b => .pointer (some ⟨b,0,none⟩)).toArray):=⟨_,rfl⟩;have bk:Ext (·∈st.ids) ψ ψk:=by rw [au];exact ka8 hk _ _
 have a3:∀ i,i∈idsI->i≠k:=fun i hi e=>bd (e ▸ hi);have q:∀ i,i∈idsI->ψk.len i=ψ.len i/\ψk.val i=ψ.val i:=fun i hi=>by rw [au];exact ka6 _ (a3 i hi) _ _
 have ai:Ext (·∈idsI) ψ ψk:=fun i hi=>bk i (am i hi);have a4:Core F S0 N0 ((k, .xo (.opq (J s0)))::heapI) (k::idsI) ψk S W1:=by
  have ad:∀ i ob,kaa ((k, .xo (.opq (J s0)))::heapI) i=some ob->(i=k/\ob = .xo (.opq (J s0)))\/(i≠k/\kaa heapI i=some ob):=fun i ob m=>by
   rw [kac] at m;by_cases he:k=i;rw [qo he] at m;injection m with m;exact .inl ⟨he.symm,m.symm⟩
   ·rw [qi he] at m;exact .inr ⟨Ne.symm he,m⟩
  have ae:ψk.val k = .tuple (bs0.map fun b => .pointer (some ⟨b,0,none⟩)).toArray:=by rw [au];exact kai _ _
  have aj:∀ i ob b,kaa heapI i=some ob->Blk (ψ.val i) b->b∉bs0:=fun i ob b m f hm=>by
   obtain ⟨h1,_,_,h4⟩:=hI i ob m;rcases ar b hm with ⟨j,oj,h5,h6⟩ | rfl | rfl;exact c.inj j i oj ob b (hH j oj h5) h1 (fun e=>by subst e;rw [h4] at h5;cases h5) h6 f;have:=(c.obj i ob h1).2.1.lt f;omega
   ·have:=(c.obj i ob h1).2.1.lt f;omega
  refine ⟨fun i ob m=>?_,fun i i' o o' b h1 A E V K=>?_,T.lt,c.s0,qav c.n0 z.size,fun b f=>qa8 (c.fr b f) z.size⟩
  ·rcases ad i ob m with ⟨rfl,rfl⟩ | ⟨_,h⟩
   ·refine ⟨qu ..,⟨bs0,ae,fun b f=>?_,by rw [hJ];exact k9z aa a2⟩,fun b f=>?_⟩
    ·rcases ar b f with ⟨j,oj,h5,h6⟩ | rfl | rfl;have:=(c.obj j oj (hH j oj h5)).2.1.lt h6;omega;omega
     ·omega
    ·rw [ae] at f;rcases ar b (blk_ptrs.1 f) with ⟨j,oj,h5,h6⟩ | rfl | rfl;exact (c.obj j oj (hH j oj h5)).2.2 b h6;exact ⟨fun h=>by have:=c.lt _ h;omega,fun h=>by have:=c.fr _ h;omega, .inr (by have:=c.n0;omega)⟩
     ·exact ⟨fun h=>by have:=c.lt _ h;omega,fun h=>by have:=c.fr _ h;omega, .inr (by have:=c.n0;omega)⟩
   ·obtain ⟨h1,A,h3,h4⟩:=hI i ob h;obtain ⟨k1,k2,k3⟩:=c.obj i ob h1;refine ⟨qh _ A,(k2.subA h3).keep ai (fun _ h=>qh _ h) (fun _ h=>h) ac (q i A) (fun b f=>z.block b (k2.lt f)),fun b f=>?_⟩;rw [(q i A).2] at f;exact k3 b f
  ·rcases ad i o h1 with ⟨e1,e1'⟩ | ⟨b1,av⟩
   ·rcases ad i' o' A with ⟨e2,e2'⟩ | ⟨bl,X⟩;exact E (e1.trans e2.symm)
    ·rw [e1,ae] at V;rw [(q i' (hI i' o' X).2.1).2] at K;exact aj i' o' b X K (blk_ptrs.1 V)
   ·rw [(q i (hI i o av).2.1).2] at V;rcases ad i' o' A with ⟨e2,e2'⟩ | ⟨bl,X⟩;rw [e2,ae] at K;exact aj i o b av V (blk_ptrs.1 K)
    ·rw [(q i' (hI i' o' X).2.1).2] at K;exact c.inj i i' o o' b (hI i o av).1 (hI i' o' X).1 E V K
 have aw:∀ (i:Nat) (v:Value) (x:AV),(#[ydV l]++lb)[i]?=some v->(.fz (.atom (ydV l))::caps)[i]?=some x->RV ψk (·∈k::idsI) S W1 v x:=fun i v x hv hx=>by
  cases i with
  | zero=>
   rw [qa7 (by simp)] at hv;simp at hv hx;rw [<- hv,<- hx];exact .fz (.atom rfl)
  | succ i=>
   rw [Array.getElem?_append_right (by simp)] at hv;simp only [qag] at hx;simp only [List.size_toArray,qy,qbn,Nat.zero_add,Nat.add_sub_cancel] at hv;exact ((bh i v x hv hx).subA (qr.1 ay x (qn hx))).keep ai (fun _ h=>qh _ h) (fun _ h=>h) ac
 refine (R F S0 N0 ψk S W1 (#[ydV l]++lb) (by simp [bg];omega) aw a4).mono ?_;rintro e W2 ⟨ψ',S',⟨v,rfl,_⟩,hc2,B,bu,bv,b2,bm⟩;obtain ⟨_,⟨bs',bn,bw,bo⟩,a5⟩:=hc2.obj k _ khu;have L:∀ b∈bs',¬ S' b/\¬ F b/\(S0 b\/N0<=b):=fun b f=>a5 b (by rw [bn];exact blk_ptrs.2 f);have a6:=bo S' W2 (fun _ h=>h) hc2.lt (fun b f=>(L b f).1) (fun _ _ _=>rfl) (fun _ _=>rfl);rw [hJ] at a6;obtain ⟨ψ2,ψ0,S1,w1,k1,k2,k3,k4,k5,k6,k7⟩:=a6;have ak:=run_endLoop (P:=P) k7 (by rw [G];simp);obtain ⟨W3,M⟩:∃ W3,W3=W2.putObj l (.loop { rec with state := .exhausted }):=⟨_,rfl⟩;rw [<- M] at ak;refine ⟨rec.pending,W3,ak,?_⟩;rw [show rec.pending=none by rw [G]];have C:∀ b,b≠l->W3.heap[b]?=W2.heap[b]?:=fun b h=>by rw [M];exact World.putObj_heap_other h
 have al:W3.heap.size=W2.heap.size:=by rw [M];exact World.putObj_size
 have a7:¬ S' l:=(L l k5).1;have I:∀ i ob,kaa (Hc s1) i=some ob->kaa ((gw, .was ψ0 st.ids S1 w1)::Hc s1) i=some ob:=fun i ob m=>by rw [kac,qi (fun e=>by subst e;rw [aa] at m;cases m)];exact m
 have hA:Core F S0 N0 (Hc s1) (gw::st.ids) ψ2 S' W2:=⟨fun i ob m=>⟨(k1.obj i ob (I i ob m)).1,(k1.obj i ob (I i ob m)).2.1,fun b f=>L b (k3 i ob b m f).1⟩,fun i i' o o' b h1 A=>k1.inj i i' o o' b (I i o h1) (I i' o' A),hc2.lt,hc2.s0,hc2.n0,hc2.fr⟩;have hB:Core F S0 N0 (Hc s1) (gw::st.ids) ψ2 S' W3:=hA.still (fun b f _=>C b fun e=>a7 (e ▸ f)) al fun i ob b m f=>C b (k3 i ob b m f).2.2;obtain ⟨bx,⟨bsd,ax,a8,bp⟩,af⟩:=hB.obj kd _ (ab s1);have Y:=bp S' W3 (fun _ h=>h) hB.lt (fun b f=>(af b (by rw [ax];exact blk_ptrs.2 f)).1) (fun _ _ _=>rfl) (fun _ _=>rfl);have bq:D∉bsd:=fun h=>(k3 kd _ D (ab s1) (by rw [ax];exact blk_ptrs.2 h)).2.1 rfl;have a9:W3.heap[D]?=some (.deferred (some [])):=by rw [C D bj];exact k6
 have ba:D<W3.heap.size:=(qak.1 a9).1;have bb:OpqC (ken (D::Ds)) S' (D::bsd) W3:=by
  intro S2 w2 _ _ _ _ q5;refine ⟨List.nodup_cons.2 ⟨fun h=>bq (Y.2 D h).1,Y.1⟩,fun D' Z=>?_⟩;rcases qac.1 Z with rfl | Z;exact ⟨qu ..,(q5 _ (qu ..)).trans a9⟩
  ·exact ⟨qh _ (Y.2 D' Z).1,(q5 _ (qh _ (Y.2 D' Z).1)).trans (Y.2 D' Z).2⟩
 obtain ⟨hC,br⟩:=k4y hB (ab s1) (qx _) bb (fun b f=>by
   rcases qac.1 f with rfl | f;exact ⟨ba,(L _ k4).1,(L _ k4).2.1,(L _ k4).2.2,fun i ob _ h1 A=>(k3 i ob _ h1 A).2.1 rfl⟩
   ·have hq:Blk (ψ2.val kd) b:=(by rw [ax];exact blk_ptrs.2 f);exact ⟨a8 b f,(af b hq).1,(af b hq).2.1,(af b hq).2.2,fun i ob E h1 A=>hB.inj i kd ob _ b h1 (ab s1) E A hq⟩)
  (fun _ h=>h) (fun b f=>⟨hB.lt b f,hB.s0 b f,fun i ob _ h1 A=>((hB.obj i ob h1).2.2 b A).1 f⟩) (fun _ _ _=>rfl) (fun _ _ _ _ _ _=>rfl)
 refine ⟨_,_,S',hn D,⟨?_,hs.size,fun t=>?_,hC⟩,?_⟩;show [kjw D]++a.defers=kjw D::st.dfr;rw [hs.defers];rfl;exact (((k2 t).keep Ext.refl (fun _ h=>qh _ h) (fun _ h=>h) (fun b f _=>C b fun e=>a7 (e ▸ f))):RV ψ2 (·∈gw::st.ids) S' W3 _ _).keep br (fun _ h=>h) (fun _ h=>h) (fun _ _ _=>rfl)
 ·refine ⟨?_,?_,?_,?_,fun b f=>?_,fun d=>no0 d⟩;rw [M];exact B.os.trans z.os;rw [M];exact B.tape.trans z.tape;rw [M];exact B.output.trans z.output;rw [al];exact qav z.size B.size
  ·have bs:b≠l:=fun e=>(by have:=c.fr b f;omega);rw [C b bs,B.block b f,z.block b (c.fr b f)]
theorem kw4 {P:Program} {fn:Func} {tm:Array Value} {R:Ending->World->Prop}:∀ (Ds:List Nat) (w1:World),Ds.Nodup->(∀ D∈Ds,w1.heap[D]?=some (.deferred (some []))) ->
  (∀ w2:World,w2.os=w1.os->w2.tape=w1.tape->w2.output=w1.output->w2.heap.size=w1.heap.size->(∀ b,b∉Ds->w2.heap[b]?=w1.heap[b]?)->∃ v,(results fn tm).run P w2 = .ok v w2/\R (.returned v) w2)->LeavesInM Fence.wide 0 P fn tm R (Ds.map kjw) .returning w1
 | [],w1,_,_,h=>h w1 rfl rfl rfl rfl fun _ _=>rfl
 | D::Ds,w1,hn,c,h=>by
  rw [List.nodup_cons] at hn;refine ⟨fun e=>(by cases e), .inl ⟨D,w1.putObj D (.deferred none),rfl,run_takeDeferred (c D (qu ..)),kw4 Ds _ hn.2 (fun D' a=>?_) fun w2 h1 f g i j=>h w2 h1 f g (i.trans World.putObj_size) fun b d=>?_⟩⟩;rw [World.putObj_heap_other (fun e:D'=D=>hn.1 (e ▸ a))];exact c D' (qh _ a)
  ·rw [j b fun h=>d (qh _ h),World.putObj_heap_other (fun e:b=D=>d (by rw [e];exact qu ..))]
def hmQ (T:List (TypeId×TD)) (rs:List ResultVar) (g kd:Nat) (ids:List Nat) (res:AV) (post:List (Nat×AObj)) (ids':List Nat) (ψ0:Env) (S1:Nat->Prop) (w0:World) (e:Exit) (st:St):Prop:=
 ∃ (st2:St) (Ds:List Nat),LeSt st st2/\st2.heap=(kd, .xo (.opq (ken Ds)))::(g, .was ψ0 ids S1 w0)::post/\st2.ids=kd::g::ids'/\st2.dfr=Ds.map kjw/\(e = .normal\/e = .ret)/\retA T { n:=st2.n,tmps:=st2.tmps,heap:=(g, .was ψ0 ids S1 w0)::post,ids:=st2.ids,dfr:=[] } rs=some res
theorem defs0 {S:Nat->Prop} {w:World}:OpqC (ken []) S [] w:=fun _ _ _ _ _ _ _=>⟨List.nodup_nil,fun D h=>nomatch h⟩
theorem k72 {T : List (TypeId × TD)} (hT : TOk P T) {f : FuncId} {fn : Func} {c : Code} {args : List AV} {pre : List (Nat × AObj)} {ids : List Nat} {res : AV} {post : List (Nat × AObj)} {ids' : List Nat} {g kd : Nat} (hf : P.funcs[f]? = some fn) (j : fn.body = some c) (hn : (fn.name == "runtime.NumGoroutine") = false)
  (M:Nat.ble args.length fn.ntmps=true) (L:ids.contains g=false) (r:(g::ids).contains kd=false) (aa:(kd::g::ids').contains kd=true/\(kd == g)=false/\ids'.contains g=false/\ids'.contains kd=false) (ab:(post.all fun p=>okO ids' p.2)=true) (hE:okA ids' res=true) (hk:(post.all fun p=>ids'.contains p.1)=true)
  (h:∀ ψ0 S1 w0,awp P c { n:=fn.ntmps,tmps:=argT 0 args,heap:=(kd, .xo (.opq (ken [])))::(g, .was ψ0 ids S1 w0)::pre,ids:=kd::g::ids } (hmQ T fn.results.toList g kd ids res post ids' ψ0 S1 w0)):HCall P f args pre ids (.ret res) post ids':=by
 have M:=qs M;have L:g∉ids:=by simpa using L
 have r:kd∉g::ids:=by simpa using r
 obtain ⟨_,y,s,o⟩:=aa;have s:g∉ids':=by simpa using s
 have o:kd∉ids':=by simpa using o
 have y:kd≠g:=by simpa using y
 refine ⟨⟨fn,hf,by rw [j];rfl,hn⟩,fun F S0 N0 ψ S w vs hs hr hc=>(callsIn_wide (n:=0)).1 (callsIn_of_wp_marks (F:=Fence.wide) hf j trivial ?_)⟩;have C:=hc.add (n:=0) (v := .nilFunc) (w':=w) (ob := .was ψ ids S w) (kaf _) L (fun b j=>by cases j)
  ⟨kbf _ _,by rw [kai];rfl,by rw [kai];rfl,ka8 L _ _,fun i hi=>qh _ hi,fun b j=>j,fun _ _ _=>rfl⟩
 have z:=C.addB (n:=0) (v := .tuple #[]) (w':=w) (ob := .xo (.opq (ken []))) (kaf _) r (fun b j=>by
  rcases j with j | ⟨u,hu,_⟩;cases j
  ·cases hu) ⟨[],by rw [kai];rfl,(fun b j=>nomatch j),defs0⟩
 have ac:=ka8 (ψ:=ψ) L 0 .nilFunc;have ad:=ka8 (ψ:=ψ.set g 0 .nilFunc) r 0 (.tuple #[]);have N:Sim F S0 N0 { n:=fn.ntmps,tmps:=argT 0 args,heap:=(kd, .xo (.opq (ken [])))::(g, .was ψ ids S w)::pre,ids:=kd::g::ids } ((ψ.set g 0 .nilFunc).set kd 0 (.tuple #[])) S
   { tmps:=vs++Array.replicate (fn.ntmps - vs.size) undef,defers:=[] } w:=by
  refine ⟨rfl,by simp;omega,fun t=>?_,z⟩;show RV _ _ _ w _ (look .any (argT 0 args) t);rcases kla args 0 t with h | ⟨x,_,h1,q⟩;rw [h];exact .any
  ·rw [q];have h1:args[t]?=some x:=(by simpa using h1);have E:t<vs.size:=(by rw [hs];exact (qg.1 h1).1);have:(vs++Array.replicate (fn.ntmps - vs.size) undef).getD t undef=vs[t]:=(by rw [qam,qa7 E];simp [E]);rw [this];exact ((hr t _ x (by simp [E]) h1).keep ac (fun _ h=>qh _ h) (fun _ h=>h) (fun _ _ _=>rfl)).keep ad (fun _ h=>qh _ h) (fun _ h=>h) (fun _ _ _=>rfl)
 refine wpIn_mono (h _ _ _ F S0 N0 _ S _ w N) ?_;rintro e a' w' ⟨st',ψ1,S1,⟨st2,Ds,O,hh,hi,hd,he,Q⟩,ae,R⟩;obtain ⟨ψ',S',q⟩:=O F S0 N0 ψ1 S1 a' w' ae;have U:kaa st2.heap g=some (.was ψ ids S w):=by rw [hh,kac,qi y,kac,qo rfl]
 have G:kaa st2.heap kd=some (.xo (.opq (ken Ds))):=by rw [hh,kac,qo rfl]
 obtain ⟨_,⟨_,_,_,k1,k2,k3,k4⟩,_⟩:=q.core.obj g _ U;obtain ⟨_,⟨bs,V,_,af⟩,H⟩:=q.core.obj kd _ G;have I:=af S' w' (fun _ h=>h) q.core.lt (fun b j=>(H b (by rw [V];exact blk_ptrs.2 j)).1) (fun _ _ _=>rfl) (fun _ _=>rfl);have X:∀ i,i∈ids->i∈ids':=fun i J=>by
  have:=k2 i J;rw [hi] at this;rcases qac.1 this with rfl | h;exact absurd (qh _ J) r
  ·rcases qac.1 h with rfl | h;exact absurd J L
   ·exact h
 have khu:∀ i ob,kaa post i=some ob->i∈ids'/\okO ids' ob=true:=fun i ob a=>by
  have hm:∀ {l:List (Nat×AObj)},kaa l i=some ob->(i,ob)∈l:=fun {l}=>by
   induction l with
   | nil=>intro h;cases h
   | cons p l ih=>
    intro h;obtain ⟨k,v⟩:=p;rw [kac] at h;split at h;rename_i hk;subst hk;injection h with h;subst h;exact qu ..
    ·exact qh _ (ih h)
  have hm:=hm a;exact ⟨by simpa using qr.1 hk _ hm,by simpa using qr.1 ab _ hm⟩
 have hl:∀ i ob,kaa post i=some ob->kaa st2.heap i=some ob:=fun i ob a=>by have ag:g≠i:=fun e=>s (e ▸ (khu i ob a).1);have Y:kd≠i:=fun e=>o (e ▸ (khu i ob a).1);rw [hh,kac,qi Y,kac,qi ag];exact a
 have A:Core F S0 N0 post ids' ψ' S' w':=by refine ⟨fun i ob a=>?_,fun i i' ob ob' b a ah=>q.core.inj i i' ob ob' b (hl i ob a) (hl i' ob' ah),q.core.lt,q.core.s0,q.core.n0,q.core.fr⟩;obtain ⟨_,m2,m3⟩:=q.core.obj i ob (hl i ob a);exact ⟨(khu i ob a).1,m2.subA (khu i ob a).2,m3⟩
 have B:∀ D∈Ds,Blk (ψ'.val kd) D:=fun D hD=>by rw [V];exact blk_ptrs.2 (I.2 D hD).1
 have fin:LeavesInM Fence.wide 0 P fn a'.tmps (fun e w'=>∃ ψ'' S'',HEnd.is e ψ'' (·∈ids') S'' w' (.ret res)/\Core F S0 N0 post ids' ψ'' S'' w'/\Fr F w w'/\Ext (·∈ids) ψ ψ''/\(∀ i,i∈ids->i∈ids')/\(∀ b,S b->S'' b)/\Same S w w') a'.defers .returning w':=by
  rw [q.defers,hd];refine kw4 Ds w' I.1 (fun D hD=>(I.2 D hD).2) fun w2 q1 q2 q3 q4 q5=>?_;have ai:∀ b,S' b->w2.heap[b]?=w'.heap[b]?:=fun b j=>q5 b fun hm=>(H b (B b hm)).1 j;have m:Same S' w' w2:=fun b j _=>ai b j;have K:∀ i ob,kaa ((g, .was ψ ids S w)::post) i=some ob->kaa st2.heap i=some ob/\i≠kd:=fun i ob a=>by
   rw [kac] at a;by_cases Z:g=i;subst Z;rw [qo rfl] at a;injection a with a;subst a;exact ⟨U,Ne.symm y⟩
   ·rw [qi Z] at a;exact ⟨hl i ob a,fun e=>o (e ▸ (khu i ob a).1)⟩
  have aj:Sim F S0 N0 { n:=st2.n,tmps:=st2.tmps,heap:=(g, .was ψ ids S w)::post,ids:=st2.ids,dfr:=[] } ψ' S' { tmps:=a'.tmps,defers:=[] } w2:=
   ⟨rfl,q.size,fun t=>(q.tmps t).keep Ext.refl (fun _ h=>h) (fun _ h=>h) m,
    (show Core F S0 N0 ((g, .was ψ ids S w)::post) st2.ids ψ' S' w' from q.core.look fun i ob a=>(K i ob a).1).still m q4 fun i ob b a j=>q5 b fun hm=>q.core.inj i kd ob _ b (K i ob a).1 G (K i ob a).2 j (B b hm)⟩
  have hst:Core F S0 N0 post ids' ψ' S' w2:=A.still m q4 fun i ob b a j=>q5 b fun hm=>q.core.inj i kd ob _ b (hl i ob a) G (fun e=>o (e ▸ (khu i ob a).1)) j (B b hm);obtain ⟨v,e1,e2⟩:=k3f hT aj Q;exact ⟨v,e1,ψ',S',⟨v,rfl,e2.subA hE⟩,hst,⟨q1.trans R.os,q2.trans R.tape,q3.trans R.output,by rw [q4];exact R.size,fun b j=>(q5 b fun hm=>(H b (B b hm)).2.1 j).trans (R.block b j),fun d=>no0 d⟩,k1,X,k3,k4.trans' m k3⟩
 rcases he with rfl | rfl <;> exact fin
theorem HCall.ren {f:FuncId} {as_ as':List AV} {preC:List (Nat×AObj)} {ids0 ids1:List Nat} {res:AV} {post:List (Nat×AObj)} {keys:List Nat} {stI:St} (hc:HCall P f as_ preC ids0 (.ret res) post ids1) (r1 r2:List (Nat×Nat))
  (a:klq stI r1 r2 keys ids0 ids1 post=true) (c:preX stI r1 r2 (renI r2 ids0) keys=some preC) (d:kog r1 (renI r2 ids0) as'=some as_):
  HCall P f as' stI.heap stI.ids (.ret (renA r2 res)) (renH r2 post++kir (renI r2 ids0) stI.heap) (renI r2 ids1++stI.ids):=by
 refine ⟨hc.1,fun F S0 N0 ψ S w vs g hr b=>?_⟩;obtain ⟨e3,e4⟩:=k0j (cs:=vs) d;refine (kzk hc r1 r2 b a c (by rw [g,e3]) fun i v y hv hy=>?_).mono ?_;obtain ⟨z,h1,h,rfl⟩:=e4 _ y hy;exact ⟨z,rfl,(hr i v z hv h1).subA h⟩
 ·rintro e w' ⟨ψ',S',h1,h,j,k,l,m⟩;exact ⟨ψ',S',h1,h,j,k,fun i hi=>List.mem_append_right _ hi,l,m⟩
section
variable {P:Program} [t:Tab P] {Q:Exit->St->Prop} {g:Cfg}
theorem yld [Rd] (k:Nat) {σ α:Type} {enc:α->FV} {step:σ->α->Option σ} {J:σ->(Nat->Prop)->List Nat->World->Prop} {l:Nat} {s s':σ} (z:α) (x y:Operand) (ts:Array TypeId) (id:Nat) (b:klt P l enc step J) (hst:step s z=some s') (c:C1) (h:W P (rsmA (.fz (.atom (.bool true))) ((id, .xo (.opq (J s')))::(stOf (crun P k g)).heap) (stOf (crun P k g)).ids (crun P k g)) Q) (d:(klx (crun P k g)).op = .call { callee := .value x,args:=#[y],argTypes:=ts }:=by kernel_rfl) (hx:(stOf (crun P k g)).eval x = .fz (.atom (ydV l)):=by kernel_rfl) (hy:co1 c ((stOf (crun P k g)).eval y) = .fz (enc z):=by kernel_rfl) (a:kaa (stOf (crun P k g)).heap id=some (.xo (.opq (J s))):=by kernel_rfl) (hv:okP (crun P k g)=true:=by kernel_rfl):W P g Q:=by
 refine ka3 k ?_;generalize crun P k g=g' at *
 obtain ⟨foc,ks,st⟩:=g';unfold okP at hv;simp only at hv;split at hv
 ·rename_i os o l';split at hv;rename_i e hd;have k1:awpL P os l' (({ st with heap:=(id, .xo (.opq (J s')))::st.heap }:St).put o.dst (.fz (.atom (.bool true)))) (kgu P ks Q):=(by unfold W at h;exact h);unfold W;exact kajo b hst d hx c hy a e (kmp hd) k1
  ·cases hv
 ·cases hv
theorem rfW (k:Nat) {σ α:Type} {enc:α->FV} {step:σ->α->Option σ} {gg:Operand} {p:Nat} (gw kk kd:Nat) {gf:Nat} {assign body:Code} {st:St} (Hc:σ->List (Nat×AObj)) {caps:List AV} (heapI:List (Nat×AObj)) (idsI:List Nat) {ids':List Nat} (s0 s1:σ) (Ds:List Nat) {r:AV} (post:(σ->(Nat->Prop)->List Nat->World->Prop)->List (Nat×AObj)) (c:(crun P k g).foc = .code (.rangeFunc gg #[p] assign body)) (hst:stOf (crun P k g)=st) (hx:st.eval gg = .fn gf caps) (hp:p<st.n) (h:∀ s,kaa (Hc s) gw=none) (d:gw∉st.ids) (hk:kk∉st.ids) (j:kk∉idsI) (t:∀ i ob,kaa (Hc s0) i=some ob->kaa st.heap i=some ob) (u:∀ i ob,kaa heapI i=some ob->kaa st.heap i=some ob/\i∈idsI/\okO idsI ob=true/\kaa (Hc s0) i=none) (a:∀ i,i∈idsI->i∈st.ids) (f:caps.all (okA idsI)=true) (m:∀ s,kaa (Hc s) kd=some (.xo (.opq (ken Ds)))) (o:∀ (l:Nat) (J:σ->(Nat->Prop)->List Nat->World->Prop),klt P l enc step J->HCall P gf (.fz (.atom (ydV l))::caps) ((kk, .xo (.opq (J s0)))::heapI) (kk::idsI) (.ret r) (post J) ids'/\kaa (post J) kk=some (.xo (.opq (J s1)))) (b:∀ (l:Nat) (s:σ) (x:α) (s':σ),step s x=some s'->∀ (ψ1:Env) (S1:Nat->Prop) (w1:World),
   awpR l P assign { n:=st.n,tmps:=(p, .fz (enc x))::st.tmps,heap:=(gw, .was ψ1 st.ids S1 w1)::Hc s,ids:=gw::st.ids,dfr:=[] } fun e st1=>e = .normal /\
    awpR l P body st1 fun e st2=>e = .normal/\LeSt st2 { n:=st.n,tmps:=[],heap:=(gw, .was ψ1 st.ids S1 w1)::Hc s',ids:=gw::st.ids,dfr:=[] }) (hn:∀ D,W P (unwN (ksOf (crun P k g)) { n:=st.n,tmps:=st.tmps,heap:=(kd, .xo (.opq (ken (D::Ds))))::Hc s1,ids:=gw::st.ids,dfr:=kjw D::st.dfr }) Q):W P g Q:=by
 refine ka3 k ?_;generalize crun P k g=g' at *
 obtain ⟨foc,ks,st'⟩:=g';obtain rfl:st'=st:=hst;obtain rfl:foc=_:=c;have q:∀ D,kgu P ks Q .normal { n:=st'.n,tmps:=st'.tmps,heap:=(kd, .xo (.opq (ken (D::Ds))))::Hc s1,ids:=gw::st'.ids,dfr:=kjw D::st'.dfr }:=fun D=>koy (hn D);have key:=kamm (kgu P ks Q) hx hp h d hk j t u a f m o b q;unfold W;exact key
theorem hcxM {f: FuncId} {fn: Func} {args: List AV} {pre: List (Nat × AObj)} {ids: List Nat} {res: AV} {post: List (Nat × AObj)} {ids': List Nat} (g kd: Nat) (e: P.funcs[f]? = some fn) (c:(kd::g::ids').contains kd=true/\(kd == g)=false/\ids'.contains g=false/\ids'.contains kd=false) (h:∀ ψ0 S1 w0,W P ⟨.code (kjb fn),[],{ n:=fn.ntmps,tmps:=argT 0 args,heap:=(kd, .xo (.opq (ken [])))::(g, .was ψ0 ids S1 w0)::pre,ids:=kd::g::ids }⟩ (hmQ t.T fn.results.toList g kd ids res post ids' ψ0 S1 w0)) (i: fn.body.isSome = true:=by kernel_rfl) (hn: (fn.name == "runtime.NumGoroutine") = false:=by kernel_rfl) (a:Nat.ble args.length fn.ntmps=true:=by kernel_rfl) (j:ids.contains g=false:=by kernel_rfl) (b:(g::ids).contains kd=false:=by kernel_rfl) (d:(post.all fun p=>okO ids' p.2)=true:=by kernel_rfl) (k:okA ids' res=true:=by kernel_rfl) (hk:(post.all fun p=>ids'.contains p.1)=true:=by kernel_rfl):HCall P f args pre ids (.ret res) post ids':=
 k72 t.ok e (kpu i) hn a j b c d k hk fun ψ0 S1 w0=>k05 (h ψ0 S1 w0)
theorem lhM (k:Nat) {rs:List ResultVar} {gi kd:Nat} {ids ids':List Nat} {res:AV} {post:List (Nat×AObj)} {ψ0:Env} {S1:Nat->Prop} {w0:World} (Ds:List Nat) (st2:St) (hl:LeSt (stOf (crun P k g)) st2) (b:st2.heap=(kd, .xo (.opq (ken Ds)))::(gi, .was ψ0 ids S1 w0)::post:=by rfl) (hi:st2.ids=kd::gi::ids':=by rfl) (hd:st2.dfr=Ds.map kjw:=by rfl) (hc:(nilK (crun P k g) && kjx (crun P k g).foc)=true:=by kernel_rfl) (hr:retA t.T { n:=st2.n,tmps:=st2.tmps,heap:=(gi, .was ψ0 ids S1 w0)::post,ids:=st2.ids,dfr:=[] } rs=some res:=by kernel_rfl):W P g (hmQ t.T rs gi kd ids res post ids' ψ0 S1 w0):=by
 refine ka3 k ?_;generalize crun P k g=g' at *
 obtain ⟨foc,ks,st⟩:=g';simp only [qp] at hc;cases ks with
 | cons=>cases hc.1
 | nil=>
  have a:kjx foc=true:=hc.2;unfold kjx at a;split at a;unfold W;exact ⟨st2,Ds,hl,b,hi,hd, .inl rfl,hr⟩;unfold W;exact ⟨st2,Ds,hl,b,hi,hd, .inr rfl,hr⟩
  ·cases a
theorem lpD {β σ α γ:Type} {r:β} {step:σ->Option (σ ⊕ α)} {n:Nat} {s0:σ} {K:α->Option β} (k:Nat) (H:σ->γ->St) (e:Exit) (J:α->γ->St) (g0:γ) (h:Option.bind (kab step n s0) K=some r) (h0:LeSt (stOf (crun P k g)) (H s0 g0)) (j:∀ s gg r',step s=some r'->W P (kpg (kps (crun P k g)) (H s gg)) (Sum.elim (fun s' e st=>e = .normal/\∃ gg',LeSt st (H s' gg')) (fun v e' st=>(e' ≠ .normal/\e' ≠ .outgrown)/\(e'=e/\∃ gg',LeSt st (J v gg'))) r')) (ha:∀ v gg,K v=some r->W P (unw e (ksOf (crun P k g)) (J v gg)) Q) (hc:knu (crun P k g)=true:=by kernel_rfl):W P g Q:=by
 obtain ⟨b,f,i⟩:=ql.1 h;refine lpI ((σ×γ)×Nat) k (fun p=>H p.1.1 p.1.2) (fun p=>kab step p.2 p.1.1=some b) (fun p=>p.2) (fun e' st=>e'=e/\∃ gg,LeSt st (J b gg)) ((s0,g0),n) f hc h0 (fun p hp=>?_) fun e' st' d=>?_
 ·obtain ⟨⟨s,gg⟩,m⟩:=p;cases m with
  | zero=>cases hp
  | succ m=>
   simp only [kab] at hp;cases hst:step s with
   | none=>rw [hst] at hp;cases hp
   | some x=>
    rw [hst] at hp;have:=j s gg x hst;obtain ⟨c,a⟩:∃ c,kps (crun P k g)=⟨.code c,[],(crun P k g).st⟩:=by
     unfold knu at hc;unfold kps;split at hc;rename_i c o;exact ⟨c,rfl⟩
     ·cases hc
    rw [a] at this ⊢;refine kal1 (kv5 (c:=c) (k05 this) ?_);intro e' st d;cases x with
    | inl s'=>
     obtain ⟨l,gg',hl⟩:=d;exact .inl ⟨l,((s',gg'),m),⟨hp,Nat.lt_succ_self m⟩,hl⟩
    | inr v=>
     obtain rfl:=qw hp;exact .inr ⟨d.1,d.2⟩
 ·obtain ⟨rfl,gg,hl⟩:=d;exact ⟨_,hl,ha b gg i⟩
theorem ljD (k:Nat) {e:Exit} {γ:Type} {J:γ->St} (gg:γ) (hl:LeSt (stOf (crun P k g)) (J gg)) (hc:(nilK (crun P k g) && kju (crun P k g).foc e)=true:=by kernel_rfl):W P g fun e' st=>e'=e/\∃ gg,LeSt st (J gg):=by
 refine ka3 k ?_;generalize crun P k g=g' at *
 obtain ⟨foc,ks,st⟩:=g';simp only [qp] at hc;cases ks with
 | cons=>cases hc.1
 | nil=>
  obtain ⟨rfl,_⟩:=knc hc.2;unfold W;exact ⟨rfl,gg,hl⟩
theorem loD (k:Nat) {e:Exit} {γ:Type} {J:γ->St} (gg:γ) (hl:LeSt (stOf (crun P k g)) (J gg)) (hc:(nilK (crun P k g) && (!kju (crun P k g).foc .normal && kju (crun P k g).foc e))=true:=by kernel_rfl):W P g fun e' st=>(e' ≠ .normal/\e' ≠ .outgrown)/\(e'=e/\∃ gg,LeSt st (J gg)):=by
 refine ka3 k ?_;generalize crun P k g=g' at *
 obtain ⟨foc,ks,st⟩:=g';simp only [qp,qbp] at hc;cases ks with
 | cons=>cases hc.1
 | nil=>
  obtain ⟨rfl,a⟩:=knc hc.2.2;unfold W;refine ⟨⟨fun h=>?_,fun h=>?_⟩,rfl,gg,hl⟩;subst h;cases hc.2.1
  ·rcases a with rfl | rfl | ⟨i,rfl⟩ <;> cases h
theorem kakw {l:Nat} {Q:Exit->St->Prop} (k:Nat) {body:Code} {st':St} (hc:(nilK (crun P k g) && kju (crun P k g).foc .normal)=true) (hl:LeSt (stOf (crun P k g)) st') (h:awpR l P body st' Q):@W dr0 ⟨some l⟩ P g (fun e st1=>e = .normal/\awpR l P body st1 Q):=by
 refine @ka3 dr0 P _ ⟨some l⟩ t k _ ?_;generalize crun P k g=g' at *
 obtain ⟨foc,ks,st⟩:=g';simp only [qp] at hc;cases ks with
 | cons=>cases hc.1
 | nil=>
  obtain ⟨rfl,_⟩:=knc hc.2;unfold W;exact ⟨rfl,@kae9 dr0 P _ ⟨some l⟩ _ _ _ hl h⟩
def rfOf:Code->Code
 | .rangeFunc f p a b => .rangeFunc f p a b
 | .seq a b=>match rfOf a with
  | .skip=>rfOf b
  | c=>c
 | .cond _ a b=>match rfOf a with
  | .skip=>rfOf b
  | c=>c
 | .block _ b=>rfOf b
 | .loop b=>rfOf b
 | .scope b=>rfOf b
 | _ => .skip
def rfA:Code->Code
 | .rangeFunc _ _ a _=>a
 | c=>c
def rfB:Code->Code
 | .rangeFunc _ _ _ b=>b
 | c=>c
theorem k8b {l:Nat} {Q:Exit->St->Prop} {assign body:Code} {st st':St} (k:Nat) (hl:LeSt (stOf (crun P k ⟨.code assign,[],st⟩)) st') (h:@W dr0 ⟨some l⟩ P ⟨.code body,[],st'⟩ Q) (hc:(nilK (crun P k ⟨.code assign,[],st⟩) && kju (crun P k ⟨.code assign,[],st⟩).foc .normal)=true:=by kernel_rfl):
  awpR l P assign st fun e st1=>e = .normal/\awpR l P body st1 Q:=
 @k05 dr0 P _ _ ⟨some l⟩ _ (kakw k hc hl (@k05 dr0 P _ _ ⟨some l⟩ _ h))
theorem rfW2 (k:Nat) {σ α:Type} {enc:α->FV} {step:σ->α->Option σ} (gg:Operand) (p gf:Nat) (gw kk kd:Nat) (assign body:Code) (st:St) (Hc:σ->List (Nat×AObj)) (caps:List AV) (heapI:List (Nat×AObj)) (idsI:List Nat) (ids':List Nat) (s0 s1:σ) (Ds:List Nat) (r:AV) (post:(σ->(Nat->Prop)->List Nat->World->Prop)->List (Nat×AObj)) (hst:stOf (crun P k g)=st) (v:st.heap=Hc s0++heapI) (u:∀ (l:Nat) (J:σ->(Nat->Prop)->List Nat->World->Prop),klt P l enc step J->HCall P gf (.fz (.atom (ydV l))::caps) ((kk, .xo (.opq (J s0)))::heapI) (kk::idsI) (.ret r) (post J) ids'/\kaa (post J) kk=some (.xo (.opq (J s1)))) (f:∀ (l:Nat) (s:σ) (x:α) (s':σ),step s x=some s'->∀ (ψ1:Env) (S1:Nat->Prop) (w1:World),
   awpR l P assign { n:=st.n,tmps:=(p, .fz (enc x))::st.tmps,heap:=(gw, .was ψ1 st.ids S1 w1)::Hc s,ids:=gw::st.ids,dfr:=[] } fun e st1=>e = .normal /\
    awpR l P body st1 fun e st2=>e = .normal/\LeSt st2 { n:=st.n,tmps:=[],heap:=(gw, .was ψ1 st.ids S1 w1)::Hc s',ids:=gw::st.ids,dfr:=[] }) (hn:∀ D,W P (unwN (ksOf (crun P k g)) { n:=st.n,tmps:=st.tmps,heap:=(kd, .xo (.opq (ken (D::Ds))))::Hc s1,ids:=gw::st.ids,dfr:=kjw D::st.dfr }) Q) (j:(crun P k g).foc = .code (.rangeFunc gg #[p] assign body):=by kernel_rfl) (hx:st.eval gg = .fn gf caps:=by kernel_rfl) (hp:Nat.blt p st.n=true:=by kernel_rfl) (o:∀ s,kaa (Hc s) gw=none:=by intro _;kernel_rfl) (c:(st.ids.contains gw || (st.ids.contains kk || idsI.contains kk))=false:=by kernel_rfl) (w:(heapI.all fun p=>idsI.contains p.1 && (okO idsI p.2 && (kaa (Hc s0) p.1).isNone))=true:=by kernel_rfl) (d:idsI.all st.ids.contains=true:=by kernel_rfl) (m:caps.all (okA idsI)=true:=by kernel_rfl) (t:∀ s,kaa (Hc s) kd=some (.xo (.opq (ken Ds))):=by intro _;kernel_rfl):W P g Q:=by
 simp only [Bool.or_eq_false_iff] at c;obtain ⟨h1,y,z⟩:=c;have app1:∀ {l1 l2:List (Nat×AObj)} {i:Nat} {ob:AObj},kaa l1 i=some ob->kaa (l1++l2) i=some ob:=fun {l1 l2 i ob} h=>by
  induction l1 with
  | nil=>cases h
  | cons q l1 ih=>
   obtain ⟨a,b⟩:=q;rw [List.cons_append,kac];rw [kac] at h;split at h;rename_i e;rw [qo e];exact h
   ·rename_i e;rw [qi e];exact ih h
 have app2:∀ {l1 l2:List (Nat×AObj)} {i:Nat} {ob:AObj},kaa l1 i=none->kaa l2 i=some ob->kaa (l1++l2) i=some ob:=fun {l1 l2 i ob} h A=>by
  induction l1 with
  | nil=>exact A
  | cons q l1 ih=>
   obtain ⟨a,b⟩:=q;rw [List.cons_append,kac];rw [kac] at h;split at h;cases h
   ·rename_i e;rw [qi e];exact ih h
 have mem:∀ {l:List (Nat×AObj)} {i:Nat} {ob:AObj},kaa l i=some ob->(i,ob)∈l:=fun {l}=>by
  induction l with
  | nil=>intro i ob h;cases h
  | cons q l ih=>
   obtain ⟨a,b⟩:=q;intro i ob h;rw [kac] at h;split at h;rename_i e;subst e;injection h with h;subst h;exact qu ..
   ·exact qh _ (ih h)
 refine rfW k gw kk kd Hc heapI idsI s0 s1 Ds post j hst hx (by simpa using hp) o (by simpa using h1) (by simpa using y) (by simpa using z) (fun i ob h=>?_) (fun i ob h=>?_) (fun i hi=>?_) m t u f hn;rw [v];exact app1 h;have:=qr.1 w _ (mem h);simp only [qp] at this;obtain ⟨a1,a2,a3⟩:=this;have a3:=Option.isNone_iff_eq_none.1 a3;exact ⟨by rw [v];exact app2 a3 h,by simpa using a1,a2,a3⟩
 ·simpa using qr.1 d i hi
end
def kacn (l:List Oper) (n s:Nat):Bool:=
 k57 l n s && (Nat.blt n l.length && (l.zipIdx.all fun (_,k)=>decide (k<n) || (List.range (bif Nat.beq (k+1) l.length then n else k)).all fun j=>((kq6 l).getD k 0).testBit j))
section
variable [Rd] {P:Program}
def wpFl (P:Program) (l:List Oper) (Q:Exit->Act->World->Prop):Nat->Nat->Act->World->Prop
 | 0,k,a,w=>kbg P l.toArray Q (l.drop k) a w
 | m+1,k,a,w=>wpOp P l.toArray Q k (wpFl P l Q m (k+1)) a w/\wpOp P l.toArray Q (l.length - 1) (kbg P l.toArray Q ((l.drop k).take (m+1))) a w
structure TailF (l:List Oper) (n:Nat):Prop where
 edges:∀ k o,l[k]?=some o->∀ e∈o.after,Region.binds .any e=true->e.on<k
 tail:∀ k j,k+1<l.length->n<=k->j<k->((kq6 l).getD k 0).testBit j=true
theorem TailF.first {l:List Oper} {n k:Nat} (ok:TailF l n) (s:n<=k) {listed:Array Bool} (b:listed.size=l.length) (a:∀ i,i+1<l.length->(listed.getD i true=true↔i<k)) {i:Nat} (hi:i∈Region.ready .any l.toArray listed) (d:i+1<l.length):i=k:=by
 obtain ⟨h0,o,r,f⟩:=mem_ready.1 hi;have t:k<=i:=by
  rcases qbb i k with c | c;rw [(a i d).2 c] at h0;cases h0
  ·exact c
 rcases qbb k i with c | c
 ·exfalso;have hS:=kny (l:=l) (S:=fun j=>j<i/\listed.getD j false=true) ?_ i o (by simpa using r) ?_ k (ok.tail i k d (by omega) c);have:=(a k (by omega)).1 (by have:=hS.2;simp [b,show k<l.length by omega] at this ⊢;exact this);omega;intro m p ⟨u,g⟩ hp e h q;have v:=ok.edges m p hp e h q;refine ⟨by omega,?_⟩;have w:=(a m (by omega)).1 (by simp [b,show m<l.length by omega] at g ⊢;exact g);have h1:=(a e.on (by omega)).2 (by omega);simp [b,show e.on<l.length by omega] at h1 ⊢;exact h1
  ·intro e h q;exact ⟨ok.edges i o (by simpa using r) e h q,f e h q⟩
 ·omega
theorem TailF.ready {l:List Oper} {n k:Nat} (ok:TailF l n) {listed:Array Bool} (b:listed.size=l.length) (a:∀ i,i+1<l.length->(listed.getD i true=true↔i<k)) (hk:k<l.length) (d:listed.getD k true=false):k∈Region.ready .any l.toArray listed:=
 mem_ready.2 ⟨d,l[k],by simp [hk],fun e f g=>by have c:=ok.edges k _ (qb hk) e f g;have h1:=(a e.on (by omega)).2 c;simp [b,show e.on<l.length by omega] at h1 ⊢;exact h1⟩
theorem krs {l:List Oper} {n:Nat} (ok:TailF l n) {Q:Exit->Act->World->Prop}:∀ (m fuel k:Nat) (listed:Array Bool) (a:Act) (w:World),
  n<=k->k+m+1=l.length->listed.size=l.length->(∀ i,i+1<l.length->(listed.getD i true=true↔i<k))->listed.getD (l.length - 1) true=true->m<=fuel ->
  kbg P l.toArray Q ((l.drop k).take m) a w->kqx P .any l.toArray Q fuel listed a w
 | 0,fuel,k,listed,a,w,p,q,d,b,r,x,h=>by
  have c:Region.ready .any l.toArray listed=[]:=by
   rw [List.eq_nil_iff_forall_not_mem];intro i hi;obtain ⟨h0,o,s,_⟩:=mem_ready.1 hi;have g:i<l.length:=(by simpa using (qak.1 s).1);by_cases y:i=l.length - 1;rw [y,r] at h0;cases h0
   ·rw [(b i (by omega)).2 (by omega)] at h0;cases h0
  have h:Q .normal a w:=by simpa [kbg] using h
  cases fuel with
  | zero=>exact ⟨c,h⟩
  | succ f=>exact ⟨fun _=>h,fun i hi=>by rw [c] at hi;cases hi⟩
 | m+1,0,k,listed,a,w,p,q,d,b,r,x,h=>by omega
 | m+1,fuel+1,k,listed,a,w,p,q,d,b,r,x,h=>by
  have u:listed.getD k true=false:=by have:=mt (b k (by omega)).1 (by omega);simpa using this
  refine ⟨fun c=>?_,fun i hi=>?_⟩;have:=ok.ready d b (by omega) u;rw [c] at this;cases this
  ·obtain ⟨h0,o,s,_⟩:=mem_ready.1 hi;have g:i<l.length:=(by simpa using (qak.1 s).1);have v:i≠l.length - 1:=fun e=>(by rw [e,r] at h0;cases h0);obtain rfl:=ok.first p d b hi (by omega);rw [qan g,List.take_succ_cons] at h;have s:l.toArray[i]?=some l[i]:=(by simp [g]);have z:wpOp P l.toArray Q i (kbg P l.toArray Q ((l.drop (i+1)).take m)) a w:=(by unfold wpOp;simp only [s];exact h);refine knj (fun a' w' A=>krs ok m fuel (i+1) _ a' w' (by omega) (by omega) (by simp [d]) (fun j B=>?_) (by rw [getD_set_ne true v];exact r) (by omega) A) z;by_cases t:i=j;subst t;simp [d,g]
   ·rw [getD_set_ne true t,b j B];omega
theorem kzo {l:List Oper} {n:Nat} (ok:TailF l n) {Q:Exit->Act->World->Prop}:∀ (m fuel k:Nat) (listed:Array Bool) (a:Act) (w:World),
  n<=k->k+m+1=l.length->listed.size=l.length->(∀ i,i<l.length->(listed.getD i true=true↔i<k))->m+1<=fuel ->
  wpFl P l Q m k a w->kqx P .any l.toArray Q fuel listed a w
 | _,0,k,listed,a,w,f,q,c,b,v,h=>by omega
 | 0,fuel+1,k,listed,a,w,f,q,c,b,v,h=>by
  have p:listed.getD k true=false:=by have:=mt (b k (by omega)).1 (by omega);simpa using this
  refine ⟨fun e=>?_,fun i hi=>?_⟩;have:=ok.ready c (fun i hi=>b i (by omega)) (by omega) p;rw [e] at this;cases this
  ·obtain ⟨h0,o,r,_⟩:=mem_ready.1 hi;have d:i<l.length:=(by simpa using (qak.1 r).1);have t:i=k:=by
    rcases qbb i k with g | g;rw [(b i d).2 g] at h0;cases h0
    ·omega
   subst t;have h:kbg P l.toArray Q (l.drop i) a w:=h;rw [qan d] at h;have r:l.toArray[i]?=some l[i]:=(by simp [d]);have x:wpOp P l.toArray Q i (kbg P l.toArray Q (l.drop (i+1))) a w:=(by unfold wpOp;simp only [r];exact h);refine knj (fun a' w' g=>krs ok 0 fuel i _ a' w' (by omega) (by omega) (by simp [c]) (fun j u=>?_) ?_ (by omega) ?_) x;rw [getD_set_ne true (by omega:i≠j),b j (by omega)];rw [show l.length - 1=i by omega];simp [c,d]
   ·rw [qbe (by omega)] at g;simpa [kbg] using g
 | m+1,fuel+1,k,listed,a,w,f,q,c,b,v,h=>by
  have p:listed.getD k true=false:=by have:=mt (b k (by omega)).1 (by omega);simpa using this
  refine ⟨fun e=>?_,fun i hi=>?_⟩;have:=ok.ready c (fun i hi=>b i (by omega)) (by omega) p;rw [e] at this;cases this
  ·obtain ⟨h0,o,r,_⟩:=mem_ready.1 hi;have d:i<l.length:=(by simpa using (qak.1 r).1);by_cases y:i=l.length - 1;subst y;refine knj (fun a' w' g=>krs ok (m+1) fuel k _ a' w' f (by omega) (by simp [c]) (fun j u=>?_) (by simp [c]) (by omega) g) h.2;rw [getD_set_ne true (by omega:l.length - 1≠j),b j (by omega)]
   ·obtain rfl:=ok.first f c (fun i hi=>b i (by omega)) hi (by omega);refine knj (fun a' w' g=>kzo ok m fuel (i+1) _ a' w' (by omega) (by omega) (by simp [c]) (fun j u=>?_) (by omega) g) h.1;by_cases s:i=j;subst s;simp [c,d]
    ·rw [getD_set_ne true s,b j u];omega
def AFl (P:Program) (l:List Oper) (Q:Exit->St->Prop):Nat->Nat->St->Prop
 | 0,k,st=>awpL P l.toArray (l.drop k) st Q
 | m+1,k,st=>(∃ J,awpL P l.toArray ((l.drop k).take 1) st (fun e st1=>e = .normal/\LeSt st1 J)/\AFl P l Q m (k+1) J)/\awpL P l.toArray (l.drop (l.length - 1)++(l.drop k).take (m+1)) st Q
theorem kadi {l:List Oper} {Q:Exit->St->Prop} {F S0:Nat->Prop} {N0:Nat} {w0:World}:∀ (m k:Nat) (st:St),k+m+1=l.length->AFl P l Q m k st->∀ {ψ:Env} {S:Nat->Prop} {a:Act} {w:World},Sim F S0 N0 st ψ S a w->Fr F w0 w->wpFl P l (PostA F S0 N0 w0 Q) m k a w
 | 0,k,st,hk,h,ψ,S,a,w,hs,b=>kdn (fun e a' w' q=>q.pre b) _ _ _ (h F S0 N0 ψ S a w hs)
 | m+1,k,st,hk,h,ψ,S,a,w,hs,b=>by
  have c:k<l.length:=by omega
  obtain ⟨⟨J,h1,p⟩,g⟩:=h;have h1:=h1 F S0 N0 ψ S a w hs;have g:=kdn (Q':=PostA F S0 N0 w0 Q) (fun e a' w' q=>q.pre b) _ _ _ (g F S0 N0 ψ S a w hs);rw [qan c] at h1;have d:l.length - 1<l.length:=by omega
  rw [qan d,show l.length - 1+1=l.length by omega,List.drop_length] at g;have r:l.toArray[k]?=some l[k]:=by simp [c]
  have i:l.toArray[l.length - 1]?=some l[l.length - 1]:=by simp
  have f:∀ a' w',PostA F S0 N0 w (fun e st1=>e = .normal/\LeSt st1 J) .normal a' w'->wpFl P l (PostA F S0 N0 w0 Q) m (k+1) a' w':=fun a' w' d=>by obtain ⟨st',ψ1,S1,⟨_,j⟩,g1,g2⟩:=d;obtain ⟨ψ2,S2,g3⟩:=j F S0 N0 ψ1 S1 a' w' g1;exact kadi m (k+1) J (by omega) p g3 (b.trans g2)
  refine ⟨?_,?_⟩
  ·unfold wpOp;simp only [r];simp only [List.take_succ_cons,List.take_zero,kbg] at h1;split;rename_i n;rw [qo n] at h1;refine k6x f (fun e a' w' o d=>?_) h1;obtain ⟨_,_,_,⟨s,_⟩,_⟩:=d;exact absurd s o
   ·rename_i n;rw [qi n] at h1;exact f _ _ h1
  ·unfold wpOp;simp only [i];exact g
theorem kajk (F:Unit) (hm:P.follows .mixedOrders=true) {id:Nat} {l:List Oper} {n:Nat} {es ch ai:List Nat} {st J:St} {Q:Exit->St->Prop} (E:kacn l n st.n=true) (t:krx l n es=true) (u:st.ids.all ai.contains=true) (h:kra P l.toArray n es ch ai (fun e st1=>e = .normal/\LeSt st1 J) st n 0 (l.take n) [] st.heap st.ids none) (I:AFl P l Q (l.length - 1 - n) n J):awp P (.region id l.toArray true) st Q:=by
 obtain ⟨c,H,pn,_,v,_,x,d,f⟩:=knx (os:=l.toArray) (rest:=l.drop n) n 0 (l.take n) (fun _ => .any) (fun _=>(st.heap,st.ids)) none (by simp) (by omega) (fun e h=>by cases h) h;simp only [List.toList_toArray] at d f;simp only [kacn,qp] at E;obtain ⟨y,z,A⟩:=E;have ok:=k6y y;have K:n<l.length:=by simpa using z
 have m:∀ k j,k<l.length->n<=k->j<(bif Nat.beq (k+1) l.length then n else k)->((kq6 l).getD k 0).testBit j=true:=fun k j hk g r=>by have:=qr.1 A (l[k],k) (by rw [List.mk_mem_zipIdx_iff_getElem?];exact qb hk);simp only [qb1,qbx] at this;exact qr.1 (this.resolve_left (by omega)) j (qbk.2 r)
 have B:pn=none:=by
  cases pn with
  | none=>rfl
  | some e=>
   exfalso;rcases x e rfl with h | ⟨_,p,G⟩;cases h
   ·have C:e<l.length:=(by omega);rcases d e l[e] (qaj _) p (qb C) with ⟨_,e',b,M,_⟩ | ⟨b,_⟩ | ⟨_,b,_⟩ | ⟨_,_,_,b⟩;injection b with b;omega;exact b G;have:=b e rfl;omega
    ·exact b
 subst B;have q:(l.take n).drop n=[]:=qbe (by simp;omega);rw [q] at f;intro F S0 N0 ψ S a w hs;refine k4a (H:=H) (c:=c) (l:=l) (id:=id) hm (fun _=>ch) (fun _=>ch) ok (fun k j hk g r=>m k j hk g (by cases s:Nat.beq (k+1) l.length <;> simp <;> omega)) (wpFl P l (PostA F S0 N0 w Q) (l.length - 1 - n) n) t u (v 0 (qx _)) (fun _ _ _ _ _ _ h=>h) (fun i o hi L=>?_) hs _ (fun ψ1 S1 a1 w1 g1 g2 _=>?_) fun fuel listed a w h1 p G b=>?_
 ·rcases d i o (qaj _) hi L with ⟨_,e',b,_⟩ | b | ⟨h1,_,p⟩ | ⟨_,_,_,b⟩;cases b;exact .inl b;exact .inr ⟨h1,p⟩
  ·exact b.elim
 obtain ⟨st',ψ2,S2,⟨_,D⟩,k1,k2⟩:=f rfl F S0 N0 ψ1 S1 a1 w1 g1;obtain ⟨ψ3,S3,k3⟩:=D F S0 N0 ψ2 S2 a1 w1 k1;exact kadi _ n J (by omega) I k3 g2
 ·exact kzo (n:=n) ⟨ok.edges,fun k j hk g r=>m k j (by omega) g (by
   have s:Nat.beq (k+1) l.length=false:=by
    cases s:Nat.beq (k+1) l.length with
    | false=>rfl
    | true=>have:=qk s;omega
   rw [s];exact r)⟩ (l.length - 1 - n) fuel n listed a w (qx _) (by omega) h1 p (by omega) b
end
section
variable [Rd] {P:Program} {Q:Exit->St->Prop} [t:Tab P] {g:Cfg}
def kah7 (n:Nat) (es ai:List Nat) (g:Cfg):Bool:=match g.foc with
 | .code (.region _ os true)=>kacn os.toList n g.st.n && (krx os.toList n es && (g.st.ids.all ai.contains && Nat.beq os.toList.length (n+3)))
 | _=>false
def kaiy (n:Nat) (es ch ai:List Nat) (g:Cfg):Cfg:=match g.foc with
 | .code (.region _ os true)=>⟨.drz ⟨os,n,es,ch,ai⟩ n 0 (os.toList.take n) [] g.st.heap g.st.ids none,[],g.st⟩
 | _=>⟨.bad,g.ks,g.st⟩
def opsT (q:Bool) (k m:Nat) (ks:List Frm) (J:St) (g:Cfg):Cfg:=match g.foc with
 | .code (.region _ os true)=>⟨.ops os (bif q then os.toList.drop (os.toList.length - 1)++(os.toList.drop k).take m else (os.toList.drop k).take m),ks,J⟩
 | _=>⟨.bad,g.ks,g.st⟩
theorem dzf (k n:Nat) (es ch ai:List Nat) (J J1 J2:St) (hc:kah7 n es ai (crun P k g)=true) (h0:W P (kaiy n es ch ai (crun P k g)) fun e st=>e = .normal/\LeSt st J)
  (h1:W P (opsT false n 1 [] J (crun P k g)) fun e st=>e = .normal/\LeSt st J1) (b:W P (opsT true n 2 (ksOf (crun P k g)) J (crun P k g)) Q)
  (c:W P (opsT false (n+1) 1 [] J1 (crun P k g)) fun e st=>e = .normal/\LeSt st J2) (d:W P (opsT true (n+1) 1 (ksOf (crun P k g)) J1 (crun P k g)) Q)
  (a:W P (opsT false (n+2) 1 (ksOf (crun P k g)) J2 (crun P k g)) Q):W P g Q:=by
 refine ka3 k ?_;generalize crun P k g=g' at *
 obtain ⟨foc,ks,st⟩:=g';unfold kah7 at hc;simp only at hc;split at hc;rename_i id os;obtain ⟨l⟩:=os;simp only [qp] at hc;obtain ⟨c1,c2,c3,c4⟩:=hc;have c4:=qk c4;unfold W kaiy at h0;unfold W opsT at h1 b c d a;unfold W;refine kajk () t.mixed c1 c2 c3 h0 ?_;rw [show l.length - 1 - n=2 by omega];refine ⟨⟨J1,h1,⟨J2,c,?_⟩,d⟩,b⟩;have a:awpL P l.toArray ((l.drop (n+2)).take 1) J2 (kgu P ks Q):=a;rw [List.take_of_length_le (by simp;omega)] at a;exact a
 ·cases hc
end
set_option maxRecDepth 100000
open Go Go.RowKit Go.Proofs Go.Proofs.Tryz
set_option maxHeartbeats 2000000
attribute [local irreducible] NStep StepA kgr kiu LeSt
def ksl {σ:Type} (step:σ->List Tm->Option σ) (rule:Int) (own:List Int) (s:σ) (a0:List Tm):Option σ:=
 Option.bind (cut3 a0 0 (List.length own:Int) (List.length own:Int)) fun v1=>Option.bind (cutL a0 (List.length own:Int) a0.length) fun v2=>Option.bind (app 32 ([Tm.mk rule v1]:List Tm) v2) fun v3=>step s v3
def kur {σ:Type} (rec:List Int->Int->(σ->List Tm->Option σ)->σ->Option σ) (a0:kah) (a1:List Int) (a2:Int) (v3:List Int) (step:σ->List Tm->Option σ) (x:Int×σ):Option ((Int×σ) ⊕ σ):=
 bif decide (x.1<(List.length v3:Int)) then Option.bind (idx v3 x.1) fun v5=>Option.bind (kbo a0 v5) fun v6=>Option.bind (app 8 ([]:List Int) v6) fun v7=>Option.bind (cutL a1 1 a1.length) fun v8=>Option.bind (app 8 v7 v8) fun v9=>
  Option.bind (kev a0 v9 (w64 (a2 - 1))) fun v10=>Option.bind (rec v9 (w64 (a2 - 1)) (ksl step v5 v6) x.2) fun s'=>some (.inl (w64 (x.1+1),s'))
 else some (.inr x.2)
def kri {σ:Type} (rec:List Int->Int->(σ->List Tm->Option σ)->σ->Option σ) (a0:kah) (a1:List Int) (a2:Int) (step:σ->List Tm->Option σ) (s:σ):Option σ:=
 Option.bind (kci a0 a1 a2) fun v1=>bif !v1 then some s else bif (List.length a1:Int) == 0 then Option.bind (step s []) fun s'=>some s'
  else Option.bind (idx a1 0) fun v2=>Option.bind (kkm a0.ya v2) fun v3=>Option.bind (kab (kur rec a0 a1 a2 v3 step) fuel (0,s)) fun s'=>some s'
def kmy {σ:Type} (a0:kah):Nat->List Int->Int->(σ->List Tm->Option σ)->σ->Option σ
 | 0,_,_,_,_=>none
 | n+1,a1,a2,step,s=>kri (kmy a0 n) a0 a1 a2 step s
def lbx (a0:kah):AObj := .box 155 [fS (a0.ya.name),.fz ((eL 1 eI) (a0.ya.inputs)),.fz ((eL 2 eSy) (a0.ya.symbols)),.fz ((eL 9 eRu) (a0.ya.rules)),.fz ((eL 1 (eL 1 eB)) (a0.yp))]
def lsC (i j k:Nat) (a0:kah) (a1:List Int) (a2:Int):List (Nat×AObj):=[(i,lbx a0),(j, .box 22 [.fz ((eL 1 eI) a1)]),(k, .box 3 [fI a2])]
noncomputable def kjb! (f:FuncId):Code:=match prog.funcs[f]? with
 | some fn=>kjb fn
 | none => .skip
noncomputable def lsR:Code:=rfOf (kjb! 177)
def lsHc {σ:Type} (J:σ->(Nat->Prop)->List Nat->World->Prop) (p0:Env) (q0:Nat->Prop) (w0:World) (l:Nat) (a0:kah) (a1:List Int) (a2:Int) (Ds:List Nat) (rule:Int) (own:List Int) (s:σ):List (Nat×AObj):=
 [(5, .xo (.opq (ken Ds))),(0, .was p0 [4,1,2,3] q0 w0),(4, .xo (.opq (J s))),(1,lbx a0),(2, .box 22 [.fz ((eL 1 eI) a1)]),(3, .box 3 [fI a2]),(6, .box 219 [.fz (.atom (ydV l))]),(7, .box 3 [fI rule]),(8, .box 22 [.fz ((eL 1 eI) own)])]
def lsHd {σ:Type} (J:σ->(Nat->Prop)->List Nat->World->Prop) (p0:Env) (q0:Nat->Prop) (w0:World) (l:Nat) (a0:kah) (a1:List Int) (a2:Int) (Ds:List Nat) (s:σ):List (Nat×AObj):=
 [(5, .xo (.opq (ken Ds))),(0, .was p0 [4,1,2,3] q0 w0),(4, .xo (.opq (J s))),(1,lbx a0),(2, .box 22 [.fz ((eL 1 eI) a1)]),(3, .box 3 [fI a2])]
def lsH {σ:Type} (J:σ->(Nat->Prop)->List Nat->World->Prop) (p0:Env) (q0:Nat->Prop) (w0:World) (l:Nat) (a0:kah) (a1:List Int) (a2:Int) (v3:List Int) (Ds:List Nat) (x:Int×σ):St:=
 ⟨66,[(1, .ref 1 0 0),(2, .ref 2 0 0),(3, .ref 3 0 0),(4, .ref 6 0 0),(26, .fz ((eL 1 eI) v3)),(27,fI (List.length v3:Int)),(28,fI x.1)],lsHd J p0 q0 w0 l a0 a1 a2 Ds x.2++[(6, .box 219 [.fz (.atom (ydV l))])],[6,5,0,4,1,2,3],Ds.map kjw⟩
def lsX {σ:Type} (J:σ->(Nat->Prop)->List Nat->World->Prop) (p0:Env) (q0:Nat->Prop) (w0:World) (l:Nat) (a0:kah) (a1:List Int) (a2:Int) (Ds:List Nat) (s:σ):St:=⟨66,[],lsHd J p0 q0 w0 l a0 a1 a2 Ds s,[5,0,4,1,2,3],Ds.map kjw⟩
section
variable [Rd]
theorem k8x {σ:Type} {step:σ->List Tm->Option σ} {J:σ->(Nat->Prop)->List Nat->World->Prop} {l:Nat} (f:klt prog l (eL 2 eTmR) step J) {s s':σ} {x:List Tm} {rule:Int} {own:List Int} (h:ksl step rule own s x=some s')
  (p0:Env) (q0:Nat->Prop) (w0:World) (p1:Env) (q1:Nat->Prop) (w1:World) (a0:kah) (a1:List Int) (a2:Int) (Ds:List Nat):
  W prog ⟨.code (rfB lsR),[],{ n:=66,tmps:=[(9, .fz ((eL 2 eTmR) x)),(4, .ref 6 0 0),(6, .ref 7 0 0),(7, .ref 8 0 0)],heap:=(13, .was p1 [10,11,12,8,7,6,5,0,4,1,2,3] q1 w1)::lsHc J p0 q0 w0 l a0 a1 a2 Ds rule own s,ids:=[13,10,11,12,8,7,6,5,0,4,1,2,3],dfr:=[] }⟩
   fun e st2=>e = .normal/\LeSt st2 { n:=66,tmps:=[],heap:=(13, .was p1 [10,11,12,8,7,6,5,0,4,1,2,3] q1 w1)::lsHc J p0 q0 w0 l a0 a1 a2 Ds rule own s',ids:=[13,10,11,12,8,7,6,5,0,4,1,2,3],dfr:=[] }:=by
 unfold ksl at h;refine dz 2 9 [8] [14] (List.range 15) ?_;obtain ⟨v1,a,h⟩:=ql.1 h;refine nst 6 (kamj (d:=tt27) (t:=27) eTmR (.tmp 48) (.tmp 50) (.tmp 52) none none (List.length own:Int) (List.length own:Int) x 2 29 tt29 .i64 .i64 a tt_ok (by kernel_rfl) (by kernel_rfl) (by kernel_rfl) (by kernel_rfl) (by kernel_rfl) (by kernel_rfl) (by kernel_rfl) (by kernel_rfl) (by kernel_rfl)) (by kernel_rfl) ?_;refine dz 6 8 [2,7] [15] (List.range 16) ?_;refine zst 2 (ko5 27 tt27 15 eTmR 1 #[(0,.tmp 56)] 29 tt29 ([Tm.mk rule v1]:List (Tm)) (h:=(by kernel_rfl)) (hp:=(Eq.trans (b:=some [eTm (Tm.mk rule v1)]) (by kernel_rfl) (by simp [kig]))) (b:=(by kernel_rfl))) (by kernel_rfl) (by kernel_rfl) (by kernel_rfl) ?_;obtain ⟨v2,c,h⟩:=ql.1 h;refine nst 3 (klf 27 tt27 eTmR (.tmp 58) (some (.tmp 60)) none (some (List.length own:Int)) none x 2 29 tt29 c (s:=(by kernel_rfl)) (hd:=(by kernel_rfl)) (hk:=(by kernel_rfl)) (f:=(by kernel_rfl)) (g:=(by kernel_rfl)) (hx:=(by kernel_rfl)) (hl:=(by kernel_rfl)) (u:=(by kernel_rfl))) (by kernel_rfl) ?_;refine apZ nTmR 0 h fun v3 h=>?_;refine wle 1 (kib 62 15 (List.length (v3)) 29 2 (List.map eTmR (v3))) ?_;refine yld 0 v3 (.tmp 55) (.tmp 62) #[27] 4 f h (.one .keep) ?_;exact ljx 4 (le_a (by kernel_rfl)) (by kernel_rfl)
end
theorem k86 (a0:kah) (n:Nat)(ih:∀ (a1:List Int) (a2:Int) {σ:Type} (step:σ->List Tm->Option σ) (s s':σ),kmy a0 n a1 a2 step s=some s'->∀ (l:Nat) (J:σ->(Nat->Prop)->List Nat->World->Prop),klt prog l (eL 2 eTmR) step J ->
   HCall prog 177 [.fz (.atom (ydV l)), .ref 1 0 0, .ref 2 0 0, .ref 3 0 0] ((4, .xo (.opq (J s)))::lsC 1 2 3 a0 a1 a2) [4,1,2,3] (.ret (.fz (.tup []))) ((4, .xo (.opq (J s')))::lsC 1 2 3 a0 a1 a2) [4,1,2,3])
  (a1:List Int) (a2:Int) {σ:Type} (step:σ->List Tm->Option σ) (s s':σ) (h:kri (kmy a0 n) a0 a1 a2 step s=some s') (l:Nat) (J:σ->(Nat->Prop)->List Nat->World->Prop) (c:klt prog l (eL 2 eTmR) step J):
   HCall prog 177 [.fz (.atom (ydV l)), .ref 1 0 0, .ref 2 0 0, .ref 3 0 0] ((4, .xo (.opq (J s)))::lsC 1 2 3 a0 a1 a2) [4,1,2,3] (.ret (.fz (.tup []))) ((4, .xo (.opq (J s')))::lsC 1 2 3 a0 a1 a2) [4,1,2,3]:=by
 unfold kri at h;refine hcxM 0 5 func177 ⟨by kernel_rfl,by kernel_rfl,by kernel_rfl,by kernel_rfl⟩ ?_;intro p0 q0 w0;refine cl 10 h (kh8 _ _ _) fun v1 h=>?_;refine cd 2 h (fun h=>?_) fun h=>?_;obtain rfl:=qw h;exact lhM 1 [] ⟨66,[],(5, .xo (.opq (ken [])))::(0, .was p0 [4,1,2,3] q0 w0)::(4, .xo (.opq (J s)))::lsC 1 2 3 a0 a1 a2,[5,0,4,1,2,3],[]⟩ (le_a (by kernel_rfl));refine cd 8 h (fun h=>?_) fun h=>?_;obtain ⟨s1,hs1,h⟩:=ql.1 h;obtain rfl:=qw h;refine yld 3 [] (.tmp 19) (.const (.slice none 0 0)) #[27] 4 c hs1 (.one (.sl 2)) ?_;exact lhM 2 [] ⟨66,[],(5, .xo (.opq (ken [])))::(0, .was p0 [4,1,2,3] q0 w0)::(4, .xo (.opq (J s1)))::lsC 1 2 3 a0 a1 a2,[5,0,4,1,2,3],[]⟩ (le_a (by kernel_rfl));refine dw 2 8 (by kernel_rfl) ?_;refine ix nI 3 h fun v2 h=>?_;refine cl 1 h (kwk _ _) fun v3 h=>?_;refine lpD 5 (fun x Ds=>lsH J p0 q0 w0 l a0 a1 a2 v3 Ds x) (.exit 0) (fun s1 Ds=>lsX J p0 q0 w0 l a0 a1 a2 Ds s1) [] h (le_a (by kernel_rfl)) (fun x Ds r h=>?_) fun s1 Ds h=>?_
 ·unfold kur at h;refine cd 5 h (fun h=>?_) fun h=>?_
  ·refine ix nI 5 h fun v5 h=>?_;refine cl 8 h (kr1 _ _) fun v6 h=>?_;refine dz 4 5 [0,2] [9] (List.range 10) ?_;refine zst 0 (ko5 22 tt22 9 eI 0 #[] 3 tt3 ([]:List (Int)) (h:=(by kernel_rfl)) (hp:=(by kernel_rfl)) (b:=(by kernel_rfl))) (by kernel_rfl) (by kernel_rfl) (by kernel_rfl) ?_;refine apZ nI 1 h fun v7 h=>?_;obtain ⟨v8,a,h⟩:=ql.1 h;refine nst 1 (klf 22 tt22 eI (.tmp 38) (some (.const (.int .i64 1))) none (some 1) none a1 1 3 tt3 a (s:=(by kernel_rfl)) (hd:=(by kernel_rfl)) (hk:=(by kernel_rfl)) (f:=(by kernel_rfl)) (g:=(by kernel_rfl)) (hx:=(by kernel_rfl)) (hl:=(by kernel_rfl)) (u:=(by kernel_rfl))) (by kernel_rfl) ?_;refine ap nI 1 h fun v9 h=>?_;refine wle 8 (kmu 9 (List.length (v9)) 3 1 (List.map eI (v9)) [42] ⟨by kernel_rfl,trivial⟩) ?_;refine hcl 0 [.one .keep, .one .keep, .one .keep] [] [(1,10),(2,11),(3,12)] [] h (kki _ _ _) fun v10 h=>?_;obtain ⟨s1,hs1,h⟩:=ql.1 h;refine wle (st':=⟨66,[(45, .fn 177 [.ref 10 0 0, .ref 11 0 0, .ref 12 0 0]),(1, .ref 1 0 0),(2, .ref 2 0 0),(3, .ref 3 0 0),(4, .ref 6 0 0),(6, .ref 7 0 0),(7, .ref 8 0 0),(26, .fz ((eL 1 eI) v3)),(27,fI (List.length v3:Int)),(28,fI x.1)],lsHc J p0 q0 w0 l a0 a1 a2 Ds v5 v6 x.2++lsC 10 11 12 a0 v9 (w64 (a2 - 1)),[10,11,12,8,7,6,5,0,4,1,2,3],Ds.map kjw⟩) 2 (le_a (by kernel_rfl)) ?_;refine rfW2 0 (.tmp 45) 46 177 13 14 5 (rfA lsR) (rfB lsR) _ (lsHc J p0 q0 w0 l a0 a1 a2 Ds v5 v6) [.ref 10 0 0, .ref 11 0 0, .ref 12 0 0] (lsC 10 11 12 a0 v9 (w64 (a2 - 1))) [10,11,12] [14,10,11,12,14,10,11,12] x.2 s1 Ds (.fz (.tup [])) (fun J'=>renH [(4,14),(1,10),(2,11),(3,12)] ((4, .xo (.opq (J' s1)))::lsC 1 2 3 a0 v9 (w64 (a2 - 1)))++kir (renI [(4,14),(1,10),(2,11),(3,12)] [4,1,2,3]) ((14, .xo (.opq (J' x.2)))::lsC 10 11 12 a0 v9 (w64 (a2 - 1)))) rfl rfl (fun l' J' b=>⟨(ih v9 (w64 (a2 - 1)) (ksl step v5 v6) x.2 s1 hs1 l' J' b).ren (keys:=[4,1,2,3]) (stI:=⟨66,[],(14, .xo (.opq (J' x.2)))::lsC 10 11 12 a0 v9 (w64 (a2 - 1)),14::[10,11,12],[]⟩) [(14,4),(10,1),(11,2),(12,3)] [(4,14),(1,10),(2,11),(3,12)] (by kernel_rfl) (by kernel_rfl) (by kernel_rfl),by kernel_rfl⟩) (fun l' s x' s' hs p1 q1 w1=>?_) fun D=>?_;exact k8b 3 (le_a (by kernel_rfl)) (@k8x ⟨some l'⟩ _ _ _ _ c _ _ _ _ _ hs p0 q0 w0 p1 q1 w1 a0 a1 a2 Ds)
   ·cases h;exact ljD 4 (D::Ds) (le_a (by kernel_rfl))
  ·cases h;exact loD 1 Ds (le_a (by kernel_rfl))
 ·obtain rfl:=qw h;exact lhM 0 Ds ⟨66,[],lsHd J p0 q0 w0 l a0 a1 a2 Ds s1,[5,0,4,1,2,3],Ds.map kjw⟩ (le_a (by kernel_rfl))
theorem k4v (a0:kah):∀ (n:Nat) (a1:List Int) (a2:Int) {σ:Type} (step:σ->List Tm->Option σ) (s s':σ),kmy a0 n a1 a2 step s=some s'->∀ (l:Nat) (J:σ->(Nat->Prop)->List Nat->World->Prop),klt prog l (eL 2 eTmR) step J ->
   HCall prog 177 [.fz (.atom (ydV l)), .ref 1 0 0, .ref 2 0 0, .ref 3 0 0] ((4, .xo (.opq (J s)))::lsC 1 2 3 a0 a1 a2) [4,1,2,3] (.ret (.fz (.tup []))) ((4, .xo (.opq (J s')))::lsC 1 2 3 a0 a1 a2) [4,1,2,3]
 | 0,_,_,_,_,_,_,h,_,_,_=>by cases h
 | n+1,a1,a2,_,step,s,s',h,l,J,a=>k86 a0 n (k4v a0 n) a1 a2 step s s' h l J a
def kse {σ:Type} (step:σ->Tm->Option σ) (s:σ) (a0:List Tm):Option σ:=
 Option.bind (idx a0 0) fun v1=>Option.bind (kgj fuel v1) fun v2=>step s v2
def k04 {σ:Type} (a0:kah) (a1 a2:Int) (step:σ->Tm->Option σ) (s:σ):Option σ:=
 Option.bind (kev a0 [a1] a2) fun v1=>Option.bind (kmy a0 fuel [a1] a2 (kse step) s) fun s'=>some s'
def tmC (i j k:Nat) (a0:kah) (a1 a2:Int):List (Nat×AObj):=[(i,lbx a0),(j, .box 3 [fI a1]),(k, .box 3 [fI a2])]
noncomputable def tmR:Code:=rfOf (kjb! 160)
def tmHc {σ:Type} (J:σ->(Nat->Prop)->List Nat->World->Prop) (p0:Env) (q0:Nat->Prop) (w0:World) (l:Nat) (a0:kah) (a1 a2:Int) (Ds:List Nat) (s:σ):List (Nat×AObj):=
 [(5, .xo (.opq (ken Ds))),(0, .was p0 [4,1,2,3] q0 w0),(4, .xo (.opq (J s))),(1,lbx a0),(2, .box 3 [fI a1]),(3, .box 3 [fI a2]),(6, .box 133 [.fz (.atom (ydV l))])]
theorem k87 [Rd] {σ:Type} {step:σ->Tm->Option σ} {J:σ->(Nat->Prop)->List Nat->World->Prop} {l:Nat} (a:klt prog l eTm step J) {s s':σ} {x:List Tm} (h:kse step s x=some s')
  (p0:Env) (q0:Nat->Prop) (w0:World) (p1:Env) (q1:Nat->Prop) (w1:World) (a0:kah) (a1 a2:Int):
  W prog ⟨.code (rfB tmR),[],{ n:=19,tmps:=[(5, .fz ((eL 2 eTmR) x)),(4, .ref 6 0 0)],heap:=(13, .was p1 [10,11,12,6,5,0,4,1,2,3] q1 w1)::tmHc J p0 q0 w0 l a0 a1 a2 [] s,ids:=[13,10,11,12,6,5,0,4,1,2,3],dfr:=[] }⟩
   fun e st2=>e = .normal/\LeSt st2 { n:=19,tmps:=[],heap:=(13, .was p1 [10,11,12,6,5,0,4,1,2,3] q1 w1)::tmHc J p0 q0 w0 l a0 a1 a2 [] s',ids:=[13,10,11,12,6,5,0,4,1,2,3],dfr:=[] }:=by
 unfold kse at h;refine dw 2 5 (by kernel_rfl) ?_;refine ix nTmR 2 h fun v1 h=>?_;refine cl 1 h (kpn _ _) fun v2 h=>?_;refine yld 1 v2 (.tmp 12) (.tmp 16) #[29] 4 a h (.one .keep) ?_;exact ljx 4 (le_a (by kernel_rfl)) (by kernel_rfl)
theorem kac2 (a0:kah) (a1 a2:Int) {σ:Type} (step:σ->Tm->Option σ) (s s':σ) (h:k04 a0 a1 a2 step s=some s') (l:Nat) (J:σ->(Nat->Prop)->List Nat->World->Prop) (b:klt prog l eTm step J):
   HCall prog 160 [.fz (.atom (ydV l)), .ref 1 0 0, .ref 2 0 0, .ref 3 0 0] ((4, .xo (.opq (J s)))::tmC 1 2 3 a0 a1 a2) [4,1,2,3] (.ret (.fz (.tup []))) ((4, .xo (.opq (J s')))::tmC 1 2 3 a0 a1 a2) [4,1,2,3]:=by
 unfold k04 at h;refine hcxM 0 5 func160 ⟨by kernel_rfl,by kernel_rfl,by kernel_rfl,by kernel_rfl⟩ ?_;intro p0 q0 w0;refine hcl 10 [.one .keep,.one (.sl 1), .one .keep] [] [(1,10),(2,11),(3,12)] [] h (kki _ _ _) fun v1 h=>?_;obtain ⟨s1,hs1,h⟩:=ql.1 h;obtain rfl:=qw h;refine wle (st':=⟨19,[(10, .fn 177 [.ref 10 0 0, .ref 11 0 0, .ref 12 0 0]),(4, .ref 6 0 0)],tmHc J p0 q0 w0 l a0 a1 a2 [] s++lsC 10 11 12 a0 [a1] a2,[10,11,12,6,5,0,4,1,2,3],[]⟩) 2 (le_a (by kernel_rfl)) ?_;refine rfW2 0 (.tmp 10) 11 177 13 14 5 (rfA tmR) (rfB tmR) _ (tmHc J p0 q0 w0 l a0 a1 a2 []) [.ref 10 0 0, .ref 11 0 0, .ref 12 0 0] (lsC 10 11 12 a0 [a1] a2) [10,11,12] [14,10,11,12,14,10,11,12] s s1 [] (.fz (.tup [])) (fun J'=>renH [(4,14),(1,10),(2,11),(3,12)] ((4, .xo (.opq (J' s1)))::lsC 1 2 3 a0 [a1] a2)++kir (renI [(4,14),(1,10),(2,11),(3,12)] [4,1,2,3]) ((14, .xo (.opq (J' s)))::lsC 10 11 12 a0 [a1] a2)) rfl rfl (fun l' J' a=>⟨(k4v a0 fuel [a1] a2 (kse step) s s1 hs1 l' J' a).ren (keys:=[4,1,2,3]) (stI:=⟨66,[],(14, .xo (.opq (J' s)))::lsC 10 11 12 a0 [a1] a2,14::[10,11,12],[]⟩) [(14,4),(10,1),(11,2),(12,3)] [(4,14),(1,10),(2,11),(3,12)] (by kernel_rfl) (by kernel_rfl) (by kernel_rfl),by kernel_rfl⟩) (fun l' s x' s' hs p1 q1 w1=>?_) fun D=>?_;exact k8b 3 (le_a (by kernel_rfl)) (@k87 ⟨some l'⟩ _ _ _ _ b _ _ _ hs p0 q0 w0 p1 q1 w1 a0 a1 a2)
 ·exact lhM 0 [D] ⟨19,[],(5, .xo (.opq (ken [D])))::(0, .was p0 [4,1,2,3] q0 w0)::(4, .xo (.opq (J s1)))::tmC 1 2 3 a0 a1 a2,[5,0,4,1,2,3],[kjw D]⟩ (le_a (by kernel_rfl))
def agF (l:List C0):FV->FV
 | .agg ys => .agg (zipF l ys)
 | x=>x
theorem RF.lstC {S:Nat->Prop} {w:World} {v:Value} {size n:Nat} {xs:List FV} (l:List C0) (h:RF S w v (.lst size n xs)):RF S w v (.lst size n (xs.map (agF l))):=by
 have hc:∀ (x:FV) (j:Nat) (y:FV),(agF l x).cells[j]?=some y->∃ c y0,x.cells[j]?=some y0/\(y=co0F c y0\/y=y0):=fun x j y hy=>by
  unfold agF at hy;split at hy;exact ku7 l _ j y hy
  ·exact ⟨.keep,y,hy, .inr rfl⟩
 have b:∀ x:FV,(agF l x).cells.length=x.cells.length:=fun x=>by
  unfold agF;split;exact k0d l _
  ·rfl
 cases h with
 | lst css hn d hm hs ha hl hr=>
  refine .lst css (by simpa using hn) d hm hs (fun i x hx=>?_) (fun i x hx=>?_) fun i x j v y hx hv hy=>?_;rw [qq,qt] at hx;obtain ⟨x0,a,rfl⟩:=hx;exact ha i x0 a
  ·rw [qq,qt] at hx;obtain ⟨x0,a,rfl⟩:=hx;obtain ⟨k1,k2,k3⟩:=hl i x0 a;refine ⟨k1,by rw [b];exact k2,fun y hy=>?_⟩;obtain ⟨j,e⟩:=List.getElem?_of_mem hy;obtain ⟨c,y0,h0,h1⟩:=hc x0 j y e;have:=k3 y0 (qn h0);rcases h1 with rfl | rfl;exact kti this
   ·exact this
  ·rw [qq,qt] at hx;obtain ⟨x0,a,rfl⟩:=hx;obtain ⟨c,y0,h0,h1⟩:=hc x0 j y hy;have:=hr i x0 j v y0 a hv h0;rcases h1 with rfl | rfl;exact k29 this
   ·exact this
theorem NStep.limC {P:Program} {o:Oper} {st:St} {size n:Nat} {xs:List FV} (h:NStep P o st (.lim size n xs)) (l:List C0):NStep P o st (.lim size n (xs.map (agF l))):=by
 unfold NStep at h ⊢;exact fun ψ S a w h1 b=>kls (fun v w' ⟨g1,g2⟩=>⟨g1,by
  cases g2 with
  | lim h=>exact .lim (h.lstC l)⟩) (h ψ S a w h1 b)
def kq4 (s:List Tm) (t:Tm):Option (List Tm):=Option.bind (app 32 s [Tm.mk 0 []]) fun v1=>Option.bind (idx v1 (List.length s:Int)) fun v2=>some (v1.set (Int.toNat (List.length s:Int)) t)
noncomputable def enR:Code:=rfOf (kjb! 75)
def enB (l:La):AObj := .box 26 [fS (l.name),.fz ((eL 1 eI) (l.inputs)),.fz ((eL 2 eSy) (l.symbols)),.fz ((eL 9 eRu) (l.rules))]
def enHc (p0:Env) (q0:Nat->Prop) (w0:World) (l:La) (s:List Tm):List (Nat×AObj):=
 [(1, .xo (.opq (ken []))),(0, .was p0 [] q0 w0),(2,enB l),(3, .box 27 [.row 4 s.length]),(4, .frow 29 2 (s.map eTmR))]
def enJ (p0:Env) (q0:Nat->Prop) (w0:World) (p1:Env) (q1:Nat->Prop) (w1:World) (l:La) (n n1:Nat) (v1:List Tm) (x:Tm) (r:AV) (m:Nat):St:=
 ⟨39,[(10, .ref 3 0 0),(33, .fz (eTm x)),(34,fI (n:Int)),(36, .row 4 n1),(37,r)],(13, .was p1 [10,11,12,4,3,2,1,0] q1 w1)::[(1, .xo (.opq (ken []))),(0, .was p0 [] q0 w0),(2,enB l),(3, .box 27 [.row 4 m]),(4, .frow 29 2 (v1.map eTmR))],[13,10,11,12,4,3,2,1,0],[]⟩
theorem kakv [Rd] {s s':List Tm} {x:Tm} (h:kq4 s x=some s') (p0:Env) (q0:Nat->Prop) (w0:World) (p1:Env) (q1:Nat->Prop) (w1:World) (l:La):
  W prog ⟨.code (rfB enR),[],{ n:=39,tmps:=[(10, .ref 3 0 0),(11, .ref 14 0 0)],heap:=(14, .box 29 [fI x.rule, .fz ((eL 2 eTmR) x.args)])::(13, .was p1 [10,11,12,4,3,2,1,0] q1 w1)::enHc p0 q0 w0 l s,ids:=[14,13,10,11,12,4,3,2,1,0],dfr:=[] }⟩
   fun e st2=>e = .normal/\LeSt st2 { n:=39,tmps:=[],heap:=(13, .was p1 [10,11,12,4,3,2,1,0] q1 w1)::enHc p0 q0 w0 l s',ids:=[13,10,11,12,4,3,2,1,0],dfr:=[] }:=by
 unfold kq4 at h;obtain ⟨v1,f,h⟩:=ql.1 h;obtain ⟨v2,b,h⟩:=ql.1 h;obtain rfl:=qw h;have ha:Option.bind (app 32 s [Tm.mk 0 []]) some=some v1:=by rw [f];rfl
 show W prog _ fun e st2=>e = .normal/\LeSt st2 { n:=39,tmps:=[],heap:=(13, .was p1 [10,11,12,4,3,2,1,0] q1 w1)::[(1, .xo (.opq (ken []))),(0, .was p0 [] q0 w0),(2,enB l),(3, .box 27 [.row 4 (List.length (v1.set (Int.toNat (List.length s:Int)) x))]),(4, .frow 29 2 (List.map eTmR (v1.set (Int.toNat (List.length s:Int)) x)))],ids:=[13,10,11,12,4,3,2,1,0],dfr:=[] };rw [List.length_set];refine dzf 1 5 [4] [4] [14,13,10,11,12,4,3,2,1,0] (enJ p0 q0 w0 p1 q1 w1 l s.length v1.length v1 x (.any) s.length) (enJ p0 q0 w0 p1 q1 w1 l s.length v1.length v1 x (.ref 4 v1.length (Int.toNat (List.length s:Int)*2)) s.length) (enJ p0 q0 w0 p1 q1 w1 l s.length v1.length (v1.set (Int.toNat (List.length s:Int)) x) x (.ref 4 v1.length (Int.toNat (List.length s:Int)*2)) s.length) (by kernel_rfl) ?_ ?_ ?_ ?_ ?_ ?_;refine nst 2 (k39 (id:=4) (d:=tt27) (t:=27) (.tmp 32) 29 29 2 (List.length s) (List.map eTmR s) tt_ok rfl (by simp)) (by kernel_rfl) ?_;refine nst 0 (((kii (.lim 2 1 [.agg [eI 0, .atom (.slice none 0 0)]]) (hx:=(by kernel_rfl))).limC [.keep, .sl 2]).eqv (show _=AV.lim 2 1 (List.map eTmR [Tm.mk 0 []]) by simp only [List.map,kig];rfl)) (by kernel_rfl) ?_;refine apZ nTmR 0 ha fun v h=>?_;obtain rfl:=qw h;exact ljx 2 (le_a (by kernel_rfl)) (by kernel_rfl);refine nst 0 (k14 (d:=tt27) (id:=4) (t:=27) nTmR v1 (.tmp 36) (.tmp 34) 29 tt29 .i64 (List.length v1) b tt_ok rfl) (by kernel_rfl) ?_;exact ljx 1 (le_a (by kernel_rfl)) (by kernel_rfl);refine nst 1 (k14 (d:=tt27) (id:=4) (t:=27) nTmR v1 (.tmp 36) (.tmp 34) 29 tt29 .i64 (List.length v1) b tt_ok rfl) (by kernel_rfl) ?_;refine sst 0 (ktc (t:=29) tt29 4 nTmR v1 v2 x (List.length s:Int) (.tmp 37) (.tmp 33) (List.length v1) (eTm x) b rfl (kig _) (fun q a=>by rcases qac.1 a with rfl | a <;> first | rfl | (rcases qac.1 a with rfl | a <;> first | rfl | cases a))) (by kernel_rfl) ?_;exact ljx 1 (le_a (by kernel_rfl)) (by kernel_rfl);refine sst 0 (ktc (t:=29) tt29 4 nTmR v1 v2 x (List.length s:Int) (.tmp 37) (.tmp 33) (List.length v1) (eTm x) b rfl (kig _) (fun q a=>by rcases qac.1 a with rfl | a <;> first | rfl | (rcases qac.1 a with rfl | a <;> first | rfl | cases a))) (by kernel_rfl) ?_;exact ljx 1 (le_a (by kernel_rfl)) (by kernel_rfl);refine sst 1 (ktc (t:=29) tt29 4 nTmR v1 v2 x (List.length s:Int) (.tmp 37) (.tmp 33) (List.length v1) (eTm x) b rfl (kig _) (fun q a=>by rcases qac.1 a with rfl | a <;> first | rfl | (rcases qac.1 a with rfl | a <;> first | rfl | cases a))) (by kernel_rfl) ?_;exact ljx 1 (le_a (by kernel_rfl)) (by kernel_rfl)
 ·exact ljx 2 (le_a (by kernel_rfl)) (by kernel_rfl)
theorem kahf {P:Program} {f:Nat} {xs:List FV} {r:FV} (ids:List Nat) (post:List (Nat×AObj)) (h:HCall P f (xs.map .fz) [] [] (.ret (.fz r)) post ids):PCall P f xs r:=by
 refine ⟨h.1,fun S w vs hs hv=>?_⟩;have d:∀ {v x},RF S w v x->RF (fun b=>S b/\b<w.heap.size) w v x:=fun h=>h.bound;refine (h.2 (fun b=>b<w.heap.size) (fun b=>S b/\b<w.heap.size) w.heap.size ⟨fun _=>0,fun _ => .nilFunc⟩ (fun b=>S b/\b<w.heap.size) w vs (by simpa using hs) (fun i v x g hx=>?_) ⟨fun id o h=>(by cases h),fun i i' o o' b h=>(by cases h),fun b h=>h.2,fun b h => .inl h,qx _,fun b h=>h⟩).mono ?_;rw [qq,qt] at hx;obtain ⟨z,k,rfl⟩:=hx;exact .fz (d (hv i v z g k))
 ·rintro e w' ⟨ψ',S',⟨v,rfl,j⟩,c,a,_⟩;refine ⟨v,rfl,j.inv.mono fun b d=>?_,⟨⟨a.os,a.tape,a.output,a.size,a.block⟩,no0⟩⟩;rcases c.s0 b d with h | h;exact .inl h.1
  ·exact .inr h
def kr0 (x:kah) (l:La) (a1 a2:Int):Option (List Tm×Int):=
 Option.bind (kif l a1 a2) fun v1=>bif v1.2 != 0 then some ([],v1.2) else bif decide (v1.1 > 4096) then some ([],11) else bif v1.1 == 0 then some ([],0)
  else Option.bind (some x) fun x=>Option.bind (kgi x a1 a2) fun v2=>Option.bind (k04 x a1 a2 kq4 []) fun out=>some (out,0)
theorem k1p {x:kah} {l:La} {a1 a2:Int} {r:List Tm×Int} (a:PCall prog 120 [eLa l] (kb4 x)) (h:kr0 x l a1 a2=some r):PCall prog 75 [eLa l,eI a1,eI a2] (.tup [eL 2 eTmR r.1,eI r.2]):=by refine kahf [] [] ?_;unfold kr0 at h;refine hcxM 0 1 func75 ⟨by kernel_rfl,by kernel_rfl,by kernel_rfl,by kernel_rfl⟩ ?_;intro p0 q0 w0;refine cl 11 h (kzb _ _ _) fun v1 h=>?_;refine cd 12 h (fun h=>?_) fun h=>?_;obtain rfl:=qw h;exact lhM 7 [] ⟨39,[(6, .fz (eL 2 eTmR [])),(7,fI v1.2)],[(1, .xo (.opq (ken []))),(0, .was p0 [] q0 w0)],[1,0],[]⟩ (le_a (by kernel_rfl));refine cd 7 h (fun h=>?_) fun h=>?_;obtain rfl:=qw h;exact lhM 6 [] ⟨39,[(6, .fz (eL 2 eTmR [])),(7,fI 11)],[(1, .xo (.opq (ken []))),(0, .was p0 [] q0 w0)],[1,0],[]⟩ (le_a (by kernel_rfl));refine cd 7 h (fun h=>?_) fun h=>?_;obtain rfl:=qw h;exact lhM 6 [] ⟨39,[(6, .fz (eL 2 eTmR [])),(7,fI 0)],[(1, .xo (.opq (ken []))),(0, .was p0 [] q0 w0)],[1,0],[]⟩ (le_a (by kernel_rfl));refine cl 9 h (fun v hv=>by cases hv;exact a) fun x h=>?_;refine hcl 2 [.one .keep, .one .keep, .one .keep] [] [(1,10),(2,11),(3,12)] [] h (kqc _ _ _) fun v2 h=>?_;obtain ⟨out,hs1,h⟩:=ql.1 h;obtain rfl:=qw h;refine wle (st':=⟨39,[(30, .fn 160 [.ref 10 0 0, .ref 11 0 0, .ref 12 0 0]),(10, .ref 3 0 0)],enHc p0 q0 w0 l []++tmC 10 11 12 x a1 a2,[10,11,12,4,3,2,1,0],[]⟩) 2 (LeSt.trans (kgq 29 27 2 3 0 4 [.fz (.atom (.slice none 0 0))] (u:=(by kernel_rfl)) (l:=(by kernel_rfl)) (hx:=(by kernel_rfl)) (d:=(by kernel_rfl))) (le_a (by kernel_rfl))) ?_;refine rfW2 0 (.tmp 30) 31 160 13 14 1 (rfA enR) (rfB enR) _ (enHc p0 q0 w0 l) [.ref 10 0 0, .ref 11 0 0, .ref 12 0 0] (tmC 10 11 12 x a1 a2) [10,11,12] [14,10,11,12,14,10,11,12] [] out [] (.fz (.tup [])) (fun J'=>renH [(4,14),(1,10),(2,11),(3,12)] ((4, .xo (.opq (J' out)))::tmC 1 2 3 x a1 a2)++kir (renI [(4,14),(1,10),(2,11),(3,12)] [4,1,2,3]) ((14, .xo (.opq (J' [])))::tmC 10 11 12 x a1 a2)) rfl rfl (fun l' J' b=>⟨(kac2 x a1 a2 kq4 [] out hs1 l' J' b).ren (keys:=[4,1,2,3]) (stI:=⟨66,[],(14, .xo (.opq (J' [])))::tmC 10 11 12 x a1 a2,14::[10,11,12],[]⟩) [(14,4),(10,1),(11,2),(12,3)] [(4,14),(1,10),(2,11),(3,12)] (by kernel_rfl) (by kernel_rfl) (by kernel_rfl),by kernel_rfl⟩) (fun l' s y s' hs p1 q1 w1=>?_) fun D=>?_;exact k8b 4 (le_a (by kernel_rfl)) (@kakv ⟨some l'⟩ _ _ _ hs p0 q0 w0 p1 q1 w1 l);refine wle 5 (kmu 4 (List.length out) 29 2 (List.map eTmR out) [6] ⟨by kernel_rfl,trivial⟩) ?_;exact lhM 2 [D] ⟨39,[(6, .fz (eL 2 eTmR out)),(7,fI 0)],[(1, .xo (.opq (ken [D]))),(0, .was p0 [] q0 w0)],[1,0],[kjw D]⟩ (le_a (by kernel_rfl))
end Go.Proofs.YtjpkdegjcilndaaGreatDoor
