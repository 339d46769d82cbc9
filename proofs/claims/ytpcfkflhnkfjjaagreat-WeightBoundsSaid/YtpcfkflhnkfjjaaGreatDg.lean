import Derived.Test.YtpcfkflhnkfjjaaGreatDf
set_option linter.all false
set_option maxRecDepth 100000
namespace Go.Proofs.YtpcfkflhnkfjjaaGreat
open Go Go.RowKit
theorem kxe (a b:Tm):cmpT b a = -cmpT a b:=cmpT_ord.anti a b trivial
theorem kxo {a b c:Tm} (h:cmpT a b<0) (k:cmpT b c<0):cmpT a c<0:=by
 have h1:=cmpT_ord.trans a b c trivial trivial trivial (by omega) (by omega);by_cases h0:cmpT a c=0;have:=cmpT_eq0.1 h0;subst this;have:=kxe a b;omega
 ·omega
def SLt (xs:List Tm):Prop:=xs.Pairwise fun a b=>cmpT a b<0
theorem SLt.nodup {xs:List Tm} (h:SLt xs):xs.Nodup:=List.Pairwise.imp (fun {a b} c e=>by subst e;have:=cmpT_eq0.2 (rfl:a=a);omega) h
theorem SLt.len {xs X:List Tm} (h:SLt xs) (a:∀ u∈xs,u∈X):xs.length<=X.length:=kw8 xs X h.nodup a
theorem k0v {xs:List Tm} {t:Tm} (hs:SLt xs) (x:∀ u∈xs,u.size<=1000) (ht:t.size<=1000) (hl:xs.length<=100000):Ev (kcc xs t) fun r=>SLt r/\∀ u,u∈r↔u∈xs\/u=t:=by
 unfold kcc;have f:=List.pairwise_iff_getElem.1 hs;refine kds (Ev.mono (kt9 (step:=kej xs t) (Q:=fun v=>∃ n:Nat,v=(n:Int)/\n<=xs.length/\(∀ j (d:j<xs.length),n<=j->0<=cmpT xs[j] t)/\∀ j (d:j<xs.length),j<n->cmpT xs[j] t<0)
  (fun v=>∃ n:Nat,v=(n:Int)/\n<=xs.length/\∀ j (d:j<xs.length),n<=j->0<=cmpT xs[j] t) (fun v=>v.toNat) (by show (xs.length:Int).toNat<_;omega) ⟨xs.length,rfl,qx _,fun j d h=>by omega⟩ ?_) ?_)
 ·rintro v ⟨n,rfl,hn,h1⟩;by_cases h0:0<n
  ·have k:n - 1<xs.length:=(by omega);have e1:w64 ((n:Int) - 1)=((n - 1:Nat):Int):=(by rw [kbq (by omega) (by omega)];omega);have e2:decide ((0:Int)<(n:Int))=true:=qh (by omega);simp only [kej,e2,qf,e1,kaf,qb k,qa,k04 _ _ (x _ (qq k)) ht];by_cases o:0<=cmpT xs[n - 1] t
   ·rw [qh o,qf];refine ⟨_,rfl,⟨n - 1,rfl,by omega,fun j d z=>?_⟩,by show ((n - 1:Nat):Int).toNat<(n:Int).toNat;omega⟩;by_cases p:j=n - 1;subst p;exact o
    ·exact h1 j d (by omega)
   ·rw [qe o,qc];refine ⟨_,rfl,n,rfl,hn,h1,fun j d p=>?_⟩;by_cases s:j=n - 1;subst s;omega
    ·exact kxo (f j (n - 1) d k (by omega)) (by omega)
  ·obtain rfl:n=0:=(by omega);refine ⟨.inr 0,by simp only [kej];rfl,0,rfl,by omega,h1,fun j d h=>by omega⟩
 ·rintro v ⟨n,rfl,hn,h1,o⟩;have q:(∀ c:n<xs.length,cmpT xs[n] t≠0)->SLt (xs.take n++[t]++xs.drop n)/\∀ u,u∈xs.take n++[t]++xs.drop n↔u∈xs\/u=t:=fun l=>by
   constructor
   ·unfold SLt;rw [qbd,List.pairwise_append];refine ⟨List.Pairwise.sublist (List.take_sublist _ _) hs,?_,fun a ha b m=>?_⟩
    ·rw [List.singleton_append,List.pairwise_cons];refine ⟨fun b m=>?_,List.Pairwise.sublist (List.drop_sublist _ _) hs⟩;obtain ⟨j,d,rfl⟩:=qaa.1 m;rw [qa1] at d;rw [List.getElem_drop];have c:n<xs.length:=(by omega);have y:cmpT t xs[n]<0:=(by have:=h1 n c (qx _);have:=l c;rw [kxe];omega);by_cases w:j=0;subst w;exact y
     ·exact kxo y (f n (n+j) c (by omega) (by omega))
    ·obtain ⟨i,hi,rfl⟩:=qaa.1 ha;rw [qak] at hi;rw [List.getElem_take];rw [List.singleton_append] at m;rcases qar.1 m with rfl | m;exact o i (by omega) (by omega)
     ·obtain ⟨j,d,rfl⟩:=qaa.1 m;rw [qa1] at d;rw [List.getElem_drop];exact f i (n+j) (by omega) (by omega) (by omega)
   ·intro u;have:u∈xs↔u∈xs.take n\/u∈xs.drop n:=(by rw [<- qac,List.take_append_drop]);rw [this];simp only [qac,qas];constructor
    ·rintro ((h | h) | h);exact .inl (.inl h);exact .inr h
     ·exact .inl (.inr h)
    ·rintro ((h | h) | h);exact .inl (.inl h);exact .inr h
     ·exact .inl (.inr h)
  have g:(∀ c:n<xs.length,cmpT xs[n] t≠0)->Ev (Option.bind (cutL xs 0 (n:Int)) fun v12=>Option.bind (app 32 ([]:List Tm) v12) fun v13=>Option.bind (app 32 v13 ([t]:List Tm)) fun v14=>Option.bind (cutL xs (n:Int) xs.length) fun v15=>Option.bind (app 32 v14 v15) fun v16=>some v16) (fun r=>SLt r/\∀ u,u∈r↔u∈xs\/u=t):=fun l=>by
   have e1:cutL xs 0 (n:Int)=some (xs.take n):=(by unfold cutL;rw [qn ⟨by omega,by omega,by omega⟩];simp);have e2:cutL xs (n:Int) xs.length=some (xs.drop n):=(by unfold cutL;rw [qn ⟨by omega,by omega,by omega⟩];simp);have c:(xs.take n).length<=n:=(by rw [qak];omega);rw [e1,qa,keh (by simp only [qa9];omega),qa,List.nil_append,keh (by simp only [qam];omega),qa,e2,qa,
    keh (by simp only [qab,qam,qa1];omega),qa]
   exact ⟨_,rfl,q l⟩
  by_cases c:n<xs.length
  ·simp only [kav c,qf,kaf,qb c,qa,k04 _ _ (x _ (qq c)) ht];by_cases hc:cmpT xs[n] t=0;rw [show (cmpT xs[n] t == 0)=true by simp [hc],qf];have:=cmpT_eq0.1 hc;exact ⟨_,rfl,hs,fun u=>⟨fun h => .inl h,fun h=>h.elim id fun e=>by rw [e,<- this];exact qq c⟩⟩
   ·rw [show (cmpT xs[n] t == 0)=false by simp [hc],qc];exact g fun _=>hc
  ·have e1:decide ((n:Int)<(xs.length:Int))=false:=qe (by omega);simp only [e1,qc,qa];exact g fun h=>absurd h c
def Ch (L:List (List Tm)):List Int->List Tm->Prop
 | [],ts=>ts=[]
 | a::vs,ts=>∃ row t us,0<=a/\L[a.toNat]?=some row/\t∈row/\ts=t::us/\Ch L vs us
theorem kzh {L:List (List Tm)} {o:Opn} {X:List Tm} (J:X.length<=4096) (p:∀ u∈X,u.size<=1000) (I:∀ row∈L,row.length<=4096) (ho:o.f_Args.length<=24) (v:∀ a∈o.f_Args,0<=a/\a<(L.length:Int)):
  ∀ (n:Nat) (args:List Tm) (l:List Tm),args.length<=o.f_Args.length->o.f_Args.length - args.length<n->SLt l->(∀ u∈l,u∈X)->(∀ us,Ch L (o.f_Args.drop args.length) us->Tm.mk o.f_Rule (args++us)∈X) ->
   Ev (kct n l o L args) fun r=>SLt r/\∀ u,u∈r↔u∈l\/∃ us,Ch L (o.f_Args.drop args.length) us/\u=Tm.mk o.f_Rule (args++us)
 | 0,args,l,_,h,_,_,_=>by omega
 | n+1,args,l,ha,hn,hs,hl,hc=>by
  show Ev (kex (kct n) l o L args) _;unfold kex;have K:=hs.len hl;have e0:decide ((4096:Int)<(l.length:Int))=false:=qe (by omega);simp only [e0,qc];by_cases e:args.length=o.f_Args.length
  ·have e1:((args.length:Int) == (o.f_Args.length:Int))=true:=(by simp [e]);simp only [e1,qf];rw [e,List.drop_length] at hc ⊢;have E:Tm.mk o.f_Rule args∈X:=(by have:=hc [] rfl;rw [qbo] at this;exact this);have w:=k0v (t:=Tm.mk o.f_Rule args) hs (fun u y=>p u (hl u y)) (p _ E) (by omega);have z:Ev (kcc l (Tm.mk o.f_Rule args)) fun r=>SLt r/\∀ u,u∈r↔u∈l\/∃ us,Ch L [] us/\u=Tm.mk o.f_Rule (args++us):=Ev.mono w fun r ⟨h1,d⟩=>⟨h1,fun u=>by
    rw [d u];constructor
    ·rintro (h | h);exact .inl h
     ·exact .inr ⟨[],rfl,by rw [qbo];exact h⟩
    ·rintro (h | ⟨us,rfl,h⟩);exact .inl h
     ·rw [qbo] at h;exact .inr h⟩
   obtain ⟨r,hr,A⟩:=z;cases args with
   | nil=>
    simp only [List.isEmpty_nil,qf,hr,qa];exact ⟨r,rfl,A⟩
   | cons x args=>
    have e2:appN 32 ([]:List Tm) (x::args)=some (x::args):=(by unfold appN;rw [List.isEmpty_cons,qc,keh (by simp only [qa9];omega)];rfl);simp only [List.isEmpty_cons,qc,e2,qa,hr];exact ⟨r,rfl,A⟩
  ·have e1:((args.length:Int) == (o.f_Args.length:Int))=false:=(by rw [qat];omega);have q:args.length<o.f_Args.length:=(by omega);have F:=qb q;have f:=v _ (qq q);have G:∃ row,L[o.f_Args[args.length].toNat]?=some row:=⟨_,qb (by omega)⟩;obtain ⟨row,b⟩:=G;have B:idx L o.f_Args[args.length]=some row:=(by unfold idx;rw [qn f.1,b]);have M:=I row (qm b);have g:o.f_Args.drop args.length=o.f_Args[args.length]::o.f_Args.drop (args.length+1):=qah q;simp only [e1,qc,kaf,F,qa,B];refine kds (Ev.mono (kb9 (xs:=row) (step:=kei o L args (kct n) row) (fun (j:Nat) (c:List Tm)=>(c,(j:Int))) (fun j c=>SLt c/\(∀ u∈c,u∈X)/\∀ u,u∈c↔u∈l\/∃ t us,t∈row.take j/\Ch L (o.f_Args.drop (args.length+1)) us/\u=Tm.mk o.f_Rule (args++(t::us)))
    (Q:=fun c=>SLt c/\∀ u,u∈c↔u∈l\/∃ us,Ch L (o.f_Args.drop args.length) us/\u=Tm.mk o.f_Rule (args++us)) (t0:=l) (by omega) ⟨hs,hl,by simp⟩ (fun j c C ⟨c1,c2,c3⟩=>?_) (fun c ⟨c1,c2,c3⟩=>?_)) (fun c h=>⟨c,rfl,h⟩))
   ·have H:=qb C;have D:∀ us,Ch L (o.f_Args.drop (args.length+1)) us->Tm.mk o.f_Rule (args++[row[j]]++us)∈X:=fun us y=>(by rw [qbd];exact hc _ (by rw [g];exact ⟨row,row[j],us,f.1,b,qq C,rfl,y⟩));have i:=kzh J p I ho v n (args++[row[j]]) c (by simp;omega) (by simp;omega) c1 c2 (by simp only [qab,qam];exact D);simp only [qab,qam] at i;obtain ⟨c',s,d1,d2⟩:=i;have k:SLt c'/\(∀ u∈c',u∈X)/\∀ u,u∈c'↔u∈l\/∃ t us,t∈row.take (j+1)/\Ch L (o.f_Args.drop (args.length+1)) us/\u=Tm.mk o.f_Rule (args++(t::us)):=by
     refine ⟨d1,fun u y=>?_,fun u=>?_⟩
     ·rcases (d2 u).1 y with h | ⟨us,h,rfl⟩;exact c2 u h
      ·exact D us h
     ·rw [d2 u,c3 u,qz C];simp only [qac,qas];constructor
      ·rintro ((h | ⟨t,us,h1,d,m⟩) | ⟨us,h1,d⟩);exact .inl h;exact .inr ⟨t,us, .inl h1,d,m⟩
       ·exact .inr ⟨_,us, .inr rfl,h1,by rw [d,qbd];rfl⟩
      ·rintro (h | ⟨t,us,h1 | rfl,d,m⟩);exact .inl (.inl h);exact .inl (.inr ⟨t,us,h1,d,m⟩)
       ·exact .inr ⟨us,d,by rw [m,qbd];rfl⟩
    simp only [kei,kav C,qf,kaf,H,qa,kal C (show row.length<=9223372036854775807 by omega)];have e3:appN 32 ([]:List Tm) [row[j]]=some [row[j]]:=(by unfold appN;rw [List.isEmpty_cons,qc,keh (by simp)];rfl);cases args with
    | nil=>
     simp only [List.nil_append] at s;simp only [List.isEmpty_nil,qf,e3,qa,s];exact ⟨_,rfl,c',rfl,k⟩
    | cons x args=>
     have e2:appN 32 ([]:List Tm) (x::args)=some (x::args):=(by unfold appN;rw [List.isEmpty_cons,qc,keh (by simp only [qa9];omega)];rfl);simp only [List.isEmpty_cons,qc,e2,qa];rw [keh (by rw [qam];omega)];simp only [qa,s];exact ⟨_,rfl,c',rfl,k⟩
   ·refine ⟨_,by simp only [kei,kaq,qc],_,rfl,c1,fun u=>?_⟩;rw [c3 u,qaw,g];constructor
    ·rintro (h | ⟨t,us,h1,d,m⟩);exact .inl h
     ·exact .inr ⟨t::us,⟨row,t,us,f.1,b,h1,rfl,d⟩,m⟩
    ·rintro (h | ⟨ts,⟨row',t,us,h0,h1,d,rfl,m⟩,N⟩);exact .inl h
     ·rw [b] at h1;cases h1;exact .inr ⟨t,us,d,m,N⟩
theorem k3b {ns:List Nod} {L:List (List Tm)} (c:∀ (k:Nat) (row:List Tm),L[k]?=some row->∀ t,t∈row↔Bt ns k t):∀ (vs:List Int) (ts:List Tm),(∀ a∈vs,0<=a/\a<(L.length:Int))->(Ch L vs ts↔Bts ns vs ts)
 | [],ts,_=>⟨fun h=>by cases h;exact .nil,fun h=>by cases h;rfl⟩
 | a::vs,ts,h=>by
  have ha:=h a (qs ..);have ih:=fun us=>k3b c vs us fun b d=>h b (qo _ d);constructor;rintro ⟨row,t,us,h0,h1,e,rfl,f⟩;exact .cons h0 ((c _ _ h1 t).1 e) ((ih us).1 f)
  ·intro d;cases d with
   | cons h0 ht hs=>
    have hr:L[a.toNat]?=some (L[a.toNat]'(by omega)):=qb _;exact ⟨_,_,_,h0,hr,(c _ _ hr _).2 ht,rfl,(ih _).2 hs⟩
def FewT (ns:List Nod):Prop:=∀ i,∃ X:List Tm,X.length<=4096/\(∀ u∈X,u.size<=1000)/\∀ t,Bt ns i t->t∈X
theorem kz4 {s:Spa} {f p:Nat->Bool} (hf:kgy s) (hk:kqo s f p) (h:FewT s.f_Nodes):FewT (kh1 f p s).f_Nodes:=fun j=>by
 by_cases a:j<(kh1 f p s).f_Nodes.length;obtain ⟨i,n,_,_,_,h1⟩:=k30 hf hk (qb a);obtain ⟨X,b,c,d⟩:=h i;exact ⟨X,b,c,fun t ht=>d t (h1 t ht)⟩
 ·exact ⟨[],by simp,by simp,fun t ht=>absurd (k7t ht) a⟩
theorem k36 {s:Spa} (hf:kgy s) {L:List (List Tm)} {i:Nat} {n:Nod} (hn:s.f_Nodes[i]?=some n) (y:L.length=i) (x:∀ (k:Nat) (row:List Tm),L[k]?=some row->SLt row/\∀ t,t∈row↔Bt s.f_Nodes k t) (q:FewT s.f_Nodes) (v1:Spa×Int) (hv:v1.1=s) (v2:Int×List (List Tm)) (b:v2=((i:Int),L)):
  Ev (kab (kdf v1 v2) fuel (([]:List Tm),0)) fun l=>SLt l/\l.length<=4096/\∀ t,t∈l↔Bt s.f_Nodes i t:=by
 subst hv b;have z:=olen hf hn;obtain ⟨X,x1,x2,x3⟩:=q i;have h:∀ row∈L,row.length<=4096:=fun row hr=>by obtain ⟨k,hk⟩:=qan.1 hr;obtain ⟨h1,b⟩:=x k row hk;obtain ⟨Y,y1,_,y3⟩:=q k;exact qaf (h1.len fun u f=>y3 u ((b u).1 f)) y1
 refine kb9 (xs:=n.f_Options) (step:=kdf v1 ((i:Int),L)) (fun (j:Nat) (c:List Tm)=>(c,(j:Int))) (fun j c=>SLt c/\∀ t,t∈c↔∃ o ts,o∈n.f_Options.take j/\Bts v1.1.f_Nodes o.f_Args ts/\t=Tm.mk o.f_Rule ts) (by omega) ⟨List.Pairwise.nil,by simp⟩ (fun j c p ⟨c1,c2⟩=>?_) (fun c ⟨c1,c2⟩=>?_)
 ·have ho:=qb p;have hm:=qq p;have d:∀ a∈n.f_Options[j].f_Args,0<=a/\a<(L.length:Int):=fun a ha=>by have:=kmw hf hn hm ha;omega
  have g:=k3b (fun k row hk=>(x k row hk).2) n.f_Options[j].f_Args;simp only [kdf,kaf,hn,ho,qa,kav p,qf,kal p (show n.f_Options.length<=9223372036854775807 by omega)];refine kds (Ev.mono (kzh (X:=X) x1 x2 h (kh6 hf hn hm) d fuel [] c (by simp) (ke5 (by have:=kh6 hf hn hm;simp;omega)) c1 (fun u f=>?_) (fun us f=>?_)) fun r ⟨r1,r2⟩=>?_);obtain ⟨o,ts,h1,b,rfl⟩:=(c2 u).1 f;exact x3 _ (.mk hn (List.mem_of_mem_take h1) b);have w:Ch L n.f_Options[j].f_Args us:=f;rw [List.nil_append];exact x3 _ (.mk hn hm ((g us d).1 w))
  ·refine ⟨_,rfl,r,rfl,r1,fun t=>?_⟩;rw [r2 t,c2 t,qz p];simp only [qac,qas,qa9,List.drop_zero,List.nil_append];constructor
   ·rintro (⟨o,ts,h1,b,v⟩ | ⟨us,h1,b⟩);exact ⟨o,ts, .inl h1,b,v⟩
    ·exact ⟨_,us, .inr rfl,(g us d).1 h1,b⟩
   ·rintro ⟨o,ts,h1 | rfl,b,v⟩;exact .inl ⟨o,ts,h1,b,v⟩
    ·exact .inr ⟨ts,(g ts d).2 b,v⟩
 ·have e:∀ t,t∈c↔Bt v1.1.f_Nodes i t:=fun t=>by
   rw [c2 t,qaw];constructor;rintro ⟨o,ts,h1,b,rfl⟩;exact .mk hn h1 b
   ·intro q;obtain ⟨m,o,ts,hm,ho,rfl,hs⟩:=q.inv;rw [hn] at hm;cases hm;exact ⟨o,ts,ho,hs,rfl⟩
  exact ⟨_,by simp only [kdf,kaf,hn,qa,kaq,qc],_,rfl,c1,qaf (c1.len fun u f=>x3 u ((e u).1 f)) x1,e⟩
theorem k4p {s:Spa} (hf:kgy s) (I:FewT s.f_Nodes) {Y:List Tm} (J:Y.length<=4096) (x:∀ u∈Y,u.size<=1000) (B:∀ t,InS s t->t∈Y):Ev (kfy s) fun r=>r.2=0/\SLt r.1/\∀ t,t∈r.1↔InS s t:=by
 unfold kfy;obtain ⟨v1,hv,C⟩:=kzr (k25 hf);rcases C with ⟨h,_⟩ | ⟨_,f,p,hk,rfl⟩;exact absurd hf h;have e:=kxg hf hk;have D:=kz4 hf hk I;have g:=kx7 hf hk;generalize K:kh1 f p s=s' at *
 have M:=e.nodes;rw [hv,qa];show Ev (bif ((0:Int) != 0) then _ else _) _;rw [show ((0:Int) != 0)=false from rfl,qc];refine kds (Ev.mono (kb9 (xs:=s'.f_Nodes) (step:=ke2 (s',0)) (fun (i:Nat) (L:List (List Tm))=>((i:Int),L)) (fun i L=>L.length=i/\∀ (k:Nat) (row:List Tm),L[k]?=some row->SLt row/\∀ t,t∈row↔Bt s'.f_Nodes k t)
  (Q:=fun r=>∃ L:List (List Tm),r = .inl L/\L.length=s'.f_Nodes.length/\∀ (k:Nat) (row:List Tm),L[k]?=some row->SLt row/\∀ t,t∈row↔Bt s'.f_Nodes k t) (t0:=[]) (by omega) ⟨rfl,by simp⟩ (fun i L hi ⟨l1,l2⟩=>?_) (fun L ⟨l1,l2⟩=>?_)) ?_)
 ·have hn:=qb hi;simp only [ke2,kav hi,qf,kal hi (show s'.f_Nodes.length<=9223372036854775807 by omega)];refine kds (Ev.mono (k36 e hn l1 l2 D (s',0) rfl _ rfl) fun l ⟨g1,g2,g3⟩=>?_);have e1:decide ((4096:Int)<(l.length:Int))=false:=qe (by omega);simp only [e1,qc];rw [keh (by rw [qam];omega),qa];refine ⟨_,rfl,_,rfl,by rw [qab,l1];rfl,fun k row hk=>?_⟩;by_cases E:k<L.length;rw [q9 E] at hk;exact l2 k row hk
  ·rw [qai (by omega)] at hk;have h0:k - L.length=0:=(by have:=(qj.1 hk).1;simpa using this);rw [h0] at hk;simp at hk;subst hk;have:k=i:=(by omega);subst this;exact ⟨g1,g3⟩
 exact ⟨_,by simp only [ke2,kaq,qc],_,rfl,L,rfl,l1,l2⟩
 ·rintro r ⟨L,rfl,l1,l2⟩;simp only [qg];have N:=kte e.roots;have a:∀ t,InS s' t->t∈Y:=fun t ht=>B t ((g t).1 ht);refine kds (Ev.mono (kb9 (xs:=s'.f_Roots) (step:=kez (s',0) L) (fun (j:Nat) (c:List Tm)=>(c,(j:Int))) (fun j c=>SLt c/\∀ t,t∈c↔∃ r∈s'.f_Roots.take j,0<=r/\Bt s'.f_Nodes r.toNat t) (Q:=fun c=>SLt c/\∀ t,t∈c↔InS s' t) (t0:=[]) (by omega) ⟨List.Pairwise.nil,by simp⟩ (fun j c v ⟨c1,c2⟩=>?_) (fun c ⟨c1,c2⟩=>?_)) ?_)
  ·have hr:=qb v;have o:=e.roots.1 _ (qq v);have n:L[s'.f_Roots[j].toNat]?=some (L[s'.f_Roots[j].toNat]'(by omega)):=qb _;have y:idx L s'.f_Roots[j]=some (L[s'.f_Roots[j].toNat]'(by omega)):=(by unfold idx;rw [qn o.1,n]);obtain ⟨k1,k2⟩:=l2 _ _ n;generalize L[s'.f_Roots[j].toNat]'(by omega)=row at *
   have b:∀ t,Bt s'.f_Nodes s'.f_Roots[j].toNat t->InS s' t:=fun t ht=>⟨_,qq v,o.1,ht⟩;have F:∀ u,(∃ r∈s'.f_Roots.take j,0<=r/\Bt s'.f_Nodes r.toNat u)->u∈Y:=fun u ⟨r,h1,z,w⟩=>a u ⟨r,List.mem_of_mem_take h1,z,w⟩;have G:row.length<=4096:=qaf (k1.len fun u q=>a u (b u ((k2 u).1 q))) J;simp only [kez,kav v,qf,kaf,hr,y,qa,kal v (show s'.f_Roots.length<=9223372036854775807 by omega)];refine kds (Ev.mono (kb9 (xs:=row) (step:=keu row) (fun (m:Nat) (d:List Tm)=>(d,(m:Int))) (fun m d=>SLt d/\∀ t,t∈d↔t∈c\/t∈row.take m) (Q:=fun d=>SLt d/\∀ t,t∈d↔t∈c\/t∈row) (t0:=c) (by omega) ⟨c1,by simp⟩ (fun m d hm ⟨d1,d2⟩=>?_) (fun d ⟨d1,d2⟩=>?_)) ?_)
   ·have H:=qb hm;have A:∀ u∈d,u∈Y:=fun u q=>by
     rcases (d2 u).1 q with h | h;exact F u ((c2 u).1 h)
     ·exact a u (b u ((k2 u).1 (List.mem_of_mem_take h)))
    have O:=d1.len A;have e1:decide ((d.length:Int)<=4096)=true:=qh (by omega);simp only [keu,kav hm,qf,e1,qa,kaf,H,kal hm (show row.length<=9223372036854775807 by omega)];refine kds (Ev.mono (k0v (t:=row[m]) d1 (fun u q=>x u (A u q)) (x _ (a _ (b _ ((k2 _).1 (qq hm))))) (by omega)) fun d' ⟨g1,g2⟩=>?_);refine ⟨_,rfl,d',rfl,g1,fun t=>?_⟩;rw [g2 t,d2 t,qz hm];simp only [qac,qas];exact or_assoc
   refine ⟨_,by simp only [keu,kaq,qc,qa],_,rfl,d1,?_⟩;rw [qaw] at d2;exact d2
   ·rintro d ⟨d1,d2⟩;refine ⟨_,rfl,d,rfl,d1,fun t=>?_⟩;rw [d2 t,c2 t,k2 t,qz v];simp only [qac,qas];constructor
    ·rintro (⟨r,h1,z,w⟩ | h);exact ⟨r, .inl h1,z,w⟩
     ·exact ⟨_, .inr rfl,o.1,h⟩
    ·rintro ⟨r,h1 | rfl,z,w⟩;exact .inl ⟨r,h1,z,w⟩
     ·exact .inr w
  refine ⟨_,by simp only [kez,kaq,qc],_,rfl,c1,fun t=>?_⟩;rw [c2 t,qaw];exact Iff.rfl
  ·rintro c ⟨c1,c2⟩;have hcl:=c1.len fun u q=>a u ((c2 u).1 q);have e1:decide ((4096:Int)<(c.length:Int))=false:=qe (by omega);rw [e1,qc];exact ⟨_,rfl,rfl,c1,fun t=>by rw [c2 t];exact g t⟩
end Go.Proofs.YtpcfkflhnkfjjaaGreat
