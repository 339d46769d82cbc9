import Derived.Test.YtpnnpkmjohkgiaaGreatDoorXi
set_option linter.all false
namespace Go.Proofs.YtpnnpkmjohkgiaaGreatDoor
open Go Go.RowKit
def HistI (ids ids':List Nat) (ψ ψ':Env) (S S':Nat->Prop) (w w':World):Prop:=Ext (·∈ids) ψ ψ'/\(∀ i,i∈ids->i∈ids')/\(∀ b,S b->S' b)/\Same S w w'
section
variable {P:Program} {F S0:Nat->Prop} {N0:Nat} {w w':World} {S S':Nat->Prop} {ψ ψ':Env} {Q:Exit->St->Prop} {st:St} {os:Array Oper} {n:Nat} {es ch ai:List Nat}
theorem HistI.refl {ids:List Nat}:HistI ids ids ψ ψ S S w w:=⟨Ext.refl,fun _ h=>h,fun _ h=>h,fun _ _ _=>rfl⟩
theorem HistI.trans {ids ids' ids2:List Nat} {ψ2:Env} {S2:Nat->Prop} {w2:World} (h:HistI ids ids' ψ ψ' S S' w w') (k:HistI ids' ids2 ψ' ψ2 S' S2 w' w2):HistI ids ids2 ψ ψ2 S S2 w w2:=
 ⟨h.1.trans' k.1 h.2.1,fun i hi=>k.2.1 i (h.2.1 i hi),fun b a=>k.2.2.1 b (h.2.2.1 b a),h.2.2.2.trans' k.2.2.2 h.2.2.1⟩
structure DSx (F S0:Nat->Prop) (N0:Nat) (ψ0:Env) (Sa:Nat->Prop) (w0:World) (l:List Oper) (n:Nat) (es:List Nat) (st:St) (c:Nat->AV) (H:Nat->List (Nat×AObj)×List Nat) (listed:Array Bool) (a:Act) (w:World):Prop where
 inv:∃ kD ψ S,kD<=n/\(∀ e,e∈es->(listed.getD e false=true↔e<kD))/\Sim F S0 N0 (stZ l n st c H listed kD) ψ S a w/\HistI st.ids (H kD).2 ψ0 ψ Sa S w0 w
 fr:Fr F w0 w
 lsize:listed.size=l.length
 closed:∀ k o,listed.getD k false=true->l[k]?=some o->∀ e∈o.after,Region.binds .any e=true->listed.getD e.on false=true
def FactX (P:Program) (l:List Oper) (n:Nat) (es:List Nat) (chi chs:Nat->List Nat) (ai:List Nat) (st:St) (c:Nat->AV) (H:Nat->List (Nat×AObj)×List Nat) (i:Nat) (o:Oper):Prop:=
 (i∉es/\H (i+1)=H i/\kil P l.toArray (kbb l n es (chi i) ai st i o (fsOf l c i) (H i).1 (H i).2) o (c i)/\(phB l es i || okA st.ids (c i))=true) \/
 (i∈es/\kl0 P l.toArray l n es (chs i) ai st (kbb l n es (chi i) ai st i o (fsOf l c i) (H i).1 (H i).2) o (c i) (H i).1 (H i).2 (H (i+1)).1 (H (i+1)).2)
theorem kux (hm:P.follows .mixedOrders=true) {id:Nat} {l:List Oper} {c:Nat->AV} {H:Nat->List (Nat×AObj)×List Nat} {chi chs:Nat->List Nat} (hB:relB l n st.n=true) (bb:kl6 l n es=true) (bc:st.ids.all ai.contains=true) (V:H 0=(st.heap,st.ids))
  (bd:∀ j i,j∈es->i<n->anc l j i=false->∀ id,id∈chs j->id∈chi i) (J:∀ i o,i<n->l[i]?=some o->FactX P l n es chi chs ai st c H i o) {F S0:Nat->Prop} {N0:Nat} {ψ0:Env} {Sa:Nat->Prop} {a0:Act} {w0:World} (q:Sim F S0 N0 st ψ0 Sa a0 w0) (R:Exit->Act->World->Prop)
  (a2:∀ ψ S a w,Sim F S0 N0 { st with tmps:=hadd (fsOf l c n) (fun _=>true) st.tmps,heap:=(H n).1,ids:=(H n).2 } ψ S a w->Fr F w0 w->HistI st.ids (H n).2 ψ0 ψ Sa S w0 w->wpList P l.toArray R (l.drop n) a w):(Code.region id l.toArray true).wp P R a0 w0:=by
 have ok:=km3 hB
 -- facts about the chain
 have af:∀ e,e∈es->e<n/\phB l es e=true:=fun e g=>by have:=ql.1 bb e g;rw [qn] at this;exact ⟨by simpa [qbd] using this.1,this.2⟩
 have a3:∀ i,phB l es i=true->∀ e,e∈es->(e<i->anc l i e=true)/\(i<e->anc l e i=true):=fun i hi e g=>by
  have:=ql.1 hi e g;refine ⟨fun r=>?_,fun r=>?_⟩;have u:Nat.blt e i=true:=(by simpa [qbd] using r);simpa [u] using this
  ·have u:Nat.blt i e=true:=(by simpa [qbd] using r);have be:Nat.blt e i=false:=by
    cases hx:Nat.blt e i with
    | false=>rfl
    | true=>
      have:e<i:=(by simpa [qbd] using hx);omega
   simpa [u,be] using this
 have hs1:Sim F S0 N0 st ψ0 Sa a0 w0.drew:=⟨q.defers,q.size,fun t=>(q.tmps t).keep Ext.refl (fun _ h=>h) (fun _ h=>h) (fun _ _ _=>rfl),⟨fun id ob ho=>by obtain ⟨e1,e2,e3⟩:=q.core.obj id ob ho;exact ⟨e1,e2.keep Ext.refl (fun _ h=>h) (fun _ h=>h) (fun _ _ _=>rfl) ⟨rfl,rfl⟩ (fun _ _=>rfl),e3⟩,q.core.inj,q.core.lt,q.core.s0,q.core.n0,q.core.fr⟩⟩;refine wp_region_any hm ?_;have ag:∀ i,i<n->i∉es->H (i+1)=H i:=fun i hi O=>by
  have A:i<l.length:=by have:=ok.len;omega
  rcases J i l[i] hi (qa A) with ⟨_,h1,_⟩ | ⟨h1,_⟩;exact h1
  ·exact absurd h1 O
 have s:¬ (∀ i,i<n->phB l es i=true)->∀ j,j<n->(∀ id,id∉chs j->∀ ob,kab (H j).1 id=some ob->kab (H (j+1)).1 id=some ob)/\((∀ id,id∈(H j).2->id∈ai)->∀ id,id∈(H (j+1)).2->id∈ai)/\∀ id,id∈(H j).2->id∈(H (j+1)).2:=fun Q j L=>by
  have E:j<l.length:=by have:=ok.len;omega
  rcases J j l[j] L (qa E) with ⟨_,h1,_⟩ | ⟨_,_,h1⟩;rw [h1];exact ⟨fun _ _ _ h=>h,fun h=>h,fun _ h=>h⟩
  ·obtain ⟨q1,q2,q3⟩:=h1.resolve_left Q;exact ⟨q1,fun _=>q2,q3⟩
 have T:¬ (∀ i,i<n->phB l es i=true)->∀ i,i<n->∀ k,k<=n->(∀ j,j<k->j∈es->anc l j i=false)->∀ id,id∉chi i->∀ ob,kab st.heap id=some ob->kab (H k).1 id=some ob:=fun Q i bf k=>by
  induction k with
  | zero=>intro _ _ id _ ob h;rw [V];exact h
  | succ k ih=>
   intro B a4 id a5 ob h;have hk:=ih (by omega) (fun j L=>a4 j (by omega)) id a5 ob h;by_cases ao:k∈es;exact (s Q k (by omega)).1 id (fun hc=>a5 (bd k i ao bf (a4 k (Nat.lt_succ_self _) ao) id hc)) ob hk
   ·rw [ag k (by omega) ao];exact hk
 have G:¬ (∀ i,i<n->phB l es i=true)->∀ k,k<=n->(∀ id,id∈(H k).2->id∈ai)/\∀ id,id∈st.ids->id∈(H k).2:=fun Q k=>by
  induction k with
  | zero=>intro _;rw [V];exact ⟨fun id h=>by simpa using ql.1 bc id h,fun _ h=>h⟩
  | succ k ih=>intro B;obtain ⟨q1,q2⟩:=ih (by omega);exact ⟨(s Q k (by omega)).2.1 q1,fun id h=>(s Q k (by omega)).2.2 id (q2 id h)⟩
 suffices key:∀ (fuel:Nat) (listed:Array Bool) (a:Act) (w:World),DSx F S0 N0 ψ0 Sa w0 l n es st c H listed a w->(∀ k,listed.getD k false=true->k<n) ->
   ((List.range l.length).countP fun k=>!listed.getD k true)<=fuel->wpAny P .any l.toArray R fuel listed a w by
  refine key _ _ _ _ ⟨⟨0,ψ0,Sa,qar _,fun e _=>by rw [kd6];simp,?_,⟨Ext.refl,fun i h=>by rw [V];exact h,fun _ h=>h,fun _ _ _=>rfl⟩⟩,Fr.drew,by simp,(fun k o hk=>by rw [kd6] at hk;cases hk)⟩ (fun k hk=>by rw [kd6] at hk;cases hk) ?_
  ·refine ⟨hs1.defers,hs1.size,fun t=>?_,by show Core F S0 N0 (H 0).1 (H 0).2 _ _ _;rw [V];exact hs1.core⟩;show RV _ (·∈(H 0).2) _ _ _ (look .any (kcn (fsOf l c n) _ st.tmps) t);rw [V];rcases kat (l:=l) (c:=c) (p:=fun j=>(Array.replicate l.toArray.size false).getD j false) (base:=st.tmps) (t:=t) n with ⟨j,_,L,_⟩ | ⟨_,M⟩;rw [kd6] at L;cases L
   ·rw [M];exact hs1.tmps t
  ·refine qat (List.countP_le_length ..) ?_;simp
 intro fuel
 -- the end of the bw
 have fin:∀ (listed:Array Bool) (a:Act) (w:World),DSx F S0 N0 ψ0 Sa w0 l n es st c H listed a w->(∀ i,i<n->listed.getD i false=true)->wpList P l.toArray R (l.drop n) a w:=by
  intro listed a w d f;obtain ⟨kD,ψ,S,B,hk,hs,X⟩:=d.inv;have aq:H kD=H n:=kic (es:=es) (n:=n) ag B (qt _) fun e g h=>by have:=(hk e g).1 (f e h.2);omega
  have bg:Sim F S0 N0 { st with tmps:=hadd (fsOf l c n) (fun _=>true) st.tmps,heap:=(H n).1,ids:=(H n).2 } ψ S a w:=by
   refine ⟨hs.defers,hs.size,fun t=>?_,by rw [<- aq];exact hs.core⟩;have ht:=hs.tmps t;rw [<- aq];show RV _ _ _ _ _ (look .any (hadd (fsOf l c n) (fun _=>true) st.tmps) t);have ht:RV ψ (·∈(H kD).2) S w (a.tmps.getD t undef) (look .any (kcn (fsOf l c n) (fun j=>listed.getD j false) st.tmps) t):=ht;rcases kej (l:=l) (c:=c) (p:=fun _=>true) (base:=st.tmps) (t:=t) n with h | ⟨j,h1,_,y,Y⟩ | ⟨h1,M⟩;rw [h];exact .any
   ·rw [Y];rcases kat (l:=l) (c:=c) (p:=fun j=>listed.getD j false) (base:=st.tmps) (t:=t) n with ⟨j',e1,e2,e3,e4⟩ | ⟨e1,e2⟩;rw [e4] at ht;have bh:j'=j:=(by unfold dstT at y e3;simp only [qi] at y e3;obtain ⟨o1,p1,p2⟩:=y;obtain ⟨o2,q1,q2⟩:=e3;exact ok.uniq j' j o2 o1 t e1 h1 q1 p1 q2 p2);rw [bh] at ht;exact ht
    ·exact absurd y (e1 j h1 (f j h1))
   ·rw [M];rcases kat (l:=l) (c:=c) (p:=fun j=>listed.getD j false) (base:=st.tmps) (t:=t) n with ⟨j',e1,e2,e3,e4⟩ | ⟨e1,e2⟩;exact absurd e3 (h1 j' e1)
    ·rw [e2] at ht;exact ht
  exact a2 ψ S a w bg d.fr (by rw [<- aq];exact X)
 induction fuel with
 | zero=>
  intro listed a w d hh hc;have f:∀ i,i<l.length->listed.getD i false=true:=fun i hi=>by have h0:((List.range l.length).countP fun k=>!listed.getD k true)=0:=(by omega);rw [List.countP_eq_zero] at h0;have:=h0 i (by simpa using hi);simp [d.lsize,hi] at this ⊢;exact this
  have hn:n=l.length:=by
   have:=ok.len;rcases qau n l.length with h' | h';have:=hh n (f _ h');omega
   ·omega
  have H:=fin listed a w d fun i hi=>f i (by omega);rw [hn] at H;exact ke3 ok 0 l.length listed a w (by omega) (qt _) d.lsize (fun i hi=>⟨fun _=>hi,fun _=>by have:=f i hi;simp [d.lsize,hi] at this ⊢;exact this⟩) (by omega) H
 | succ fuel ih=>
  intro listed a w d hh hc;by_cases z:∀ i,i<n->listed.getD i false=true
  ·refine ke3 ok (fuel+1) n listed a w (qt _) ok.len d.lsize (fun i hi=>⟨fun hl=>hh i (by
    simp [d.lsize,hi] at hl ⊢;exact hl),fun C=>by
    have:=z i C;simp [d.lsize,hi] at this ⊢;exact this⟩) ?_ (fin listed a w d z)
   refine qat ?_ hc;rw [show l.length=n+(l.length - n) by have:=ok.len;omega,List.range_add,List.countP_append];have:((List.range (l.length - n)).map (n+·)).countP (fun k=>!listed.getD k true)=l.length - n:=(by rw [List.countP_eq_length.2,qaj,List.length_range];intro k hk;simp only [qaf,List.mem_range] at hk;obtain ⟨m,hm,rfl⟩:=hk;have r:n+m<l.length:=(by omega);have:listed.getD (n+m) false≠true:=fun h=>(by have:=hh _ h;omega);simp [d.lsize,r] at this ⊢;exact this);omega
  ·have ar:Region.ready .any l.toArray listed≠[]:=by
    have bi:∃ i,i<n/\listed.getD i false=false/\∀ j,j<i->listed.getD j false=true:=by
     have:∃ i,i<n/\listed.getD i false=false:=(by simp only [Classical.not_forall] at z;obtain ⟨i,hi,u⟩:=z;exact ⟨i,hi,by simpa using u⟩);obtain ⟨i,hi,u⟩:=this
     induction i using Nat.strongRecOn with
     | _ i ihi=>
      by_cases f:∀ j,j<i->listed.getD j false=true;exact ⟨i,hi,u,f⟩
      ·simp only [Classical.not_forall] at f;obtain ⟨j,L,bj⟩:=f;exact ihi j L (by omega) (by simpa using bj)
    obtain ⟨i,hi,u,f⟩:=bi;have A:i<l.length:=(by have:=ok.len;omega);have:i∈Region.ready .any l.toArray listed:=mem_ready.2 ⟨by simp [d.lsize,A] at u ⊢;exact u,l[i],by simp [A],fun e g ah=>f _ (ok.edges i _ (qa A) e g ah)⟩;intro h0;rw [h0] at this;cases this
   refine ⟨fun h0=>absurd h0 ar,fun i hi=>?_⟩;obtain ⟨h0,o,ho,f⟩:=mem_ready.1 hi;have U:l[i]?=some o:=(by simpa using ho);have A:i<l.length:=(qd.1 U).1;have aj:=kmo h0;have N:∀ j,anc l i j=true->listed.getD j false=true:=fun j L=>
    kdp (l:=l) (S:=fun j=>listed.getD j false=true) (fun m p hm hp e g u=>d.closed m p hm hp e g u) i o U f j L
   have D:∀ j,listed.getD j false=true->anc l j i=true->False:=fun j L ha=>(by have E:j<l.length:=(by have:=ks5 L;rw [d.lsize] at this;exact this);have:=kdp (l:=l) (S:=fun j=>listed.getD j false=true) (fun m p hm hp e g u=>d.closed m p hm hp e g u) j l[j] (qa E) (fun e g u=>d.closed j _ L (qa E) e g u) i ha;rw [aj] at this;cases this);have C:i<n:=by
    rcases qau i n with h' | h';exact h'
    ·exfalso;apply z;intro j L;exact N j (ok.tail i j A h' (by omega))
   obtain ⟨kD,ψ,S,B,hk,hs,X⟩:=d.inv;have au:dstT l i=o.dst:=(by unfold dstT;rw [U];rfl);have Z:∀ k,(listed.setIfInBounds i true).getD k false=true->k=i\/listed.getD k false=true:=fun k hk=>by
    by_cases a6:i=k;exact .inl a6.symm
    ·rw [getD_set_ne false a6] at hk;exact .inr hk
   have aa:(listed.setIfInBounds i true).getD i false=true:=(by simp [d.lsize,A]);have a7:∀ t,o.dst=some t->t<st.n:=fun t ht=>ok.dst i o t C U ht
   -- the bk agree with the text's,for what the view bl
   have ak:(∀ e,e∈es->(e<i↔e<kD))->H i=H kD:=fun a8=>by
    rcases Nat.le_total i kD with av | av
    ·exact kic (es:=es) (n:=n) ag av B fun e g h=>by have:=a8 e g;omega
    ·exact (kic (es:=es) (n:=n) ag av (by omega) fun e g h=>by have:=a8 e g;omega).symm
   have x:phB l es i=true->H i=H kD:=fun hp=>ak fun e g=>by
    obtain ⟨h1,M⟩:=a3 i hp e g;have y:=hk e g;constructor;intro r;exact y.1 (N e (h1 r))
    ·intro r;rcases Nat.lt_trichotomy e i with h | h | h;exact h;subst h;rw [y.2 r] at aj;cases aj
     ·exact (D e (y.2 r) (M h)).elim
   -- the slots of the view
   have ab:∀ (K:Nat->Prop),(∀ id,id∈(H kD).2->K id)->∀ t,RV ψ K S w (a.tmps.getD t undef) (look .any (hadd (fsOf l c i) (kcz o) (kdu l i n++st.tmps)) t):=fun K hK t=>by
    have ht:RV ψ (·∈(H kD).2) S w (a.tmps.getD t undef) (look .any (kcn (fsOf l c n) (fun j=>listed.getD j false) st.tmps) t):=hs.tmps t;have uniq:∀ {j j':Nat},j<n->j'<n->dstT l j=some t->dstT l j'=some t->j=j':=fun {j j'} h1 M y Y=>(by unfold dstT at y Y;simp only [qi] at y Y;obtain ⟨o1,p1,p2⟩:=y;obtain ⟨o2,q1,q2⟩:=Y;exact ok.uniq j j' o1 o2 t h1 M p1 q1 p2 q2);rcases kej (l:=l) (c:=c) (p:=kcz o) (base:=kdu l i n++st.tmps) (t:=t) i with h | ⟨j,h1,M,y,Y⟩ | ⟨h1,M⟩;rw [h];exact .any
    ·rw [Y];have E:listed.getD j false=true:=(by obtain ⟨e,g,bm,u⟩:=afterB_iff.1 M;rw [<- bm];exact f e g u);rcases kat (l:=l) (c:=c) (p:=fun j=>listed.getD j false) (base:=st.tmps) (t:=t) n with ⟨j',e1,e2,e3,e4⟩ | ⟨e1,e2⟩;rw [e4,uniq e1 (by omega) e3 y] at ht;exact ht.mono hK fun _ h=>h
     ·exact absurd y (e1 j (by omega) E)
    ·rw [M];rcases kgf (l:=l) (i:=i) (base:=st.tmps) (t:=t) n with h | ⟨k1,k2⟩;rw [h];exact .any
     ·rw [k2];rcases kat (l:=l) (c:=c) (p:=fun j=>listed.getD j false) (base:=st.tmps) (t:=t) n with ⟨j',e1,e2,e3,e4⟩ | ⟨e1,e2⟩
      ·exfalso;rcases k1 j' e1 e3 with h | h
       ·rcases qau j' i with h' | h';exact h1 j' h' e3
        ·obtain rfl:j'=i:=(by omega);rw [aj] at e2;cases e2
       ·exact D j' e2 h
      ·rw [e2] at ht;exact ht.mono hK fun _ h=>h
   have fact:=J i o C U
   -- what a value in the slot leaves
   have next:∀ (kD':Nat) (ψ':Env) (S':Nat->Prop) (v:Value) (w':World),kD'<=n->(∀ e,e∈es->((listed.setIfInBounds i true).getD e false=true↔e<kD'))->Fr F w w'->HistI (H kD).2 (H kD').2 ψ ψ' S S' w w' ->
     Core F S0 N0 (H kD').1 (H kD').2 ψ' S' w'->RV ψ' (·∈(H kD').2) S' w' v (c i)->(∀ t,RV ψ' (·∈(H kD').2) S' w' (a.tmps.getD t undef) ((stZ l n st c H listed kD).get t)) ->
     wpAny P .any l.toArray R fuel (listed.setIfInBounds i true) (a.put o.dst v) w':=fun kD' ψ' S' v w' q1 q2 q4 q8 q5 q6 q7=>by
    refine ih _ _ _ ⟨⟨kD',ψ',S',q1,q2,?_,X.trans q8⟩,d.fr.trans q4,by simp [d.lsize],?_⟩ (fun k hk=>(Z k hk).elim (fun e=>by omega) (hh k)) ?_
    ·refine ⟨by rw [kh3];exact hs.defers,by rw [kla];exact hs.size,fun t=>?_,q5⟩;rw [kha hs.size a7];have q7:=q7 t;show RV ψ' _ S' w' _ (look .any (kcn (fsOf l c n) (fun j=>(listed.setIfInBounds i true).getD j false) st.tmps) t);have q7:RV ψ' (·∈(H kD').2) S' w' (a.tmps.getD t undef) (look .any (kcn (fsOf l c n) (fun j=>listed.getD j false) st.tmps) t):=q7;have uniq:∀ {j j':Nat},j<n->j'<n->dstT l j=some t->dstT l j'=some t->j=j':=fun {j j'} h1 M y Y=>(by unfold dstT at y Y;simp only [qi] at y Y;obtain ⟨o1,p1,p2⟩:=y;obtain ⟨o2,p3,p4⟩:=Y;exact ok.uniq j j' o1 o2 t h1 M p1 p3 p2 p4);rcases kat (l:=l) (c:=c) (p:=fun j=>(listed.setIfInBounds i true).getD j false) (base:=st.tmps) (t:=t) n with ⟨j,e1,e2,e3,e4⟩ | ⟨e1,e2⟩
     ·rw [e4];by_cases aw:j=i;subst aw;rw [au] at e3;rw [qq e3];exact q6
      ·have E:=(Z j e2).resolve_left aw;rw [qh (fun h=>aw (uniq e1 C e3 (by rw [au];exact h)))];rcases kat (l:=l) (c:=c) (p:=fun j=>listed.getD j false) (base:=st.tmps) (t:=t) n with ⟨j',f1,f2,f3,f4⟩ | ⟨f1,f2⟩;rw [f4,uniq f1 e1 f3 e3] at q7;exact q7
       ·exact absurd e3 (f1 j e1 E)
     ·rw [e2,qh (fun h=>e1 i C aa (by rw [au];exact h))];rcases kat (l:=l) (c:=c) (p:=fun j=>listed.getD j false) (base:=st.tmps) (t:=t) n with ⟨j',f1,f2,f3,f4⟩ | ⟨f1,f2⟩;exact absurd f3 (e1 j' f1 (getD_set_true f2))
      ·rw [f2] at q7;exact q7
    ·intro k p hk hp e g ah;rcases Z k hk with rfl | bn;rw [U] at hp;obtain rfl:=qag hp;exact getD_set_true (f e g ah)
     ·exact getD_set_true (d.closed k p bn hp e g ah)
    ·have:=kgd (m:=l.length) A h0 (by rw [d.lsize];exact A);omega
   have ac:∀ e,e∈es->i∉es->((listed.setIfInBounds i true).getD e false=true↔e<kD):=fun e g bo=>(by have ar:i≠e:=fun h=>bo (h ▸ g);rw [getD_set_ne false ar];exact hk e g);unfold wpOp;simp only [ho];rcases fact with ⟨O,al,hN,am⟩ | ⟨O,bp,bq⟩
   ·-- one that changes nothing
    have an:∀ id,id∈(H kD).2->id∈(kbb l n es (chi i) ai st i o (fsOf l c i) (H i).1 (H i).2).ids:=fun id=>by
     show _->id∈(bif phB l es i then (H i).2 else ai);cases hp:phB l es i with
     | true=>simp only [qe];rw [x hp];exact fun h=>h
     | false=>simp only [qg];exact (G (fun h=>by rw [h i C] at hp;cases hp) kD B).1 id
    have ax:∀ {v:Value} {S':Nat->Prop} {w':World},RV ψ (·∈(kbb l n es (chi i) ai st i o (fsOf l c i) (H i).1 (H i).2).ids) S' w' v (c i)->RV ψ (·∈(H kD).2) S' w' v (c i):=fun {v S' w'} hv=>by
     cases hp:phB l es i with
     | true=>
      have g:(kbb l n es (chi i) ai st i o (fsOf l c i) (H i).1 (H i).2).ids=(H kD).2:=(by show (bif phB l es i then (H i).2 else ai)=_;rw [hp,qe,x hp]);rw [g] at hv;exact hv
     | false=>
      rw [hp,Bool.false_or] at am;exact (hv.subA am).mono (G (fun h=>by rw [h i C] at hp;cases hp) kD B).2 fun _ h=>h
    have ay:∀ t,RV ψ (·∈(kbb l n es (chi i) ai st i o (fsOf l c i) (H i).1 (H i).2).ids) S w (a.tmps.getD t undef) ((kbb l n es (chi i) ai st i o (fsOf l c i) (H i).1 (H i).2).get t):=ab _ an;have br:∀ id ob,kab (kbb l n es (chi i) ai st i o (fsOf l c i) (H i).1 (H i).2).heap id=some ob->ObR ψ (·∈(kbb l n es (chi i) ai st i o (fsOf l c i) (H i).1 (H i).2).ids) S w id ob:=fun id ob I=>by
     have a9:kab (H kD).1 id=some ob:=by
      have I:kab (bif phB l es i then (H i).1 else ke5 (chi i) st.heap) id=some ob:=I;cases hp:phB l es i with
      | true=>rw [hp] at I;simp only [qe] at I;rw [x hp] at I;exact I
      | false=>
       rw [hp] at I;obtain ⟨g1,g2⟩:=khs I;exact T (fun h=>by rw [h i C] at hp;cases hp) i C kD B (fun j L bs=>by
        cases ha:anc l j i with
        | false=>rfl
        | true=>exact (D j ((hk j bs).2 L) ha).elim) id g1 ob g2
     obtain ⟨g1,g2,g3⟩:=hs.core.obj id ob a9;exact g2.keep Ext.refl an (fun _ h=>h) (fun _ _ _=>rfl) ⟨rfl,rfl⟩ (fun _ _=>rfl)
    rcases hN with ⟨hg,hN⟩ | ⟨hg,hN⟩
    ·have hw:=kec (st:=kbb l n es (chi i) ai st i o (fsOf l c i) (H i).1 (H i).2) ay hg;rw [qq hw];refine .inl (kco ?_ (hN ψ S a w ay br));rintro v w' ⟨g1,g2⟩;refine next kD ψ (fun b=>(S b\/w.heap.size<=b)/\b<w'.heap.size) v w' B (fun e g=>ac e g O) (Fr.of_grow hs.core.fr g1) ⟨Ext.refl,fun _ h=>h,fun b u=>⟨.inl u,qa6 (hs.core.lt b u) g1.size⟩,Same.of_grow g1⟩ (hs.core.grow g1) ?_ fun t=>?_;exact (ax g2).bound.mono (fun _ h=>h) fun _ h=>h
     ·exact (hs.tmps t).keep Ext.refl (fun _ h=>h) (fun b u=>⟨.inl u,qa6 (hs.core.lt b u) g1.size⟩) (Same.of_grow g1)
    ·have hw:=kec (st:=kbb l n es (chi i) ai st i o (fsOf l c i) (H i).1 (H i).2) ay hg;rw [qh (by rw [hw];exact qah)];exact next kD ψ S undef w B (fun e g=>ac e g O) Fr.refl HistI.refl hs.core (by rw [hN];exact .fz RF.undef) fun t=>hs.tmps t
   ·-- one of the chain
    have hp:=(af i O).2;have ad:=x hp;have az:Sim F S0 N0 (kbb l n es (chi i) ai st i o (fsOf l c i) (H i).1 (H i).2) ψ S a w:=by
     refine ⟨hs.defers,hs.size,fun t=>?_,?_⟩;show RV ψ (·∈(bif phB l es i then (H i).2 else ai)) S w _ _;rw [hp];simp only [qe];rw [ad];have:=ab (·∈(H kD).2) (fun _ h=>h) t;rw [<- ad] at this ⊢;exact this
     ·show Core F S0 N0 (bif phB l es i then (H i).1 else ke5 (chi i) st.heap) (bif phB l es i then (H i).2 else ai) ψ S w;rw [hp];simp only [qe];rw [ad];exact hs.core
    have bt:(kbb l n es (chi i) ai st i o (fsOf l c i) (H i).1 (H i).2).ids=(H kD).2:=(by show (bif phB l es i then (H i).2 else ai)=_;rw [hp,qe,ad]);have ae:∀ e,e∈es->((listed.setIfInBounds i true).getD e false=true↔e<i+1):=fun e g=>by
     have y:=hk e g;obtain ⟨h1,M⟩:=a3 i hp e g;by_cases ba:i=e;subst ba;rw [aa];simp
     ·rw [getD_set_ne false ba,y];constructor
      ·intro r;rcases qau e i with h | h;omega
       ·exact (D e (y.2 r) (M (by omega))).elim
      ·intro r;exact y.1 (N e (h1 (by omega)))
    rcases bp with ⟨hg,a1⟩ | ⟨hg,bu,hh,bv⟩;have hw:=kcw az hg;rw [qq hw];refine .inl (kco ?_ (a1 F S0 N0 ψ S a w az));rintro v w' ⟨ψ',S',g1,g2,g3,g4,g5,g6,g7⟩;rw [bt] at g4 g5;exact next (i+1) ψ' S' v w' (by omega) ae g3 ⟨g4,g5,g6,g7⟩ g1 g2 fun t=>(hs.tmps t).keep g4 g5 g6 g7
    ·have hw:=kcw az hg;rw [qh (by rw [hw];exact qah)];have al:H (i+1)=H kD:=(by rw [<- ad];exact Prod.ext hh bv);refine next (i+1) ψ S undef w (by omega) ae Fr.refl ⟨Ext.refl,fun j h=>by rw [al];exact h,fun _ h=>h,fun _ _ _=>rfl⟩ ?_ ?_ fun t=>?_;rw [al];exact hs.core;rw [bu];exact .fz RF.undef
     ·rw [al];exact hs.tmps t
end
end Go.Proofs.YtpnnpkmjohkgiaaGreatDoor
