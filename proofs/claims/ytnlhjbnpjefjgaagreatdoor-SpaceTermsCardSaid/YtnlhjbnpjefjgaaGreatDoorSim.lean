import Derived.Test.YtnlhjbnpjefjgaaGreatDoorAv
import Derived.LoopN
set_option linter.all false
set_option linter.unusedSectionVars false
namespace Go.Proofs.YtnlhjbnpjefjgaaGreatDoor
open Go Go.RowKit
variable [Dr]
inductive XO where
 | blk (g:Nat) (e:TypeId) (sz:Nat) (cells:List AV)
 | amap (kv:List (Value×AV))
 | imap (kv:List (Int×FV))
 | mit (m since:Nat) (seen:List Nat) (stepped:Nat)
inductive AObj where
 | box (e:TypeId) (cells:List AV)
 | frow (e:TypeId) (size:Nat) (xs:List FV)
 | gho (cs:List Value) (vs:List AV)
 | was (ψ0:Env) (ids0:List Nat) (S0:Nat->Prop) (w0:World)
 | smap (kv:List (BA×FV))
 | tab (g:Nat) (ov:Value) (eo ei:TypeId) (rows:List (List Value))
 | glb (gs:List (Nat×Array Value))
 | sit (s:BA) (pos:Nat)
 | memo (Φ:FV->FV->Prop) (hint:Option (Value×Option FV))
 | xo (k:XO)
structure St where
 n:Nat
 tmps:List (Nat×AV)
 heap:List (Nat×AObj)
 ids:List Nat
 dfr:List Deferred:=[]
def aS (s:St) (t:List (Nat×AV)) (o:List (Nat×AObj)):St:=⟨s.n,t++s.tmps,o++s.heap,o.map (·.1)++s.ids,s.dfr⟩
def iS (s:St) (l:List Nat):St:=⟨s.n,s.tmps,s.heap,l,s.dfr⟩
def look (d:AV):List (Nat×AV)->Nat->AV
 | [],_=>d
 | (k,v)::l,t=>bif Nat.beq k t then v else look d l t
def kaa:List (Nat×AObj)->Nat->Option AObj
 | [],_=>none
 | (k,v)::l,t=>bif Nat.beq k t then some v else kaa l t
def St.get (st:St) (t:Nat):AV:=look .any st.tmps t
def St.put (st:St) (d:Option Nat) (v:AV):St:=match d with
 | some d=>{ st with tmps:=(d,v)::st.tmps }
 | none=>st
def kxk:Value->AV
 | .agg cs=>bif cs.toList.all (·.oneCell') then .fz (.agg (cs.toList.map .atom)) else .any
 | .tuple _ => .any
 | v => .fz (.atom v)
def St.eval (st:St):Operand->AV
 | .tmp t=>st.get t
 | .const v=>kxk v
 | .global _ => .any
 | .func f => .fn f []
section
variable {F S0 S S':Nat->Prop} {N0:Nat} {w w':World} {ψ ψ':Env} {K K':Nat->Prop} {P:Program} {st:St} {a:Act}
theorem Nat.beq_eq_false {k t:Nat} (h:¬ k=t):Nat.beq k t=false:=by
 cases a:Nat.beq k t with
 | false=>rfl
 | true=>exact absurd (qi a) h
theorem kbc {d:AV} {l:List (Nat×AV)} {k t:Nat} {v:AV}:look d ((k,v)::l) t=if k=t then v else look d l t:=by
 simp only [look];by_cases h:k=t;subst h;simp
 ·rw [qj h,Nat.beq_eq_false h];rfl
theorem kah {l:List (Nat×AObj)} {k t:Nat} {v:AObj}:kaa ((k,v)::l) t=if k=t then some v else kaa l t:=by
 simp only [kaa];by_cases h:k=t;subst h;simp
 ·rw [qj h,Nat.beq_eq_false h];rfl
def GlbR (w:World) (g:Nat) (vs:Array Value):Prop:=(0<vs.size/\∃ e d,w.heap[g]?=some (.cells vs e d))\/(vs=#[]/\∃ m e d,w.heap[g]?=some (.cells #[.int .i64 m] e d))
theorem GlbR.lt {g:Nat} {vs:Array Value} (h:GlbR w g vs):g<w.heap.size:=by rcases h with ⟨_,e,d,h⟩ | ⟨_,m,e,d,h⟩ <;> exact (qa2.1 h).1
theorem GlbR.keep {g:Nat} {vs:Array Value} (h:GlbR w g vs) (hk:w'.heap[g]?=w.heap[g]?):GlbR w' g vs:=by
 rcases h with ⟨h0,e,d,h⟩ | ⟨h0,m,e,d,h⟩;exact .inl ⟨h0,e,d,hk.trans h⟩
 ·exact .inr ⟨h0,m,e,d,hk.trans h⟩
theorem GlbR.tab {g:Nat} {vs:Array Value} (h:GlbR w g vs) (h0:0<vs.size):∃ e d,w.heap[g]?=some (.cells vs e d):=by
 rcases h with ⟨_,h⟩ | ⟨rfl,_⟩;exact h
 ·cases h0
def HintR (S:Nat->Prop) (w:World):Option (Value×Option FV)->List MapEntry->Prop
 | none,_=>True
 | some (k,none),l=>∀ e∈l,e.key≠k
 | some (k,some vx),l=>∃ l1 e l2,l=l1++e::l2/\(∀ x∈l1,x.key≠k)/\e.key=k/\RF S w e.val vx
def MemoR (S:Nat->Prop) (w:World) (Φ:FV->FV->Prop) (h:Option (Value×Option FV)) (l:List MapEntry):Prop:=
 (∀ e∈l,∃ kx vx,Φ kx vx/\RF S w e.key kx/\RF S w e.val vx)/\HintR S w h l
theorem MemoR.keep {Φ:FV->FV->Prop} {h:Option (Value×Option FV)} {l:List MapEntry} (m:MemoR S w Φ h l) (hS:∀ b,S b->S' b) (hk:Same S w w'):MemoR S' w' Φ h l:=by
 refine ⟨fun e d=>?_,?_⟩;obtain ⟨kx,vx,h1,a,c⟩:=m.1 e d;exact ⟨kx,vx,h1,(a.keep hk).mono hS,(c.keep hk).mono hS⟩
 ·match h,m.2 with
  | none,_=>trivial
  | some (k,none),h=>exact h
  | some (k,some vx),⟨l1,e,l2,h1,a,c,f⟩=>exact ⟨l1,e,l2,h1,a,c,(f.keep hk).mono hS⟩
def XobR (ψ:Env) (K S:Nat->Prop) (w:World) (id:Nat):XO->Prop
 | .blk g e sz cells=>ψ.len id=g/\0<sz/\∃ b cs n cap,ψ.val id = .slice (some ⟨b,0,none⟩) n cap/\w.heap[b]?=some (.cells cs e (0,0))/\cs.size=cap*sz/\cap<=9223372036854775807/\cells.length<=cs.size/\(∀ x∈cells,x.single=true) /\
   ∀ (i:Nat) (v:Value) (x:AV),cs[i]?=some v->cells[i]?=some x->RV ψ K S w v x
 | .amap kv=>ψ.len id=0/\∃ b es,ψ.val id = .map (some b)/\w.heap[b]?=some (.map es kv.length)/\es.size=kv.length /\
   ∀ (i:Nat) (e:MapEntry) (p:Value×AV),es[i]?=some e->kv[i]?=some p->e.key=p.1/\e.born=i/\RV ψ K S w e.val p.2
 | .imap kv=>ψ.len id=0/\∃ b es,ψ.val id = .map (some b)/\w.heap[b]?=some (.map es kv.length)/\es.size=kv.length /\
   ∀ (i:Nat) (e:MapEntry) (p:Int×FV),es[i]?=some e->kv[i]?=some p->e.key = .int .i64 p.1/\e.born=i/\RF S w e.val p.2
 | .mit m since seen stepped=>ψ.len id=0/\K m/\∃ b bm,ψ.val id = .pointer (some ⟨b,0,none⟩)/\w.heap[b]?=some (.mapIter (some bm) since seen.toArray stepped)/\(0=ψ.len m->ψ.val m = .map (some bm))
def ObR (ψ:Env) (K S:Nat->Prop) (w:World) (id:Nat):AObj->Prop
 | .box e cells=>ψ.len id=0/\∃ b cs,ψ.val id = .pointer (some ⟨b,0,none⟩)/\w.heap[b]?=some (.cells cs e (0,0))/\cs.size=cells.length/\(∀ x∈cells,x.single=true) /\
   ∀ (i:Nat) (v:Value) (x:AV),cs[i]?=some v->cells[i]?=some x->RV ψ K S w v x
 | .frow e size xs=>ψ.len id=xs.length/\0<size/\∃ cs:List Value,w.ownsRow 0 e size (ψ.val id) xs.length cs/\(∀ x∈xs,x.cells.length=size/\∀ y∈x.cells,y.single=true) /\
   ∀ (i:Nat) (x:FV) (j:Nat) (v:Value) (y:FV),xs[i]?=some x->cs[i*size+j]?=some v->x.cells[j]?=some y->RF S w v y
 | .gho cs vs=>ψ.len id=0/\kar (ψ.val id)=none/\kfa (ψ.val id)=[]/\∀ (i:Nat) (v:Value) (x:AV),cs[i]?=some v->vs[i]?=some x->RV ψ K S w v x
 | .was ψ0 ids0 S0 w0=>ψ.len id=0/\kar (ψ.val id)=none/\kfa (ψ.val id)=[]/\Ext (·∈ids0) ψ0 ψ/\(∀ i,i∈ids0->K i)/\(∀ b,S0 b->S b)/\Same S0 w0 w
 | .smap kv=>ψ.len id=0/\∃ b es clock,ψ.val id = .map (some b)/\w.heap[b]?=some (.map es clock)/\es.size=kv.length /\
   ∀ (i:Nat) (e:MapEntry) (p:BA×FV),es[i]?=some e->kv[i]?=some p->e.key = .string p.1/\RF S w e.val p.2
 | .tab g ov eo ei rows=>ψ.len id=g/\∃ vs:List Value,ψ.val id = .tuple (ov::vs).toArray/\vs.length=rows.length/\w.ownsRow 0 eo 1 ov rows.length vs /\
   (∀ (j:Nat) (v:Value) (xs:List Value),vs[j]?=some v->rows[j]?=some xs->w.ownsRow 0 ei 1 v xs.length xs/\∀ u∈xs,u.oneCell'=true) /\
   ∀ (i j:Nat) (u v:Value) (b:Nat),(ov::vs)[i]?=some u->(ov::vs)[j]?=some v->i≠j->kar u=some b->kar v≠some b
 | .glb gs=>ψ.len id=0/\kar (ψ.val id)=none/\kfa (ψ.val id)=[]/\∀ p,p∈gs->S p.1/\GlbR w p.1 p.2
 | .sit s pos=>ψ.len id=0/\∃ b,ψ.val id = .pointer (some ⟨b,0,none⟩)/\w.heap[b]?=some (.stringIter s pos)
 | .memo Φ h=>ψ.len id=0/\∃ b es clock,ψ.val id = .map (some b)/\w.heap[b]?=some (.map es clock)/\MemoR S w Φ h es.toList
 | .xo k=>XobR ψ K S w id k
theorem Ext.trans' {ids:List Nat} {K:Nat->Prop} {ψ0 ψ ψ':Env} (h:Ext (·∈ids) ψ0 ψ) (k:Ext K ψ ψ') (hs:∀ i,i∈ids->K i):Ext (·∈ids) ψ0 ψ':=fun i hi=>by obtain ⟨h1,a⟩:=h i hi;obtain ⟨k1,k2⟩:=k i (hs i hi);exact ⟨by omega,fun e=>by rw [k2 (by omega),a (by omega)]⟩
theorem Same.trans' {S0 S:Nat->Prop} {w0 w w':World} (h:Same S0 w0 w) (k:Same S w w') (hs:∀ b,S0 b->S b):Same S0 w0 w':=fun b a hl=>by have h1:=h b a hl;rw [qbg hl] at h1;obtain ⟨c,_⟩:=qa2.1 h1;rw [k b (hs b a) c,h1,qbg hl]
theorem khy {v:Value} {b:Nat} (h:v.ownBlock=some b):kar v=some b:=by
 unfold Value.ownBlock at h;split at h;exact h
 ·cases h
theorem kiy {base e size n:Nat} {v:Value} {cs:List Value} (h:w.ownsRow base e size v n cs) (hk:∀ b,v.ownBlock=some b->w'.heap[b]?=w.heap[b]?):w'.ownsRow base e size v n cs:=by obtain ⟨h1,a⟩:=h;refine ⟨h1,a.imp id ?_⟩;rintro ⟨g,cap,cur,rfl,c,d,r⟩;exact ⟨g,cap,cur,rfl,c,by rw [hk g rfl];exact d,r⟩
theorem XobR.keep {id:Nat} {o:XO} (h:XobR ψ K S w id o) (l:Ext K ψ ψ') (hK:∀ id,K id->K' id) (hS:∀ b,S b->S' b) (hk:Same S w w')
  (a:ψ'.len id=ψ.len id/\ψ'.val id=ψ.val id) (k:∀ b,Blk (ψ.val id) b->w'.heap[b]?=w.heap[b]?):XobR ψ' K' S' w' id o:=by
 cases o with
 | blk g e sz cells=>
  obtain ⟨h0,q,b,cs,n,cap,h1,f,j,c,r,s,t⟩:=h;exact ⟨by rw [a.1,h0],q,b,cs,n,cap,by rw [a.2,h1],by rw [k b (.of (by rw [h1];rfl))];exact f,j,c,r,s,fun i v x hv u=>(t i v x hv u).keep l hK hS hk⟩
 | amap kv=>
  obtain ⟨h0,b,es,h1,f,j,c⟩:=h;exact ⟨by rw [a.1,h0],b,es,by rw [a.2,h1],by rw [k b (.of (by rw [h1];rfl))];exact f,j,fun i e p d hp=>⟨(c i e p d hp).1,(c i e p d hp).2.1,(c i e p d hp).2.2.keep l hK hS hk⟩⟩
 | imap kv=>
  obtain ⟨h0,b,es,h1,f,j,c⟩:=h;exact ⟨by rw [a.1,h0],b,es,by rw [a.2,h1],by rw [k b (.of (by rw [h1];rfl))];exact f,j,fun i e p d hp=>⟨(c i e p d hp).1,(c i e p d hp).2.1,((c i e p d hp).2.2.keep hk).mono hS⟩⟩
 | mit m since seen stepped=>
  obtain ⟨h0,hm,b,bm,h1,f,j⟩:=h;refine ⟨by rw [a.1,h0],hK _ hm,b,bm,by rw [a.2,h1],by rw [k b (.of (by rw [h1];rfl))];exact f,fun hn=>?_⟩;have d:=l m hm;rw [d.2 (by omega)];exact j (by omega)
theorem XobR.lt {id:Nat} {o:XO} (h:XobR ψ K S w id o) {b:Nat} (a:Blk (ψ.val id) b):b<w.heap.size:=by
 have key:∀ {b:Nat} {x},w.heap[b]?=some x->b<w.heap.size:=fun {b x} h=>(qa2.1 h).1;cases o with
 | blk g e sz cells=>
  obtain ⟨h0,d,b',cs,n,cap,h1,c,_⟩:=h;rw [h1] at a;have a:=a.sl;injection a with a;subst a;exact key c
 | amap kv=>
  obtain ⟨h0,b',es,h1,c,_⟩:=h;rw [h1] at a;have a:=a.mp;injection a with a;subst a;exact key c
 | imap kv=>
  obtain ⟨h0,b',es,h1,c,_⟩:=h;rw [h1] at a;have a:=a.mp;injection a with a;subst a;exact key c
 | mit m since seen stepped=>
  obtain ⟨h0,hm,b',bm,h1,c,_⟩:=h;rw [h1] at a;have a:=a.pt;injection a with a;subst a;exact key c
theorem ObR.keep {id:Nat} {o:AObj} (h:ObR ψ K S w id o) (r:Ext K ψ ψ') (hK:∀ id,K id->K' id) (hS:∀ b,S b->S' b) (hk:Same S w w')
  (a:ψ'.len id=ψ.len id/\ψ'.val id=ψ.val id) (f:∀ b,Blk (ψ.val id) b->w'.heap[b]?=w.heap[b]?):ObR ψ' K' S' w' id o:=by
 cases o with
 | box e cells=>
  obtain ⟨h0,b,cs,h1,c,d,m,q⟩:=h;exact ⟨by rw [a.1,h0],b,cs,by rw [a.2,h1],by rw [f b (.of (by rw [h1];rfl))];exact c,d,m,fun i v x hv n=>(q i v x hv n).keep r hK hS hk⟩
 | frow e size xs=>
  obtain ⟨h0,hs,cs,h1,c,d⟩:=h;refine ⟨by rw [a.1,h0],hs,cs,?_,c,fun i x j v y n hv hy=>((d i x j v y n hv hy).keep hk).mono hS⟩;rw [a.2];exact kiy h1 fun b l=>f b (.of (khy l))
 | gho cs vs=>
  obtain ⟨h0,h1,hn,d⟩:=h;exact ⟨by rw [a.1,h0],by rw [a.2,h1],by rw [a.2,hn],fun i v x hv n=>(d i v x hv n).keep r hK hS hk⟩
 | was ψ0 ids0 S0 w0=>
  obtain ⟨h0,h1,hn,c,d,m,q⟩:=h;exact ⟨by rw [a.1,h0],by rw [a.2,h1],by rw [a.2,hn],c.trans' r d,fun i hi=>hK i (d i hi),fun b f=>hS b (m b f),q.trans' hk m⟩
 | xo k=>exact XobR.keep h r hK hS hk a f
 | sit s pos=>
  obtain ⟨h0,b,h1,c⟩:=h;exact ⟨by rw [a.1,h0],b,by rw [a.2,h1],by rw [f b (.of (by rw [h1];rfl))];exact c⟩
 | glb gs=>
  obtain ⟨h0,h1,hn,c⟩:=h;refine ⟨by rw [a.1,h0],by rw [a.2,h1],by rw [a.2,hn],fun p hp=>?_⟩;obtain ⟨q1,q2⟩:=c p hp;exact ⟨hS _ q1,q2.keep (hk p.1 q1 q2.lt)⟩
 | memo Φ hi=>
  obtain ⟨h0,b,es,clock,h1,c,d⟩:=h;exact ⟨by rw [a.1,h0],b,es,clock,by rw [a.2,h1],by rw [f b (.of (by rw [h1];rfl))];exact c,d.keep hS hk⟩
 | smap kv=>
  obtain ⟨h0,b,es,clock,h1,c,d,m⟩:=h;exact ⟨by rw [a.1,h0],b,es,clock,by rw [a.2,h1],by rw [f b (.of (by rw [h1];rfl))];exact c,d,fun i e p t hp=>⟨(m i e p t hp).1,((m i e p t hp).2.keep hk).mono hS⟩⟩
 | tab g ov eo ei rows=>
  obtain ⟨h0,vs,h1,c,d,m,q⟩:=h;have z:∀ u b,u∈ov::vs->kar u=some b->Blk (ψ.val id) b:=fun u b A f=>by rw [h1];exact .inr ⟨u,by simpa [kfa] using A,f⟩
  refine ⟨by rw [a.1,h0],vs,by rw [a.2,h1],c,kiy d fun b l=>f b (z ov b (qq ..) (khy l)),fun j v xs hv n=>?_,q⟩;obtain ⟨k1,k2⟩:=m j v xs hv n;exact ⟨kiy k1 fun b l=>f b (z v b (qh _ (qk hv)) (khy l)),k2⟩
theorem ktd {e size n:Nat} {v:Value} {cs:List Value} (h:w.ownsRow 0 e size v n cs) {b:Nat} (a:kar v=some b):b<w.heap.size:=by
 have key:∀ {b:Nat} {x},w.heap[b]?=some x->b<w.heap.size:=fun {b x} h=>by
  rcases qbl b w.heap.size with c | c;exact c
  ·simp [Array.getElem?_eq_none c] at h
 rcases h.2 with ⟨hv,_⟩ | ⟨g,cap,cur,hv,_,d,_⟩;rw [hv] at a;cases a
 ·rw [hv] at a;injection a with a;subst a;exact key d
theorem ObR.lt {id:Nat} {o:AObj} (h:ObR ψ K S w id o) {b:Nat} (a:Blk (ψ.val id) b):b<w.heap.size:=by
 have key:∀ {b:Nat} {x},w.heap[b]?=some x->b<w.heap.size:=fun {b x} h=>by
  rcases qbl b w.heap.size with f | f;exact f
  ·simp [Array.getElem?_eq_none f] at h
 cases o with
 | box e cells=>
  obtain ⟨h0,b',cs,h1,c,_⟩:=h;rw [h1] at a;have a:=a.pt;injection a with a;subst a;exact key c
 | frow e size xs=>
  obtain ⟨h0,hs,cs,⟨_,h1⟩,_⟩:=h;rcases h1 with ⟨hv,_⟩ | ⟨g,cap,cur,hv,_,j,_⟩;rw [hv] at a;have a:=a.sl;cases a
  ·rw [hv] at a;have a:=a.sl;injection a with a;subst a;exact key j
 | gho cs vs=>
  obtain ⟨h0,h1,c,_⟩:=h;rcases a with a | ⟨u,d,_⟩;rw [h1] at a;cases a
  ·rw [c] at d;cases d
 | was ψ0 ids0 S0 w0=>
  obtain ⟨h0,h1,c,_⟩:=h;rcases a with a | ⟨u,d,_⟩;rw [h1] at a;cases a
  ·rw [c] at d;cases d
 | xo k=>exact XobR.lt h a
 | sit s pos=>
  obtain ⟨h0,b',h1,c⟩:=h;rw [h1] at a;have a:=a.pt;injection a with a;subst a;exact key c
 | glb gs=>
  obtain ⟨h0,h1,c,_⟩:=h;rcases a with a | ⟨u,d,_⟩;rw [h1] at a;cases a
  ·rw [c] at d;cases d
 | memo Φ hi=>
  obtain ⟨h0,b',es,clock,h1,c,_⟩:=h;rw [h1] at a;have a:=a.mp;injection a with a;subst a;exact key c
 | smap kv=>
  obtain ⟨h0,b',es,clock,h1,c,_⟩:=h;rw [h1] at a;have a:=a.mp;injection a with a;subst a;exact key c
 | tab g ov eo ei rows=>
  obtain ⟨h0,vs,h1,c,l,m,n⟩:=h;rw [h1] at a;rcases a with a | ⟨u,d,a⟩;cases a
  ·simp only [kfa] at d;rcases qat.1 d with rfl | d;exact ktd l a
   ·obtain ⟨i,hi,rfl⟩:=qah.1 d;exact ktd (m i vs[i] (rows[i]'(by omega)) (qa hi) (qa (by omega))).1 a
structure Core (F S0:Nat->Prop) (N0:Nat) (heap:List (Nat×AObj)) (ids:List Nat) (ψ:Env) (S:Nat->Prop) (w:World):Prop where
 obj:∀ id o,kaa heap id=some o->id∈ids/\ObR ψ (·∈ids) S w id o/\∀ b,Blk (ψ.val id) b->¬ S b/\¬ F b/\(S0 b\/N0<=b)
 inj:∀ id id' o o' b,kaa heap id=some o->kaa heap id'=some o'->id≠id'->Blk (ψ.val id) b->¬ Blk (ψ.val id') b
 lt:∀ b,S b->b<w.heap.size
 s0:∀ b,S b->S0 b\/N0<=b
 n0:N0<=w.heap.size
 fr:∀ b,F b->b<w.heap.size
structure Sim (F S0:Nat->Prop) (N0:Nat) (st:St) (ψ:Env) (S:Nat->Prop) (a:Act) (w:World):Prop where
 defers:a.defers=st.dfr
 size:a.tmps.size=st.n
 tmps:∀ t,RV ψ (·∈st.ids) S w (a.tmps.getD t undef) (st.get t)
 core:Core F S0 N0 st.heap st.ids ψ S w
structure Fr (F:Nat->Prop) (w w':World):Prop where
 os:w'.os=w.os
 tape:w'.tape=w.tape
 output:w'.output=w.output
 size:w.heap.size<=w'.heap.size
 block:∀ b,F b->w'.heap[b]?=w.heap[b]?
 drawn:Dr.on=true->w.drawn<=w'.drawn
theorem Fr.refl:Fr F w w:=⟨rfl,rfl,rfl,qy _,fun _ _=>rfl,fun _=>qy _⟩
theorem Fr.trans {w'':World} (h:Fr F w w') (k:Fr F w' w''):Fr F w w'':=⟨k.os.trans h.os,k.tape.trans h.tape,k.output.trans h.output,qap h.size k.size,fun b a=>(k.block b a).trans (h.block b a),fun d=>qap (h.drawn d) (k.drawn d)⟩
theorem Fr.of_grow (a:∀ b,F b->b<w.heap.size) (h:Grow w w'):Fr F w w':=⟨h.os,h.tape,h.output,h.size,fun b c=>h.block b (a b c),h.drawn⟩
theorem Fr.drew:Fr F w w.drew:=⟨rfl,rfl,rfl,qy _,fun _ _=>rfl,fun _=>Nat.le_succ _⟩
theorem Sim.eval_tmps {ids:List Nat} {st:St} (h:∀ t,RV ψ (·∈ids) S w (a.tmps.getD t undef) (st.get t)) (x:Operand):RV ψ (·∈ids) S w (a.eval x) (st.eval x):=by
 cases x with
 | tmp t=>exact h t
 | const v=>
  cases v with
  | agg cs=>
   simp only [St.eval,kxk,Act.eval];cases d:cs.toList.all (·.oneCell') with
   | false=>exact .any
   | true=>
    refine .fz (.agg (by simp) ?_ ?_);intro x b;simp only [qaf] at b;obtain ⟨v,hv,rfl⟩:=b;exact qu.1 d v hv
    ·intro i v x hv b;simp only [ql,qw,qaz] at b;obtain ⟨u,c,rfl⟩:=b;rw [hv] at c;injection c with c;subst c;exact .atom (qu.1 d v (by rw [Array.mem_toList_iff];exact Array.mem_of_getElem? hv))
  | tuple=>exact .any
  | _=>exact .fz (.atom rfl)
 | global g=>exact .any
 | func f=>exact .fn rfl (fun i v x hv _=>by simp at hv)
theorem Sim.eval (h:Sim F S0 N0 st ψ S a w) (x:Operand):RV ψ (·∈st.ids) S w (a.eval x) (st.eval x):=Sim.eval_tmps h.tmps x
def StepA (P:Program) (o:Oper) (st:St) (c:AV) (d:List (Nat×AObj)) (ids':List Nat):Prop:=
 ∀ F S0 N0 ψ S a w,Sim F S0 N0 st ψ S a w->kcm P o a w fun v w'=>∃ ψ' S',Core F S0 N0 d ids' ψ' S' w'/\RV ψ' (·∈ids') S' w' v c/\Fr F w w' /\
  Ext (·∈st.ids) ψ ψ'/\(∀ id,id∈st.ids->id∈ids')/\(∀ b,S b->S' b)/\Same S w w'
def NStep (P:Program) (o:Oper) (st:St) (c:AV):Prop:=
 ∀ ψ S a w,(∀ t,RV ψ (·∈st.ids) S w (a.tmps.getD t undef) (st.get t))->(∀ id o,kaa st.heap id=some o->ObR ψ (·∈st.ids) S w id o) ->
  kcm P o a w fun v w'=>Grow w w'/\RV ψ (·∈st.ids) (fun b=>S b\/w.heap.size<=b) w' v c
theorem Core.grow {heap:List (Nat×AObj)} {ids:List Nat} (h:Core F S0 N0 heap ids ψ S w) (d:Grow w w'):Core F S0 N0 heap ids ψ (fun b=>(S b\/w.heap.size<=b)/\b<w'.heap.size) w':=by
 have hk:Same S w w':=Same.of_grow d;have hS:∀ b,S b->(S b\/w.heap.size<=b)/\b<w'.heap.size:=fun b a=>⟨.inl a,qbo (h.lt b a) d.size⟩;refine ⟨fun id o ho=>?_,h.inj,fun b a=>a.2,fun b a=>?_,qap h.n0 d.size,fun b a=>qbo (h.fr b a) d.size⟩
 ·obtain ⟨h1,e,f⟩:=h.obj id o ho;refine ⟨h1,e.keep Ext.refl (fun _ h=>h) hS hk ⟨rfl,rfl⟩ fun b a=>d.block b (e.lt a),fun b a=>⟨fun hs=>?_,(f b a).2⟩⟩;rcases hs.1 with hs | hs;exact (f b a).1 hs
  ·have:=e.lt a;omega
 ·rcases a.1 with c | c;exact h.s0 b c
  ·exact .inr (qap h.n0 c)
theorem NStep.step {o:Oper} {c:AV} (h:NStep P o st c):StepA P o st c st.heap st.ids:=by intro F S0 N0 ψ S a w hs;refine ki4 ?_ (h ψ S a w hs.tmps fun id o ho=>(hs.core.obj id o ho).2.1);rintro v w' ⟨d,hv⟩;exact ⟨ψ,_,hs.core.grow d,hv.bound,Fr.of_grow hs.core.fr d,Ext.refl,fun _ h=>h,fun b e=>⟨.inl e,qbo (hs.core.lt b e) d.size⟩,Same.of_grow d⟩
theorem Sim.put {st':St} {d:Option Nat} {v:Value} {c:AV} (h:Sim F S0 N0 st ψ S a w) (hn:st'.n=st.n) (ht:st'.tmps=st.tmps) (f:st'.dfr=st.dfr) (hc:Core F S0 N0 st'.heap st'.ids ψ' S' w') (hv:RV ψ' (·∈st'.ids) S' w' v c)
  (i:Ext (·∈st.ids) ψ ψ') (hK:∀ id,id∈st.ids->id∈st'.ids) (hS:∀ b,S b->S' b) (hk:Same S w w') (j:∀ t,d=some t->t<st.n):Sim F S0 N0 (st'.put d c) ψ' S' (a.put d v) w':=by
 have base:∀ t,RV ψ' (·∈st'.ids) S' w' (a.tmps.getD t undef) (st'.get t):=fun t=>by have:=h.tmps t;unfold St.get at this ⊢;rw [ht];exact this.keep i hK hS hk
 cases d with
 | none=>exact ⟨h.defers.trans f.symm,by rw [show (st'.put none c)=st' from rfl,hn];exact h.size,base,hc⟩
 | some d=>
  refine ⟨h.defers.trans f.symm,by simp [St.put,Act.put,hn,h.size],fun t=>?_,hc⟩;have g:=j d rfl;by_cases e:d=t;subst e;have:(a.put (some d) v).tmps.getD d undef=v:=(by simp [Act.put,h.size,g]);rw [this];simp only [St.put,St.get,kbc,if_true];exact hv
  ·have:(a.put (some d) v).tmps.getD t undef=a.tmps.getD t undef:=(by simp only [Act.put];rw [qa3,Array.getElem?_setIfInBounds_ne e,<- qa3]);rw [this];simp only [St.put,St.get,kbc,qj e];exact base t
def PostA (F S0:Nat->Prop) (N0:Nat) (w:World) (Q:Exit->St->Prop) (e:Exit) (a':Act) (w':World):Prop:=
 ∃ st' ψ' S',Q e st'/\Sim F S0 N0 st' ψ' S' a' w'/\Fr F w w'
def awp (P:Program) (c:Code) (st:St) (Q:Exit->St->Prop):Prop:=
 ∀ F S0 N0 ψ S a w,Sim F S0 N0 st ψ S a w->c.wp P (PostA F S0 N0 w Q) a w
def k62 (K:St->Prop) (Q:Exit->St->Prop):Exit->St->Prop
 | .normal,st=>K st
 | .outgrown,_=>False
 | e,st=>Q e st
def kub (id:Nat) (Q:Exit->St->Prop):Exit->St->Prop
 | .exit i,st=>if i=id then Q .normal st else Q (.exit i) st
 | e,st=>Q e st
theorem kpy {c:Code} {Q Q':Exit->St->Prop} (h:awp P c st Q) (b:∀ e st,Q e st->Q' e st):awp P c st Q':=
 fun F S0 N0 ψ S a w hs=>wp_mono (h F S0 N0 ψ S a w hs) fun e a' w' ⟨st',ψ',S',h1,d⟩=>⟨st',ψ',S',b _ _ h1,d⟩
theorem k5g {Q:Exit->St->Prop} (h:Q .normal st):awp P .skip st Q:=fun F S0 N0 ψ S a w hs=>wp_skip ⟨st,ψ,S,h,hs,Fr.refl⟩
theorem k5r {id:Nat} {Q:Exit->St->Prop} (h:Q (.exit id) st):awp P (.exit id) st Q:=fun F S0 N0 ψ S a w hs=>wp_exit ⟨st,ψ,S,h,hs,Fr.refl⟩
theorem k7s {Q:Exit->St->Prop} (h:Q .ret st):awp P .ret st Q:=fun F S0 N0 ψ S a w hs=>wp_ret ⟨st,ψ,S,h,hs,Fr.refl⟩
theorem PostA.pre {Q:Exit->St->Prop} {e:Exit} {a':Act} {w' w'':World} (h:Fr F w w') (k:PostA F S0 N0 w' Q e a' w''):PostA F S0 N0 w Q e a' w'':=
 let ⟨st',ψ',S',h1,a,b⟩:=k;⟨st',ψ',S',h1,a,h.trans b⟩
theorem k73 {x y:Code} {Q:Exit->St->Prop} (h:awp P x st (k62 (fun st=>awp P y st Q) Q)):awp P (.seq x y) st Q:=fun F S0 N0 ψ S a w hs=>
 wp_seq (wp_mono (h F S0 N0 ψ S a w hs) fun e a' w' ⟨st',ψ',S',h1,b,c⟩=>by
  cases e with
  | normal=>exact wp_mono (h1 F S0 N0 ψ' S' a' w' b) fun e a'' w'' k=>k.pre c
  | outgrown=>exact h1.elim
  | _=>exact ⟨st',ψ',S',h1,b,c⟩)
theorem kxt {c:Operand} {x y:Code} {b:Bool} {Q:Exit->St->Prop} (hc:st.eval c = .fz (.atom (.bool b))) (h:awp P (bif b then x else y) st Q):awp P (.cond c x y) st Q:=fun F S0 N0 ψ S a w hs=>by have d:=hs.eval c;rw [hc] at d;refine wp_cond (t:=b) d.atom ?_;cases b <;> exact h F S0 N0 ψ S a w hs
theorem k32 {id:Nat} {c:Code} {Q:Exit->St->Prop} (h:awp P c st (kub id Q)):awp P (.block id c) st Q:=fun F S0 N0 ψ S a w hs=>
 wp_block (wp_mono (h F S0 N0 ψ S a w hs) fun e a' w' ⟨st',ψ',S',h1,b,d⟩=>by
  cases e with
  | exit i=>
   simp only [kub] at h1;simp only [Exit.inBlock];by_cases hi:i=id;rw [qn hi] at h1 ⊢; exact ⟨st',ψ',S',h1,b,d⟩
   ·rw [qj hi] at h1 ⊢; exact ⟨st',ψ',S',h1,b,d⟩
  | _=>exact ⟨st',ψ',S',h1,b,d⟩)
def LeSt (st st':St):Prop:=∀ F S0 N0 ψ S a w,Sim F S0 N0 st ψ S a w->∃ ψ' S',Sim F S0 N0 st' ψ' S' a w
theorem kabx {c:Code} {st':St} {Q:Exit->St->Prop} (hl:LeSt st st') (h:awp P c st' Q):awp P c st Q:=fun F S0 N0 ψ S a w hs=>by obtain ⟨ψ',S',b⟩:=hl F S0 N0 ψ S a w hs;exact h F S0 N0 ψ' S' a w b
def kac {σ β:Type} (step:σ->Option (σ ⊕ β)):Nat->σ->Option β
 | 0,_=>none
 | n+1,s=>match step s with
  | none=>none
  | some (.inl s')=>kac step n s'
  | some (.inr b)=>some b
def fuel:Nat:=18446744073709551616
theorem k5w {σ β:Type} {step:σ->Option (σ ⊕ β)} {body:Code} {Q:Exit->St->Prop} (stOf:σ->St) {s0:σ} {b:β} {n:Nat} (hl:kac step n s0=some b)
  (h0:LeSt st (stOf s0)) (d:∀ s s',step s=some (.inl s')->awp P body (stOf s) fun e st=>e = .normal/\LeSt st (stOf s'))
  (c:∀ s,step s=some (.inr b)->awp P body (stOf s) fun e st=>e ≠ .normal/\e ≠ .outgrown/\Q e st):awp P (.loop body) st Q:=fun F S0 N0 ψ S a w hs=>by
 obtain ⟨ψ0,S1,f⟩:=h0 F S0 N0 ψ S a w hs;refine wp_loop_rounds n ?_;have key:∀ (n:Nat) (s:σ) (ψ:Env) (S:Nat->Prop) (a:Act) (w':World),kac step n s=some b->Sim F S0 N0 (stOf s) ψ S a w'->Fr F w w'->Code.rounds P body (PostA F S0 N0 w Q) n a w':=by
  intro n
  induction n with
  | zero=>intro s ψ S a w' hl;cases hl
  | succ n ih=>
   intro s ψ S a w' hl hs hf;rw [rounds_succ];simp only [kac] at hl;cases hst:step s with
   | none=>rw [hst] at hl;cases hl
   | some r=>
    rw [hst] at hl;cases r with
    | inl s'=>
     refine wp_mono (d s s' hst F S0 N0 ψ S a w' hs) ?_;rintro e a' w'' ⟨st',ψ',S',⟨rfl,g⟩,h,i⟩;obtain ⟨ψ2,S2,j⟩:=g F S0 N0 ψ' S' a' w'' h;exact ih s' ψ2 S2 a' w'' hl j (hf.trans i)
    | inr b'=>
     obtain rfl:=qag hl;refine wp_mono (c s hst F S0 N0 ψ S a w' hs) ?_;rintro e a' w'' ⟨st',ψ',S',⟨hn,ho,k⟩,h,i⟩;cases e with
     | normal=>exact absurd rfl hn
     | outgrown=>exact absurd rfl ho
     | _=>exact ⟨st',ψ',S',k,h,hf.trans i⟩
 exact key n s0 ψ0 S1 a w hl f Fr.refl
theorem k4c {σ:Type} (body:Code) (Q:Exit->St->Prop) (stOf:σ->St) (I:σ->Prop) (μ:σ->Nat) {s0:σ} (i:I s0) (h0:LeSt st (stOf s0)) (j:∀ s,I s->awp P body (stOf s) fun e st=>(e = .normal/\∃ s',(I s'/\μ s'<μ s)/\LeSt st (stOf s'))\/((e ≠ .normal/\e ≠ .outgrown)/\Q e st)):awp P (.loop body) st Q:=fun F S0 N0 ψ S a w hs=>by
 obtain ⟨ψ0,S1,b⟩:=h0 F S0 N0 ψ S a w hs;refine wp_loop_rounds (μ s0+1) ?_;have key:∀ (n:Nat) (s:σ) (ψ:Env) (S:Nat->Prop) (a:Act) (w':World),μ s<n->I s->Sim F S0 N0 (stOf s) ψ S a w'->Fr F w w'->Code.rounds P body (PostA F S0 N0 w Q) n a w':=by
  intro n
  induction n with
  | zero=>intro s ψ S a w' hl;omega
  | succ n ih=>
   intro s ψ S a w' hl hi hs hf;rw [rounds_succ];refine wp_mono (j s hi F S0 N0 ψ S a w' hs) ?_;rintro e a' w'' ⟨st',ψ',S',c,g,h⟩;rcases c with ⟨rfl,s',⟨d,hm⟩,f⟩ | ⟨⟨hn,ho⟩,c⟩;obtain ⟨ψ2,S2,k⟩:=f F S0 N0 ψ' S' a' w'' g;exact ih s' ψ2 S2 a' w'' (by omega) d k (hf.trans h)
   ·cases e with
    | normal=>exact absurd rfl hn
    | outgrown=>exact absurd rfl ho
    | _=>exact ⟨st',ψ',S',c,g,hf.trans h⟩
 exact key (μ s0+1) s0 ψ0 S1 a w (by omega) i b Fr.refl
def awpL (P:Program) (ops:Array Oper) (l:List Oper) (st:St) (Q:Exit->St->Prop):Prop:=
 ∀ F S0 N0 ψ S a w,Sim F S0 N0 st ψ S a w->wpList P ops (PostA F S0 N0 w Q) l a w
def kbk (ops:Array Oper) (st:St) (o:Oper):Option Bool:=match o.guard with
 | none=>some true
 | some (j,want)=>match (ops[j]?).bind (·.dst) with
  | some t=>match st.get t with
   | .fz (.atom (.bool b))=>some (b == want)
   | .fz (.tup _)=>some false
   | _=>none
  | none=>none
theorem ksh {ops:Array Oper} {a:Act} {t j:Nat} {want:Bool} {xs:List FV} (hv:RF S w (a.tmps.getD t undef) (.tup xs)) (ht:(ops[j]?).bind (·.dst)=some t):(yielded ops a.tmps j == some want)=false:=by
 rw [qa3] at hv;simp only [yielded,ht,qb];cases b:a.tmps[t]? with
 | none=>rfl
 | some u=>
  rw [b] at hv;simp only [qam] at hv;cases hv with
  | tup=>rfl
theorem ke5 {ops:Array Oper} {o:Oper} {g:Bool} (hs:Sim F S0 N0 st ψ S a w) (h:kbk ops st o=some g):Region.wanted o (yielded ops a.tmps)=g:=by
 unfold kbk at h;unfold Region.wanted;split at h;rename_i e;rw [e];injection h
 ·rename_i j want e;rw [e];split at h
  ·rename_i t ht;have hv:=hs.tmps t;split at h
   ·rename_i b f;rw [f] at hv;injection h with h;subst h;have c:a.tmps.getD t undef = .bool b:=hv.atom;rw [qa3] at c;have d:a.tmps[t]?=some (.bool b):=by
     cases d:a.tmps[t]? with
     | none=>rw [d] at c;cases c
     | some u=>rw [d] at c;simp only [qam] at c;rw [c]
    simp only [yielded,ht,qb,d];cases b <;> cases want <;> rfl
   rename_i xs f;rw [f] at hv;injection h with h;subst h;exact ksh hv.inv ht
   ·cases h
  ·cases h
theorem kbm {ops:Array Oper} {Q Q':Exit->Act->World->Prop} (b:∀ e a w,Q e a w->Q' e a w):∀ (l:List Oper) (a:Act) (w:World),wpList P ops Q l a w->wpList P ops Q' l a w
 | [],a,w,h=>b _ _ _ h
 | o::l,a,w,h=>by
  unfold wpList at h ⊢;split at h
  ·rename_i i;rw [qn i];rcases h with h | ⟨h1,a',w',j⟩
   ·refine .inl ?_;unfold Oper.wp at h ⊢;generalize (execOp a.eval o).run P w=r at h ⊢;cases r with
    | ok n w'=>
     cases n <;> simp only [Oper.upon] at h ⊢
     case value v=>exact kbm b l _ _ h
     case skip=>exact kbm b l _ _ h
     case defer d=>exact kbm b l _ _ h
     case enter f args=>
      refine h.mono fun e w'' g=>?_;cases e with
      | returned v=>exact kbm b l _ _ g
      | panicked c=>exact b _ _ _ g
      | outgrown=>exact let ⟨a',w',j⟩:=g;⟨a',w',b _ _ _ j⟩
     case row r args=>exact h.mono fun v w'' g=>kbm b l _ _ g
    | halt x w'=>
     cases x <;> simp only [Oper.upon] at h ⊢;exact b _ _ _ h
   ·exact .inr ⟨h1,a',w',b _ _ _ j⟩
  ·rename_i i;rw [qj i];exact kbm b l _ _ h
theorem l_nil {ops:Array Oper} {Q:Exit->St->Prop} (h:Q .normal st):awpL P ops [] st Q:=fun F S0 N0 ψ S a w hs=>⟨st,ψ,S,h,hs,Fr.refl⟩
theorem kt1 {ops:Array Oper} {o:Oper} {l:List Oper} {c:AV} {b:List (Nat×AObj)} {ids':List Nat} {Q:Exit->St->Prop} (h:StepA P o st c b ids') (d:kbk ops st o=some true) (f:∀ t,o.dst=some t->t<st.n)
  (hn:awpL P ops l (({ st with heap:=b,ids:=ids' }:St).put o.dst c) Q):awpL P ops (o::l) st Q:=fun F S0 N0 ψ S a w hs=>by
 unfold wpList;rw [ke5 hs d];refine .inl (kcg ?_ (h F S0 N0 ψ S a w hs));rintro v w' ⟨ψ',S',h1,g,i,j,m,p,q⟩;exact kbm (fun e a' w'' k=>k.pre i) _ _ _ (hn F S0 N0 ψ' S' _ w' (hs.put (st':={ st with heap:=b,ids:=ids' }) rfl rfl rfl h1 g j m p q f))
def kjd (P:Program) (o:Oper) (st:St) (R:AV->List (Nat×AObj)->List Nat->Prop):Prop:=
 ∀ F S0 N0 ψ S a w,Sim F S0 N0 st ψ S a w->kcm P o a w fun v w'=>∃ c d ids',R c d ids'/\∃ ψ' S',Core F S0 N0 d ids' ψ' S' w'/\RV ψ' (·∈ids') S' w' v c/\Fr F w w' /\
  Ext (·∈st.ids) ψ ψ'/\(∀ id,id∈st.ids->id∈ids')/\(∀ b,S b->S' b)/\Same S w w'
theorem k9v {ops:Array Oper} {o:Oper} {l:List Oper} {R:AV->List (Nat×AObj)->List Nat->Prop} {Q:Exit->St->Prop} (h:kjd P o st R) (d:kbk ops st o=some true) (f:∀ t,o.dst=some t->t<st.n)
  (hn:∀ c b ids',R c b ids'->awpL P ops l (({ st with heap:=b,ids:=ids' }:St).put o.dst c) Q):awpL P ops (o::l) st Q:=fun F S0 N0 ψ S a w hs=>by
 unfold wpList;rw [ke5 hs d];refine .inl (kcg ?_ (h F S0 N0 ψ S a w hs));rintro v w' ⟨c,b,ids',g,ψ',S',h1,i,j,m,p,q,r⟩;exact kbm (fun e a' w'' k=>k.pre j) _ _ _ (hn c b ids' g F S0 N0 ψ' S' _ w' (hs.put (st':={ st with heap:=b,ids:=ids' }) rfl rfl rfl h1 i m p q r f))
theorem kabi {ops:Array Oper} {o:Oper} {l:List Oper} {Q:Exit->St->Prop} (b:kbk ops st o=some false) (c:∀ t,o.dst=some t->t<st.n) (hn:awpL P ops l (st.put o.dst (.fz (.tup []))) Q):awpL P ops (o::l) st Q:=fun F S0 N0 ψ S a w hs=>by unfold wpList;rw [ke5 hs b];exact hn F S0 N0 ψ S _ w (hs.put (st':=st) rfl rfl rfl hs.core (.fz RF.undef) Ext.refl (fun _ h=>h) (fun _ h=>h) (fun _ _ _=>rfl) c)
theorem l_le {ops:Array Oper} {l:List Oper} {st':St} {Q:Exit->St->Prop} (hl:LeSt st st') (h:awpL P ops l st' Q):awpL P ops l st Q:=fun F S0 N0 ψ S a w hs=>by obtain ⟨ψ',S',b⟩:=hl F S0 N0 ψ S a w hs;exact h F S0 N0 ψ' S' a w b
theorem k1p {id:Nat} {ops:Array Oper} {Q:Exit->St->Prop} (h:awpL P ops ops.toList st Q):awp P (.region id ops false) st Q:=fun F S0 N0 ψ S a w hs=>wp_region_list (h F S0 N0 ψ S a w hs)
end
end Go.Proofs.YtnlhjbnpjefjgaaGreatDoor
