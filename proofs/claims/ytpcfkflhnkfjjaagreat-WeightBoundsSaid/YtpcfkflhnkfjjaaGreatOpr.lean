import Derived.Test.YtpcfkflhnkfjjaaGreatOpo
import Derived.Laws.CopyRow
import Derived.Laws.IdiomCopy
set_option linter.all false
namespace Go.Proofs.YtpcfkflhnkfjjaaGreat
open Go Go.RowKit
def kvk (l h n:Int):Option Unit:=if 0<=l/\l<=h/\h<=n then some () else none
theorem k1v {l h n:Int} {u:Unit} (e:kvk l h n=some u):0<=l/\l<=h/\h<=n:=by
 unfold kvk at e;split at e
 ·assumption
 ·cases e
def cpL {α:Type} (xs ys:List α):List α:=xs.take 0++(ys.take (min ys.length xs.length)++xs.drop (0+(ys.take (min ys.length xs.length)).length))
def cpW {α:Type} (xs:List α) (lo hi lo2 hi2:Nat):List α:=xs.take lo++((xs.drop lo2).take (min (hi2 - lo2) (hi - lo))++xs.drop (lo+((xs.drop lo2).take (min (hi2 - lo2) (hi - lo))).length))
section
variable {P:Program} {F S0:Nat->Prop} {N0:Nat} {w w':World} {S S':Nat->Prop} {ψ:Env} {K:Nat->Prop} {T:List (TypeId×TD)} {o:Oper} {a:Act} {st:St} {t:TypeId} {d:TD} {id:Nat}
theorem k71 {α:Type} {enc:α->FV} {xs:List α} {x:Operand} {lo hi:Option Operand} {l h:Option Int} {e:TypeId} {de:TD} {n:Nat} {u:Unit} (hc:kvk (l.getD 0) (h.getD xs.length) xs.length=some u) (B:TOk P T) (ho:o.op = .slice t x lo hi none) (F:kak T t=some d) (hk:d.kind = .slice e) (q:kak T e=some de) (r:de.size=1)
  (G:st.eval x = .row id n) (s:kae st.heap id=some (.frow e 1 (xs.map enc))) (hn:n=xs.length) (hl:kmm st lo=some l:=by kernel_rfl) (H:kmm st hi=some h:=by kernel_rfl):NStep P o st (.win id n (l.getD 0).toNat (h.getD xs.length).toNat):=by
 intro ψ S a w ht I;subst hn;have i:=k1v hc;have bl:=kks ht hl;have bh:=kks ht H;have j:=Sim.eval_tmps ht x;rw [G] at j;obtain ⟨b,_,cs,c,_,_⟩:=I id _ s;rw [qu] at b c;have hK:id∈st.ids/\a.eval x=ψ.val id:=by
  generalize a.eval x=u at j;cases j with
  | row hK J h1 hv=>exact ⟨hK,hv b.symm⟩
 obtain ⟨A,cap,f,p,hA⟩:∃ A cap,ψ.val id = .slice A xs.length cap/\xs.length<=cap/\(0<xs.length->∃ g,A=some ⟨g,0,none⟩):=by
  rcases c.2 with ⟨hv,h0⟩ | ⟨g,cap,cur,hv,_,M,h1,N,C,D⟩;exact ⟨none,0,by rw [hv,h0],by omega,fun h=>by omega⟩
  ·exact ⟨some ⟨g,0,none⟩,cap,hv,h1,fun _=>⟨g,rfl⟩⟩
 have K:=(B.get F).slice hk;have e1:(Instr.sliceBounds true xs.length cap (lo.map a.eval) (hi.map a.eval) none).run P w = .ok ((l.getD 0).toNat,(h.getD xs.length).toNat,cap) w:=by
  unfold Instr.sliceBounds;have p:(xs.length:Int)<=(cap:Int):=by omega
  rcases bh with ⟨rfl,rfl⟩ | ⟨y,k,n,rfl,rfl,E⟩
  ·rcases bl with ⟨rfl,rfl⟩ | ⟨y',k',n',rfl,rfl,m⟩;simp
   ·simp only [qw,Option.getD_none] at i ⊢;simp [Instr.sliceBound,m,asIntOf,i.1,i.2.1]
  ·rcases bl with ⟨rfl,rfl⟩ | ⟨y',k',n',rfl,rfl,m⟩;simp only [qw,Option.getD_none] at i ⊢;have:n<=(cap:Int):=(by omega);simp [Instr.sliceBound,E,asIntOf,i.2.1,this]
   ·simp only [qw] at i ⊢;have:0<=n:=(by omega);have C:n'<=(n.toNat:Int):=(by omega);have D:n<=(cap:Int):=(by omega);simp [Instr.sliceBound,E,m,asIntOf,i.1,this,C,D];intro hc;exfalso;omega
 have z:(sizeOf e).run P w = .ok 1 w:=by rw [(B.get q).size,r]
 refine kai (w':=w) (v := .slice (if cap=(l.getD 0).toNat then A else A.map (·.add ((l.getD 0).toNat*1))) ((h.getD xs.length).toNat - (l.getD 0).toNat) (cap - (l.getD 0).toNat)) ?_ ⟨kaj _, .win hK.1 (by omega) rfl fun _=>⟨by omega,by omega,_,_,rfl,fun L=>?_⟩⟩;simp [execOp,ho,Instr.sliceAt,Instr.slice,run_underlying K,hK.2,f,e1,z]
 ·obtain ⟨g,rfl⟩:=hA (by omega);refine ⟨g,by rw [f];rfl,?_⟩;rw [qk (by omega)];simp [kfj]
theorem k1e {α:Type} {enc:α->FV} {f:α->Value} {xs zs:List α} {lo cap g:Nat} {e:TypeId} {cur:Array Value} (a:Core F S0 N0 st.heap st.ids ψ S w) (p:kae st.heap id=some (.frow e 1 (xs.map enc)))
  (h:ψ.val id = .slice (some ⟨g,0,none⟩) xs.length cap) (K:w.heap[g]?=some (.cells cur e (0,0))) (A:xs.length<=cap) (B:cap<=maxLen) (C:cur.size=cap) (D:cur.toList.take xs.length=xs.map f)
  (hf:∀ y,enc y = .atom (f y)/\(f y).oneCell'=true) (L:lo+zs.length<=xs.length):
  Core F S0 N0 ((id, .frow e 1 ((xs.take lo++(zs++xs.drop (lo+zs.length))).map enc))::st.heap) st.ids ψ S (w.setRow g (cur.toList.take lo++zs.map f++cur.toList.drop (lo+(zs.map f).length)).toArray) /\
  Same S w (w.setRow g (cur.toList.take lo++zs.map f++cur.toList.drop (lo+(zs.map f).length)).toArray)/\∀ b,F b->(w.setRow g (cur.toList.take lo++zs.map f++cur.toList.drop (lo+(zs.map f).length)).toArray).heap[b]?=w.heap[b]?:=by
 obtain ⟨M,⟨hl,r,cs,s,N,hr⟩,O⟩:=a.obj id _ p;rw [qu] at hl s;obtain ⟨new,c⟩:∃ new:Array Value,new=(cur.toList.take lo++zs.map f++cur.toList.drop (lo+(zs.map f).length)).toArray:=⟨_,rfl⟩;rw [<- c];have hcl:cur.toList.length=cap:=by rw [qa4,C]
 have E:new.size=cap:=by rw [c];simp only [List.size_toArray,qab,qak,qu,qa1,hcl];omega
 obtain ⟨ys,m⟩:∃ ys,ys=xs.take lo++(zs++xs.drop (lo+zs.length)):=⟨_,rfl⟩;rw [<- m];have o:ys.length=xs.length:=by rw [m];simp only [qab,qak,qa1];omega
 have t:cur.toList=xs.map f++cur.toList.drop xs.length:=by rw [<- D,List.take_append_drop]
 have G:new.toList.take xs.length=ys.map f:=by
  rw [c,m];simp only [qa5,List.map_take,List.map_drop,qu];rw [t];have e1:(List.map f xs++List.drop xs.length cur.toList).take lo=(xs.map f).take lo:=by rw [List.take_append_of_le_length (by rw [qu];omega)]
  have e2:(List.map f xs++List.drop xs.length cur.toList).drop (lo+zs.length)=(xs.map f).drop (lo+zs.length)++List.drop xs.length cur.toList:=by rw [List.drop_append_of_le_length (by rw [qu];omega)]
  rw [e1,e2];have e3:((xs.map f).take lo++zs.map f++((xs.map f).drop (lo+zs.length)++List.drop xs.length cur.toList))=((xs.map f).take lo++(zs.map f++(xs.map f).drop (lo+zs.length)))++List.drop xs.length cur.toList:=by simp only [qbd]
  rw [e3,List.take_append_of_le_length (by simp only [qab,qak,qu,qa1];omega),List.take_of_length_le (by simp only [qab,qak,qu,qa1];omega)]
 have u:∀ k,k<w.heap.size->¬ Blk (ψ.val id) k->(w.setRow g new).heap[k]?=w.heap[k]?:=fun k _ hk=>kk8 g new k fun e=>hk (.of (by rw [h,e];rfl));have P:(w.setRow g new).heap.size=w.heap.size:=by simp [World.setRow]
 have i:ψ.set id xs.length (ψ.val id)=ψ:=by
  unfold Env.set;congr 1
  ·funext j;split;rename_i x;rw [x,hl]
   ·rfl
  ·funext j;split;rename_i x;rw [x]
   ·rfl
 obtain ⟨c1,c2,c3⟩:=a.upd (n:=xs.length) (v:=ψ.val id) (w':=w.setRow g new) (ob' := .frow e 1 (ys.map enc)) p (by omega) u (.inr ⟨hl,rfl⟩) (fun b Q => .inl Q) (by
  rw [i];refine ⟨by simp [hl,o],r,ys.map f,?_,fun z d=>?_,fun k z j v q d hv l=>?_⟩;rw [qu,o,h];refine ⟨by rw [qu,o,qaz], .inr ⟨g,cap,new,rfl,qaj _,kl6 g K,A,B,by rw [E,qaz],?_⟩⟩;rw [qaz];exact G;obtain ⟨z0,_,rfl⟩:=qae.1 d;obtain ⟨h1,H⟩:=hf z0;rw [h1];exact ⟨rfl,fun q l=>by simp [FV.cells] at l;subst l;exact H⟩
  ·obtain ⟨z0,I,rfl⟩:∃ z0,ys[k]?=some z0/\enc z0=z:=(by rw [qp,qt] at d;exact d);obtain ⟨h1,H⟩:=hf z0;have x:j=0:=(by rw [h1] at l;have:=(qj.1 l).1;simp [FV.cells] at this;exact this);subst x;have J:q = .atom (f z0):=(by rw [h1] at l;simp [FV.cells] at l;exact l.symm);subst J;simp only [qaz,Nat.add_zero,qp,I,qbf,ql] at hv;subst hv;exact .atom H)
 rw [i] at c1;exact ⟨c1,c2,c3⟩
theorem k0k {v:Value} {id n lo hi:Nat} (h:RV ψ K S w v (.win id n lo hi)) (hn:n=ψ.len id):lo<=hi/\hi<=n/\∃ A cap,v = .slice A (hi - lo) cap/\(lo<hi->∃ b,ka1 (ψ.val id)=some b/\A=some ⟨b,lo,none⟩):=by
 cases h with
 | win _ _ _ hv=>exact hv hn
theorem k26 {α:Type} {enc:α->FV} {xs:List α} {X Y:Operand} {t1 t2 e:TypeId} {d1 de:TD} {n lo hi lo2 hi2:Nat} (hT:TOk P T) (ho:o.op = .call { callee := .builtin .copy,args:=#[X,Y],argTypes:=#[t1,t2] }) (hd:kak T t1=some d1) (hk:d1.kind = .slice e) (Q:kak T e=some de) (R:de.size=1)
  (hx:st.eval X = .win id n lo hi) (hy:st.eval Y = .win id n lo2 hi2) (t:kae st.heap id=some (.frow e 1 (xs.map enc))) (hn:n=xs.length) (C:∀ y,∃ u,enc y = .atom u/\u.oneCell'=true):
  StepA P o st (.fz (.atom (.int .i64 (min (hi2 - lo2) (hi - lo):Nat)))) ((id, .frow e 1 ((xs.take lo++((xs.drop lo2).take (min (hi2 - lo2) (hi - lo))++xs.drop (lo+((xs.drop lo2).take (min (hi2 - lo2) (hi - lo))).length))).map enc))::st.heap) st.ids:=by
 subst hn;intro F S0 N0 ψ S a w x;have c:=x.core;obtain ⟨af,hO,ag⟩:=c.obj id _ t;have U:=hO;obtain ⟨hl,ae,cs,m,ah,hr⟩:=U;rw [qu] at hl m;have D:=x.eval X;rw [hx] at D;have E:=x.eval Y;rw [hy] at E;obtain ⟨x1,x2,A1,cap1,G,V⟩:=k0k D hl.symm;obtain ⟨y1,y2,A2,cap2,H,Z⟩:=k0k E hl.symm;have hu:P.underlying t1=some (.slice e):=(hT.get hd).slice hk;have r:(P.info? e).map (·.size)=some 1:=by have:=(hT.get Q).info;rw [R] at this;exact this
 obtain ⟨k,I⟩:∃ k,k=min (hi2 - lo2) (hi - lo):=⟨_,rfl⟩;rw [<- I];have l:((xs.drop lo2).take k).length=k:=by rw [qak,qa1];omega
 by_cases J:k=0
 ·have d:=run_copy_none (P:=P) w t1 t2 o.type e A1 A2 (hi - lo) cap1 (hi2 - lo2) cap2 hu r (by show min _ _=0;omega);have A:xs.take lo++((xs.drop lo2).take k++xs.drop (lo+((xs.drop lo2).take k).length))=xs:=by rw [l,J];simp
  rw [A];have s:ψ.set id xs.length (ψ.val id)=ψ:=by
   unfold Env.set;congr 1
   ·funext j;split;rename_i O;rw [O,hl]
    ·rfl
   ·funext j;split;rename_i O;rw [O]
    ·rfl
  obtain ⟨c1,c2,c3⟩:=c.upd (n:=xs.length) (v:=ψ.val id) (w':=w) (ob' := .frow e 1 (xs.map enc)) t (qx _) (fun _ _ _=>rfl) (.inr ⟨hl,rfl⟩) (fun b K => .inl K) (by rw [s];exact hO);rw [s] at c1;refine kai (w':=w) (v := .int .i64 ((k:Nat):Int)) ?_ ⟨ψ,S,c1, .fz (.atom rfl),Fr.refl,Ext.refl,fun _ h=>h,fun _ h=>h,c2⟩;rw [J];simp [execOp,ho,resolve,invoke,builtin,G,H,d,goInt]
 ·obtain ⟨b,K,rfl⟩:=V (by omega);obtain ⟨b2,B,rfl⟩:=Z (by omega);obtain ⟨g,cap,cur,p,hg,aa,ab,L,ac⟩:=kgx m (by omega);have ad:b=g:=by rw [p] at K;simp only [ka1,ql] at K;exact K.symm
  have M:b2=g:=by rw [p] at B;simp only [ka1,ql] at B;exact B.symm
  subst ad M;obtain ⟨f,hf⟩:∃ f:α->Value,∀ y,enc y = .atom (f y)/\(f y).oneCell'=true:=⟨fun y=>(C y).choose,fun y=>(C y).choose_spec⟩;have N:cur.toList.take xs.length=xs.map f:=by rw [ac];have hcl:cs.length=xs.length:=(by rw [m.1,qaz]);apply List.ext_getElem (by rw [hcl,qu]);intro i h1 h2;rw [qu] at h2;have:=hr i (enc xs[i]) 0 cs[i] (enc xs[i]) (by rw [qp,qb h2];rfl) (by simp) (by rw [(hf xs[i]).1];rfl);rw [(hf xs[i]).1] at this;rw [this.atom_eq,List.getElem_map]
  obtain ⟨c1,c2,c3⟩:=k1e (zs:=(xs.drop lo2).take k) (lo:=lo) c t p hg aa ab L N hf (by rw [l];omega);have d:=run_copy_row (P:=P) w t1 t2 o.type e b2 lo (hi - lo) cap1 ⟨b2,lo2,none⟩ (hi2 - lo2) cap2 cur e (((xs.drop lo2).take k).map f) hu r hg (by rw [qu,l];exact I) (fun j v hv=>by
   rw [qp,qag] at hv;split at hv
   ·rename_i O;rw [qau] at hv;have q:(xs.map f)[lo2+j]?=some v:=(by rw [qp];exact hv);rw [<- N,qag] at q;split at q;rw [kfj];simp only [World.cell?,hg];rw [qa7] at q;simpa using q
    ·cases q
   ·cases hv) (by rw [qu,l,L];omega) (fun v hv=>by obtain ⟨z,_,rfl⟩:=qae.1 hv;exact (hf z).2)
  rw [qu,l] at d;refine kai (w':=_) (v := .int .i64 ((k:Nat):Int)) ?_ ⟨ψ,S,c1, .fz (.atom rfl),⟨rfl,rfl,rfl,?_,c3⟩,Ext.refl,fun _ h=>h,fun _ h=>h,c2⟩;rw [qu,l];simp [execOp,ho,resolve,invoke,builtin,G,H,d,goInt]
  ·simp [World.setRow]
theorem k21 {α:Type} {enc:α->FV} {xs ys:List α} {X Y:Operand} {t1 t2 e:TypeId} {d1 de:TD} {n:Nat} (hT:TOk P T) (ho:o.op = .call { callee := .builtin .copy,args:=#[X,Y],argTypes:=#[t1,t2] }) (hd:kak T t1=some d1) (hk:d1.kind = .slice e) (R:kak T e=some de) (U:de.size=1)
  (hx:st.eval X = .row id n) (hy:kn1 (st.eval Y)=some (ys.map enc)) (t:kae st.heap id=some (.frow e 1 (xs.map enc))) (hn:n=xs.length) (E:∀ y,∃ u,enc y = .atom u/\u.oneCell'=true):
  StepA P o st (.fz (.atom (.int .i64 (min ys.length xs.length:Nat)))) ((id, .frow e 1 ((xs.take 0++(ys.take (min ys.length xs.length)++xs.drop (0+(ys.take (min ys.length xs.length)).length))).map enc))::st.heap) st.ids:=by
 subst hn;intro F S0 N0 ψ S a w x;have c:=x.core;obtain ⟨ak,hO,al⟩:=c.obj id _ t;have V:=hO;obtain ⟨hl,ai,cs,d,am,hr⟩:=V;rw [qu] at hl d;have A:=x.eval X;rw [hx] at A;have G:a.eval X=ψ.val id:=by
  generalize a.eval X=u at A;cases A with
  | row hK an h1 hv=>exact hv hl.symm
 obtain ⟨_,_,size,m,hm,_,Z⟩:=kw3 (x.eval Y) hy;obtain ⟨A2,cap2,news,H,aa,_,_,I,aj,J,K,L⟩:=kmo Z;rw [qu] at hm aa I;subst hm;have hu:P.underlying t1=some (.slice e):=(hT.get hd).slice hk;have q:(P.info? e).map (·.size)=some 1:=by have:=(hT.get R).info;rw [U] at this;exact this
 obtain ⟨k,M⟩:∃ k,k=min ys.length xs.length:=⟨_,rfl⟩;rw [<- M];have p:(ys.take k).length=k:=by rw [qak];omega
 by_cases N:k=0
 ·obtain ⟨A1,cap1,ab⟩:∃ A1 cap1,ψ.val id = .slice A1 xs.length cap1:=by
   rcases d.2 with ⟨hv,h0⟩ | ⟨g,cap,cur,hv,_⟩;exact ⟨none,0,by rw [hv,h0]⟩
   ·exact ⟨_,_,hv⟩
  have l:=run_copy_none (P:=P) w t1 t2 o.type e A1 A2 xs.length cap1 ys.length cap2 hu q (by show min _ _=0;omega);have B:xs.take 0++(ys.take k++xs.drop (0+(ys.take k).length))=xs:=by rw [p,N];simp
  rw [B];have r:ψ.set id xs.length (ψ.val id)=ψ:=by
   unfold Env.set;congr 1
   ·funext j;split;rename_i hj;rw [hj,hl]
    ·rfl
   ·funext j;split;rename_i hj;rw [hj]
    ·rfl
  obtain ⟨c1,c2,c3⟩:=c.upd (n:=xs.length) (v:=ψ.val id) (w':=w) (ob' := .frow e 1 (xs.map enc)) t (qx _) (fun _ _ _=>rfl) (.inr ⟨hl,rfl⟩) (fun b hb => .inl hb) (by rw [r];exact hO);rw [r] at c1;refine kai (w':=w) (v := .int .i64 ((k:Nat):Int)) ?_ ⟨ψ,S,c1, .fz (.atom rfl),Fr.refl,Ext.refl,fun _ h=>h,fun _ h=>h,c2⟩;rw [N];simp [execOp,ho,resolve,invoke,builtin,G,ab,H,l,goInt]
 ·obtain ⟨g,cap,cur,s,hg,ac,ae,O,af⟩:=kgx d (by omega);obtain ⟨f,hf⟩:∃ f:α->Value,∀ y,enc y = .atom (f y)/\(f y).oneCell'=true:=⟨fun y=>(E y).choose,fun y=>(E y).choose_spec⟩;have ag:size=1:=by have h0:0<ys.length:=(by omega);have:=(K (enc ys[0]) (qae.2 ⟨_,qq h0,rfl⟩)).1;rw [(hf ys[0]).1] at this;exact this.symm
  subst ag;have C:news=ys.map f:=by apply List.ext_getElem (by rw [I,qu,qaz]);intro i h1 Q;rw [qu] at Q;have:=J i (enc ys[i]) 0 news[i] (enc ys[i]) (by rw [qp,qb Q];rfl) (by simp) (by rw [(hf ys[i]).1];rfl);rw [(hf ys[i]).1] at this;rw [this.atom_eq,List.getElem_map]
  have ah:cur.toList.take xs.length=xs.map f:=by rw [af];have hcl:cs.length=xs.length:=(by rw [d.1,qaz]);apply List.ext_getElem (by rw [hcl,qu]);intro i h1 Q;rw [qu] at Q;have:=hr i (enc xs[i]) 0 cs[i] (enc xs[i]) (by rw [qp,qb Q];rfl) (by simp) (by rw [(hf xs[i]).1];rfl);rw [(hf xs[i]).1] at this;rw [this.atom_eq,List.getElem_map]
  obtain ⟨ad,rfl,D⟩:∃ ad,A2=some ad/\∀ j u,news[j]?=some u->w.cell? (ad.add j)=some u:=by
   rcases L with ⟨_,h⟩ | ⟨h,_⟩ | h;have:=congrArg List.length h;rw [qu,qa9] at this;omega;have:=congrArg List.length h;rw [qu,qa9] at this;omega
   ·exact h
  obtain ⟨c1,c2,c3⟩:=k1e (zs:=ys.take k) (lo:=0) c t s hg ac ae O ah hf (by rw [p];omega);have l:=run_copy_row (P:=P) w t1 t2 o.type e g 0 xs.length cap ad ys.length cap2 cur e ((ys.take k).map f) hu q hg (by rw [qu,p];exact M) (fun j v hv=>by
   rw [qp,qag] at hv;split at hv;exact D j v (by rw [C,qp];exact hv)
   ·cases hv) (by rw [qu,p,O];omega) (fun v hv=>by obtain ⟨z,_,rfl⟩:=qae.1 hv;exact (hf z).2)
  rw [qu,p] at l;refine kai (w':=_) (v := .int .i64 ((k:Nat):Int)) ?_ ⟨ψ,S,c1, .fz (.atom rfl),⟨rfl,rfl,rfl,?_,c3⟩,Ext.refl,fun _ h=>h,fun _ h=>h,c2⟩;rw [qu,p];simp [execOp,ho,resolve,invoke,builtin,G,s,H,l,goInt]
  ·simp [World.setRow]
end
def vI (x:Int):Value := .int .i64 x
def tabF (rows:List (List Value)):FV := .lst 1 rows.length (rows.map fun r => .lst 1 r.length (r.map .atom))
def k7j:FV->Bool
 | .atom _=>true
 | .tup vs=>vs.all fun x=>match x with
  | .atom _=>true
  | _=>false
 | _=>false
section
variable {P:Program} {F S0:Nat->Prop} {N0:Nat} {w w':World} {S S':Nat->Prop} {ψ ψ':Env} {K:Nat->Prop} {T:List (TypeId×TD)} {o:Oper} {a:Act} {st:St} {t:TypeId} {d:TD} {id:Nat} {ids:List Nat} {heap:List (Nat×AObj)}
theorem l_tab {ops:Array Oper} {l:List Oper} {Q:Exit->St->Prop} {X Y:Operand} {n:Int} {eo ei:TypeId} {de:TD} {k k':IntKind} (ho:o.op = .makeSlice t X Y) (hT:TOk P T) (H:kak T t=some d) (hk:d.kind = .slice eo) (y:kak T eo=some de)
  (I:de.size=1) (J:de.zero=[.slice none 0 0]) (K:st.eval X = .fz (.atom (.int k n))) (hy:st.eval Y = .fz (.atom (.int k' n))) (h0:0<=n) (m:(de.bytes:Int)*n<=281474976710656) (L:n<=9223372036854775807) (p:st.ids.contains id=false)
  (hg:kcz ops st o=some true) (M:∀ t,o.dst=some t->t<st.n)
  (h:∀ ov,awpL P ops l (({ st with heap:=(id, .tab 0 ov eo ei (List.replicate n.toNat []))::st.heap,ids:=id::st.ids }:St).put o.dst (.fz (.atom ov))) Q):awpL P ops (o::l) st Q:=by
 have p:id∉st.ids:=by simpa using p
 have H:=hT.get H;have y:=hT.get y;intro F S0 N0 ψ S a w hs;have q:=hs.eval X;rw [K] at q;have q:=q.atom;have r:=hs.eval Y;rw [hy] at r;have r:=r.atom;obtain ⟨⟨i,z',hi,N,O,hz,U⟩,_⟩:=y;have g:=hs.core;have hcl:z'.cells=#[.slice none 0 0]:=by apply Array.ext';rw [U,J]
 have hr:=run_make (P:=P) w t eo i z' (H.slice hk) hi hz k k' n n h0 (Int.le_refl _) (by rw [O];exact m) L;rw [N,I,hcl,qaz] at hr;obtain ⟨w1,z⟩:∃ w1,w1=w.alloc (.cells (madeCells #[.slice none 0 0] n.toNat) eo):=⟨_,rfl⟩;have A:Grow w w1:=z ▸ kdm _ _;obtain ⟨ov,s⟩:∃ ov:Value,ov = .slice (some ⟨w.heap.size,0,none⟩) n.toNat n.toNat:=⟨_,rfl⟩;have V:(madeCells #[.slice none 0 0] n.toNat).toList=List.replicate n.toNat (.slice none 0 0):=toList_madeCells_one _ _;obtain ⟨vs,B⟩:∃ vs:List Value,vs=List.replicate n.toNat (.slice none 0 0):=⟨_,rfl⟩;have C:w1.ownsRow 0 eo 1 ov n.toNat vs:=by have:=World.ownsRow_lit (base:=0) (size:=1) (e:=eo) w (madeCells #[.slice none 0 0] n.toNat) n.toNat (qaj _) (by unfold maxLen;omega) (by rw [size_madeCells,qaz]);rw [V,<- B,<- s,<- z] at this;exact this
 have f:∀ (j:Nat) (v:Value),vs[j]?=some v->v = .slice none 0 0:=fun j v hv=>by have:=qm hv;rw [B,List.mem_replicate] at this;exact this.2
 have hO:ObR (ψ.set id 0 (.tuple (ov::vs).toArray)) (·∈id::st.ids) S w1 id (.tab 0 ov eo ei (List.replicate n.toNat [])):=by
  refine ⟨keq _ _,vs,kbb _ _,by rw [B];simp,by simpa using C,fun j v xs hv K=>?_,fun i j u v b x hv Z D E=>?_⟩;rw [f j v hv];have:=qm K;rw [List.mem_replicate] at this;rw [this.2];exact ⟨⟨rfl, .inl ⟨rfl,rfl⟩⟩,fun u x=>by cases x⟩
  ·cases i with
   | zero=>cases j with
    | zero=>exact Z rfl
    | succ j=>rw [qav] at hv;rw [f j v hv] at E;cases E
   | succ i=>rw [qav] at x;rw [f i u x] at D;cases D
 have hc:=g.addB A p (n:=0) (v := .tuple (ov::vs).toArray) (fun b m=>by
  rcases m with m | ⟨u,x,m⟩;cases m
  ·simp only [kf9] at x;rcases qar.1 x with rfl | x;rw [s] at m;simp [ka1] at m;omega
   ·obtain ⟨i,hi,rfl⟩:=qaa.1 x;rw [f i _ (qb hi)] at m;cases m) hO
 unfold wpList;rw [kje hs hg];refine .inl (kl5 (R:=fun v w'=>v=ov/\w'=w1) ?_ ?_);rintro v w' ⟨rfl,rfl⟩;have G:=hs.put (st':={ st with heap:=(id, .tab 0 v eo ei (List.replicate n.toNat []))::st.heap,ids:=id::st.ids }) (d:=o.dst) (v:=v) (c := .fz (.atom v)) rfl rfl rfl hc (.fz (.atom (by rw [s];rfl))) (kfq p _ _) (fun _ h=>qo _ h) (fun _ h=>h) (Same.of_grow A) M;exact ken (fun e a' w'' k=>k.pre (Fr.of_grow g.fr A)) _ _ _ (h v F S0 N0 _ S _ w' G)
 ·refine kai (w':=w1) (v:=ov) ?_ ⟨rfl,rfl⟩;rw [z,s];simp [execOp,ho,q,r,hr]
theorem k9h {g:Nat} {ov:Value} {eo ei:TypeId} {rows:List (List Value)} (h:ObR ψ K S w id (.tab g ov eo ei rows)):∃ A cap,ov = .slice A rows.length cap:=by
 obtain ⟨_,vs,_,_,b,_⟩:=h;rcases b.2 with ⟨a,c⟩ | ⟨g,cap,cur,a,_⟩;exact ⟨none,0,by rw [a,c]⟩
 ·exact ⟨some ⟨g,0,none⟩,cap,a⟩
theorem kzd {x:Operand} {e2:TypeId} {g:Nat} {ov:Value} {eo ei:TypeId} {rows:List (List Value)} {n:Nat} (e:TOk P T) (ho:o.op = .call { callee := .builtin .len,args:=#[x],argTypes:=#[t] }) (f:kak T t=some d) (hk:d.kind = .slice e2) (h:st.eval x = .fz (.atom ov)) (b:kae st.heap id=some (.tab g ov eo ei rows)) (hn:n=rows.length):
  NStep P o st (.fz (.atom (.int .i64 n))):=by
 subst hn;intro ψ S a w c i;have h0:=Sim.eval_tmps c x;rw [h] at h0;have h0:=h0.atom;obtain ⟨A,cap,hv⟩:=k9h (i id _ b);rw [hv] at h0;refine kai (w':=w) (v := .int .i64 rows.length) ?_ ⟨kaj _, .fz (.atom rfl)⟩;simp [execOp,ho,resolve,invoke,builtin,Builtin.len_,run_underlying ((e.get f).slice hk),h0,goInt]
theorem kjh {α:Type} {f:α->Value} {rows:List (List α)} {row:List α} {i:Int} {X Y:Operand} {e:TypeId} {de:TD} {k:IntKind} {g:Nat} {ov:Value} {ei:TypeId} (h:idx rows i=some row) (u:TOk P T) (ho:o.op = .indexAddr t X Y:=by kernel_rfl) (q:kak T t=some d:=by kernel_rfl) (hk:d.kind = .slice e:=by kernel_rfl) (l:kak T e=some de:=by kernel_rfl) (y:de.size=1:=by kernel_rfl) (z:st.eval X = .fz (.atom ov):=by kernel_rfl) (r:kae st.heap id=some (.tab g ov e ei (rows.map (List.map f))):=by kernel_rfl) (hK:st.ids.contains id=true:=by kernel_rfl) (A:st.eval Y = .fz (.atom (.int k i)):=by kernel_rfl):NStep P o st (.iref id g 0 i.toNat):=by
 intro ψ S a w ht B;have q:=u.get q;have l:=u.get l;unfold idx at h;split at h
 ·rename_i h0;have C:i.toNat<rows.length:=(qj.1 h).1;have b:=Sim.eval_tmps ht X;rw [z] at b;have b:=b.atom;have c:=Sim.eval_tmps ht Y;rw [A] at c;have c:=c.atom;obtain ⟨F,vs,m,s,j,D,x⟩:=B id _ r;rw [qu] at s j;obtain ⟨gb,cap,cur,n,E,_⟩:=kgx j (by omega);refine kai (w':=w) (v := .pointer (some ⟨gb,i.toNat,none⟩)) ?_ ⟨kaj _, .iref (by simpa using hK) (by omega) rfl fun _=>⟨ov,gb,by rw [m];rfl,by rw [n];rfl,rfl⟩⟩;have p:i<(rows.length:Int):=by omega
  simp [execOp,ho,b,n,c,Instr.indexAt,asIntOf,run_underlying (q.slice hk),h0,p,l.size,y,kfj]
 ·cases h
theorem kmq {α:Type} {f:α->Value} {rows:List (List α)} {row:List α} {i:Int} {X:Operand} {g:Nat} {ov:Value} {ei:TypeId} (h:idx rows i=some row) (z:TOk P T) (ho:o.op = .load t X:=by kernel_rfl) (n:kak T t=some d:=by kernel_rfl) (hk:d.kind.agg=false:=by kernel_rfl) (A:st.eval X = .iref id g 0 i.toNat:=by kernel_rfl) (p:kae st.heap id=some (.tab g ov t ei (rows.map (List.map f))):=by kernel_rfl) (hK:st.ids.contains id=true:=by kernel_rfl):NStep P o st (.irow id g (i.toNat+1)):=by
 intro ψ S a w ht B;have n:=z.get n;unfold idx at h;split at h
 ·rename_i h0;have C:i.toNat<rows.length:=(qj.1 h).1;have j:=Sim.eval_tmps ht X;rw [A] at j;obtain ⟨D,vs,e,q,c,r,y⟩:=B id _ p;rw [qu] at q c;obtain ⟨gb,cap,cur,m,E,F,G,H,I⟩:=kgx c (by omega);have hp:a.eval X = .pointer (some ⟨gb,i.toNat,none⟩):=by
   generalize a.eval X=u at j;cases j with
   | iref hK J h1 hv=>
    obtain ⟨u,b,s,x,rfl⟩:=hv D.symm;rw [e] at s;simp only [kf9,List.getElem?_cons_zero,ql] at s;subst s;rw [m] at x;simp only [ka1,ql] at x;rw [x]
  have k:vs[i.toNat]?=some (vs[i.toNat]'(by omega)):=qb _;have l:w.cell? ⟨gb,i.toNat,none⟩=some (vs[i.toNat]'(by omega)):=by rw [m] at c;rw [World.ownsRow.cellAt c i.toNat (by omega),k]
  obtain ⟨k1,_⟩:=r i.toNat _ (row.map f) k (by rw [qp,h];rfl);refine kai (w':=w) (v:=vs[i.toNat]'(by omega)) ?_ ⟨kaj _, .irow (by simpa using hK) (by omega) (kwa k1) fun _=>by rw [e];simp only [kf9,qav];exact k⟩;simp [execOp,ho,hp,Instr.loadAt,Instr.sureAddr,loadVar,n.isAgg,hk,l]
 ·cases h
theorem kwp {α:Type} {f:α->Value} {rows:List (List α)} {row:List α} {i:Int} {g:Nat} {ov:Value} {eo ei:TypeId} (h:idx rows i=some row) (l:ObR ψ K S w id (.tab g ov eo ei (rows.map (List.map f)))):
  ∃ v vs,ψ.len id=g/\ψ.val id = .tuple (ov::vs).toArray/\(kf9 (ψ.val id))[i.toNat+1]?=some v/\vs[i.toNat]?=some v/\w.ownsRow 0 ei 1 v row.length (row.map f)/\rows[i.toNat]?=some row/\∀ u∈row.map f,u.oneCell'=true:=by
 unfold idx at h;split at h
 ·obtain ⟨m,vs,a,c,j,d,k⟩:=l;have e:i.toNat<rows.length:=(qj.1 h).1;have b:i.toNat<vs.length:=by rw [c];simpa using e
  obtain ⟨k1,k2⟩:=d i.toNat vs[i.toNat] (row.map f) (qb b) (by rw [qp,h];rfl);rw [qu] at k1;exact ⟨vs[i.toNat],vs,m,a,by rw [a];simp only [kf9,qav];exact qb b,qb b,k1,h,k2⟩
 ·cases h
theorem kom {α:Type} {f:α->Value} {rows:List (List α)} {row:List α} {x:α} {i j:Int} {X Y:Operand} {e:TypeId} {de:TD} {k:IntKind} {g:Nat} {ov:Value} {eo:TypeId} (h:idx rows i=some row) (s:idx row j=some x) (A:TOk P T) (ho:o.op = .indexAddr t X Y:=by kernel_rfl) (y:kak T t=some d:=by kernel_rfl) (hk:d.kind = .slice e:=by kernel_rfl) (c:kak T e=some de:=by kernel_rfl) (C:de.size=1:=by kernel_rfl) (D:st.eval X = .irow id g (i.toNat+1):=by kernel_rfl) (z:kae st.heap id=some (.tab g ov eo e (rows.map (List.map f))):=by kernel_rfl) (hK:st.ids.contains id=true:=by kernel_rfl) (E:st.eval Y = .fz (.atom (.int k j)):=by kernel_rfl):NStep P o st (.iref id g (i.toNat+1) j.toNat):=by
 intro ψ S a w ht F;have y:=A.get y;have c:=A.get c;obtain ⟨v,vs,G,B,m,H,n,hr,_⟩:=kwp h (F id _ z);unfold idx at s;split at s
 ·rename_i h0;have I:j.toNat<row.length:=(qj.1 s).1;have l:=Sim.eval_tmps ht X;rw [D] at l;have b:=Sim.eval_tmps ht Y;rw [E] at b;have b:=b.atom;obtain ⟨gb,cap,cur,p,J,_⟩:=kgx n (by omega);have q:a.eval X = .slice (some ⟨gb,0,none⟩) row.length cap:=by
   generalize a.eval X=u at l;cases l with
   | irow hK hn h1 hv=>
    have:=hv G.symm;rw [m] at this;rw [<- qaq this,p]
  refine kai (w':=w) (v := .pointer (some ⟨gb,j.toNat,none⟩)) ?_ ⟨kaj _, .iref (by simpa using hK) (by omega) rfl fun _=>⟨v,gb,m,by rw [p];rfl,rfl⟩⟩;have r:j<(row.length:Int):=by omega
  simp [execOp,ho,q,b,Instr.indexAt,asIntOf,run_underlying (y.slice hk),h0,r,c.size,C,kfj]
 ·cases s
theorem kwm {X:Operand} {g i j b:Nat} {v:Value} (c:RV ψ K S w (a.eval X) (.iref id g i j)) (h:ψ.len id=g) (hv:(kf9 (ψ.val id))[i]?=some v) (k:ka1 v=some b):a.eval X = .pointer (some ⟨b,j,none⟩):=by
 generalize a.eval X=u at c;cases c with
 | iref hK hn h1 e=>
  obtain ⟨u,b',f,d,rfl⟩:=e h.symm;rw [hv] at f;cases f;rw [k] at d;cases d;rfl
theorem kr1 {α:Type} {f:α->Value} {rows:List (List α)} {row:List α} {x:α} {i j:Int} {X:Operand} {g:Nat} {ov:Value} {eo:TypeId} (h:idx rows i=some row) (e:idx row j=some x) (s:TOk P T) (ho:o.op = .load t X:=by kernel_rfl) (n:kak T t=some d:=by kernel_rfl) (hk:d.kind.agg=false:=by kernel_rfl) (u:st.eval X = .iref id g (i.toNat+1) j.toNat:=by kernel_rfl) (p:kae st.heap id=some (.tab g ov eo t (rows.map (List.map f))):=by kernel_rfl):NStep P o st (.fz (.atom (f x))):=by
 intro ψ S a w ht y;have n:=s.get n;obtain ⟨v,vs,z,r,q,A,b,hr,k⟩:=kwp h (y id _ p);unfold idx at e;split at e
 ·rename_i h0;have B:j.toNat<row.length:=(qj.1 e).1;obtain ⟨gb,cap,cur,l,C,D,E,F,G⟩:=kgx b (by omega);have m:=Sim.eval_tmps ht X;rw [u] at m;have hp:=kwm m z q (by rw [l];rfl);have c:w.cell? ⟨gb,j.toNat,none⟩=some (f x):=by rw [l] at b;rw [World.ownsRow.cellAt b j.toNat (by omega),qp,e];rfl
  refine kai (w':=w) (v:=f x) ?_ ⟨kaj _, .fz (.atom (k _ (List.mem_map_of_mem (qm e))))⟩;simp [execOp,ho,hp,Instr.loadAt,Instr.sureAddr,loadVar,n.isAgg,hk,c]
 ·cases e
theorem kx6 {X:Operand} {g i j:Nat} {ov:Value} {eo ei:TypeId} {rows:List (List Value)} (ho:o.op = .nilCheck X:=by kernel_rfl) (k:st.eval X = .iref id g i j:=by kernel_rfl) (d:kae st.heap id=some (.tab g ov eo ei rows):=by kernel_rfl) (hK:st.ids.contains id=true:=by kernel_rfl):NStep P o st (.iref id g i j):=by
 intro ψ S a w ht l;obtain ⟨m,vs,h,_⟩:=l id _ d;have c:=Sim.eval_tmps ht X;rw [k] at c;obtain ⟨b,u,e,f,hp⟩:∃ b u,(kf9 (ψ.val id))[i]?=some u/\ka1 u=some b/\a.eval X = .pointer (some ⟨b,j,none⟩):=by
  generalize a.eval X=v at c;cases c with
  | iref hK hn h1 hv=>
   obtain ⟨u,b,e,n,rfl⟩:=hv m.symm;exact ⟨b,u,e,n,rfl⟩
 refine kai (w':=w) (v := .pointer (some ⟨b,j,none⟩)) ?_ ⟨kaj _, .iref (by simpa using hK) (by omega) rfl fun _=>⟨u,b,e,f,rfl⟩⟩;simp [execOp,ho,hp]
end
section
variable {P:Program} {F S0:Nat->Prop} {N0:Nat} {w w':World} {S S':Nat->Prop} {ψ ψ':Env} {K:Nat->Prop} {T:List (TypeId×TD)} {o:Oper} {a:Act} {st:St} {t:TypeId} {d:TD} {id:Nat} {ids:List Nat} {heap:List (Nat×AObj)}
theorem k6n {n:Nat} (hl:ψ.len id=n):ψ.set id n (ψ.val id)=ψ:=by
 unfold Env.set;congr 1
 ·funext j;split;rename_i a;rw [a,hl]
  ·rfl
 ·funext j;split;rename_i a;rw [a]
  ·rfl
theorem k0i {e:TypeId} {n cap g j:Nat} {cs:List Value} {cur:Array Value} {u:Value} (f:w.heap[g]?=some (.cells cur e (0,0))) (a:n<=cap) (b:cap<=maxLen) (c:cur.size=cap) (d:cur.toList.take n=cs) (hcl:cs.length=n) (h:j<n):
  (w.setRow g (cur.toList.set j u).toArray).ownsRow 0 e 1 (.slice (some ⟨g,0,none⟩) n cap) n (cs.set j u):=
 ⟨by rw [qbp,hcl,qaz], .inr ⟨g,cap,_,rfl,qaj _,kl6 g f,a,b,by simp [c],by rw [qaz,List.take_set,d]⟩⟩
theorem kz3 {e:TypeId} {cur:Array Value} {g j:Nat} {u:Value} (b:w.heap[g]?=some (.cells cur e (0,0))) (c:j<cur.size) (a:u.oneCell'=true):
  (storeCells ⟨g,j,none⟩ [u] 0).run P w = .ok () (w.setRow g (cur.toList.set j u).toArray):=by
 have hst:=run_storeCells_at (P:=P) g j e [u] 0 cur w b (by simp;omega) (fun v hv=>by simp at hv;rw [hv];exact a);have:(cur.toList.take (j+0)++[u]++cur.toList.drop (j+0+[u].length))=cur.toList.set j u:=by rw [List.set_eq_take_append_cons_drop,qn (by simpa using c)];simp
 rw [this] at hst;exact hst
theorem kpj {u:Value} (h:u.oneCell'=true):u.cells=#[u]:=by cases u <;> first | rfl | cases h
theorem kyz {vs:List Value} {i j b:Nat} {u v:Value} (h:∀ (i j:Nat) (u v:Value) (b:Nat),vs[i]?=some u->vs[j]?=some v->i≠j->ka1 u=some b->ka1 v≠some b) (hi:vs[i]?=some u) (c:vs[j]?=some v) (a:i≠j) (d:ka1 u=some b):
  ∀ k,v.ownBlock=some k->k≠b:=fun k hk e=>h i j u v b hi c a d (by rw [kig hk,e])
theorem kvr {α:Type} {f:α->Value} {rows:List (List α)} {row:List α} {x y:α} {i j:Int} {X Y:Operand} {g:Nat} {ov:Value} {eo:TypeId} (h:idx rows i=some row) (V:idx row j=some x) (hT:TOk P T) (ho:o.op = .store t X Y:=by kernel_rfl) (hd:kak T t=some d:=by kernel_rfl) (hz:d.size=1:=by kernel_rfl) (hx:st.eval X = .iref id g (i.toNat+1) j.toNat:=by kernel_rfl) (I:kae st.heap id=some (.tab g ov eo t (rows.map (List.map f))):=by kernel_rfl) (hy:st.eval Y = .fz (.atom (f y)):=by kernel_rfl):StepA P o st .any ((id, .tab g ov eo t ((rows.set i.toNat (row.set j.toNat y)).map (List.map f)))::st.heap) st.ids:=by
 intro F S0 N0 ψ S a w H;have hd:=hT.get hd;have m:=H.core;obtain ⟨ai,hO,aj⟩:=m.obj id _ I;obtain ⟨v,vs,Z,p,aa,A,J,hr,K⟩:=kwp h hO;obtain ⟨_,vs',q,ab,r,ac,s⟩:=hO;obtain rfl:vs'=vs:=by rw [p] at q;simpa using q.symm
 unfold idx at V;split at V
 ·rename_i h0;have ad:j.toNat<row.length:=(qj.1 V).1;obtain ⟨gb,cap,cur,L,M,ae,af,N,ag⟩:=kgx J (by omega);have O:=H.eval X;rw [hx] at O;have B:ka1 v=some gb:=by rw [L];rfl
  have hp:=kwm O Z aa B;have z:=H.eval Y;rw [hy] at z;have C:(f y).oneCell'=true:=by have Q:=z.inv;generalize a.eval Y=u at Q;cases Q with | atom h=>exact h
  have z:=z.atom;have hst:=kz3 (P:=P) (u:=f y) (j:=j.toNat) M (by rw [N];omega) C;obtain ⟨w',l⟩:∃ w',w'=w.setRow gb (cur.toList.set j.toNat (f y)).toArray:=⟨_,rfl⟩;rw [<- l] at hst;have c:∀ k,k≠gb->w'.heap[k]?=w.heap[k]?:=fun k hk=>by rw [l];exact kk8 gb _ k hk
  have ak:w'.heap.size=w.heap.size:=by rw [l];simp [World.setRow]
  have hB:Blk (ψ.val id) gb:=by rw [p];exact .inr ⟨v,by simp only [kf9];exact qo _ (qm A),B⟩
  have R:∀ k,k<w.heap.size->¬ Blk (ψ.val id) k->w'.heap[k]?=w.heap[k]?:=fun k _ hk=>c k fun e=>hk (e ▸ hB);have E:=k6n (ψ:=ψ) (id:=id) Z;obtain ⟨c1,c2,c3⟩:=m.upd (n:=g) (v:=ψ.val id) (w':=w') (ob' := .tab g ov eo t ((rows.set i.toNat (row.set j.toNat y)).map (List.map f))) I (by omega) R (.inr ⟨Z,rfl⟩) (fun b U => .inl U) (by
   rw [E];refine ⟨Z,vs',p,by simpa using ab,?_,fun k u xs G D=>?_,s⟩;rw [qu,qbp];rw [qu] at r;exact khp r fun b U=>c b (kyz s (i:=i.toNat+1) (j:=0) (by rw [qav];exact A) rfl (by omega) B b U)
   ·by_cases hk:i.toNat=k
    ·subst hk;rw [A] at G;cases G;have ah:i.toNat<rows.length:=(qj.1 hr).1;rw [qp,qbk ah,qbf] at D;cases D;rw [List.map_set];refine ⟨?_,fun u G=>?_⟩;rw [qbp,qu,L,l];exact k0i M ae af N ag (by simp) ad
     ·rcases List.mem_or_eq_of_mem_set G with G | rfl;exact K u G
      ·exact C
    ·rw [qp,List.getElem?_set_ne hk,<- qp] at D;obtain ⟨k1,k2⟩:=ac k u xs G D;exact ⟨khp k1 fun b U=>c b (kyz s (i:=i.toNat+1) (j:=k+1) (by rw [qav];exact A) (by rw [qav];exact G) (by omega) B b U),k2⟩)
  rw [E] at c1;refine klf (w':=w') ?_ ⟨ψ,S,c1, .any,⟨by rw [l];rfl,by rw [l];rfl,by rw [l];rfl,by omega,c3⟩,Ext.refl,fun _ h=>h,fun _ h=>h,c2⟩;simp only [execOp,ho,Instr.storeAt,hp,z,Instr.sureAddr,storeVar,hd.size,Sem.run_bind,Sem.run_pure,Result.andThen_ok];rw [qk (by rw [kpj C,hz];simp)];simp [kpj C,hst]
 ·cases V
theorem Core.upd2 {n id2:Nat} {v:Value} {ob ob2 ob':AObj} (h:Core F S0 N0 heap ids ψ S w) (ho:kae heap id=some ob) (t:kae heap id2=some ob2) (q:w.heap.size<=w'.heap.size) (m:∀ k,k<w.heap.size->¬ Blk (ψ.val id) k->w'.heap[k]?=w.heap[k]?)
  (E:ψ.len id<n) (p:∀ b,Blk v b->Blk (ψ.val id) b\/Blk (ψ.val id2) b) (G:ObR (ψ.set id n v) (·∈ids) S w' id ob'):
  Core F S0 N0 ((id,ob')::kci id2 heap) ids (ψ.set id n v) S w'/\Same S w w'/\∀ b,F b->w'.heap[b]?=w.heap[b]?:=by
 obtain ⟨y,H,r⟩:=h.obj id ob ho;obtain ⟨B,C,u⟩:=h.obj id2 ob2 t;have hk:Same S w w':=fun b p hl=>m b hl fun e=>(r b e).1 p;refine ⟨⟨fun i o' c=>?_,fun i i' o' o'' b j a s g d=>?_,fun b p=>qbe (h.lt b p) q,h.s0,qaf h.n0 q,fun b p=>qbe (h.fr b p) q⟩,hk,fun b hf=>m b (h.fr b hf) fun e=>(r b e).2.1 hf⟩
 ·rw [kah] at c;by_cases o:id=i
  ·subst o;rw [qn rfl] at c;injection c with c;subst c;refine ⟨y,G,fun b f=>?_⟩;rw [kbb] at f;rcases p b f with h1 | h1;exact r b h1
   ·exact u b h1
  ·rw [qk o] at c;obtain ⟨_,c⟩:=kc5 id2 c;obtain ⟨h1,D,I⟩:=h.obj i o' c;have x:=kc8 (ψ:=ψ) (Ne.symm o) n v;refine ⟨h1,D.keep (ktb (.inl E)) (fun _ h=>h) (fun _ h=>h) hk x fun b f=>m b (D.lt f) fun e=>h.inj i id o' ob b c ho (Ne.symm o) f e,fun b f=>I b (by rw [x.2] at f;exact f)⟩
 ·have key:∀ {i' o''},id≠i'->kae (kci id2 heap) i'=some o''->∀ {b},Blk v b->¬ Blk ((ψ.set id n v).val i') b:=fun {i' o''} l hl {b} g d=>by
   obtain ⟨z,hl⟩:=kc5 id2 hl;rw [(kc8 (ψ:=ψ) (Ne.symm l) n v).2] at d;rcases p b g with A | A;exact h.inj id i' ob o'' b ho hl l A d
   ·exact h.inj id2 i' ob2 o'' b t hl (Ne.symm z) A d
  rw [kah] at j a;by_cases o:id=i;subst o;rw [qk s] at a;rw [kbb] at g;exact key s a g d
  ·rw [qk o] at j;by_cases l:id=i';subst l;rw [kbb] at d;exact key o j d g
   ·rw [qk l] at a;obtain ⟨_,j⟩:=kc5 id2 j;obtain ⟨_,a⟩:=kc5 id2 a;rw [(kc8 (ψ:=ψ) (Ne.symm o) n v).2] at g;rw [(kc8 (ψ:=ψ) (Ne.symm l) n v).2] at d;exact h.inj i i' o' o'' b j a s g d
theorem kv1 {α:Type} {f:α->Value} {enc:α->FV} {rows:List (List α)} {row zs:List α} {i:Int} {X Y:Operand} {g id2 n:Nat} {ov:Value} {ei:TypeId} (h:idx rows i=some row) (hT:TOk P T) (ho:o.op = .store t X Y) (hd:kak T t=some d) (hz:d.size=1) (hx:st.eval X = .iref id g 0 i.toNat)
  (s:kae st.heap id=some (.tab g ov t ei (rows.map (List.map f)))) (hy:st.eval Y = .row id2 n) (r:kae st.heap id2=some (.frow ei 1 (zs.map enc))) (hn:n=zs.length) (hf:∀ y,enc y = .atom (f y)/\(f y).oneCell'=true):
  StepA P o st .any ((id, .tab (g+1) ov t ei ((rows.set i.toNat zs).map (List.map f)))::kci id2 st.heap) st.ids:=by
 subst hn;intro F S0 N0 ψ S a w G;have hd:=hT.get hd;have l:=G.core;have ae:id≠id2:=fun e=>by rw [e,r] at s;cases s
 obtain ⟨aq,⟨hg,vs,C,H,D,af,E⟩,ar⟩:=l.obj id _ s;obtain ⟨an,⟨N,_,cs,c,_,ag⟩,ao⟩:=l.obj id2 _ r;rw [qu] at H D N c;unfold idx at h;split at h
 ·rename_i h0;have O:i.toNat<rows.length:=(qj.1 h).1;obtain ⟨gb,cap,cur,Q,R,ah,ai,U,aj⟩:=kgx D (by omega);have x:ka1 ov=some gb:=by rw [Q];rfl
  have V:=G.eval X;rw [hx] at V;have hp:=kwm V hg (v:=ov) (by rw [C];rfl) x;have I:=G.eval Y;rw [hy] at I;obtain ⟨u,Z⟩:∃ u,u=ψ.val id2:=⟨_,rfl⟩;have ak:a.eval Y=u:=by
   rw [Z];generalize a.eval Y=u at I;cases I with
   | row hK au h1 hv=>exact hv N.symm
  rw [<- Z] at c;have J:u.oneCell'=true:=kwa c;have al:cs=zs.map f:=by have hcl:cs.length=zs.length:=(by rw [c.1,qaz]);apply List.ext_getElem (by rw [hcl,qu]);intro k h1 h2;rw [qu] at h2;have:=ag k (enc zs[k]) 0 cs[k] (enc zs[k]) (by rw [qp,qb h2];rfl) (by simp) (by rw [(hf zs[k]).1];rfl);rw [(hf zs[k]).1] at this;rw [this.atom_eq,List.getElem_map]
  have hst:=kz3 (P:=P) (u:=u) (j:=i.toNat) R (by rw [U];omega) J;obtain ⟨w',q⟩:∃ w',w'=w.setRow gb (cur.toList.set i.toNat u).toArray:=⟨_,rfl⟩;rw [<- q] at hst;have m:∀ k,k≠gb->w'.heap[k]?=w.heap[k]?:=fun k hk=>by rw [q];exact kk8 gb _ k hk
  have av:w'.heap.size=w.heap.size:=by rw [q];simp [World.setRow]
  have A:∀ u b,u∈ov::vs->ka1 u=some b->Blk (ψ.val id) b:=fun u b Z p=>by rw [C];exact .inr ⟨u,by simpa [kf9] using Z,p⟩
  have hB:Blk (ψ.val id) gb:=A ov gb (qs ..) x;have aa:∀ k,k<w.heap.size->¬ Blk (ψ.val id) k->w'.heap[k]?=w.heap[k]?:=fun k _ hk=>m k fun e=>hk (e ▸ hB);have ab:∀ b,ka1 u=some b->Blk (ψ.val id2) b:=fun b p => .of (Z ▸ p);have K:∀ v b,v∈ov::vs->ka1 v=some b->ka1 u≠some b:=fun v b hv p L=>l.inj id id2 _ _ b s r ae (A v b hv p) (ab b L);have ac:i.toNat<vs.length:=by omega
  obtain ⟨c1,c2,c3⟩:=l.upd2 (n:=g+1) (v := .tuple (ov::vs.set i.toNat u).toArray) (w':=w') (ob' := .tab (g+1) ov t ei ((rows.set i.toNat zs).map (List.map f))) s r (by omega) aa (by omega) (fun b p=>by
    rcases p with p | ⟨v,hv,p⟩;cases p
    ·simp only [kf9] at hv;rcases qar.1 hv with rfl | hv;exact .inl (A _ b (qs ..) p)
     ·rcases List.mem_or_eq_of_mem_set hv with hv | rfl;exact .inl (A v b (qo _ hv) p)
      ·exact .inr (ab b p)) (by
   refine ⟨keq _ _,vs.set i.toNat u,kbb _ _,by simpa using H,?_,fun k v xs hv B=>?_,fun k j v1 v2 b h1 h2 am M=>?_⟩;rw [qu,qbp,Q,q];exact k0i R ah ai U aj H O
   ·by_cases hk:i.toNat=k;subst hk;rw [qbk ac] at hv;cases hv;rw [qp,qbk O,qbf] at B;cases B;rw [qu];refine ⟨al ▸ khp c fun b p=>m b fun e=>K ov gb (qs ..) x (by rw [kig p,e]),fun y hy=>?_⟩;obtain ⟨z,_,rfl⟩:=qae.1 hy;exact (hf z).2
    ·rw [List.getElem?_set_ne hk] at hv;rw [qp,List.getElem?_set_ne hk,<- qp] at B;obtain ⟨k1,k2⟩:=af k v xs hv B;exact ⟨khp k1 fun b p=>m b (kyz E (i:=0) (j:=k+1) rfl (by rw [qav];exact hv) (by omega) x b p),k2⟩
   ·have sp:∀ (k:Nat) (v:Value),(ov::vs.set i.toNat u)[k]?=some v->(k=i.toNat+1/\v=u)\/(k≠i.toNat+1/\(ov::vs)[k]?=some v):=fun k v hk=>by
     cases k with
     | zero=>exact .inr ⟨by omega,hk⟩
     | succ k=>
      rw [qav] at hk ⊢;by_cases ad:i.toNat=k;subst ad;rw [qbk ac] at hk;cases hk;exact .inl ⟨rfl,rfl⟩
      ·rw [List.getElem?_set_ne ad] at hk;exact .inr ⟨by omega,hk⟩
    rcases sp k v1 h1 with ⟨e1,d1⟩ | ⟨e1,g1⟩ <;> rcases sp j v2 h2 with ⟨e2,d2⟩ | ⟨e2,g2⟩;omega;exact fun L=>K v2 b (qm g2) L (d1 ▸ M);exact d2 ▸ K v1 b (qm g1) M
    ·exact E k j v1 v2 b g1 g2 am M)
  refine klf (w':=w') ?_ ⟨_,S,c1, .any,⟨by rw [q];rfl,by rw [q];rfl,by rw [q];rfl,by omega,c3⟩,ktb (.inl (by omega)),fun _ h=>h,fun _ h=>h,c2⟩;simp only [execOp,ho,Instr.storeAt,hp,ak,Instr.sureAddr,storeVar,hd.size,Sem.run_bind,Sem.run_pure,Result.andThen_ok];rw [qk (by rw [kpj J,hz];simp)];simp [kpj J,hst]
 ·cases h
end
def noI (id:Nat) (ids:List Nat) (st:St):Bool:=!ids.contains id && (st.tmps.all (fun p=>okA ids p.2) && st.heap.all (fun p=>Nat.beq p.1 id || (ids.contains p.1 && (match p.2 with
 | .box _ cs=>okAs ids cs
 | .frow _ _ _=>true
 | .smap _=>true
 | .tab _ _ _ _ _=>true
 | .gho _ vs=>okAs ids vs
 | .glb _=>true
 | .sit _ _=>true
 | .memo _ _=>true
 | .was _ ids0 _ _=>ids0.all ids.contains))))
section
variable {P:Program} {F S0:Nat->Prop} {N0:Nat} {w w':World} {S S':Nat->Prop} {ψ ψ':Env} {K:Nat->Prop} {T:List (TypeId×TD)} {o:Oper} {a:Act} {st:St} {t:TypeId} {d:TD} {id:Nat} {ids:List Nat} {heap:List (Nat×AObj)}
theorem kza:∀ {l:List (Nat×AV)} {t:Nat},look .any l t = .any\/∃ p∈l,look .any l t=p.2
 | [],_ => .inl rfl
 | (k,v)::l,t=>by
  rw [kcd];split;exact .inr ⟨(k,v),qs ..,rfl⟩
  ·rcases kza (l:=l) (t:=t) with h | ⟨p,hp,h⟩;exact .inl h
   ·exact .inr ⟨p,qo _ hp,h⟩
theorem kw5:∀ {l:List (Nat×AObj)} {t:Nat} {ob:AObj},kae l t=some ob->(t,ob)∈l
 | [],_,_,h=>by cases h
 | (k,v)::l,t,ob,h=>by
  rw [kah] at h;split at h;rename_i hk;cases hk;cases h;exact qs ..
  ·exact qo _ (kw5 h)
theorem k09 (id:Nat) (ids:List Nat) {g:Nat} {ov:Value} {eo ei:TypeId} {rows:List (List Value)} (n:kae st.heap id=some (.tab g ov eo ei rows):=by kernel_rfl) (hn:noI id ids st=true:=by kernel_rfl) (hi:ids.all st.ids.contains=true:=by kernel_rfl):LeSt st { st with heap:=(id, .tab 0 ov eo ei rows)::kci id st.heap }:=by
 intro F S0 N0 ψ S a w hs;unfold noI at hn;simp only [qy,Bool.not_eq_true',qr,Bool.or_eq_true] at hn;obtain ⟨h1,M,N⟩:=hn;have o:id∉ids:=by simpa using h1
 have q:∀ i,i∈ids->i∈st.ids:=fun i E=>by simpa using qr.1 hi i E
 have d:=hs.core;obtain ⟨G,⟨O,vs,r,H,u,y,z⟩,I⟩:=d.obj id _ n;have A:Ext (·∈ids) ψ (ψ.set id 0 (ψ.val id)):=kfq o _ _;have hv:∀ j,(ψ.set id 0 (ψ.val id)).val j=ψ.val j:=fun j=>by
  by_cases B:j=id;subst B;rw [kbb]
  ·exact (kc8 (ψ:=ψ) B _ _).2
 have keepA:∀ {v x},RV ψ (·∈st.ids) S w v x->okA ids x=true->RV (ψ.set id 0 (ψ.val id)) (·∈st.ids) S w v x:=fun {v x} h ho=>
  (h.subA ho).keep A q (fun _ h=>h) (fun _ _ _=>rfl)
 refine ⟨ψ.set id 0 (ψ.val id),S,hs.defers,hs.size,fun t=>?_,⟨fun i ob ho=>?_,fun i i' ob ob' b ho J K k C=>?_,d.lt,d.s0,d.n0,d.fr⟩⟩
 ·have hk:=hs.tmps t;show RV _ _ S w _ (look .any st.tmps t);rcases kza (l:=st.tmps) (t:=t) with h | ⟨p,hp,h⟩;rw [h];exact .any
  ·unfold St.get at hk;rw [h] at hk ⊢;exact keepA hk (M p hp)
 ·rw [kah] at ho;by_cases m:id=i;subst m;rw [qn rfl] at ho;cases ho;exact ⟨G,⟨keq _ _,vs,by rw [kbb,r],H,u,y,z⟩,fun b k=>I b (by rwa [hv] at k)⟩
  ·rw [qk m] at ho;obtain ⟨_,ho⟩:=kc5 id ho;obtain ⟨k1,k2,k3⟩:=d.obj i ob ho;have c:=kc8 (ψ:=ψ) (Ne.symm m) 0 (ψ.val id);refine ⟨k1,?_,fun b k=>k3 b (by rwa [hv] at k)⟩;rcases N _ (kw5 ho) with h | h;exact absurd (qv h) (Ne.symm m)
   ·obtain ⟨hc,h⟩:=h;cases ob with
    | box e cells=>
     obtain ⟨q0,b,cs,q1,q2,q3,q4,q5⟩:=k2;simp only [kjn] at h;exact ⟨by rw [c.1,q0],b,cs,by rw [c.2,q1],q2,q3,q4,fun j v x hv D=>keepA (q5 j v x hv D) (qr.1 h x (qm D))⟩
    | frow e size xs=>
     obtain ⟨q0,q1,cs,q2,q3,q4⟩:=k2;exact ⟨by rw [c.1,q0],q1,cs,by rw [c.2];exact q2,q3,q4⟩
    | sit s pos=>
     obtain ⟨q0,b,q1,q2⟩:=k2;exact ⟨by rw [c.1,q0],b,by rw [c.2,q1],q2⟩
    | glb gs=>
     obtain ⟨q0,q1,q2,q3⟩:=k2;exact ⟨by rw [c.1,q0],by rw [c.2,q1],by rw [c.2,q2],q3⟩
    | smap kv=>
     obtain ⟨q0,b,es,cl,q1,q2⟩:=k2;exact ⟨by rw [c.1,q0],b,es,cl,by rw [c.2,q1],q2⟩
    | memo Φ hi=>
     obtain ⟨q0,b,es,cl,q1,q2⟩:=k2;exact ⟨by rw [c.1,q0],b,es,cl,by rw [c.2,q1],q2⟩
    | tab g ov eo ei rows=>
     obtain ⟨q0,vs,q1,q2⟩:=k2;exact ⟨by rw [c.1,q0],vs,by rw [c.2,q1],q2⟩
    | gho cs vs=>
     obtain ⟨q0,q1,q2,q3⟩:=k2;simp only [kjn] at h;exact ⟨by rw [c.1,q0],by rw [c.2,q1],by rw [c.2,q2],fun j v x hv D=>keepA (q3 j v x hv D) (qr.1 h x (qm D))⟩
    | was ψ0 ids0 S1 w0=>
     obtain ⟨q0,q1,q2,q3,q4,q5,q6⟩:=k2;refine ⟨by rw [c.1,q0],by rw [c.2,q1],by rw [c.2,q2],fun j B=>?_,q4,q5,q6⟩;have L:j∈ids:=(by simpa using qr.1 h j B);have f:=kc8 (ψ:=ψ) (i:=j) (id:=id) (fun e=>o (e ▸ L)) 0 (ψ.val id);rw [f.1,f.2];exact q3 j B
 ·rw [hv] at k C;have up:∀ {i ob},kae ((id,AObj.tab 0 ov eo ei rows)::kci id st.heap) i=some ob->∃ ob',kae st.heap i=some ob':=fun {i ob} h=>by
   rw [kah] at h;split at h;rename_i m;exact ⟨_,m ▸ n⟩
   ·exact ⟨_,(kc5 id h).2⟩
  obtain ⟨o1,g1⟩:=up ho;obtain ⟨o2,g2⟩:=up J;exact d.inj i i' o1 o2 b g1 g2 K k C
theorem kxb {ob:AObj} (h:Core F S0 N0 heap ids ψ S w) (ho:kae heap id=some ob):Core F S0 N0 (kci id heap) ids ψ (fun b=>S b\/Blk (ψ.val id) b) w:=by
 obtain ⟨j,e,f⟩:=h.obj id _ ho;refine ⟨fun k ob hk=>?_,fun k k' o o' b hk c d a g=>?_,fun b a=>?_,fun b a=>?_,h.n0,h.fr⟩
 ·obtain ⟨d,hk⟩:=kc5 id hk;obtain ⟨h1,l,i⟩:=h.obj k ob hk;refine ⟨h1,l.keep Ext.refl (fun _ h=>h) (fun b a => .inl a) (fun _ _ _=>rfl) ⟨rfl,rfl⟩ (fun _ _=>rfl),fun b a=>⟨fun hs=>?_,(i b a).2⟩⟩;rcases hs with hs | hs;exact (i b a).1 hs
  ·exact h.inj k id ob _ b hk ho d a hs
 obtain ⟨_,hk⟩:=kc5 id hk;obtain ⟨_,c⟩:=kc5 id c;exact h.inj k k' o o' b hk c d a g
 ·rcases a with a | a;exact h.lt b a
  ·exact e.lt a
 ·rcases a with a | a;exact h.s0 b a
  ·exact (f b a).2.2
theorem kye (r:List Value) (h:∀ u∈r,u.oneCell'=true):ElR 1 (r.map .atom):=fun x b=>by obtain ⟨u,c,rfl⟩:=qae.1 b;exact ⟨rfl,fun y a=>by simp [FV.cells] at a;subst a;exact h u c⟩
theorem kw1 (r:List Value) (h:∀ u∈r,u.oneCell'=true):RowR S w 1 (r.map .atom) r:=fun i x j v y b hv a=>by
 rw [qp,qt] at b;obtain ⟨u,c,rfl⟩:=b;have d:j=0:=by have:=(qj.1 a).1;simp [FV.cells] at this;exact this
 subst d;simp [FV.cells] at a;subst a;rw [qaz,Nat.add_zero,c] at hv;cases hv;exact .atom (h _ (qm c))
theorem kz2 {g:Nat} {ov:Value} {eo ei:TypeId} {rows:List (List Value)} (h:ObR ψ K S w id (.tab g ov eo ei rows)):RF (fun b=>S b\/Blk (ψ.val id) b) w ov (tabF rows):=by
 obtain ⟨z,vs,e,q,f,m,o⟩:=h;have p:∀ u b,u∈ov::vs->ka1 u=some b->Blk (ψ.val id) b:=fun u b s k=>by rw [e];exact .inr ⟨u,by simpa [kf9] using s,k⟩
 have c:rows.length=(rows.map fun r:List Value=>FV.lst 1 r.length (r.map .atom)).length:=by simp
 have a:∀ (j:Nat) (v:Value) (r:List Value),vs[j]?=some v->rows[j]?=some r->RF (fun b=>S b\/Blk (ψ.val id) b) w v (.lst 1 r.length (r.map .atom)):=fun j v r hv hr=>by obtain ⟨k1,k2⟩:=m j v r hv hr;have:=ks4 (S:=S) (xs:=r.map .atom) (by omega) (by simpa using k1) (kye r k2) (kw1 r k2);rw [qu] at this;exact this.mono fun b k=>k.imp _root_.id fun h=>p v b (qo _ (qm hv)) h
 have n:ElR 1 (rows.map fun r:List Value=>FV.lst 1 r.length (r.map .atom)):=fun x l=>by obtain ⟨r,hr,rfl⟩:=qae.1 l;exact ⟨rfl,fun y d=>by simp [FV.cells] at d;subst d;rfl⟩
 have:=ks4 (S:=fun b=>S b\/Blk (ψ.val id) b) (xs:=rows.map fun r:List Value=>FV.lst 1 r.length (r.map .atom)) (by omega) (by rw [<- c];exact f) n (fun i x j v y l hv d=>by
  rw [qp,qt] at l;obtain ⟨r,hr,rfl⟩:=l;have t:j=0:=by have:=(qj.1 d).1;simp [FV.cells] at this;exact this
  subst t;simp [FV.cells] at d;subst d;rw [qaz,Nat.add_zero] at hv;exact a i v r hv hr)
 rw [<- c] at this;exact this.mono fun b k=>k.elim _root_.id fun h => .inr (p ov b (qs ..) h)
def k3a (st:St) (ov:Value):List Nat->Prop
 | []=>True
 | t::ts=>st.get t = .fz (.atom ov)/\k3a st ov ts
theorem ky7 {g:Nat} {ov:Value} {eo ei:TypeId} {rows:List (List Value)} {y:FV} (id:Nat) (ts:List Nat) (e:k3a st ov ts) (d:kae st.heap id=some (.tab g ov eo ei rows)) (f:y=tabF rows):
  LeSt st { st with tmps:=kre (.fz y) st.tmps ts,heap:=kci id st.heap }:=by
 subst f;intro F S0 N0 ψ S a w hs;have c1:=kxb hs.core d;have c2:=kz2 (hs.core.obj id _ d).2.1;have c:∀ k,RV ψ (·∈st.ids) (fun b=>S b\/Blk (ψ.val id) b) w (a.tmps.getD k undef) (st.get k):=fun k=>(hs.tmps k).mono (fun _ h=>h) fun _ h => .inl h;refine ⟨ψ,_,hs.defers,hs.size,fun k=>?_,c1⟩;show RV ψ (·∈st.ids) _ w (a.tmps.getD k undef) (look .any (kre (.fz (tabF rows)) st.tmps ts) k)
 induction ts with
 | nil=>exact c k
 | cons t ts ih=>
  simp only [kre,kcd];split;rename_i hk;subst hk;have hv:=c t;rw [e.1] at hv;refine .fz ?_;rw [hv.atom];exact c2
  ·exact ih e.2
inductive LendI where
 | row (t id n:Nat) (e:TypeId) (size:Nat) (xs:List FV)
 | tab (t id g:Nat) (ov:Value) (eo ei:TypeId) (rows:List (List Value)) (x:FV)
 | inn (t id g:Nat) (ov:Value) (eo ei:TypeId) (rows:List (List Value)) (i:Nat) (x:FV)
def LendI.ok (st:St):LendI->Prop
 | .row t id n e size xs=>st.get t = .row id n/\kae st.heap id=some (.frow e size xs)/\n=xs.length
 | .tab t id g ov eo ei rows x=>st.get t = .fz (.atom ov)/\kae st.heap id=some (.tab g ov eo ei rows)/\x=tabF rows
 | .inn t id g ov eo ei rows i x=>st.get t = .irow id g (i+1)/\kae st.heap id=some (.tab g ov eo ei rows)/\∃ r,rows[i]?=some r/\x = .lst 1 r.length (r.map .atom)
def LendI.slot:LendI->Nat×AV
 | .row t _ n _ size xs=>(t, .fz (.lst size n xs))
 | .tab t _ _ _ _ _ _ x=>(t, .fz x)
 | .inn t _ _ _ _ _ _ _ x=>(t, .fz x)
def k72 (ls:List LendI) (st:St):St:={ st with tmps:=ls.map LendI.slot++st.tmps }
theorem kzm {e:TypeId} {size:Nat} {xs:List FV} (h:ObR ψ K S w id (.frow e size xs)):RF (fun b=>S b\/Blk (ψ.val id) b) w (ψ.val id) (.lst size xs.length xs):=by obtain ⟨h0,c,cs,a,d,hr⟩:=h;exact (ks4 c a d hr).mono fun b f=>f.imp _root_.id .of
theorem kx5 {SB:Nat->Prop}:∀ (ls:List LendI),(∀ l∈ls,l.ok st)->(∀ t,RV ψ (·∈st.ids) S w (a.tmps.getD t undef) (st.get t))->(∀ id ob,kae st.heap id=some ob->ObR ψ (·∈st.ids) S w id ob)->(∀ id ob,kae st.heap id=some ob->∀ b,(S b\/Blk (ψ.val id) b)->SB b)->(∀ b,S b->SB b) ->
  ∀ t,RV ψ (·∈st.ids) SB w (a.tmps.getD t undef) (look .any (ls.map LendI.slot++st.tmps) t)
 | [],_,ht,_,_,hS,t=>(ht t).mono (fun _ h=>h) hS
 | l::ls,hl,ht,q,c,hS,t=>by
  have f:=hl l (qs ..);have j:=kx5 ls (fun k hk=>hl k (qo _ hk)) ht q c hS t;cases l with
  | row t' id n e size xs=>
   obtain ⟨q1,q2,rfl⟩:=f;show RV ψ (·∈st.ids) SB w _ (look .any ((t',AV.fz (.lst size xs.length xs))::(ls.map LendI.slot++st.tmps)) t);rw [kcd];split
   ·rename_i o;subst o;have hv:=ht t';rw [q1] at hv;have p:=q id _ q2;refine .fz ?_;generalize a.tmps.getD t' undef=u at hv;cases hv with
    | row hK v h1 hv=>
     rw [hv p.1.symm];exact (kzm p).mono (c id _ q2)
   ·exact j
  | tab t' id g ov eo ei rows x=>
   obtain ⟨q1,q2,rfl⟩:=f;show RV ψ (·∈st.ids) SB w _ (look .any ((t',AV.fz (tabF rows))::(ls.map LendI.slot++st.tmps)) t);rw [kcd];split;rename_i o;subst o;have hv:=ht t';rw [q1] at hv;rw [hv.atom];exact .fz ((kz2 (q id _ q2)).mono (c id _ q2))
   ·exact j
  | inn t' id g ov eo ei rows i x=>
   obtain ⟨q1,q2,r,q3,rfl⟩:=f;show RV ψ (·∈st.ids) SB w _ (look .any ((t',AV.fz (.lst 1 r.length (r.map .atom)))::(ls.map LendI.slot++st.tmps)) t);rw [kcd];split
   ·rename_i o;subst o;have hv:=ht t';rw [q1] at hv;obtain ⟨D,vs,d,y,B,z,C⟩:=q id _ q2;have m:i<vs.length:=(by rw [y];exact (qj.1 q3).1);obtain ⟨k1,k2⟩:=z i vs[i] r (qb m) q3;refine .fz ?_;have s:=ks4 (S:=S) (xs:=r.map .atom) (by omega) (by simpa using k1) (kye r k2) (kw1 r k2);rw [qu] at s;have s:=s.mono fun b A=>c id _ q2 b (A.imp _root_.id fun A=>by rw [d];exact .inr ⟨vs[i],by simp only [kf9];exact qo _ (qq m),A⟩);generalize a.tmps.getD t' undef=u at hv;cases hv with
    | irow hK v h1 hv=>
     have:=hv D.symm;rw [d] at this;simp only [kf9,qav] at this;rw [qb m] at this;cases this;exact s
   ·exact j
theorem kaay (ls:List LendI) {c:FV} (hl:∀ l∈ls,l.ok st) (hn:NStep P o (k72 ls st) (.fz c)) (hc:k7j c=true):NStep P o st (.fz c):=by
 intro ψ S a w ht g
 let SB:Nat->Prop:=fun b=>S b\/∃ id ob,kae st.heap id=some ob/\Blk (ψ.val id) b
 have d:∀ id ob,kae st.heap id=some ob->∀ b,(S b\/Blk (ψ.val id) b)->SB b:=fun id ob h b e=>e.imp _root_.id fun e=>⟨id,ob,h,e⟩;refine kna ?_ (hn ψ SB a w (fun t=>?_) fun id ob ho=>?_)
 ·rintro v w' ⟨k,hv⟩;refine ⟨k, .fz ?_⟩;have hv:=hv.inv;cases c with
  | atom u=>cases hv with | atom h=>exact .atom h
  | tup vs=>
   cases hv with
   | tup h hr=>
    refine .tup h fun i v x hv j=>?_;have f:=qr.1 hc x (qm j);have:=hr i v x hv j;cases x with
    | atom u=>cases this with | atom h=>exact .atom h
    | _=>cases f
  | _=>cases hc
 exact kx5 ls hl (fun t=>ht t) g d (fun b h => .inl h) t
 ·exact (g id ob ho).keep Ext.refl (fun _ h=>h) (fun b e => .inl e) (fun _ _ _=>rfl) ⟨rfl,rfl⟩ fun _ _=>rfl
def renX (r:List (Nat×Nat)):AObj->AObj
 | .gho cs vs => .gho cs (kl2 r vs)
 | ob=>renO r ob
def kxz (r:List (Nat×Nat)):List (Nat×AObj)->List (Nat×AObj)
 | []=>[]
 | (k,v)::l=>(rn r k,renX r v)::kxz r l
def kuw (r:List (Nat×Nat)):List (Nat×AV)->List (Nat×AV)
 | []=>[]
 | (k,v)::l=>(k,renA r v)::kuw r l
def renSt (r:List (Nat×Nat)) (st:St):St:={ n:=st.n,tmps:=kuw r st.tmps,heap:=kxz r st.heap,ids:=renI r st.ids,dfr:=st.dfr }
def k7v (r:List (Nat×Nat)) (st:St):Bool:=kvy (renI r st.ids) && st.heap.all (fun p=>match p.2 with
 | .was _ ids0 _ _=>ids0.all (fun i=>Nat.beq (rn r i) i && st.ids.contains i)
 | .box _ cs=>okAs st.ids cs
 | _=>true)
theorem kvl {r:List (Nat×Nat)}:∀ {l:List (Nat×AV)} {t:Nat},look .any (kuw r l) t=renA r (look .any l t)
 | [],_=>rfl
 | (k,v)::l,t=>by
  simp only [kuw,kcd];split;rfl
  ·exact kvl
theorem kl4 {r:List (Nat×Nat)} {j:Nat}:∀ {A:List (Nat×AObj)} {ob:AObj},kae (kxz r A) j=some ob->∃ i o,(i,o)∈A/\kae A i=some o/\rn r i=j/\ob=renX r o
 | [],ob,h=>by cases h
 | (k,v)::A,ob,h=>by
  simp only [kxz] at h;rw [kah] at h;by_cases hk:rn r k=j;rw [qn hk] at h;cases h;exact ⟨k,v,qs ..,by rw [kah,qn rfl],hk,rfl⟩
  ·rw [qk hk] at h;obtain ⟨i,o,h0,h1,a,b⟩:=kl4 h;exact ⟨i,o,qo _ h0,by rw [kah,qk (fun e=>hk (by rw [e,a]))];exact h1,a,b⟩
theorem k45 (r:List (Nat×Nat)) (h:k7v r st=true:=by kernel_rfl):LeSt st (renSt r st):=by
 unfold k7v at h;simp only [qy] at h;obtain ⟨A,d⟩:=h;have d:=qr.1 d;rw [ks5] at A;have inj:=kr0 A;intro F S0 N0 ψ S a w hs
 let ψ':Env:=⟨fun j=>match st.ids.find? (fun k=>Nat.beq (rn r k) j) with | some i=>ψ.len i | none=>0,fun j=>match st.ids.find? (fun k=>Nat.beq (rn r k) j) with | some i=>ψ.val i | none => .nilFunc⟩
 have f:∀ i,i∈st.ids->st.ids.find? (fun k=>Nat.beq (rn r k) (rn r i))=some i:=fun i hi=>by
  cases h:st.ids.find? (fun k=>Nat.beq (rn r k) (rn r i)) with
  | none=>
   rw [List.find?_eq_none] at h;exact absurd (Nat.beq_refl _) (h i hi)
  | some k=>
   have h1:=List.find?_some h;rw [inj k i (List.mem_of_find?_eq_some h) hi (qv h1)]
 have hr:∀ i,i∈st.ids->rn r i∈renI r st.ids/\ψ'.len (rn r i)=ψ.len i/\ψ'.val (rn r i)=ψ.val i:=fun i hi=>by
  refine ⟨by rw [ks5];exact List.mem_map_of_mem hi,?_,?_⟩
  ·show (match st.ids.find? (fun k=>Nat.beq (rn r k) (rn r i)) with | some i=>ψ.len i | none=>0)=_
   rw [f i hi]
  ·show (match st.ids.find? (fun k=>Nat.beq (rn r k) (rn r i)) with | some i=>ψ.val i | none => .nilFunc)=_
   rw [f i hi]
 have c:=hs.core;refine ⟨ψ',S,hs.defers,hs.size,fun t=>?_,⟨fun j ob ho=>?_,fun j j' ob ob' b ho u z q n=>?_,c.lt,c.s0,c.n0,c.fr⟩⟩;show RV ψ' _ S w _ (look .any (kuw r st.tmps) t);rw [kvl];exact (hs.tmps t).ren hr
 ·obtain ⟨i,o,hm,h1,rfl,rfl⟩:=kl4 ho;obtain ⟨k1,k2,k3⟩:=c.obj i o h1;obtain ⟨e1,e2,e3⟩:=hr i k1;have B:=d _ hm;refine ⟨e1,?_,fun b q=>k3 b (by rwa [e3] at q)⟩;cases o with
  | box e cs=>exact k2.ren (ids:=st.ids) hr k1 B
  | frow e s xs=>exact k2.ren (ids:=st.ids) hr k1 rfl
  | smap kv=>exact k2.ren (ids:=st.ids) hr k1 rfl
  | memo Φ hi=>exact k2.ren (ids:=st.ids) hr k1 rfl
  | glb gs=>exact k2.ren (ids:=st.ids) hr k1 rfl
  | sit s pos=>exact k2.ren (ids:=st.ids) hr k1 rfl
  | tab g ov eo ei rows=>exact k2.ren (ids:=st.ids) hr k1 rfl
  | gho cs vs=>
   obtain ⟨q0,q1,q2,q3⟩:=k2;refine ⟨by omega,by rw [e3,q1],by rw [e3,q2],fun j v x hv C=>?_⟩;rw [kjl,qp,qt] at C;obtain ⟨y,D,rfl⟩:=C;exact (q3 j v y hv D).ren hr
  | was ψ0 ids0 S1 w0=>
   obtain ⟨q0,q1,q2,q3,q4,q5,q6⟩:=k2;have l:∀ j,j∈ids0->rn r j=j/\j∈st.ids:=fun j m=>(by have:=qr.1 B j m;simp only [qy] at this;exact ⟨qv this.1,by simpa using this.2⟩);refine ⟨by omega,by rw [e3,q1],by rw [e3,q2],fun j m=>?_,fun j m=>?_,q5,q6⟩;obtain ⟨f1,f2⟩:=l j m;obtain ⟨_,g2,g3⟩:=hr j f2;rw [f1] at g2 g3;rw [g2,g3];exact q3 j m
   ·obtain ⟨f1,f2⟩:=l j m;exact f1 ▸ (hr j f2).1
 ·obtain ⟨i,o,_,h1,rfl,rfl⟩:=kl4 ho;obtain ⟨i',o',_,p,rfl,rfl⟩:=kl4 u;rw [(hr i (c.obj i o h1).1).2.2] at q;rw [(hr i' (c.obj i' o' p).1).2.2] at n;exact c.inj i i' o o' b h1 p (fun e=>z (by rw [e])) q n
theorem kyu {α:Type} {f:α->Value} {enc:α->FV} (h:∀ y,enc y = .atom (f y)) (rows:List (List α)):eL 1 (eL 1 enc) rows=tabF (rows.map (List.map f)):=by have:enc=fun y => .atom (f y):=funext h;subst this;simp [eL,tabF,Function.comp_def]
theorem kyf {t id n:Nat} {e:TypeId} {size:Nat} {xs:List FV} (h1:st.get t = .row id n) (a:kae st.heap id=some (.frow e size xs)) (b:n=xs.length):LendI.ok st (.row t id n e size xs):=⟨h1,a,b⟩
theorem k6h {t id g:Nat} {ov:Value} {eo ei:TypeId} {rows:List (List Value)} {x:FV} (h1:st.get t = .fz (.atom ov)) (a:kae st.heap id=some (.tab g ov eo ei rows)) (b:x=tabF rows):LendI.ok st (.tab t id g ov eo ei rows x):=⟨h1,a,b⟩
theorem k6v {α:Type} {f:α->Value} {enc:α->FV} {t id g:Nat} {ov:Value} {eo ei:TypeId} {rows:List (List α)} {row:List α} {i:Int} (h1:st.get t = .irow id g (i.toNat+1)) (b:kae st.heap id=some (.tab g ov eo ei (rows.map (List.map f)))) (a:idx rows i=some row) (c:∀ y,enc y = .atom (f y)):LendI.ok st (.inn t id g ov eo ei (rows.map (List.map f)) i.toNat (eL 1 enc row)):=by
 refine ⟨h1,b,row.map f,?_,?_⟩
 ·unfold idx at a;split at a;rw [qp,a];rfl
  ·cases a
 ·have:enc=fun y => .atom (f y):=funext c;subst this;simp [eL,Function.comp_def]
theorem krd:∀ l∈([]:List LendI),l.ok st:=fun l h=>by cases h
theorem kpk {l:LendI} {ls:List LendI} (h:l.ok st) (hs:∀ k∈ls,k.ok st):∀ k∈l::ls,k.ok st:=fun k hk=>by
 rcases qar.1 hk with rfl | hk;exact h
 ·exact hs k hk
end
end Go.Proofs.YtpcfkflhnkfjjaaGreat
