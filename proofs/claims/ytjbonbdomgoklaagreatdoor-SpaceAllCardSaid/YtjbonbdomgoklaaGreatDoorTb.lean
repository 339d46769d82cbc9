import Derived.Test.YtjbonbdomgoklaaGreatDoorDrz
import Derived.Laws.CopyRow
import Derived.Laws.IdiomCopy
import Derived.Test.YtjbonbdomgoklaaGreatDoorXb
import Derived.Test.YtjbonbdomgoklaaGreatDoorXj
import Derived.Test.YtjbonbdomgoklaaGreatDoorXg
import Derived.Test.YtjbonbdomgoklaaGreatDoorProg
set_option linter.all false
namespace Go.Proofs.YtjbonbdomgoklaaGreatDoor
open Go Go.RowKit Go.Proofs.Tryz
def k1c (l h n:Int):Option Unit:=if 0<=l/\l<=h/\h<=n then some () else none
theorem kaae {l h n:Int} {u:Unit} (e:k1c l h n=some u):0<=l/\l<=h/\h<=n:=by
 unfold k1c at e;split at e
 ·assumption
 ·cases e
def cpL {α:Type} (xs ys:List α):List α:=xs.take 0++(ys.take (min ys.length xs.length)++xs.drop (0+(ys.take (min ys.length xs.length)).length))
def cpW {α:Type} (xs:List α) (lo hi lo2 hi2:Nat):List α:=xs.take lo++((xs.drop lo2).take (min (hi2 - lo2) (hi - lo))++xs.drop (lo+((xs.drop lo2).take (min (hi2 - lo2) (hi - lo))).length))
section
variable {P:Program} {F S0:Nat->Prop} {N0:Nat} {w w':World} {S S':Nat->Prop} {ψ:Env} {K:Nat->Prop} {T:List (TypeId×TD)} {o:Oper} {a:Act} {st:St} {t:TypeId} {d:TD} {id:Nat}
theorem kaha {α:Type} (enc:α->FV) (xs:List α) (x:Operand) (lo hi:Option Operand) (l h:Option Int) (e:TypeId) (de:TD) (n:Nat) {u:Unit} (hc:k1c (l.getD 0) (h.getD xs.length) xs.length=some u) (B:TOk P T) (hn:n=xs.length) (hl:kpy st lo=some l:=by kernel_rfl) (G:kpy st hi=some h:=by kernel_rfl) (ho:o.op = .slice t x lo hi none:=by kernel_rfl) (E:kag T t=some d:=by kernel_rfl) (hk:d.kind = .slice e:=by kernel_rfl) (q:kag T e=some de:=by kernel_rfl) (r:de.size=1:=by kernel_rfl) (F:st.eval x = .row id n:=by kernel_rfl) (s:kad st.heap id=some (.frow e 1 (xs.map enc)):=by kernel_rfl):NStep P o st (.win id n (l.getD 0).toNat (h.getD xs.length).toNat):=by
 intro ψ S a w ht H;subst hn;have i:=kaae hc;have bl:=kny ht hl;have bh:=kny ht G;have j:=Sim.eval_tmps ht x;rw [F] at j;obtain ⟨b,_,cs,c,_,_⟩:=H id _ s;rw [qs] at b c;have hK:id∈st.ids/\a.eval x=ψ.val id:=by
  generalize a.eval x=u at j;cases j with
  | row hK I h1 hv=>exact ⟨hK,hv b.symm⟩
 obtain ⟨A,cap,f,p,hA⟩:∃ A cap,ψ.val id = .slice A xs.length cap/\xs.length<=cap/\(0<xs.length->∃ g,A=some ⟨g,0,none⟩):=by
  rcases c.2 with ⟨hv,h0⟩ | ⟨g,cap,cur,hv,_,hg,h1,K,C,D⟩;exact ⟨none,0,by rw [hv,h0],by omega,fun h=>by omega⟩
  ·exact ⟨some ⟨g,0,none⟩,cap,hv,h1,fun _=>⟨g,rfl⟩⟩
 have hu:=(B.get E).slice hk;have e1:(Instr.sliceBounds true xs.length cap (lo.map a.eval) (hi.map a.eval) none).run P w = .ok ((l.getD 0).toNat,(h.getD xs.length).toNat,cap) w:=by
  unfold Instr.sliceBounds;have p:(xs.length:Int)<=(cap:Int):=by omega
  rcases bh with ⟨rfl,rfl⟩ | ⟨y,k,n,rfl,rfl,hy⟩
  ·rcases bl with ⟨rfl,rfl⟩ | ⟨y',k',n',rfl,rfl,m⟩;simp
   ·simp only [qaf,Option.getD_none] at i ⊢;simp [Instr.sliceBound,m,asIntOf,i.1,i.2.1]
  ·rcases bl with ⟨rfl,rfl⟩ | ⟨y',k',n',rfl,rfl,m⟩;simp only [qaf,Option.getD_none] at i ⊢;have:n<=(cap:Int):=(by omega);simp [Instr.sliceBound,hy,asIntOf,i.2.1,this]
   ·simp only [qaf] at i ⊢;have:0<=n:=(by omega);have C:n'<=(n.toNat:Int):=(by omega);have D:n<=(cap:Int):=(by omega);simp [Instr.sliceBound,hy,m,asIntOf,i.1,this,C,D];intro hc;exfalso;omega
 have z:(sizeOf e).run P w = .ok 1 w:=by rw [(B.get q).size,r]
 refine kah w (.slice (if cap=(l.getD 0).toNat then A else A.map (·.add ((l.getD 0).toNat*1))) ((h.getD xs.length).toNat - (l.getD 0).toNat) (cap - (l.getD 0).toNat)) ?_ ⟨kaj _, .win hK.1 (by omega) rfl fun _=>⟨by omega,by omega,_,_,rfl,fun J=>?_⟩⟩;simp [execOp,ho,Instr.sliceAt,Instr.slice,run_underlying hu,hK.2,f,e1,z]
 ·obtain ⟨g,rfl⟩:=hA (by omega);refine ⟨g,by rw [f];rfl,?_⟩;rw [qi (by omega)];simp [kcc]
theorem k9v {α:Type} {enc:α->FV} {f:α->Value} {xs:List α} (zs:List α) (lo:Nat) {cap g:Nat} {e:TypeId} {cur:Array Value} (a:Core F S0 N0 st.heap st.ids ψ S w) (p:kad st.heap id=some (.frow e 1 (xs.map enc))) (h:ψ.val id = .slice (some ⟨g,0,none⟩) xs.length cap) (hg:w.heap[g]?=some (.cells cur e (0,0))) (A:xs.length<=cap) (hc2:cap<=maxLen) (B:cur.size=cap) (C:cur.toList.take xs.length=xs.map f) (hf:∀ y,enc y = .atom (f y)/\(f y).oneCell'=true) (J:lo+zs.length<=xs.length):
  Core F S0 N0 ((id, .frow e 1 ((xs.take lo++(zs++xs.drop (lo+zs.length))).map enc))::st.heap) st.ids ψ S (w.setRow g (cur.toList.take lo++zs.map f++cur.toList.drop (lo+(zs.map f).length)).toArray) /\
  Same S w (w.setRow g (cur.toList.take lo++zs.map f++cur.toList.drop (lo+(zs.map f).length)).toArray)/\∀ b,F b->(w.setRow g (cur.toList.take lo++zs.map f++cur.toList.drop (lo+(zs.map f).length)).toArray).heap[b]?=w.heap[b]?:=by
 obtain ⟨K,⟨hl,r,cs,s,L,hr⟩,M⟩:=a.obj id _ p;rw [qs] at hl s;obtain ⟨new,c⟩:∃ new:Array Value,new=(cur.toList.take lo++zs.map f++cur.toList.drop (lo+(zs.map f).length)).toArray:=⟨_,rfl⟩;rw [<- c];have hcl:cur.toList.length=cap:=by rw [qa9,B]
 have D:new.size=cap:=by rw [c];simp only [List.size_toArray,qac,qam,qs,qa3,hcl];omega
 obtain ⟨ys,m⟩:∃ ys,ys=xs.take lo++(zs++xs.drop (lo+zs.length)):=⟨_,rfl⟩;rw [<- m];have o:ys.length=xs.length:=by rw [m];simp only [qac,qam,qa3];omega
 have t:cur.toList=xs.map f++cur.toList.drop xs.length:=by rw [<- C,List.take_append_drop]
 have E:new.toList.take xs.length=ys.map f:=by
  rw [c,m];simp only [qax,List.map_take,List.map_drop,qs];rw [t];have e1:(List.map f xs++List.drop xs.length cur.toList).take lo=(xs.map f).take lo:=by rw [List.take_append_of_le_length (by rw [qs];omega)]
  have e2:(List.map f xs++List.drop xs.length cur.toList).drop (lo+zs.length)=(xs.map f).drop (lo+zs.length)++List.drop xs.length cur.toList:=by rw [List.drop_append_of_le_length (by rw [qs];omega)]
  rw [e1,e2];have e3:((xs.map f).take lo++zs.map f++((xs.map f).drop (lo+zs.length)++List.drop xs.length cur.toList))=((xs.map f).take lo++(zs.map f++(xs.map f).drop (lo+zs.length)))++List.drop xs.length cur.toList:=by simp only [qbi]
  rw [e3,List.take_append_of_le_length (by simp only [qac,qam,qs,qa3];omega),List.take_of_length_le (by simp only [qac,qam,qs,qa3];omega)]
 have u:∀ k,k<w.heap.size->¬ Blk (ψ.val id) k->(w.setRow g new).heap[k]?=w.heap[k]?:=fun k _ hk=>kmo g new k fun e=>hk (.of (by rw [h,e];rfl));have N:(w.setRow g new).heap.size=w.heap.size:=by simp [World.setRow]
 have i:ψ.set id xs.length (ψ.val id)=ψ:=by
  unfold Env.set;congr 1
  ·funext j;split;rename_i x;rw [x,hl]
   ·rfl
  ·funext j;split;rename_i x;rw [x]
   ·rfl
 obtain ⟨c1,c2,c3⟩:=a.upd (n:=xs.length) (v:=ψ.val id) (w':=w.setRow g new) (ob' := .frow e 1 (ys.map enc)) p (by omega) u (.inr ⟨hl,rfl⟩) (fun b O => .inl O) (by
  rw [i];refine ⟨by simp [hl,o],r,ys.map f,?_,fun z d=>?_,fun k z j v q d hv l=>?_⟩;rw [qs,o,h];refine ⟨by rw [qs,o,qbh], .inr ⟨g,cap,new,rfl,qao _,klj g hg,A,hc2,by rw [D,qbh],?_⟩⟩;rw [qbh];exact E;obtain ⟨z0,_,rfl⟩:=qaa.1 d;obtain ⟨h1,G⟩:=hf z0;rw [h1];exact ⟨rfl,fun q l=>by simp [FV.cells] at l;subst l;exact G⟩
  ·obtain ⟨z0,H,rfl⟩:∃ z0,ys[k]?=some z0/\enc z0=z:=(by rw [qq,qw] at d;exact d);obtain ⟨h1,G⟩:=hf z0;have x:j=0:=(by rw [h1] at l;have:=(qh.1 l).1;simp [FV.cells] at this;exact this);subst x;have I:q = .atom (f z0):=(by rw [h1] at l;simp [FV.cells] at l;exact l.symm);subst I;simp only [qbh,Nat.add_zero,qq,H,qba,qe] at hv;subst hv;exact .atom G)
 rw [i] at c1;exact ⟨c1,c2,c3⟩
theorem k8b {v:Value} {id n lo hi:Nat} (h:RV ψ K S w v (.win id n lo hi)) (hn:n=ψ.len id):lo<=hi/\hi<=n/\∃ A cap,v = .slice A (hi - lo) cap/\(lo<hi->∃ b,kau (ψ.val id)=some b/\A=some ⟨b,lo,none⟩):=by
 cases h with
 | win _ _ _ hv=>exact hv hn
theorem kabo {α:Type} (enc:α->FV) (xs:List α) (X Y:Operand) (t1 t2 e:TypeId) (d1 de:TD) (n lo hi lo2 hi2:Nat) (hT:TOk P T) (ho:o.op = .call { callee := .builtin .copy,args:=#[X,Y],argTypes:=#[t1,t2] }) (hd:kag T t1=some d1) (hk:d1.kind = .slice e) (Q:kag T e=some de) (R:de.size=1) (hx:st.eval X = .win id n lo hi) (hy:st.eval Y = .win id n lo2 hi2) (t:kad st.heap id=some (.frow e 1 (xs.map enc))) (hn:n=xs.length) (C:∀ y,∃ u,enc y = .atom u/\u.oneCell'=true):
  StepA P o st (.fz (.atom (.int .i64 (min (hi2 - lo2) (hi - lo):Nat)))) ((id, .frow e 1 ((xs.take lo++((xs.drop lo2).take (min (hi2 - lo2) (hi - lo))++xs.drop (lo+((xs.drop lo2).take (min (hi2 - lo2) (hi - lo))).length))).map enc))::st.heap) st.ids:=by
 subst hn;intro F S0 N0 ψ S a w x;have c:=x.core;obtain ⟨ae,hO,af⟩:=c.obj id _ t;have U:=hO;obtain ⟨hl,ad,cs,m,ag,hr⟩:=U;rw [qs] at hl m;have D:=x.eval X;rw [hx] at D;have E:=x.eval Y;rw [hy] at E;obtain ⟨x1,x2,A1,cap1,G,V⟩:=k8b D hl.symm;obtain ⟨y1,y2,A2,cap2,H,Z⟩:=k8b E hl.symm;have hu:P.underlying t1=some (.slice e):=(hT.get hd).slice hk;have r:(P.info? e).map (·.size)=some 1:=by have:=(hT.get Q).info;rw [R] at this;exact this
 obtain ⟨k,I⟩:∃ k,k=min (hi2 - lo2) (hi - lo):=⟨_,rfl⟩;rw [<- I];have l:((xs.drop lo2).take k).length=k:=by rw [qam,qa3];omega
 by_cases J:k=0
 ·have d:=run_copy_none (P:=P) w t1 t2 o.type e A1 A2 (hi - lo) cap1 (hi2 - lo2) cap2 hu r (by show min _ _=0;omega);have A:xs.take lo++((xs.drop lo2).take k++xs.drop (lo+((xs.drop lo2).take k).length))=xs:=by rw [l,J];simp
  rw [A];have s:ψ.set id xs.length (ψ.val id)=ψ:=by
   unfold Env.set;congr 1
   ·funext j;split;rename_i O;rw [O,hl]
    ·rfl
   ·funext j;split;rename_i O;rw [O]
    ·rfl
  obtain ⟨c1,c2,c3⟩:=c.upd (n:=xs.length) (v:=ψ.val id) (w':=w) (ob' := .frow e 1 (xs.map enc)) t (qx _) (fun _ _ _=>rfl) (.inr ⟨hl,rfl⟩) (fun b K => .inl K) (by rw [s];exact hO);rw [s] at c1;refine kah w (.int .i64 ((k:Nat):Int)) ?_ ⟨ψ,S,c1, .fz (.atom rfl),Fr.refl,Ext.refl,fun _ h=>h,fun _ h=>h,c2⟩;rw [J];simp [execOp,ho,resolve,invoke,builtin,G,H,d,goInt]
 ·obtain ⟨b,K,rfl⟩:=V (by omega);obtain ⟨b2,B,rfl⟩:=Z (by omega);obtain ⟨g,cap,cur,p,hg,aa,hc2,L,ab⟩:=kjj m;have ac:b=g:=by rw [p] at K;simp only [kau,qe] at K;exact K.symm
  have M:b2=g:=by rw [p] at B;simp only [kau,qe] at B;exact B.symm
  subst ac M;obtain ⟨f,hf⟩:∃ f:α->Value,∀ y,enc y = .atom (f y)/\(f y).oneCell'=true:=⟨fun y=>(C y).choose,fun y=>(C y).choose_spec⟩;have N:cur.toList.take xs.length=xs.map f:=by rw [ab];have hcl:cs.length=xs.length:=(by rw [m.1,qbh]);apply List.ext_getElem (by rw [hcl,qs]);intro i h1 h2;rw [qs] at h2;have:=hr i (enc xs[i]) 0 cs[i] (enc xs[i]) (by rw [qq,qb h2];rfl) (by simp) (by rw [(hf xs[i]).1];rfl);rw [(hf xs[i]).1] at this;rw [this.atom_eq,List.getElem_map]
  obtain ⟨c1,c2,c3⟩:=k9v ((xs.drop lo2).take k) lo c t p hg aa hc2 L N hf (by rw [l];omega);have d:=run_copy_row (P:=P) w t1 t2 o.type e b2 lo (hi - lo) cap1 ⟨b2,lo2,none⟩ (hi2 - lo2) cap2 cur e (((xs.drop lo2).take k).map f) hu r hg (by rw [qs,l];exact I) (fun j v hv=>by
   rw [qq,qad] at hv;split at hv
   ·rename_i O;rw [qau] at hv;have q:(xs.map f)[lo2+j]?=some v:=(by rw [qq];exact hv);rw [<- N,qad] at q;split at q;rw [kcc];simp only [World.cell?,hg];rw [qbb] at q;simpa using q
    ·cases q
   ·cases hv) (by rw [qs,l,L];omega) (fun v hv=>by obtain ⟨z,_,rfl⟩:=qaa.1 hv;exact (hf z).2)
  rw [qs,l] at d;refine kah _ (.int .i64 ((k:Nat):Int)) ?_ ⟨ψ,S,c1, .fz (.atom rfl),⟨rfl,rfl,rfl,?_,c3⟩,Ext.refl,fun _ h=>h,fun _ h=>h,c2⟩;rw [qs,l];simp [execOp,ho,resolve,invoke,builtin,G,H,d,goInt]
  ·simp [World.setRow]
theorem kabj {α:Type} (enc:α->FV) (xs ys:List α) (X Y:Operand) (t1 t2 e:TypeId) (d1 de:TD) (n:Nat) (hT:TOk P T) (ho:o.op = .call { callee := .builtin .copy,args:=#[X,Y],argTypes:=#[t1,t2] }) (hd:kag T t1=some d1) (hk:d1.kind = .slice e) (R:kag T e=some de) (U:de.size=1) (hx:st.eval X = .row id n) (hy:kpz (st.eval Y)=some (ys.map enc)) (t:kad st.heap id=some (.frow e 1 (xs.map enc))) (hn:n=xs.length) (E:∀ y,∃ u,enc y = .atom u/\u.oneCell'=true):
  StepA P o st (.fz (.atom (.int .i64 (min ys.length xs.length:Nat)))) ((id, .frow e 1 ((xs.take 0++(ys.take (min ys.length xs.length)++xs.drop (0+(ys.take (min ys.length xs.length)).length))).map enc))::st.heap) st.ids:=by
 subst hn;intro F S0 N0 ψ S a w x;have c:=x.core;obtain ⟨ai,hO,aj⟩:=c.obj id _ t;have V:=hO;obtain ⟨hl,ag,cs,d,ak,hr⟩:=V;rw [qs] at hl d;have A:=x.eval X;rw [hx] at A;have G:a.eval X=ψ.val id:=by
  generalize a.eval X=u at A;cases A with
  | row hK al h1 hv=>exact hv hl.symm
 obtain ⟨_,_,size,m,hm,_,Z⟩:=kw5 (x.eval Y) hy;obtain ⟨A2,cap2,news,H,aa,_,_,I,ah,J,K,L⟩:=krh Z;rw [qs] at hm aa I;subst hm;have hu:P.underlying t1=some (.slice e):=(hT.get hd).slice hk;have q:(P.info? e).map (·.size)=some 1:=by have:=(hT.get R).info;rw [U] at this;exact this
 obtain ⟨k,M⟩:∃ k,k=min ys.length xs.length:=⟨_,rfl⟩;rw [<- M];have p:(ys.take k).length=k:=by rw [qam];omega
 by_cases N:k=0
 ·obtain ⟨A1,cap1,ab⟩:∃ A1 cap1,ψ.val id = .slice A1 xs.length cap1:=by
   rcases d.2 with ⟨hv,h0⟩ | ⟨g,cap,cur,hv,_⟩;exact ⟨none,0,by rw [hv,h0]⟩
   ·exact ⟨_,_,hv⟩
  have l:=run_copy_none (P:=P) w t1 t2 o.type e A1 A2 xs.length cap1 ys.length cap2 hu q (by show min _ _=0;omega);have B:xs.take 0++(ys.take k++xs.drop (0+(ys.take k).length))=xs:=by rw [p,N];simp
  rw [B];have r:ψ.set id xs.length (ψ.val id)=ψ:=by
   unfold Env.set;congr 1
   ·funext j;split;rename_i hj;rw [hj,hl]
    ·rfl
   ·funext j;split;rename_i hj;rw [hj]
    ·rfl
  obtain ⟨c1,c2,c3⟩:=c.upd (n:=xs.length) (v:=ψ.val id) (w':=w) (ob' := .frow e 1 (xs.map enc)) t (qx _) (fun _ _ _=>rfl) (.inr ⟨hl,rfl⟩) (fun b hb => .inl hb) (by rw [r];exact hO);rw [r] at c1;refine kah w (.int .i64 ((k:Nat):Int)) ?_ ⟨ψ,S,c1, .fz (.atom rfl),Fr.refl,Ext.refl,fun _ h=>h,fun _ h=>h,c2⟩;rw [N];simp [execOp,ho,resolve,invoke,builtin,G,ab,H,l,goInt]
 ·obtain ⟨g,cap,cur,s,hg,ac,hc2,O,ae⟩:=kjj d;obtain ⟨f,hf⟩:∃ f:α->Value,∀ y,enc y = .atom (f y)/\(f y).oneCell'=true:=⟨fun y=>(E y).choose,fun y=>(E y).choose_spec⟩;have hs1:size=1:=by have h0:0<ys.length:=(by omega);have:=(K (enc ys[0]) (qaa.2 ⟨_,qn h0,rfl⟩)).1;rw [(hf ys[0]).1] at this;exact this.symm
  subst hs1;have C:news=ys.map f:=by apply List.ext_getElem (by rw [I,qs,qbh]);intro i h1 Q;rw [qs] at Q;have:=J i (enc ys[i]) 0 news[i] (enc ys[i]) (by rw [qq,qb Q];rfl) (by simp) (by rw [(hf ys[i]).1];rfl);rw [(hf ys[i]).1] at this;rw [this.atom_eq,List.getElem_map]
  have af:cur.toList.take xs.length=xs.map f:=by rw [ae];have hcl:cs.length=xs.length:=(by rw [d.1,qbh]);apply List.ext_getElem (by rw [hcl,qs]);intro i h1 Q;rw [qs] at Q;have:=hr i (enc xs[i]) 0 cs[i] (enc xs[i]) (by rw [qq,qb Q];rfl) (by simp) (by rw [(hf xs[i]).1];rfl);rw [(hf xs[i]).1] at this;rw [this.atom_eq,List.getElem_map]
  obtain ⟨ad,rfl,D⟩:∃ ad,A2=some ad/\∀ j u,news[j]?=some u->w.cell? (ad.add j)=some u:=by
   rcases L with ⟨_,h⟩ | ⟨h,_⟩ | h;have:=congrArg List.length h;rw [qs,qbx] at this;omega;have:=congrArg List.length h;rw [qs,qbx] at this;omega
   ·exact h
  obtain ⟨c1,c2,c3⟩:=k9v (ys.take k) 0 c t s hg ac hc2 O af hf (by rw [p];omega);have l:=run_copy_row (P:=P) w t1 t2 o.type e g 0 xs.length cap ad ys.length cap2 cur e ((ys.take k).map f) hu q hg (by rw [qs,p];exact M) (fun j v hv=>by
   rw [qq,qad] at hv;split at hv;exact D j v (by rw [C,qq];exact hv)
   ·cases hv) (by rw [qs,p,O];omega) (fun v hv=>by obtain ⟨z,_,rfl⟩:=qaa.1 hv;exact (hf z).2)
  rw [qs,p] at l;refine kah _ (.int .i64 ((k:Nat):Int)) ?_ ⟨ψ,S,c1, .fz (.atom rfl),⟨rfl,rfl,rfl,?_,c3⟩,Ext.refl,fun _ h=>h,fun _ h=>h,c2⟩;rw [qs,p];simp [execOp,ho,resolve,invoke,builtin,G,s,H,l,goInt]
  ·simp [World.setRow]
end
def vI (x:Int):Value := .int .i64 x
def tabF (rows:List (List Value)):FV := .lst 1 rows.length (rows.map fun r => .lst 1 r.length (r.map .atom))
def kagm:FV->Bool
 | .atom _=>true
 | .tup vs=>vs.all fun x=>match x with
  | .atom _=>true
  | _=>false
 | _=>false
section
variable {P:Program} {F S0:Nat->Prop} {N0:Nat} {w w':World} {S S':Nat->Prop} {ψ ψ':Env} {K:Nat->Prop} {T:List (TypeId×TD)} {o:Oper} {a:Act} {st:St} {t:TypeId} {d:TD} {id:Nat} {ids:List Nat} {heap:List (Nat×AObj)}
theorem l_tab {ops:Array Oper} {l:List Oper} {Q:Exit->St->Prop} {X Y:Operand} {n:Int} {eo:TypeId} (ei:TypeId) {de:TD} {k k':IntKind} (ho:o.op = .makeSlice t X Y) (Z:TOk P T) (G:kag T t=some d) (hk:d.kind = .slice eo) (x:kag T eo=some de) (H:de.size=1) (I:de.zero=[.slice none 0 0]) (J:st.eval X = .fz (.atom (.int k n))) (hy:st.eval Y = .fz (.atom (.int k' n))) (h0:0<=n) (m:(de.bytes:Int)*n<=281474976710656) (K:n<=9223372036854775807) (p:st.ids.contains id=false) (hg:kb9 ops st o=some true) (L:∀ t,o.dst=some t->t<st.n) (h:∀ ov,awpL P ops l (({ st with heap:=(id, .tab 0 ov eo ei (List.replicate n.toNat []))::st.heap,ids:=id::st.ids }:St).put o.dst (.fz (.atom ov))) Q):awpL P ops (o::l) st Q:=by
 have p:id∉st.ids:=by simpa using p
 have G:=Z.get G;have x:=Z.get x;intro F S0 N0 ψ S a w hs;have q:=hs.eval X;rw [J] at q;have q:=q.atom;have r:=hs.eval Y;rw [hy] at r;have r:=r.atom;obtain ⟨⟨i,z',hi,M,N,hz,O⟩,_⟩:=x;have g:=hs.core;have hcl:z'.cells=#[.slice none 0 0]:=by apply qbv;rw [O,I]
 have hr:=run_make (P:=P) w t eo i z' (G.slice hk) hi hz k k' n n h0 (Int.le_refl _) (by rw [N];exact m) K;rw [M,H,hcl,qbh] at hr;obtain ⟨w1,y⟩:∃ w1,w1=w.alloc (.cells (madeCells #[.slice none 0 0] n.toNat) eo):=⟨_,rfl⟩;have z:Grow w w1:=y ▸ kbl _ _;obtain ⟨ov,s⟩:∃ ov:Value,ov = .slice (some ⟨w.heap.size,0,none⟩) n.toNat n.toNat:=⟨_,rfl⟩;have U:(madeCells #[.slice none 0 0] n.toNat).toList=List.replicate n.toNat (.slice none 0 0):=toList_madeCells_one _ _;obtain ⟨vs,A⟩:∃ vs:List Value,vs=List.replicate n.toNat (.slice none 0 0):=⟨_,rfl⟩;have B:w1.ownsRow 0 eo 1 ov n.toNat vs:=by have:=World.ownsRow_lit (base:=0) (size:=1) (e:=eo) w (madeCells #[.slice none 0 0] n.toNat) n.toNat (qao _) (by unfold maxLen;omega) (by rw [size_madeCells,qbh]);rw [U,<- A,<- s,<- y] at this;exact this
 have f:∀ (j:Nat) (v:Value),vs[j]?=some v->v = .slice none 0 0:=fun j v hv=>by have:=qp hv;rw [A,qb8] at this;exact this.2
 have hO:ObR (ψ.set id 0 (.tuple (ov::vs).toArray)) (·∈id::st.ids) S w1 id (.tab 0 ov eo ei (List.replicate n.toNat [])):=by
  refine ⟨kcl _ _,vs,kap _ _,by rw [A];simp,by simpa using B,fun j v xs hv J=>?_,fun i j u v b hu hv V C D=>?_⟩;rw [f j v hv];have:=qp J;rw [qb8] at this;rw [this.2];exact ⟨⟨rfl, .inl ⟨rfl,rfl⟩⟩,fun u hu=>by cases hu⟩
  ·cases i with
   | zero=>cases j with
    | zero=>exact V rfl
    | succ j=>rw [qa4] at hv;rw [f j v hv] at D;cases D
   | succ i=>rw [qa4] at hu;rw [f i u hu] at C;cases C
 have hc:=g.addB z p (n:=0) (v := .tuple (ov::vs).toArray) (fun b m=>by
  rcases m with m | ⟨u,hu,m⟩;cases m
  ·simp only [ki6] at hu;rcases qan.1 hu with rfl | hu;rw [s] at m;simp [kau] at m;omega
   ·obtain ⟨i,hi,rfl⟩:=qal.1 hu;rw [f i _ (qb hi)] at m;cases m) hO
 unfold wpList;rw [khg hs hg];refine .inl (khn (R:=fun v w'=>v=ov/\w'=w1) ?_ ?_);rintro v w' ⟨rfl,rfl⟩;have E:=hs.put (st':={ st with heap:=(id, .tab 0 v eo ei (List.replicate n.toNat []))::st.heap,ids:=id::st.ids }) (d:=o.dst) (v:=v) (c := .fz (.atom v)) rfl rfl rfl hc (.fz (.atom (by rw [s];rfl))) (kb5 p _ _) (fun _ h=>qk _ h) (fun _ h=>h) (Same.of_grow z) L;exact kdf (fun e a' w'' k=>k.pre (Fr.of_grow g.fr z)) _ _ _ (h v F S0 N0 _ S _ w' E)
 ·refine kah w1 ov ?_ ⟨rfl,rfl⟩;rw [y,s];simp [execOp,ho,q,r,hr]
theorem kaiz {g:Nat} {ov:Value} {eo ei:TypeId} {rows:List (List Value)} (h:ObR ψ K S w id (.tab g ov eo ei rows)):∃ A cap,ov = .slice A rows.length cap:=by
 obtain ⟨_,vs,_,_,b,_⟩:=h;rcases b.2 with ⟨a,c⟩ | ⟨g,cap,cur,a,_⟩;exact ⟨none,0,by rw [a,c]⟩
 ·exact ⟨some ⟨g,0,none⟩,cap,a⟩
theorem k6x (x:Operand) (e2:TypeId) (g:Nat) (ov:Value) (eo ei:TypeId) (rows:List (List Value)) (n:Nat) (e:TOk P T) (hk:d.kind = .slice e2) (hn:n=rows.length) (ho:o.op = .call { callee := .builtin .len,args:=#[x],argTypes:=#[t] }:=by kernel_rfl) (f:kag T t=some d:=by kernel_rfl) (h:st.eval x = .fz (.atom ov):=by kernel_rfl) (b:kad st.heap id=some (.tab g ov eo ei rows):=by kernel_rfl):
  NStep P o st (.fz (.atom (.int .i64 n))):=by
 subst hn;intro ψ S a w c i;have h0:=Sim.eval_tmps c x;rw [h] at h0;have h0:=h0.atom;obtain ⟨A,cap,hv⟩:=kaiz (i id _ b);rw [hv] at h0;refine kah w (.int .i64 rows.length) ?_ ⟨kaj _, .fz (.atom rfl)⟩;simp [execOp,ho,resolve,invoke,builtin,Builtin.len_,run_underlying ((e.get f).slice hk),h0,goInt]
theorem kpd (t:TypeId) (d:TD) (id:Nat) {α:Type} (f:α->Value) (rows:List (List α)) (row:List α) (i:Int) (X Y:Operand) (e:TypeId) (de:TD) (k:IntKind) (g:Nat) (ov:Value) (ei:TypeId) (h:idx rows i=some row) (u:TOk P T:=by exact kae) (ho:o.op = .indexAddr t X Y:=by kernel_rfl) (q:kag T t=some d:=by kernel_rfl) (hk:d.kind = .slice e:=by kernel_rfl) (l:kag T e=some de:=by kernel_rfl) (y:de.size=1:=by kernel_rfl) (z:st.eval X = .fz (.atom ov):=by kernel_rfl) (r:kad st.heap id=some (.tab g ov e ei (rows.map (List.map f))):=by kernel_rfl) (hK:st.ids.contains id=true:=by kernel_rfl) (hy:st.eval Y = .fz (.atom (.int k i)):=by kernel_rfl):NStep P o st (.iref id g 0 i.toNat):=by
 intro ψ S a w ht A;have q:=u.get q;have l:=u.get l;unfold idx at h;split at h
 ·rename_i h0;have B:i.toNat<rows.length:=(qh.1 h).1;have b:=Sim.eval_tmps ht X;rw [z] at b;have b:=b.atom;have c:=Sim.eval_tmps ht Y;rw [hy] at c;have c:=c.atom;obtain ⟨hg,vs,m,s,j,C,x⟩:=A id _ r;rw [qs] at s j;obtain ⟨gb,cap,cur,n,D,_⟩:=kjj j;refine kah w (.pointer (some ⟨gb,i.toNat,none⟩)) ?_ ⟨kaj _, .iref (by simpa using hK) (by omega) rfl fun _=>⟨ov,gb,by rw [m];rfl,by rw [n];rfl,rfl⟩⟩;have p:i<(rows.length:Int):=by omega
  simp [execOp,ho,b,n,c,Instr.indexAt,asIntOf,run_underlying (q.slice hk),h0,p,l.size,y,kcc]
 ·cases h
theorem ktu (t:TypeId) (d:TD) (id:Nat) {α:Type} (f:α->Value) (rows:List (List α)) (row:List α) (i:Int) (X:Operand) (g:Nat) (ov:Value) (ei:TypeId) (h:idx rows i=some row) (y:TOk P T:=by exact kae) (ho:o.op = .load t X:=by kernel_rfl) (n:kag T t=some d:=by kernel_rfl) (hk:d.kind.agg=false:=by kernel_rfl) (z:st.eval X = .iref id g 0 i.toNat:=by kernel_rfl) (p:kad st.heap id=some (.tab g ov t ei (rows.map (List.map f))):=by kernel_rfl) (hK:st.ids.contains id=true:=by kernel_rfl):NStep P o st (.irow id g (i.toNat+1)):=by
 intro ψ S a w ht A;have n:=y.get n;unfold idx at h;split at h
 ·rename_i h0;have B:i.toNat<rows.length:=(qh.1 h).1;have j:=Sim.eval_tmps ht X;rw [z] at j;obtain ⟨hg,vs,e,q,c,r,x⟩:=A id _ p;rw [qs] at q c;obtain ⟨gb,cap,cur,m,C,D,hc2,E,F⟩:=kjj c;have hp:a.eval X = .pointer (some ⟨gb,i.toNat,none⟩):=by
   generalize a.eval X=u at j;cases j with
   | iref hK G h1 hv=>
    obtain ⟨u,b,hu,s,rfl⟩:=hv hg.symm;rw [e] at hu;simp only [ki6,List.getElem?_cons_zero,qe] at hu;subst hu;rw [m] at s;simp only [kau,qe] at s;rw [s]
  have k:vs[i.toNat]?=some (vs[i.toNat]'(by omega)):=qb _;have l:w.cell? ⟨gb,i.toNat,none⟩=some (vs[i.toNat]'(by omega)):=by rw [m] at c;rw [World.ownsRow.cellAt c i.toNat (by omega),k]
  obtain ⟨k1,_⟩:=r i.toNat _ (row.map f) k (by rw [qq,h];rfl);refine kah w (vs[i.toNat]'(by omega)) ?_ ⟨kaj _, .irow (by simpa using hK) (by omega) (k2b k1) fun _=>by rw [e];simp only [ki6,qa4];exact k⟩;simp [execOp,ho,hp,Instr.loadAt,Instr.sureAddr,loadVar,n.isAgg,hk,l]
 ·cases h
theorem k20 {α:Type} {f:α->Value} {rows:List (List α)} {row:List α} {i:Int} {g:Nat} {ov:Value} {eo ei:TypeId} (h:idx rows i=some row) (l:ObR ψ K S w id (.tab g ov eo ei (rows.map (List.map f)))):
  ∃ v vs,ψ.len id=g/\ψ.val id = .tuple (ov::vs).toArray/\(ki6 (ψ.val id))[i.toNat+1]?=some v/\vs[i.toNat]?=some v/\w.ownsRow 0 ei 1 v row.length (row.map f)/\rows[i.toNat]?=some row/\∀ u∈row.map f,u.oneCell'=true:=by
 unfold idx at h;split at h
 ·obtain ⟨hg,vs,a,c,j,d,k⟩:=l;have e:i.toNat<rows.length:=(qh.1 h).1;have b:i.toNat<vs.length:=by rw [c];simpa using e
  obtain ⟨k1,k2⟩:=d i.toNat vs[i.toNat] (row.map f) (qb b) (by rw [qq,h];rfl);rw [qs] at k1;exact ⟨vs[i.toNat],vs,hg,a,by rw [a];simp only [ki6,qa4];exact qb b,qb b,k1,h,k2⟩
 ·cases h
theorem ktg (t:TypeId) (d:TD) (id:Nat) {α:Type} (f:α->Value) (rows:List (List α)) (row:List α) (x:α) (i j:Int) (X Y:Operand) (e:TypeId) (de:TD) (k:IntKind) (g:Nat) (ov:Value) (eo:TypeId) (h:idx rows i=some row) (s:idx row j=some x) (A:TOk P T:=by exact kae) (ho:o.op = .indexAddr t X Y:=by kernel_rfl) (y:kag T t=some d:=by kernel_rfl) (hk:d.kind = .slice e:=by kernel_rfl) (c:kag T e=some de:=by kernel_rfl) (C:de.size=1:=by kernel_rfl) (D:st.eval X = .irow id g (i.toNat+1):=by kernel_rfl) (z:kad st.heap id=some (.tab g ov eo e (rows.map (List.map f))):=by kernel_rfl) (hK:st.ids.contains id=true:=by kernel_rfl) (hy:st.eval Y = .fz (.atom (.int k j)):=by kernel_rfl):NStep P o st (.iref id g (i.toNat+1) j.toNat):=by
 intro ψ S a w ht E;have y:=A.get y;have c:=A.get c;obtain ⟨v,vs,hg,B,m,F,n,hr,_⟩:=k20 h (E id _ z);unfold idx at s;split at s
 ·rename_i h0;have G:j.toNat<row.length:=(qh.1 s).1;have l:=Sim.eval_tmps ht X;rw [D] at l;have b:=Sim.eval_tmps ht Y;rw [hy] at b;have b:=b.atom;obtain ⟨gb,cap,cur,p,H,_⟩:=kjj n;have q:a.eval X = .slice (some ⟨gb,0,none⟩) row.length cap:=by
   generalize a.eval X=u at l;cases l with
   | irow hK hn h1 hv=>
    have:=hv hg.symm;rw [m] at this;rw [<- qas this,p]
  refine kah w (.pointer (some ⟨gb,j.toNat,none⟩)) ?_ ⟨kaj _, .iref (by simpa using hK) (by omega) rfl fun _=>⟨v,gb,m,by rw [p];rfl,rfl⟩⟩;have r:j<(row.length:Int):=by omega
  simp [execOp,ho,q,b,Instr.indexAt,asIntOf,run_underlying (y.slice hk),h0,r,c.size,C,kcc]
 ·cases s
theorem k2y {X:Operand} {g i j b:Nat} {v:Value} (c:RV ψ K S w (a.eval X) (.iref id g i j)) (hg:ψ.len id=g) (hv:(ki6 (ψ.val id))[i]?=some v) (f:kau v=some b):a.eval X = .pointer (some ⟨b,j,none⟩):=by
 generalize a.eval X=u at c;cases c with
 | iref hK hn h1 e=>
  obtain ⟨u,b',hu,d,rfl⟩:=e hg.symm;rw [hv] at hu;cases hu;rw [f] at d;cases d;rfl
theorem k3d {α:Type} (f:α->Value) (rows:List (List α)) (row:List α) (x:α) (i j:Int) (X:Operand) (g:Nat) (ov:Value) (eo:TypeId) (h:idx rows i=some row) (e:idx row j=some x) (s:TOk P T) (ho:o.op = .load t X:=by kernel_rfl) (n:kag T t=some d:=by kernel_rfl) (hk:d.kind.agg=false:=by kernel_rfl) (u:st.eval X = .iref id g (i.toNat+1) j.toNat:=by kernel_rfl) (p:kad st.heap id=some (.tab g ov eo t (rows.map (List.map f))):=by kernel_rfl):NStep P o st (.fz (.atom (f x))):=by
 intro ψ S a w ht y;have n:=s.get n;obtain ⟨v,vs,hg,r,q,z,b,hr,k⟩:=k20 h (y id _ p);unfold idx at e;split at e
 ·rename_i h0;have A:j.toNat<row.length:=(qh.1 e).1;obtain ⟨gb,cap,cur,l,B,C,hc2,D,E⟩:=kjj b;have m:=Sim.eval_tmps ht X;rw [u] at m;have hp:=k2y m hg q (by rw [l];rfl);have c:w.cell? ⟨gb,j.toNat,none⟩=some (f x):=by rw [l] at b;rw [World.ownsRow.cellAt b j.toNat (by omega),qq,e];rfl
  refine kah w (f x) ?_ ⟨kaj _, .fz (.atom (k _ (List.mem_map_of_mem (qp e))))⟩;simp [execOp,ho,hp,Instr.loadAt,Instr.sureAddr,loadVar,n.isAgg,hk,c]
 ·cases e
end
section
variable {P:Program} {F S0:Nat->Prop} {N0:Nat} {w w':World} {S S':Nat->Prop} {ψ ψ':Env} {K:Nat->Prop} {T:List (TypeId×TD)} {o:Oper} {a:Act} {st:St} {t:TypeId} {d:TD} {id:Nat} {ids:List Nat} {heap:List (Nat×AObj)}
theorem kafp {n:Nat} (hl:ψ.len id=n):ψ.set id n (ψ.val id)=ψ:=by
 unfold Env.set;congr 1
 ·funext j;split;rename_i a;rw [a,hl]
  ·rfl
 ·funext j;split;rename_i a;rw [a]
  ·rfl
theorem k75 {e:TypeId} {n cap g j:Nat} {cs:List Value} {cur:Array Value} {u:Value} (hg:w.heap[g]?=some (.cells cur e (0,0))) (a:n<=cap) (hc2:cap<=maxLen) (b:cur.size=cap) (c:cur.toList.take n=cs) (hcl:cs.length=n) (d:j<n):
  (w.setRow g (cur.toList.set j u).toArray).ownsRow 0 e 1 (.slice (some ⟨g,0,none⟩) n cap) n (cs.set j u):=
 ⟨by rw [qbk,hcl,qbh], .inr ⟨g,cap,_,rfl,qao _,klj g hg,a,hc2,by simp [b],by rw [qbh,List.take_set,c]⟩⟩
theorem k7v {e:TypeId} {cur:Array Value} {g:Nat} (j:Nat) (u:Value) (hg:w.heap[g]?=some (.cells cur e (0,0))) (b:j<cur.size) (a:u.oneCell'=true):
  (storeCells ⟨g,j,none⟩ [u] 0).run P w = .ok () (w.setRow g (cur.toList.set j u).toArray):=by
 have hst:=run_storeCells_at (P:=P) g j e [u] 0 cur w hg (by simp;omega) (fun v hv=>by simp at hv;rw [hv];exact a);have:(cur.toList.take (j+0)++[u]++cur.toList.drop (j+0+[u].length))=cur.toList.set j u:=by rw [List.set_eq_take_append_cons_drop,ql (by simpa using b)];simp
 rw [this] at hst;exact hst
theorem kt5 {u:Value} (h:u.oneCell'=true):u.cells=#[u]:=by cases u <;> first | rfl | cases h
theorem k6f {vs:List Value} {i j b:Nat} {u v:Value} (h:∀ (i j:Nat) (u v:Value) (b:Nat),vs[i]?=some u->vs[j]?=some v->i≠j->kau u=some b->kau v≠some b) (hi:vs[i]?=some u) (c:vs[j]?=some v) (a:i≠j) (d:kau u=some b):
  ∀ k,v.ownBlock=some k->k≠b:=fun k hk e=>h i j u v b hi c a d (by rw [kl3 hk,e])
theorem k1m {α:Type} (f:α->Value) (rows:List (List α)) (row:List α) (x y:α) (i j:Int) (X Y:Operand) (g:Nat) (ov:Value) (eo:TypeId) (h:idx rows i=some row) (U:idx row j=some x) (hT:TOk P T) (ho:o.op = .store t X Y:=by kernel_rfl) (V:kag T t=some d:=by kernel_rfl) (hz:d.size=1:=by kernel_rfl) (hx:st.eval X = .iref id g (i.toNat+1) j.toNat:=by kernel_rfl) (H:kad st.heap id=some (.tab g ov eo t (rows.map (List.map f))):=by kernel_rfl) (hy:st.eval Y = .fz (.atom (f y)):=by kernel_rfl):StepA P o st .any ((id, .tab g ov eo t ((rows.set i.toNat (row.set j.toNat y)).map (List.map f)))::st.heap) st.ids:=by
 intro F S0 N0 ψ S a w G;have V:=hT.get V;have m:=G.core;obtain ⟨ag,hO,ah⟩:=m.obj id _ H;obtain ⟨v,vs,hg,p,Z,A,I,hr,J⟩:=k20 h hO;obtain ⟨_,vs',q,aa,r,ab,s⟩:=hO;obtain rfl:vs'=vs:=by rw [p] at q;simpa using q.symm
 unfold idx at U;split at U
 ·rename_i h0;have ac:j.toNat<row.length:=(qh.1 U).1;obtain ⟨gb,cap,cur,K,L,ad,hc2,M,ae⟩:=kjj I;have N:=G.eval X;rw [hx] at N;have B:kau v=some gb:=by rw [K];rfl
  have hp:=k2y N hg Z B;have z:=G.eval Y;rw [hy] at z;have C:(f y).oneCell'=true:=by have O:=z.inv;generalize a.eval Y=u at O;cases O with | atom h=>exact h
  have z:=z.atom;have hst:=k7v (P:=P) j.toNat (f y) L (by rw [M];omega) C;obtain ⟨w',l⟩:∃ w',w'=w.setRow gb (cur.toList.set j.toNat (f y)).toArray:=⟨_,rfl⟩;rw [<- l] at hst;have c:∀ k,k≠gb->w'.heap[k]?=w.heap[k]?:=fun k hk=>by rw [l];exact kmo gb _ k hk
  have ai:w'.heap.size=w.heap.size:=by rw [l];simp [World.setRow]
  have hB:Blk (ψ.val id) gb:=by rw [p];exact .inr ⟨v,by simp only [ki6];exact qk _ (qp A),B⟩
  have Q:∀ k,k<w.heap.size->¬ Blk (ψ.val id) k->w'.heap[k]?=w.heap[k]?:=fun k _ hk=>c k fun e=>hk (e ▸ hB);have E:=kafp (ψ:=ψ) (id:=id) hg;obtain ⟨c1,c2,c3⟩:=m.upd (n:=g) (v:=ψ.val id) (w':=w') (ob' := .tab g ov eo t ((rows.set i.toNat (row.set j.toNat y)).map (List.map f))) H (by omega) Q (.inr ⟨hg,rfl⟩) (fun b R => .inl R) (by
   rw [E];refine ⟨hg,vs',p,by simpa using aa,?_,fun k u xs hu D=>?_,s⟩;rw [qs,qbk];rw [qs] at r;exact kke r fun b R=>c b (k6f s (i:=i.toNat+1) (j:=0) (by rw [qa4];exact A) rfl (by omega) B b R)
   ·by_cases hk:i.toNat=k
    ·subst hk;rw [A] at hu;cases hu;have af:i.toNat<rows.length:=(qh.1 hr).1;rw [qq,qbr af,qba] at D;cases D;rw [List.map_set];refine ⟨?_,fun u hu=>?_⟩;rw [qbk,qs,K,l];exact k75 L ad hc2 M ae (by simp) ac
     ·rcases List.mem_or_eq_of_mem_set hu with hu | rfl;exact J u hu
      ·exact C
    ·rw [qq,qbw hk,<- qq] at D;obtain ⟨k1,k2⟩:=ab k u xs hu D;exact ⟨kke k1 fun b R=>c b (k6f s (i:=i.toNat+1) (j:=k+1) (by rw [qa4];exact A) (by rw [qa4];exact hu) (by omega) B b R),k2⟩)
  rw [E] at c1;refine kld w' ?_ ⟨ψ,S,c1, .any,⟨by rw [l];rfl,by rw [l];rfl,by rw [l];rfl,by omega,c3⟩,Ext.refl,fun _ h=>h,fun _ h=>h,c2⟩;simp only [execOp,ho,Instr.storeAt,hp,z,Instr.sureAddr,storeVar,V.size,Sem.run_bind,Sem.run_pure,Result.andThen_ok];rw [qi (by rw [kt5 C,hz];simp)];simp [kt5 C,hst]
 ·cases U
theorem Core.upd2 {n id2:Nat} {v:Value} {ob ob2 ob':AObj} (h:Core F S0 N0 heap ids ψ S w) (ho:kad heap id=some ob) (t:kad heap id2=some ob2) (q:w.heap.size<=w'.heap.size) (m:∀ k,k<w.heap.size->¬ Blk (ψ.val id) k->w'.heap[k]?=w.heap[k]?)
  (E:ψ.len id<n) (p:∀ b,Blk v b->Blk (ψ.val id) b\/Blk (ψ.val id2) b) (G:ObR (ψ.set id n v) (·∈ids) S w' id ob'):
  Core F S0 N0 ((id,ob')::kdb id2 heap) ids (ψ.set id n v) S w'/\Same S w w'/\∀ b,F b->w'.heap[b]?=w.heap[b]?:=by
 obtain ⟨y,H,r⟩:=h.obj id ob ho;obtain ⟨B,C,u⟩:=h.obj id2 ob2 t;have hk:Same S w w':=fun b p hl=>m b hl fun e=>(r b e).1 p;refine ⟨⟨fun i o' c=>?_,fun i i' o' o'' b j a s g d=>?_,fun b p=>qbn (h.lt b p) q,h.s0,qag h.n0 q,fun b p=>qbn (h.fr b p) q⟩,hk,fun b hf=>m b (h.fr b hf) fun e=>(r b e).2.1 hf⟩
 ·rw [kai] at c;by_cases o:id=i
  ·subst o;rw [ql rfl] at c;injection c with c;subst c;refine ⟨y,G,fun b f=>?_⟩;rw [kap] at f;rcases p b f with h1 | h1;exact r b h1
   ·exact u b h1
  ·rw [qi o] at c;obtain ⟨_,c⟩:=kds id2 c;obtain ⟨h1,D,I⟩:=h.obj i o' c;have x:=kei ψ (Ne.symm o) n v;refine ⟨h1,D.keep (ku3 (.inl E)) (fun _ h=>h) (fun _ h=>h) hk x fun b f=>m b (D.lt f) fun e=>h.inj i id o' ob b c ho (Ne.symm o) f e,fun b f=>I b (by rw [x.2] at f;exact f)⟩
 ·have key:∀ {i' o''},id≠i'->kad (kdb id2 heap) i'=some o''->∀ {b},Blk v b->¬ Blk ((ψ.set id n v).val i') b:=fun {i' o''} l hl {b} g d=>by
   obtain ⟨z,hl⟩:=kds id2 hl;rw [(kei ψ (Ne.symm l) n v).2] at d;rcases p b g with A | A;exact h.inj id i' ob o'' b ho hl l A d
   ·exact h.inj id2 i' ob2 o'' b t hl (Ne.symm z) A d
  rw [kai] at j a;by_cases o:id=i;subst o;rw [qi s] at a;rw [kap] at g;exact key s a g d
  ·rw [qi o] at j;by_cases l:id=i';subst l;rw [kap] at d;exact key o j d g
   ·rw [qi l] at a;obtain ⟨_,j⟩:=kds id2 j;obtain ⟨_,a⟩:=kds id2 a;rw [(kei ψ (Ne.symm o) n v).2] at g;rw [(kei ψ (Ne.symm l) n v).2] at d;exact h.inj i i' o' o'' b j a s g d
theorem k1y {α:Type} (f:α->Value) (enc:α->FV) (rows:List (List α)) (row zs:List α) (i:Int) (X Y:Operand) (g id2 n:Nat) (ov:Value) (ei:TypeId) (h:idx rows i=some row) (hT:TOk P T) (hn:n=zs.length) (hf:∀ y,enc y = .atom (f y)/\(f y).oneCell'=true) (ho:o.op = .store t X Y:=by kernel_rfl) (hd:kag T t=some d:=by kernel_rfl) (hz:d.size=1:=by kernel_rfl) (hx:st.eval X = .iref id g 0 i.toNat:=by kernel_rfl) (s:kad st.heap id=some (.tab g ov t ei (rows.map (List.map f))):=by kernel_rfl) (hy:st.eval Y = .row id2 n:=by kernel_rfl) (r:kad st.heap id2=some (.frow ei 1 (zs.map enc)):=by kernel_rfl):
  StepA P o st .any ((id, .tab (g+1) ov t ei ((rows.set i.toNat zs).map (List.map f)))::kdb id2 st.heap) st.ids:=by
 subst hn;intro F S0 N0 ψ S a w G;have hd:=hT.get hd;have l:=G.core;have ad:id≠id2:=fun e=>by rw [e,r] at s;cases s
 obtain ⟨an,⟨hg,vs,C,H,D,ae,E⟩,ao⟩:=l.obj id _ s;obtain ⟨al,⟨N,_,cs,c,_,af⟩,am⟩:=l.obj id2 _ r;rw [qs] at H D N c;unfold idx at h;split at h
 ·rename_i h0;have O:i.toNat<rows.length:=(qh.1 h).1;obtain ⟨gb,cap,cur,Q,R,ag,hc2,U,ah⟩:=kjj D;have x:kau ov=some gb:=by rw [Q];rfl
  have V:=G.eval X;rw [hx] at V;have hp:=k2y V hg (v:=ov) (by rw [C];rfl) x;have I:=G.eval Y;rw [hy] at I;obtain ⟨u,hu⟩:∃ u,u=ψ.val id2:=⟨_,rfl⟩;have ai:a.eval Y=u:=by
   rw [hu];generalize a.eval Y=u at I;cases I with
   | row hK aq h1 hv=>exact hv N.symm
  rw [<- hu] at c;have J:u.oneCell'=true:=k2b c;have aj:cs=zs.map f:=by have hcl:cs.length=zs.length:=(by rw [c.1,qbh]);apply List.ext_getElem (by rw [hcl,qs]);intro k h1 h2;rw [qs] at h2;have:=af k (enc zs[k]) 0 cs[k] (enc zs[k]) (by rw [qq,qb h2];rfl) (by simp) (by rw [(hf zs[k]).1];rfl);rw [(hf zs[k]).1] at this;rw [this.atom_eq,List.getElem_map]
  have hst:=k7v (P:=P) i.toNat u R (by rw [U];omega) J;obtain ⟨w',q⟩:∃ w',w'=w.setRow gb (cur.toList.set i.toNat u).toArray:=⟨_,rfl⟩;rw [<- q] at hst;have m:∀ k,k≠gb->w'.heap[k]?=w.heap[k]?:=fun k hk=>by rw [q];exact kmo gb _ k hk
  have ar:w'.heap.size=w.heap.size:=by rw [q];simp [World.setRow]
  have A:∀ u b,u∈ov::vs->kau u=some b->Blk (ψ.val id) b:=fun u b hu p=>by rw [C];exact .inr ⟨u,by simpa [ki6] using hu,p⟩
  have hB:Blk (ψ.val id) gb:=A ov gb (qo ..) x;have Z:∀ k,k<w.heap.size->¬ Blk (ψ.val id) k->w'.heap[k]?=w.heap[k]?:=fun k _ hk=>m k fun e=>hk (e ▸ hB);have aa:∀ b,kau u=some b->Blk (ψ.val id2) b:=fun b p => .of (hu ▸ p);have K:∀ v b,v∈ov::vs->kau v=some b->kau u≠some b:=fun v b hv p L=>l.inj id id2 _ _ b s r ad (A v b hv p) (aa b L);have ab:i.toNat<vs.length:=by omega
  obtain ⟨c1,c2,c3⟩:=l.upd2 (n:=g+1) (v := .tuple (ov::vs.set i.toNat u).toArray) (w':=w') (ob' := .tab (g+1) ov t ei ((rows.set i.toNat zs).map (List.map f))) s r (by omega) Z (by omega) (fun b p=>by
    rcases p with p | ⟨v,hv,p⟩;cases p
    ·simp only [ki6] at hv;rcases qan.1 hv with rfl | hv;exact .inl (A _ b (qo ..) p)
     ·rcases List.mem_or_eq_of_mem_set hv with hv | rfl;exact .inl (A v b (qk _ hv) p)
      ·exact .inr (aa b p)) (by
   refine ⟨kcl _ _,vs.set i.toNat u,kap _ _,by simpa using H,?_,fun k v xs hv B=>?_,fun k j v1 v2 b h1 h2 ak M=>?_⟩;rw [qs,qbk,Q,q];exact k75 R ag hc2 U ah H O
   ·by_cases hk:i.toNat=k;subst hk;rw [qbr ab] at hv;cases hv;rw [qq,qbr O,qba] at B;cases B;rw [qs];refine ⟨aj ▸ kke c fun b p=>m b fun e=>K ov gb (qo ..) x (by rw [kl3 p,e]),fun y hy=>?_⟩;obtain ⟨z,_,rfl⟩:=qaa.1 hy;exact (hf z).2
    ·rw [qbw hk] at hv;rw [qq,qbw hk,<- qq] at B;obtain ⟨k1,k2⟩:=ae k v xs hv B;exact ⟨kke k1 fun b p=>m b (k6f E (i:=0) (j:=k+1) rfl (by rw [qa4];exact hv) (by omega) x b p),k2⟩
   ·have sp:∀ (k:Nat) (v:Value),(ov::vs.set i.toNat u)[k]?=some v->(k=i.toNat+1/\v=u)\/(k≠i.toNat+1/\(ov::vs)[k]?=some v):=fun k v hk=>by
     cases k with
     | zero=>exact .inr ⟨by omega,hk⟩
     | succ k=>
      rw [qa4] at hk ⊢;by_cases ac:i.toNat=k;subst ac;rw [qbr ab] at hk;cases hk;exact .inl ⟨rfl,rfl⟩
      ·rw [qbw ac] at hk;exact .inr ⟨by omega,hk⟩
    rcases sp k v1 h1 with ⟨e1,d1⟩ | ⟨e1,g1⟩ <;> rcases sp j v2 h2 with ⟨e2,d2⟩ | ⟨e2,g2⟩;omega;exact fun L=>K v2 b (qp g2) L (d1 ▸ M);exact d2 ▸ K v1 b (qp g1) M
    ·exact E k j v1 v2 b g1 g2 ak M)
  refine kld w' ?_ ⟨_,S,c1, .any,⟨by rw [q];rfl,by rw [q];rfl,by rw [q];rfl,by omega,c3⟩,ku3 (.inl (by omega)),fun _ h=>h,fun _ h=>h,c2⟩;simp only [execOp,ho,Instr.storeAt,hp,ai,Instr.sureAddr,storeVar,hd.size,Sem.run_bind,Sem.run_pure,Result.andThen_ok];rw [qi (by rw [kt5 J,hz];simp)];simp [kt5 J,hst]
 ·cases h
end
def noI (id:Nat) (ids:List Nat) (st:St):Bool:=!ids.contains id && (st.tmps.all (fun p=>okA ids p.2) && st.heap.all (fun p=>Nat.beq p.1 id || (ids.contains p.1 && (match p.2 with
 | .box _ cs=>okAs ids cs
 | .frow _ _ _=>true
 | .smap _=>true
 | .tab _ _ _ _ _=>true
 | .gho _ vs=>okAs ids vs
 | .glb _=>true
 | .sit _ _=>true
 | .memo _ _=>true
 | .xo _=>false
 | .was _ ids0 _ _=>ids0.all ids.contains))))
section
variable {P:Program} {F S0:Nat->Prop} {N0:Nat} {w w':World} {S S':Nat->Prop} {ψ ψ':Env} {K:Nat->Prop} {T:List (TypeId×TD)} {o:Oper} {a:Act} {st:St} {t:TypeId} {d:TD} {id:Nat} {ids:List Nat} {heap:List (Nat×AObj)}
theorem k6u:∀ {l:List (Nat×AV)} {t:Nat},look .any l t = .any\/∃ p∈l,look .any l t=p.2
 | [],_ => .inl rfl
 | (k,v)::l,t=>by
  rw [kbf];split;exact .inr ⟨(k,v),qo ..,rfl⟩
  ·rcases k6u (l:=l) (t:=t) with h | ⟨p,hp,h⟩;exact .inl h
   ·exact .inr ⟨p,qk _ hp,h⟩
theorem k3o:∀ {l:List (Nat×AObj)} {t:Nat} {ob:AObj},kad l t=some ob->(t,ob)∈l
 | [],_,_,h=>by cases h
 | (k,v)::l,t,ob,h=>by
  rw [kai] at h;split at h;rename_i hk;cases hk;cases h;exact qo ..
  ·exact qk _ (k3o h)
theorem k9l (id:Nat) (ids:List Nat) (g:Nat) (ov:Value) (eo ei:TypeId) (rows:List (List Value)) (o:kad st.heap id=some (.tab g ov eo ei rows):=by kernel_rfl) (hn:noI id ids st=true:=by kernel_rfl) (hi:ids.all st.ids.contains=true:=by kernel_rfl):LeSt st { st with heap:=(id, .tab 0 ov eo ei rows)::kdb id st.heap }:=by
 intro F S0 N0 ψ S a w hs;unfold noI at hn;simp only [qv,qcb,qr,qb9] at hn;obtain ⟨h1,N,O⟩:=hn;have q:id∉ids:=by simpa using h1
 have r:∀ i,i∈ids->i∈st.ids:=fun i G=>by simpa using qr.1 hi i G
 have d:=hs.core;obtain ⟨H,⟨hg,vs,u,I,y,z,A⟩,J⟩:=d.obj id _ o;have B:Ext (·∈ids) ψ (ψ.set id 0 (ψ.val id)):=kb5 q _ _;have hv:∀ j,(ψ.set id 0 (ψ.val id)).val j=ψ.val j:=fun j=>by
  by_cases C:j=id;subst C;rw [kap]
  ·exact (kei ψ C _ _).2
 have keepA:∀ {v x},RV ψ (·∈st.ids) S w v x->okA ids x=true->RV (ψ.set id 0 (ψ.val id)) (·∈st.ids) S w v x:=fun {v x} h ho=>
  (h.subA ho).keep B r (fun _ h=>h) (fun _ _ _=>rfl)
 refine ⟨ψ.set id 0 (ψ.val id),S,hs.defers,hs.size,fun t=>?_,⟨fun i ob ho=>?_,fun i i' ob ob' b ho K L m D=>?_,d.lt,d.s0,d.n0,d.fr⟩⟩
 ·have hk:=hs.tmps t;show RV _ _ S w _ (look .any st.tmps t);rcases k6u (l:=st.tmps) (t:=t) with h | ⟨p,hp,h⟩;rw [h];exact .any
  ·unfold St.get at hk;rw [h] at hk ⊢;exact keepA hk (N p hp)
 ·rw [kai] at ho;by_cases n:id=i;subst n;rw [ql rfl] at ho;cases ho;exact ⟨H,⟨kcl _ _,vs,by rw [kap,u],I,y,z,A⟩,fun b m=>J b (by rwa [hv] at m)⟩
  ·rw [qi n] at ho;obtain ⟨_,ho⟩:=kds id ho;obtain ⟨k1,k2,k3⟩:=d.obj i ob ho;have c:=kei ψ (Ne.symm n) 0 (ψ.val id);refine ⟨k1,?_,fun b m=>k3 b (by rwa [hv] at m)⟩;rcases O _ (k3o ho) with h | h;exact absurd (qm h) (Ne.symm n)
   ·obtain ⟨hc,h⟩:=h;cases ob with
    | box e cells=>
     obtain ⟨q0,b,cs,q1,q2,q3,q4,q5⟩:=k2;simp only [km3] at h;exact ⟨by rw [c.1,q0],b,cs,by rw [c.2,q1],q2,q3,q4,fun j v x hv E=>keepA (q5 j v x hv E) (qr.1 h x (qp E))⟩
    | frow e size xs=>
     obtain ⟨q0,q1,cs,q2,q3,q4⟩:=k2;exact ⟨by rw [c.1,q0],q1,cs,by rw [c.2];exact q2,q3,q4⟩
    | sit s pos=>
     obtain ⟨q0,b,q1,q2⟩:=k2;exact ⟨by rw [c.1,q0],b,by rw [c.2,q1],q2⟩
    | glb gs=>
     obtain ⟨q0,q1,q2,q3⟩:=k2;exact ⟨by rw [c.1,q0],by rw [c.2,q1],by rw [c.2,q2],q3⟩
    | smap kv=>
     obtain ⟨q0,b,es,cl,q1,q2⟩:=k2;exact ⟨by rw [c.1,q0],b,es,cl,by rw [c.2,q1],q2⟩
    | xo k=>cases h
    | memo Φ hi=>
     obtain ⟨q0,b,es,cl,q1,q2⟩:=k2;exact ⟨by rw [c.1,q0],b,es,cl,by rw [c.2,q1],q2⟩
    | tab g ov eo ei rows=>
     obtain ⟨q0,vs,q1,q2⟩:=k2;exact ⟨by rw [c.1,q0],vs,by rw [c.2,q1],q2⟩
    | gho cs vs=>
     obtain ⟨q0,q1,q2,q3⟩:=k2;simp only [km3] at h;exact ⟨by rw [c.1,q0],by rw [c.2,q1],by rw [c.2,q2],fun j v x hv E=>keepA (q3 j v x hv E) (qr.1 h x (qp E))⟩
    | was ψ0 ids0 S1 w0=>
     obtain ⟨q0,q1,q2,q3,q4,q5,q6⟩:=k2;refine ⟨by rw [c.1,q0],by rw [c.2,q1],by rw [c.2,q2],fun j C=>?_,q4,q5,q6⟩;have M:j∈ids:=(by simpa using qr.1 h j C);have f:=kei (id:=id) (i:=j) ψ (fun e=>q (e ▸ M)) 0 (ψ.val id);rw [f.1,f.2];exact q3 j C
 ·rw [hv] at m D;have up:∀ {i ob},kad ((id,AObj.tab 0 ov eo ei rows)::kdb id st.heap) i=some ob->∃ ob',kad st.heap i=some ob':=fun {i ob} h=>by
   rw [kai] at h;split at h;rename_i n;exact ⟨_,n ▸ o⟩
   ·exact ⟨_,(kds id h).2⟩
  obtain ⟨o1,g1⟩:=up ho;obtain ⟨o2,g2⟩:=up K;exact d.inj i i' o1 o2 b g1 g2 L m D
theorem k3s {ob:AObj} (h:Core F S0 N0 heap ids ψ S w) (ho:kad heap id=some ob):Core F S0 N0 (kdb id heap) ids ψ (fun b=>S b\/Blk (ψ.val id) b) w:=by
 obtain ⟨j,e,f⟩:=h.obj id _ ho;refine ⟨fun k ob hk=>?_,fun k k' o o' b hk c d a g=>?_,fun b a=>?_,fun b a=>?_,h.n0,h.fr⟩
 ·obtain ⟨d,hk⟩:=kds id hk;obtain ⟨h1,l,i⟩:=h.obj k ob hk;refine ⟨h1,l.keep Ext.refl (fun _ h=>h) (fun b a => .inl a) (fun _ _ _=>rfl) ⟨rfl,rfl⟩ (fun _ _=>rfl),fun b a=>⟨fun hs=>?_,(i b a).2⟩⟩;rcases hs with hs | hs;exact (i b a).1 hs
  ·exact h.inj k id ob _ b hk ho d a hs
 obtain ⟨_,hk⟩:=kds id hk;obtain ⟨_,c⟩:=kds id c;exact h.inj k k' o o' b hk c d a g
 ·rcases a with a | a;exact h.lt b a
  ·exact e.lt a
 ·rcases a with a | a;exact h.s0 b a
  ·exact (f b a).2.2
theorem k5p (r:List Value) (h:∀ u∈r,u.oneCell'=true):ElR 1 (r.map .atom):=fun x a=>by obtain ⟨u,hu,rfl⟩:=qaa.1 a;exact ⟨rfl,fun y hy=>by simp [FV.cells] at hy;subst hy;exact h u hu⟩
theorem k3h (r:List Value) (h:∀ u∈r,u.oneCell'=true):RowR S w 1 (r.map .atom) r:=fun i x j v y a hv hy=>by
 rw [qq,qw] at a;obtain ⟨u,hu,rfl⟩:=a;have b:j=0:=by have:=(qh.1 hy).1;simp [FV.cells] at this;exact this
 subst b;simp [FV.cells] at hy;subst hy;rw [qbh,Nat.add_zero,hu] at hv;cases hv;exact .atom (h _ (qp hu))
theorem k7u {g:Nat} {ov:Value} {eo ei:TypeId} {rows:List (List Value)} (h:ObR ψ K S w id (.tab g ov eo ei rows)):RF (fun b=>S b\/Blk (ψ.val id) b) w ov (tabF rows):=by
 obtain ⟨hg,vs,d,p,e,l,n⟩:=h;have o:∀ u b,u∈ov::vs->kau u=some b->Blk (ψ.val id) b:=fun u b hu f=>by rw [d];exact .inr ⟨u,by simpa [ki6] using hu,f⟩
 have c:rows.length=(rows.map fun r:List Value=>FV.lst 1 r.length (r.map .atom)).length:=by simp
 have a:∀ (j:Nat) (v:Value) (r:List Value),vs[j]?=some v->rows[j]?=some r->RF (fun b=>S b\/Blk (ψ.val id) b) w v (.lst 1 r.length (r.map .atom)):=fun j v r hv hr=>by obtain ⟨k1,k2⟩:=l j v r hv hr;have:=kyc (S:=S) (r.map .atom) (by simpa using k1) (k5p r k2) (k3h r k2);rw [qs] at this;exact this.mono fun b f=>f.imp _root_.id fun h=>o v b (qk _ (qp hv)) h
 have m:ElR 1 (rows.map fun r:List Value=>FV.lst 1 r.length (r.map .atom)):=fun x k=>by obtain ⟨r,hr,rfl⟩:=qaa.1 k;exact ⟨rfl,fun y hy=>by simp [FV.cells] at hy;subst hy;rfl⟩
 have:=kyc (S:=fun b=>S b\/Blk (ψ.val id) b) (rows.map fun r:List Value=>FV.lst 1 r.length (r.map .atom)) (by rw [<- c];exact e) m (fun i x j v y k hv hy=>by
  rw [qq,qw] at k;obtain ⟨r,hr,rfl⟩:=k;have q:j=0:=by have:=(qh.1 hy).1;simp [FV.cells] at this;exact this
  subst q;simp [FV.cells] at hy;subst hy;rw [qbh,Nat.add_zero] at hv;exact a i v r hv hr)
 rw [<- c] at this;exact this.mono fun b f=>f.elim _root_.id fun h => .inr (o ov b (qo ..) h)
def kabu (st:St) (ov:Value):List Nat->Prop
 | []=>True
 | t::ts=>st.get t = .fz (.atom ov)/\kabu st ov ts
theorem k6r (g:Nat) (ov:Value) (eo ei:TypeId) (rows:List (List Value)) (y:FV) (id:Nat) (ts:List Nat) (e:kabu st ov ts) (d:kad st.heap id=some (.tab g ov eo ei rows)) (hy:y=tabF rows):
  LeSt st { st with tmps:=kwa (.fz y) st.tmps ts,heap:=kdb id st.heap }:=by
 subst hy;intro F S0 N0 ψ S a w hs;have c1:=k3s hs.core d;have c2:=k7u (hs.core.obj id _ d).2.1;have c:∀ k,RV ψ (·∈st.ids) (fun b=>S b\/Blk (ψ.val id) b) w (a.tmps.getD k undef) (st.get k):=fun k=>(hs.tmps k).mono (fun _ h=>h) fun _ h => .inl h;refine ⟨ψ,_,hs.defers,hs.size,fun k=>?_,c1⟩;show RV ψ (·∈st.ids) _ w (a.tmps.getD k undef) (look .any (kwa (.fz (tabF rows)) st.tmps ts) k)
 induction ts with
 | nil=>exact c k
 | cons t ts ih=>
  simp only [kwa,kbf];split;rename_i hk;subst hk;have hv:=c t;rw [e.1] at hv;refine .fz ?_;rw [hv.atom];exact c2
  ·exact ih e.2
inductive LendI where
 | row (t id n:Nat) (e:TypeId) (size:Nat) (xs:List FV)
 | tab (t id g:Nat) (ov:Value) (eo ei:TypeId) (rows:List (List Value)) (x:FV)
 | inn (t id g:Nat) (ov:Value) (eo ei:TypeId) (rows:List (List Value)) (i:Nat) (x:FV)
def LendI.ok (st:St):LendI->Prop
 | .row t id n e size xs=>st.get t = .row id n/\kad st.heap id=some (.frow e size xs)/\n=xs.length
 | .tab t id g ov eo ei rows x=>st.get t = .fz (.atom ov)/\kad st.heap id=some (.tab g ov eo ei rows)/\x=tabF rows
 | .inn t id g ov eo ei rows i x=>st.get t = .irow id g (i+1)/\kad st.heap id=some (.tab g ov eo ei rows)/\∃ r,rows[i]?=some r/\x = .lst 1 r.length (r.map .atom)
def LendI.slot:LendI->Nat×AV
 | .row t _ n _ size xs=>(t, .fz (.lst size n xs))
 | .tab t _ _ _ _ _ _ x=>(t, .fz x)
 | .inn t _ _ _ _ _ _ _ x=>(t, .fz x)
def kahb (ls:List LendI) (st:St):St:={ st with tmps:=ls.map LendI.slot++st.tmps }
theorem k7b {e:TypeId} {size:Nat} {xs:List FV} (h:ObR ψ K S w id (.frow e size xs)):RF (fun b=>S b\/Blk (ψ.val id) b) w (ψ.val id) (.lst size xs.length xs):=by obtain ⟨h0,c,cs,a,d,hr⟩:=h;exact (kyc _ a d hr (f:=c)).mono fun b f=>f.imp _root_.id .of
theorem k48 {SB:Nat->Prop}:∀ (ls:List LendI),(∀ l∈ls,l.ok st)->(∀ t,RV ψ (·∈st.ids) S w (a.tmps.getD t undef) (st.get t))->(∀ id ob,kad st.heap id=some ob->ObR ψ (·∈st.ids) S w id ob)->(∀ id ob,kad st.heap id=some ob->∀ b,(S b\/Blk (ψ.val id) b)->SB b)->(∀ b,S b->SB b) ->
  ∀ t,RV ψ (·∈st.ids) SB w (a.tmps.getD t undef) (look .any (ls.map LendI.slot++st.tmps) t)
 | [],_,ht,_,_,hS,t=>(ht t).mono (fun _ h=>h) hS
 | l::ls,hl,ht,q,c,hS,t=>by
  have f:=hl l (qo ..);have j:=k48 ls (fun k hk=>hl k (qk _ hk)) ht q c hS t;cases l with
  | row t' id n e size xs=>
   obtain ⟨q1,q2,rfl⟩:=f;show RV ψ (·∈st.ids) SB w _ (look .any ((t',AV.fz (.lst size xs.length xs))::(ls.map LendI.slot++st.tmps)) t);rw [kbf];split
   ·rename_i o;subst o;have hv:=ht t';rw [q1] at hv;have p:=q id _ q2;refine .fz ?_;generalize a.tmps.getD t' undef=u at hv;cases hv with
    | row hK v h1 hv=>
     rw [hv p.1.symm];exact (k7b p).mono (c id _ q2)
   ·exact j
  | tab t' id g ov eo ei rows x=>
   obtain ⟨q1,q2,rfl⟩:=f;show RV ψ (·∈st.ids) SB w _ (look .any ((t',AV.fz (tabF rows))::(ls.map LendI.slot++st.tmps)) t);rw [kbf];split;rename_i o;subst o;have hv:=ht t';rw [q1] at hv;rw [hv.atom];exact .fz ((k7u (q id _ q2)).mono (c id _ q2))
   ·exact j
  | inn t' id g ov eo ei rows i x=>
   obtain ⟨q1,q2,r,q3,rfl⟩:=f;show RV ψ (·∈st.ids) SB w _ (look .any ((t',AV.fz (.lst 1 r.length (r.map .atom)))::(ls.map LendI.slot++st.tmps)) t);rw [kbf];split
   ·rename_i o;subst o;have hv:=ht t';rw [q1] at hv;obtain ⟨hg,vs,d,y,B,z,C⟩:=q id _ q2;have m:i<vs.length:=(by rw [y];exact (qh.1 q3).1);obtain ⟨k1,k2⟩:=z i vs[i] r (qb m) q3;refine .fz ?_;have s:=kyc (S:=S) (r.map .atom) (by simpa using k1) (k5p r k2) (k3h r k2);rw [qs] at s;have s:=s.mono fun b A=>c id _ q2 b (A.imp _root_.id fun A=>by rw [d];exact .inr ⟨vs[i],by simp only [ki6];exact qk _ (qn m),A⟩);generalize a.tmps.getD t' undef=u at hv;cases hv with
    | irow hK v h1 hv=>
     have:=hv hg.symm;rw [d] at this;simp only [ki6,qa4] at this;rw [qb m] at this;cases this;exact s
   ·exact j
theorem kak2 (ls:List LendI) {c:FV} (hl:∀ l∈ls,l.ok st) (hn:NStep P o (kahb ls st) (.fz c)) (hc:kagm c=true):NStep P o st (.fz c):=by
 intro ψ S a w ht g
 let SB:Nat->Prop:=fun b=>S b\/∃ id ob,kad st.heap id=some ob/\Blk (ψ.val id) b
 have d:∀ id ob,kad st.heap id=some ob->∀ b,(S b\/Blk (ψ.val id) b)->SB b:=fun id ob h b e=>e.imp _root_.id fun e=>⟨id,ob,h,e⟩;refine kpj ?_ (hn ψ SB a w (fun t=>?_) fun id ob ho=>?_)
 ·rintro v w' ⟨hg,hv⟩;refine ⟨hg, .fz ?_⟩;have hv:=hv.inv;cases c with
  | atom u=>cases hv with | atom h=>exact .atom h
  | tup vs=>
   cases hv with
   | tup h hr=>
    refine .tup h fun i v x hv j=>?_;have f:=qr.1 hc x (qp j);have:=hr i v x hv j;cases x with
    | atom u=>cases this with | atom h=>exact .atom h
    | _=>cases f
  | _=>cases hc
 exact k48 ls hl (fun t=>ht t) g d (fun b h => .inl h) t
 ·exact (g id ob ho).keep Ext.refl (fun _ h=>h) (fun b e => .inl e) (fun _ _ _=>rfl) ⟨rfl,rfl⟩ fun _ _=>rfl
def renX (r:List (Nat×Nat)):AObj->AObj
 | .gho cs vs => .gho cs (kqw r vs)
 | ob=>renO r ob
def k4s (r:List (Nat×Nat)):List (Nat×AObj)->List (Nat×AObj)
 | []=>[]
 | (k,v)::l=>(rn r k,renX r v)::k4s r l
def k0j (r:List (Nat×Nat)):List (Nat×AV)->List (Nat×AV)
 | []=>[]
 | (k,v)::l=>(k,renA r v)::k0j r l
def renSt (r:List (Nat×Nat)) (st:St):St:={ n:=st.n,tmps:=k0j r st.tmps,heap:=k4s r st.heap,ids:=renI r st.ids,dfr:=st.dfr }
def kag2 (r:List (Nat×Nat)) (st:St):Bool:=k1v (renI r st.ids) && st.heap.all (fun p=>match p.2 with
 | .was _ ids0 _ _=>ids0.all (fun i=>Nat.beq (rn r i) i && st.ids.contains i)
 | .box _ cs=>okAs st.ids cs
 | .xo _=>false
 | _=>true)
theorem k1d {r:List (Nat×Nat)}:∀ {l:List (Nat×AV)} {t:Nat},look .any (k0j r l) t=renA r (look .any l t)
 | [],_=>rfl
 | (k,v)::l,t=>by
  simp only [k0j,kbf];split;rfl
  ·exact k1d
theorem kqy {r:List (Nat×Nat)} {j:Nat}:∀ {A:List (Nat×AObj)} {ob:AObj},kad (k4s r A) j=some ob->∃ i o,(i,o)∈A/\kad A i=some o/\rn r i=j/\ob=renX r o
 | [],ob,h=>by cases h
 | (k,v)::A,ob,h=>by
  simp only [k4s] at h;rw [kai] at h;by_cases hk:rn r k=j;rw [ql hk] at h;cases h;exact ⟨k,v,qo ..,by rw [kai,ql rfl],hk,rfl⟩
  ·rw [qi hk] at h;obtain ⟨i,o,h0,h1,a,b⟩:=kqy h;exact ⟨i,o,qk _ h0,by rw [kai,qi (fun e=>hk (by rw [e,a]))];exact h1,a,b⟩
theorem kamp (r:List (Nat×Nat)) (h:kag2 r st=true:=by kernel_rfl):LeSt st (renSt r st):=by
 unfold kag2 at h;simp only [qv] at h;obtain ⟨B,d⟩:=h;have d:=qr.1 d;rw [kyf] at B;have inj:=kww B;intro F S0 N0 ψ S a w hs
 let ψ':Env:=⟨fun j=>match st.ids.find? (fun k=>Nat.beq (rn r k) j) with | some i=>ψ.len i | none=>0,fun j=>match st.ids.find? (fun k=>Nat.beq (rn r k) j) with | some i=>ψ.val i | none => .nilFunc⟩
 have f:∀ i,i∈st.ids->st.ids.find? (fun k=>Nat.beq (rn r k) (rn r i))=some i:=fun i hi=>by
  cases h:st.ids.find? (fun k=>Nat.beq (rn r k) (rn r i)) with
  | none=>
   rw [List.find?_eq_none] at h;exact absurd (Nat.beq_refl _) (h i hi)
  | some k=>
   have h1:=List.find?_some h;rw [inj k i (List.mem_of_find?_eq_some h) hi (qm h1)]
 have hr:∀ i,i∈st.ids->rn r i∈renI r st.ids/\ψ'.len (rn r i)=ψ.len i/\ψ'.val (rn r i)=ψ.val i:=fun i hi=>by
  refine ⟨by rw [kyf];exact List.mem_map_of_mem hi,?_,?_⟩
  ·show (match st.ids.find? (fun k=>Nat.beq (rn r k) (rn r i)) with | some i=>ψ.len i | none=>0)=_
   rw [f i hi]
  ·show (match st.ids.find? (fun k=>Nat.beq (rn r k) (rn r i)) with | some i=>ψ.val i | none => .nilFunc)=_
   rw [f i hi]
 have c:=hs.core;refine ⟨ψ',S,hs.defers,hs.size,fun t=>?_,⟨fun j ob ho=>?_,fun j j' ob ob' b ho u z q n=>?_,c.lt,c.s0,c.n0,c.fr⟩⟩;show RV ψ' _ S w _ (look .any (k0j r st.tmps) t);rw [k1d];exact (hs.tmps t).ren hr
 ·obtain ⟨i,o,hm,h1,rfl,rfl⟩:=kqy ho;obtain ⟨k1,k2,k3⟩:=c.obj i o h1;obtain ⟨e1,e2,e3⟩:=hr i k1;have A:=d _ hm;refine ⟨e1,?_,fun b q=>k3 b (by rwa [e3] at q)⟩;cases o with
  | box e cs=>exact k2.ren (ids:=st.ids) hr k1 A
  | frow e s xs=>exact k2.ren (ids:=st.ids) hr k1 rfl
  | smap kv=>exact k2.ren (ids:=st.ids) hr k1 rfl
  | memo Φ hi=>exact k2.ren (ids:=st.ids) hr k1 rfl
  | xo k=>cases A
  | glb gs=>exact k2.ren (ids:=st.ids) hr k1 rfl
  | sit s pos=>exact k2.ren (ids:=st.ids) hr k1 rfl
  | tab g ov eo ei rows=>exact k2.ren (ids:=st.ids) hr k1 rfl
  | gho cs vs=>
   obtain ⟨q0,q1,q2,q3⟩:=k2;refine ⟨by omega,by rw [e3,q1],by rw [e3,q2],fun j v x hv C=>?_⟩;rw [knv,qq,qw] at C;obtain ⟨y,hy,rfl⟩:=C;exact (q3 j v y hv hy).ren hr
  | was ψ0 ids0 S1 w0=>
   obtain ⟨q0,q1,q2,q3,q4,q5,q6⟩:=k2;have l:∀ j,j∈ids0->rn r j=j/\j∈st.ids:=fun j m=>(by have:=qr.1 A j m;simp only [qv] at this;exact ⟨qm this.1,by simpa using this.2⟩);refine ⟨by omega,by rw [e3,q1],by rw [e3,q2],fun j m=>?_,fun j m=>?_,q5,q6⟩;obtain ⟨f1,f2⟩:=l j m;obtain ⟨_,g2,g3⟩:=hr j f2;rw [f1] at g2 g3;rw [g2,g3];exact q3 j m
   ·obtain ⟨f1,f2⟩:=l j m;exact f1 ▸ (hr j f2).1
 ·obtain ⟨i,o,_,h1,rfl,rfl⟩:=kqy ho;obtain ⟨i',o',_,p,rfl,rfl⟩:=kqy u;rw [(hr i (c.obj i o h1).1).2.2] at q;rw [(hr i' (c.obj i' o' p).1).2.2] at n;exact c.inj i i' o o' b h1 p (fun e=>z (by rw [e])) q n
theorem kadl {α:Type} (enc:α->FV) (m:List (BA×α)) (s:BA) (z:α) (x y:Operand) (kt et:TypeId) (kd:TD) (zv:Value) (ho:o.op = .lookup t x y true) (I:TOk P T) (A:kag T t=some d) (hk:d.kind = .map kt et) (c:kag T kt=some kd) (l:kd.kind = .str) (inf:TypeInfo) (B:P.info? et=some inf) (hi2:inf.zero=some zv) (C:enc z = .atom zv) (D:zv.oneCell'=true) (K:st.eval x = .mp id:=by kernel_rfl) (E:kad st.heap id=some (.smap (m.map fun p=>(p.1,enc p.2))):=by kernel_rfl) (hy:st.eval y = .fz (.atom (.string s)):=by kernel_rfl):NStep P o st (.fz (.tup [enc (mget m s z), .atom (.bool (mhas m s))])):=by
 intro ψ S a w ht L;have A:=I.get A;have c:=I.get c;have hv:=Sim.eval_tmps ht x;rw [K] at hv;have n:=L id _ E;have q:=k6h n hv;obtain ⟨h0,b,es,clock,g,J,F,hr⟩:=n;have f:=Sim.eval_tmps ht y;rw [hy] at f;have f:=f.atom;have G:(zeroValue et).run P w = .ok zv w:=by simp [zeroValue,typeInfo,B,hi2]
 have r:=MapKept.run_checkKey (w:=w) (c.str l) (k := .string s) trivial es.isEmpty 9999;have two:∀ {v:Value} {x:FV} {ok:Bool},RF (fun b=>S b\/w.heap.size<=b) w v x->RF (fun b=>S b\/w.heap.size<=b) w (.tuple #[v, .bool ok]) (.tup [x, .atom (.bool ok)]):=fun {v x ok} h => .tup rfl fun i u y hu hy=>by
  match i with
  | 0=>simp at hu hy;subst hu hy;exact h
  | 1=>simp at hu hy;subst hu hy;exact .atom rfl
  | i+2=>simp at hu
 rcases kqv s (R:=fun v x=>RF S w v x) es.toList (m.map fun p=>(p.1,enc p.2)) 0 (by simpa using F) (fun j e p M hp=>hr j e p (by simpa using M) hp) with ⟨f1,f2⟩ | ⟨j,v,x',f1,f2,f3⟩
 ·have hf:=MapKept.run_findKey (w:=w) (c.str l) f1;have H:mhas m s=false:=by rw [<- k7q enc];unfold mhas;rw [f2];rfl
  refine kah w (.tuple #[zv, .bool false]) ?_ ⟨kaj _, .fz ?_⟩;simp [execOp,ho,f,q,g,Instr.lookup,run_underlying (A.mp hk),MapKept.run_getObj_map J,r,hf,G]
  ·rw [H];refine two ?_;rw [<- kvx enc];unfold mget;rw [f2];simp only;rw [C];exact .atom D
 ·have hf:=MapKept.run_findKey (w:=w) (c.str l) f1;have H:mhas m s=true:=by rw [<- k7q enc];unfold mhas;rw [f2];rfl
  refine kah w (.tuple #[v, .bool true]) ?_ ⟨kaj _, .fz ?_⟩;simp [execOp,ho,f,q,g,Instr.lookup,run_underlying (A.mp hk),MapKept.run_getObj_map J,r,hf]
  ·rw [H];refine two ?_;rw [<- kvx enc];unfold mget;rw [f2];exact f3.mono fun _ h => .inl h
theorem k59 {α:Type} {f:α->Value} {enc:α->FV} (rows:List (List α)) (h:∀ y,enc y = .atom (f y):=by exact fun _=>rfl):eL 1 (eL 1 enc) rows=tabF (rows.map (List.map f)):=by have:enc=fun y => .atom (f y):=funext h;subst this;simp [eL,tabF,Function.comp_def]
theorem k5q {t id n:Nat} {e:TypeId} {size:Nat} {xs:List FV} (h1:st.get t = .row id n) (a:kad st.heap id=some (.frow e size xs)) (b:n=xs.length):LendI.ok st (.row t id n e size xs):=⟨h1,a,b⟩
theorem kafj {t id g:Nat} {ov:Value} {eo ei:TypeId} {rows:List (List Value)} {x:FV} (h1:st.get t = .fz (.atom ov)) (a:kad st.heap id=some (.tab g ov eo ei rows)) (b:x=tabF rows):LendI.ok st (.tab t id g ov eo ei rows x):=⟨h1,a,b⟩
theorem kz1:∀ l∈([]:List LendI),l.ok st:=fun l h=>by cases h
theorem kxn {l:LendI} {ls:List LendI} (h:l.ok st) (hs:∀ k∈ls,k.ok st):∀ k∈l::ls,k.ok st:=fun k hk=>by
 rcases qan.1 hk with rfl | hk;exact h
 ·exact hs k hk
def cut3 {α:Type} (xs:List α) (l h m:Int):Option (List α):=if 0<=l/\l<=h/\h<=m/\m<=xs.length then some ((xs.take h.toNat).drop l.toNat) else none
theorem RF.take3 {A:Option Addr} {cap n size:Nat} {xs:List FV} (h:RF S w (.slice A n cap) (.lst size n xs)) (lo hi m:Nat) (h1:lo<=hi) (f:hi<=n) (g:hi<=m) (k:m<=cap):RF S w (.slice (if m=lo then A else A.map (·.add (lo*size))) (hi - lo) (m - lo)) (.lst size (hi - lo) ((xs.take hi).drop lo)):=by
 obtain ⟨A0,cap0,css,hv,hn,hc,hm,hs,ha,hl,hr⟩:=h.lst_inv;injection hv with e1 _ e3;subst e1 e3;have c:(xs.take hi).length=hi:=by rw [qam];omega
 have get:∀ (i:Nat) (x:FV),((xs.take hi).drop lo)[i]?=some x->xs[lo+i]?=some x:=fun i x a=>by
  rw [qau,qad] at a;split at a;exact a
  ·cases a
 refine .lst (fun i=>css (lo+i)) (by rw [qa3,c]) (by omega) (by omega) hs (fun i x a=>?_) (fun i x a=>hl _ x (get i x a)) fun i x j v y a hv hy=>hr _ x j v y (get i x a) hv hy;obtain ⟨b,o,hA,hS,d⟩:=ha _ x (get i x a);have e:=(qh.1 a).1;rw [qa3,c] at e;refine ⟨b,o+lo*size,?_,hS,by rw [Nat.add_assoc,<- qbj];exact d⟩;rw [qi (by omega),hA];simp only [qba,kcc]
theorem kah5 {α:Type} (enc:α->FV) (x y m:Operand) (lo:Option Operand) (l:Option Int) (h:Int) (xs:List α) {r:List α} (size:Nat) (e:TypeId) (de:TD) (k1 k2:IntKind) (hc:cut3 xs (l.getD 0) h h=some r) (p:TOk P T) (ho:o.op = .slice t x lo (some y) (some m):=by kernel_rfl) (s:kag T t=some d:=by kernel_rfl) (hk:d.kind = .slice e:=by kernel_rfl) (f:kag T e=some de:=by kernel_rfl) (g:de.size=size:=by kernel_rfl) (u:st.eval x = .fz (eL size enc xs):=by kernel_rfl) (hl:kpy st lo=some l:=by kernel_rfl) (z:st.eval y = .fz (.atom (.int k1 h)):=by kernel_rfl) (hm:st.eval m = .fz (.atom (.int k2 h)):=by kernel_rfl):NStep P o st (.lim size r.length (r.map enc)):=by
 intro ψ S a w ht E;have h1:=Sim.eval_tmps ht x;rw [u] at h1;have bl:=kny ht hl;have b:=Sim.eval_tmps ht y;rw [z] at b;have b:=b.atom;have c:=Sim.eval_tmps ht m;rw [hm] at c;have c:=c.atom;unfold cut3 at hc;split at hc
 ·rename_i q;injection hc with hc;subst hc;have h1:=h1.inv;obtain ⟨A,cap,css,hv,hn,B,C,hs,ha,D,hr⟩:=h1.lst_inv;rw [hv] at h1;have i:((xs.take h.toNat).drop (l.getD 0).toNat).length=h.toNat - (l.getD 0).toNat:=by rw [qa3,qam];omega
  rw [i];have j:=h1.take3 (l.getD 0).toNat h.toNat h.toNat (by omega) (by omega) (by omega) (by omega);refine kah w (.slice (if h.toNat=(l.getD 0).toNat then A else A.map (·.add ((l.getD 0).toNat*size))) (h.toNat - (l.getD 0).toNat) (h.toNat - (l.getD 0).toNat)) ?_ ⟨kaj _,(RV.lim ?_).here⟩
  ·have hu:=(p.get s).slice hk;have e1:(Instr.sliceBounds true xs.length cap (lo.map a.eval) ((some y).map a.eval) ((some m).map a.eval)).run P w = .ok ((l.getD 0).toNat,h.toNat,h.toNat) w:=by
    unfold Instr.sliceBounds;have q1:0<=h:=(by omega);have q2:h<=(cap:Int):=(by omega);have q3:0<=h:=(by omega);have q4:h<=(h.toNat:Int):=(by omega);rcases bl with ⟨rfl,rfl⟩ | ⟨y',k',n',rfl,rfl,k⟩;simp [Instr.sliceBound,b,c,asIntOf,q1,q2,q3,q4];intro hc;exfalso;omega
    ·simp only [qaf] at q ⊢;have q5:n'<=(h.toNat:Int):=(by omega);simp [Instr.sliceBound,b,c,k,asIntOf,q1,q2,q3,q4,q5,q.1];rw [ql (by omega),ql (by omega)]
   have n:(sizeOf e).run P w = .ok size w:=(by rw [(p.get f).size,g]);simp only [qba] at e1;simp [execOp,ho,Instr.sliceAt,Instr.slice,run_underlying hu,hv,e1,n]
  ·rw [List.map_drop,List.map_take];exact j
 ·cases hc
end
class Tab (P:Program) where
 T:List (TypeId×TD)
 ok:TOk P T
 mixed:P.follows .mixedOrders=true
abbrev FsT:=List (Nat×Option Nat×AV)
structure Zn where
 os:Array Oper
 n:Nat
 es:List Nat
 ch:List Nat
 ai:List Nat
inductive Foc where
 | code (c:Code)
 | ops (os:Array Oper) (l:List Oper)
 | drz (z:Zn) (k i:Nat) (l:List Oper) (fs:FsT) (hp:List (Nat×AObj)) (ids:List Nat) (pn:Option Nat)
 | dry (z:Zn) (k i:Nat) (l:List Oper) (fs:FsT) (hp:List (Nat×AObj)) (nid:List Nat) (es:List (Nat×Nat))
 | fin (e:Exit)
 | bad
inductive Frm where
 | seq (c:Code)
 | block (id:Nat)
structure Cfg where
 foc:Foc
 ks:List Frm
 st:St
def kv2 (T:List (TypeId×TD)) (t:TypeId):Option TK:=match kag T t with
 | some d=>some d.kind
 | none=>none
def kag8 (T:List (TypeId×TD)) (sr t:TypeId) (x:AV):Option AV:=match kv2 T sr,kv2 T t,x with
 | some _,some (.int k), .fz (.atom (.int _ n))=>some (.fz (.atom (.int k (k.wrap n))))
 | some .str,some .str, .fz (.atom (.string s))=>some (.fz (.atom (.string s)))
 | _,_,_=>none
def k0k (T:List (TypeId×TD)) (o:Oper) (st:St):Option AV:=match k0q T o st with
 | some c=>some c
 | none=>match o.op with
  | .convert sr t x=>kag8 T sr t (st.eval x)
  | .call c=>match c.callee,c.args.toList with
   | .builtin .min,[x,y]=>match st.eval x,st.eval y with
    | .fz (.atom (.int k m)), .fz (.atom (.int _ n))=>some (.fz (.atom (.int k (imin m n))))
    | _,_=>none
   | .builtin .max,[x,y]=>match st.eval x,st.eval y with
    | .fz (.atom (.int k m)), .fz (.atom (.int _ n))=>some (.fz (.atom (.int k (imax m n))))
    | _,_=>none
   | _,_=>none
  | .makeInterface t x=>match kv2 T t with
   | some .ifc=>none
   | some _=>match toV (st.eval x) with
    | some v=>some (.fz (.atom (.iface t v)))
    | none=>none
   | none=>none
  | .typeAssert x _ t true=>match kv2 T t,st.eval x with
   | some .ifc,_=>none
   | some _, .fz (.atom (.iface t' v))=>bif Nat.beq t' t then (match ofV v with
    | some y=>some (.fz (.tup [y, .atom (.bool true)]))
    | none=>none) else none
   | _,_=>none
  | .binOp op t x (.const .nilIface) _=>match kv2 T t,st.eval x,op with
   | some .ifc, .fz (.atom (.iface _ _)), .eql=>some (.fz (.atom (.bool false)))
   | some .ifc, .fz (.atom (.iface _ _)), .neq=>some (.fz (.atom (.bool true)))
   | some .ifc, .fz (.atom .nilIface), .eql=>some (.fz (.atom (.bool true)))
   | some .ifc, .fz (.atom .nilIface), .neq=>some (.fz (.atom (.bool false)))
   | _,_,_=>none
  | _=>none
theorem ki4 {T:List (TypeId×TD)} {t:TypeId} {k:TK} (h:kv2 T t=some k):∃ d,kag T t=some d/\d.kind=k:=by
 unfold kv2 at h;split at h;rename_i d a;injection h with h;exact ⟨d,a,h⟩
 ·cases h
theorem ktv {α:Type} {xs:Array α} {x y:α} (h:xs.toList=[x,y]):xs=#[x,y]:=by apply qbv;simpa using h
theorem k36 {P:Program} {T:List (TypeId×TD)} (f:TOk P T) {o:Oper} {st:St} {c:AV} (h:k0k T o st=some c):NStep P o st c:=by
 unfold k0k at h;split at h;rename_i c' hc;injection h with h;subst h;exact knh f _ (a:=hc)
 ·split at h
  ·rename_i sr t x ho;unfold kag8 at h;split at h;rename_i ks k k' n h1 g j;injection h with h;subst h;obtain ⟨ds,hs,_⟩:=ki4 h1;obtain ⟨d,b,hk⟩:=ki4 g;exact kacn f ho hs b hk j;rename_i s h1 g j;injection h with h;subst h;obtain ⟨ds,hs,l⟩:=ki4 h1;obtain ⟨d,b,hk⟩:=ki4 g;exact k9c f ho hs l b hk j
   ·cases h
  ·rename_i c' ho;obtain ⟨cc,as_,ts⟩:=c';split at h
   ·rename_i x y h1 g;simp only at h1 g;rw [h1,ktv g] at ho;split at h;rename_i k m k' n e hy;injection h with h;subst h;exact kag3 ho e hy
    ·cases h
   ·rename_i x y h1 g;simp only at h1 g;rw [h1,ktv g] at ho;split at h;rename_i k m k' n e hy;injection h with h;subst h;exact kag9 ho e hy
    ·cases h
   ·cases h
  ·rename_i tt x ho;split at h;cases h
   ·rename_i kk i hk;obtain ⟨d,b,a⟩:=ki4 hk;split at h;rename_i v hv;injection h with h;subst h;exact kakq ho (f.get b) (fun hi=>i (by rw [hi] at a;exact a.symm)) hv
    ·cases h
   ·cases h
  ·rename_i x xt tt ho;split at h;cases h
   ·rename_i kk t' v i hk e;obtain ⟨d,b,a⟩:=ki4 hk;cases p:Nat.beq t' tt with
    | false=>rw [p] at h;cases h
    | true=>
     rw [p] at h;obtain rfl:=qm p;(try simp only [qd] at h);split at h;rename_i y hy;injection h with h;subst h;exact kacf ho (f.get b) (fun hi=>i (by rw [hi] at a;exact a.symm)) e hy
     ·cases h
   ·cases h
  ·rename_i op tt x yt ho;split at h;rename_i s z hk e;obtain ⟨d,b,a⟩:=ki4 hk;injection h with h;subst h;exact ksj false false ho (f.get b) a e (.inl ⟨rfl,_,_,rfl⟩);rename_i s z hk e;obtain ⟨d,b,a⟩:=ki4 hk;injection h with h;subst h;exact ksj true false ho (f.get b) a e (.inl ⟨rfl,_,_,rfl⟩);rename_i hk e;obtain ⟨d,b,a⟩:=ki4 hk;injection h with h;subst h;exact ksj false true ho (f.get b) a e (.inr ⟨rfl,rfl⟩);rename_i hk e;obtain ⟨d,b,a⟩:=ki4 hk;injection h with h;subst h;exact ksj true true ho (f.get b) a e (.inr ⟨rfl,rfl⟩)
   ·cases h
  ·cases h
def unwN:List Frm->St->Cfg
 | [],st=>⟨.fin .normal,[],st⟩
 | .seq y::ks,st=>⟨.code y,ks,st⟩
 | .block _::ks,st=>unwN ks st
def unwX (id:Nat):List Frm->St->Cfg
 | [],st=>⟨.fin (.exit id),[],st⟩
 | .seq _::ks,st=>unwX id ks st
 | .block i::ks,st=>bif Nat.beq id i then unwN ks st else unwX id ks st
def unw:Exit->List Frm->St->Cfg
 | .normal,ks,st=>unwN ks st
 | .exit i,ks,st=>unwX i ks st
 | .ret,_,st=>⟨.fin .ret,[],st⟩
 | .panic cs,_,st=>⟨.fin (.panic cs),[],st⟩
 | _,_,st=>⟨.bad,[],st⟩
def kaax (T:List (TypeId×TD)) (os:Array Oper) (o:Oper) (l:List Oper) (ks:List Frm) (st:St):Cfg:=match kb9 os st o,kvh st o with
 | some true,true=>match kxw T o st with
  | some (c,h,i)=>⟨.ops os l,ks,({ st with heap:=h,ids:=i }:St).put o.dst c⟩
  | none=>match k0k T o st with
   | some c=>⟨.ops os l,ks,st.put o.dst c⟩
   | none=>⟨.bad,ks,st⟩
 | some false,true=>⟨.ops os l,ks,st.put o.dst (.fz (.tup []))⟩
 | _,_=>⟨.bad,ks,st⟩
def k4o (T:List (TypeId×TD)) (os:Array Oper) (st:St) (o:Oper):Option AV:=match kb9 os st o with
 | some true=>k0k T o st
 | some false=>some (.fz (.tup []))
 | none=>none
def kaat:Code->List Frm->St->Cfg
 | .skip,ks,st=>unwN ks st
 | .label _,ks,st=>unwN ks st
 | .exit i,ks,st=>unwX i ks st
 | .ret,_,st=>⟨.fin .ret,[],st⟩
 | .seq x y,ks,st=>⟨.code x, .seq y::ks,st⟩
 | .block id c,ks,st=>⟨.code c, .block id::ks,st⟩
 | .cond c x y,ks,st=>match st.eval c with
  | .fz (.atom (.bool b))=>⟨.code (bif b then x else y),ks,st⟩
  | _=>⟨.bad,ks,st⟩
 | .region _ os false,ks,st=>⟨.ops os os.toList,ks,st⟩
 | _,ks,st=>⟨.bad,ks,st⟩
def kqu (z:Zn) (st:St) (i:Nat) (o:Oper) (fs:FsT) (hp:List (Nat×AObj)) (ids:List Nat):St:=kgi z.os.toList z.n z.es z.ch z.ai st i o fs hp ids
def kaay (ch:List Nat):List (Nat×AObj)->Bool
 | (k,_)::_=>ch.contains k
 | []=>true
def kvu (ai ids ids':List Nat):Bool:=ids'.all ai.contains && ids.all ids'.contains
def k45 (z:Zn) (i:Nat):Option Nat->Bool
 | some e=>anc z.os.toList i e
 | none=>false
def kaa6 (T:List (TypeId×TD)) (z:Zn) (k i:Nat) (o:Oper) (l:List Oper) (fs:FsT) (hp:List (Nat×AObj)) (ids:List Nat) (pn:Option Nat) (ks:List Frm) (st:St):Cfg:=
 bif k45 z i pn then ⟨.drz z k (i+1) l ((i,o.dst, .any)::fs) hp ids pn,ks,st⟩ else
 bif z.es.contains i then (match kb9 z.os (kqu z st i o fs hp ids) o,kxw T o (kqu z st i o fs hp ids),pn with
  | some false,_,none=>bif kvu z.ai ids ids then ⟨.drz z k (i+1) l ((i,o.dst, .fz (.tup []))::fs) hp ids none,ks,st⟩ else ⟨.bad,ks,st⟩
  | some true,some (c,a,i'),none=>bif Nat.beq (kqu z st i o fs hp ids).heap.length hp.length && (phB z.os.toList z.es i && (kaay z.ch a && kvu z.ai ids i')) then ⟨.drz z k (i+1) l ((i,o.dst,c)::fs) a i' none,ks,st⟩ else ⟨.bad,ks,st⟩
  | _,_,_=>⟨.bad,ks,st⟩)
 else (match k4o T z.os (kqu z st i o fs hp ids) o with
  | some c=>bif phB z.os.toList z.es i || okA st.ids c then ⟨.drz z k (i+1) l ((i,o.dst,c)::fs) hp ids pn,ks,st⟩ else ⟨.bad,ks,st⟩
  | none=>⟨.bad,ks,st⟩)
def k1j (z:Zn) (st:St) (i:Nat) (o:Oper) (fs:FsT):St:=kip z.os.toList z.n z.ai st i o fs
def k5k (T:List (TypeId×TD)) (o:Oper):Option (TypeId×List AV):=match o.op with
 | .alloc e=>match kag T e with
  | some d=>match kti d with
   | some cells=>some (e,cells)
   | none=>none
  | none=>none
 | _=>none
def k68 (T:List (TypeId×TD)) (v:St) (o:Oper):Option (Nat×AObj):=match o.op with
 | .store t x y=>match kxe T v t x y with
  | some (_,q::_,_)=>some q
  | _=>none
 | _=>none
def k7g (z:Zn) (st:St) (es:List (Nat×Nat)) (id:Nat):Bool:=!(st.ids.contains id || (st.heap.any fun q=>q.1 == id) || (es.any fun q=>q.2 == id) || !z.ai.contains id)
def kabg (T:List (TypeId×TD)) (z:Zn) (k i:Nat) (o:Oper) (l:List Oper) (fs:FsT) (hp:List (Nat×AObj)) (nid:List Nat) (es:List (Nat×Nat)) (ks:List Frm) (st:St):Cfg:=
 match k4o T z.os (k1j z st i o fs) o with
 | some c=>bif okA (idsB z.os.toList i nid es st.ids) c then ⟨.dry z k (i+1) l ((i,o.dst,c)::fs) hp nid es,ks,st⟩ else ⟨.bad,ks,st⟩
 | none=>match kb9 z.os (k1j z st i o fs) o,k5k T o with
  | some true,some (e,cells)=>bif k7g z st es (fresh (nid++st.ids)) then ⟨.dry z k (i+1) l ((i,o.dst, .ref (fresh (nid++st.ids)) 0 0)::fs) ((fresh (nid++st.ids), .box e cells)::hp) (fresh (nid++st.ids)::nid) ((i,fresh (nid++st.ids))::es),ks,st⟩ else ⟨.bad,ks,st⟩
  | some true,none=>match k68 T { k1j z st i o fs with heap:=hp++st.heap } o with
   | some q=>bif !(st.heap.any fun r=>r.1 == q.1) && befB z.os.toList i q.1 es then ⟨.dry z k (i+1) l ((i,o.dst, .any)::fs) (q::hp) nid ((i,q.1)::es),ks,st⟩ else ⟨.bad,ks,st⟩
   | none=>⟨.bad,ks,st⟩
  | _,_=>⟨.bad,ks,st⟩
def kaaa (T:List (TypeId×TD)) (g:Cfg):Cfg:=match g with
 | ⟨.code c,ks,st⟩=>kaat c ks st
 | ⟨.ops _ [],ks,st⟩=>unwN ks st
 | ⟨.ops os (o::l),ks,st⟩=>kaax T os o l ks st
 | ⟨.drz z 0 _ l fs hp ids none,ks,st⟩=>⟨.ops z.os l,ks,{ st with tmps:=hadd fs (fun _=>true) st.tmps,heap:=hp,ids:=ids }⟩
 | ⟨.drz z (k+1) i (o::l) fs hp ids pn,ks,st⟩=>kaa6 T z k i o l fs hp ids pn ks st
 | ⟨.dry z 0 _ l fs hp nid _,ks,st⟩=>⟨.ops z.os l,ks,{ st with tmps:=hadd fs (fun _=>true) st.tmps,heap:=hp++st.heap,ids:=nid++st.ids }⟩
 | ⟨.dry z (k+1) i (o::l) fs hp nid es,ks,st⟩=>kabg T z k i o l fs hp nid es ks st
 | ⟨_,ks,st⟩=>⟨.bad,ks,st⟩
def crunT (T:List (TypeId×TD)) (k:Nat) (g:Cfg):Cfg:=Nat.rec g (fun _ r=>kaaa T r) k
def crun (P:Program) [t:Tab P] (k:Nat) (g:Cfg):Cfg:=crunT t.T k g
def kjk (P:Program):List Frm->(Exit->St->Prop)->Exit->St->Prop
 | [],Q=>Q
 | .seq y::ks,Q=>kag6 (fun st=>awp P y st (kjk P ks Q)) (kjk P ks Q)
 | .block id::ks,Q=>k1z id (kjk P ks Q)
def FW (P:Program) (foc:Foc) (st:St) (Q:Exit->St->Prop):Prop:=match foc with
 | .code c=>awp P c st Q
 | .ops os l=>awpL P os l st Q
 | .drz z k i l fs hp ids pn=>kt3 P z.os z.n z.es z.ch z.ai Q st k i l fs hp ids pn
 | .dry z k i l fs hp nid es=>kve P z.os z.n z.ai Q st k i l fs hp nid es
 | .fin e=>Q e st
 | .bad=>False
def W (P:Program) (g:Cfg) (Q:Exit->St->Prop):Prop:=FW P g.foc g.st (kjk P g.ks Q)
section
variable {P:Program} {T:List (TypeId×TD)} {Q:Exit->St->Prop} {st:St} {ks:List Frm}
theorem ksb:∀ {ks:List Frm},W P (unwN ks st) Q->kjk P ks Q .normal st
 | [],h=>h
 | .seq _::_,h=>h
 | .block id::ks,h=>show k1z id (kjk P ks Q) .normal st from ksb (ks:=ks) h
theorem kxu {i:Nat}:∀ {ks:List Frm},W P (unwX i ks st) Q->kjk P ks Q (.exit i) st
 | [],h=>h
 | .seq _::ks,h=>kxu (ks:=ks) h
 | .block id::ks,h=>by
  show (if i=id then kjk P ks Q .normal st else kjk P ks Q (.exit i) st);simp only [unwX] at h;by_cases hi:i=id;subst hi;rw [ql rfl];simp only [Nat.beq_refl,qd] at h;exact ksb h
  ·rw [qi hi];rw [Nat.beq_eq_false hi] at h;exact kxu h
theorem kx4 {ks:List Frm}:Q .ret st->kjk P ks Q .ret st:=by
 induction ks with
 | nil=>exact id
 | cons k ks ih=>cases k <;> exact ih
theorem k2w {cs} {ks:List Frm}:Q (.panic cs) st->kjk P ks Q (.panic cs) st:=by
 induction ks with
 | nil=>exact id
 | cons k ks ih=>cases k <;> exact ih
theorem kada {e:Exit} {ks:List Frm} (h:W P (unw e ks st) Q):kjk P ks Q e st:=by
 cases e with
 | normal=>exact ksb h
 | exit i=>exact kxu h
 | ret=>exact kx4 h
 | panic cs=>exact k2w h
 | _=>exact h.elim
theorem k7t (a:TOk P T) {os:Array Oper} {o:Oper} {c:AV} (h:k4o T os st o=some c):(kb9 os st o=some true/\NStep P o st c)\/(kb9 os st o=some false/\c = .fz (.tup [])):=by
 unfold k4o at h;split at h;rename_i hg;exact .inl ⟨hg,k36 a h⟩;rename_i hg;injection h with h;exact .inr ⟨hg,h.symm⟩
 ·cases h
theorem kaec (d:TOk P T) {os:Array Oper} {o:Oper} {l:List Oper} (h:W P (kaax T os o l ks st) Q):awpL P os (o::l) st (kjk P ks Q):=by
 unfold kaax at h;split at h
 ·rename_i hg a;split at h;rename_i c e i b;exact k1e (k6q d b) hg (kpp a) h
  ·split at h;rename_i c b;exact k1e (k36 d b).step hg (kpp a) h
   ·exact h.elim
 rename_i hg a;exact kalz hg (kpp a) h
 ·exact h.elim
theorem kaf5 {c:Code} (h:W P (kaat c ks st) Q):awp P c st (kjk P ks Q):=by
 unfold kaat at h;split at h;exact kafc (ksb h);exact fun F S0 N0 ψ S a w hs=>wp_label ⟨st,ψ,S,ksb h,hs,Fr.refl⟩;exact kafl (kxu h);exact kah3 (kx4 h);exact kaic h;exact kadp h
 ·split at h;rename_i b;exact k6l b h
  ·exact h.elim
 exact kaa1 h
 ·exact h.elim
theorem k94 {o:Oper} {c:AV} {h:List (Nat×AObj)} {i:List Nat} (a:kxw T o st=some (c,h,i)):h=st.heap\/∃ id ob,h=(id,ob)::st.heap:=by
 unfold kxw at a;have d:∀ {e:TypeId} {cells:List AV},boxX e st cells=some (c,h,i)->h=st.heap\/∃ id ob,h=(id,ob)::st.heap:=fun {e cells} a=>by
  unfold boxX at a;cases f:(cells.all AV.single && !st.ids.contains (Go.Proofs.YtjbonbdomgoklaaGreatDoor.fresh st.ids)) with
  | false=>rw [f] at a;cases a
  | true=>rw [f] at a;simp only [qd,qe,qt] at a;exact .inr ⟨_,_,a.2.1.symm⟩
 split at a;exact d a
 ·split at a
  ·split at a;exact d a
   ·cases a
  ·cases a
 ·unfold kxe at a;split at a
  ·split at a
   ·rename_i e cells g;generalize (Nat.beq _ 0 && _)=b at a;cases b with
    | false=>cases a
    | true=>simp only [qd,qe,qt] at a;exact .inr ⟨_,_,a.2.1.symm⟩
   ·cases a
  ·cases a
 ·refine .inl ?_;generalize k0q T o st=c0 at a;cases c0 with
  | none=>cases a
  | some x=>simp only [nres,qe,qt] at a;exact a.2.1.symm
theorem kzj {ai ids ids':List Nat} (h:kvu ai ids ids'=true):(∀ id,id∈ids'->id∈ai)/\∀ id,id∈ids->id∈ids':=by unfold kvu at h;simp only [qv] at h;exact ⟨fun id hi=>by simpa using qr.1 h.1 id hi,fun id hi=>by simpa using qr.1 h.2 id hi⟩
theorem kafd (j:TOk P T) {z:Zn} {k i:Nat} {o:Oper} {l:List Oper} {fs:FsT} {hp:List (Nat×AObj)} {ids:List Nat} {pn:Option Nat} (h:W P (kaa6 T z k i o l fs hp ids pn ks st) Q):kt3 P z.os z.n z.es z.ch z.ai (kjk P ks Q) st (k+1) i (o::l) fs hp ids pn:=by
 unfold kaa6 at h;cases f:k45 z i pn with
 | true=>
  rw [f] at h;cases pn with
  | none=>cases f
  | some e=>exact .inl ⟨e,rfl,f,h⟩
 | false=>
  rw [f] at h;simp only [qc] at h;cases d:z.es.contains i with
  | true=>
   rw [d] at h;simp only [qd] at h;split at h
   ·rename_i hg;cases a:kvu z.ai ids ids with
    | false=>rw [a] at h;exact h.elim
    | true=>
     rw [a] at h;exact .inr (.inr (.inl ⟨d,rfl,_,hp,ids,⟨.inr ⟨hg,rfl,rfl,rfl⟩, .inr ⟨fun _ _ _ h=>h,kzj a⟩⟩,h⟩))
   ·rename_i c m i' hg p;generalize a:(Nat.beq (kqu z st i o fs hp ids).heap.length hp.length && (phB z.os.toList z.es i && (kaay z.ch m && kvu z.ai ids i')))=b at h;cases b with
    | false=>exact h.elim
    | true=>
     simp only [qv] at a;obtain ⟨_,b2,b3,b4⟩:=a;refine .inr (.inr (.inl ⟨d,rfl,c,m,i',⟨.inl ⟨hg,k6q j p⟩, .inr ⟨?_,kzj b4⟩⟩,h⟩));have hv:(kqu z st i o fs hp ids).heap=hp:=(by show (bif phB z.os.toList z.es i then hp else _)=hp;rw [b2];rfl);rcases k94 p with hf | ⟨id,ob,hf⟩;rw [hf,hv];exact fun _ _ _ h=>h
     ·rw [hf,hv];rw [hf] at b3;intro id' g ob' ho;rw [kai,qi];exact ho
      ·rintro rfl;exact g (by simpa [kaay] using b3)
   ·exact h.elim
  | false=>
   rw [d] at h;simp only [qc] at h;split at h
   ·rename_i c hc;cases hk:(phB z.os.toList z.es i || okA st.ids c) with
    | false=>rw [hk] at h;exact h.elim
    | true=>rw [hk] at h;exact .inr (.inl ⟨d,c,k7t j hc,hk,h⟩)
   ·exact h.elim
theorem kacv (c:TOk P T) {o:Oper} {e:TypeId} {cells:List AV} (h:k5k T o=some (e,cells)) {v:St} (id:Nat):kabb P v o (.ref id 0 0) id (.box e cells):=by
 unfold k5k at h;split at h
 ·rename_i e' ho;split at h
  ·rename_i d f;split at h;rename_i cells' g;simp only [qe,qt] at h;obtain ⟨rfl,rfl⟩:=h;exact fun a ids' b=>k2c (st:={ v with heap:=a,ids:=ids' }) ho (c.get f) g b
   ·cases h
  ·cases h
 ·cases h
theorem kabs (g:TOk P T) {v:St} {o:Oper} {q:Nat×AObj} (h:k68 T v o=some q):kaba P v o .any q.1 q.2:=by
 unfold k68 at h;split at h
 ·rename_i t x y ho;unfold kxe at h;cases c:kag T t with
  | none=>rw [c] at h;cases h
  | some d=>
   rw [c] at h;generalize i:v.eval x=ex at h;cases ex with
   | ref id n off=>
    simp only at h;cases a:kad v.heap id with
    | none=>rw [a] at h;cases h
    | some ob=>
     rw [a] at h;cases ob with
     | box e cells=>
      simp only at h;cases b:(Nat.beq n 0 && (Nat.beq (v.eval y).cells.length d.size && ((v.eval y).cells.all AV.single && Nat.ble (off+(v.eval y).cells.length) cells.length))) with
      | false=>rw [b] at h;cases h
      | true=>
       rw [b] at h;simp only [qd,qe] at h;subst h;simp only [qv] at b;obtain ⟨b1,b2,b3,b4⟩:=b;obtain rfl:=qm b1;exact fun f ids' hl=>k8n (st:={ v with heap:=f,ids:=ids' }) ho (g.get c) i (by rw [<- a];exact hl) rfl (qm b2) b3 (qu b4)
     | _=>cases h
   | _=>cases h
 ·cases h
theorem kaen (b:TOk P T) {z:Zn} {k i:Nat} {o:Oper} {l:List Oper} {fs:FsT} {hp:List (Nat×AObj)} {nid:List Nat} {es:List (Nat×Nat)} (h:W P (kabg T z k i o l fs hp nid es ks st) Q):kve P z.os z.n z.ai (kjk P ks Q) st (k+1) i (o::l) fs hp nid es:=by
 unfold kabg at h;split at h
 ·rename_i c hc;cases hk:okA (idsB z.os.toList i nid es st.ids) c with
  | false=>rw [hk] at h;exact h.elim
  | true=>rw [hk] at h;exact .inl ⟨c,k7t b hc,hk,h⟩
 ·split at h
  ·rename_i e cells hg ha;cases hk:k7g z st es (Go.Proofs.YtjbonbdomgoklaaGreatDoor.fresh (nid++st.ids)) with
   | false=>rw [hk] at h;exact h.elim
   | true=>
    rw [hk] at h;have a:=hk;unfold k7g at a;rw [qcb] at a;exact .inr (.inl ⟨_,_,_,hg,kacv b ha _,a,h⟩)
  ·rename_i hg _;split at h
   ·rename_i q d;cases hk:(!(st.heap.any fun r=>r.1 == q.1) && befB z.os.toList i q.1 es) with
    | false=>rw [hk] at h;exact h.elim
    | true=>
     rw [hk] at h;rw [qv,qcb] at hk;exact .inr (.inr ⟨_,_,_,hg,kabs b d,hk.1,hk.2,h⟩)
   ·exact h.elim
  ·exact h.elim
theorem kafs (a:TOk P T) {g:Cfg} (h:W P (kaaa T g) Q):W P g Q:=by
 unfold kaaa at h;split at h;exact kaf5 h;exact l_nil (ksb h);exact kaec a h;exact h;exact kafd a h;exact h;exact kaen a h
 ·exact h.elim
theorem kct [t:Tab P] (k:Nat) {g:Cfg} (h:W P (crun P k g) Q):W P g Q:=by
 unfold crun at h
 induction k with
 | zero=>exact h
 | succ k ih=>exact ih (kafs t.ok h)
variable [t:Tab P] {g:Cfg} {β:Type} {r:β}
def kxd (g:Cfg):Bool:=match g.foc with
 | .code _=>true
 | .ops _ _=>true
 | _=>false
def isCode0 (g:Cfg):Bool:=match g.foc with
 | .code _=>true
 | _=>false
def stOf (g:Cfg):St:=g.st
def kx8 (g:Cfg) (st:St):Cfg:=⟨g.foc,g.ks,st⟩
theorem wle (k:Nat) {st':St} (hl:LeSt (stOf (crun P k g)) st') (h:W P (kx8 (crun P k g) st') Q) (hc:kxd (crun P k g)=true:=by kernel_rfl):W P g Q:=by
 refine kct k ?_;generalize crun P k g=g' at *
 obtain ⟨foc,ks,st⟩:=g';cases foc with
 | code c=>exact kami hl h
 | ops os l=>exact l_le hl h
 | _=>cases hc
def kahe (g:Cfg):Option Bool:=match g.foc with
 | .code (.cond c _ _)=>match g.st.eval c with
  | .fz (.atom (.bool b))=>some b
  | _=>none
 | _=>none
def brc (b:Bool) (g:Cfg):Cfg:=match g.foc with
 | .code (.cond _ x y)=>⟨.code (bif b then x else y),g.ks,g.st⟩
 | _=>⟨.bad,g.ks,g.st⟩
theorem cd (k:Nat) {b:Bool} {X Y:Option β} (h:(bif b then X else Y)=some r) (h1:X=some r->W P (brc true (crun P k g)) Q) (a:Y=some r->W P (brc false (crun P k g)) Q) (hc:kahe (crun P k g)=some b:=by kernel_rfl):W P g Q:=by
 refine kct k ?_;generalize crun P k g=g' at *
 obtain ⟨foc,ks,st⟩:=g';have key:W P (brc b ⟨foc,ks,st⟩) Q:=by
  cases b with
  | true=>exact h1 h
  | false=>exact a h
 unfold kahe at hc;simp only at hc;split at hc
 ·rename_i c x y;split at hc;rename_i b' d;injection hc with hc;subst hc;exact k6l d key
  ·cases hc
 ·cases hc
def setT (t:Nat) (v:AV):List (Nat×AV)->List (Nat×AV)
 | []=>[]
 | (k,x)::l=>bif Nat.beq k t then (k,v)::l else (k,x)::setT t v l
def setF (j:Nat) (v:AV):FsT->FsT
 | []=>[]
 | (k,d,x)::l=>bif Nat.beq k j then (k,d,v)::l else (k,d,x)::setF j v l
def getF (j:Nat):FsT->Option AV
 | []=>none
 | (k,d,x)::l=>bif Nat.beq k j then some x else getF j l
def kx6:AV->Option Bool
 | .fz (.atom (.bool b))=>some b
 | _=>none
def k5o (g:Cfg):Option Bool:=match g.foc with
 | .ops os (o::_)=>match o.guard with
  | some (j,_)=>match (os[j]?).bind (·.dst) with
   | some t=>kx6 (g.st.get t)
   | none=>none
  | none=>none
 | .drz _ _ _ (o::_) fs _ _ _=>match o.guard with
  | some (j,_)=>match getF j fs with
   | some v=>kx6 v
   | none=>none
  | none=>none
 | _=>none
def setG (b:Bool) (g:Cfg):Cfg:=match g.foc with
 | .ops os (o::l)=>match o.guard with
  | some (j,_)=>match (os[j]?).bind (·.dst) with
   | some t=>⟨.ops os (o::l),g.ks,{ g.st with tmps:=setT t (.fz (.atom (.bool b))) g.st.tmps }⟩
   | none=>g
  | none=>g
 | .drz z k i (o::l) fs hp ids pn=>match o.guard with
  | some (j,_)=>⟨.drz z k i (o::l) (setF j (.fz (.atom (.bool b))) fs) hp ids pn,g.ks,g.st⟩
  | none=>g
 | _=>g
theorem k8s {t:Nat} {b:Bool}:∀ {l:List (Nat×AV)},kx6 (look .any l t)=some b->setT t (.fz (.atom (.bool b))) l=l
 | [],_=>rfl
 | (k,x)::l,h=>by
  simp only [setT,look] at h ⊢;cases hk:Nat.beq k t with
  | true=>
   rw [hk] at h;simp only [qd] at h ⊢;unfold kx6 at h;split at h;injection h with h;rw [h]
   ·cases h
  | false=>rw [hk] at h;simp only [qc] at h ⊢; rw [k8s h]
theorem k9u {j:Nat} {b:Bool}:∀ {l:FsT} {v:AV},getF j l=some v->kx6 v=some b->setF j (.fz (.atom (.bool b))) l=l
 | [],_,h,_=>rfl
 | (k,d,x)::l,v,h,a=>by
  simp only [setF,getF] at h ⊢;cases hk:Nat.beq k j with
  | true=>
   rw [hk] at h;simp only [qd,qe] at h ⊢;subst h;unfold kx6 at a;split at a;injection a with a;rw [a]
   ·cases a
  | false=>rw [hk] at h;simp only [qc] at h ⊢; rw [k9u h a]
theorem kai0 {b:Bool} (h:k5o g=some b):setG b g=g:=by
 obtain ⟨foc,ks,st⟩:=g;unfold k5o at h;unfold setG;cases foc with
 | ops os l=>
  cases l with
  | nil=>rfl
  | cons o l=>
   (try dsimp only at h ⊢);split at h
   ·rename_i j w hg;split at h;rename_i t ht;(try simp only [ht]);rw [k8s h]
    ·cases h
   ·cases h
 | drz z k i l fs hp ids pn=>
  cases l with
  | nil=>rfl
  | cons o l=>
   (try dsimp only at h ⊢);split at h
   ·rename_i j w hg;split at h;rename_i v hv;(try dsimp only);rw [k9u hv h]
    ·cases h
   ·cases h
 | _=>rfl
theorem gd (k:Nat) {b:Bool} {X Y:Option β} (h:(bif b then X else Y)=some r) (h1:X=some r->W P (setG true (crun P k g)) Q) (a:Y=some r->W P (setG false (crun P k g)) Q) (hc:k5o (crun P k g)=some b:=by kernel_rfl):W P g Q:=by
 refine kct k ?_;rw [<- kai0 hc];cases b with
 | true=>exact h1 h
 | false=>exact a h
theorem gdb (k:Nat) {b:Bool} {X Y:Option β} (h:(bif b then X else Y)=some r) (h1:b=true->X=some r->W P (crun P k g) Q) (a:b=false->Y=some r->W P (crun P k g) Q):W P g Q:=by
 refine kct k ?_;cases b with
 | true=>exact h1 rfl h
 | false=>exact a rfl h
def ksw (g:Cfg):Option (Oper×St):=match g.foc with
 | .ops os (o::_)=>match kb9 os g.st o,kvh g.st o with
  | some true,true=>some (o,g.st)
  | _,_=>none
 | .drz z (_+1) i (o::_) fs hp ids pn=>match kb9 z.os (kqu z g.st i o fs hp ids) o with
  | some true=>bif z.es.contains i || k45 z i pn then none else some (o,kqu z g.st i o fs hp ids)
  | _=>none
 | .dry z (_+1) i (o::_) fs _ _ _=>match kb9 z.os (k1j z g.st i o fs) o with
  | some true=>some (o,k1j z g.st i o fs)
  | _=>none
 | _=>none
def kp0 (g:Cfg):Oper:=match g.foc with
 | .ops _ (o::_)=>o
 | .drz _ _ _ (o::_) _ _ _ _=>o
 | .dry _ _ _ (o::_) _ _ _ _=>o
 | _=>default
def k4x (g:Cfg):St:=match ksw g with
 | some p=>p.2
 | none=>g.st
def rsm (c:AV) (g:Cfg):Cfg:=match g.foc with
 | .ops os (o::l)=>⟨.ops os l,g.ks,g.st.put o.dst c⟩
 | .drz z (k+1) i (o::l) fs hp ids pn=>bif phB z.os.toList z.es i || okA g.st.ids c then ⟨.drz z k (i+1) l ((i,o.dst,c)::fs) hp ids pn,g.ks,g.st⟩ else ⟨.bad,g.ks,g.st⟩
 | .dry z (k+1) i (o::l) fs hp nid es=>bif okA (idsB z.os.toList i nid es g.st.ids) c then ⟨.dry z k (i+1) l ((i,o.dst,c)::fs) hp nid es,g.ks,g.st⟩ else ⟨.bad,g.ks,g.st⟩
 | _=>⟨.bad,g.ks,g.st⟩
end
variable {P:Program} {T:List (TypeId×TD)} {Q:Exit->St->Prop} {st:St} {ks:List Frm} {g:Cfg} {β:Type} {r:β}
theorem k6g {o:Oper} {v:St} {c:AV} (hv:ksw g=some (o,v)) (hn:NStep P o v c) (h:W P (rsm c g) Q):W P g Q:=by
 obtain ⟨foc,ks,st⟩:=g;unfold ksw at hv;simp only at hv;split at hv
 ·split at hv;rename_i hg d;simp only [qe,qt] at hv;obtain ⟨rfl,rfl⟩:=hv;exact k1e hn.step hg (kpp d) h
  ·cases hv
 ·rename_i z k i o' l fs hp ids pn;split at hv
  ·rename_i hg;generalize a:(z.es.contains i || k45 z i pn)=b at hv;cases b with
   | true=>cases hv
   | false=>
    rw [Bool.or_eq_false_iff] at a;simp only [qc,qe,qt] at hv;obtain ⟨rfl,rfl⟩:=hv;simp only [rsm] at h;cases hk:(phB z.os.toList z.es i || okA st.ids c) with
    | false=>rw [hk] at h;exact h.elim
    | true=>rw [hk] at h;exact .inr (.inl ⟨a.1,c, .inl ⟨hg,hn⟩,hk,h⟩)
  ·cases hv
 ·rename_i z k i o' l fs hp nid es;split at hv
  ·rename_i hg;simp only [qe,qt] at hv;obtain ⟨rfl,rfl⟩:=hv;simp only [rsm] at h;cases hk:okA (idsB z.os.toList i nid es st.ids) c with
   | false=>rw [hk] at h;exact h.elim
   | true=>rw [hk] at h;exact .inl ⟨c, .inl ⟨hg,hn⟩,hk,h⟩
  ·cases hv
 ·cases hv
section
variable {P:Program} {T:List (TypeId×TD)} {Q:Exit->St->Prop} {st:St} {ks:List Frm} [t:Tab P] {g:Cfg} {β:Type} {r:β}
def mokV (g:Cfg):Bool:=(ksw g).isSome
theorem k5z {o:Oper} {v:St} (h:ksw g=some (o,v)):kp0 g=o/\k4x g=v:=by
 refine ⟨?_,by unfold k4x;rw [h]⟩;obtain ⟨foc,ks,st⟩:=g;unfold ksw at h;unfold kp0;simp only at h ⊢;split at h
 ·split at h;simp only [qe,qt] at h;exact h.1
  ·cases h
 ·rename_i z k i o' l fs hp ids pn;split at h
  ·generalize (z.es.contains i || _)=b at h;cases b with
   | true=>cases h
   | false=>simp only [qc,qe,qt] at h;exact h.1
  ·cases h
 ·split at h;simp only [qe,qt] at h;exact h.1
  ·cases h
 ·cases h
theorem nst (k:Nat) {c:AV} (hn:NStep P (kp0 (crun P k g)) (k4x (crun P k g)) c) (h:W P (rsm c (crun P k g)) Q) (hv:mokV (crun P k g)=true:=by kernel_rfl):W P g Q:=by refine kct k ?_;unfold mokV at hv;obtain ⟨⟨o,v⟩,hv⟩:=Option.isSome_iff_exists.1 hv;obtain ⟨e1,e2⟩:=k5z hv;rw [e1,e2] at hn;exact k6g hv hn h
def okP (g:Cfg):Bool:=match g.foc with
 | .ops os (o::_)=>match kb9 os g.st o,kvh g.st o with
  | some true,true=>true
  | _,_=>false
 | _=>false
def rsmA (c:AV) (h:List (Nat×AObj)) (i:List Nat) (g:Cfg):Cfg:=match g.foc with
 | .ops os (o::l)=>⟨.ops os l,g.ks,({ g.st with heap:=h,ids:=i }:St).put o.dst c⟩
 | _=>⟨.bad,g.ks,g.st⟩
theorem sst (k:Nat) {c:AV} {h:List (Nat×AObj)} {i:List Nat} (hn:StepA P (kp0 (crun P k g)) (stOf (crun P k g)) c h i) (a:W P (rsmA c h i (crun P k g)) Q) (hv:okP (crun P k g)=true:=by kernel_rfl):W P g Q:=by
 refine kct k ?_;generalize crun P k g=g' at *
 obtain ⟨foc,ks,st⟩:=g';unfold okP at hv;simp only at hv;split at hv
 ·split at hv;rename_i hg b;exact k1e hn hg (kpp b) a
  ·cases hv
 ·cases hv
def dzOk (n:Nat) (es ai:List Nat) (g:Cfg):Bool:=match g.foc with
 | .code (.region _ os true)=>relB os.toList n g.st.n && (k03 os.toList n es && g.st.ids.all ai.contains)
 | _=>false
def dzOf (n:Nat) (es ch ai:List Nat) (g:Cfg):Cfg:=match g.foc with
 | .code (.region _ os true)=>⟨.drz ⟨os,n,es,ch,ai⟩ n 0 os.toList [] g.st.heap g.st.ids none,g.ks,g.st⟩
 | _=>⟨.bad,g.ks,g.st⟩
theorem dz (k n:Nat) (es ch ai:List Nat) (a:W P (dzOf n es ch ai (crun P k g)) Q) (hc:dzOk n es ai (crun P k g)=true:=by kernel_rfl):W P g Q:=by
 refine kct k ?_;generalize crun P k g=g' at *
 obtain ⟨foc,ks,st⟩:=g';unfold dzOk at hc;simp only at hc;split at hc;rename_i id os;simp only [qv] at hc;obtain ⟨l⟩:=os;exact kah8 t.mixed hc.1 hc.2.1 hc.2.2 a
 ·cases hc
def dyOk (n:Nat) (ai:List Nat) (g:Cfg):Bool:=match g.foc with
 | .code (.region _ os true)=>relB os.toList n g.st.n && g.st.ids.all ai.contains
 | _=>false
def dyOf (n:Nat) (ai:List Nat) (g:Cfg):Cfg:=match g.foc with
 | .code (.region _ os true)=>⟨.dry ⟨os,n,[],[],ai⟩ n 0 os.toList [] [] [] [],g.ks,g.st⟩
 | _=>⟨.bad,g.ks,g.st⟩
theorem dy (k n:Nat) (ai:List Nat) (a:W P (dyOf n ai (crun P k g)) Q) (hc:dyOk n ai (crun P k g)=true:=by kernel_rfl):W P g Q:=by
 refine kct k ?_;generalize crun P k g=g' at *
 obtain ⟨foc,ks,st⟩:=g';unfold dyOk at hc;simp only at hc;split at hc;rename_i id os;simp only [qv] at hc;obtain ⟨l⟩:=os;exact kajd t.mixed hc.1 hc.2 a
 ·cases hc
def kagu (g:Cfg):List Nat:=g.st.ids
theorem dw (k n:Nat) (a:W P (dzOf n [] [] (kagu (crun P k g)) (crun P k g)) Q) (hc:dzOk n [] (kagu (crun P k g)) (crun P k g)=true:=by kernel_rfl):W P g Q:=dz k n [] [] _ a (hc:=hc)
def okZ (g:Cfg):Bool:=match g.foc with
 | .drz z (_+1) i (o::_) fs hp ids none=>z.es.contains i && (match kb9 z.os (kqu z g.st i o fs hp ids) o with | some true=>true | _=>false)
 | _=>false
def kit (g:Cfg):St:=match g.foc with
 | .drz z _ i (o::_) fs hp ids _=>kqu z g.st i o fs hp ids
 | _=>g.st
def offZ (g:Cfg) (h:List (Nat×AObj)):List (Option AObj):=match g.foc with
 | .drz z _ _ _ _ hp _ _=>(kwc z.ch hp).map (kad h)
 | _=>[]
def hpZ (g:Cfg):List (Nat×AObj):=match g.foc with
 | .drz _ _ _ _ _ hp _ _=>hp
 | _=>[]
def idsZ (i':List Nat) (g:Cfg):Bool:=match g.foc with
 | .drz z _ _ _ _ _ ids _=>kvu z.ai ids i'
 | _=>false
def rsmZ (c:AV) (a:List (Nat×AObj)) (i':List Nat) (g:Cfg):Cfg:=match g.foc with
 | .drz z (k+1) i (o::l) fs _ _ _=>⟨.drz z k (i+1) l ((i,o.dst,c)::fs) a i' none,g.ks,g.st⟩
 | _=>⟨.bad,g.ks,g.st⟩
theorem zst (k:Nat) {c:AV} {a:List (Nat×AObj)} {i':List Nat} (hn:StepA P (kp0 (crun P k g)) (kit (crun P k g)) c a i') (d:W P (rsmZ c a i' (crun P k g)) Q) (hv:okZ (crun P k g)=true:=by kernel_rfl) (hi:idsZ i' (crun P k g)=true:=by kernel_rfl) (hk:offZ (crun P k g) a=offZ (crun P k g) (hpZ (crun P k g)):=by kernel_rfl):W P g Q:=by
 refine kct k ?_;generalize crun P k g=g' at *
 obtain ⟨foc,ks,st⟩:=g';unfold okZ at hv;simp only at hv;split at hv
 ·rename_i z k i o l fs hp ids;simp only [qv] at hv;obtain ⟨h1,b⟩:=hv;split at b;rename_i hg;exact .inr (.inr (.inl ⟨h1,rfl,c,a,i',⟨.inl ⟨hg,hn⟩, .inr ⟨kal5 hk,kzj hi⟩⟩,d⟩))
  ·cases b
 ·cases hv
def mpre (g:Cfg):Cfg:=⟨g.foc,[],g.st⟩
def ksOf (g:Cfg):List Frm:=g.ks
end
theorem kagh {os:Array Oper} {l:List Oper} (h:awpL P os l st fun e st'=>∃ st2,LeSt st' st2/\Q e st2):awpL P os l st Q:=fun F S0 N0 ψ S a w hs=>
 kdf (fun e a' w' ⟨st',ψ',S',⟨st2,h0,h1⟩,b,c⟩=>by obtain ⟨ψ2,S2,d⟩:=h0 F S0 N0 ψ' S' a' w' b;exact ⟨st2,ψ2,S2,h1,d,c⟩) _ _ _ (h F S0 N0 ψ S a w hs)
theorem kacb {os:Array Oper} {l:List Oper} {Q':Exit->St->Prop} (h:awpL P os l st Q) (b:∀ e st,Q e st->Q' e st):awpL P os l st Q':=fun F S0 N0 ψ S a w hs=>
 kdf (fun e a' w' ⟨st',ψ',S',h1,c⟩=>⟨st',ψ',S',b _ _ h1,c⟩) _ _ _ (h F S0 N0 ψ S a w hs)
section
variable {P:Program} {T:List (TypeId×TD)} {Q:Exit->St->Prop} {st:St} {ks:List Frm} [t:Tab P] {g:Cfg} {β:Type} {r:β}
def WeakQ (Q:Exit->St->Prop):Exit->St->Prop:=fun e st'=>∃ st2,LeSt st' st2/\Q e st2
end
section
variable {P:Program} {T:List (TypeId×TD)} {Q:Exit->St->Prop} {st:St} {ks:List Frm} [t:Tab P] {g:Cfg} {β:Type} {r:β}
theorem jn (k:Nat) (Qa:Exit->St->Prop) (hc:kxd (crun P k g)=true) (ha:W P (mpre (crun P k g)) Qa) (b:∀ e st',Qa e st'->∃ st2,LeSt st' st2/\W P (unw e (ksOf (crun P k g)) st2) Q):W P g Q:=by
 refine kct k ?_;generalize crun P k g=g' at *
 obtain ⟨foc,ks,st⟩:=g';have a:∀ e st',Qa e st'->WeakQ (kjk P ks Q) e st':=fun e st' h=>let ⟨st2,h1,d⟩:=b e st' h;⟨st2,h1,kada d⟩;cases foc with
 | code c=>exact kv3 (kz5 (show awp P c st Qa from ha) a)
 | ops os l=>exact kagh (kacb (show awpL P os l st Qa from ha) a)
 | _=>cases hc
theorem jn1 {α:Type} {E:Option α} {K:α->Option β} (k:Nat) (e:Exit) (J:α->St) (h:Option.bind E K=some r) (ha:∀ v,E=some v->W P (mpre (crun P k g)) fun e' st=>e'=e/\LeSt st (J v)) (a:∀ v,K v=some r->W P (unw e (ksOf (crun P k g)) (J v)) Q) (hc:kxd (crun P k g)=true:=by kernel_rfl):W P g Q:=by obtain ⟨v,h1,b⟩:=qf.1 h;refine jn k _ hc (ha v h1) ?_;rintro _ st' ⟨rfl,hl⟩;exact ⟨_,hl,a v b⟩
theorem jnQ {α:Type} {E:Option α} {K:α->Option β} (k:Nat) (Qa:α->Exit->St->Prop) (h:Option.bind E K=some r) (ha:∀ v,E=some v->W P (mpre (crun P k g)) (Qa v)) (a:∀ v,K v=some r->∀ e st',Qa v e st'->∃ st2,LeSt st' st2/\W P (unw e (ksOf (crun P k g)) st2) Q) (hc:kxd (crun P k g)=true:=by kernel_rfl):W P g Q:=by obtain ⟨v,h1,b⟩:=qf.1 h;exact jn k _ hc (ha v h1) (a v b)
def kag7:FV->C0
 | .lst s _ _ => .sl s
 | .bx _ => .px
 | _ => .keep
def k92:AV->C0
 | .fz x=>kag7 x
 | _ => .keep
def auto1:AV->C1
 | .fz (.agg xs) => .ag (xs.map kag7)
 | .agg xs => .ag (xs.map k92)
 | x => .one (k92 x)
def autoT (st:St):List (Nat×C1):=st.tmps.map fun p=>(p.1,auto1 p.2)
def autoO:AObj->List C0
 | .box _ cs=>cs.map k92
 | _=>[]
def autoH (st:St):List (Nat×List C0):=st.heap.map fun p=>(p.1,autoO p.2)
def coA (st J:St):Option St:=coSt st J.ids (autoT J) (autoH J)
theorem le_a {st J:St} (h:coA st J=some J):LeSt st J:=le_co h
def kr1:Foc->Exit->Bool
 | .fin .normal, .normal=>true
 | .fin .ret, .ret=>true
 | .fin (.exit i), .exit j=>Nat.beq i j
 | _,_=>false
theorem kzl {foc:Foc} {e:Exit} (h:kr1 foc e=true):foc = .fin e/\(e = .normal\/e = .ret\/∃ i,e = .exit i):=by
 unfold kr1 at h;split at h;exact ⟨rfl, .inl rfl⟩;exact ⟨rfl, .inr (.inl rfl)⟩;rename_i i j;rw [qm h];exact ⟨rfl, .inr (.inr ⟨_,rfl⟩)⟩
 ·cases h
def jok (g:Cfg) (e:Exit) (J:St):Option St:=bif kr1 g.foc e then coA g.st J else none
end
section
variable {P:Program} {T:List (TypeId×TD)} {Q:Exit->St->Prop} {st:St} {ks:List Frm} [t:Tab P] {g:Cfg} {β:Type} {r:β}
def nilK (g:Cfg):Bool:=match g.ks with
 | []=>true
 | _=>false
theorem lj (k:Nat) {e:Exit} {J:St} (hc:(bif nilK (crun P k g) then jok (crun P k g) e J else none)=some J:=by kernel_rfl):W P g fun e' st=>e'=e/\LeSt st J:=by
 refine kct k ?_;generalize crun P k g=g' at *
 obtain ⟨foc,ks,st⟩:=g';cases ks with
 | cons=>cases hc
 | nil=>
  simp only [nilK,jok,qd] at hc;cases hf:kr1 foc e with
  | false=>rw [hf] at hc;cases hc
  | true=>
   rw [hf] at hc;obtain ⟨rfl,_⟩:=kzl hf;exact ⟨rfl,le_a hc⟩
theorem ljx (k:Nat) {e:Exit} {J:St} (hl:LeSt (stOf (crun P k g)) J) (hc:(nilK (crun P k g) && kr1 (crun P k g).foc e)=true:=by kernel_rfl):W P g fun e' st=>e'=e/\LeSt st J:=by
 refine kct k ?_;generalize crun P k g=g' at *
 obtain ⟨foc,ks,st⟩:=g';simp only [qv] at hc;cases ks with
 | cons=>cases hc.1
 | nil=>
  obtain ⟨rfl,_⟩:=kzl hc.2;exact ⟨rfl,hl⟩
theorem lo (k:Nat) {e:Exit} {J:St} (hc:(bif nilK (crun P k g) && !kr1 (crun P k g).foc .normal then jok (crun P k g) e J else none)=some J):W P g fun e' st=>(e' ≠ .normal/\e' ≠ .outgrown)/\(e'=e/\LeSt st J):=by
 refine kct k ?_;generalize crun P k g=g' at *
 obtain ⟨foc,ks,st⟩:=g';cases ks with
 | cons=>cases hc
 | nil=>
  simp only [nilK,jok,Bool.true_and] at hc;cases hn:kr1 foc .normal with
  | true=>rw [hn] at hc;cases hc
  | false=>
   rw [hn] at hc;cases hf:kr1 foc e with
   | false=>rw [hf] at hc;cases hc
   | true=>
    rw [hf] at hc;obtain ⟨rfl,a⟩:=kzl hf;refine ⟨⟨fun h=>?_,fun h=>?_⟩,rfl,le_a hc⟩;subst h;cases hn
    ·rcases a with rfl | rfl | ⟨i,rfl⟩ <;> cases h
def kn3:Foc->Bool
 | .fin .normal=>true
 | .fin .ret=>true
 | _=>false
def kw9:Foc->Bool
 | .fin .ret=>true
 | _=>false
def rokq (T:List (TypeId×TD)) (g:Cfg) (rs:List ResultVar) (cs:List C1):Option FV:=bif nilK g && kn3 g.foc then retX T g.st rs cs else none
def rokr (T:List (TypeId×TD)) (g:Cfg) (rs:List ResultVar) (cs:List C1):Option FV:=bif kw9 g.foc then retX T g.st rs cs else none
theorem lq (k:Nat) {rs:List ResultVar} {cs:List C1} {y:FV} (hc:rokq t.T (crun P k g) rs cs=some y:=by kernel_rfl):W P g (retQ t.T rs cs y):=by
 refine kct k ?_;generalize crun P k g=g' at *
 obtain ⟨foc,ks,st⟩:=g';unfold rokq at hc;cases ks with
 | cons=>cases hc
 | nil=>
  simp only [nilK,Bool.true_and] at hc;cases hf:kn3 foc with
  | false=>rw [hf] at hc;cases hc
  | true=>
   rw [hf] at hc;unfold kn3 at hf;split at hf;exact hc;exact hc
   ·cases hf
theorem lr (k:Nat) {rs:List ResultVar} {cs:List C1} {y:FV} (hc:rokr t.T (crun P k g) rs cs=some y:=by kernel_rfl):W P g fun e st=>e = .ret/\retX t.T st rs cs=some y:=by
 refine kct k ?_;generalize crun P k g=g' at *
 obtain ⟨foc,ks,st⟩:=g';unfold rokr at hc;cases hf:kw9 foc with
 | false=>simp only [hf] at hc;cases hc
 | true=>
  simp only [hf] at hc;unfold kw9 at hf;split at hf;exact kx4 (Q:=fun e st=>e = .ret/\retX t.T st rs cs=some y) ⟨rfl,hc⟩
  ·cases hf
theorem lor (k:Nat) {rs:List ResultVar} {cs:List C1} {y:FV} (hc:rokr t.T (crun P k g) rs cs=some y:=by kernel_rfl):W P g fun e st=>(e ≠ .normal/\e ≠ .outgrown)/\(e = .ret/\retX t.T st rs cs=some y):=by
 refine kct k ?_;generalize crun P k g=g' at *
 obtain ⟨foc,ks,st⟩:=g';unfold rokr at hc;cases hf:kw9 foc with
 | false=>simp only [hf] at hc;cases hc
 | true=>
  simp only [hf] at hc;unfold kw9 at hf;split at hf;exact kx4 (Q:=fun e st=>(e ≠ .normal/\e ≠ .outgrown)/\(e = .ret/\retX t.T st rs cs=some y)) ⟨⟨(fun h=>nomatch h),(fun h=>nomatch h)⟩,rfl,hc⟩
  ·cases hf
theorem lv {rs:List ResultVar} {cs:List C1} {y:FV} {st:St} {ks:List Frm} (h:retX t.T st rs cs=some y):W P (unw .ret ks st) (retQ t.T rs cs y):=h
theorem lvr {rs:List ResultVar} {cs:List C1} {y:FV} {st:St} {ks:List Frm} (h:retX t.T st rs cs=some y):W P (unw .ret ks st) fun e st=>e = .ret/\retX t.T st rs cs=some y:=⟨rfl,h⟩
theorem lvo {rs:List ResultVar} {cs:List C1} {y:FV} {st:St} {ks:List Frm} (h:retX t.T st rs cs=some y):W P (unw .ret ks st) fun e st=>(e ≠ .normal/\e ≠ .outgrown)/\(e = .ret/\retX t.T st rs cs=some y):=⟨⟨fun h=>(nomatch h),fun h=>(nomatch h)⟩,rfl,h⟩
end
theorem ob {α:Type} {E:Option α} {K:α->Option β} (h:Option.bind E K=some r) (f:∀ v,E=some v->K v=some r->W P g Q):W P g Q:=by obtain ⟨v,h1,a⟩:=qf.1 h;exact f v h1 a
def Hid (_:Nat) (p:Prop):Prop:=p
theorem ls {α:Type} {X v:α} {Qf:α->Exit->St->Prop} (h:some X=some v) (a:W P g (Qf X)):W P g (Qf v):=by obtain rfl:=qas h;exact a
theorem lJ {p q:Prop} (k:Nat) (a:p->Hid k q:=by intro h;cases h;exact ljh _):p->q:=a
theorem lO {p q:Prop} (k:Nat) (a:p->Hid k q:=by intro h;cases h;exact loh _):p->q:=a
theorem lQ {p q:Prop} (k:Nat) (a:p->Hid k q:=by intro h;cases h;exact lqh _):p->q:=a
theorem lR {p q:Prop} (k:Nat) (a:p->Hid k q:=by intro h;cases h;exact lorh _):p->q:=a
section
variable {P:Program} {T:List (TypeId×TD)} {Q:Exit->St->Prop} {st:St} {ks:List Frm} [t:Tab P] {g:Cfg} {β:Type} {r:β}
theorem ljh (k:Nat) {e:Exit} {J:St} (hc:(bif nilK (crun P k g) then jok (crun P k g) e J else none)=some J:=by kernel_rfl):Hid k (W P g fun e' st=>e'=e/\LeSt st J):=lj k hc
theorem loh (k:Nat) {e:Exit} {J:St} (hc:(bif nilK (crun P k g) && !kr1 (crun P k g).foc .normal then jok (crun P k g) e J else none)=some J:=by kernel_rfl):Hid k (W P g fun e' st=>(e' ≠ .normal/\e' ≠ .outgrown)/\(e'=e/\LeSt st J)):=lo k hc
theorem lqh (k:Nat) {rs:List ResultVar} {cs:List C1} {y:FV} (hc:rokq t.T (crun P k g) rs cs=some y:=by kernel_rfl):Hid k (W P g (retQ t.T rs cs y)):=lq k hc
theorem lorh (k:Nat) {rs:List ResultVar} {cs:List C1} {y:FV} (hc:rokr t.T (crun P k g) rs cs=some y:=by kernel_rfl):Hid k (W P g fun e st=>(e ≠ .normal/\e ≠ .outgrown)/\(e = .ret/\retX t.T st rs cs=some y)):=lor k hc
def k0e (g:Cfg):Cfg:=match g.foc with
 | .code (.loop c)=>⟨.code c,[],g.st⟩
 | _=>⟨.bad,[],g.st⟩
def kwq (g:Cfg):Bool:=match g.foc with
 | .code (.loop _)=>true
 | _=>false
theorem lpx {σ α:Type} {step:σ->Option (σ ⊕ α)} {n:Nat} {s0:σ} {K:α->Option β} (k:Nat) (H:σ->St) (Qb:α->Exit->St->Prop) (h:Option.bind (kac step n s0) K=some r) (h0:LeSt (stOf (crun P k g)) (H s0)) (a:∀ s r',step s=some r'->W P (kx8 (k0e (crun P k g)) (H s)) (Sum.elim (fun s' e st=>e = .normal/\LeSt st (H s')) (fun v e st=>(e ≠ .normal/\e ≠ .outgrown)/\Qb v e st) r')) (ha:∀ v,K v=some r->∀ e st',Qb v e st'->∃ st2,LeSt st' st2/\W P (unw e (ksOf (crun P k g)) st2) Q) (hc:kwq (crun P k g)=true:=by kernel_rfl):W P g Q:=by
 refine kct k ?_;generalize crun P k g=g' at *
 obtain ⟨foc,ks,st⟩:=g';obtain ⟨v,h1,d⟩:=qf.1 h;unfold kwq at hc;simp only at hc;split at hc
 ·rename_i c;refine kaeh (kabk (st:=st) (P:=P) c H Qb h1 h0 fun s r' hs=>?_) fun e st' f=>?_
  ·have:=a s r' hs;cases r' with
   | inl s'=>exact this
   | inr b=>exact this
  ·obtain ⟨st2,e1,e2⟩:=ha v d e st' f;exact ⟨st2,e1,kada e2⟩
 ·cases hc
theorem lpr {σ α ρ:Type} {step:σ->Option (σ ⊕ (α ⊕ ρ))} {n:Nat} {s0:σ} {f:α->Option β} {q:ρ->Option β} (k:Nat) (h:Option.bind (kac step n s0) (fun v=>Sum.elim f q v)=some r) (H:σ->St) (e:Exit) (J:α->St) (rs:List ResultVar) (cs:List C1) (y:ρ->FV)
  (c:∀ s r',step s=some r'->W P (kx8 (k0e (crun P k g)) (H s)) (Sum.elim (fun s' e' st=>e' = .normal/\LeSt st (H s')) (fun v e' st=>(e' ≠ .normal/\e' ≠ .outgrown)/\Sum.elim (fun p=>e'=e/\LeSt st (J p)) (fun p=>e' = .ret/\retX t.T st rs cs=some (y p)) v) r'))
  (h1:∀ p,f p=some r->W P (unw e (ksOf (crun P k g)) (J p)) Q)
  (d:∀ p st,q p=some r->retX t.T st rs cs=some (y p)->W P (unw .ret (ksOf (crun P k g)) st) Q:=by intro _ _ h a;cases h;first | exact lv a | exact lvo a | exact lvr a)
  (hc:kwq (crun P k g)=true:=by kernel_rfl) (h0:coA (stOf (crun P k g)) (H s0)=some (H s0):=by kernel_rfl):W P g Q:=by
 refine lpx k H (fun v e' st=>Sum.elim (fun p=>e'=e/\LeSt st (J p)) (fun p=>e' = .ret/\retX t.T st rs cs=some (y p)) v) h (le_a h0) c (fun v hv e' st' b=>?_) (hc:=hc);cases v with
 | inl p=>obtain ⟨rfl,hl⟩:=b;exact ⟨_,hl,h1 p hv⟩
 | inr p=>obtain ⟨rfl,hr⟩:=b;exact ⟨_,LeSt.refl,d p _ hv hr⟩
theorem lpq {σ α:Type} {step:σ->Option (σ ⊕ (α ⊕ β))} {n:Nat} {s0:σ} {f:α->Option β} {rs:List ResultVar} {cs:List C1} (k:Nat) (h:Option.bind (kac step n s0) (fun v=>Sum.elim f (fun w=>some w) v)=some r) (H:σ->St) (e:Exit) (J:α->St) (y:β->FV)
  (b:∀ s r',step s=some r'->W P (kx8 (k0e (crun P k g)) (H s)) (Sum.elim (fun s' e' st=>e' = .normal/\LeSt st (H s')) (fun v e' st=>(e' ≠ .normal/\e' ≠ .outgrown)/\Sum.elim (fun p=>e'=e/\LeSt st (J p)) (fun p=>e' = .ret/\retX t.T st rs cs=some (y p)) v) r'))
  (h1:∀ p,f p=some r->W P (unw e (ksOf (crun P k g)) (J p)) (retQ t.T rs cs (y r)))
  (hc:kwq (crun P k g)=true:=by kernel_rfl) (h0:coA (stOf (crun P k g)) (H s0)=some (H s0):=by kernel_rfl):W P g (retQ t.T rs cs (y r)):=
 lpr k h H e J rs cs y b h1 (fun p st hp a=>by cases hp;exact lv a) hc h0
theorem lp1 {σ α:Type} {step:σ->Option (σ ⊕ α)} {n:Nat} {s0:σ} {K:α->Option β} (k:Nat) (H:σ->St) (e:Exit) (J:α->St) (h:Option.bind (kac step n s0) K=some r) (a:∀ s r',step s=some r'->W P (kx8 (k0e (crun P k g)) (H s)) (Sum.elim (fun s' e st=>e = .normal/\LeSt st (H s')) (fun v e' st=>(e' ≠ .normal/\e' ≠ .outgrown)/\(e'=e/\LeSt st (J v))) r')) (ha:∀ v,K v=some r->W P (unw e (ksOf (crun P k g)) (J v)) Q) (hc:kwq (crun P k g)=true:=by kernel_rfl) (h0:coA (stOf (crun P k g)) (H s0)=some (H s0):=by kernel_rfl):W P g Q:=by refine lpx k H _ h (le_a h0) a (fun v hv e' st' b=>?_) (hc:=hc);obtain ⟨rfl,hl⟩:=b;exact ⟨_,hl,ha v hv⟩
def krc (fn:Func):Code:=fn.body.getD .skip
theorem ktj {fn:Func} (h:fn.body.isSome=true):fn.body=some (krc fn):=by
 unfold krc;cases a:fn.body with
 | none=>rw [a] at h;cases h
 | some c=>rfl
def inlW (P:Program) (os:Array Oper) (l:List Oper) (ks:List Frm) (dst:Option Nat) (n:Nat) (D:List Deferred) (gi:Nat) (cs:List Value) (keep:List (Nat×AV)) (rs:List ResultVar) (Q:Exit->St->Prop):Exit->St->Prop:=inlQ P os l dst n D gi cs keep rs (kjk P ks Q)
def inlF (g:Cfg):Option (FuncId×List AV):=match g.foc with
 | .ops os (o::_)=>match kb9 os g.st o,kvh g.st o with
  | some true,true=>match o.op with
   | .call c=>match c.callee with
    | .value x=>match g.st.eval x with
     | .fn f cap=>some (f,c.args.toList.map g.st.eval++cap)
     | _=>none
    | _=>none
   | _=>none
  | _,_=>none
 | _=>none
def opsOf (g:Cfg):Array Oper:=match g.foc with
 | .ops os _=>os
 | _=>#[]
def kakk (g:Cfg):List Oper:=match g.foc with
 | .ops _ (_::l)=>l
 | _=>[]
def dstOf (g:Cfg):Option Nat:=match g.foc with
 | .ops _ (o::_)=>o.dst
 | _=>none
theorem inl (k : Nat) {f : FuncId} {fn : Func} {n gi : Nat} {ys : List AV} (hf : P.funcs[f]? = some fn) (e : fn.body.isSome = true) (hn : (fn.name == "runtime.NumGoroutine") = false) (a : fn.ntmps = n) (b : Nat.ble ys.length n = true) (c : (stOf (crun P k g)).ids.contains gi = false)
  (hc:inlF (crun P k g)=some (f,ys))
  (h:∀ cs,W P ⟨.code (krc fn),[],{ n:=n,tmps:=argT 0 ys,heap:=(gi, .gho cs ((stOf (crun P k g)).tmps.map fun p=>(stOf (crun P k g)).get p.1))::(stOf (crun P k g)).heap,ids:=gi::(stOf (crun P k g)).ids }⟩
   (inlW P (opsOf (crun P k g)) (kakk (crun P k g)) (ksOf (crun P k g)) (dstOf (crun P k g)) (stOf (crun P k g)).n (stOf (crun P k g)).dfr gi cs (stOf (crun P k g)).tmps fn.results.toList Q)):W P g Q:=by
 refine kct k ?_;generalize crun P k g=g' at *
 obtain ⟨foc,ks,st⟩:=g';unfold inlF at hc;simp only at hc;split at hc
 ·split at hc
  ·rename_i hg i;split at hc
   ·rename_i c' ho;split at hc
    ·rename_i x d;split at hc;rename_i f' cap hv;simp only [qe,qt] at hc;obtain ⟨rfl,rfl⟩:=hc;obtain ⟨cc,as1,ts⟩:=c';simp only at d;subst d;exact kafq ho hv hg (kpp i) hf (ktj e) hn a rfl b c h
     ·cases hc
    ·cases hc
   ·cases hc
  ·cases hc
 ·cases hc
theorem li (k:Nat) {os:Array Oper} {l:List Oper} {ks:List Frm} {dst:Option Nat} {n gi:Nat} {D:List Deferred} {cs:List Value} {keep:List (Nat×AV)} {rs:List ResultVar} {vs:List AV} {rv:AV} (hc:(bif nilK (crun P k g) && kn3 (crun P k g).foc then kad (stOf (crun P k g)).heap gi else none)=some (.gho cs vs))
  (a:(stOf (crun P k g)).dfr=[]) (hr:(rs=[]/\rv = .any)\/∃ z,rs=[.tmp z]/\(stOf (crun P k g)).get z=rv)
  (h:W P ⟨.ops os l,ks,({ n:=n,tmps:=zipS keep vs,heap:=kdb gi (stOf (crun P k g)).heap,ids:=(stOf (crun P k g)).ids,dfr:=D }:St).put dst rv⟩ Q):W P g (inlW P os l ks dst n D gi cs keep rs Q):=by
 refine kct k ?_;generalize crun P k g=g' at *
 obtain ⟨foc,ks',st⟩:=g';cases ks' with
 | cons=>cases hc
 | nil=>
  simp only [nilK,Bool.true_and] at hc;cases hf:kn3 foc with
  | false=>rw [hf] at hc;cases hc
  | true=>
   rw [hf] at hc;unfold kn3 at hf;split at hf;exact ⟨.inl rfl,a,vs,rv,hc,hr,h⟩;exact ⟨.inr rfl,a,vs,rv,hc,hr,h⟩
   ·cases hf
theorem hcx0 {f : FuncId} {fn : Func} {args : List AV} {pre : List (Nat × AObj)} {ids : List Nat} {E : HEnd} {post : List (Nat × AObj)} {ids' : List Nat} {gi : Nat} (hf : P.funcs[f]? = some fn) (d : fn.body.isSome = true) (hn : (fn.name == "runtime.NumGoroutine") = false)
  (a:Nat.ble args.length fn.ntmps=true) (hg:ids.contains gi=false) (b:ids'.contains gi=false) (c:(post.all fun p=>okO ids' p.2)=true) (e:E.ok ids'=true) (hk:(post.all fun p=>ids'.contains p.1)=true)
  (h:∀ ψ0 S1 w0,W P ⟨.code (krc fn),[],{ n:=fn.ntmps,tmps:=argT 0 args,heap:=(gi, .was ψ0 ids S1 w0)::pre,ids:=gi::ids }⟩ (hQ t.T fn.results.toList gi ids E post ids' ψ0 S1 w0)):ka0 P f args pre ids E post ids':=
 k6b t.ok hf (ktj d) hn a hg b c e hk h
theorem hcx {f: FuncId} {fn: Func} {args: List AV} {pre: List (Nat × AObj)} {ids: List Nat} {E: HEnd} {post: List (Nat × AObj)} {ids': List Nat} (gi: Nat) (hf: P.funcs[f]? = some fn) (h: ∀ ψ0 S1 w0, W P ⟨.code (krc fn), [], { n := fn.ntmps, tmps := argT 0 args, heap := (gi, .was ψ0 ids S1 w0) :: pre, ids := gi :: ids }⟩ (hQ t.T fn.results.toList gi ids E post ids' ψ0 S1 w0)) (d: fn.body.isSome = true := by kernel_rfl) (hn: (fn.name == "runtime.NumGoroutine") = false := by kernel_rfl) (a: Nat.ble args.length fn.ntmps = true := by kernel_rfl) (hg: ids.contains gi = false := by kernel_rfl) (b: ids'.contains gi = false := by kernel_rfl) (c: (post.all fun p => okO ids' p.2) = true := by kernel_rfl) (e: E.ok ids' = true := by kernel_rfl) (hk: (post.all fun p => ids'.contains p.1) = true := by kernel_rfl): ka0 P f args pre ids E post ids' :=
 hcx0 hf d hn a hg b c e hk h
theorem lh (k:Nat) {rs:List ResultVar} {gi:Nat} {ids ids':List Nat} {res:AV} {post:List (Nat×AObj)} {ψ0:Env} {S1:Nat->Prop} {w0:World} (st2:St) (hl:LeSt (stOf (crun P k g)) st2) (a:st2.heap=(gi, .was ψ0 ids S1 w0)::post) (hi:st2.ids=gi::ids')
  (hc:(nilK (crun P k g) && kn3 (crun P k g).foc)=true) (hr:retA t.T st2 rs=some res):W P g (hQ t.T rs gi ids (.ret res) post ids' ψ0 S1 w0):=by
 refine kct k ?_;generalize crun P k g=g' at *
 obtain ⟨foc,ks,st⟩:=g';simp only [qv] at hc;cases ks with
 | cons=>cases hc.1
 | nil=>
  have hf:kn3 foc=true:=hc.2;unfold kn3 at hf;split at hf;exact k0i hl a hi (.inl rfl) hr;exact k0i hl a hi (.inr rfl) hr
  ·cases hf
def zipR (st:St):List ResultVar->List AV->List (Nat×AV)
 | .tmp t::rs,x::xs=>(t,x)::zipR st rs xs
 | .cell t _::rs,_::xs=>(t,st.get t)::zipR st rs xs
 | _,_=>[]
def retT (st:St):List ResultVar->AV->List (Nat×AV)
 | [.tmp t],a=>[(t,a)]
 | [.cell t _],_=>[(t,st.get t)]
 | rs, .fz (.tup xs)=>zipR st rs (xs.map .fz)
 | rs, .tup xs=>zipR st rs xs
 | _,_=>[]
def retJ (st:St) (rs:List ResultVar) (res:AV) (gi:Nat) (o:AObj) (post:List (Nat×AObj)) (ids':List Nat):St:={ n:=st.n,tmps:=retT st rs res,heap:=(gi,o)::post,ids:=gi::ids' }
theorem lhy (k:Nat) {rs:List ResultVar} {gi:Nat} {ids ids':List Nat} {res:AV} {post:List (Nat×AObj)} {ψ0:Env} {S1:Nat->Prop} {w0:World} (hl:coA (stOf (crun P k g)) (retJ (stOf (crun P k g)) rs res gi (.was ψ0 ids S1 w0) post ids')=some (retJ (stOf (crun P k g)) rs res gi (.was ψ0 ids S1 w0) post ids'):=by kernel_rfl)
  (hc:(nilK (crun P k g) && kn3 (crun P k g).foc)=true:=by kernel_rfl) (hr:retA t.T (retJ (stOf (crun P k g)) rs res gi (.was ψ0 ids S1 w0) post ids') rs=some res:=by kernel_rfl):W P g (hQ t.T rs gi ids (.ret res) post ids' ψ0 S1 w0):=
 lh k _ (le_a hl) rfl rfl hc hr
theorem pcl {f : FuncId} {fn : Func} {args : List FV} {y : FV} (cs : List C1) (hf : P.funcs[f]? = some fn) (h : W P ⟨.code (krc fn), [], { n := fn.ntmps, tmps := krj 0 args, heap := [], ids := [] }⟩ (retQ t.T fn.results.toList cs y)) (b : fn.body.isSome = true := by kernel_rfl) (hn : (fn.name == "runtime.NumGoroutine") = false := by kernel_rfl) (a : Nat.ble args.length fn.ntmps = true := by kernel_rfl) : PCall P f args y := k70 t.ok cs hf (ktj b) hn a h
def pncV (g:Cfg):Option Value:=match g.foc with
 | .ops os (o::_)=>match kb9 os g.st o,o.op with
  | some true, .panic x=>match g.st.eval x with
   | .fz (.atom (.iface t v))=>some (.iface t v)
   | _=>none
  | _,_=>none
 | _=>none
theorem pnc (k:Nat) (v:Value) (h:W P ⟨.fin (.panic [pnE v]),[],stOf (crun P k g)⟩ Q) (hc:pncV (crun P k g)=some v:=by kernel_rfl):W P g Q:=by
 refine kct k ?_;generalize crun P k g=g' at *
 obtain ⟨foc,ks,st⟩:=g';unfold pncV at hc;simp only at hc;split at hc
 ·rename_i os o l;split at hc
  ·rename_i x hg ho;split at hc;rename_i tt u c;injection hc with hc;subst hc;intro F S0 N0 ψ S a w hs;unfold wpList;rw [khg hs hg];have hv:=hs.eval x;rw [c] at hv;have hv:=hv.atom;refine .inl ?_;unfold Oper.wp;have b:(execOp a.eval o).run P w = .halt (.panic (.iface tt u)) w:=(by simp only [execOp,ho,hv,Instr.panic,goPanic];rfl);rw [b];exact ⟨st,ψ,S,k2w h,hs,Fr.refl⟩
   ·cases hc
  ·cases hc
 ·cases hc
def kagq (g:Cfg):Option (FuncId×List AV):=match g.foc with
 | .ops os (o::_)=>match kb9 os g.st o,kvh g.st o,o.op with
  | some true,true, .defer c=>match c.callee,c.args.toList with
   | .value x,[]=>match g.st.eval x with
    | .fn f vs=>some (f,vs)
    | _=>none
   | _,_=>none
  | _,_,_=>none
 | _=>none
def rsmD (gi:Nat) (f:FuncId) (cs:List Value) (vs:List AV) (g:Cfg):Cfg:=match g.foc with
 | .ops os (o::l)=>⟨.ops os l,g.ks,({ g.st with heap:=(gi, .gho cs vs)::g.st.heap,ids:=gi::g.st.ids,dfr:=dfn f cs::g.st.dfr }:St).put o.dst (.fz (.tup []))⟩
 | _=>⟨.bad,g.ks,g.st⟩
theorem dfer (k gi:Nat) (f:FuncId) (vs:List AV) (h:∀ cs,cs.length=vs.length->W P (rsmD gi f cs vs (crun P k g)) Q) (hc:kagq (crun P k g)=some (f,vs):=by kernel_rfl) (e:(stOf (crun P k g)).ids.contains gi=false:=by kernel_rfl):W P g Q:=by
 refine kct k ?_;generalize crun P k g=g' at *
 obtain ⟨foc,ks,st⟩:=g';have m:gi∉st.ids:=by simpa [stOf] using e
 clear e;have e:=m;clear m;unfold kagq at hc;simp only at hc;split at hc
 ·rename_i os o l;split at hc
  ·rename_i c hg C ho;split at hc
   ·rename_i x h1 r;split at hc
    ·rename_i f' vs' s;simp only [qe,qt] at hc;obtain ⟨rfl,rfl⟩:=hc;obtain ⟨cc,as_,ts⟩:=c;simp only at h1 r;have r:as_=#[]:=(by apply qbv;simpa using r);subst h1 r;intro F S0 N0 ψ S a w hs;unfold wpList;rw [khg hs hg];have hv:=hs.eval x;rw [s] at hv;obtain ⟨caps,hcx,z,A⟩:∃ caps:Array Value,a.eval x = .func (.func f') #[] caps/\caps.size=vs'.length/\∀ (i:Nat) (v:Value) (y:AV),caps[i]?=some v->vs'[i]?=some y->RV ψ (·∈st.ids) S w v y:=by
      generalize a.eval x=u at hv;cases hv with
      | fn h hr=>exact ⟨_,rfl,h,hr⟩
     refine .inl ?_;unfold Oper.wp;have p:(execOp a.eval o).run P w = .ok (.defer (dfn f' caps.toList)) w:=(by simp [execOp,ho,resolve,hcx,Deferred.ofValue,dfn]);rw [p];have j:=hs.core.add (n:=0) (v := .nilFunc) (w':=w) (ob := .gho caps.toList vs') (kaj _) e (fun b D=>by cases D)
      ⟨kcl _ _,by rw [kap];rfl,by rw [kap];rfl,fun i v x hv s=>(A i v x (by simpa using hv) s).keep (kb5 e _ _) (fun _ h=>qk _ h) (fun _ h=>h) (fun _ _ _=>rfl)⟩
     have B:Sim F S0 N0 { st with heap:=(gi, .gho caps.toList vs')::st.heap,ids:=gi::st.ids,dfr:=dfn f' caps.toList::st.dfr } (ψ.set gi 0 .nilFunc) S { a with defers:=dfn f' caps.toList::a.defers } w:=
      ⟨by show _::a.defers=_;rw [hs.defers],hs.size,fun t=>(hs.tmps t).keep (kb5 e _ _) (fun _ h=>qk _ h) (fun _ h=>h) (fun _ _ _=>rfl),j⟩
     have q:=B.put (st':={ st with heap:=(gi, .gho caps.toList vs')::st.heap,ids:=gi::st.ids,dfr:=dfn f' caps.toList::st.dfr }) (d:=o.dst) (v:=undef) (c := .fz (.tup [])) rfl rfl rfl j (.fz RF.undef) Ext.refl (fun _ h=>h) (fun _ h=>h) (fun _ _ _=>rfl) (kpp C);exact h caps.toList (by simpa using z) F S0 N0 _ S _ w q
    ·cases hc
   ·cases hc
  ·cases hc
 ·cases hc
def k0u:Foc->Option Exit
 | .fin e=>some e
 | _=>none
def kaag (fn:Func):Code:=match kpe fn with
 | some q=>q.2.2
 | none => .skip
def dfxQ (T:List (TypeId×TD)) (rs:List ResultVar) (gi0:Nat) (ids:List Nat) (E:HEnd) (post:List (Nat×AObj)) (ids':List Nat) (ψ0:Env) (S1:Nat->Prop) (w0:World) (keep:List Nat) (gi2:Nat) (ocs:List Value) (st:St):Exit->St->Prop:=fun e2 st2=>
 (e2 = .normal\/e2 = .ret)/\st2.dfr=[]/\∃ vs',kad st2.heap gi2=some (.gho ocs vs')/\hQ T rs gi0 ids E post ids' ψ0 S1 w0 .ret (dstB keep gi2 vs' st st2)
theorem dfx (k gi2 t1 t2:Nat) (keep:List Nat) {rs:List ResultVar} {gi0:Nat} (gi:Nat) {ids ids':List Nat} {E:HEnd} {post:List (Nat×AObj)} {ψ0:Env} {S1:Nat->Prop} {w0:World} {f:FuncId} {fn2:Func} {cvals:List Value} {vs:List AV} (pv:Value) (e:Exit) (b: cvals.length = vs.length) (hf: P.funcs[f]? = some fn2) (h: ∀ ocs, W P ⟨.code (kaag fn2), [], dst0 keep fn2.ntmps t1 t2 pv vs gi2 ocs (stOf (crun P k g))⟩ (dfxQ t.T rs gi0 ids E post ids' ψ0 S1 w0 keep gi2 ocs (stOf (crun P k g)))) (j: kad (stOf (crun P k g)).heap gi = some (.gho cvals vs) := by kernel_rfl) (a: (bif nilK (crun P k g) then k0u (crun P k g).foc else none) = some e := by kernel_rfl) (l: recV e = some pv := by kernel_rfl) (c: (stOf (crun P k g)).ids.contains gi2 = false := by kernel_rfl) (m: kpe fn2 = some (t1, t2, kaag fn2):=by kernel_rfl) (hn: (fn2.name == "runtime.NumGoroutine") = false:=by kernel_rfl) (d: Nat.ble vs.length fn2.ntmps = true:=by kernel_rfl) (i: (stOf (crun P k g)).dfr = [dfn f cvals]:=by kernel_rfl): W P g (hdQ P t.T rs gi0 ids E post ids' ψ0 S1 w0) := by
 refine kct k ?_;generalize crun P k g=g' at *
 obtain ⟨foc,ks,st⟩:=g';cases ks with
 | cons=>cases a
 | nil=>
  simp only [nilK,qd] at a;unfold k0u at a;split at a;injection a with a;subst a;exact .inr ⟨keep,f,fn2,t1,t2,kaag fn2,gi,cvals,vs,pv,gi2,i,j,b,hf,m,hn,d,l,c,fun ocs=>h ocs⟩
  ·cases a
theorem ldx (k:Nat) {rs:List ResultVar} {gi0 gi2:Nat} {ids ids':List Nat} {res:AV} {post:List (Nat×AObj)} {ψ0:Env} {S1:Nat->Prop} {w0:World} {keep:List Nat} {ocs:List Value} (vs':List AV) {st:St} (st3:St) (hl:LeSt (dstB keep gi2 vs' st (stOf (crun P k g))) st3) (b:st3.heap=(gi0, .was ψ0 ids S1 w0)::post) (hi:st3.ids=gi0::ids') (hr:retA t.T st3 rs=some res:=by kernel_rfl) (hc:(bif nilK (crun P k g) && kn3 (crun P k g).foc then kad (stOf (crun P k g)).heap gi2 else none)=some (.gho ocs vs'):=by kernel_rfl) (a:(stOf (crun P k g)).dfr=[]:=by kernel_rfl):W P g (dfxQ t.T rs gi0 ids (.ret res) post ids' ψ0 S1 w0 keep gi2 ocs st):=by
 refine kct k ?_;generalize crun P k g=g' at *
 obtain ⟨foc,ks,st'⟩:=g';cases ks with
 | cons=>cases hc
 | nil=>
  simp only [nilK,Bool.true_and] at hc;cases hf:kn3 foc with
  | false=>rw [hf] at hc;cases hc
  | true=>
   rw [hf] at hc;unfold kn3 at hf;split at hf;exact ⟨.inl rfl,a,vs',hc,k0i hl b hi (.inr rfl) hr⟩;exact ⟨.inr rfl,a,vs',hc,k0i hl b hi (.inr rfl) hr⟩
   ·cases hf
theorem hdx {f: FuncId} {fn: Func} {args: List AV} {pre: List (Nat × AObj)} {ids: List Nat} {E: HEnd} {post: List (Nat × AObj)} {ids': List Nat} (gi: Nat) (hf: P.funcs[f]? = some fn) (h: ∀ ψ0 S1 w0, W P ⟨.code (krc fn), [], { n := fn.ntmps, tmps := argT 0 args, heap := (gi, .was ψ0 ids S1 w0) :: pre, ids := gi :: ids }⟩ (hdQ P t.T fn.results.toList gi ids E post ids' ψ0 S1 w0)) (d: fn.body.isSome = true := by kernel_rfl) (hn: (fn.name == "runtime.NumGoroutine") = false := by kernel_rfl) (a: Nat.ble args.length fn.ntmps = true := by kernel_rfl) (hg: ids.contains gi = false := by kernel_rfl) (b: ids'.contains gi = false := by kernel_rfl) (c: (post.all fun p => okO ids' p.2) = true := by kernel_rfl) (e: E.ok ids' = true := by kernel_rfl) (hk: (post.all fun p => ids'.contains p.1) = true := by kernel_rfl): ka0 P f args pre ids E post ids' :=
 k5c t.ok hf (ktj d) hn a hg b c e hk h
theorem lhp (k:Nat) {rs:List ResultVar} {gi:Nat} {ids ids':List Nat} {v:Value} {post:List (Nat×AObj)} {ψ0:Env} {S1:Nat->Prop} {w0:World} (st2:St) (hl:LeSt (stOf (crun P k g)) st2) (a:st2.heap=(gi, .was ψ0 ids S1 w0)::post) (hi:st2.ids=gi::ids') (b:st2.dfr=[]) (hc:(bif nilK (crun P k g) then k0u (crun P k g).foc else none)=some (.panic [pnE v]):=by kernel_rfl):W P g (hQ t.T rs gi ids (.pan v) post ids' ψ0 S1 w0):=by
 refine kct k ?_;generalize crun P k g=g' at *
 obtain ⟨foc,ks,st⟩:=g';cases ks with
 | cons=>cases hc
 | nil=>
  simp only [nilK,qd] at hc;unfold k0u at hc;split at hc;injection hc with hc;subst hc;exact kalb hl a hi b
  ·cases hc
theorem hcx2 {α α':Type} {f:FuncId} {fn:Func} {args:List AV} {pre:List (Nat×AObj)} {ids:List Nat} {E:α->HEnd} {post:α->List (Nat×AObj)} {ids':List Nat} {E2:α'->HEnd} {post2:α'->List (Nat×AObj)} {ids2:List Nat} (gi:Nat) {r:α ⊕ α'} (hf: P.funcs[f]? = some fn) (h:∀ ψ0 S1 w0,W P ⟨.code (krc fn),[],{ n:=fn.ntmps,tmps:=argT 0 args,heap:=(gi, .was ψ0 ids S1 w0)::pre,ids:=gi::ids }⟩
   (Sum.elim (fun v=>hQ t.T fn.results.toList gi ids (E v) (post v) ids' ψ0 S1 w0) (fun v=>hQ t.T fn.results.toList gi ids (E2 v) (post2 v) ids2 ψ0 S1 w0) r)) (j: fn.body.isSome = true:=by kernel_rfl) (hn: (fn.name == "runtime.NumGoroutine") = false:=by kernel_rfl) (a: Nat.ble args.length fn.ntmps = true:=by kernel_rfl) (hg: ids.contains gi = false:=by kernel_rfl) (b:ids'.contains gi=false:=by kernel_rfl) (c:∀ v,((post v).all fun p=>okO ids' p.2)=true:=by intro _;kernel_rfl) (k:∀ v,(E v).ok ids'=true:=by intro _;kernel_rfl) (hk:∀ v,((post v).all fun p=>ids'.contains p.1)=true:=by intro _;kernel_rfl) (d:ids2.contains gi=false:=by kernel_rfl) (e:∀ v,((post2 v).all fun p=>okO ids2 p.2)=true:=by intro _;kernel_rfl) (g:∀ v,(E2 v).ok ids2=true:=by intro _;kernel_rfl) (i:∀ v,((post2 v).all fun p=>ids2.contains p.1)=true:=by intro _;kernel_rfl):
  Sum.elim (fun v=>ka0 P f args pre ids (E v) (post v) ids') (fun v=>ka0 P f args pre ids (E2 v) (post2 v) ids2) r:=by
 cases r with
 | inl v=>exact hcx0 hf j hn a hg b (c v) (k v) (hk v) h
 | inr v=>exact hcx0 hf j hn a hg d (e v) (g v) (i v) h
theorem hpan (k:Nat) {f:FuncId} {cap:List AV} {x:Operand} {args:Array Operand} {ts:Array TypeId} {cs:List C1} {as1 as2 pre:_} {ids0 ids1:List Nat} {v:Value} {post:List (Nat×AObj)} {keys:List Nat} (r1 r2:List (Nat×Nat)) (hv:okP (crun P k g)=true) (ho:(kp0 (crun P k g)).op = .call { callee := .value x,args:=args,argTypes:=ts })
  (e:fnOf args.size ((stOf (crun P k g)).eval x)=some (f,cap)) (hc:ka0 P f (as1++as2) pre ids0 (.pan v) post ids1) (a:kq2 (stOf (crun P k g)) r1 (renI r2 ids0) cs args.toList=some as1) (c:kq0 r1 (renI r2 ids0) cap=some as2)
  (b:koq (stOf (crun P k g)) r1 r2 keys ids0 ids1 post=true) (d:preX (stOf (crun P k g)) r1 r2 (renI r2 ids0) keys=some pre)
  (h:W P ⟨.fin (.panic [pnE v]),[],{ stOf (crun P k g) with heap:=renH r2 post++kk4 (renI r2 ids0) (stOf (crun P k g)).heap,ids:=renI r2 ids1++(stOf (crun P k g)).ids }⟩ Q):W P g Q:=by
 refine kct k ?_;generalize crun P k g=g' at *
 obtain ⟨foc,ks,st⟩:=g';unfold okP at hv;simp only at hv;split at hv
 ·split at hv;rename_i hg i;exact h_pan r1 r2 ho e hc a c b d hg (k2w h)
  ·cases hv
 ·cases hv
def kts {γ:Type} (f:Oper->St->Option γ) (g:Cfg):Option γ:=bif okP g then f (kp0 g) (stOf g) else none
theorem kvr {γ:Type} {f:Oper->St->Option γ} {z:γ} {g:Cfg} (h:kts f g=some z):okP g=true/\f (kp0 g) (stOf g)=some z:=by
 unfold kts at h;cases hk:okP g with
 | false=>rw [hk] at h;cases h
 | true=>rw [hk] at h;exact ⟨rfl,h⟩
def tabX (T:List (TypeId×TD)) (o:Oper) (st:St):Option (TypeId×Int×Int×Nat):=match o.op with
 | .makeSlice t X Y=>match kag T t with
  | some d=>match d.kind,st.eval X,st.eval Y with
   | .slice e, .fz (.atom (.int _ n)), .fz (.atom (.int _ m))=>match kag T e with
    | some de=>match de.zero with
     | [.slice none 0 0]=>bif Nat.beq de.size 1 then some (e,n,m,de.bytes) else none
     | _=>none
    | none=>none
   | _,_,_=>none
  | none=>none
 | _=>none
theorem tabm {α:Type} (f:α->Value) {bytes:Nat} {n:Int} (eo:TypeId) {K:List (List α)->Option β} (k id:Nat) (ei:TypeId) (h:Option.bind (mkL bytes ([]:List α) n) K=some r) (c:∀ v,K v=some r->∀ ov,W P (rsmA (.fz (.atom ov)) ((id, .tab 0 ov eo ei (v.map (List.map f)))::(stOf (crun P k g)).heap) (id::(stOf (crun P k g)).ids) (crun P k g)) Q) (hc:kts (tabX t.T) (crun P k g)=some (eo,n,n,bytes):=by kernel_rfl) (i:(stOf (crun P k g)).ids.contains id=false:=by kernel_rfl):W P g Q:=by
 obtain ⟨v,h1,u⟩:=qf.1 h;obtain ⟨rfl,h0,w,j⟩:=k57 h1;have c:=c _ u;refine kct k ?_;generalize crun P k g=g' at *
 obtain ⟨hk,a⟩:=kvr hc;obtain ⟨foc,ks,st⟩:=g';cases foc with
 | ops os l=>
  cases l with
  | nil=>cases hk
  | cons o l=>
   have a:tabX t.T o st=some (eo,n,n,bytes):=a;unfold okP at hk;simp only at hk;split at hk
   ·rename_i hg x;unfold tabX at a;split at a
    ·rename_i tt X Y ho;split at a
     ·rename_i d m;split at a
      ·rename_i e k1 n' k2 m' p y z;split at a
       ·rename_i de q;split at a
        ·rename_i s;cases b:Nat.beq de.size 1 with
         | false=>rw [b] at a;cases a
         | true=>
          rw [b] at a;simp only [qd,qe,qt] at a;obtain ⟨rfl,rfl,rfl,rfl⟩:=a;refine l_tab (id:=id) ei ho t.ok m p q (qm b) s y z h0 w j i hg (kpp x) fun ov=>?_;have:=c ov;rw [List.map_replicate] at this;exact this
        ·cases a
       ·cases a
      ·cases a
     ·cases a
    ·cases a
   ·cases hk
 | _=>cases hk
end
attribute [irreducible] W
def k43 {α:Type} (xs ys:List α):Option Unit:=if xs.length=ys.length then some () else none
theorem k0r {α:Type} {xs ys:List α} {u:Unit} (h:k43 xs ys=some u):xs.length=ys.length:=by
 unfold k43 at h;split at h
 ·assumption
 ·cases h
structure En (α:Type) where
 f:α->FV
 n:Nat
 cl:α->List FV
 hcl:∀ x,(f x).cells=cl x
 hn:∀ x,(f x).cells.length=n
def nB:En Bool:=⟨eB,1,fun x=>[eB x],fun _=>rfl,fun _=>rfl⟩
def nI:En Int:=⟨eI,1,fun x=>[eI x],fun _=>rfl,fun _=>rfl⟩
def nS:En BA:=⟨eS,1,fun x=>[eS x],fun _=>rfl,fun _=>rfl⟩
def nU8:En Int:=⟨eU8,1,fun x=>[eU8 x],fun _=>rfl,fun _=>rfl⟩
def nL {α:Type} (s:Nat) (E:En α):En (List α):=⟨eL s E.f,1,fun x=>[eL s E.f x],fun _=>rfl,fun _=>rfl⟩
def nVaR:En Va:=⟨eVaR,4,fun x=>(eVa x).cells,kaa4,kaer⟩
def nTmR:En Tm:=⟨eTmR,2,fun x=>(eTm x).cells,k96,kafa⟩
def nSy:En Sy:=⟨eSy,2,fun x=>(eSy x).cells,fun _=>rfl,fun _=>rfl⟩
def nRu:En Ru:=⟨eRu,9,fun x=>(eRu x).cells,fun _=>rfl,fun _=>rfl⟩
def kvi {γ:Type} (f:Oper->St->Option γ) (g:Cfg):Option γ:=match ksw g with
 | some p=>f p.1 p.2
 | none=>none
section
variable {P:Program} [t:Tab P] {Q:Exit->St->Prop} {g:Cfg} {β:Type} {r:β}
theorem vst {γ:Type} {f:Oper->St->Option γ} {z:γ} {c:AV} (k:Nat) (hc:kvi f (crun P k g)=some z) (hn:∀ o v,f o v=some z->NStep P o v c) (h:W P (rsm c (crun P k g)) Q):W P g Q:=by
 refine kct k ?_;unfold kvi at hc;split at hc;rename_i p hp;exact k6g hp (hn _ _ hc) h
 ·cases hc
def ixOf (T:List (TypeId×TD)) (o:Oper) (st:St):Option (Nat×List FV×Int):=match o.op with
 | .indexAddr t x y=>match kag T t with
  | some d=>match d.kind,kpz (st.eval x),st.eval y with
   | .slice e,some xs, .fz (.atom (.int _ i))=>match kag T e with
    | some de=>some (de.size,xs,i)
    | none=>none
   | _,_,_=>none
  | none=>none
 | _=>none
theorem ix {α:Type} {ys:List α} {i:Int} {K:α->Option β} (E:En α) (k:Nat) (h:Option.bind (idx ys i) K=some r) (c:∀ v,K v=some r->W P (rsm (.fz (.fp (E.cl v))) (crun P k g)) Q) (hc:kvi (ixOf t.T) (crun P k g)=some (E.n,ys.map E.f,i):=by kernel_rfl):W P g Q:=by
 obtain ⟨v,h1,j⟩:=qf.1 h;refine vst k hc (fun o st a=>?_) (c v j);unfold ixOf at a;split at a
 ·rename_i tt x y ho;split at a
  ·rename_i d l;split at a
   ·rename_i e xs k' i' hk m hy;split at a;rename_i de b;simp only [qe,qt] at a;obtain ⟨z1,z2,z3⟩:=a;subst z2 z3;exact kahx E.f h1 t.ok ho l hk b m (fun x=>by rw [E.hn,z1]) hy (E.hcl v)
    ·cases a
   ·cases a
  ·cases a
 ·cases a
def byOf (T:List (TypeId×TD)) (o:Oper) (st:St):Option (BA×Int):=match o.op with
 | .index t x y=>match kag T t with
  | some d=>match d.kind,st.eval x,st.eval y with
   | .str, .fz (.atom (.string s)), .fz (.atom (.int _ i))=>some (s,i)
   | _,_,_=>none
  | none=>none
 | _=>none
theorem byx {s:BA} {i:Int} {K:Int->Option β} (k:Nat) (h:Option.bind (byt s i) K=some r) (b:∀ v,K v=some r->W P (rsm (.fz (eU8 v)) (crun P k g)) Q) (hc:kvi (byOf t.T) (crun P k g)=some (s,i):=by kernel_rfl):W P g Q:=by
 obtain ⟨v,h1,c⟩:=qf.1 h;refine vst k hc (fun o st a=>?_) (b v c);unfold byOf at a;split at a
 ·rename_i tt x y ho;split at a
  ·rename_i d e;split at a;rename_i s' k' i' hk f hy;simp only [qe,qt] at a;obtain ⟨rfl,rfl⟩:=a;exact kamk h1 t.ok ho e hk f hy
   ·cases a
  ·cases a
 ·cases a
def tyCs (T:List (TypeId×TD)):Nat->TypeId->List C0
 | 0,_=>[]
 | n+1,t=>match kag T t with
  | some d=>match d.kind with
   | .slice e=>match kag T e with
    | some de=>[.sl de.size]
    | none=>[.keep]
   | .st fs=>fs.flatMap fun p=>tyCs T n p.1
   | .arr m e=>(List.replicate m e).flatMap fun e=>tyCs T n e
   | _=>[.keep]
  | none=>[.keep]
def tyC (T:List (TypeId×TD)) (t:TypeId):C1:=match kag T t with
 | some d=>match d.kind with
  | .slice e=>match kag T e with
   | some de => .one (.sl de.size)
   | none => .one .keep
  | .st _ => .ag (tyCs T 9 t)
  | .arr _ _ => .ag (tyCs T 9 t)
  | _ => .one .keep
 | none => .one .keep
def clOf (T:List (TypeId×TD)) (o:Oper) (st:St):Option (FuncId×List FV):=match o.op with
 | .call c=>match c.callee with
  | .value (.func f)=>match kuk st (c.argTypes.toList.map (tyC T)) c.args.toList with
   | some ys=>some (f,ys)
   | none=>none
  | _=>none
 | _=>none
theorem cl {α:Type} {E:Option α} {K:α->Option β} {f:FuncId} {ys:List FV} {y:α->FV} (k:Nat) (h:Option.bind E K=some r) (hp:∀ v,E=some v->PCall P f ys (y v)) (b:∀ v,K v=some r->W P (rsm (.fz (y v)) (crun P k g)) Q) (hc:kvi (clOf t.T) (crun P k g)=some (f,ys):=by kernel_rfl):W P g Q:=by
 obtain ⟨v,h1,d⟩:=qf.1 h;refine vst k hc (fun o st a=>?_) (b v d);unfold clOf at a;split at a
 ·rename_i c ho;split at a
  ·rename_i f' hf;split at a;rename_i ys' hy;simp only [qe,qt] at a;obtain ⟨rfl,rfl⟩:=a;obtain ⟨cc,as_,ts⟩:=c;simp only at hf;subst hf;exact kadw ho hy (hp v h1)
   ·cases a
  ·cases a
 ·cases a
def hcOf (cs:List C1) (r1 r2:List (Nat×Nat)) (keys ids0 ids1:List Nat) (post:List (Nat×AObj)) (o:Oper) (st:St):Option (FuncId×List AV×List (Nat×AObj)):=match o.op with
 | .call c=>match c.callee with
  | .value x=>match fnOf c.args.size (st.eval x) with
   | some (f,cap)=>match kq2 st r1 (renI r2 ids0) cs c.args.toList,kq0 r1 (renI r2 ids0) cap,preX st r1 r2 (renI r2 ids0) keys with
    | some as1,some as2,some pre=>bif koq st r1 r2 keys ids0 ids1 post then some (f,as1++as2,pre) else none
    | _,_,_=>none
   | _=>none
  | _=>none
 | _=>none
theorem hcl {α:Type} {E:Option α} {K:α->Option β} {f:FuncId} {as_:List AV} {pre:List (Nat×AObj)} {ids0 ids1:List Nat} {res:α->AV} {post:α->List (Nat×AObj)} (k:Nat) (cs:List C1) (r1 r2:List (Nat×Nat)) (keys:List Nat) (h:Option.bind E K=some r)
  (hp:∀ v,E=some v->ka0 P f as_ pre ids0 (.ret (res v)) (post v) ids1) (hc:∀ v,kts (hcOf cs r1 r2 keys ids0 ids1 (post v)) (crun P k g)=some (f,as_,pre))
  (i:∀ v,K v=some r->W P (rsmA (renA r2 (res v)) (renH r2 (post v)++kk4 (renI r2 ids0) (stOf (crun P k g)).heap) (renI r2 ids1++(stOf (crun P k g)).ids) (crun P k g)) Q):W P g Q:=by
 obtain ⟨v,h1,j⟩:=qf.1 h;obtain ⟨hk,a⟩:=kvr (hc v);refine sst k ?_ (i v j) (hv:=hk);unfold hcOf at a;split at a
 ·rename_i c ho;split at a
  ·rename_i x e;split at a
   ·rename_i f' cap b;split at a
    ·rename_i as1 as2 pre' e1 e2 e3;cases d:koq (stOf (crun P k g)) r1 r2 keys ids0 ids1 (post v) with
     | false=>rw [d] at a;cases a
     | true=>
      rw [d] at a;simp only [qd,qe,qt] at a;obtain ⟨rfl,rfl,rfl⟩:=a;obtain ⟨cc,as_,ts⟩:=c;simp only at e;subst e;exact k6z r1 r2 ho b (hp v h1) e1 e2 d e3
    ·cases a
   ·cases a
  ·cases a
 ·cases a
theorem k2z {cs:List C1} {r1 r2:List (Nat×Nat)} {keys ids0 ids1:List Nat} {post:List (Nat×AObj)} {o:Oper} {st:St} {f:FuncId} {as_:List AV} {pre:List (Nat×AObj)} (a:hcOf cs r1 r2 keys ids0 ids1 post o st=some (f,as_,pre)):
  ∃ x args ts cap as1 as2,o.op = .call { callee := .value x,args:=args,argTypes:=ts }/\fnOf args.size (st.eval x)=some (f,cap)/\kq2 st r1 (renI r2 ids0) cs args.toList=some as1/\kq0 r1 (renI r2 ids0) cap=some as2/\as_=as1++as2/\koq st r1 r2 keys ids0 ids1 post=true/\preX st r1 r2 (renI r2 ids0) keys=some pre:=by
 unfold hcOf at a;split at a
 ·rename_i c ho;split at a
  ·rename_i x d;split at a
   ·rename_i f' cap b;split at a
    ·rename_i as1 as2 pre' e1 e2 e3;cases e:koq st r1 r2 keys ids0 ids1 post with
     | false=>rw [e] at a;cases a
     | true=>
      rw [e] at a;simp only [qd,qe,qt] at a;obtain ⟨rfl,rfl,rfl⟩:=a;obtain ⟨cc,as_,ts⟩:=c;simp only at d;subst d;exact ⟨x,as_,ts,cap,as1,as2,ho,b,e1,e2,rfl,rfl,e3⟩
    ·cases a
   ·cases a
  ·cases a
 ·cases a
theorem hclS {α α':Type} {E:Option (α ⊕ α')} {K1:α->Option β} {K2:α'->Option β} {f:FuncId} {as_:List AV} {pre:List (Nat×AObj)} {ids0 ids1 ids2:List Nat} {res:α->AV} {post:α->List (Nat×AObj)} {pv:α'->Value} {post2:α'->List (Nat×AObj)} (k:Nat) (cs:List C1) (r1 r2:List (Nat×Nat)) (keys:List Nat) (h:Option.bind E (fun v=>Sum.elim K1 K2 v)=some r) (hp:∀ v,E=some v->Sum.elim (fun v=>ka0 P f as_ pre ids0 (.ret (res v)) (post v) ids1) (fun v=>ka0 P f as_ pre ids0 (.pan (pv v)) (post2 v) ids2) v) (a:∀ v,K2 v=some r->W P ⟨.fin (.panic [pnE (pv v)]),[],{ stOf (crun P k g) with heap:=renH r2 (post2 v)++kk4 (renI r2 ids0) (stOf (crun P k g)).heap,ids:=renI r2 ids2++(stOf (crun P k g)).ids }⟩ Q) (c:∀ v,K1 v=some r->W P (rsmA (renA r2 (res v)) (renH r2 (post v)++kk4 (renI r2 ids0) (stOf (crun P k g)).heap) (renI r2 ids1++(stOf (crun P k g)).ids) (crun P k g)) Q) (hc:∀ v,kts (hcOf cs r1 r2 keys ids0 ids1 (post v)) (crun P k g)=some (f,as_,pre):=by intro _;kernel_rfl) (hc2:∀ v,kts (hcOf cs r1 r2 keys ids0 ids2 (post2 v)) (crun P k g)=some (f,as_,pre):=by intro _;kernel_rfl):W P g Q:=by
 obtain ⟨v,h1,b⟩:=qf.1 h;have hp:=hp v h1;cases v with
 | inl v=>exact hcl k cs r1 r2 keys (E:=some v) (K:=fun v=>K1 v) b (res:=res) (post:=post) (fun v' hv=>by injection hv with hv;subst hv;exact hp) hc c
 | inr v=>
  obtain ⟨hk,d⟩:=kvr (hc2 v);obtain ⟨x,args,ts,cap,as1,as2,e1,e2,e3,e4,rfl,e5,e6⟩:=k2z d;exact hpan k r1 r2 hk e1 e2 hp e3 e4 e5 e6 (a v b)
structure ApR where
 id:Nat
 e:TypeId
 size:Nat
 bytes:Nat
 n:Nat
 xs:List FV
 ys:List FV
def kaao (size:Nat):AV->Option (List FV)
 | .fz (.lst s _ ys)=>bif Nat.beq s size then some ys else none
 | .lim s _ ys=>bif Nat.beq s size then some ys else none
 | _=>none
theorem kaee {size:Nat} {x:AV} {ys:List FV} (h:kaao size x=some ys):∃ m,x = .fz (.lst size m ys)\/x = .lim size m ys:=by
 unfold kaao at h;split at h
 ·rename_i s m zs;cases a:Nat.beq s size with
  | false=>rw [a] at h;cases h
  | true=>
   rw [a] at h;obtain rfl:=qm a;obtain rfl:=qas h;exact ⟨m, .inl rfl⟩
 ·rename_i s m zs;cases a:Nat.beq s size with
  | false=>rw [a] at h;cases h
  | true=>
   rw [a] at h;obtain rfl:=qm a;obtain rfl:=qas h;exact ⟨m, .inr rfl⟩
 ·cases h
def apOf (T:List (TypeId×TD)) (o:Oper) (st:St):Option ApR:=match o.op with
 | .call c=>match c.callee,c.args.toList,c.argTypes.toList with
  | .builtin .append,[X,Y],[t,u]=>bif Nat.beq u t then (match kag T t with
   | some d=>match d.kind,st.eval X with
    | .slice e, .row id n=>match kag T e,kad st.heap id with
     | some de,some (.frow e' s xs)=>match kaao de.size (st.eval Y) with
      | some ys=>bif Nat.beq e' e && (Nat.beq s de.size && (Nat.ble 1 de.size && Nat.beq de.zero.length de.size)) then some ⟨id,e,de.size,de.bytes,n,xs,ys⟩ else none
      | none=>none
     | _,_=>none
    | _,_=>none
   | none=>none) else none
  | _,_,_=>none
 | _=>none
theorem k13 {α:Type} {E:En α} {xs ys v:List α} {o:Oper} {st:St} {q:ApR} (a:apOf t.T o st=some q) (h:app q.bytes xs ys=some v) (hn:q.n=xs.length) (j:q.xs=xs.map E.f) (hy:q.ys=ys.map E.f):
  ∃ (X Y:Operand) (ty:TypeId) (d de:TD) (m:Nat),o.op = .call { callee := .builtin .append,args:=#[X,Y],argTypes:=#[ty,ty] }/\kag t.T ty=some d/\d.kind = .slice q.e/\kag t.T q.e=some de/\de.size=q.size/\Nat.ble 1 de.size=true/\de.zero.length=de.size/\de.bytes=q.bytes /\
   st.eval X = .row q.id xs.length/\kad st.heap q.id=some (.frow q.e de.size (xs.map E.f))/\(st.eval Y = .fz (.lst de.size m (ys.map E.f))\/st.eval Y = .lim de.size m (ys.map E.f)):=by
 unfold apOf at a;split at a
 ·rename_i c ho;split at a
  ·rename_i X Y ty u h1 k l;cases hu:Nat.beq u ty with
   | false=>rw [hu] at a;cases a
   | true=>
    rw [hu] at a;obtain rfl:=qm hu;simp only [qd] at a;split at a
    ·rename_i d p;split at a
     ·rename_i e id n hk r;split at a
      ·rename_i de e' s xs' g i;split at a
       ·rename_i ys' w;cases b:(Nat.beq e' e && (Nat.beq s de.size && (Nat.ble 1 de.size && Nat.beq de.zero.length de.size))) with
        | false=>rw [b] at a;cases a
        | true=>
         rw [b] at a;obtain rfl:=qas a;simp only [qv] at b;obtain ⟨b1,b2,b3,b4⟩:=b;obtain rfl:=qm b1;obtain rfl:=qm b2;simp only at hn j hy;subst hn j hy;obtain ⟨m,hm⟩:=kaee w;obtain ⟨cc,as_,ts⟩:=c;simp only at h1 k l;rw [h1,ktv k,ktv l] at ho;exact ⟨X,Y,_,d,de,m,ho,p,hk,g,rfl,b3,qm b4,rfl,r,i,hm⟩
       ·cases a
      ·cases a
     ·cases a
    ·cases a
  ·cases a
 ·cases a
def apK (q:Option ApR):Option (Nat×Nat×List FV×List FV):=match q with
 | some q=>some (q.bytes,q.n,q.xs,q.ys)
 | none=>none
def apG {α:Type} (T:List (TypeId×TD)) (E:En α) (v:List α) (g:Cfg):Cfg:=match kts (apOf T) g with
 | some q=>rsmA (.row q.id v.length) ((q.id, .frow q.e q.size (v.map E.f))::(stOf g).heap) (stOf g).ids g
 | none=>⟨.bad,g.ks,g.st⟩
theorem ap {α:Type} {bytes:Nat} {xs ys:List α} {K:List α->Option β} (E:En α) (k:Nat) (h:Option.bind (app bytes xs ys) K=some r) (a:∀ v,K v=some r->W P (apG t.T E v (crun P k g)) Q) (hc:apK (kts (apOf t.T) (crun P k g))=some (bytes,xs.length,xs.map E.f,ys.map E.f):=by kernel_rfl):W P g Q:=by
 obtain ⟨v,h1,c⟩:=qf.1 h;have a:=a v c;unfold apK at hc;split at hc;rename_i q b;simp only [qe,qt] at hc;obtain ⟨rfl,e1,e2,e3⟩:=hc;unfold apG at a;rw [b] at a;obtain ⟨hk,e⟩:=kvr b;refine sst k ?_ a (hv:=hk);obtain ⟨X,Y,ty,d,de,m,k1,k2,k3,k4,k5,k6,k7,k8,k9,k10,k11⟩:=k13 e h1 e1 e2 e3;rw [<- k5];exact kze E.f h1 t.ok k1 k2 k3 k4 k6 k7 k8 k9 k10 rfl k11
 ·cases hc
def koo {γ:Type} (f:Oper->St->Option γ) (g:Cfg):Option γ:=bif okZ g then f (kp0 g) (kit g) else none
theorem ktp {γ:Type} {f:Oper->St->Option γ} {z:γ} {g:Cfg} (h:koo f g=some z):okZ g=true/\f (kp0 g) (kit g)=some z:=by
 unfold koo at h;cases hk:okZ g with
 | false=>rw [hk] at h;cases h
 | true=>rw [hk] at h;exact ⟨rfl,h⟩
def apZh {α:Type} (T:List (TypeId×TD)) (E:En α) (v:List α) (g:Cfg):List (Nat×AObj):=match koo (apOf T) g with
 | some q=>(q.id, .frow q.e q.size (v.map E.f))::(kit g).heap
 | none=>[]
def apGZ {α:Type} (T:List (TypeId×TD)) (E:En α) (v:List α) (g:Cfg):Cfg:=match koo (apOf T) g with
 | some q=>rsmZ (.row q.id v.length) (apZh T E v g) (kit g).ids g
 | none=>⟨.bad,g.ks,g.st⟩
theorem apZ {α:Type} {bytes:Nat} {xs ys:List α} {K:List α->Option β} (E:En α) (k:Nat) (h:Option.bind (app bytes xs ys) K=some r) (a:∀ v,K v=some r->W P (apGZ t.T E v (crun P k g)) Q) (hc:apK (koo (apOf t.T) (crun P k g))=some (bytes,xs.length,xs.map E.f,ys.map E.f):=by kernel_rfl) (hi:idsZ (kit (crun P k g)).ids (crun P k g)=true:=by kernel_rfl) (hk:∀ v,offZ (crun P k g) (apZh t.T E v (crun P k g))=offZ (crun P k g) (hpZ (crun P k g)):=by intro _;kernel_rfl):W P g Q:=by
 obtain ⟨v,h1,e⟩:=qf.1 h;have a:=a v e;have hk:=hk v;unfold apK at hc;split at hc;rename_i q b;simp only [qe,qt] at hc;obtain ⟨rfl,e1,e2,e3⟩:=hc;unfold apGZ at a;rw [b] at a;obtain ⟨c,i⟩:=ktp b;refine zst k ?_ a (hv:=c) (hi:=hi) (hk:=hk);obtain ⟨X,Y,ty,d,de,m,k1,k2,k3,k4,k5,k6,k7,k8,k9,k10,k11⟩:=k13 i h1 e1 e2 e3;unfold apZh;rw [b];simp only;rw [<- k5];exact kze E.f h1 t.ok k1 k2 k3 k4 k6 k7 k8 k9 k10 rfl k11
 ·cases hc
theorem hclZ {α:Type} {E:Option α} {K:α->Option β} {f:FuncId} {as_:List AV} {pre:List (Nat×AObj)} {ids0 ids1:List Nat} {res:α->AV} {post:α->List (Nat×AObj)} (k:Nat) (cs:List C1) (r1 r2:List (Nat×Nat)) (keys:List Nat) (h:Option.bind E K=some r) (hp:∀ v,E=some v->ka0 P f as_ pre ids0 (.ret (res v)) (post v) ids1) (b:∀ v,K v=some r->W P (rsmZ (renA r2 (res v)) (renH r2 (post v)++kk4 (renI r2 ids0) (kit (crun P k g)).heap) (renI r2 ids1++(kit (crun P k g)).ids) (crun P k g)) Q) (hc:∀ v,koo (hcOf cs r1 r2 keys ids0 ids1 (post v)) (crun P k g)=some (f,as_,pre):=by intro _;kernel_rfl) (hi:idsZ (renI r2 ids1++(kit (crun P k g)).ids) (crun P k g)=true:=by kernel_rfl) (hk:∀ v,offZ (crun P k g) (renH r2 (post v)++kk4 (renI r2 ids0) (kit (crun P k g)).heap)=offZ (crun P k g) (hpZ (crun P k g)):=by intro _;kernel_rfl):W P g Q:=by
 obtain ⟨v,h1,c⟩:=qf.1 h;obtain ⟨a,d⟩:=ktp (hc v);obtain ⟨x,args,ts,cap,as1,as2,e1,e2,e3,e4,rfl,e5,e6⟩:=k2z d;exact zst k (k6z r1 r2 e1 e2 (hp v h1) e3 e4 e5 e6) (b v c) (hv:=a) (hi:=hi) (hk:=(hk v))
theorem clL {α:Type} {E:Option α} {K:α->Option β} {f:FuncId} {ys:List FV} {y:α->FV} (k:Nat) (ls:List LendI) (h:Option.bind E K=some r) (hp:∀ v,E=some v->PCall P f ys (y v)) (hl:∀ l∈ls,l.ok (k4x (crun P k g))) (a:∀ v,K v=some r->W P (rsm (.fz (y v)) (crun P k g)) Q) (hc:kvi (fun o st=>clOf t.T o (kahb ls st)) (crun P k g)=some (f,ys):=by kernel_rfl) (ha:∀ v,kagm (y v)=true:=by intro _;kernel_rfl):W P g Q:=by
 obtain ⟨v,h1,b⟩:=qf.1 h;refine kct k ?_;have a:=a v b;generalize crun P k g=g' at *
 unfold kvi at hc;split at hc
 ·rename_i p hv;obtain ⟨o,st⟩:=p;obtain ⟨e1,e2⟩:=k5z hv;rw [e2] at hl;refine k6g hv (kak2 ls hl ?_ (ha v)) a;unfold clOf at hc;simp only at hc;split at hc
  ·rename_i c ho;split at hc
   ·rename_i f' hf;split at hc;rename_i ys' hy;simp only [qe,qt] at hc;obtain ⟨rfl,rfl⟩:=hc;obtain ⟨cc,as_,ts⟩:=c;simp only at hf;subst hf;exact kadw ho hy (hp v h1)
    ·cases hc
   ·cases hc
  ·cases hc
 ·cases hc
end
section
variable {P:Program} {F S0:Nat->Prop} {N0:Nat} {w w':World} {S S':Nat->Prop} {ψ:Env} {K:Nat->Prop} {T:List (TypeId×TD)} {o:Oper} {a:Act} {st:St} {t:TypeId} {d:TD} {id:Nat}
theorem ku8 {v:Value} {e:TypeId} {size n:Nat} {cs:List Value} (h:w.ownsRow 0 e size v n cs) (hn:0<n:=by omega):∃ g cap,v = .slice (some ⟨g,0,none⟩) n cap:=by
 rcases h.2 with ⟨_,h0⟩ | ⟨g,cap,cur,hv,_⟩;omega
 ·exact ⟨g,cap,hv⟩
theorem kd5 (t:TypeId) (d:TD) (id:Nat) {α:Type} (E:En α) (xs:List α) {x:α} {i:Int} (X Y:Operand) (e:TypeId) (de:TD) (k:IntKind) (n:Nat) (h:idx xs i=some x) (s:TOk P T:=by exact kae) (hy:st.eval Y = .fz (.atom (.int k i)):=by kernel_rfl) (ho:o.op = .indexAddr t X Y:=by kernel_rfl) (q:kag T t=some d:=by kernel_rfl) (hk:d.kind = .slice e:=by kernel_rfl) (l:kag T e=some de:=by kernel_rfl) (y:de.size=E.n:=by kernel_rfl) (z:st.eval X = .row id n:=by kernel_rfl) (r:kad st.heap id=some (.frow e E.n (xs.map E.f)):=by kernel_rfl) (hn:n=xs.length:=by rfl):NStep P o st (.ref id n (i.toNat*E.n+0)):=by
 intro ψ S a w ht A;subst hn;have q:=s.get q;have l:=s.get l;obtain ⟨h0,hi⟩:=kvy h;have B:i.toNat<xs.length:=(qh.1 hi).1;have m:=Sim.eval_tmps ht X;rw [z] at m;have b:=Sim.eval_tmps ht Y;rw [hy] at b;have b:=b.atom;obtain ⟨hl,_,cs,c,_,_⟩:=A id _ r;rw [qs] at hl c;obtain ⟨g,cap,j⟩:=ku8 c;have hK:id∈st.ids/\a.eval X=ψ.val id:=by
  generalize a.eval X=u at m;cases m with
  | row hK C h1 hv=>exact ⟨hK,hv hl.symm⟩
 refine kah w (.pointer (some ⟨g,i.toNat*E.n+0,none⟩)) ?_ ⟨kaj _, .ref hK.1 (by omega) rfl fun _=>⟨g,by rw [j];rfl,rfl⟩⟩;have p:i<(xs.length:Int):=by omega
 simp [execOp,ho,hK.2,j,b,Instr.indexAt,asIntOf,run_underlying (q.slice hk),h0,p,l.size,y,kcc]
theorem kml (d:TD) (id:Nat) (s:TypeId) (x:Operand) (f:Nat) (fs:List (TypeId×Nat)) (ft:TypeId) (off n p q:Nat) (e:TypeId) (size:Nat) (xs:List FV) (df:TD) (v:TOk P T:=by exact kae) (ho:o.op = .fieldAddr s x f:=by kernel_rfl) (j:kag T s=some d:=by kernel_rfl) (hk:d.kind = .st fs:=by kernel_rfl) (hf:fs[f]?=some (ft,off):=by kernel_rfl) (c:kag T ft=some df:=by kernel_rfl) (y:Nat.beq df.size 0=false:=by kernel_rfl) (z:st.eval x = .ref id n (p+q):=by kernel_rfl) (k:kad st.heap id=some (.frow e size xs):=by kernel_rfl) (hn:n=xs.length:=by simp):NStep P o st (.ref id n (p+(q+off))):=by
 intro ψ S a w ht A;have j:=v.get j;have c:=v.get c;have i:=Sim.eval_tmps ht x;rw [z] at i;obtain ⟨hl,_⟩:=A id _ k;obtain ⟨gs,hu,l⟩:=j.strct hk;have hg:∃ g:Field,gs[f]?=some g/\g.type=ft/\g.offset=off:=by rw [<- l,qq,qw] at hf;obtain ⟨g,hg,m⟩:=hf;simp only [qt] at m;exact ⟨g,by simpa using hg,m.1,m.2⟩
 obtain ⟨g,hg,rfl,rfl⟩:=hg;have r:df.size≠0:=fun h=>by rw [h] at y;cases y
 obtain ⟨b,hv,hr⟩:∃ b,a.eval x = .pointer (some ⟨b,p+q,none⟩)/\RV ψ (·∈st.ids) S w (.pointer (some ⟨b,p+q+g.offset,none⟩)) (.ref id n (p+(q+g.offset))):=by
  generalize a.eval x=u at i;cases i with
  | ref hK t h1 hv=>
   obtain ⟨b,B,rfl⟩:=hv (by rw [hl,hn]);exact ⟨b,rfl, .ref hK t rfl fun _=>⟨b,B,by rw [Nat.add_assoc]⟩⟩
 refine kah w _ ?_ ⟨kaj _,hr.here⟩;simp [execOp,ho,hv,Instr.fieldAt,hu,hg,Instr.sureAddr,fieldPlace,c.size,r,kcc]
theorem kmp (t:TypeId) (d:TD) (id:Nat) {α:Type} (E:En α) (xs:List α) (x:α) (i:Int) (X:Operand) (n q:Nat) (e:TypeId) (y:FV) (h:idx xs i=some x) (D:TOk P T:=by exact kae) (C:Nat.blt q E.n=true:=by kernel_rfl) (hy:(E.cl x)[q]?=some y:=by kernel_rfl) (ho:o.op = .load t X:=by kernel_rfl) (r:kag T t=some d:=by kernel_rfl) (hk:d.kind.agg=false:=by kernel_rfl) (F:st.eval X = .ref id n (i.toNat*E.n+q):=by kernel_rfl) (s:kad st.heap id=some (.frow e E.n (xs.map E.f)):=by kernel_rfl) (hn:n=xs.length:=by rfl):NStep P o st (.fz y):=by
 intro ψ S a w ht G;subst hn;have r:=D.get r;obtain ⟨h0,hi⟩:=kvy h;have C:q<E.n:=by simpa [Nat.blt_eq] using C
 have z:i.toNat<xs.length:=(qh.1 hi).1;have l:=Sim.eval_tmps ht X;rw [F] at l;obtain ⟨hl,_,cs,c,_,hr⟩:=G id _ s;rw [qs] at hl c;obtain ⟨g,cap,j⟩:=ku8 c;have hp:a.eval X = .pointer (some ⟨g,i.toNat*E.n+q,none⟩):=by
  generalize a.eval X=u at l;cases l with
  | ref hK H h1 hv=>
   obtain ⟨b,A,rfl⟩:=hv hl.symm;rw [j] at A;simp only [kau,qe] at A;rw [A]
 have k:i.toNat*E.n+q<xs.length*E.n:=by have:(i.toNat+1)*E.n<=xs.length*E.n:=qa1 _ z;rw [qbj,Nat.one_mul] at this;omega
 have B:i.toNat*E.n+q<cs.length:=by rw [c.1];exact k
 have p:cs[i.toNat*E.n+q]?=some cs[i.toNat*E.n+q]:=qb B;have m:w.cell? ⟨g,i.toNat*E.n+q,none⟩=some cs[i.toNat*E.n+q]:=by rw [j] at c;rw [World.ownsRow.cellAt c _ k,p]
 refine kah w (cs[i.toNat*E.n+q]) ?_ ⟨kaj _, .fz ((hr i.toNat (E.f x) q _ y (by rw [qq,hi];rfl) p (by rw [E.hcl];exact hy)).mono fun _ h => .inl h)⟩;simp [execOp,ho,hp,Instr.loadAt,Instr.sureAddr,loadVar,r.isAgg,hk,m]
end
section
variable {P:Program} {F S0:Nat->Prop} {N0:Nat} {w w':World} {S S':Nat->Prop} {ψ:Env} {K:Nat->Prop} {T:List (TypeId×TD)} {o:Oper} {a:Act} {st:St} {t:TypeId} {d:TD} {id:Nat}
theorem StepA.frz {n:Nat} {e:TypeId} {size:Nat} {xs:List FV} {h:List (Nat×AObj)} {i:List Nat} (hs:StepA P o st (.row id n) h i) (c:kad h id=some (.frow e size xs)) (hn:n=xs.length):StepA P o st (.fz (.lst size n xs)) (kdb id h) i:=by
 subst hn;intro F S0 N0 ψ S a w hS;refine kpj ?_ (hs F S0 N0 ψ S a w hS);rintro v w' ⟨ψ',S',h1,d,f,g,j,k,l⟩;have ho:=(h1.obj id _ c).2.1;refine ⟨ψ',_,k3s h1 c,?_,f,g,j,fun b m => .inl (k b m),l⟩;have hr:=k7b ho;have hl:=ho.1;cases d with
 | row hK p h1 hv=>rw [hv hl.symm];exact .fz hr
theorem ki9 (t:TypeId) (d:TD) (id:Nat) {α:Type} (E:En α) (xs:List α) (x:α) (i:Int) (X:Operand) (n q:Nat) (e:TypeId) (ys:List FV) (h:idx xs i=some x) (L:TOk P T:=by exact kae) (J:Nat.ble (q+d.size) E.n=true:=by kernel_rfl) (hy:((E.cl x).drop q).take d.size=ys:=by kernel_rfl) (ho:o.op = .load t X:=by kernel_rfl) (C:kag T t=some d:=by kernel_rfl) (hk:d.kind.agg=true:=by kernel_rfl) (M:st.eval X = .ref id n (i.toNat*E.n+q):=by kernel_rfl) (F:kad st.heap id=some (.frow e E.n (xs.map E.f)):=by kernel_rfl) (hn:n=xs.length:=by rfl):NStep P o st (.fz (.agg ys)):=by
 intro ψ S a w ht N;subst hn hy;have C:=L.get C;obtain ⟨h0,hi⟩:=kvy h;have J:q+d.size<=E.n:=qu J;have G:i.toNat<xs.length:=(qh.1 hi).1;have z:=Sim.eval_tmps ht X;rw [M] at z;obtain ⟨hl,_,cs,k,A,hr⟩:=N id _ F;rw [qs] at hl k;obtain ⟨g,cap,r⟩:=ku8 k;have hp:a.eval X = .pointer (some ⟨g,i.toNat*E.n+q,none⟩):=by
  generalize a.eval X=u at z;cases z with
  | ref hK O h1 hv=>
   obtain ⟨b,H,rfl⟩:=hv hl.symm;rw [r] at H;simp only [kau,qe] at H;rw [H]
 have K:cs.length=xs.length*E.n:=k.1;have Q:i.toNat*E.n+E.n<=xs.length*E.n:=by have:(i.toNat+1)*E.n<=xs.length*E.n:=qa1 _ G;rw [qbj,Nat.one_mul] at this;exact this
 have hcl:(E.cl x).length=E.n:=by have:=(A (E.f x) (qaa.2 ⟨x,qp hi,rfl⟩)).1;rw [E.hcl] at this;exact this
 have I:∀ y∈E.cl x,y.single=true:=by have:=(A (E.f x) (qaa.2 ⟨x,qp hi,rfl⟩)).2;rw [E.hcl] at this;exact this
 let cs':=(cs.drop (i.toNat*E.n+q)).take d.size
 have c:cs'.length=d.size:=by show ((cs.drop (i.toNat*E.n+q)).take d.size).length=_;rw [qam,qa3];omega
 have s:∀ (j:Nat) (v:Value),cs'[j]?=some v->j<d.size/\cs[i.toNat*E.n+q+j]?=some v:=fun j v D=>by
  have l:j<d.size:=by rw [<- c];exact (qh.1 D).1
  refine ⟨l,?_⟩;have B:((cs.drop (i.toNat*E.n+q)).take d.size)[j]?=some v:=D;rw [qad,ql l,qau] at B;exact B
 have m:=k;rw [r] at m;have p:=run_loadCells_list (P:=P) w ⟨g,i.toNat*E.n+q,none⟩ cs' fun j v D=>by obtain ⟨l,hc⟩:=s j v D;rw [kcc,World.ownsRow.cellAt m _ (show i.toNat*E.n+q+j<xs.length*E.n by omega),hc]
 rw [c] at p;refine kah w (.agg cs'.toArray) ?_ ⟨kaj _, .fz (.agg ?_ ?_ fun j v y hv hy=>?_)⟩;simp [execOp,ho,hp,Instr.loadAt,Instr.sureAddr,loadVar,C.isAgg,hk,C.size,p];rw [List.size_toArray,c,qam,qa3];omega;exact fun y hy=>I y (qbo (qbd hy))
 ·rw [qcd] at hv;obtain ⟨l,hc⟩:=s j v hv;rw [qad,ql l,qau] at hy;rw [Nat.add_assoc] at hc;exact (hr i.toNat (E.f x) (q+j) v y (by rw [qq,hi];rfl) hc (by rw [E.hcl];exact hy)).mono fun _ h => .inl h
end
section
variable {P:Program} [t:Tab P] {g:Cfg} {Q:Exit->St->Prop} {β:Type} {r:β}
def apFh {α:Type} (T:List (TypeId×TD)) (E:En α) (v:List α) (g:Cfg):List (Nat×AObj):=match koo (apOf T) g with
 | some q=>kdb q.id ((q.id, .frow q.e q.size (v.map E.f))::(kit g).heap)
 | none=>[]
def apGF {α:Type} (T:List (TypeId×TD)) (E:En α) (v:List α) (g:Cfg):Cfg:=match koo (apOf T) g with
 | some q=>rsmZ (.fz (.lst q.size v.length (v.map E.f))) (apFh T E v g) (kit g).ids g
 | none=>⟨.bad,g.ks,g.st⟩
theorem apZf {α:Type} {bytes:Nat} {xs ys:List α} {K:List α->Option β} (E:En α) (k:Nat) (h:Option.bind (app bytes xs ys) K=some r) (hc:apK (koo (apOf t.T) (crun P k g))=some (bytes,xs.length,xs.map E.f,ys.map E.f))
  (hi:idsZ (kit (crun P k g)).ids (crun P k g)=true) (hk:∀ v,offZ (crun P k g) (apFh t.T E v (crun P k g))=offZ (crun P k g) (hpZ (crun P k g))) (a:∀ v,K v=some r->W P (apGF t.T E v (crun P k g)) Q):W P g Q:=by
 obtain ⟨v,h1,i⟩:=qf.1 h;have a:=a v i;have hk:=hk v;unfold apK at hc;split at hc;rename_i q b;simp only [qe,qt] at hc;obtain ⟨rfl,e1,e2,e3⟩:=hc;unfold apGF at a;rw [b] at a;obtain ⟨c,j⟩:=ktp b;refine zst k ?_ a (hv:=c) (hi:=hi) (hk:=hk);obtain ⟨X,Y,ty,d,de,m,k1,k2,k3,k4,k5,k6,k7,k8,k9,k10,k11⟩:=k13 j h1 e1 e2 e3;unfold apFh;rw [b];simp only;refine StepA.frz (e:=q.e) ?_ (by rw [kai,ql rfl]) (by rw [qs]);rw [<- k5];exact kze E.f h1 t.ok k1 k2 k3 k4 k6 k7 k8 k9 k10 rfl k11
 ·cases hc
theorem hclZf {α:Type} {E:Option α} {K:α->Option β} {f:FuncId} {as_:List AV} {pre:List (Nat×AObj)} {ids0 ids1:List Nat} {res:α->AV} {post:α->List (Nat×AObj)} (k:Nat) (cs:List C1) (r1 r2:List (Nat×Nat)) (keys:List Nat) (id:Nat) (e:TypeId) (size:Nat) (n:α->Nat) (xs:α->List FV) (h:Option.bind E K=some r)
  (hp:∀ v,E=some v->ka0 P f as_ pre ids0 (.ret (res v)) (post v) ids1) (hc:∀ v,koo (hcOf cs r1 r2 keys ids0 ids1 (post v)) (crun P k g)=some (f,as_,pre)) (hi:idsZ (renI r2 ids1++(kit (crun P k g)).ids) (crun P k g)=true)
  (hr:∀ v,renA r2 (res v) = .row id (n v)) (a:∀ v,kad (renH r2 (post v)++kk4 (renI r2 ids0) (kit (crun P k g)).heap) id=some (.frow e size (xs v))) (hn:∀ v,n v=(xs v).length)
  (hk:∀ v,offZ (crun P k g) (kdb id (renH r2 (post v)++kk4 (renI r2 ids0) (kit (crun P k g)).heap))=offZ (crun P k g) (hpZ (crun P k g)))
  (c:∀ v,K v=some r->W P (rsmZ (.fz (.lst size (n v) (xs v))) (kdb id (renH r2 (post v)++kk4 (renI r2 ids0) (kit (crun P k g)).heap)) (renI r2 ids1++(kit (crun P k g)).ids) (crun P k g)) Q):W P g Q:=by
 obtain ⟨v,h1,d⟩:=qf.1 h;obtain ⟨b,i⟩:=ktp (hc v);obtain ⟨x,args,ts,cap,as1,as2,e1,e2,e3,e4,rfl,e5,e6⟩:=k2z i;have hs:=k6z r1 r2 e1 e2 (hp v h1) e3 e4 e5 e6;rw [hr v] at hs;exact zst k (hs.frz (a v) (hn v)) (c v d) (hv:=b) (hi:=hi) (hk:=(hk v))
end
def tt2:TD:=⟨1,8, .int .i64,[.int .i64 0]⟩
def tt3:TD:=⟨1,8, .int .i64,[.int .i64 0]⟩
def tt4:TD:=⟨1,1, .bool,[.bool false]⟩
def tt5:TD:=⟨1,1, .int .u8,[.int .u8 0]⟩
def tt9:TD:=⟨1,16, .str,[.string ⟨#[]⟩]⟩
def tt20:TD:=⟨1,16, .ifc,[.nilIface]⟩
def tt22:TD:=⟨1,24, .slice 3,[.slice none 0 0]⟩
def tt23:TD:=⟨1,24, .slice 63,[.slice none 0 0]⟩
def tt24:TD:=⟨1,24, .slice 69,[.slice none 0 0]⟩
def tt26:TD:=⟨4,88, .st [(9,0),(22,1),(23,2),(24,3)],[.string ⟨#[]⟩, .slice none 0 0, .slice none 0 0, .slice none 0 0]⟩
def tt29:TD:=⟨1,8, .int .i64,[.int .i64 0]⟩
def tt33:TD:=⟨1,24, .slice 54,[.slice none 0 0]⟩
def tt35:TD:=⟨2,48, .st [(33,0),(22,1)],[.slice none 0 0, .slice none 0 0]⟩
def tt40:TD:=⟨1,24, .slice 49,[.slice none 0 0]⟩
def tt49:TD:=⟨2,32, .st [(3,0),(40,1)],[.int .i64 0, .slice none 0 0]⟩
def tt52:TD:=⟨1,24, .slice 83,[.slice none 0 0]⟩
def tt54:TD:=⟨3,40, .st [(3,0),(3,1),(52,2)],[.int .i64 0, .int .i64 0, .slice none 0 0]⟩
def tt56:TD:=⟨1,8, .fn,[.nilFunc]⟩
def tt61:TD:=⟨1,8, .fn,[.nilFunc]⟩
def tt63:TD:=⟨2,24, .st [(9,0),(3,1)],[.string ⟨#[]⟩, .int .i64 0]⟩
def tt65:TD:=⟨1,24, .slice 67,[.slice none 0 0]⟩
def tt67:TD:=⟨4,56, .st [(3,0),(2,1),(9,2),(65,3)],[.int .i64 0, .int .i64 0, .string ⟨#[]⟩, .slice none 0 0]⟩
def tt69:TD:=⟨9,120, .st [(3,0),(3,1),(3,2),(67,3),(9,7),(22,8)],[.int .i64 0, .int .i64 0, .int .i64 0, .int .i64 0, .int .i64 0, .string ⟨#[]⟩, .slice none 0 0, .string ⟨#[]⟩, .slice none 0 0]⟩
def tt72:TD:=⟨1,24, .slice 2,[.slice none 0 0]⟩
def tt73:TD:=⟨1,24, .slice 72,[.slice none 0 0]⟩
def tt76:TD:=⟨1,24, .slice 22,[.slice none 0 0]⟩
def tt77:TD:=⟨1,24, .slice 22,[.slice none 0 0]⟩
def tt83:TD:=⟨2,32, .st [(3,0),(22,1)],[.int .i64 0, .slice none 0 0]⟩
def tt84:TD:=⟨1,8, .fn,[.nilFunc]⟩
def tt89:TD:=⟨1,24, .slice 40,[.slice none 0 0]⟩
def tt92:TD:=⟨1,8, .ptr 102,[.pointer none]⟩
def tt94:TD:=⟨1,8, .map 3 4,[.map none]⟩
def tt99:TD:=⟨1,8, .fn,[.nilFunc]⟩
def tt100:TD:=⟨1,8, .map 9 3,[.map none]⟩
def tt102:TD:=⟨4,80, .st [(100,0),(22,1),(76,2),(22,3)],[.map none, .slice none 0 0, .slice none 0 0, .slice none 0 0]⟩
def kjr:TD:=⟨1,24, .slice 4,[.slice none 0 0]⟩
def kagy:TD:=⟨1,24, .slice 3,[.slice none 0 0]⟩
def tt115:TD:=⟨1,8, .fn,[.nilFunc]⟩
def tt119:TD:=⟨1,8, .fn,[.nilFunc]⟩
def kaa8:TD:=⟨1,8, .map 9 4,[.map none]⟩
def tt127:TD:=⟨1,8, .int .u64,[.int .u64 0]⟩
def tt131:TD:=⟨1,8, .ptr 178,[.pointer none]⟩
def tt134:TD:=⟨1,8, .fn,[.nilFunc]⟩
def tt135:TD:=⟨1,8, .fn,[.nilFunc]⟩
def tt143:TD:=⟨1,8, .fn,[.nilFunc]⟩
def kabe:TD:=⟨1,8, .map 3 110,[.map none]⟩
def tt152:TD:=⟨1,8, .fn,[.nilFunc]⟩
def tt162:TD:=⟨3,48, .st [(9,0),(22,1),(3,2)],[.string ⟨#[]⟩, .slice none 0 0, .int .i64 0]⟩
def tt169:TD:=⟨1,4, .int .u32,[.int .u32 0]⟩
def tt172:TD:=⟨1,8, .int .u64,[.int .u64 0]⟩
def kaa2:TD:=⟨1,8, .map 9 2,[.map none]⟩
def tt178:TD:=⟨5,96, .st [(26,0),(176,4)],[.string ⟨#[]⟩, .slice none 0 0, .slice none 0 0, .slice none 0 0, .map none]⟩
def tt182:TD:=⟨1,8, .int .i64,[.int .i64 0]⟩
def tt210:TD:=⟨1,24, .slice 212,[.slice none 0 0]⟩
def tt212:TD:=⟨3,48, .arr 3 9,[.string ⟨#[]⟩, .string ⟨#[]⟩, .string ⟨#[]⟩]⟩
def tt218:TD:=⟨4,64, .st [(162,0),(9,3)],[.string ⟨#[]⟩, .slice none 0 0, .int .i64 0, .string ⟨#[]⟩]⟩
def tt223:TD:=⟨1,8, .int .u64,[.int .u64 0]⟩
def tt227:TD:=⟨1,8, .ptr 3,[.pointer none]⟩
def kaa9:TD:=⟨1,24, .slice 5,[.slice none 0 0]⟩
def tt235:TD:=⟨1,24, .slice 9,[.slice none 0 0]⟩
def tt237:TD:=⟨1,24, .slice 218,[.slice none 0 0]⟩
def tt245:TD:=⟨1,24, .slice 237,[.slice none 0 0]⟩
def tt250:TD:=⟨24,24, .arr 24 5,List.replicate 24 (.int .u8 0)⟩
def tt255:TD:=⟨20,160, .arr 20 172,List.replicate 20 (.int .u64 0)⟩
def tt259:TD:=⟨32,32, .arr 32 5,List.replicate 32 (.int .u8 0)⟩
def tt260:TD:=⟨64,64, .arr 64 5,List.replicate 64 (.int .u8 0)⟩
def TT:List (TypeId×TD):=[(2,tt2),(3,tt3),(4,tt4),(5,tt5),(9,tt9),(20,tt20),(22,tt22),(23,tt23),(24,tt24),(26,tt26),(29,tt29),(33,tt33),(35,tt35),(40,tt40),(49,tt49),(52,tt52),(54,tt54),(56,tt56),(61,tt61),(63,tt63),(65,tt65),(67,tt67),(69,tt69),(72,tt72),(73,tt73),(76,tt76),(77,tt77),(83,tt83),(84,tt84),(89,tt89),(92,tt92),(94,tt94),(99,tt99),(100,tt100),(102,tt102),(105,kjr),(110,kagy),(115,tt115),(119,tt119),(125,kaa8),(127,tt127),(131,tt131),(134,tt134),(135,tt135),(143,tt143),(149,kabe),(152,tt152),(162,tt162),(169,tt169),(172,tt172),(176,kaa2),(178,tt178),(182,tt182),(210,tt210),(212,tt212),(218,tt218),(223,tt223),(227,tt227),(229,kaa9),(235,tt235),(237,tt237),(245,tt245),(250,tt250),(255,tt255),(259,tt259),(260,tt260)]
theorem kae:TOk prog TT:=kaco (by kernel_rfl)
instance tabP:Tab prog:=⟨TT,kae,by kernel_rfl⟩
set_option linter.unusedVariables false
noncomputable def exF:FT:=(.nd 96 Tryz.f96 (.nd 59 Tryz.f59 (.nd 33 Tryz.f33 (.nd 19 Tryz.f19 (.nd 15 Tryz.f15 (.nd 8 Tryz.f8 (.nd 5 Tryz.f5 .lf .lf) (.nd 14 Tryz.f14 .lf .lf)) (.nd 17 Tryz.f17 (.nd 16 Tryz.f16 .lf .lf) (.nd 18 Tryz.f18 .lf .lf))) (.nd 23 Tryz.f23 (.nd 21 Tryz.f21 (.nd 20 Tryz.f20 .lf .lf) (.nd 22 Tryz.f22 .lf .lf)) (.nd 25 Tryz.f25 (.nd 24 Tryz.f24 .lf .lf) .lf))) (.nd 52 Tryz.f52 (.nd 37 Tryz.f37 (.nd 35 Tryz.f35 (.nd 34 Tryz.f34 .lf .lf) (.nd 36 Tryz.f36 .lf .lf)) (.nd 50 Tryz.f50 (.nd 38 Tryz.f38 .lf .lf) (.nd 51 Tryz.f51 .lf .lf))) (.nd 56 Tryz.f56 (.nd 54 Tryz.f54 (.nd 53 Tryz.f53 .lf .lf) (.nd 55 Tryz.f55 .lf .lf)) (.nd 58 Tryz.f58 (.nd 57 Tryz.f57 .lf .lf) .lf)))) (.nd 74 Tryz.f74 (.nd 67 Tryz.f67 (.nd 63 Tryz.f63 (.nd 61 Tryz.f61 (.nd 60 Tryz.f60 .lf .lf) (.nd 62 Tryz.f62 .lf .lf)) (.nd 65 Tryz.f65 (.nd 64 Tryz.f64 .lf .lf) (.nd 66 Tryz.f66 .lf .lf))) (.nd 71 Tryz.f71 (.nd 69 Tryz.f69 (.nd 68 Tryz.f68 .lf .lf) (.nd 70 Tryz.f70 .lf .lf)) (.nd 73 Tryz.f73 (.nd 72 Tryz.f72 .lf .lf) .lf))) (.nd 89 Tryz.f89 (.nd 85 Tryz.f85 (.nd 76 Tryz.f76 (.nd 75 Tryz.f75 .lf .lf) (.nd 84 Tryz.f84 .lf .lf)) (.nd 87 Tryz.f87 (.nd 86 Tryz.f86 .lf .lf) (.nd 88 Tryz.f88 .lf .lf))) (.nd 93 Tryz.f93 (.nd 91 Tryz.f91 (.nd 90 Tryz.f90 .lf .lf) (.nd 92 Tryz.f92 .lf .lf)) (.nd 95 Tryz.f95 (.nd 94 Tryz.f94 .lf .lf) .lf))))) (.nd 149 Tryz.f149 (.nd 125 Tryz.f125 (.nd 118 Tryz.f118 (.nd 110 Tryz.f110 (.nd 98 Tryz.f98 (.nd 97 Tryz.f97 .lf .lf) (.nd 99 Tryz.f99 .lf .lf)) (.nd 112 Tryz.f112 (.nd 111 Tryz.f111 .lf .lf) (.nd 113 Tryz.f113 .lf .lf))) (.nd 122 Tryz.f122 (.nd 120 Tryz.f120 (.nd 119 Tryz.f119 .lf .lf) (.nd 121 Tryz.f121 .lf .lf)) (.nd 124 Tryz.f124 (.nd 123 Tryz.f123 .lf .lf) .lf))) (.nd 141 Tryz.f141 (.nd 129 Tryz.f129 (.nd 127 Tryz.f127 (.nd 126 Tryz.f126 .lf .lf) (.nd 128 Tryz.f128 .lf .lf)) (.nd 138 Tryz.f138 (.nd 137 Tryz.f137 .lf .lf) (.nd 140 Tryz.f140 .lf .lf))) (.nd 146 Tryz.f146 (.nd 143 Tryz.f143 (.nd 142 Tryz.f142 .lf .lf) (.nd 145 Tryz.f145 .lf .lf)) (.nd 148 Tryz.f148 (.nd 147 Tryz.f147 .lf .lf) .lf)))) (.nd 198 Tryz.f198 (.nd 174 Tryz.f174 (.nd 162 Tryz.f162 (.nd 159 Tryz.f159 (.nd 150 Tryz.f150 .lf .lf) (.nd 160 Tryz.f160 .lf .lf)) (.nd 172 Tryz.f172 (.nd 163 Tryz.f163 .lf .lf) (.nd 173 Tryz.f173 .lf .lf))) (.nd 185 Tryz.f185 (.nd 181 Tryz.f181 (.nd 175 Tryz.f175 .lf .lf) (.nd 184 Tryz.f184 .lf .lf)) (.nd 197 Tryz.f197 (.nd 186 Tryz.f186 .lf .lf) .lf))) (.nd 222 Tryz.f222 (.nd 216 Tryz.f216 (.nd 200 Tryz.f200 (.nd 199 Tryz.f199 .lf .lf) (.nd 206 Tryz.f206 .lf .lf)) (.nd 221 Tryz.f221 (.nd 218 Tryz.f218 .lf .lf) .lf)) (.nd 229 Tryz.f229 (.nd 224 Tryz.f224 (.nd 223 Tryz.f223 .lf .lf) (.nd 225 Tryz.f225 .lf .lf)) (.nd 237 Tryz.f237 (.nd 234 Tryz.f234 .lf .lf) .lf))))))
def exZ:List (TypeId×Value):=[(2, .int .i64 0),(3, .int .i64 0),(4, .bool false),(110, .slice none 0 0)]
def exP:List Nat:=[5,20,21,22,23,24,25,33,35,54,55,60,62,64,66,67,68,71,73,76,84,85,86,89,90,91,94,99,113,118,120,127,128,137,138,142,143,145,147,159,160,162,172,173,174,181,186,198,199,200,223,224,225,229,234,237,14,18,17,63]
def exM:List Nat:=[15]
def exN:List Nat:=[17,18,63]
theorem kaky:exF.ok prog:=FT.ok_of (by kernel_rfl)
theorem kal8:ZOk prog exZ:=by
 intro p hp;simp only [exZ,qan,List.not_mem_nil,or_false] at hp;rcases hp with rfl | rfl | rfl | rfl;exact ⟨_,show prog.info? 2=some Tryz.t2 from by kernel_rfl,by kernel_rfl⟩;exact ⟨_,show prog.info? 3=some Tryz.t3 from by kernel_rfl,by kernel_rfl⟩;exact ⟨_,show prog.info? 4=some Tryz.t4 from by kernel_rfl,by kernel_rfl⟩
 ·exact ⟨_,show prog.info? 110=some Tryz.t110 from by kernel_rfl,by kernel_rfl⟩
def exI:List Nat:=[241]
theorem kakh:∀ f∈exI,IbOk prog f:=by intro f hf;simp only [exI,qan,List.not_mem_nil,or_false] at hf;subst hf;exact ⟨Tryz.f241,func241,by kernel_rfl,by kernel_rfl,by kernel_rfl,rfl⟩
noncomputable def exC (fx:List (Nat×List FV×FV)):Cx:={ T:=TT,Z:=exZ,fn:=exF,mu:=exM,pu:=exP,fx:=fx,ib:=exI,nf:=exN }
theorem kadz (fx:List (Nat×List FV×FV)) (h:∀ p∈fx,PCall prog p.1 p.2.1 p.2.2):CxOk prog (exC fx):=⟨kae,kal8,kaky,h,kakh,by kernel_rfl⟩
-- 5 synthesis/synthesislaw25.awake
-- 8 synthesis/space.All
-- 14 synthesis/synthesislaw25.sums
-- 15 synthesis/synthesislaw25.two
-- 16 synthesis/space.Terms
-- 17 synthesis/space.Of
-- 18 synthesis/synthesislaw25.double
-- 19 synthesis/space.Trim
-- 20 synthesis/space.Check
-- 21 synthesis/synthesisref13.Same
-- 22 synthesis/synthesisref13.Compare
-- 23 synthesis/space.Contains
-- 24 synthesis/space.Empty
-- 25 synthesis/synthesisref26.Equal
-- 33 synthesis/grammar.Check
-- 34 slices.Repeat[[]int,int]
-- 35 synthesis/counting.Count
-- 36 synthesis/grammar.Of
-- 37 (synthesis/space.grid).options
-- 38 slices.SortFunc[[]synthesis/api.Option,synthesis/api.Option]
-- 50 synthesis/space.newPool
-- 51 (*synthesis/space.pool).expand
-- 52 (*synthesis/space.pool).term
-- 53 slices.SortFunc[[]synthesis/api.Term,synthesis/api.Term]
-- 54 synthesis/term.Compare
-- 55 synthesis/space.check
-- 56 (*synthesis/space.pool).add
-- 57 slices.Clone[[]int,int]
-- 58 slices.Sort[[]int,int]
-- 59 slices.Compact[[]int,int]
-- 60 synthesis/space.formed
-- 61 synthesis/space.filled
-- 62 synthesis/space.whole
-- 63 synthesis/space.renumbered
-- 64 slices.Equal[synthesis/space.shape,int]
-- 65 synthesis/space.shapeOf
-- 66 synthesis/synthesisref13.order
-- 67 synthesis/synthesisref13.Size
-- 68 synthesis/synthesisref13.CompareInts
-- 69 synthesis/synthesisref13.Rules
-- 70 synthesis/synthesisref13.arities
-- 71 synthesis/space.small
-- 72 synthesis/space.owners
-- 73 slices.Contains[[]int,int]
-- 74 slices.ContainsFunc[[]int,int]
-- 75 synthesis/space.Empty$1
-- 76 synthesis/synthesisref26.compareOptions
-- 84 synthesis/grammar.named
-- 85 synthesis/grammar.typed
-- 86 synthesis/grammar.rule
-- 87 slices.ContainsFunc[[]synthesis/api.Rule,synthesis/api.Rule]
-- 88 synthesis/grammar.Check$1
-- 89 synthesis/grammar.sameRule
-- 90 math/bits.Mul
-- 91 synthesis/counting.check
-- 92 synthesis/counting.counted
-- 93 synthesis/counting.Count$1
-- 94 synthesis/counting.permitted
-- 95 synthesis/counting.open
-- 96 (*synthesis/counting.counter).terms
-- 97 (synthesis/space.grid).options$1
-- 98 slices.pdqsortCmpFunc[synthesis/api.Option]
-- 99 math/bits.Len
-- 110 (*synthesis/space.pool).expand$1
-- 111 (*synthesis/space.pool).put
-- 112 slices.pdqsortCmpFunc[synthesis/api.Term]
-- 113 synthesis/term.Size
-- 118 synthesis/term.Check
-- 119 slices.pdqsortOrdered[int]
-- 120 synthesis/space.ascending
-- 121 slices.ContainsFunc[[]synthesis/api.Option,synthesis/api.Option]
-- 122 synthesis/space.filled$1
-- 123 synthesis/space.small$1
-- 124 slices.ContainsFunc[[]synthesis/api.Term,synthesis/api.Term]
-- 125 synthesis/space.small$1$1
-- 126 synthesis/space.owners$1
-- 127 synthesis/space.belongs
-- 128 slices.Index[[]int,int]
-- 129 slices.IndexFunc[[]int,int]
-- 137 synthesis/grammar.symbol
-- 138 synthesis/grammar.same
-- 140 synthesis/operator.Find
-- 141 slices.IndexFunc[[]synthesis/api.Rule,synthesis/api.Rule]
-- 142 slices.Equal[[]int,int]
-- 143 synthesis/value.Equal
-- 145 math/bits.Mul64
-- 146 synthesis/counting.counted$1
-- 147 synthesis/counting.plus
-- 148 (*synthesis/counting.counter).lists
-- 149 synthesis/counting.args
-- 150 slices.insertionSortCmpFunc[synthesis/api.Option]
-- 159 math/bits.Len64
-- 160 cmp.isNaN[int]
-- 162 synthesis/space.key
-- 163 slices.insertionSortCmpFunc[synthesis/api.Term]
-- 172 synthesis/term.within
-- 173 synthesis/term.shallow
-- 174 synthesis/term.derived
-- 175 slices.insertionSortOrdered[int]
-- 181 cmp.Less[int]
-- 184 slices.IndexFunc[[]synthesis/api.Option,synthesis/api.Option]
-- 185 slices.IndexFunc[[]synthesis/api.Term,synthesis/api.Term]
-- 186 slices.BinarySearch[[]int,int]
-- 197 synthesis/operator.find
-- 198 synthesis/value.Compare
-- 199 synthesis/counting.key
-- 200 synthesis/counting.times
-- 206 strconv.AppendInt
-- 216 synthesis/operator.catalog
-- 218 internal/strconv.AppendInt
-- 221 synthesis/operator.family
-- 222 internal/strconv.AppendUint
-- 223 strings.Cut
-- 224 synthesis/operator.typeOf
-- 225 internal/strconv.small
-- 229 internal/stringslite.Cut
-- 234 internal/stringslite.Index
-- 237 internal/stringslite.IndexByte
-- 241 internal/bytealg.IndexByteString
-- NF synthesis/space.Of
-- NF synthesis/synthesislaw25.double
-- NF synthesis/space.renumbered
-- ODD ('synthesis/synthesisref26.Equal',6,'alloc','alloc')
-- PU synthesis/synthesislaw25.awake
-- PU synthesis/space.Check
-- PU synthesis/synthesisref13.Same
-- PU synthesis/synthesisref13.Compare
-- PU synthesis/space.Contains
-- PU synthesis/space.Empty
-- PU synthesis/synthesisref26.Equal
-- PU synthesis/grammar.Check
-- PU synthesis/counting.Count
-- PU synthesis/term.Compare
-- PU synthesis/space.check
-- PU synthesis/space.formed
-- PU synthesis/space.whole
-- PU slices.Equal[synthesis/space.shape,int]
-- PU synthesis/synthesisref13.order
-- PU synthesis/synthesisref13.Size
-- PU synthesis/synthesisref13.CompareInts
-- PU synthesis/space.small
-- PU slices.Contains[[]int,int]
-- PU synthesis/synthesisref26.compareOptions
-- PU synthesis/grammar.named
-- PU synthesis/grammar.typed
-- PU synthesis/grammar.rule
-- PU synthesis/grammar.sameRule
-- PU math/bits.Mul
-- PU synthesis/counting.check
-- PU synthesis/counting.permitted
-- PU math/bits.Len
-- PU synthesis/term.Size
-- PU synthesis/term.Check
-- PU synthesis/space.ascending
-- PU synthesis/space.belongs
-- PU slices.Index[[]int,int]
-- PU synthesis/grammar.symbol
-- PU synthesis/grammar.same
-- PU slices.Equal[[]int,int]
-- PU synthesis/value.Equal
-- PU math/bits.Mul64
-- PU synthesis/counting.plus
-- PU math/bits.Len64
-- PU cmp.isNaN[int]
-- PU synthesis/space.key
-- PU synthesis/term.within
-- PU synthesis/term.shallow
-- PU synthesis/term.derived
-- PU cmp.Less[int]
-- PU slices.BinarySearch[[]int,int]
-- PU synthesis/value.Compare
-- PU synthesis/counting.key
-- PU synthesis/counting.times
-- PU strings.Cut
-- PU synthesis/operator.typeOf
-- PU internal/strconv.small
-- PU internal/stringslite.Cut
-- PU internal/stringslite.Index
-- PU internal/stringslite.IndexByte
-- PU synthesis/synthesislaw25.sums
-- PU synthesis/synthesislaw25.double
-- PU synthesis/space.Of
-- PU synthesis/space.renumbered
end Go.Proofs.YtjbonbdomgoklaaGreatDoor
