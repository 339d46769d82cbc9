import Derived.Test.YtnlhjbnpjefjgabGreatDoorOpo
import Derived.Laws.CopyRow
import Derived.Laws.IdiomCopy
set_option linter.all false
set_option linter.unusedSectionVars false
namespace Go.Proofs.YtnlhjbnpjefjgabGreatDoor
open Go Go.RowKit
variable [Dr]
def kws (l h n:Int):Option Unit:=if 0<=l/\l<=h/\h<=n then some () else none
theorem k36 {l h n:Int} {u:Unit} (e:kws l h n=some u):0<=l/\l<=h/\h<=n:=by
 unfold kws at e;split at e
 ·assumption
 ·cases e
def cpL {α:Type} (xs ys:List α):List α:=xs.take 0++(ys.take (min ys.length xs.length)++xs.drop (0+(ys.take (min ys.length xs.length)).length))
def cpW {α:Type} (xs:List α) (lo hi lo2 hi2:Nat):List α:=xs.take lo++((xs.drop lo2).take (min (hi2 - lo2) (hi - lo))++xs.drop (lo+((xs.drop lo2).take (min (hi2 - lo2) (hi - lo))).length))
variable {P:Program} {F S0:Nat->Prop} {N0:Nat} {w w':World} {S S':Nat->Prop} {ψ:Env} {K:Nat->Prop} {T:List (TypeId×TD)} {o:Oper} {a:Act} {st:St} {t:TypeId} {d:TD} {id:Nat}
theorem k9i {α:Type} (enc:α->FV) (xs:List α) (x:Operand) (lo hi:Option Operand) (l h:Option Int) (e:TypeId) (de:TD) (n:Nat) {u:Unit} (hc:kws (l.getD 0) (h.getD xs.length) xs.length=some u) (B:TOk P T) (hn:n=xs.length) (hl:klc st lo=some l:=by kernel_rfl) (G:klc st hi=some h:=by kernel_rfl) (ho:o.op = .slice t x lo hi none:=by kernel_rfl) (E:kac T t=some d:=by kernel_rfl) (hk:d.kind = .slice e:=by kernel_rfl) (q:kac T e=some de:=by kernel_rfl) (r:de.size=1:=by kernel_rfl) (F:st.eval x = .row id n:=by kernel_rfl) (s:kaa st.heap id=some (.frow e 1 (xs.map enc)):=by kernel_rfl):NStep P o st (.win id n (l.getD 0).toNat (h.getD xs.length).toNat):=by
 intro ψ S a w ht H;subst hn;have i:=k36 hc;have bl:=kik ht hl;have bh:=kik ht G;have j:=Sim.eval_tmps ht x;rw [F] at j;obtain ⟨b,_,cs,c,_,_⟩:=H id _ s;rw [qj] at b c;have hK:id∈st.ids/\a.eval x=ψ.val id:=by
  generalize a.eval x=u at j;cases j with
  | row hK I h1 hv=>exact ⟨hK,hv b.symm⟩
 obtain ⟨A,cap,f,p,hA⟩:∃ A cap,ψ.val id = .slice A xs.length cap/\xs.length<=cap/\(0<xs.length->∃ g,A=some ⟨g,0,none⟩):=by
  rcases c.2 with ⟨hv,h0⟩ | ⟨g,cap,cur,hv,_,K,h1,L,C,D⟩;exact ⟨none,0,by rw [hv,h0],by omega,fun h=>by omega⟩
  ·exact ⟨some ⟨g,0,none⟩,cap,hv,h1,fun _=>⟨g,rfl⟩⟩
 have hu:=(B.get E).slice hk;have e1:(Instr.sliceBounds true xs.length cap (lo.map a.eval) (hi.map a.eval) none).run P w = .ok ((l.getD 0).toNat,(h.getD xs.length).toNat,cap) w:=by
  unfold Instr.sliceBounds;have p:(xs.length:Int)<=(cap:Int):=by omega
  rcases bh with ⟨rfl,rfl⟩ | ⟨y,k,n,rfl,rfl,hy⟩
  ·rcases bl with ⟨rfl,rfl⟩ | ⟨y',k',n',rfl,rfl,m⟩;simp
   ·simp only [qa9,Option.getD_none] at i ⊢;simp [Instr.sliceBound,m,asIntOf,i.1,i.2.1]
  ·rcases bl with ⟨rfl,rfl⟩ | ⟨y',k',n',rfl,rfl,m⟩;simp only [qa9,Option.getD_none] at i ⊢;have:n<=(cap:Int):=(by omega);simp [Instr.sliceBound,hy,asIntOf,i.2.1,this]
   ·simp only [qa9] at i ⊢;have:0<=n:=(by omega);have C:n'<=(n.toNat:Int):=(by omega);have D:n<=(cap:Int):=(by omega);simp [Instr.sliceBound,hy,m,asIntOf,i.1,this,C,D];intro hc;exfalso;omega
 have z:(sizeOf e).run P w = .ok 1 w:=by rw [(B.get q).size,r]
 refine kad w (.slice (if cap=(l.getD 0).toNat then A else A.map (·.add ((l.getD 0).toNat*1))) ((h.getD xs.length).toNat - (l.getD 0).toNat) (cap - (l.getD 0).toNat)) ?_ ⟨kaf _, .win hK.1 (by omega) rfl fun _=>⟨by omega,by omega,_,_,rfl,fun J=>?_⟩⟩;simp [execOp,ho,Instr.sliceAt,Instr.slice,run_underlying hu,hK.2,f,e1,z]
 ·obtain ⟨g,rfl⟩:=hA (by omega);refine ⟨g,by rw [f];rfl,?_⟩;rw [qq (by omega)];simp [ka3]
theorem k3t {α:Type} {enc:α->FV} {f:α->Value} {xs:List α} (zs:List α) (lo:Nat) {cap g:Nat} {e:TypeId} {cur:Array Value} (a:Core F S0 N0 st.heap st.ids ψ S w) (p:kaa st.heap id=some (.frow e 1 (xs.map enc))) (h:ψ.val id = .slice (some ⟨g,0,none⟩) xs.length cap) (J:w.heap[g]?=some (.cells cur e (0,0))) (A:xs.length<=cap) (hc2:cap<=maxLen) (B:cur.size=cap) (C:cur.toList.take xs.length=xs.map f) (hf:∀ y,enc y = .atom (f y)/\(f y).oneCell'=true) (K:lo+zs.length<=xs.length):
  Core F S0 N0 ((id, .frow e 1 ((xs.take lo++(zs++xs.drop (lo+zs.length))).map enc))::st.heap) st.ids ψ S (w.setRow g (cur.toList.take lo++zs.map f++cur.toList.drop (lo+(zs.map f).length)).toArray) /\
  Same S w (w.setRow g (cur.toList.take lo++zs.map f++cur.toList.drop (lo+(zs.map f).length)).toArray)/\∀ b,F b->(w.setRow g (cur.toList.take lo++zs.map f++cur.toList.drop (lo+(zs.map f).length)).toArray).heap[b]?=w.heap[b]?:=by
 obtain ⟨L,⟨hl,r,cs,s,M,hr⟩,N⟩:=a.obj id _ p;rw [qj] at hl s;obtain ⟨new,c⟩:∃ new:Array Value,new=(cur.toList.take lo++zs.map f++cur.toList.drop (lo+(zs.map f).length)).toArray:=⟨_,rfl⟩;rw [<- c];have hcl:cur.toList.length=cap:=by rw [qav,B]
 have D:new.size=cap:=by rw [c];simp only [List.size_toArray,qaf,qak,qj,qaw,hcl];omega
 obtain ⟨ys,m⟩:∃ ys,ys=xs.take lo++(zs++xs.drop (lo+zs.length)):=⟨_,rfl⟩;rw [<- m];have o:ys.length=xs.length:=by rw [m];simp only [qaf,qak,qaw];omega
 have t:cur.toList=xs.map f++cur.toList.drop xs.length:=by rw [<- C,List.take_append_drop]
 have E:new.toList.take xs.length=ys.map f:=by
  rw [c,m];simp only [qbc,List.map_take,List.map_drop,qj];rw [t];have e1:(List.map f xs++List.drop xs.length cur.toList).take lo=(xs.map f).take lo:=by rw [List.take_append_of_le_length (by rw [qj];omega)]
  have e2:(List.map f xs++List.drop xs.length cur.toList).drop (lo+zs.length)=(xs.map f).drop (lo+zs.length)++List.drop xs.length cur.toList:=by rw [List.drop_append_of_le_length (by rw [qj];omega)]
  rw [e1,e2];have e3:((xs.map f).take lo++zs.map f++((xs.map f).drop (lo+zs.length)++List.drop xs.length cur.toList))=((xs.map f).take lo++(zs.map f++(xs.map f).drop (lo+zs.length)))++List.drop xs.length cur.toList:=by simp only [qa0]
  rw [e3,List.take_append_of_le_length (by simp only [qaf,qak,qj,qaw];omega),List.take_of_length_le (by simp only [qaf,qak,qj,qaw];omega)]
 have u:∀ k,k<w.heap.size->¬ Blk (ψ.val id) k->(w.setRow g new).heap[k]?=w.heap[k]?:=fun k _ hk=>kfv g new k fun e=>hk (.of (by rw [h,e];rfl));have O:(w.setRow g new).heap.size=w.heap.size:=by simp [World.setRow]
 have i:ψ.set id xs.length (ψ.val id)=ψ:=by
  unfold Env.set;congr 1
  ·funext j;split;rename_i x;rw [x,hl]
   ·rfl
  ·funext j;split;rename_i x;rw [x]
   ·rfl
 obtain ⟨c1,c2,c3⟩:=a.upd (n:=xs.length) (v:=ψ.val id) (w':=w.setRow g new) (ob' := .frow e 1 (ys.map enc)) p (by omega) u (.inr ⟨hl,rfl⟩) (fun b P => .inl P) (by
  rw [i];refine ⟨by simp [hl,o],r,ys.map f,?_,fun z d=>?_,fun k z j v q d hv l=>?_⟩;rw [qj,o,h];refine ⟨by rw [qj,o,qa1], .inr ⟨g,cap,new,rfl,qas _,kf1 g J,A,hc2,by rw [D,qa1],?_⟩⟩;rw [qa1];exact E;obtain ⟨z0,_,rfl⟩:=qx.1 d;obtain ⟨h1,G⟩:=hf z0;rw [h1];exact ⟨rfl,fun q l=>by simp [FV.cells] at l;subst l;exact G⟩
  ·obtain ⟨z0,H,rfl⟩:∃ z0,ys[k]?=some z0/\enc z0=z:=(by rw [qg,qs] at d;exact d);obtain ⟨h1,G⟩:=hf z0;have x:j=0:=(by rw [h1] at l;have:=(qd.1 l).1;simp [FV.cells] at this;exact this);subst x;have I:q = .atom (f z0):=(by rw [h1] at l;simp [FV.cells] at l;exact l.symm);subst I;simp only [qa1,Nat.add_zero,qg,H,qai,qb] at hv;subst hv;exact .atom G)
 rw [i] at c1;exact ⟨c1,c2,c3⟩
theorem k2q {v:Value} {id n lo hi:Nat} (h:RV ψ K S w v (.win id n lo hi)) (hn:n=ψ.len id):lo<=hi/\hi<=n/\∃ A cap,v = .slice A (hi - lo) cap/\(lo<hi->∃ b,kak (ψ.val id)=some b/\A=some ⟨b,lo,none⟩):=by
 cases h with
 | win _ _ _ hv=>exact hv hn
theorem k5i {α:Type} (enc:α->FV) (xs:List α) (X Y:Operand) (t1 t2 e:TypeId) (d1 de:TD) (n lo hi lo2 hi2:Nat) (hT:TOk P T) (ho:o.op = .call { callee := .builtin .copy,args:=#[X,Y],argTypes:=#[t1,t2] }) (hd:kac T t1=some d1) (hk:d1.kind = .slice e) (Q:kac T e=some de) (R:de.size=1) (hx:st.eval X = .win id n lo hi) (hy:st.eval Y = .win id n lo2 hi2) (t:kaa st.heap id=some (.frow e 1 (xs.map enc))) (hn:n=xs.length) (C:∀ y,∃ u,enc y = .atom u/\u.oneCell'=true):
  StepA P o st (.fz (.atom (.int .i64 (min (hi2 - lo2) (hi - lo):Nat)))) ((id, .frow e 1 ((xs.take lo++((xs.drop lo2).take (min (hi2 - lo2) (hi - lo))++xs.drop (lo+((xs.drop lo2).take (min (hi2 - lo2) (hi - lo))).length))).map enc))::st.heap) st.ids:=by
 subst hn;intro F S0 N0 ψ S a w x;have c:=x.core;obtain ⟨ae,hO,af⟩:=c.obj id _ t;have U:=hO;obtain ⟨hl,ad,cs,m,ag,hr⟩:=U;rw [qj] at hl m;have D:=x.eval X;rw [hx] at D;have E:=x.eval Y;rw [hy] at E;obtain ⟨x1,x2,A1,cap1,G,V⟩:=k2q D hl.symm;obtain ⟨y1,y2,A2,cap2,H,Z⟩:=k2q E hl.symm;have hu:P.underlying t1=some (.slice e):=(hT.get hd).slice hk;have r:(P.info? e).map (·.size)=some 1:=by have:=(hT.get Q).info;rw [R] at this;exact this
 obtain ⟨k,I⟩:∃ k,k=min (hi2 - lo2) (hi - lo):=⟨_,rfl⟩;rw [<- I];have l:((xs.drop lo2).take k).length=k:=by rw [qak,qaw];omega
 by_cases J:k=0
 ·have d:=run_copy_none (P:=P) w t1 t2 o.type e A1 A2 (hi - lo) cap1 (hi2 - lo2) cap2 hu r (by show min _ _=0;omega);have A:xs.take lo++((xs.drop lo2).take k++xs.drop (lo+((xs.drop lo2).take k).length))=xs:=by rw [l,J];simp
  rw [A];have s:ψ.set id xs.length (ψ.val id)=ψ:=by
   unfold Env.set;congr 1
   ·funext j;split;rename_i O;rw [O,hl]
    ·rfl
   ·funext j;split;rename_i O;rw [O]
    ·rfl
  obtain ⟨c1,c2,c3⟩:=c.upd (n:=xs.length) (v:=ψ.val id) (w':=w) (ob' := .frow e 1 (xs.map enc)) t (qu _) (fun _ _ _=>rfl) (.inr ⟨hl,rfl⟩) (fun b K => .inl K) (by rw [s];exact hO);rw [s] at c1;refine kad w (.int .i64 ((k:Nat):Int)) ?_ ⟨ψ,S,c1, .fz (.atom rfl),Fr.refl,Ext.refl,fun _ h=>h,fun _ h=>h,c2⟩;rw [J];simp [execOp,ho,resolve,invoke,builtin,G,H,d,goInt]
 ·obtain ⟨b,K,rfl⟩:=V (by omega);obtain ⟨b2,B,rfl⟩:=Z (by omega);obtain ⟨g,cap,cur,p,hg,aa,hc2,L,ab⟩:=kdj m;have ac:b=g:=by rw [p] at K;simp only [kak,qb] at K;exact K.symm
  have M:b2=g:=by rw [p] at B;simp only [kak,qb] at B;exact B.symm
  subst ac M;obtain ⟨f,hf⟩:∃ f:α->Value,∀ y,enc y = .atom (f y)/\(f y).oneCell'=true:=⟨fun y=>(C y).choose,fun y=>(C y).choose_spec⟩;have N:cur.toList.take xs.length=xs.map f:=by rw [ab];have hcl:cs.length=xs.length:=(by rw [m.1,qa1]);apply List.ext_getElem (by rw [hcl,qj]);intro i h1 h2;rw [qj] at h2;have:=hr i (enc xs[i]) 0 cs[i] (enc xs[i]) (by rw [qg,qa h2];rfl) (by simp) (by rw [(hf xs[i]).1];rfl);rw [(hf xs[i]).1] at this;rw [this.atom_eq,List.getElem_map]
  obtain ⟨c1,c2,c3⟩:=k3t ((xs.drop lo2).take k) lo c t p hg aa hc2 L N hf (by rw [l];omega);have d:=run_copy_row (P:=P) w t1 t2 o.type e b2 lo (hi - lo) cap1 ⟨b2,lo2,none⟩ (hi2 - lo2) cap2 cur e (((xs.drop lo2).take k).map f) hu r hg (by rw [qj,l];exact I) (fun j v hv=>by
   rw [qg,qv] at hv;split at hv
   ·rename_i O;rw [qae] at hv;have q:(xs.map f)[lo2+j]?=some v:=(by rw [qg];exact hv);rw [<- N,qv] at q;split at q;rw [ka3];simp only [World.cell?,hg];rw [qal] at q;simpa using q
    ·cases q
   ·cases hv) (by rw [qj,l,L];omega) (fun v hv=>by obtain ⟨z,_,rfl⟩:=qx.1 hv;exact (hf z).2)
  rw [qj,l] at d;refine kad _ (.int .i64 ((k:Nat):Int)) ?_ ⟨ψ,S,c1, .fz (.atom rfl),⟨rfl,rfl,rfl,?_,c3,fun _=>qu _⟩,Ext.refl,fun _ h=>h,fun _ h=>h,c2⟩;rw [qj,l];simp [execOp,ho,resolve,invoke,builtin,G,H,d,goInt]
  ·simp [World.setRow]
theorem k5d {α:Type} (enc:α->FV) (xs ys:List α) (X Y:Operand) (t1 t2 e:TypeId) (d1 de:TD) (n:Nat) (hT:TOk P T) (ho:o.op = .call { callee := .builtin .copy,args:=#[X,Y],argTypes:=#[t1,t2] }) (hd:kac T t1=some d1) (hk:d1.kind = .slice e) (R:kac T e=some de) (U:de.size=1) (hx:st.eval X = .row id n) (hy:kld (st.eval Y)=some (ys.map enc)) (t:kaa st.heap id=some (.frow e 1 (xs.map enc))) (hn:n=xs.length) (E:∀ y,∃ u,enc y = .atom u/\u.oneCell'=true):
  StepA P o st (.fz (.atom (.int .i64 (min ys.length xs.length:Nat)))) ((id, .frow e 1 ((xs.take 0++(ys.take (min ys.length xs.length)++xs.drop (0+(ys.take (min ys.length xs.length)).length))).map enc))::st.heap) st.ids:=by
 subst hn;intro F S0 N0 ψ S a w x;have c:=x.core;obtain ⟨ai,hO,aj⟩:=c.obj id _ t;have V:=hO;obtain ⟨hl,ag,cs,d,ak,hr⟩:=V;rw [qj] at hl d;have A:=x.eval X;rw [hx] at A;have G:a.eval X=ψ.val id:=by
  generalize a.eval X=u at A;cases A with
  | row hK al h1 hv=>exact hv hl.symm
 obtain ⟨_,_,size,m,hm,_,Z⟩:=ks0 (x.eval Y) hy;obtain ⟨A2,cap2,news,H,aa,_,_,I,ah,J,K,L⟩:=kpu Z;rw [qj] at hm aa I;subst hm;have hu:P.underlying t1=some (.slice e):=(hT.get hd).slice hk;have q:(P.info? e).map (·.size)=some 1:=by have:=(hT.get R).info;rw [U] at this;exact this
 obtain ⟨k,M⟩:∃ k,k=min ys.length xs.length:=⟨_,rfl⟩;rw [<- M];have p:(ys.take k).length=k:=by rw [qak];omega
 by_cases N:k=0
 ·obtain ⟨A1,cap1,ab⟩:∃ A1 cap1,ψ.val id = .slice A1 xs.length cap1:=by
   rcases d.2 with ⟨hv,h0⟩ | ⟨g,cap,cur,hv,_⟩;exact ⟨none,0,by rw [hv,h0]⟩
   ·exact ⟨_,_,hv⟩
  have l:=run_copy_none (P:=P) w t1 t2 o.type e A1 A2 xs.length cap1 ys.length cap2 hu q (by show min _ _=0;omega);have B:xs.take 0++(ys.take k++xs.drop (0+(ys.take k).length))=xs:=by rw [p,N];simp
  rw [B];have r:ψ.set id xs.length (ψ.val id)=ψ:=by
   unfold Env.set;congr 1
   ·funext j;split;rename_i hj;rw [hj,hl]
    ·rfl
   ·funext j;split;rename_i hj;rw [hj]
    ·rfl
  obtain ⟨c1,c2,c3⟩:=c.upd (n:=xs.length) (v:=ψ.val id) (w':=w) (ob' := .frow e 1 (xs.map enc)) t (qu _) (fun _ _ _=>rfl) (.inr ⟨hl,rfl⟩) (fun b hb => .inl hb) (by rw [r];exact hO);rw [r] at c1;refine kad w (.int .i64 ((k:Nat):Int)) ?_ ⟨ψ,S,c1, .fz (.atom rfl),Fr.refl,Ext.refl,fun _ h=>h,fun _ h=>h,c2⟩;rw [N];simp [execOp,ho,resolve,invoke,builtin,G,ab,H,l,goInt]
 ·obtain ⟨g,cap,cur,s,hg,ac,hc2,O,ae⟩:=kdj d;obtain ⟨f,hf⟩:∃ f:α->Value,∀ y,enc y = .atom (f y)/\(f y).oneCell'=true:=⟨fun y=>(E y).choose,fun y=>(E y).choose_spec⟩;have hs1:size=1:=by have h0:0<ys.length:=(by omega);have:=(K (enc ys[0]) (qx.2 ⟨_,qaq h0,rfl⟩)).1;rw [(hf ys[0]).1] at this;exact this.symm
  subst hs1;have C:news=ys.map f:=by apply List.ext_getElem (by rw [I,qj,qa1]);intro i h1 Q;rw [qj] at Q;have:=J i (enc ys[i]) 0 news[i] (enc ys[i]) (by rw [qg,qa Q];rfl) (by simp) (by rw [(hf ys[i]).1];rfl);rw [(hf ys[i]).1] at this;rw [this.atom_eq,List.getElem_map]
  have af:cur.toList.take xs.length=xs.map f:=by rw [ae];have hcl:cs.length=xs.length:=(by rw [d.1,qa1]);apply List.ext_getElem (by rw [hcl,qj]);intro i h1 Q;rw [qj] at Q;have:=hr i (enc xs[i]) 0 cs[i] (enc xs[i]) (by rw [qg,qa Q];rfl) (by simp) (by rw [(hf xs[i]).1];rfl);rw [(hf xs[i]).1] at this;rw [this.atom_eq,List.getElem_map]
  obtain ⟨ad,rfl,D⟩:∃ ad,A2=some ad/\∀ j u,news[j]?=some u->w.cell? (ad.add j)=some u:=by
   rcases L with ⟨_,h⟩ | ⟨h,_⟩ | h;have:=qah List.length h;rw [qj,List.length_nil] at this;omega;have:=qah List.length h;rw [qj,List.length_nil] at this;omega
   ·exact h
  obtain ⟨c1,c2,c3⟩:=k3t (ys.take k) 0 c t s hg ac hc2 O af hf (by rw [p];omega);have l:=run_copy_row (P:=P) w t1 t2 o.type e g 0 xs.length cap ad ys.length cap2 cur e ((ys.take k).map f) hu q hg (by rw [qj,p];exact M) (fun j v hv=>by
   rw [qg,qv] at hv;split at hv;exact D j v (by rw [C,qg];exact hv)
   ·cases hv) (by rw [qj,p,O];omega) (fun v hv=>by obtain ⟨z,_,rfl⟩:=qx.1 hv;exact (hf z).2)
  rw [qj,p] at l;refine kad _ (.int .i64 ((k:Nat):Int)) ?_ ⟨ψ,S,c1, .fz (.atom rfl),⟨rfl,rfl,rfl,?_,c3,fun _=>qu _⟩,Ext.refl,fun _ h=>h,fun _ h=>h,c2⟩;rw [qj,p];simp [execOp,ho,resolve,invoke,builtin,G,s,H,l,goInt]
  ·simp [World.setRow]
end Go.Proofs.YtnlhjbnpjefjgabGreatDoor
set_option linter.all false
namespace Go.Proofs.YtnlhjbnpjefjgabGreatDoor
open Go Go.RowKit
variable [Dr]
def vI (x:Int):Value := .int .i64 x
def tabF (rows:List (List Value)):FV := .lst 1 rows.length (rows.map fun r => .lst 1 r.length (r.map .atom))
def k8x:FV->Bool
 | .atom _=>true
 | .tup vs=>vs.all fun x=>match x with
  | .atom _=>true
  | _=>false
 | _=>false
variable {P:Program} {F S0:Nat->Prop} {N0:Nat} {w w':World} {S S':Nat->Prop} {ψ ψ':Env} {K:Nat->Prop} {T:List (TypeId×TD)} {o:Oper} {a:Act} {st:St} {t:TypeId} {d:TD} {id:Nat} {ids:List Nat} {heap:List (Nat×AObj)}
theorem l_tab {ops:Array Oper} {l:List Oper} {Q:Exit->St->Prop} {X Y:Operand} {n:Int} {eo:TypeId} (ei:TypeId) {de:TD} {k k':IntKind} (ho:o.op = .makeSlice t X Y) (Z:TOk P T) (G:kac T t=some d) (hk:d.kind = .slice eo) (x:kac T eo=some de) (H:de.size=1) (I:de.zero=[.slice none 0 0]) (J:st.eval X = .fz (.atom (.int k n))) (hy:st.eval Y = .fz (.atom (.int k' n))) (h0:0<=n) (m:(de.bytes:Int)*n<=281474976710656) (K:n<=9223372036854775807) (p:st.ids.contains id=false) (hg:ka0 ops st o=some true) (L:∀ t,o.dst=some t->t<st.n) (h:∀ ov,awpL P ops l (({ st with heap:=(id, .tab 0 ov eo ei (List.replicate n.toNat []))::st.heap,ids:=id::st.ids }:St).put o.dst (.fz (.atom ov))) Q):awpL P ops (o::l) st Q:=by
 have p:id∉st.ids:=by simpa using p
 have G:=Z.get G;have x:=Z.get x;intro F S0 N0 ψ S a w hs;have q:=hs.eval X;rw [J] at q;have q:=q.atom;have r:=hs.eval Y;rw [hy] at r;have r:=r.atom;obtain ⟨⟨i,z',hi,M,N,hz,O⟩,_⟩:=x;have g:=hs.core;have hcl:z'.cells=#[.slice none 0 0]:=by apply qbh;rw [O,I]
 have hr:=run_make (P:=P) w t eo i z' (G.slice hk) hi hz k k' n n h0 (Int.le_refl _) (by rw [N];exact m) K;rw [M,H,hcl,qa1] at hr;obtain ⟨w1,y⟩:∃ w1,w1=w.alloc (.cells (madeCells #[.slice none 0 0] n.toNat) eo):=⟨_,rfl⟩;have z:Grow w w1:=y ▸ kap _ _;obtain ⟨ov,s⟩:∃ ov:Value,ov = .slice (some ⟨w.heap.size,0,none⟩) n.toNat n.toNat:=⟨_,rfl⟩;have U:(madeCells #[.slice none 0 0] n.toNat).toList=List.replicate n.toNat (.slice none 0 0):=toList_madeCells_one _ _;obtain ⟨vs,A⟩:∃ vs:List Value,vs=List.replicate n.toNat (.slice none 0 0):=⟨_,rfl⟩;have B:w1.ownsRow 0 eo 1 ov n.toNat vs:=by have:=World.ownsRow_lit (base:=0) (size:=1) (e:=eo) w (madeCells #[.slice none 0 0] n.toNat) n.toNat (qas _) (by unfold maxLen;omega) (by rw [size_madeCells,qa1]);rw [U,<- A,<- s,<- y] at this;exact this
 have f:∀ (j:Nat) (v:Value),vs[j]?=some v->v = .slice none 0 0:=fun j v hv=>by have:=ql hv;rw [A,qbn] at this;exact this.2
 have hO:ObR (ψ.set id 0 (.tuple (ov::vs).toArray)) (·∈id::st.ids) S w1 id (.tab 0 ov eo ei (List.replicate n.toNat [])):=by
  refine ⟨ka2 _ _,vs,kaj _ _,by rw [A];simp,by simpa using B,fun j v xs hv J=>?_,fun i j u v b hu hv V C D=>?_⟩;rw [f j v hv];have:=ql J;rw [qbn] at this;rw [this.2];exact ⟨⟨rfl, .inl ⟨rfl,rfl⟩⟩,fun u hu=>by cases hu⟩
  ·cases i with
   | zero=>cases j with
    | zero=>exact V rfl
    | succ j=>rw [qac] at hv;rw [f j v hv] at D;cases D
   | succ i=>rw [qac] at hu;rw [f i u hu] at C;cases C
 have hc:=g.addB z p (n:=0) (v := .tuple (ov::vs).toArray) (fun b m=>by
  rcases m with m | ⟨u,hu,m⟩;cases m
  ·simp only [kcy] at hu;rcases qan.1 hu with rfl | hu;rw [s] at m;simp [kak] at m;omega
   ·obtain ⟨i,hi,rfl⟩:=qap.1 hu;rw [f i _ (qa hi)] at m;cases m) hO
 unfold wpList;rw [kcj hs hg];refine .inl (kbq (R:=fun v w'=>v=ov/\w'=w1) ?_ ?_);rintro v w' ⟨rfl,rfl⟩;have E:=hs.put (st':={ st with heap:=(id, .tab 0 v eo ei (List.replicate n.toNat []))::st.heap,ids:=id::st.ids }) (d:=o.dst) (v:=v) (c := .fz (.atom v)) rfl rfl rfl hc (.fz (.atom (by rw [s];rfl))) (kay p _ _) (fun _ h=>qe _ h) (fun _ h=>h) (Same.of_grow z) L;exact ka6 (fun e a' w'' k=>k.pre (Fr.of_grow g.fr z)) _ _ _ (h v F S0 N0 _ S _ w' E)
 ·refine kad w1 ov ?_ ⟨rfl,rfl⟩;rw [y,s];simp [execOp,ho,q,r,hr]
theorem kaaq {g:Nat} {ov:Value} {eo ei:TypeId} {rows:List (List Value)} (h:ObR ψ K S w id (.tab g ov eo ei rows)):∃ A cap,ov = .slice A rows.length cap:=by
 obtain ⟨_,vs,_,_,b,_⟩:=h;rcases b.2 with ⟨a,c⟩ | ⟨g,cap,cur,a,_⟩;exact ⟨none,0,by rw [a,c]⟩
 ·exact ⟨some ⟨g,0,none⟩,cap,a⟩
theorem k1c (x:Operand) (e2:TypeId) (g:Nat) (ov:Value) (eo ei:TypeId) (rows:List (List Value)) (n:Nat) (e:TOk P T) (hk:d.kind = .slice e2) (hn:n=rows.length) (ho:o.op = .call { callee := .builtin .len,args:=#[x],argTypes:=#[t] }:=by kernel_rfl) (f:kac T t=some d:=by kernel_rfl) (h:st.eval x = .fz (.atom ov):=by kernel_rfl) (b:kaa st.heap id=some (.tab g ov eo ei rows):=by kernel_rfl):
  NStep P o st (.fz (.atom (.int .i64 n))):=by
 subst hn;intro ψ S a w c i;have h0:=Sim.eval_tmps c x;rw [h] at h0;have h0:=h0.atom;obtain ⟨A,cap,hv⟩:=kaaq (i id _ b);rw [hv] at h0;refine kad w (.int .i64 rows.length) ?_ ⟨kaf _, .fz (.atom rfl)⟩;simp [execOp,ho,resolve,invoke,builtin,Builtin.len_,run_underlying ((e.get f).slice hk),h0,goInt]
theorem k0p {α:Type} (f:α->Value) (x:Operand) (e2:TypeId) (g:Nat) (ov:Value) (eo ei:TypeId) (rows:List (List α)) (row:List α) (i:Int) (n:Nat) (h:idx rows i=some row) (y:TOk P T) (hk:d.kind = .slice e2) (hn:n=row.length) (ho:o.op = .call { callee := .builtin .len,args:=#[x],argTypes:=#[t] }:=by kernel_rfl) (z:kac T t=some d:=by kernel_rfl) (B:st.eval x = .irow id g (i.toNat+1):=by kernel_rfl) (j:kaa st.heap id=some (.tab g ov eo ei (rows.map (List.map f))):=by kernel_rfl):NStep P o st (.fz (.atom (.int .i64 n))):=by
 subst hn;intro ψ S a w k C;unfold idx at h;split at h
 ·rename_i D;have h0:=Sim.eval_tmps k x;rw [B] at h0;obtain ⟨E,vs,b,l,r,m,s⟩:=C id _ j;have p:i.toNat<rows.length:=(qd.1 h).1;have c:i.toNat<vs.length:=by rw [l];simpa using p
  have e:a.eval x=vs[i.toNat]:=by
   generalize a.eval x=u at h0;cases h0 with
   | irow hK hn h1 hv=>
    have:=hv E.symm;rw [b] at this;simp only [kcy,qac] at this;rw [qa c] at this;exact (qy this).symm
  obtain ⟨k1,_⟩:=m i.toNat vs[i.toNat] (row.map f) (qa c) (by rw [qg,h];rfl);rw [qj] at k1;have hv:∃ A cap,a.eval x = .slice A row.length cap:=by
   rw [e];rcases k1.2 with ⟨b,q⟩ | ⟨g,cap,cur,b,_⟩;exact ⟨none,0,by rw [b,q]⟩
   ·exact ⟨some ⟨g,0,none⟩,cap,b⟩
  obtain ⟨A,cap,hv⟩:=hv;refine kad w (.int .i64 row.length) ?_ ⟨kaf _, .fz (.atom rfl)⟩;simp [execOp,ho,resolve,invoke,builtin,Builtin.len_,run_underlying ((y.get z).slice hk),hv,goInt]
 ·cases h
theorem kft (t:TypeId) (d:TD) (id:Nat) {α:Type} (f:α->Value) (rows:List (List α)) (row:List α) (i:Int) (X Y:Operand) (e:TypeId) (de:TD) (k:IntKind) (g:Nat) (ov:Value) (ei:TypeId) (h:idx rows i=some row) (u:TOk P T:=by exact kag) (ho:o.op = .indexAddr t X Y:=by kernel_rfl) (q:kac T t=some d:=by kernel_rfl) (hk:d.kind = .slice e:=by kernel_rfl) (l:kac T e=some de:=by kernel_rfl) (y:de.size=1:=by kernel_rfl) (z:st.eval X = .fz (.atom ov):=by kernel_rfl) (r:kaa st.heap id=some (.tab g ov e ei (rows.map (List.map f))):=by kernel_rfl) (hK:st.ids.contains id=true:=by kernel_rfl) (hy:st.eval Y = .fz (.atom (.int k i)):=by kernel_rfl):NStep P o st (.iref id g 0 i.toNat):=by
 intro ψ S a w ht A;have q:=u.get q;have l:=u.get l;unfold idx at h;split at h
 ·rename_i h0;have B:i.toNat<rows.length:=(qd.1 h).1;have b:=Sim.eval_tmps ht X;rw [z] at b;have b:=b.atom;have c:=Sim.eval_tmps ht Y;rw [hy] at c;have c:=c.atom;obtain ⟨E,vs,m,s,j,C,x⟩:=A id _ r;rw [qj] at s j;obtain ⟨gb,cap,cur,n,D,_⟩:=kdj j;refine kad w (.pointer (some ⟨gb,i.toNat,none⟩)) ?_ ⟨kaf _, .iref (by simpa using hK) (by omega) rfl fun _=>⟨ov,gb,by rw [m];rfl,by rw [n];rfl,rfl⟩⟩;have p:i<(rows.length:Int):=by omega
  simp [execOp,ho,b,n,c,Instr.indexAt,asIntOf,run_underlying (q.slice hk),h0,p,l.size,y,ka3]
 ·cases h
theorem kib (t:TypeId) (d:TD) (id:Nat) {α:Type} (f:α->Value) (rows:List (List α)) (row:List α) (i:Int) (X:Operand) (g:Nat) (ov:Value) (ei:TypeId) (h:idx rows i=some row) (y:TOk P T:=by exact kag) (ho:o.op = .load t X:=by kernel_rfl) (n:kac T t=some d:=by kernel_rfl) (hk:d.kind.agg=false:=by kernel_rfl) (z:st.eval X = .iref id g 0 i.toNat:=by kernel_rfl) (p:kaa st.heap id=some (.tab g ov t ei (rows.map (List.map f))):=by kernel_rfl) (hK:st.ids.contains id=true:=by kernel_rfl):NStep P o st (.irow id g (i.toNat+1)):=by
 intro ψ S a w ht A;have n:=y.get n;unfold idx at h;split at h
 ·rename_i h0;have B:i.toNat<rows.length:=(qd.1 h).1;have j:=Sim.eval_tmps ht X;rw [z] at j;obtain ⟨C,vs,e,q,c,r,x⟩:=A id _ p;rw [qj] at q c;obtain ⟨gb,cap,cur,m,D,E,hc2,F,G⟩:=kdj c;have hp:a.eval X = .pointer (some ⟨gb,i.toNat,none⟩):=by
   generalize a.eval X=u at j;cases j with
   | iref hK H h1 hv=>
    obtain ⟨u,b,hu,s,rfl⟩:=hv C.symm;rw [e] at hu;simp only [kcy,List.getElem?_cons_zero,qb] at hu;subst hu;rw [m] at s;simp only [kak,qb] at s;rw [s]
  have k:vs[i.toNat]?=some (vs[i.toNat]'(by omega)):=qa _;have l:w.cell? ⟨gb,i.toNat,none⟩=some (vs[i.toNat]'(by omega)):=by rw [m] at c;rw [World.ownsRow.cellAt c i.toNat (by omega),k]
  obtain ⟨k1,_⟩:=r i.toNat _ (row.map f) k (by rw [qg,h];rfl);refine kad w (vs[i.toNat]'(by omega)) ?_ ⟨kaf _, .irow (by simpa using hK) (by omega) (ktx k1) fun _=>by rw [e];simp only [kcy,qac];exact k⟩;simp [execOp,ho,hp,Instr.loadAt,Instr.sureAddr,loadVar,n.isAgg,hk,l]
 ·cases h
theorem kx4 {α:Type} {f:α->Value} {rows:List (List α)} {row:List α} {i:Int} {g:Nat} {ov:Value} {eo ei:TypeId} (h:idx rows i=some row) (l:ObR ψ K S w id (.tab g ov eo ei (rows.map (List.map f)))):
  ∃ v vs,ψ.len id=g/\ψ.val id = .tuple (ov::vs).toArray/\(kcy (ψ.val id))[i.toNat+1]?=some v/\vs[i.toNat]?=some v/\w.ownsRow 0 ei 1 v row.length (row.map f)/\rows[i.toNat]?=some row/\∀ u∈row.map f,u.oneCell'=true:=by
 unfold idx at h;split at h
 ·obtain ⟨m,vs,a,c,j,d,k⟩:=l;have e:i.toNat<rows.length:=(qd.1 h).1;have b:i.toNat<vs.length:=by rw [c];simpa using e
  obtain ⟨k1,k2⟩:=d i.toNat vs[i.toNat] (row.map f) (qa b) (by rw [qg,h];rfl);rw [qj] at k1;exact ⟨vs[i.toNat],vs,m,a,by rw [a];simp only [kcy,qac];exact qa b,qa b,k1,h,k2⟩
 ·cases h
theorem kkj (t:TypeId) (d:TD) (id:Nat) {α:Type} (f:α->Value) (rows:List (List α)) (row:List α) (x:α) (i j:Int) (X Y:Operand) (e:TypeId) (de:TD) (k:IntKind) (g:Nat) (ov:Value) (eo:TypeId) (h:idx rows i=some row) (s:idx row j=some x) (A:TOk P T:=by exact kag) (ho:o.op = .indexAddr t X Y:=by kernel_rfl) (y:kac T t=some d:=by kernel_rfl) (hk:d.kind = .slice e:=by kernel_rfl) (c:kac T e=some de:=by kernel_rfl) (C:de.size=1:=by kernel_rfl) (D:st.eval X = .irow id g (i.toNat+1):=by kernel_rfl) (z:kaa st.heap id=some (.tab g ov eo e (rows.map (List.map f))):=by kernel_rfl) (hK:st.ids.contains id=true:=by kernel_rfl) (hy:st.eval Y = .fz (.atom (.int k j)):=by kernel_rfl):NStep P o st (.iref id g (i.toNat+1) j.toNat):=by
 intro ψ S a w ht E;have y:=A.get y;have c:=A.get c;obtain ⟨v,vs,F,B,m,G,n,hr,_⟩:=kx4 h (E id _ z);unfold idx at s;split at s
 ·rename_i h0;have H:j.toNat<row.length:=(qd.1 s).1;have l:=Sim.eval_tmps ht X;rw [D] at l;have b:=Sim.eval_tmps ht Y;rw [hy] at b;have b:=b.atom;obtain ⟨gb,cap,cur,p,I,_⟩:=kdj n;have q:a.eval X = .slice (some ⟨gb,0,none⟩) row.length cap:=by
   generalize a.eval X=u at l;cases l with
   | irow hK hn h1 hv=>
    have:=hv F.symm;rw [m] at this;rw [<- qy this,p]
  refine kad w (.pointer (some ⟨gb,j.toNat,none⟩)) ?_ ⟨kaf _, .iref (by simpa using hK) (by omega) rfl fun _=>⟨v,gb,m,by rw [p];rfl,rfl⟩⟩;have r:j<(row.length:Int):=by omega
  simp [execOp,ho,q,b,Instr.indexAt,asIntOf,run_underlying (y.slice hk),h0,r,c.size,C,ka3]
 ·cases s
theorem kx2 {X:Operand} {g i j b:Nat} {v:Value} (c:RV ψ K S w (a.eval X) (.iref id g i j)) (f:ψ.len id=g) (hv:(kcy (ψ.val id))[i]?=some v) (h:kak v=some b):a.eval X = .pointer (some ⟨b,j,none⟩):=by
 generalize a.eval X=u at c;cases c with
 | iref hK hn h1 e=>
  obtain ⟨u,b',hu,d,rfl⟩:=e f.symm;rw [hv] at hu;cases hu;rw [h] at d;cases d;rfl
theorem kph (t:TypeId) (d:TD) (id:Nat) {α:Type} (f:α->Value) (rows:List (List α)) (row:List α) (x:α) (i j:Int) (X:Operand) (g:Nat) (ov:Value) (eo:TypeId) (h:idx rows i=some row) (e:idx row j=some x) (s:TOk P T:=by exact kag) (ho:o.op = .load t X:=by kernel_rfl) (n:kac T t=some d:=by kernel_rfl) (hk:d.kind.agg=false:=by kernel_rfl) (u:st.eval X = .iref id g (i.toNat+1) j.toNat:=by kernel_rfl) (p:kaa st.heap id=some (.tab g ov eo t (rows.map (List.map f))):=by kernel_rfl):NStep P o st (.fz (.atom (f x))):=by
 intro ψ S a w ht y;have n:=s.get n;obtain ⟨v,vs,z,r,q,A,b,hr,k⟩:=kx4 h (y id _ p);unfold idx at e;split at e
 ·rename_i h0;have B:j.toNat<row.length:=(qd.1 e).1;obtain ⟨gb,cap,cur,l,C,D,hc2,E,F⟩:=kdj b;have m:=Sim.eval_tmps ht X;rw [u] at m;have hp:=kx2 m z q (by rw [l];rfl);have c:w.cell? ⟨gb,j.toNat,none⟩=some (f x):=by rw [l] at b;rw [World.ownsRow.cellAt b j.toNat (by omega),qg,e];rfl
  refine kad w (f x) ?_ ⟨kaf _, .fz (.atom (k _ (qbj (ql e))))⟩;simp [execOp,ho,hp,Instr.loadAt,Instr.sureAddr,loadVar,n.isAgg,hk,c]
 ·cases e
end Go.Proofs.YtnlhjbnpjefjgabGreatDoor
set_option linter.all false
namespace Go.Proofs.YtnlhjbnpjefjgabGreatDoor
open Go Go.RowKit
variable [Dr]
variable {P:Program} {F S0:Nat->Prop} {N0:Nat} {w w':World} {S S':Nat->Prop} {ψ ψ':Env} {K:Nat->Prop} {T:List (TypeId×TD)} {o:Oper} {a:Act} {st:St} {t:TypeId} {d:TD} {id:Nat} {ids:List Nat} {heap:List (Nat×AObj)}
theorem k8c {n:Nat} (hl:ψ.len id=n):ψ.set id n (ψ.val id)=ψ:=by
 unfold Env.set;congr 1
 ·funext j;split;rename_i a;rw [a,hl]
  ·rfl
 ·funext j;split;rename_i a;rw [a]
  ·rfl
theorem kxa {e:TypeId} {n cap g j:Nat} {cs:List Value} {cur:Array Value} {u:Value} (d:w.heap[g]?=some (.cells cur e (0,0))) (a:n<=cap) (hc2:cap<=maxLen) (b:cur.size=cap) (c:cur.toList.take n=cs) (hcl:cs.length=n) (f:j<n):
  (w.setRow g (cur.toList.set j u).toArray).ownsRow 0 e 1 (.slice (some ⟨g,0,none⟩) n cap) n (cs.set j u):=
 ⟨by rw [List.length_set,hcl,qa1], .inr ⟨g,cap,_,rfl,qas _,kf1 g d,a,hc2,by simp [b],by rw [qa1,List.take_set,c]⟩⟩
theorem kvs {e:TypeId} {cur:Array Value} {g:Nat} (j:Nat) (u:Value) (b:w.heap[g]?=some (.cells cur e (0,0))) (c:j<cur.size) (a:u.oneCell'=true):
  (storeCells ⟨g,j,none⟩ [u] 0).run P w = .ok () (w.setRow g (cur.toList.set j u).toArray):=by
 have hst:=run_storeCells_at (P:=P) g j e [u] 0 cur w b (by simp;omega) (fun v hv=>by simp at hv;rw [hv];exact a);have:(cur.toList.take (j+0)++[u]++cur.toList.drop (j+0+[u].length))=cur.toList.set j u:=by rw [List.set_eq_take_append_cons_drop,qt (by simpa using c)];simp
 rw [this] at hst;exact hst
theorem kkq {u:Value} (h:u.oneCell'=true):u.cells=#[u]:=by cases u <;> first | rfl | cases h
theorem k0r {vs:List Value} {i j b:Nat} {u v:Value} (h:∀ (i j:Nat) (u v:Value) (b:Nat),vs[i]?=some u->vs[j]?=some v->i≠j->kak u=some b->kak v≠some b) (hi:vs[i]?=some u) (c:vs[j]?=some v) (a:i≠j) (d:kak u=some b):
  ∀ k,v.ownBlock=some k->k≠b:=fun k hk e=>h i j u v b hi c a d (by rw [kdv hk,e])
theorem kwz {α:Type} (f:α->Value) (rows:List (List α)) (row:List α) (x y:α) (i j:Int) (X Y:Operand) (g:Nat) (ov:Value) (eo:TypeId) (h:idx rows i=some row) (U:idx row j=some x) (hT:TOk P T) (ho:o.op = .store t X Y:=by kernel_rfl) (Z:kac T t=some d:=by kernel_rfl) (hz:d.size=1:=by kernel_rfl) (hx:st.eval X = .iref id g (i.toNat+1) j.toNat:=by kernel_rfl) (H:kaa st.heap id=some (.tab g ov eo t (rows.map (List.map f))):=by kernel_rfl) (hy:st.eval Y = .fz (.atom (f y)):=by kernel_rfl):StepA P o st .any ((id, .tab g ov eo t ((rows.set i.toNat (row.set j.toNat y)).map (List.map f)))::st.heap) st.ids:=by
 intro F S0 N0 ψ S a w G;have Z:=hT.get Z;have m:=G.core;obtain ⟨ah,hO,ai⟩:=m.obj id _ H;obtain ⟨v,vs,V,p,aa,A,I,hr,J⟩:=kx4 h hO;obtain ⟨_,vs',q,ab,r,ac,s⟩:=hO;obtain rfl:vs'=vs:=by rw [p] at q;simpa using q.symm
 unfold idx at U;split at U
 ·rename_i h0;have ad:j.toNat<row.length:=(qd.1 U).1;obtain ⟨gb,cap,cur,K,L,ae,hc2,M,af⟩:=kdj I;have N:=G.eval X;rw [hx] at N;have B:kak v=some gb:=by rw [K];rfl
  have hp:=kx2 N V aa B;have z:=G.eval Y;rw [hy] at z;have C:(f y).oneCell'=true:=by have O:=z.inv;generalize a.eval Y=u at O;cases O with | atom h=>exact h
  have z:=z.atom;have hst:=kvs (P:=P) j.toNat (f y) L (by rw [M];omega) C;obtain ⟨w',l⟩:∃ w',w'=w.setRow gb (cur.toList.set j.toNat (f y)).toArray:=⟨_,rfl⟩;rw [<- l] at hst;have c:∀ k,k≠gb->w'.heap[k]?=w.heap[k]?:=fun k hk=>by rw [l];exact kfv gb _ k hk
  have aj:w'.heap.size=w.heap.size:=by rw [l];simp [World.setRow]
  have hB:Blk (ψ.val id) gb:=by rw [p];exact .inr ⟨v,by simp only [kcy];exact qe _ (ql A),B⟩
  have Q:∀ k,k<w.heap.size->¬ Blk (ψ.val id) k->w'.heap[k]?=w.heap[k]?:=fun k _ hk=>c k fun e=>hk (e ▸ hB);have E:=k8c (ψ:=ψ) (id:=id) V;obtain ⟨c1,c2,c3⟩:=m.upd (n:=g) (v:=ψ.val id) (w':=w') (ob' := .tab g ov eo t ((rows.set i.toNat (row.set j.toNat y)).map (List.map f))) H (by omega) Q (.inr ⟨V,rfl⟩) (fun b R => .inl R) (by
   rw [E];refine ⟨V,vs',p,by simpa using ab,?_,fun k u xs hu D=>?_,s⟩;rw [qj,List.length_set];rw [qj] at r;exact kdh r fun b R=>c b (k0r s (i:=i.toNat+1) (j:=0) (by rw [qac];exact A) rfl (by omega) B b R)
   ·by_cases hk:i.toNat=k
    ·subst hk;rw [A] at hu;cases hu;have ag:i.toNat<rows.length:=(qd.1 hr).1;rw [qg,qa5 ag,qai] at D;cases D;rw [List.map_set];refine ⟨?_,fun u hu=>?_⟩;rw [List.length_set,qj,K,l];exact kxa L ae hc2 M af (by simp) ad
     ·rcases List.mem_or_eq_of_mem_set hu with hu | rfl;exact J u hu
      ·exact C
    ·rw [qg,qbb hk,<- qg] at D;obtain ⟨k1,k2⟩:=ac k u xs hu D;exact ⟨kdh k1 fun b R=>c b (k0r s (i:=i.toNat+1) (j:=k+1) (by rw [qac];exact A) (by rw [qac];exact hu) (by omega) B b R),k2⟩)
  rw [E] at c1;refine ke0 w' ?_ ⟨ψ,S,c1, .any,⟨by rw [l];rfl,by rw [l];rfl,by rw [l];rfl,by omega,c3,fun _=>by rw [l];exact qu _⟩,Ext.refl,fun _ h=>h,fun _ h=>h,c2⟩;simp only [execOp,ho,Instr.storeAt,hp,z,Instr.sureAddr,storeVar,Z.size,Sem.run_bind,Sem.run_pure,Result.andThen_ok];rw [qq (by rw [kkq C,hz];simp)];simp [kkq C,hst]
 ·cases U
theorem Core.upd2 {n id2:Nat} {v:Value} {ob ob2 ob':AObj} (h:Core F S0 N0 heap ids ψ S w) (ho:kaa heap id=some ob) (t:kaa heap id2=some ob2) (q:w.heap.size<=w'.heap.size) (m:∀ k,k<w.heap.size->¬ Blk (ψ.val id) k->w'.heap[k]?=w.heap[k]?)
  (E:ψ.len id<n) (p:∀ b,Blk v b->Blk (ψ.val id) b\/Blk (ψ.val id2) b) (G:ObR (ψ.set id n v) (·∈ids) S w' id ob'):
  Core F S0 N0 ((id,ob')::kbd id2 heap) ids (ψ.set id n v) S w'/\Same S w w'/\∀ b,F b->w'.heap[b]?=w.heap[b]?:=by
 obtain ⟨y,H,r⟩:=h.obj id ob ho;obtain ⟨B,C,u⟩:=h.obj id2 ob2 t;have hk:Same S w w':=fun b p hl=>m b hl fun e=>(r b e).1 p;refine ⟨⟨fun i o' c=>?_,fun i i' o' o'' b j a s g d=>?_,fun b p=>qba (h.lt b p) q,h.s0,qa7 h.n0 q,fun b p=>qba (h.fr b p) q⟩,hk,fun b hf=>m b (h.fr b hf) fun e=>(r b e).2.1 hf⟩
 ·rw [kae] at c;by_cases o:id=i
  ·subst o;rw [qt rfl] at c;injection c with c;subst c;refine ⟨y,G,fun b f=>?_⟩;rw [kaj] at f;rcases p b f with h1 | h1;exact r b h1
   ·exact u b h1
  ·rw [qq o] at c;obtain ⟨_,c⟩:=kbh id2 c;obtain ⟨h1,D,I⟩:=h.obj i o' c;have x:=kbi ψ (Ne.symm o) n v;refine ⟨h1,D.keep (knz (.inl E)) (fun _ h=>h) (fun _ h=>h) hk x fun b f=>m b (D.lt f) fun e=>h.inj i id o' ob b c ho (Ne.symm o) f e,fun b f=>I b (by rw [x.2] at f;exact f)⟩
 ·have key:∀ {i' o''},id≠i'->kaa (kbd id2 heap) i'=some o''->∀ {b},Blk v b->¬ Blk ((ψ.set id n v).val i') b:=fun {i' o''} l hl {b} g d=>by
   obtain ⟨z,hl⟩:=kbh id2 hl;rw [(kbi ψ (Ne.symm l) n v).2] at d;rcases p b g with A | A;exact h.inj id i' ob o'' b ho hl l A d
   ·exact h.inj id2 i' ob2 o'' b t hl (Ne.symm z) A d
  rw [kae] at j a;by_cases o:id=i;subst o;rw [qq s] at a;rw [kaj] at g;exact key s a g d
  ·rw [qq o] at j;by_cases l:id=i';subst l;rw [kaj] at d;exact key o j d g
   ·rw [qq l] at a;obtain ⟨_,j⟩:=kbh id2 j;obtain ⟨_,a⟩:=kbh id2 a;rw [(kbi ψ (Ne.symm o) n v).2] at g;rw [(kbi ψ (Ne.symm l) n v).2] at d;exact h.inj i i' o' o'' b j a s g d
theorem kw8 {α:Type} (f:α->Value) (enc:α->FV) (rows:List (List α)) (row zs:List α) (i:Int) (X Y:Operand) (g id2 n:Nat) (ov:Value) (ei:TypeId) (h:idx rows i=some row) (hT:TOk P T) (hn:n=zs.length) (hf:∀ y,enc y = .atom (f y)/\(f y).oneCell'=true) (ho:o.op = .store t X Y:=by kernel_rfl) (hd:kac T t=some d:=by kernel_rfl) (hz:d.size=1:=by kernel_rfl) (hx:st.eval X = .iref id g 0 i.toNat:=by kernel_rfl) (s:kaa st.heap id=some (.tab g ov t ei (rows.map (List.map f))):=by kernel_rfl) (hy:st.eval Y = .row id2 n:=by kernel_rfl) (r:kaa st.heap id2=some (.frow ei 1 (zs.map enc)):=by kernel_rfl):
  StepA P o st .any ((id, .tab (g+1) ov t ei ((rows.set i.toNat zs).map (List.map f)))::kbd id2 st.heap) st.ids:=by
 subst hn;intro F S0 N0 ψ S a w G;have hd:=hT.get hd;have l:=G.core;have ad:id≠id2:=fun e=>by rw [e,r] at s;cases s
 obtain ⟨an,⟨hg,vs,C,H,D,ae,E⟩,ao⟩:=l.obj id _ s;obtain ⟨al,⟨N,_,cs,c,_,af⟩,am⟩:=l.obj id2 _ r;rw [qj] at H D N c;unfold idx at h;split at h
 ·rename_i h0;have O:i.toNat<rows.length:=(qd.1 h).1;obtain ⟨gb,cap,cur,Q,R,ag,hc2,U,ah⟩:=kdj D;have x:kak ov=some gb:=by rw [Q];rfl
  have V:=G.eval X;rw [hx] at V;have hp:=kx2 V hg (v:=ov) (by rw [C];rfl) x;have I:=G.eval Y;rw [hy] at I;obtain ⟨u,hu⟩:∃ u,u=ψ.val id2:=⟨_,rfl⟩;have ai:a.eval Y=u:=by
   rw [hu];generalize a.eval Y=u at I;cases I with
   | row hK aq h1 hv=>exact hv N.symm
  rw [<- hu] at c;have J:u.oneCell'=true:=ktx c;have aj:cs=zs.map f:=by have hcl:cs.length=zs.length:=(by rw [c.1,qa1]);apply List.ext_getElem (by rw [hcl,qj]);intro k h1 h2;rw [qj] at h2;have:=af k (enc zs[k]) 0 cs[k] (enc zs[k]) (by rw [qg,qa h2];rfl) (by simp) (by rw [(hf zs[k]).1];rfl);rw [(hf zs[k]).1] at this;rw [this.atom_eq,List.getElem_map]
  have hst:=kvs (P:=P) i.toNat u R (by rw [U];omega) J;obtain ⟨w',p⟩:∃ w',w'=w.setRow gb (cur.toList.set i.toNat u).toArray:=⟨_,rfl⟩;rw [<- p] at hst;have m:∀ k,k≠gb->w'.heap[k]?=w.heap[k]?:=fun k hk=>by rw [p];exact kfv gb _ k hk
  have ar:w'.heap.size=w.heap.size:=by rw [p];simp [World.setRow]
  have A:∀ u b,u∈ov::vs->kak u=some b->Blk (ψ.val id) b:=fun u b hu q=>by rw [C];exact .inr ⟨u,by simpa [kcy] using hu,q⟩
  have hB:Blk (ψ.val id) gb:=A ov gb (qn ..) x;have Z:∀ k,k<w.heap.size->¬ Blk (ψ.val id) k->w'.heap[k]?=w.heap[k]?:=fun k _ hk=>m k fun e=>hk (e ▸ hB);have aa:∀ b,kak u=some b->Blk (ψ.val id2) b:=fun b q => .of (hu ▸ q);have K:∀ v b,v∈ov::vs->kak v=some b->kak u≠some b:=fun v b hv q L=>l.inj id id2 _ _ b s r ad (A v b hv q) (aa b L);have ab:i.toNat<vs.length:=by omega
  obtain ⟨c1,c2,c3⟩:=l.upd2 (n:=g+1) (v := .tuple (ov::vs.set i.toNat u).toArray) (w':=w') (ob' := .tab (g+1) ov t ei ((rows.set i.toNat zs).map (List.map f))) s r (by omega) Z (by omega) (fun b q=>by
    rcases q with q | ⟨v,hv,q⟩;cases q
    ·simp only [kcy] at hv;rcases qan.1 hv with rfl | hv;exact .inl (A _ b (qn ..) q)
     ·rcases List.mem_or_eq_of_mem_set hv with hv | rfl;exact .inl (A v b (qe _ hv) q)
      ·exact .inr (aa b q)) (by
   refine ⟨ka2 _ _,vs.set i.toNat u,kaj _ _,by simpa using H,?_,fun k v xs hv B=>?_,fun k j v1 v2 b h1 h2 ak M=>?_⟩;rw [qj,List.length_set,Q,p];exact kxa R ag hc2 U ah H O
   ·by_cases hk:i.toNat=k;subst hk;rw [qa5 ab] at hv;cases hv;rw [qg,qa5 O,qai] at B;cases B;rw [qj];refine ⟨aj ▸ kdh c fun b q=>m b fun e=>K ov gb (qn ..) x (by rw [kdv q,e]),fun y hy=>?_⟩;obtain ⟨z,_,rfl⟩:=qx.1 hy;exact (hf z).2
    ·rw [qbb hk] at hv;rw [qg,qbb hk,<- qg] at B;obtain ⟨k1,k2⟩:=ae k v xs hv B;exact ⟨kdh k1 fun b q=>m b (k0r E (i:=0) (j:=k+1) rfl (by rw [qac];exact hv) (by omega) x b q),k2⟩
   ·have sp:∀ (k:Nat) (v:Value),(ov::vs.set i.toNat u)[k]?=some v->(k=i.toNat+1/\v=u)\/(k≠i.toNat+1/\(ov::vs)[k]?=some v):=fun k v hk=>by
     cases k with
     | zero=>exact .inr ⟨by omega,hk⟩
     | succ k=>
      rw [qac] at hk ⊢;by_cases ac:i.toNat=k;subst ac;rw [qa5 ab] at hk;cases hk;exact .inl ⟨rfl,rfl⟩
      ·rw [qbb ac] at hk;exact .inr ⟨by omega,hk⟩
    rcases sp k v1 h1 with ⟨e1,d1⟩ | ⟨e1,g1⟩ <;> rcases sp j v2 h2 with ⟨e2,d2⟩ | ⟨e2,g2⟩;omega;exact fun L=>K v2 b (ql g2) L (d1 ▸ M);exact d2 ▸ K v1 b (ql g1) M
    ·exact E k j v1 v2 b g1 g2 ak M)
  refine ke0 w' ?_ ⟨_,S,c1, .any,⟨by rw [p];rfl,by rw [p];rfl,by rw [p];rfl,by omega,c3,fun _=>by rw [p];exact qu _⟩,knz (.inl (by omega)),fun _ h=>h,fun _ h=>h,c2⟩;simp only [execOp,ho,Instr.storeAt,hp,ai,Instr.sureAddr,storeVar,hd.size,Sem.run_bind,Sem.run_pure,Result.andThen_ok];rw [qq (by rw [kkq J,hz];simp)];simp [kkq J,hst]
 ·cases h
end Go.Proofs.YtnlhjbnpjefjgabGreatDoor
set_option linter.all false
namespace Go.Proofs.YtnlhjbnpjefjgabGreatDoor
open Go Go.RowKit
variable [Dr]
def noI (id:Nat) (ids:List Nat) (st:St):Bool:=!ids.contains id && (st.tmps.all (fun p=>okA ids p.2) && st.heap.all (fun p=>Nat.beq p.1 id || (ids.contains p.1 && (match p.2 with
 | .box _ cs=>okAs ids cs
 | .frow _ _ _=>true
 | .smap _=>true
 | .tab _ _ _ _ _=>true
 | .xo (.imap _)=>true
 | .xo (.mit m _ _ _)=>ids.contains m
 | .gho _ vs=>okAs ids vs
 | .glb _=>true
 | .sit _ _=>true
 | .memo _ _=>true
 | .xo _=>false
 | .was _ ids0 _ _=>ids0.all ids.contains))))
variable {P:Program} {F S0:Nat->Prop} {N0:Nat} {w w':World} {S S':Nat->Prop} {ψ ψ':Env} {K:Nat->Prop} {T:List (TypeId×TD)} {o:Oper} {a:Act} {st:St} {t:TypeId} {d:TD} {id:Nat} {ids:List Nat} {heap:List (Nat×AObj)}
theorem k05:∀ {l:List (Nat×AV)} {t:Nat},look .any l t = .any\/∃ p∈l,look .any l t=p.2
 | [],_ => .inl rfl
 | (k,v)::l,t=>by
  rw [kar];split;exact .inr ⟨(k,v),qn ..,rfl⟩
  ·rcases k05 (l:=l) (t:=t) with h | ⟨p,hp,h⟩;exact .inl h
   ·exact .inr ⟨p,qe _ hp,h⟩
theorem kyk:∀ {l:List (Nat×AObj)} {t:Nat} {ob:AObj},kaa l t=some ob->(t,ob)∈l
 | [],_,_,h=>by cases h
 | (k,v)::l,t,ob,h=>by
  rw [kae] at h;split at h;rename_i hk;cases hk;cases h;exact qn ..
  ·exact qe _ (kyk h)
theorem kx0 (id:Nat) (ids:List Nat) (g:Nat) (ov:Value) (eo ei:TypeId) (rows:List (List Value)) (r:kaa st.heap id=some (.tab g ov eo ei rows):=by kernel_rfl) (hn:noI id ids st=true:=by kernel_rfl) (hi:ids.all st.ids.contains=true:=by kernel_rfl):LeSt st { st with heap:=(id, .tab 0 ov eo ei rows)::kbd id st.heap }:=by
 intro F S0 N0 ψ S a w hs;unfold noI at hn;simp only [qo,qbq,qk,qbm] at hn;obtain ⟨h1,R,T⟩:=hn;have n:id∉ids:=by simpa using h1
 have u:∀ i,i∈ids->i∈st.ids:=fun i K=>by simpa using qk.1 hi i K
 have d:=hs.core;obtain ⟨L,⟨U,vs,A,M,B,C,D⟩,N⟩:=d.obj id _ r;have E:Ext (·∈ids) ψ (ψ.set id 0 (ψ.val id)):=kay n _ _;have hv:∀ j,(ψ.set id 0 (ψ.val id)).val j=ψ.val j:=fun j=>by
  by_cases G:j=id;subst G;rw [kaj]
  ·exact (kbi ψ G _ _).2
 have keepA:∀ {v x},RV ψ (·∈st.ids) S w v x->okA ids x=true->RV (ψ.set id 0 (ψ.val id)) (·∈st.ids) S w v x:=fun {v x} h ho=>
  (h.subA ho).keep E u (fun _ h=>h) (fun _ _ _=>rfl)
 refine ⟨ψ.set id 0 (ψ.val id),S,hs.defers,hs.size,fun t=>?_,⟨fun i ob ho=>?_,fun i i' ob ob' b ho O P o H=>?_,d.lt,d.s0,d.n0,d.fr⟩⟩
 ·have hk:=hs.tmps t;show RV _ _ S w _ (look .any st.tmps t);rcases k05 (l:=st.tmps) (t:=t) with h | ⟨p,hp,h⟩;rw [h];exact .any
  ·unfold St.get at hk;rw [h] at hk ⊢;exact keepA hk (R p hp)
 ·rw [kae] at ho;by_cases q:id=i;subst q;rw [qt rfl] at ho;cases ho;exact ⟨L,⟨ka2 _ _,vs,by rw [kaj,A],M,B,C,D⟩,fun b o=>N b (by rwa [hv] at o)⟩
  ·rw [qq q] at ho;obtain ⟨_,ho⟩:=kbh id ho;obtain ⟨k1,k2,k3⟩:=d.obj i ob ho;have c:=kbi ψ (Ne.symm q) 0 (ψ.val id);refine ⟨k1,?_,fun b o=>k3 b (by rwa [hv] at o)⟩;rcases T _ (kyk ho) with h | h;exact absurd (qf h) (Ne.symm q)
   ·obtain ⟨hc,h⟩:=h;cases ob with
    | box e cells=>
     obtain ⟨q0,b,cs,q1,q2,q3,q4,q5⟩:=k2;simp only [khh] at h;exact ⟨by rw [c.1,q0],b,cs,by rw [c.2,q1],q2,q3,q4,fun j v x hv I=>keepA (q5 j v x hv I) (qk.1 h x (ql I))⟩
    | frow e size xs=>
     obtain ⟨q0,q1,cs,q2,q3,q4⟩:=k2;exact ⟨by rw [c.1,q0],q1,cs,by rw [c.2];exact q2,q3,q4⟩
    | sit s pos=>
     obtain ⟨q0,b,q1,q2⟩:=k2;exact ⟨by rw [c.1,q0],b,by rw [c.2,q1],q2⟩
    | glb gs=>
     obtain ⟨q0,q1,q2,q3⟩:=k2;exact ⟨by rw [c.1,q0],by rw [c.2,q1],by rw [c.2,q2],q3⟩
    | smap kv=>
     obtain ⟨q0,b,es,cl,q1,q2⟩:=k2;exact ⟨by rw [c.1,q0],b,es,cl,by rw [c.2,q1],q2⟩
    | xo k=>cases k with
     | imap kv=>
      obtain ⟨q0,b,es,q1,q2⟩:=k2;exact ⟨by rw [c.1,q0],b,es,by rw [c.2,q1],q2⟩
     | mit m x y z=>
      obtain ⟨q0,qm,b,bm,q1,q2,q3⟩:=k2;have hm:m∈ids:=(by simpa using h);have J:=kbi (id:=id) (i:=m) ψ (fun (e:m=id)=>n (e ▸ hm)) 0 (ψ.val id);exact ⟨by rw [c.1,q0],qm,b,bm,by rw [c.2,q1],q2,fun e=>by rw [J.2];exact q3 (by rw [<- J.1];exact e)⟩
     | _=>cases h
    | memo Φ hi=>
     obtain ⟨q0,b,es,cl,q1,q2⟩:=k2;exact ⟨by rw [c.1,q0],b,es,cl,by rw [c.2,q1],q2⟩
    | tab g ov eo ei rows=>
     obtain ⟨q0,vs,q1,q2⟩:=k2;exact ⟨by rw [c.1,q0],vs,by rw [c.2,q1],q2⟩
    | gho cs vs=>
     obtain ⟨q0,q1,q2,q3⟩:=k2;simp only [khh] at h;exact ⟨by rw [c.1,q0],by rw [c.2,q1],by rw [c.2,q2],fun j v x hv I=>keepA (q3 j v x hv I) (qk.1 h x (ql I))⟩
    | was ψ0 ids0 S1 w0=>
     obtain ⟨q0,q1,q2,q3,q4,q5,q6⟩:=k2;refine ⟨by rw [c.1,q0],by rw [c.2,q1],by rw [c.2,q2],fun j G=>?_,q4,q5,q6⟩;have Q:j∈ids:=(by simpa using qk.1 h j G);have f:=kbi (id:=id) (i:=j) ψ (fun e=>n (e ▸ Q)) 0 (ψ.val id);rw [f.1,f.2];exact q3 j G
 ·rw [hv] at o H;have up:∀ {i ob},kaa ((id,AObj.tab 0 ov eo ei rows)::kbd id st.heap) i=some ob->∃ ob',kaa st.heap i=some ob':=fun {i ob} h=>by
   rw [kae] at h;split at h;rename_i q;exact ⟨_,q ▸ r⟩
   ·exact ⟨_,(kbh id h).2⟩
  obtain ⟨o1,g1⟩:=up ho;obtain ⟨o2,g2⟩:=up O;exact d.inj i i' o1 o2 b g1 g2 P o H
theorem kyo {ob:AObj} (h:Core F S0 N0 heap ids ψ S w) (ho:kaa heap id=some ob):Core F S0 N0 (kbd id heap) ids ψ (fun b=>S b\/Blk (ψ.val id) b) w:=by
 obtain ⟨j,e,f⟩:=h.obj id _ ho;refine ⟨fun k ob hk=>?_,fun k k' o o' b hk c d a g=>?_,fun b a=>?_,fun b a=>?_,h.n0,h.fr⟩
 ·obtain ⟨d,hk⟩:=kbh id hk;obtain ⟨h1,l,i⟩:=h.obj k ob hk;refine ⟨h1,l.keep Ext.refl (fun _ h=>h) (fun b a => .inl a) (fun _ _ _=>rfl) ⟨rfl,rfl⟩ (fun _ _=>rfl),fun b a=>⟨fun hs=>?_,(i b a).2⟩⟩;rcases hs with hs | hs;exact (i b a).1 hs
  ·exact h.inj k id ob _ b hk ho d a hs
 obtain ⟨_,hk⟩:=kbh id hk;obtain ⟨_,c⟩:=kbh id c;exact h.inj k k' o o' b hk c d a g
 ·rcases a with a | a;exact h.lt b a
  ·exact e.lt a
 ·rcases a with a | a;exact h.s0 b a
  ·exact (f b a).2.2
theorem kz3 (r:List Value) (h:∀ u∈r,u.oneCell'=true):ElR 1 (r.map .atom):=fun x a=>by obtain ⟨u,hu,rfl⟩:=qx.1 a;exact ⟨rfl,fun y hy=>by simp [FV.cells] at hy;subst hy;exact h u hu⟩
theorem kyf (r:List Value) (h:∀ u∈r,u.oneCell'=true):RowR S w 1 (r.map .atom) r:=fun i x j v y a hv hy=>by
 rw [qg,qs] at a;obtain ⟨u,hu,rfl⟩:=a;have b:j=0:=by have:=(qd.1 hy).1;simp [FV.cells] at this;exact this
 subst b;simp [FV.cells] at hy;subst hy;rw [qa1,Nat.add_zero,hu] at hv;cases hv;exact .atom (h _ (ql hu))
theorem k18 {g:Nat} {ov:Value} {eo ei:TypeId} {rows:List (List Value)} (h:ObR ψ K S w id (.tab g ov eo ei rows)):RF (fun b=>S b\/Blk (ψ.val id) b) w ov (tabF rows):=by
 obtain ⟨s,vs,d,p,e,l,n⟩:=h;have o:∀ u b,u∈ov::vs->kak u=some b->Blk (ψ.val id) b:=fun u b hu f=>by rw [d];exact .inr ⟨u,by simpa [kcy] using hu,f⟩
 have c:rows.length=(rows.map fun r:List Value=>FV.lst 1 r.length (r.map .atom)).length:=by simp
 have a:∀ (j:Nat) (v:Value) (r:List Value),vs[j]?=some v->rows[j]?=some r->RF (fun b=>S b\/Blk (ψ.val id) b) w v (.lst 1 r.length (r.map .atom)):=fun j v r hv hr=>by obtain ⟨k1,k2⟩:=l j v r hv hr;have:=kt5 (S:=S) (r.map .atom) (by simpa using k1) (kz3 r k2) (kyf r k2);rw [qj] at this;exact this.mono fun b f=>f.imp _root_.id fun h=>o v b (qe _ (ql hv)) h
 have m:ElR 1 (rows.map fun r:List Value=>FV.lst 1 r.length (r.map .atom)):=fun x k=>by obtain ⟨r,hr,rfl⟩:=qx.1 k;exact ⟨rfl,fun y hy=>by simp [FV.cells] at hy;subst hy;rfl⟩
 have:=kt5 (S:=fun b=>S b\/Blk (ψ.val id) b) (rows.map fun r:List Value=>FV.lst 1 r.length (r.map .atom)) (by rw [<- c];exact e) m (fun i x j v y k hv hy=>by
  rw [qg,qs] at k;obtain ⟨r,hr,rfl⟩:=k;have q:j=0:=by have:=(qd.1 hy).1;simp [FV.cells] at this;exact this
  subst q;simp [FV.cells] at hy;subst hy;rw [qa1,Nat.add_zero] at hv;exact a i v r hv hr)
 rw [<- c] at this;exact this.mono fun b f=>f.elim _root_.id fun h => .inr (o ov b (qn ..) h)
def k5m (st:St) (ov:Value):List Nat->Prop
 | []=>True
 | t::ts=>st.get t = .fz (.atom ov)/\k5m st ov ts
theorem k03 (g:Nat) (ov:Value) (eo ei:TypeId) (rows:List (List Value)) (y:FV) (id:Nat) (ts:List Nat) (e:k5m st ov ts) (d:kaa st.heap id=some (.tab g ov eo ei rows)) (hy:y=tabF rows):
  LeSt st { st with tmps:=krr (.fz y) st.tmps ts,heap:=kbd id st.heap }:=by
 subst hy;intro F S0 N0 ψ S a w hs;have c1:=kyo hs.core d;have c2:=k18 (hs.core.obj id _ d).2.1;have c:∀ k,RV ψ (·∈st.ids) (fun b=>S b\/Blk (ψ.val id) b) w (a.tmps.getD k undef) (st.get k):=fun k=>(hs.tmps k).mono (fun _ h=>h) fun _ h => .inl h;refine ⟨ψ,_,hs.defers,hs.size,fun k=>?_,c1⟩;show RV ψ (·∈st.ids) _ w (a.tmps.getD k undef) (look .any (krr (.fz (tabF rows)) st.tmps ts) k)
 induction ts with
 | nil=>exact c k
 | cons t ts ih=>
  simp only [krr,kar];split;rename_i hk;subst hk;have hv:=c t;rw [e.1] at hv;refine .fz ?_;rw [hv.atom];exact c2
  ·exact ih e.2
inductive LendI where
 | row (t id n:Nat) (e:TypeId) (size:Nat) (xs:List FV)
 | tab (t id g:Nat) (ov:Value) (eo ei:TypeId) (rows:List (List Value)) (x:FV)
 | inn (t id g:Nat) (ov:Value) (eo ei:TypeId) (rows:List (List Value)) (i:Nat) (x:FV)
def LendI.ok (st:St):LendI->Prop
 | .row t id n e size xs=>st.get t = .row id n/\kaa st.heap id=some (.frow e size xs)/\n=xs.length
 | .tab t id g ov eo ei rows x=>st.get t = .fz (.atom ov)/\kaa st.heap id=some (.tab g ov eo ei rows)/\x=tabF rows
 | .inn t id g ov eo ei rows i x=>st.get t = .irow id g (i+1)/\kaa st.heap id=some (.tab g ov eo ei rows)/\∃ r,rows[i]?=some r/\x = .lst 1 r.length (r.map .atom)
def LendI.slot:LendI->Nat×AV
 | .row t _ n _ size xs=>(t, .fz (.lst size n xs))
 | .tab t _ _ _ _ _ _ x=>(t, .fz x)
 | .inn t _ _ _ _ _ _ _ x=>(t, .fz x)
def k9j (ls:List LendI) (st:St):St:={ st with tmps:=ls.map LendI.slot++st.tmps }
theorem k1q {e:TypeId} {size:Nat} {xs:List FV} (h:ObR ψ K S w id (.frow e size xs)):RF (fun b=>S b\/Blk (ψ.val id) b) w (ψ.val id) (.lst size xs.length xs):=by obtain ⟨h0,c,cs,a,d,hr⟩:=h;exact (kt5 _ a d hr (f:=c)).mono fun b f=>f.imp _root_.id .of
theorem kzs {SB:Nat->Prop}:∀ (ls:List LendI),(∀ l∈ls,l.ok st)->(∀ t,RV ψ (·∈st.ids) S w (a.tmps.getD t undef) (st.get t))->(∀ id ob,kaa st.heap id=some ob->ObR ψ (·∈st.ids) S w id ob)->(∀ id ob,kaa st.heap id=some ob->∀ b,(S b\/Blk (ψ.val id) b)->SB b)->(∀ b,S b->SB b) ->
  ∀ t,RV ψ (·∈st.ids) SB w (a.tmps.getD t undef) (look .any (ls.map LendI.slot++st.tmps) t)
 | [],_,ht,_,_,hS,t=>(ht t).mono (fun _ h=>h) hS
 | l::ls,hl,ht,q,c,hS,t=>by
  have f:=hl l (qn ..);have j:=kzs ls (fun k hk=>hl k (qe _ hk)) ht q c hS t;cases l with
  | row t' id n e size xs=>
   obtain ⟨q1,q2,rfl⟩:=f;show RV ψ (·∈st.ids) SB w _ (look .any ((t',AV.fz (.lst size xs.length xs))::(ls.map LendI.slot++st.tmps)) t);rw [kar];split
   ·rename_i o;subst o;have hv:=ht t';rw [q1] at hv;have p:=q id _ q2;refine .fz ?_;generalize a.tmps.getD t' undef=u at hv;cases hv with
    | row hK v h1 hv=>
     rw [hv p.1.symm];exact (k1q p).mono (c id _ q2)
   ·exact j
  | tab t' id g ov eo ei rows x=>
   obtain ⟨q1,q2,rfl⟩:=f;show RV ψ (·∈st.ids) SB w _ (look .any ((t',AV.fz (tabF rows))::(ls.map LendI.slot++st.tmps)) t);rw [kar];split;rename_i o;subst o;have hv:=ht t';rw [q1] at hv;rw [hv.atom];exact .fz ((k18 (q id _ q2)).mono (c id _ q2))
   ·exact j
  | inn t' id g ov eo ei rows i x=>
   obtain ⟨q1,q2,r,q3,rfl⟩:=f;show RV ψ (·∈st.ids) SB w _ (look .any ((t',AV.fz (.lst 1 r.length (r.map .atom)))::(ls.map LendI.slot++st.tmps)) t);rw [kar];split
   ·rename_i o;subst o;have hv:=ht t';rw [q1] at hv;obtain ⟨D,vs,d,y,B,z,C⟩:=q id _ q2;have m:i<vs.length:=(by rw [y];exact (qd.1 q3).1);obtain ⟨k1,k2⟩:=z i vs[i] r (qa m) q3;refine .fz ?_;have s:=kt5 (S:=S) (r.map .atom) (by simpa using k1) (kz3 r k2) (kyf r k2);rw [qj] at s;have s:=s.mono fun b A=>c id _ q2 b (A.imp _root_.id fun A=>by rw [d];exact .inr ⟨vs[i],by simp only [kcy];exact qe _ (qaq m),A⟩);generalize a.tmps.getD t' undef=u at hv;cases hv with
    | irow hK v h1 hv=>
     have:=hv D.symm;rw [d] at this;simp only [kcy,qac] at this;rw [qa m] at this;cases this;exact s
   ·exact j
theorem kacg (ls:List LendI) {c:FV} (hl:∀ l∈ls,l.ok st) (hn:NStep P o (k9j ls st) (.fz c)) (hc:k8x c=true):NStep P o st (.fz c):=by
 intro ψ S a w ht g
 let SB:Nat->Prop:=fun b=>S b\/∃ id ob,kaa st.heap id=some ob/\Blk (ψ.val id) b
 have d:∀ id ob,kaa st.heap id=some ob->∀ b,(S b\/Blk (ψ.val id) b)->SB b:=fun id ob h b e=>e.imp _root_.id fun e=>⟨id,ob,h,e⟩;refine kim ?_ (hn ψ SB a w (fun t=>?_) fun id ob ho=>?_)
 ·rintro v w' ⟨k,hv⟩;refine ⟨k, .fz ?_⟩;have hv:=hv.inv;cases c with
  | atom u=>cases hv with | atom h=>exact .atom h
  | tup vs=>
   cases hv with
   | tup h hr=>
    refine .tup h fun i v x hv j=>?_;have f:=qk.1 hc x (ql j);have:=hr i v x hv j;cases x with
    | atom u=>cases this with | atom h=>exact .atom h
    | _=>cases f
  | _=>cases hc
 exact kzs ls hl (fun t=>ht t) g d (fun b h => .inl h) t
 ·exact (g id ob ho).keep Ext.refl (fun _ h=>h) (fun b e => .inl e) (fun _ _ _=>rfl) ⟨rfl,rfl⟩ fun _ _=>rfl
def renX (r:List (Nat×Nat)):AObj->AObj
 | .gho cs vs => .gho cs (kl7 r vs)
 | ob=>renO r ob
def kzd (r:List (Nat×Nat)):List (Nat×AObj)->List (Nat×AObj)
 | []=>[]
 | (k,v)::l=>(rn r k,renX r v)::kzd r l
def kv4 (r:List (Nat×Nat)):List (Nat×AV)->List (Nat×AV)
 | []=>[]
 | (k,v)::l=>(k,renA r v)::kv4 r l
def renSt (r:List (Nat×Nat)) (st:St):St:={ n:=st.n,tmps:=kv4 r st.tmps,heap:=kzd r st.heap,ids:=renI r st.ids,dfr:=st.dfr }
def k9c (r:List (Nat×Nat)) (st:St):Bool:=kw6 (renI r st.ids) && st.heap.all (fun p=>match p.2 with
 | .was _ ids0 _ _=>ids0.all (fun i=>Nat.beq (rn r i) i && st.ids.contains i)
 | .box _ cs=>okAs st.ids cs
 | .xo _=>false
 | _=>true)
theorem kwu {r:List (Nat×Nat)}:∀ {l:List (Nat×AV)} {t:Nat},look .any (kv4 r l) t=renA r (look .any l t)
 | [],_=>rfl
 | (k,v)::l,t=>by
  simp only [kv4,kar];split;rfl
  ·exact kwu
theorem kl9 {r:List (Nat×Nat)} {j:Nat}:∀ {A:List (Nat×AObj)} {ob:AObj},kaa (kzd r A) j=some ob->∃ i o,(i,o)∈A/\kaa A i=some o/\rn r i=j/\ob=renX r o
 | [],ob,h=>by cases h
 | (k,v)::A,ob,h=>by
  simp only [kzd] at h;rw [kae] at h;by_cases hk:rn r k=j;rw [qt hk] at h;cases h;exact ⟨k,v,qn ..,by rw [kae,qt rfl],hk,rfl⟩
  ·rw [qq hk] at h;obtain ⟨i,o,h0,h1,a,b⟩:=kl9 h;exact ⟨i,o,qe _ h0,by rw [kae,qq (fun e=>hk (by rw [e,a]))];exact h1,a,b⟩
theorem kadh (r:List (Nat×Nat)) (h:k9c r st=true:=by kernel_rfl):LeSt st (renSt r st):=by
 unfold k9c at h;simp only [qo] at h;obtain ⟨B,d⟩:=h;have d:=qk.1 d;rw [kt7] at B;have inj:=kst B;intro F S0 N0 ψ S a w hs
 let ψ':Env:=⟨fun j=>match st.ids.find? (fun k=>Nat.beq (rn r k) j) with | some i=>ψ.len i | none=>0,fun j=>match st.ids.find? (fun k=>Nat.beq (rn r k) j) with | some i=>ψ.val i | none => .nilFunc⟩
 have f:∀ i,i∈st.ids->st.ids.find? (fun k=>Nat.beq (rn r k) (rn r i))=some i:=fun i hi=>by
  cases h:st.ids.find? (fun k=>Nat.beq (rn r k) (rn r i)) with
  | none=>
   rw [List.find?_eq_none] at h;exact absurd (Nat.beq_refl _) (h i hi)
  | some k=>
   have h1:=List.find?_some h;rw [inj k i (List.mem_of_find?_eq_some h) hi (qf h1)]
 have hr:∀ i,i∈st.ids->rn r i∈renI r st.ids/\ψ'.len (rn r i)=ψ.len i/\ψ'.val (rn r i)=ψ.val i:=fun i hi=>by
  refine ⟨by rw [kt7];exact qbj hi,?_,?_⟩
  ·show (match st.ids.find? (fun k=>Nat.beq (rn r k) (rn r i)) with | some i=>ψ.len i | none=>0)=_
   rw [f i hi]
  ·show (match st.ids.find? (fun k=>Nat.beq (rn r k) (rn r i)) with | some i=>ψ.val i | none => .nilFunc)=_
   rw [f i hi]
 have c:=hs.core;refine ⟨ψ',S,hs.defers,hs.size,fun t=>?_,⟨fun j ob ho=>?_,fun j j' ob ob' b ho u z q n=>?_,c.lt,c.s0,c.n0,c.fr⟩⟩;show RV ψ' _ S w _ (look .any (kv4 r st.tmps) t);rw [kwu];exact (hs.tmps t).ren hr
 ·obtain ⟨i,o,hm,h1,rfl,rfl⟩:=kl9 ho;obtain ⟨k1,k2,k3⟩:=c.obj i o h1;obtain ⟨e1,e2,e3⟩:=hr i k1;have A:=d _ hm;refine ⟨e1,?_,fun b q=>k3 b (by rwa [e3] at q)⟩;cases o with
  | box e cs=>exact k2.ren (ids:=st.ids) hr k1 A
  | frow e s xs=>exact k2.ren (ids:=st.ids) hr k1 rfl
  | smap kv=>exact k2.ren (ids:=st.ids) hr k1 rfl
  | memo Φ hi=>exact k2.ren (ids:=st.ids) hr k1 rfl
  | xo k=>cases A
  | glb gs=>exact k2.ren (ids:=st.ids) hr k1 rfl
  | sit s pos=>exact k2.ren (ids:=st.ids) hr k1 rfl
  | tab g ov eo ei rows=>exact k2.ren (ids:=st.ids) hr k1 rfl
  | gho cs vs=>
   obtain ⟨q0,q1,q2,q3⟩:=k2;refine ⟨by omega,by rw [e3,q1],by rw [e3,q2],fun j v x hv C=>?_⟩;rw [kie,qg,qs] at C;obtain ⟨y,hy,rfl⟩:=C;exact (q3 j v y hv hy).ren hr
  | was ψ0 ids0 S1 w0=>
   obtain ⟨q0,q1,q2,q3,q4,q5,q6⟩:=k2;have l:∀ j,j∈ids0->rn r j=j/\j∈st.ids:=fun j m=>(by have:=qk.1 A j m;simp only [qo] at this;exact ⟨qf this.1,by simpa using this.2⟩);refine ⟨by omega,by rw [e3,q1],by rw [e3,q2],fun j m=>?_,fun j m=>?_,q5,q6⟩;obtain ⟨f1,f2⟩:=l j m;obtain ⟨_,g2,g3⟩:=hr j f2;rw [f1] at g2 g3;rw [g2,g3];exact q3 j m
   ·obtain ⟨f1,f2⟩:=l j m;exact f1 ▸ (hr j f2).1
 ·obtain ⟨i,o,_,h1,rfl,rfl⟩:=kl9 ho;obtain ⟨i',o',_,p,rfl,rfl⟩:=kl9 u;rw [(hr i (c.obj i o h1).1).2.2] at q;rw [(hr i' (c.obj i' o' p).1).2.2] at n;exact c.inj i i' o o' b h1 p (fun e=>z (by rw [e])) q n
theorem kyw {α:Type} (enc:α->FV) (m:List (BA×α)) (s:BA) (z:α) (x y:Operand) (kt et:TypeId) (kd:TD) (zv:Value) (I:TOk P T) (A:kac T t=some d) (c:kac T kt=some kd) (inf:TypeInfo) (D:zv.oneCell'=true) (K:st.eval x = .mp id:=by kernel_rfl) (E:kaa st.heap id=some (.smap (m.map fun p=>(p.1,enc p.2))):=by kernel_rfl) (hy:st.eval y = .fz (.atom (.string s)):=by kernel_rfl) (ho:o.op = .lookup t x y true:=by kernel_rfl) (hk:d.kind = .map kt et:=by kernel_rfl) (l:kd.kind = .str:=by kernel_rfl) (B:P.info? et=some inf:=by kernel_rfl) (hi2:inf.zero=some zv:=by kernel_rfl) (C:enc z = .atom zv:=by kernel_rfl):NStep P o st (.fz (.tup [enc (mget m s z), .atom (.bool (mhas m s))])):=by
 intro ψ S a w ht L;have A:=I.get A;have c:=I.get c;have hv:=Sim.eval_tmps ht x;rw [K] at hv;have n:=L id _ E;have q:=k0u n hv;obtain ⟨h0,b,es,clock,g,J,F,hr⟩:=n;have f:=Sim.eval_tmps ht y;rw [hy] at f;have f:=f.atom;have G:(zeroValue et).run P w = .ok zv w:=by simp [zeroValue,typeInfo,B,hi2]
 have r:=MapKept.run_checkKey (w:=w) (c.str l) (k := .string s) trivial es.isEmpty 9999;have two:∀ {v:Value} {x:FV} {ok:Bool},RF (fun b=>S b\/w.heap.size<=b) w v x->RF (fun b=>S b\/w.heap.size<=b) w (.tuple #[v, .bool ok]) (.tup [x, .atom (.bool ok)]):=fun {v x ok} h => .tup rfl fun i u y hu hy=>by
  match i with
  | 0=>simp at hu hy;subst hu hy;exact h
  | 1=>simp at hu hy;subst hu hy;exact .atom rfl
  | i+2=>simp at hu
 rcases kl5 s (R:=fun v x=>RF S w v x) es.toList (m.map fun p=>(p.1,enc p.2)) 0 (by simpa using F) (fun j e p M hp=>hr j e p (by simpa using M) hp) with ⟨f1,f2⟩ | ⟨j,v,x',f1,f2,f3⟩
 ·have hf:=MapKept.run_findKey (w:=w) (c.str l) f1;have H:mhas m s=false:=by rw [<- k12 enc];unfold mhas;rw [f2];rfl
  refine kad w (.tuple #[zv, .bool false]) ?_ ⟨kaf _, .fz ?_⟩;simp [execOp,ho,f,q,g,Instr.lookup,run_underlying (A.mp hk),MapKept.run_getObj_map J,r,hf,G]
  ·rw [H];refine two ?_;rw [<- krj enc];unfold mget;rw [f2];simp only;rw [C];exact .atom D
 ·have hf:=MapKept.run_findKey (w:=w) (c.str l) f1;have H:mhas m s=true:=by rw [<- k12 enc];unfold mhas;rw [f2];rfl
  refine kad w (.tuple #[v, .bool true]) ?_ ⟨kaf _, .fz ?_⟩;simp [execOp,ho,f,q,g,Instr.lookup,run_underlying (A.mp hk),MapKept.run_getObj_map J,r,hf]
  ·rw [H];refine two ?_;rw [<- krj enc];unfold mget;rw [f2];exact f3.mono fun _ h => .inl h
theorem k0m {α:Type} {f:α->Value} {enc:α->FV} (rows:List (List α)) (h:∀ y,enc y = .atom (f y):=by exact fun _=>rfl):eL 1 (eL 1 enc) rows=tabF (rows.map (List.map f)):=by have:enc=fun y => .atom (f y):=funext h;subst this;simp [eL,tabF,Function.comp_def]
theorem kz4 {t id n:Nat} {e:TypeId} {size:Nat} {xs:List FV} (h1:st.get t = .row id n) (a:kaa st.heap id=some (.frow e size xs)) (b:n=xs.length):LendI.ok st (.row t id n e size xs):=⟨h1,a,b⟩
theorem k79 {t id g:Nat} {ov:Value} {eo ei:TypeId} {rows:List (List Value)} {x:FV} (h1:st.get t = .fz (.atom ov)) (a:kaa st.heap id=some (.tab g ov eo ei rows)) (b:x=tabF rows):LendI.ok st (.tab t id g ov eo ei rows x):=⟨h1,a,b⟩
theorem kvq:∀ l∈([]:List LendI),l.ok st:=fun l h=>by cases h
theorem ktm {l:LendI} {ls:List LendI} (h:l.ok st) (hs:∀ k∈ls,k.ok st):∀ k∈l::ls,k.ok st:=fun k hk=>by
 rcases qan.1 hk with rfl | hk;exact h
 ·exact hs k hk
def cut3 {α:Type} (xs:List α) (l h m:Int):Option (List α):=if 0<=l/\l<=h/\h<=m/\m<=xs.length then some ((xs.take h.toNat).drop l.toNat) else none
theorem RF.take3 {A:Option Addr} {cap n size:Nat} {xs:List FV} (h:RF S w (.slice A n cap) (.lst size n xs)) (lo hi m:Nat) (h1:lo<=hi) (f:hi<=n) (g:hi<=m) (k:m<=cap):RF S w (.slice (if m=lo then A else A.map (·.add (lo*size))) (hi - lo) (m - lo)) (.lst size (hi - lo) ((xs.take hi).drop lo)):=by
 obtain ⟨A0,cap0,css,hv,hn,hc,hm,hs,ha,hl,hr⟩:=h.lst_inv;injection hv with e1 _ e3;subst e1 e3;have c:(xs.take hi).length=hi:=by rw [qak];omega
 have get:∀ (i:Nat) (x:FV),((xs.take hi).drop lo)[i]?=some x->xs[lo+i]?=some x:=fun i x a=>by
  rw [qae,qv] at a;split at a;exact a
  ·cases a
 refine .lst (fun i=>css (lo+i)) (by rw [qaw,c]) (by omega) (by omega) hs (fun i x a=>?_) (fun i x a=>hl _ x (get i x a)) fun i x j v y a hv hy=>hr _ x j v y (get i x a) hv hy;obtain ⟨b,o,hA,hS,d⟩:=ha _ x (get i x a);have e:=(qd.1 a).1;rw [qaw,c] at e;refine ⟨b,o+lo*size,?_,hS,by rw [Nat.add_assoc,<- qbd];exact d⟩;rw [qq (by omega),hA];simp only [qai,ka3]
theorem k2z {α:Type} (enc:α->FV) (x y m:Operand) (lo:Option Operand) (l:Option Int) (h:Int) (xs:List α) {r:List α} (size:Nat) (e:TypeId) (de:TD) (k1 k2:IntKind) (hc:cut3 xs (l.getD 0) h h=some r) (p:TOk P T) (ho:o.op = .slice t x lo (some y) (some m):=by kernel_rfl) (s:kac T t=some d:=by kernel_rfl) (hk:d.kind = .slice e:=by kernel_rfl) (f:kac T e=some de:=by kernel_rfl) (g:de.size=size:=by kernel_rfl) (u:st.eval x = .fz (eL size enc xs):=by kernel_rfl) (hl:klc st lo=some l:=by kernel_rfl) (z:st.eval y = .fz (.atom (.int k1 h)):=by kernel_rfl) (hm:st.eval m = .fz (.atom (.int k2 h)):=by kernel_rfl):NStep P o st (.lim size r.length (r.map enc)):=by
 intro ψ S a w ht E;have h1:=Sim.eval_tmps ht x;rw [u] at h1;have bl:=kik ht hl;have b:=Sim.eval_tmps ht y;rw [z] at b;have b:=b.atom;have c:=Sim.eval_tmps ht m;rw [hm] at c;have c:=c.atom;unfold cut3 at hc;split at hc
 ·rename_i q;injection hc with hc;subst hc;have h1:=h1.inv;obtain ⟨A,cap,css,hv,hn,B,C,hs,ha,D,hr⟩:=h1.lst_inv;rw [hv] at h1;have i:((xs.take h.toNat).drop (l.getD 0).toNat).length=h.toNat - (l.getD 0).toNat:=by rw [qaw,qak];omega
  rw [i];have j:=h1.take3 (l.getD 0).toNat h.toNat h.toNat (by omega) (by omega) (by omega) (by omega);refine kad w (.slice (if h.toNat=(l.getD 0).toNat then A else A.map (·.add ((l.getD 0).toNat*size))) (h.toNat - (l.getD 0).toNat) (h.toNat - (l.getD 0).toNat)) ?_ ⟨kaf _,(RV.lim ?_).here⟩
  ·have hu:=(p.get s).slice hk;have e1:(Instr.sliceBounds true xs.length cap (lo.map a.eval) ((some y).map a.eval) ((some m).map a.eval)).run P w = .ok ((l.getD 0).toNat,h.toNat,h.toNat) w:=by
    unfold Instr.sliceBounds;have q1:0<=h:=(by omega);have q2:h<=(cap:Int):=(by omega);have q3:0<=h:=(by omega);have q4:h<=(h.toNat:Int):=(by omega);rcases bl with ⟨rfl,rfl⟩ | ⟨y',k',n',rfl,rfl,k⟩;simp [Instr.sliceBound,b,c,asIntOf,q1,q2,q3,q4];intro hc;exfalso;omega
    ·simp only [qa9] at q ⊢;have q5:n'<=(h.toNat:Int):=(by omega);simp [Instr.sliceBound,b,c,k,asIntOf,q1,q2,q3,q4,q5,q.1];rw [qt (by omega),qt (by omega)]
   have n:(sizeOf e).run P w = .ok size w:=(by rw [(p.get f).size,g]);simp only [qai] at e1;simp [execOp,ho,Instr.sliceAt,Instr.slice,run_underlying hu,hv,e1,n]
  ·rw [List.map_drop,List.map_take];exact j
 ·cases hc
end Go.Proofs.YtnlhjbnpjefjgabGreatDoor
