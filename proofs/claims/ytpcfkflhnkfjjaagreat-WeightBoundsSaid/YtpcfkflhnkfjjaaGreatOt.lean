import Derived.Test.YtpcfkflhnkfjjaaGreatOe
set_option linter.all false
namespace Go.Proofs.YtpcfkflhnkfjjaaGreat
open Go Go.RowKit
section
variable {P:Program} {F S0:Nat->Prop} {N0:Nat} {w w':World} {S S':Nat->Prop} {ψ:Env} {K:Nat->Prop} {T:List (TypeId×TD)} {o:Oper} {a:Act} {st:St} {t:TypeId} {d:TD} {id:Nat}
theorem StepA.frz {n:Nat} {e:TypeId} {size:Nat} {xs:List FV} {h:List (Nat×AObj)} {i:List Nat} (hs:StepA P o st (.row id n) h i) (c:kae h id=some (.frow e size xs)) (hn:n=xs.length):StepA P o st (.fz (.lst size n xs)) (kci id h) i:=by
 subst hn;intro F S0 N0 ψ S a w hS;refine kna ?_ (hs F S0 N0 ψ S a w hS);rintro v w' ⟨ψ',S',h1,d,f,g,j,k,l⟩;have ho:=(h1.obj id _ c).2.1;refine ⟨ψ',_,kxb h1 c,?_,f,g,j,fun b m => .inl (k b m),l⟩;have hr:=kzm ho;have hl:=ho.1;cases d with
 | row hK p h1 hv=>rw [hv hl.symm];exact .fz hr
theorem k18 {α:Type} (E:En α) {xs:List α} {x:α} {i:Int} {X:Operand} {n q:Nat} {e:TypeId} {ys:List FV} (h:idx xs i=some x) (M:TOk P T) (ho:o.op = .load t X) (D:kak T t=some d) (hk:d.kind.agg=true) (N:st.eval X = .ref id n (i.toNat*E.n+q)) (G:kae st.heap id=some (.frow e E.n (xs.map E.f))) (hn:n=xs.length) (K:Nat.ble (q+d.size) E.n=true:=by kernel_rfl) (A:((E.cl x).drop q).take d.size=ys:=by kernel_rfl):NStep P o st (.fz (.agg ys)):=by
 intro ψ S a w ht O;subst hn A;have D:=M.get D;obtain ⟨h0,hi⟩:=kq3 h;have K:q+d.size<=E.n:=qal K;have H:i.toNat<xs.length:=(qj.1 hi).1;have z:=Sim.eval_tmps ht X;rw [N] at z;obtain ⟨hl,_,cs,k,B,hr⟩:=O id _ G;rw [qu] at hl k;obtain ⟨g,cap,r⟩:=kqh k (by omega);have hp:a.eval X = .pointer (some ⟨g,i.toNat*E.n+q,none⟩):=by
  generalize a.eval X=u at z;cases z with
  | ref hK Q h1 hv=>
   obtain ⟨b,I,rfl⟩:=hv hl.symm;rw [r] at I;simp only [ka1,ql] at I;rw [I]
 have L:cs.length=xs.length*E.n:=k.1;have R:i.toNat*E.n+E.n<=xs.length*E.n:=by have:(i.toNat+1)*E.n<=xs.length*E.n:=Nat.mul_le_mul_right _ H;rw [Nat.add_mul,Nat.one_mul] at this;exact this
 have hcl:(E.cl x).length=E.n:=by have:=(B (E.f x) (qae.2 ⟨x,qm hi,rfl⟩)).1;rw [E.hcl] at this;exact this
 have J:∀ y∈E.cl x,y.single=true:=by have:=(B (E.f x) (qae.2 ⟨x,qm hi,rfl⟩)).2;rw [E.hcl] at this;exact this
 let cs':=(cs.drop (i.toNat*E.n+q)).take d.size
 have c:cs'.length=d.size:=by show ((cs.drop (i.toNat*E.n+q)).take d.size).length=_;rw [qak,qa1];omega
 have s:∀ (j:Nat) (v:Value),cs'[j]?=some v->j<d.size/\cs[i.toNat*E.n+q+j]?=some v:=fun j v F=>by
  have l:j<d.size:=by rw [<- c];exact (qj.1 F).1
  refine ⟨l,?_⟩;have C:((cs.drop (i.toNat*E.n+q)).take d.size)[j]?=some v:=F;rw [qag,qn l,qau] at C;exact C
 have m:=k;rw [r] at m;have p:=run_loadCells_list (P:=P) w ⟨g,i.toNat*E.n+q,none⟩ cs' fun j v F=>by obtain ⟨l,hc⟩:=s j v F;rw [kfj,World.ownsRow.cellAt m _ (show i.toNat*E.n+q+j<xs.length*E.n by omega),hc]
 rw [c] at p;refine kai (w':=w) (v := .agg cs'.toArray) ?_ ⟨kaj _, .fz (.agg ?_ ?_ fun j v y hv A=>?_)⟩;simp [execOp,ho,hp,Instr.loadAt,Instr.sureAddr,loadVar,D.isAgg,hk,D.size,p];rw [List.size_toArray,c,qak,qa1];omega;exact fun y A=>J y (List.mem_of_mem_drop (List.mem_of_mem_take A))
 ·rw [List.getElem?_toArray] at hv;obtain ⟨l,hc⟩:=s j v hv;rw [qag,qn l,qau] at A;rw [Nat.add_assoc] at hc;exact (hr i.toNat (E.f x) (q+j) v y (by rw [qp,hi];rfl) hc (by rw [E.hcl];exact A)).mono fun _ h => .inl h
end
section
variable {P:Program} [t:Tab P] {g:Cfg} {Q:Exit->St->Prop} {β:Type} {r:β}
def apFh {α:Type} (T:List (TypeId×TD)) (E:En α) (v:List α) (g:Cfg):List (Nat×AObj):=match kle (apOf T) g with
 | some q=>kci q.id ((q.id, .frow q.e q.size (v.map E.f))::(kia g).heap)
 | none=>[]
def apGF {α:Type} (T:List (TypeId×TD)) (E:En α) (v:List α) (g:Cfg):Cfg:=match kle (apOf T) g with
 | some q=>rsmZ (.fz (.lst q.size v.length (v.map E.f))) (apFh T E v g) (kia g).ids g
 | none=>⟨.bad,g.ks,g.st⟩
theorem apZf {α:Type} {bytes:Nat} {xs ys:List α} {K:List α->Option β} (E:En α) (k:Nat) (h:Option.bind (app bytes xs ys) K=some r) (hc:apK (kle (apOf t.T) (crun P k g))=some (bytes,xs.length,xs.map E.f,ys.map E.f))
  (hi:idsZ (kia (crun P k g)).ids (crun P k g)=true) (hk:∀ v,offZ (crun P k g) (apFh t.T E v (crun P k g))=offZ (crun P k g) (hpZ (crun P k g))) (a:∀ v,K v=some r->W P (apGF t.T E v (crun P k g)) Q):W P g Q:=by
 obtain ⟨v,h1,i⟩:=qd.1 h;have a:=a v i;have hk:=hk v;unfold apK at hc;split at hc;rename_i q b;simp only [ql,qad] at hc;obtain ⟨rfl,e1,e2,e3⟩:=hc;unfold apGF at a;rw [b] at a;obtain ⟨c,j⟩:=ksc b;refine zst k ?_ c hi hk a;obtain ⟨X,Y,ty,d,de,m,k1,k2,k3,k4,k5,k6,k7,k8,k9,k10,k11⟩:=kv3 j h1 e1 e2 e3;unfold apFh;rw [b];simp only;refine StepA.frz (e:=q.e) ?_ (by rw [kah,qn rfl]) (by rw [qu]);rw [<- k5];exact kt2 (enc:=E.f) h1 t.ok k1 k2 k3 k4 k6 k7 k8 k9 k10 rfl k11
 ·cases hc
end
end Go.Proofs.YtpcfkflhnkfjjaaGreat
