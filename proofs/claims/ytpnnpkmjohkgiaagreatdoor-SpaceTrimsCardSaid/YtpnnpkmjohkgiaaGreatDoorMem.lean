import Derived.Test.YtpnnpkmjohkgiaaGreatDoorGl
import Derived.WalkKit
import Derived.WalkSpells
import Derived.WalkLawsBesides
import Derived.Lib.Hide
import Derived.KernelRfl
import Derived.Maps.AppendAt
import Derived.Deep.AppendLies
set_option linter.all false
namespace Go.Proofs.YtpnnpkmjohkgiaaGreatDoor
open Go Go.RowKit
inductive Gd where
 | det (c:Value)
 | rel (G:Value->World->Prop) (h:∀ v w w',G v w->Below w.heap.size w w'->G v w')
def Gd.holds:Gd->Value->World->Prop
 | .det c,v,_=>v=c
 | .rel G _,v,w=>G v w
def RetBy (R:Value->World->Prop) (e:Ending) (w:World):Prop:=∃ u,e = .returned u/\R u w
def kg4 (P:Program) (R:Value->World->Prop):Result Next->Prop
 | .ok (.value u) w'=>R u w'
 | .ok .skip w'=>R undef w'
 | .ok (.enter f args) w'=>Calls P f args w' (RetBy R)
 | _=>False
def kcv (P:Program) (o:Oper) (a:Act) (w:World) (R:Value->World->Prop):Prop:=kg4 P R ((execOp a.eval o).run P w)
def kcz (o:Oper) (j:Nat):Bool:=o.after.toList.any fun e=>e.on == j && Region.binds .any e
def kmg (l:List Oper):Array Nat:=
 l.foldl (fun acc o=>acc.push (o.after.toList.foldl (fun s e=>if Region.binds .any e then s ||| 2 ^ e.on ||| acc.getD e.on 0 else s) 0)) #[]
def relB (l:List Oper) (n s:Nat):Bool:=
 let m:=kmg l
 Region.noSelect l.toArray && decide (n<=l.length) &&
 (l.zipIdx.all fun (o,k)=>o.after.toList.all fun e=>!Region.binds .any e || decide (e.on<k)) &&
 ((l.take n).all fun o=>match o.dst with | some d=>decide (d<s) | none=>true) &&
 ((l.take n).zipIdx.all fun (o,i)=>(l.take n).zipIdx.all fun (p,j)=>i == j || o.dst.isNone || o.dst != p.dst) &&
 ((l.take n).zipIdx.all fun (o,i)=>(o.looksAt l.toArray).all fun t=>(l.take n).zipIdx.all fun (p,j)=>i == j || p.dst != some t || kcz o j || kcz p i) &&
 (l.zipIdx.all fun (_,k)=>decide (k<n) || (List.range k).all fun j=>(m.getD k 0).testBit j)
section
variable {P:Program}
theorem kgr {o:Oper} {a:Act} {w:World} {R R':Value->World->Prop} (h:∀ v w',R v w'->R' v w') (b:kcv P o a w R):kcv P o a w R':=by
 unfold kcv at *
 generalize (execOp a.eval o).run P w=r at *
 cases r with
 | ok n w'=>
  cases n <;> simp only [kg4] at b ⊢
  case enter f args=>exact b.mono fun e w'' ⟨u,c,d⟩=>⟨u,c,h _ _ d⟩
  all_goals exact h _ _ b
 | halt x w'=>simp only [kg4] at b
theorem kco {o:Oper} {a:Act} {w:World} {R:Value->World->Prop} {K:Act->World->Prop} {Q:Exit->Act->World->Prop}
  (h:∀ v w',R v w'->K (a.put o.dst v) w') (b:kcv P o a w R):o.wp P a w K Q:=by
 unfold kcv at b;unfold Oper.wp;generalize (execOp a.eval o).run P w=r at *
 cases r with
 | ok n w'=>
  cases n <;> simp only [kg4] at b <;> simp only [Oper.upon]
  case enter f args=>exact b.mono fun e w'' ⟨u,c,d⟩=>by subst c;exact h _ _ d
  all_goals exact h _ _ b
 | halt x w'=>simp only [kg4] at b
def Good (l:List Oper) (acc:Array Nat):Prop:=
 acc.size=l.length/\∀ k o,l[k]?=some o->∀ j,(acc.getD k 0).testBit j=true ->
  ∃ e∈o.after,Region.binds .any e=true/\(e.on=j\/(e.on<k/\(acc.getD e.on 0).testBit j=true))
theorem knk (acc:Array Nat) (j:Nat):∀ (es:List Edge) (s:Nat),
  (es.foldl (fun s e=>if Region.binds .any e then s ||| 2 ^ e.on ||| acc.getD e.on 0 else s) s).testBit j=true ->
  s.testBit j=true\/∃ e∈es,Region.binds .any e=true/\(e.on=j\/(acc.getD e.on 0).testBit j=true)
 | [],s,h => .inl h
 | e::es,s,h=>by
  simp only [List.foldl_cons] at h;rcases knk acc j es _ h with h | ⟨e',b,a,h⟩
  ·by_cases a:Region.binds .any e=true
   ·rw [qq a,Nat.testBit_or,Nat.testBit_or,Bool.or_eq_true,Bool.or_eq_true] at h;rcases h with (h | h) | h;exact .inl h;rw [Nat.testBit_two_pow] at h;exact .inr ⟨e,by simp,a, .inl (by simpa using h)⟩
    ·exact .inr ⟨e,by simp,a, .inr h⟩
   ·rw [qh a] at h;exact .inl h
  ·exact .inr ⟨e',qs _ b,a,h⟩
theorem kub {l:List Oper} {acc:Array Nat} (h:Good l acc) (o:Oper):
  Good (l++[o]) (acc.push (o.after.toList.foldl (fun s e=>if Region.binds .any e then s ||| 2 ^ e.on ||| acc.getD e.on 0 else s) 0)):=by
 obtain ⟨hs,q⟩:=h;refine ⟨by simp [hs],fun k p hk j c=>?_⟩;have old:∀ i,i<acc.size->∀ x,(acc.push x).getD i 0=acc.getD i 0:=fun i hi x=>by simp [Array.getElem?_push,Nat.ne_of_lt hi]
 by_cases d:k<l.length;rw [qy d] at hk;rw [old k (by omega)] at c;obtain ⟨e,f,g,h⟩:=q k p hk j c;refine ⟨e,f,g,h.imp id fun ⟨h1,r⟩=>⟨h1,?_⟩⟩;rw [old _ (by omega)];exact r
 ·have a:k=l.length:=by have:=(qd.1 hk).1;simp at this;omega
  subst a;simp at hk;subst hk;have b:∀ x,(acc.push x).getD l.length 0=x:=fun x=>by rw [<- hs];simp
  rw [b] at c;rcases knk acc j _ 0 c with h | ⟨e,f,g,h⟩;simp at h
  ·refine ⟨e,by simpa using f,g,?_⟩;rcases h with h | h;exact .inl h
   ·have m:e.on<acc.size:=by
     rcases qau e.on acc.size with n | n;exact n
     ·simp [Array.getElem?_eq_none n] at h
    exact .inr ⟨by omega,by rw [old _ m];exact h⟩
theorem knf:∀ (l r:List Oper) (acc:Array Nat),Good r acc ->
  Good (r++l) (l.foldl (fun acc o=>acc.push (o.after.toList.foldl (fun s e=>if Region.binds .any e then s ||| 2 ^ e.on ||| acc.getD e.on 0 else s) 0)) acc)
 | [],r,acc,h=>by simpa using h
 | o::l,r,acc,h=>by have:=knf l (r++[o]) _ (kub h o);simpa using this
theorem ks4 (l:List Oper):Good l (kmg l):=by exact knf l [] #[] ⟨rfl,fun k o h=>by simp at h⟩
theorem kdp {l:List Oper} {S:Nat->Prop} (hS:∀ k o,S k->l[k]?=some o->∀ e∈o.after,Region.binds .any e=true->S e.on):
  ∀ (k:Nat) (o:Oper),l[k]?=some o->(∀ e∈o.after,Region.binds .any e=true->S e.on)->∀ j,((kmg l).getD k 0).testBit j=true->S j:=by
 intro k
 induction k using Nat.strongRecOn with
 | _ k ih=>
  intro o ho a j m;obtain ⟨e,g,i,h⟩:=(ks4 l).2 k o ho j m;rcases h with rfl | ⟨c,h⟩;exact a e g i
  ·have hk:k<l.length:=(qd.1 ho).1;have b:l[e.on]?=some (l[e.on]'(by omega)):=qa (by omega);exact ih e.on c _ b (fun e' d f=>hS e.on _ (a e g i) b e' d f) j h
theorem kla (a:Act) (d:Option Tmp) (v:Value):(a.put d v).tmps.size=a.tmps.size:=by cases d <;> simp [Act.put]
theorem kh3 (a:Act) (d:Option Tmp) (v:Value):(a.put d v).defers=a.defers:=by cases d <;> rfl
variable {gs:List Gd} {l:List Oper} {xs:Nat->Value} {a0:Act}
theorem kgd {m:Nat} {listed:Array Bool} {i:Nat} (hi:i<m) (d:listed.getD i true=false) (hs:i<listed.size):
  ((List.range m).countP fun k=>!(listed.setIfInBounds i true).getD k true)<(List.range m).countP fun k=>!listed.getD k true:=by
 have a:List.range m=List.range i++i::(List.range (m - (i+1))).map (i+1+·):=by rw [show m=i+1+(m - (i+1)) by omega,List.range_add,List.range_succ];simp
 have b:∀ L:List Nat,(L.countP fun k=>!(listed.setIfInBounds i true).getD k true)<=L.countP fun k=>!listed.getD k true:=fun L=>by
  refine List.countP_mono_left fun k _ hk=>?_;by_cases c:i=k;subst c;simp [hs] at hk
  ·rw [getD_set_ne true c] at hk;exact hk
 rw [a,List.countP_append,List.countP_append,List.countP_cons,List.countP_cons];have h1:=b (List.range i);have f:=b ((List.range (m - (i+1))).map (i+1+·));have e:(listed.setIfInBounds i true).getD i true=true:=by simp [hs]
 rw [e,d];simp only [qbe,Bool.not_false,if_true,Bool.false_eq_true,if_false];omega
structure kxd (l:List Oper) (n s:Nat):Prop where
 sel:Region.noSelect l.toArray=true
 len:n<=l.length
 edges:∀ k o,l[k]?=some o->∀ e∈o.after,Region.binds .any e=true->e.on<k
 dst:∀ i o d,i<n->l[i]?=some o->o.dst=some d->d<s
 uniq:∀ i j o p d,i<n->j<n->l[i]?=some o->l[j]?=some p->o.dst=some d->p.dst=some d->i=j
 looks:∀ i j o p t,i<n->j<n->i≠j->l[i]?=some o->l[j]?=some p->t∈o.looksAt l.toArray->p.dst=some t->kcz o j=true\/kcz p i=true
 tail:∀ k j,k<l.length->n<=k->j<k->((kmg l).getD k 0).testBit j=true
theorem km3 {l:List Oper} {n s:Nat} (h:relB l n s=true):kxd l n s:=by
 simp only [relB,qn] at h;obtain ⟨⟨⟨⟨⟨⟨h1,b⟩,q⟩,r⟩,u⟩,v⟩,w⟩:=h;have b:n<=l.length:=by simpa using b
 have tk:∀ i o,i<n->l[i]?=some o->(o,i)∈(l.take n).zipIdx:=fun i o hi ho=>by rw [List.mk_mem_zipIdx_iff_getElem?,qw,qq hi];exact ho
 refine ⟨h1,b,?_,?_,?_,?_,?_⟩;intro k o ho e x y;have:=ql.1 q (o,k) (by rw [List.mk_mem_zipIdx_iff_getElem?];exact ho);have:=ql.1 this e (by simpa using x);simpa [y] using this;intro i o d hi ho z;have:=ql.1 r o (qm (i:=i) (by rw [qw,qq hi];exact ho));simpa [z] using this;intro i j o p d hi c ho hp f a;have:=ql.1 (ql.1 u _ (tk i o hi ho)) _ (tk j p c hp);simpa [f,a] using this;intro i j o p t hi c g ho hp ht a;have:=ql.1 (ql.1 (ql.1 v _ (tk i o hi ho)) t ht) _ (tk j p c hp);simpa [a,g] using this
 ·intro k j hk A m;have:=ql.1 w (l[k],k) (by rw [List.mk_mem_zipIdx_iff_getElem?];exact qa hk);simp only [Bool.or_eq_true,qbb] at this;exact ql.1 (this.resolve_left (by omega)) j (by simpa using m)
theorem afterB_iff {o:Oper} {j:Nat}:kcz o j=true↔∃ e∈o.after,e.on=j/\Region.binds .any e=true:=by unfold kcz;rw [List.any_eq_true];simp
theorem ke3 {l:List Oper} {n s:Nat} (ok:kxd l n s) {Q:Exit->Act->World->Prop}:∀ (fuel k:Nat) (listed:Array Bool) (a:Act) (w:World),
  n<=k->k<=l.length->listed.size=l.length->(∀ i,i<l.length->(listed.getD i true=true↔i<k))->l.length - k<=fuel ->
  wpList P l.toArray Q (l.drop k) a w->wpAny P .any l.toArray Q fuel listed a w:=by
 intro fuel
 induction fuel with
 | zero=>
  intro k listed a w A B d b g h;have hk:k=l.length:=by omega
  subst hk;refine ⟨?_,by simpa [wpList] using h⟩;rw [List.eq_nil_iff_forall_not_mem];intro i hi;obtain ⟨h0,o,ho,_⟩:=mem_ready.1 hi;have c:i<l.length:=by simpa using (qax.1 ho).1
  rw [(b i c).2 c] at h0;cases h0
 | succ fuel ih=>
  intro k listed a w A B d b g h;have t:∀ i,i<l.length->i<k->listed.getD i false=true:=fun i hi C=>by have h1:=(b i hi).2 C;simp [d,hi] at h1 ⊢;exact h1
  have only:∀ i∈Region.ready .any l.toArray listed,i=k/\k<l.length:=fun i hi=>by
   obtain ⟨h0,o,ho,u⟩:=mem_ready.1 hi;have c:i<l.length:=(by simpa using (qax.1 ho).1);have D:k<=i:=by
    rcases qau i k with f | f;rw [(b i c).2 f] at h0;cases h0
    ·exact f
   refine ⟨?_,by omega⟩;rcases qau k i with f | f
   ·exfalso;have hS:=kdp (l:=l) (S:=fun j=>j<i/\listed.getD j false=true) ?_ i o (by simpa using ho) ?_ k (ok.tail i k c (by omega) f);have:=(b k (by omega)).1 (by have:=hS.2;simp [d,show k<l.length by omega] at this ⊢;exact this);omega;intro m p ⟨E,v⟩ hp e q r;have x:=ok.edges m p hp e q r;refine ⟨by omega,?_⟩;have F:=(b m (by omega)).1 (by simp [d,show m<l.length by omega] at v ⊢;exact v);exact t _ (by omega) (by omega)
    ·intro e q r;exact ⟨ok.edges i o (by simpa using ho) e q r,u e q r⟩
   ·omega
  refine ⟨fun y=>?_,fun i hi=>?_⟩
  ·have hk:k=l.length:=by
    rcases qau k l.length with f | f;exfalso;have:k∈Region.ready .any l.toArray listed:=mem_ready.2 ⟨by have:=mt (b k f).1 (by omega);simpa using this,l[k],by simp [f],fun e q r=>by have x:=ok.edges k _ (qa f) e q r;exact t _ (by omega) x⟩;rw [y] at this;cases this
    ·omega
   subst hk;simpa [wpList] using h
  ·obtain ⟨rfl,c⟩:=only i hi;rw [List.drop_eq_getElem_cons c] at h;have ho:l.toArray[i]?=some l[i]:=(by simp [c]);have G:wpOp P l.toArray Q i (wpList P l.toArray Q (l.drop (i+1))) a w:=(by unfold wpOp;simp only [ho];exact h);refine wpOp_mono (fun a' w' f=>ih (i+1) _ a' w' (by omega) (by omega) (by simp [d]) (fun j H=>?_) (by omega) f) G;by_cases z:i=j;subst z;simp [d,c]
   ·rw [getD_set_ne true z,b j H];omega
structure k0w (gs:List Gd) (l:List Oper) (C:World->Prop) (a0:Act) (listed:Array Bool) (a:Act) (w:World):Prop where
 inC:C w
 defers:a.defers=a0.defers
 size:a.tmps.size=a0.tmps.size
 lsize:listed.size=l.length
 closed:∀ k o,listed.getD k false=true->l[k]?=some o->∀ e∈o.after,Region.binds .any e=true->listed.getD e.on false=true
 vals:∃ xs:Nat->Value,∀ j g,gs[j]?=some g->listed.getD j false=true->g.holds (xs j) w/\∀ o d,l[j]?=some o->o.dst=some d->a.tmps[d]?=some (xs j)
 rest:∀ t,(∀ j o,listed.getD j false=true->l[j]?=some o->o.dst≠some t)->a.tmps[t]?=a0.tmps[t]?
theorem kmo {listed:Array Bool} {i:Nat} (h:listed.getD i true=false):listed.getD i false=false:=by
 rcases qau i listed.size with a | a;simp [a] at h ⊢; exact h
 ·simp [Array.getElem?_eq_none a]
theorem ks5 {listed:Array Bool} {i:Nat} (h:listed.getD i false=true):i<listed.size:=by
 rcases qau i listed.size with a | a;exact a
 ·simp [Array.getElem?_eq_none a] at h
theorem kd6 (m j:Nat):(Array.replicate m false).getD j false=false:=by rcases qau j m with h | h <;> simp [h]
end
attribute [go_sem] kcv kg4
def kiq (n:Int):Prop := -9223372036854775808<=n/\n<=9223372036854775807
def At (w:World) (b o:Nat) (cs:List Value):Prop:=∀ j u,cs[j]?=some u->w.cell? ⟨b,o+j,none⟩=some u
def Same (S:Nat->Prop) (w w':World):Prop:=∀ b,S b->b<w.heap.size->w'.heap[b]?=w.heap[b]?
abbrev Grow (w w':World):Prop:=Below w.heap.size w w'
theorem Below.step {a b c:World} (h:Grow a b) (k:Grow b c):Grow a c:=Below.trans h (k.mono h.size)
theorem ka7 (w:World) (o:Obj):Grow w (w.alloc o):=(Below.refl _ _).alloc (qt _) _
theorem kth (w:World):Grow w w.drew:=(Below.refl _ _).drew
theorem kag (w:World):Grow w w:=Below.refl _ _
section
variable {T:Type} {S S':Nat->Prop} {w w' w'':World} {b o:Nat} {cs:List Value}
theorem km8 {w:World} {a:Addr} {u:Value} (h:w.cell? a=some u):a.block<w.heap.size:=by
 rcases qau a.block w.heap.size with b | b;exact b
 ·simp [World.cell?,Array.getElem?_eq_none b] at h
theorem Same.of_grow (h:Grow w w'):Same S w w':=fun b _ a=>h.block b a
theorem At.keep (h:At w b o cs) (hS:S b) (hk:Same S w w'):At w' b o cs:=fun j u a=>by
 have h1:=h j u a;rw [World.cell?_of_block (w:=w)];exact h1
 ·exact hk b hS (km8 h1)
def RepSl (S:Nat->Prop) (w:World) (size:Nat) (R:List Value->T->Prop) (v:Value) (xs:List T):Prop:=
 ∃ A cap,v = .slice A xs.length cap/\xs.length<=cap/\cap<=9223372036854775807 /\
  ∀ (i:Nat) (x:T),xs[i]?=some x->∃ b o cs,A=some ⟨b,o,none⟩/\S b/\At w b (o+i*size) cs/\cs.length=size/\R cs x
theorem RepSl.nil {size cap:Nat} {R:List Value->T->Prop} {A:Option Addr} (hc:cap<=9223372036854775807):RepSl S w size R (.slice A 0 cap) []:=
 ⟨A,cap,rfl,by simp,hc,fun i x h=>by simp at h⟩
def Any:Nat->Prop:=fun _=>True
def IntR (cs:List Value) (n:Int):Prop:=cs=[.int .i64 n]/\kiq n
def Ints (S:Nat->Prop) (w:World) (v:Value) (ns:List Int):Prop:=RepSl S w 1 IntR v ns
structure Kept (size:Nat) (R:(Nat->Prop)->World->List Value->T->Prop):Prop where
 pos:0<size
 keep:∀ {S w w' cs x},R S w cs x->Same S w w'->R S w' cs x
 mono:∀ {S S':Nat->Prop} {w cs x},R S w cs x->(∀ b,S b->S' b)->R S' w cs x
 bound:∀ {S w cs x},R S w cs x->R (fun b=>S b/\b<w.heap.size) w cs x
 len:∀ {S w cs x},R S w cs x->cs.length=size
 one:∀ {S w cs x},R S w cs x->∀ u∈cs,u.oneCell'=true
variable {D:Nat->Prop} {lo:Nat} {e:TypeId} {size:Nat} {R:(Nat->Prop)->World->List Value->T->Prop} {v:Value} {xs:List T}
theorem kqw {b:Nat} {Q:List Value->T->Prop}:∀ (ys:List T) (o:Nat),(∀ (i:Nat) (y:T),ys[i]?=some y->∃ cs,At w b (o+i*size) cs/\cs.length=size/\Q cs y) ->
  ∃ news:List Value,news.length=ys.length*size/\At w b o news/\∀ (i:Nat) (y:T),ys[i]?=some y->Q ((news.drop (i*size)).take size) y
 | [],o,_=>⟨[],by simp,fun j u h=>by simp at h,fun i y h=>by simp at h⟩
 | y::ys,o,h=>by
  obtain ⟨cs,e,hl,g⟩:=h 0 y rfl;obtain ⟨news,hn,a,f⟩:=kqw (b:=b) (Q:=Q) ys (o+size) fun i z c=>by
   have:=h (i+1) z (by simpa using c)
   rwa [show o+(i+1)*size=o+size+i*size by rw [qa4];omega] at this
  refine ⟨cs++news,by simp [hl,hn,qa4];omega,fun j u d=>?_,fun i z c=>?_⟩
  ·by_cases k:j<size;rw [qy (by omega)] at d;have:=e j u d;simpa using this
   ·rw [qac (by omega),hl] at d;have:=a _ u d
    rwa [show o+size+(j - size)=o+j by omega] at this
  ·cases i with
   | zero=>
    simp at c;subst c;simp only [Nat.zero_mul,List.drop_zero];rw [List.take_append_of_le_length (by omega),List.take_of_length_le (by omega)];exact g
   | succ i=>
    have:=f i z (by simpa using c);rw [show (i+1)*size=cs.length+i*size by rw [hl,qa4];omega,<- List.drop_drop,List.drop_left];exact this
theorem kku {P:Program} (lo:Nat) (t ty e:TypeId) (i:TypeInfo) (size:Nat) (ht:P.underlying t=some (.slice e)) (hi:P.info? e=some i)
  (v:Value) (n:Nat) (xs:List Value) (a:w.ownsRow lo e size v n xs) (c:Nat):(Builtin.append_ #[t,t] ty #[v, .slice none 0 c]).run P w = .ok v w:=by
 rcases a.2 with ⟨rfl,rfl⟩ | ⟨g,cap,cur,rfl,_,_,b,_⟩;simp [Builtin.append_,run_underlying ht,sizeOf,typeInfo,hi,Builtin.lenOf,Builtin.firstCells]
 ·simp [Builtin.append_,run_underlying ht,sizeOf,typeInfo,hi,Builtin.lenOf,Builtin.firstCells,b,storeCells]
end
end Go.Proofs.YtpnnpkmjohkgiaaGreatDoor
