import Derived.Test.YtpnnpkmjohkgiaaGreatDoorDrawE
import Derived.Test.YtpnnpkmjohkgiaaGreatDoorOpm
import Derived.Test.YtpnnpkmjohkgiaaGreatDoorOpo
import Derived.Test.YtpnnpkmjohkgiaaGreatDoorZE
import Derived.Test.YtpnnpkmjohkgiaaGreatDoorLaw
import Derived.Deep.Fields
set_option linter.all false
namespace Go.Proofs.YtpnnpkmjohkgiaaGreatDoor
open Go Go.RowKit Go.Proofs.Tryz
theorem kfh {n:Nat} (h:n<18446744073709551616):n<fuel:=h
theorem ke2 {n:Int} (h : -9223372036854775808<=n) (a:n<=9223372036854775807):w64 n=n:=by
 unfold w64 IntKind.wrap IntKind.signed IntKind.bits;simp only;rw [show (2:Int) ^ 64=18446744073709551616 from rfl];by_cases h0:0<=n;have:n % 18446744073709551616=n:=Int.emod_eq_of_lt h0 (by omega);simp [this];omega
 ·have:n % 18446744073709551616=n+18446744073709551616:=by rw [<- Int.add_emod_right,Int.emod_eq_of_lt (by omega) (by omega)]
  simp [this];omega
theorem kjd {n:Nat} (h:n<=9223372036854775806):w64 ((n:Int)+1)=((n+1:Nat):Int):=by rw [ke2 (by omega) (by omega)];omega
theorem kak {α:Type} (xs:List α) (n:Nat):idx xs (n:Int)=xs[n]?:=by unfold idx;rw [qq (by omega)];simp
theorem kka {α:Type} {b:Nat} {xs ys:List α} (h:(xs.length+ys.length)*(b+1)<=140737488355328):app b xs ys=some (xs++ys):=by unfold app;rw [qq h]
section
variable {σ β:Type} {step:σ->Option (σ ⊕ β)}
theorem kqd (n:Nat) (S:Nat->σ) (out:Nat->β) (hs:∀ i,i<n->(step (S i)=some (.inl (S (i+1)))/\out i=out (i+1))\/step (S i)=some (.inr (out i))) (a:step (S n)=some (.inr (out n))):
  ∀ (k i:Nat),i<=n->n - i<k->kai step k (S i)=some (out i)
 | 0,i,_,h=>by omega
 | k+1,i,hi,hk=>by
  rw [kai];by_cases h:i=n;subst h;rw [a]
  ·rcases hs i (by omega) with ⟨h1,b⟩ | h1;rw [h1,b];exact kqd n S out hs a k (i+1) (by omega) (by omega)
   ·rw [h1]
theorem kj3 (n:Nat) (hn:n<18446744073709551616) (S:Nat->σ) (out:Nat->β) (hs:∀ i,i<n->(step (S i)=some (.inl (S (i+1)))/\out i=out (i+1))\/step (S i)=some (.inr (out i))) (a:step (S n)=some (.inr (out n))):
  kai step fuel (S 0)=some (out 0):=kqd n S out hs a fuel 0 (qak _) (kfh (by omega))
theorem kvn (n:Nat) (hn:n<18446744073709551616) (S:Nat->σ) (b:β) (hs:∀ i,i<n->step (S i)=some (.inl (S (i+1)))) (a:step (S n)=some (.inr b)):kai step fuel (S 0)=some b:=
 kj3 n hn S (fun _=>b) (fun i hi => .inl ⟨hs i hi,rfl⟩) a
end
theorem ka6 {n i:Nat} (h:i<n):decide ((i:Int)<(n:Int))=true:=qo (by omega)
theorem ka2 (n:Nat):decide ((n:Int)<(n:Int))=false:=qn (by omega)
theorem kal {n m:Nat} (h:n<m) (hm:m<=9223372036854775807):w64 ((n:Int)+1)=((n+1:Nat):Int):=kjd (by omega)
theorem kbo {α:Type} {xs:List α} {i:Nat} {x:α} (h:xs[i]?=some x):i<xs.length:=(qd.1 h).1
theorem kcq {β:Type} {step:Int->Option (Int ⊕ β)} (n:Nat) (hn:n<18446744073709551616) (bad:Nat->Bool) (b:Nat->β) (miss:β) (hs:∀ i,i<n->step (i:Int)=if bad i=true then some (.inr (b i)) else some (.inl ((i+1:Nat):Int))) (f:step (n:Int)=some (.inr miss)):
  (∃ i,i<n/\bad i=true/\(∀ j,j<i->bad j=false)/\kai step fuel 0=some (b i))\/((∀ i,i<n->bad i=false)/\kai step fuel 0=some miss):=by
 have key:∀ (k i:Nat),i<=n->n - i<k->(∀ j,j<i->bad j=false)->(∃ m,m<n/\bad m=true/\(∀ j,j<m->bad j=false)/\kai step k (i:Int)=some (b m))\/((∀ i,i<n->bad i=false)/\kai step k (i:Int)=some miss):=by
  intro k
  induction k with
  | zero=>intro i _ h;omega
  | succ k ih=>
   intro i hi hk c;rw [kai];by_cases d:i=n;subst d;rw [f];exact .inr ⟨c,rfl⟩
   ·rw [hs i (by omega)];by_cases a:bad i=true;rw [qq a];exact .inl ⟨i,by omega,a,c,rfl⟩
    ·rw [qh a];exact ih (i+1) (by omega) (by omega) fun j g=>by
      by_cases e:j=i;subst e;simpa using a
      ·exact c j (by omega)
 have:=key fuel 0 (qak _) (kfh (by omega)) fun j g=>by omega
 simpa using this
theorem kuv {α:Type} (b:Nat) (z:α) (n:Nat) (h:(b+1)*n<=281474976710656):mkL b z (n:Int)=some (List.replicate n z):=by
 unfold mkL;have c:b*n+n<=281474976710656:=by rw [qa1,Nat.one_mul] at h;exact h
 have a:(b:Int)*(n:Int)=((b*n:Nat):Int):=(Int.natCast_mul b n).symm;rw [qq ⟨by omega,by rw [a];omega,by omega⟩];simp
set_option maxRecDepth 100000
def Ev {α:Type} (x:Option α) (P:α->Prop):Prop:=∃ v,x=some v/\P v
theorem Ev.mono {α:Type} {x:Option α} {P Q:α->Prop} (h:Ev x P) (hp:∀ v,P v->Q v):Ev x Q:=by obtain ⟨v,h1,a⟩:=h;exact ⟨v,h1,hp v a⟩
theorem kda {α β:Type} {x:Option α} {k:α->Option β} {P:β->Prop} (h:Ev x fun v=>Ev (k v) P):Ev (Option.bind x k) P:=by obtain ⟨v,rfl,u,h1,a⟩:=h;exact ⟨u,h1,a⟩
theorem km8 {σ β:Type} {step:σ->Option (σ ⊕ β)} {s0:σ} {Q:β->Prop} (n:Nat) (I:Nat->σ->Prop) (hn:n<18446744073709551616) (h0:I 0 s0)
  (hs:∀ i s,i<n->I i s->Ev (step s) (Sum.elim (I (i+1)) Q)) (d:∀ s,I n s->Ev (step s) fun r=>∃ b,r = .inr b/\Q b):Ev (kai step fuel s0) Q:=by
 have key:∀ (k m N:Nat) (s:σ),m+k=n->k<N->I m s->Ev (kai step N s) Q:=by
  intro k
  induction k with
  | zero=>
   intro m N s hm e c;obtain ⟨N,rfl⟩:∃ j,N=j+1:=⟨N - 1,by omega⟩;obtain rfl:m=n:=(by omega);obtain ⟨r,h1,b,rfl,a⟩:=d s c;exact ⟨b,by rw [kai,h1],a⟩
  | succ k ih=>
   intro m N s hm e c;obtain ⟨N,rfl⟩:∃ j,N=j+1:=⟨N - 1,by omega⟩;obtain ⟨r,h1,a⟩:=hs m s (by omega) c;cases r with
   | inl s'=>
    obtain ⟨b,f,g⟩:=ih (m+1) N s' (by omega) (by omega) a;exact ⟨b,by rw [kai,h1];exact f,g⟩
   | inr b=>exact ⟨b,by rw [kai,h1],a⟩
 exact key n 0 fuel s0 (by omega) (kfh hn) h0
theorem kwa {σ β:Type} {step:σ->Option (σ ⊕ β)} {s0:σ} {Q:β->Prop} (I:σ->Prop) (μ:σ->Nat) (hn:μ s0<18446744073709551616) (h0:I s0)
  (hs:∀ s,I s->Ev (step s) (Sum.elim (fun s'=>I s'/\μ s'<μ s) Q)):Ev (kai step fuel s0) Q:=by
 have key:∀ (N:Nat) (s:σ),μ s<N->I s->Ev (kai step N s) Q:=by
  intro N
  induction N with
  | zero=>intro s h;omega
  | succ N ih=>
   intro s h c;obtain ⟨r,h1,a⟩:=hs s c;cases r with
   | inl s'=>
    obtain ⟨b,d,e⟩:=ih s' (by have:=a.2;omega) a.1;exact ⟨b,by rw [kai,h1];exact d,e⟩
   | inr b=>exact ⟨b,by rw [kai,h1],a⟩
 exact key fuel s0 (kfh hn) h0
theorem kco {α σ τ β:Type} {xs:List α} {step:σ->Option (σ ⊕ β)} {Q:β->Prop} (mk:Nat->τ->σ) (I:Nat->τ->Prop) {t0:τ} (hn:xs.length<=9223372036854775807) (h0:I 0 t0)
  (hs:∀ i t (hi:i<xs.length),I i t->Ev (step (mk i t)) (Sum.elim (fun s=>∃ t',s=mk (i+1) t'/\I (i+1) t') Q)) (a:∀ t,I xs.length t->Ev (step (mk xs.length t)) fun r=>∃ b,r = .inr b/\Q b):Ev (kai step fuel (mk 0 t0)) Q:=by
 refine km8 xs.length (fun i s=>∃ t,s=mk i t/\I i t) (by omega) ⟨t0,rfl,h0⟩ (fun i s hi ⟨t,e,h⟩=>?_) (fun s ⟨t,e,h⟩=>?_);subst e;exact hs i t hi h
 ·subst e;exact a t h
abbrev Opn:=Sab
abbrev Nod:=Saa
abbrev Spa:=Sac
mutual
inductive Bt (ns:List Nod):Nat->Tm->Prop where
 | mk {i:Nat} {n:Nod} {o:Opn} {ts:List Tm} (hn:ns[i]?=some n) (ho:o∈n.f_Options) (hs:Bts ns o.f_Args ts):Bt ns i (Tm.mk o.f_Rule ts)
inductive Bts (ns:List Nod):List Int->List Tm->Prop where
 | nil:Bts ns [] []
 | cons {a:Int} {vs:List Int} {t:Tm} {ts:List Tm} (h0:0<=a) (ht:Bt ns a.toNat t) (hs:Bts ns vs ts):Bts ns (a::vs) (t::ts)
end
theorem Bt.inv {ns:List Nod} {i:Nat} {t:Tm} (h:Bt ns i t):∃ n o ts,ns[i]?=some n/\o∈n.f_Options/\t=Tm.mk o.f_Rule ts/\Bts ns o.f_Args ts:=by
 cases h with
 | mk hn ho hs=>exact ⟨_,_,_,hn,ho,rfl,hs⟩
theorem Bts.len {ns:List Nod}:∀ {vs:List Int} {ts:List Tm},Bts ns vs ts->vs.length=ts.length
 | _,_, .nil=>rfl
 | _,_, .cons _ _ hs=>by rw [List.length_cons,List.length_cons,hs.len]
theorem Bts.get {ns:List Nod}:∀ {vs:List Int} {ts:List Tm},Bts ns vs ts->∀ (j:Nat) (a:Int) (t:Tm),vs[j]?=some a->ts[j]?=some t->0<=a/\Bt ns a.toNat t
 | _,_, .nil,j,a,t,h,_=>by simp at h
 | _,_, .cons h0 ht hs,j,a,t,h,b=>by
  cases j with
  | zero=>simp at h b;subst h b;exact ⟨h0,ht⟩
  | succ j=>simp at h b;exact hs.get j a t h b
theorem Bts.of {ns:List Nod}:∀ {vs:List Int} {ts:List Tm},vs.length=ts.length->(∀ (j:Nat) (a:Int) (t:Tm),vs[j]?=some a->ts[j]?=some t->0<=a/\Bt ns a.toNat t)->Bts ns vs ts
 | [],[],_,_ => .nil
 | [],_::_,h,_=>by simp at h
 | _::_,[],h,_=>by simp at h
 | a::vs,t::ts,h,b => .cons (b 0 a t rfl rfl).1 (b 0 a t rfl rfl).2 (Bts.of (by simpa using h) fun j a' t' ha ht=>b (j+1) a' t' (by simpa using ha) (by simpa using ht))
def cmpI:List Int->List Int->Int
 | [],[]=>0
 | [],_::_ => -1
 | _::_,[]=>1
 | x::xs,y::ys=>if x<y then -1 else if y<x then 1 else cmpI xs ys
def ket (a b:Opn):Int:=if a.f_Rule≠b.f_Rule then cmpI [a.f_Rule] [b.f_Rule] else cmpI a.f_Args b.f_Args
def AscP (l:List Int) (n:Nat):Prop:=(∀ x∈l,0<=x/\x<(n:Int))/\∀ (i:Nat) (x y:Int),l[i]?=some x->l[i+1]?=some y->x<y
def szAt (ns:List Nod) (a:Int):Int:=((ns[a.toNat]?).map (·.f_Size)).getD 0
def syAt (ns:List Nod) (a:Int):Int:=((ns[a.toNat]?).map (·.f_Symbol)).getD 0
structure OptP (ns:List Nod) (i:Nat) (n:Nod) (o:Opn):Prop where
 rule:0<=o.f_Rule
 args:∀ a∈o.f_Args,0<=a/\a<(i:Int)
 size:1+(o.f_Args.map (szAt ns)).sum=n.f_Size
structure NodP (ns:List Nod) (i:Nat) (n:Nod):Prop where
 sym:0<=n.f_Symbol
 size:1<=n.f_Size/\n.f_Size<=24
 opt:∀ o∈n.f_Options,OptP ns i n o
 asc:∀ (k:Nat) (o p:Opn),n.f_Options[k]?=some o->n.f_Options[k+1]?=some p->ket o p<0
def optN (ns:List Nod):Nat:=(ns.map fun n=>n.f_Options.length).sum
def ConP (ns:List Nod):Prop:=∀ (i k:Nat) (n m:Nod) (o p:Opn),ns[i]?=some n->ns[k]?=some m->o∈n.f_Options->p∈m.f_Options->o.f_Rule=p.f_Rule ->
 n.f_Symbol=m.f_Symbol/\o.f_Args.map (syAt ns)=p.f_Args.map (syAt ns)
structure kc2 (s:Spa):Prop where
 nodes:s.f_Nodes.length<=4096
 roots:AscP s.f_Roots s.f_Nodes.length
 node:∀ (i:Nat) (n:Nod),s.f_Nodes[i]?=some n->NodP s.f_Nodes i n
 opts:optN s.f_Nodes<=32768
 con:ConP s.f_Nodes
theorem ksq {ns:List Nod} {i:Nat} {t:Tm} (h:Bt ns i t):i<ns.length:=by obtain ⟨n,o,ts,hn,_⟩:=h.inv;exact (qd.1 hn).1
def InS (s:Spa) (t:Tm):Prop:=∃ r∈s.f_Roots,0<=r/\Bt s.f_Nodes r.toNat t
def kb6 (f:Nat->Bool) (o:Opn):Bool:=o.f_Args.all fun a=>f a.toNat
section
variable {s:Spa} {f p:Nat->Bool}
end
open Go Go.RowKit Go.ChangeShapes Go.WideShapes Go.ChangeAt Go.Proofs.Tryz
theorem kth {n:Int} (h:(Lit.int .i64 n).wf=true):kgf n:=by simpa [Lit.wf,IntKind.min,IntKind.max,IntKind.signed,IntKind.bits,kgf] using h
section
variable {H:Type} {enc:TypeId×Value->H} {w:World} {base:Nat} {spare:Nat->Bool} {held:Bool}
theorem cells_ty:prog.cellsOf 3=1/\prog.cellsOf 2=1/\prog.cellsOf 9=1/\prog.cellsOf 22=1/\prog.cellsOf 59=1/\prog.cellsOf 23=1/\prog.cellsOf 24=1 /\
  prog.cellsOf 61=4/\prog.cellsOf 113=2/\prog.cellsOf 63=9/\prog.cellsOf 26=4:=⟨by kernel_rfl,by kernel_rfl,by kernel_rfl,by kernel_rfl,by kernel_rfl,by kernel_rfl,by kernel_rfl,by kernel_rfl,by kernel_rfl,by kernel_rfl,by kernel_rfl⟩
theorem kje {fuel:Nat} {cs:List Value} {x:DataW H×List MemPlace} (h:DataW.trod enc prog w base spare held fuel 3 cs=some x):∃ n,cs=[.int .i64 n]/\kgf n:=by obtain ⟨n,hn,_,a⟩:=DataW.trod_int underlying3 h;exact ⟨n,hn,kth a⟩
end
theorem kuq {n:Int} (h:(Lit.int .i64 n).wf=true):kgf n:=by simpa [Lit.wf,IntKind.min,IntKind.max,IntKind.signed,IntKind.bits,kgf] using h
section
variable {H:Type} {enc:TypeId×Value->H} {w:World} {base:Nat} {spare:Nat->Bool} {held:Bool}
theorem kjq:prog.cellsOf 38=2:=by kernel_rfl
theorem ku8:prog.cellsOf 3=1:=by kernel_rfl
theorem kql:prog.cellsOf 36=1:=by kernel_rfl
theorem kvg:∀ (fuel:Nat) (cs:List Value) (x:DataW H×List MemPlace),DataW.trod enc prog w base spare held fuel 38 cs=some x->∃ t,RepTm Any w cs t:=by
 intro fuel
 induction fuel using Nat.strongRecOn with
 | _ fuel ih=>
  intro cs x h;obtain ⟨xs,n,g,_,a,b,hf⟩:=DataW.trod_struct underlying38 h;rw [kjq] at a
  match cs,a with
  | [c0,c1],_=>
   have h0:=hf 0 _ rfl;have h1:=hf 1 _ rfl;have e0:xs[0]?=some (xs[0]'(by rw [b];decide)):=qa _;have e1:xs[1]?=some (xs[1]'(by rw [b];decide)):=qa _;rw [e0] at h0;rw [e1] at h1;obtain ⟨r,c,_,d⟩:=DataW.trod_int underlying3 h0;obtain ⟨v,ts,hv,hs⟩:=kz5 (R:=RepTm Any w) (size:=2) underlying36 kjq (by omega) h1 fun m cs' y hm hy=>ih m (by omega) cs' y hy;have e:c0 = .int .i64 r:=(by simpa [ku8] using c);have f:c1=v:=(by simpa [kql] using hv);subst e f;exact ⟨.mk r ts,RepTm.of (kuq d) hs⟩
theorem kr5 {r:Reach} {b0:Nat} {v:Value} {d:DataW H} {p:List MemPlace} (hv:Value.okWide prog w r b0 38 v) (h:DataW.Trod enc prog w base spare held 38 v d p):∃ t,TmV Any w v t:=by
 obtain ⟨cs,rfl,a⟩:=okWide_struct underlying38 hv;obtain ⟨fuel,hf⟩:=h;obtain ⟨t,ht⟩:=kvg fuel _ _ hf;rw [kjq] at a;obtain ⟨l⟩:=cs
 match l,a with
 | [c0,c1],_=>exact ⟨t,c0,c1,rfl,ht⟩
end
mutual
def kxt (B:Nat):Va->Prop
 | .mk _ _ _ l=>l.length<=B/\kus B l
def kus (B:Nat):List Va->Prop
 | []=>True
 | x::l=>kxt B x/\kus B l
end
def okV (v:Va):Prop:=depV v<=1000000/\kxt 9223372036854775807 v
structure GoodR (l:La) (r:Ru):Prop where
 sym0:0<=r.symbol
 sym1:r.symbol<(l.symbols.length:Int)
 kind:r.kind=1\/r.kind=2\/r.kind=3
 noargs:r.kind≠3->r.args=[]
 args:∀ a∈r.args,0<=a/\a<(l.symbols.length:Int)
 few:r.args.length<=5
 fine:okV r.const
structure GoodL (l:La):Prop where
 inputs:l.inputs.length<=4
 sym1:1<=l.symbols.length
 sym16:l.symbols.length<=16
 rules:l.rules.length<=96
 good:∀ r∈l.rules,GoodR l r
section
variable {w:World}
def CRw (w:World) (cs:List Value) (x:FV) (size:Nat):Prop:=x.cells.length=size/\(∀ y∈x.cells,y.single=true)/\∀ (j:Nat) (u:Value) (y:FV),cs[j]?=some u->x.cells[j]?=some y->RF Any w u y
theorem kla {cs:List Value} {xs:List FV} (hl:cs.length=xs.length) (h:∀ (j:Nat) (y:FV),xs[j]?=some y->y.single=true/\∀ u,cs[j]?=some u->RF Any w u y):CRw w cs (.agg xs) xs.length:=by refine ⟨rfl,fun y hy=>?_,fun j u y a hy=>(h j y hy).2 u a⟩;obtain ⟨j,b⟩:=qag.1 hy;exact (h j y b).1
theorem kqx {v:Value} {ns:List Int} (h:Ints Any w v ns):RF Any w v (eL 1 eI ns):=
 kov (R:=IntR) (by omega) h fun cs x _ a=>k1v a.1 rfl
theorem ku3 {cs:List Value} {xs:List FV} (hl:cs.length=xs.length) (h:CRw w cs (.agg xs) xs.length):RF Any w (.agg cs.toArray) (.agg xs):=
 .agg (by simpa using hl) (fun x a=>h.2.1 x a) fun i v x hv a=>h.2.2 i v x (by simpa using hv) a
theorem tm_cr:∀ (x:Tm) (cs:List Value),RepTm Any w cs x->CRw w cs (eTmR x) 2:=by
 refine Tm.ind fun r l ih=>?_;intro cs h;obtain ⟨v,rfl,hr,hv⟩:=h.form;have b:RF Any w v (.lst 2 l.length (kjr l)):=by have:=kov (ec:=eTmR) (size:=2) (by omega) hv fun cs x c hr=>ih x c cs hr;rw [klu];have d:eL 2 eTmR l = .lst 2 l.length (l.map eTmR):=rfl;rw [<- d];exact this
 refine kla (xs:=[eI r, .lst 2 l.length (kjr l)]) rfl fun j y hy=>?_
 match j with
 | 0=>simp at hy;subst hy;exact ⟨rfl,fun u a=>by simp at a;subst a;exact .atom rfl⟩
 | 1=>simp at hy;subst hy;exact ⟨rfl,fun u a=>by simp at a;subst a;exact b⟩
 | j+2=>simp at hy
theorem tm_rf {v:Value} {x:Tm} (h:TmV Any w v x):RF Any w v (eTm x):=by obtain ⟨c0,c1,rfl,hr⟩:=h;have k:=tm_cr x _ hr;rw [knl] at k;exact ku3 (cs:=[c0,c1]) (xs:=[eI x.rule,eL 2 eTmR x.args]) rfl k
end
section
variable {H:Type} {enc:TypeId×Value->H} {w:World} {base:Nat} {spare:Nat->Bool} {held:Bool}
theorem in_Tm {r:Reach} {b0:Nat} {v:Value} {d:DataW H} {p:List MemPlace} (hv:Value.okWide prog w r b0 38 v) (h:DataW.Trod enc prog w base spare held 38 v d p):∃ x,RF Any w v (eTm x)/\True:=by obtain ⟨x,a⟩:=kr5 hv h;exact ⟨x,tm_rf a,trivial⟩
end
end Go.Proofs.YtpnnpkmjohkgiaaGreatDoor
