/- SketchChecks: the law returns true for every input where the listed tables hold what the program lays into them. -/
import Derived.Test.YtgebfaidgikieaaGreatDoorZE
import Derived.Test.YtgebfaidgikieaaGreatDoorNq
import Derived.Test.YtgebfaidgikieaaGreatDoorTv
import Derived.Test.YtgebfaidgikieaaGreatDoorHd
import Derived.Deep.Fields
import Derived.Test.YtgebfaidgikieaaGreatDoorSim
import Derived.Test.YtgebfaidgikieaaGreatDoorTT
import Derived.Test.YtgebfaidgikieaaGreatDoorRows
import Derived.Lib.LaidTab
import Derived.LaidLaws
import Derived.LaidHandle
import Derived.OpenShut
import Derived.ChangeSame
import Derived.Test.YtgebfaidgikieaaGreatDoorEE
import Derived.ChangeMaps5
import Derived.JoinedOf
import Derived.Test.YtgebfaidgikieaaGreatDoorCards
import Derived.Test.YtgebfaidgikieaaGreatDoorTie
import Derived.SevenTiedAt
set_option linter.all false
set_option maxRecDepth 100000
namespace Go.Proofs.YtgebfaidgikieaaGreatDoor
open Go Go.RowKit TV Go.Proofs.Tryz
theorem kxs (g:Tm->Int) (r:Tm->Option (List Int)):∀ (xs:List Tm) (acc:List Int),acc.length+Tm.sizeL xs<=1000000->(∀ x∈xs,r x=some (x.pre g))->xs.foldlM (fun s x=>Option.bind (r x) fun v=>app 8 s v) acc=some (acc++Tm.preL g xs)
 | [],acc,_,_=>by simp [Tm.preL]
 | x::xs,acc,hl,h=>by have hs:Tm.sizeL (x::xs)=x.size+Tm.sizeL xs:=rfl;rw [List.foldlM_cons,h x (qx ..),qa,k51 (by rw [Tm.pre_length];omega)];have:=kxs g r xs (acc++x.pre g) (by rw [qy,Tm.pre_length];omega) fun y hy=>h y (qk _ hy);show List.foldlM _ (acc++x.pre g) xs=_;rw [this,qaq];rfl
theorem kwz:∀ (n:Nat) (t:Tm),t.size<=n->t.size<=1000->kb2 n t=some t.rules
 | 0,t,h,_=>by have:=Tm.size_pos t;omega
 | n+1,t,h,hl=>by
  show kfq (kb2 n) t=_;have a:=args_len t;have b:=kgj t;unfold kfq;rw [kkj (step:=kff t (kb2 n)) t.args (fun s x=>Option.bind (kb2 n x) fun v=>app 8 s v) (fun i s=>(i,s)) (by omega) (fun i x s hx=>by
   have hi:=khq hx;simp only [kff,kdy hi,qe,kag,hx,qa,khp hi (show t.args.length<=9223372036854775807 by omega)];cases kb2 n x with
   | none=>rfl
   | some v=>simp only [qa];cases app 8 s v <;> rfl) (fun s=>by simp only [kff,kj8,qd])]
  rw [kxs Tm.rule _ t.args _ (by rw [qa5];omega) fun x hx=>kwz n x (by have:=kgo hx;omega) (by have:=kgo hx;omega)];show some _=some (t.pre Tm.rule);rw [ksm];rfl
theorem ktt:∀ (n:Nat) (t:Tm),t.size<=n->t.size<=1000->kbp n t=some t.arities
 | 0,t,h,_=>by have:=Tm.size_pos t;omega
 | n+1,t,h,hl=>by
  show kez (kbp n) t=_;have a:=args_len t;have b:=kgj t;unfold kez;rw [kkj (step:=ker t (kbp n)) t.args (fun s x=>Option.bind (kbp n x) fun v=>app 8 s v) (fun i s=>(i,s)) (by omega) (fun i x s hx=>by
   have hi:=khq hx;simp only [ker,kdy hi,qe,kag,hx,qa,khp hi (show t.args.length<=9223372036854775807 by omega)];cases kbp n x with
   | none=>rfl
   | some v=>simp only [qa];cases app 8 s v <;> rfl) (fun s=>by simp only [ker,kj8,qd])]
  rw [kxs Tm.nargs _ t.args _ (by rw [qa5];omega) fun x hx=>ktt n x (by have:=kgo hx;omega) (by have:=kgo hx;omega)];show some _=some (t.pre Tm.nargs);rw [ksm];rfl
theorem kzr:∀ (n:Nat) (t:Tm),t.size<=n->t.size<=1000->kbx n t=some (t.size:Int)
 | 0,t,h,_=>by have:=Tm.size_pos t;omega
 | n+1,t,h,hl=>by show kfy (kbx n) t=_;have a:=args_len t;have b:=kgj t;unfold kfy;rw [kkj (step:=kfp t (kbx n)) t.args (fun s x=>Option.bind (kbx n x) fun v=>some (w64 (s+v))) (fun i s=>(s,i)) (by omega) (fun i x s hx=>by have hi:=khq hx;simp only [kfp,kdy hi,qe,kag,hx,qa,khp hi (show t.args.length<=9223372036854775807 by omega)];cases kbx n x <;> rfl) (fun s=>by simp only [kfp,kj8,qd])];have:=kw6 (kbx n) t.args 1 (by omega) fun x hx=>kzr n x (by have:=kgo hx;omega) (by have:=kgo hx;omega);rw [show (1:Int)=((1:Nat):Int) from rfl,this,qa];congr 2;omega
theorem k8i (x y:List Int) (hl:x.length=y.length) (hx:x.length<=1000000):kc6 x y=some (lexC x y):=by
 unfold kc6;have h:=ki5 (kcf x y) x.length (fun i=>(i:Int)) (fun i=>lexO (x.drop i) (y.drop i)) (fun i hi=>by
  have hy:i<y.length:=by omega
  simp only [kcf,kdy hi,kdy hy,qe,kag,qb hi,qb hy,qa,khp hi (show x.length<=9223372036854775807 by omega),qac hi,qac hy,lexO];by_cases h1:x[i]<y[i];rw [qh h1,qs h1];exact .inr rfl
  ·rw [qf h1,ql h1];by_cases a:y[i]<x[i];rw [qh a,qs a];exact .inr rfl
   ·rw [qf a,ql a];exact .inl ⟨rfl,rfl⟩) (by
  simp only [kcf,kj8,qd,List.drop_length,lexO,qa])
 have b:kab (kcf x y) fuel 0=some (lexO x y):=by simpa using h
 rw [b,qa,<- k25];cases lexO x y with
 | inr c=>rfl
 | inl u=>
  simp only [qaa];unfold ke6;have e1:decide ((x.length:Int)<(y.length:Int))=false:=qf (by omega);have e2:decide ((y.length:Int)<(x.length:Int))=false:=qf (by omega);simp [e1,e2,hl]
theorem k9c (a b:Tm) (ha:a.size<=1000) (d:b.size<=1000):kfm a b=some (cmpT a b):=by
 unfold kfm cmpT;rw [kzr fuel a (qa4 (ka9 (by omega))) ha,kzr fuel b (qa4 (ka9 (by omega))) d];simp only [qa,ke6];by_cases h1:a.size<b.size;rw [qs h1,qh (show (a.size:Int)<(b.size:Int) by omega)];rfl;rw [ql h1,qf (show ¬ (a.size:Int)<(b.size:Int) by omega)];by_cases e:b.size<a.size;rw [qs e,qh (show (b.size:Int)<(a.size:Int) by omega)];rfl;rw [ql e,qf (show ¬ (b.size:Int)<(a.size:Int) by omega)];simp only [qd,qa,show ((0:Int) != 0)=false from rfl];rw [kwz fuel a (qa4 (ka9 (by omega))) ha,kwz fuel b (qa4 (ka9 (by omega))) d];simp only [qa];rw [k8i a.rules b.rules (by rw [Tm.rules_length,Tm.rules_length];omega) (by rw [Tm.rules_length];omega),qa];by_cases c:lexC a.rules b.rules=0;rw [ql (by simpa using c),c,show ((0:Int) != 0)=false from rfl,qd];rw [ktt fuel a (qa4 (ka9 (by omega))) ha,ktt fuel b (qa4 (ka9 (by omega))) d];simp only [qa];rw [k8i a.arities b.arities (by rw [Tm.arities_length,Tm.arities_length];omega) (by rw [Tm.arities_length];omega)];rfl
 ·rw [qs c,show (lexC a.rules b.rules != 0)=true by rw [qbc];exact c];rfl
namespace Dk
mutual
def nodes:Dk->Nat
 | .mk _ _ l=>nodesL l+1
def nodesL:List Dk->Nat
 | []=>0
 | x::l=>x.nodes+nodesL l
end
theorem nodes_pos (x:Dk):1<=x.nodes:=by cases x;simp only [nodes];omega
theorem nodes_eq (x:Dk):x.nodes=nodesL x.args+1:=by cases x;rfl
theorem nodesL_take {l:List Dk} {i:Nat} (h:i<l.length):nodesL (l.take (i+1))=nodesL (l.take i)+l[i].nodes:=by
 induction l generalizing i with
 | nil=>cases h
 | cons x l ih=>
  cases i with
  | zero=>simp [nodesL]
  | succ i=>simp only [List.take_succ_cons,nodesL,List.getElem_cons_succ];rw [ih (by simpa using h)];omega
theorem nodesL_take_le (l:List Dk) (i:Nat):nodesL (l.take i)<=nodesL l:=by
 induction l generalizing i with
 | nil=>simp [nodesL]
 | cons x l ih=>
  cases i with
  | zero=>simp [nodesL]
  | succ i=>simp only [List.take_succ_cons,nodesL];have:=ih i;omega
theorem kaai {l:List Dk} {x:Dk} (h:x∈l):x.nodes<=nodesL l:=by
 induction l with
 | nil=>cases h
 | cons y l ih=>
  simp only [nodesL];rcases qab.1 h with rfl | h;omega
  ·have:=ih h;omega
theorem k0p (l:List Dk):l.length<=nodesL l:=by
 induction l with
 | nil=>simp [nodesL]
 | cons x l ih=>simp only [qad,nodesL];have:=x.nodes_pos;omega
theorem take_nodesL {l:List Dk} {i:Nat} (h:i<=l.length):i<=nodesL (l.take i):=by have:=k0p (l.take i);rw [qap] at this;omega
theorem args_nodes {x y:Dk} (h:y∈x.args):y.nodes<x.nodes:=by have:=kaai h;rw [nodes_eq x];omega
theorem args_len (x:Dk):x.args.length<x.nodes:=by have:=k0p x.args;rw [nodes_eq x];omega
end Dk
theorem k3r:∀ (N m:Nat) (x:Dk),m<N->m<=1000->kef N x (m:Int)=some ((min x.nodes (m+1):Nat):Int)
 | 0,_,_,h,_=>by omega
 | N+1,m,x,h,hm=>by
  refine Ev.eq ?_;show Ev (kfl (kef N) x (m:Int)) _;unfold kfl;refine knm (Ev.mono (kaem (kgr x (m:Int) (kef N)) (fun v=>v=((min x.nodes (m+1):Nat):Int)) (fun s=>∃ i:Nat,s.2=(i:Int)/\i<=x.args.length/\s.1=((min (1+Dk.nodesL (x.args.take i)) (m+1):Nat):Int)) (fun s=>m+1 - s.1.toNat) (by show m+1 - _<_;omega) ⟨0,rfl,qaj _,by show (1:Int)=_;rw [List.take_zero];simp only [Dk.nodesL];omega⟩ fun s d=>?_) fun v hv=>⟨_,rfl,hv⟩);obtain ⟨n,j⟩:=s;obtain ⟨i,rfl,hi,hn⟩:=d;simp only at hn;subst hn;have hx:=Dk.nodes_eq x;unfold kgr;by_cases a:i<x.args.length
  ·have b:=Dk.nodesL_take a;have f:=Dk.nodesL_take_le x.args (i+1);have c:=Dk.nodes_pos x.args[i];have g:=Dk.take_nodesL (qa4 a);simp only [kf1 a,qe,qa,kag,qb a];refine kdk (fun hc=>?_) fun hc=>?_
   ·have hc:=qay hc;have k:1+Dk.nodesL (x.args.take i)<=m:=(by omega);have e:w64 ((m:Int) - ((min (1+Dk.nodesL (x.args.take i)) (m+1):Nat):Int))=((m - (1+Dk.nodesL (x.args.take i)):Nat):Int):=(by rw [kje];omega);rw [e,k3r N _ _ (by omega) (by omega),qa];refine ⟨_,rfl,⟨i+1,ka1 _,a,?_⟩,?_⟩;show w64 _=_;rw [kje,b];omega
    ·show m+1 - (w64 _).toNat<_;rw [kje];omega
   ·have hc:=qav hc;exact ⟨_,rfl,by show ((_:Nat):Int)=_;omega⟩
  ·have a:i=x.args.length:=(by omega);subst a;rw [List.take_length];simp only [kfj,qd,qa];exact ⟨_,rfl,by show ((_:Nat):Int)=_;omega⟩
structure k7b (d:Saa):Prop where
 holes:d.yb.length<=8
 nodes:d.yc.nodes<=40
 terms:∀ h∈d.yb,h.ya.length<=70
 sizes:∀ h∈d.yb,∀ t∈h.ya,t.size<=20
theorem kac9 (d:Saa):Ev (ke9 d) fun b=>b=true->k7b d:=by
 unfold ke9;by_cases j:8<d.yb.length;rw [qh (show (8:Int)<(d.yb.length:Int) by omega)];exact ⟨false,rfl,fun h=>by cases h⟩;rw [qf (show ¬ (8:Int)<(d.yb.length:Int) by omega),qd,show (40:Int)=((40:Nat):Int) from rfl,k3r fuel 40 _ (by decide) (by decide),qa,qa];refine kdk (fun _=>⟨false,rfl,fun h=>by cases h⟩) fun hn=>?_;have hn:d.yc.nodes<=40:=by have:=qav hn;omega
 refine knm (Ev.mono (kkw (P:=fun i=>∀ h,d.yb[i]?=some h->h.ya.length<=70/\∀ t∈h.ya,t.size<=20) (B:=fun b=>b=false) d.yb.length (by omega) (fun i hi _=>?_) (by simp only [kgs,kfj,qd])) fun q f=>ksh (fun _ e=>?_) fun b e=>?_)
 ·have e1:d.yb[i]?=some d.yb[i]:=qb hi;simp only [kgs,kf1 hi,qe,kag,e1,qa];refine kdk (fun _=>⟨_,rfl,rfl⟩) fun a=>?_;have a:d.yb[i].ya.length<=70:=by have:=qav a;omega
  refine knm (Ev.mono (kkw (P:=fun k=>∀ t,d.yb[i].ya[k]?=some t->t.size<=20) (B:=fun b=>b=false) d.yb[i].ya.length (by omega) (fun k hk _=>?_) (by simp only [kgx,kag,e1,qa,kfj,qd])) fun q f=>ksh (fun _ e=>?_) fun b e=>?_);simp only [kgx,kag,e1,qa,kf1 hk,qe,qb hk];rw [show (20:Int)=((20:Nat):Int) from rfl,kwr _ 20 (by decide),qa];refine kdk (fun _=>⟨_,rfl,rfl⟩) fun g=>⟨_,rfl,rfl,fun t ht=>?_⟩;cases ht;exact qay (by simpa using g);subst e;refine ⟨_,rfl,rfl,fun h c=>?_⟩;cases c;exact ⟨a,fun t ht=>by obtain ⟨k,hk,rfl⟩:=qaf.1 ht;exact f k hk _ (qb hk)⟩
  ·subst e;exact ⟨_,rfl,f⟩
 ·subst e;have all:∀ h∈d.yb,h.ya.length<=70/\∀ t∈h.ya,t.size<=20:=fun h c=>by obtain ⟨k,hk,rfl⟩:=qaf.1 c;exact f k hk _ (qb hk)
  exact ⟨_,rfl,fun _=>⟨by omega,hn,fun h c=>(all h c).1,fun h c=>(all h c).2⟩⟩
 ·subst e;exact ⟨_,rfl,fun h=>by rw [show b=false from f] at h;cases h⟩
def kos (r:Ru):Nat:=bif r.kind != 3 then 0 else r.args.length
theorem kaei (r:Ru):kec r=some (kos r:Int):=by unfold kec kos;cases r.kind != 3 <;> rfl
theorem kaeq (r:Ru):kos r<=r.args.length:=by unfold kos;cases r.kind != 3 <;> simp
theorem kaay {l:La} {r:Ru} (h:GoodR l r):kos r=r.args.length:=by
 unfold kos;cases hk:r.kind != 3 with
 | true=>rw [h.noargs (qbc.1 hk)];rfl
 | false=>rfl
inductive Fits (l:La):Int->Tm->Prop
 | mk {s:Int} {t:Tm} {k:Nat} {r:Ru} (hk:t.rule=(k:Int)) (h:l.rules[k]?=some r) (hs:r.symbol=s) (hl:t.args.length=kos r) (ha:∀ (i:Nat) (a:Tm) (b:Int),t.args[i]?=some a->r.args[i]?=some b->Fits l b a):Fits l s t
theorem k5u (l:La):∀ (n:Nat) (t:Tm) (s:Int),t.size<=n->t.size<=1000->Ev (kb9 n l s t) fun c=>c=0↔Fits l s t
 | 0,t,_,h,_=>by have:=t.size_pos;omega
 | n+1,t,s,h,E=>by
  show Ev (kdv (kb9 n) l s t) _;unfold kdv;have w:=args_len t;have no:∀ {c:Int},c≠0->¬ Fits l s t->(c=0↔Fits l s t):=fun h1 d=>⟨fun h=>absurd h h1,fun h=>absurd h d⟩;by_cases f:0<=t.rule/\t.rule<(l.rules.length:Int)
  ·obtain ⟨g,v⟩:=f;obtain ⟨k,j⟩:=Int.eq_ofNat_of_zero_le g;have hk:k<l.rules.length:=(by omega);have e1:l.rules[k]?=some l.rules[k]:=qb hk;have inv:Fits l s t->l.rules[k].symbol=s/\t.args.length=kos l.rules[k]/\∀ (i:Nat) (a:Tm) (b:Int),t.args[i]?=some a->l.rules[k].args[i]?=some b->Fits l b a:=fun h=>by
    cases h with
    | mk h1 d x y z=>
     rename_i k' r;obtain rfl:k'=k:=(by omega);rw [e1] at d;cases d;exact ⟨x,y,z⟩
   rw [j,qf (show ¬ ((k:Nat):Int)<0 by omega),qd,qf (show ¬ (l.rules.length:Int)<=((k:Nat):Int) by omega),qa,qd,kag,e1,qa];refine kdk (fun hs=>⟨_,rfl,no (by decide) fun h=>qbc.1 hs (inv h).1⟩) fun hs=>?_;have hs:=qae.1 hs;rw [kaei,qa];refine kdk (fun hl=>⟨_,rfl,no (by decide) fun h=>by have:=qbc.1 hl;have:=(inv h).2.1;omega⟩) fun hl=>?_;have hl:t.args.length=kos l.rules[k]:=(by have:=qae.1 hl;omega);have A:=kaeq l.rules[k];refine knm (Ev.mono (kkw (P:=fun i=>∀ a b,t.args[i]?=some a->l.rules[k].args[i]?=some b->Fits l b a) (B:=fun e=>e≠0/\¬ Fits l s t) t.args.length (by omega) (fun i hi _=>?_) (by simp only [kco,kfj,qd])) fun q m=>ksh (fun _ e=>?_) fun e C=>?_);have o:i<l.rules[k].args.length:=(by omega);have e2:l.rules[k].args[i]?=some l.rules[k].args[i]:=qb o;have e3:t.args[i]?=some t.args[i]:=qb hi;simp only [kco,kf1 hi,qe,kag,e2,e3,qa];have D:=kgo (qv hi);obtain ⟨c,h1,d⟩:=k5u l n t.args[i] l.rules[k].args[i] (by omega) (by omega);rw [h1,qa];refine kdk (fun hc=>⟨_,rfl,qbc.1 hc,fun h=>qbc.1 hc (d.2 ((inv h).2.2 i _ _ e3 e2))⟩) fun hc=>⟨_,rfl,rfl,fun a b ha p=>?_⟩;cases ha;cases p;exact d.1 (qae.1 hc);subst e;exact ⟨_,rfl,fun _ => .mk j e1 hs hl fun i a b ha p=>m i (khq ha) a b ha p,fun _=>rfl⟩
   ·subst C;exact ⟨_,rfl,no m.1 m.2⟩
  ·have u:¬ Fits l s t:=fun h=>by
    cases h with
    | mk h1 d _ _ _=>have:=khq d;exact f ⟨by omega,by omega⟩
   have e:(bif decide (t.rule<0) then some true else some (decide ((l.rules.length:Int)<=t.rule)):Option Bool)=some true:=by
    by_cases h0:t.rule<0;rw [qh h0];rfl
    ·rw [qf h0,qh (show (l.rules.length:Int)<=t.rule by omega)];rfl
   rw [e,qa];exact ⟨_,rfl,no (by decide) u⟩
theorem kafv (a b:Nat):imax (a:Int) (b:Int)=((max a b:Nat):Int):=by unfold imax;split <;> omega
theorem kadd (t:Tm):t.depth=Tm.depthL t.args+1:=by cases t;rfl
theorem kxk:∀ (n:Nat) (t:Tm),t.size<=n->t.size<=1000->ka7 n t=some (t.depth:Int)
 | 0,t,h,_=>by have:=t.size_pos;omega
 | n+1,t,h,f=>by
  refine Ev.eq ?_;show Ev (kcn (ka7 n) t) _;unfold kcn;have c:=args_len t;have a:=t.depth_le_size;rw [kadd t] at a ⊢;refine knm (Ev.mono (kpa (Q:=fun v=>v=(Tm.depthL t.args:Int)) t.args.length (fun i s=>s=((Tm.depthL (t.args.take i):Int),(i:Int))) (by omega) rfl (fun i s hi e=>?_) fun s e=>?_) fun v hv=>?_);subst e;have d:=kgo (qv hi);simp only [kce,kf1 hi,qe,kag,qb hi,qa];rw [kxk n t.args[i] (by omega) (by omega),qa,kafv,ka1 _,<- Tm.depthL_take_succ hi];exact ⟨_,rfl,rfl⟩;subst e;exact kt3 (Tm.depthL t.args:Int) (by simp only [kce,kfj,qd];rw [List.take_length]) rfl
  ·subst hv;exact ⟨_,rfl,by rw [kje];omega⟩
structure OkT (l:La) (s:Int) (t:Tm):Prop where
 sym0:0<=s
 sym1:s<(l.symbols.length:Int)
 depth:t.depth<=32
 fits:Fits l s t
theorem k34 {l:La} (hc:kbr l=some 0) (s:Int) (t:Tm) (b:t.size<=1000):Ev (kd8 l s t) fun c=>c=0↔OkT l s t:=by
 unfold kd8;rw [hc,qa,show ((0:Int) != 0)=false from rfl,qd];by_cases a:0<=s/\s<(l.symbols.length:Int);obtain ⟨h0,h1⟩:=a;rw [qf (show ¬ s<0 by omega),qd,qf (show ¬ (l.symbols.length:Int)<=s by omega),qa,qd];rw [show (4096:Int)=((4096:Nat):Int) from rfl,kwr t 4096 (by decide),qa,qh (show t.size<=4096 by omega),qbo,qd,kxk fuel t (qa4 (ka9 (by omega))) b,qa,qa];refine kdk (fun hd=>⟨_,rfl,fun h=>absurd h (by decide),fun h=>absurd h.depth (by have:=qay hd;omega)⟩) fun hd=>?_;obtain ⟨c,k1,k2⟩:=k5u l fuel t s (qa4 (ka9 (by omega))) b;rw [k1];exact ⟨c,rfl,fun h=>⟨h0,h1,by have:=qav hd;omega,k2.1 h⟩,fun h=>k2.2 h.fits⟩
 ·have e:(bif decide (s<0) then some true else some (decide ((l.symbols.length:Int)<=s)):Option Bool)=some true:=by
   by_cases h0:s<0;rw [qh h0];rfl
   ·rw [qf h0,qh (show (l.symbols.length:Int)<=s by omega)];rfl
  rw [e,qa];exact ⟨_,rfl,fun h=>absurd h (by decide),fun h=>absurd ⟨h.sym0,h.sym1⟩ a⟩
structure kaam (l:La) (h:Sab):Prop where
 pos:1<=h.ya.length
 few:h.ya.length<=64
 ok:∀ t∈h.ya,OkT l h.yf t
theorem kafk {l:La} (hc:kbr l=some 0) (h:Sab) (b:∀ t∈h.ya,t.size<=20):Ev (ken l h) fun c=>c=0->kaam l h:=by
 unfold ken;have no:∀ {c:Int},c≠0->c=0->kaam l h:=fun h1 m=>absurd m h1;refine klt (kdk (fun _=>⟨_,rfl,trivial⟩) fun _=>⟨_,rfl,trivial⟩) fun _ _=>kdk (fun _=>⟨_,rfl,no (by decide)⟩) fun _=>?_;by_cases d:1<=h.ya.length/\h.ya.length<=64
 ·obtain ⟨h1,f⟩:=d;rw [qf (show ¬ (h.ya.length:Int)<1 by omega),qd,qf (show ¬ (64:Int)<(h.ya.length:Int) by omega),qa,qd];refine knm (Ev.mono (kkw (P:=fun i=>∀ t,h.ya[i]?=some t->OkT l h.yf t) (B:=fun e=>e≠0) h.ya.length (by omega) (fun i hi _=>?_) (by simp only [kem,kfj,qd])) fun q j=>ksh (fun _ e=>?_) fun e n=>?_);simp only [kem,kf1 hi,qe,kag,qb hi,qa];obtain ⟨c,k1,k2⟩:=k34 hc h.yf h.ya[i] (by have:=b _ (qv hi);omega);rw [k1,qa];exact kdk (fun hc=>⟨_,rfl,qbc.1 hc⟩) fun hc=>⟨_,rfl,rfl,fun t ht=>by cases ht;exact k2.1 (qae.1 hc)⟩;subst e;have g:kaam l h:=⟨h1,f,fun t ht=>by obtain ⟨k,hk,rfl⟩:=qaf.1 ht;exact j k hk _ (qb hk)⟩;refine klt (Ev.mono (kkw (P:=fun _=>True) (B:=fun _:Int=>True) h.ya.length (by omega) (fun i hi _=>?_) (by simp only [kbq,kfj,qd])) fun _ _=>trivial) fun q _=>ksh (fun _ _=>⟨_,rfl,fun _=>g⟩) fun _ _=>⟨_,rfl,fun _=>g⟩;simp only [kbq,kf1 hi,qe,qa];refine knm (Ev.mono (kkw (P:=fun _=>True) (B:=fun _:Int=>True) i (by omega) (fun k hk _=>?_) (by simp only [kdd,kfj,qd])) fun q _=>ksh (fun _ _=>⟨_,rfl,rfl,trivial⟩) fun _ _=>⟨_,rfl,trivial⟩);have a:k<h.ya.length:=(by omega);simp only [kdd,kf1 hk,qe,kag,qb hi,qb a,qa];rw [k9c _ _ (by have:=b _ (qv hi);omega) (by have:=b _ (qv a);omega),qa];exact kdk (fun _=>⟨_,rfl,trivial⟩) fun _=>⟨_,rfl,rfl,trivial⟩
  ·subst n;exact ⟨_,rfl,no j⟩
 ·have e:(bif decide ((h.ya.length:Int)<1) then some true else some (decide ((64:Int)<(h.ya.length:Int))):Option Bool)=some true:=by
   by_cases h0:h.ya.length<1;rw [qh (show (h.ya.length:Int)<1 by omega)];rfl
   ·rw [qf (show ¬ (h.ya.length:Int)<1 by omega),qh (show (64:Int)<(h.ya.length:Int) by omega)];rfl
  rw [e,qa];exact ⟨_,rfl,no (by decide)⟩
inductive krc (l:La) (hs:List Sab):Int->Dk->Prop
 | hole {s:Int} {x:Dk} {k:Nat} {h:Sab} (hx:x.hole=(k:Int)+1) (hk:hs[k]?=some h) (ht:0<=s->h.yf=s):krc l hs s x
 | node {s:Int} {x:Dk} {k:Nat} {r:Ru} (hx:x.hole=0) (hr:x.rule=(k:Int)) (hk:l.rules[k]?=some r) (ht:0<=s->r.symbol=s) (hl:x.args.length=r.args.length) (ha:∀ (i:Nat) (a:Dk) (b:Int),x.args[i]?=some a->r.args[i]?=some b->krc l hs b a):krc l hs s x
theorem k59 (l:La) (d:Saa) (hd:d.yb.length<=1000):∀ (n:Nat) (x:Dk) (s:Int),x.nodes<=n->x.nodes<=1000->Ev (kdm n l d x s) fun c=>c=0->krc l d.yb s x
 | 0,x,_,h,_=>by have:=x.nodes_pos;omega
 | n+1,x,s,h,u=>by
  show Ev (kev (kdm n) l d x s) _;unfold kev;have p:=Dk.args_len x;have no:∀ {c:Int},c≠0->c=0->krc l d.yb s x:=fun h1 j=>absurd j h1;refine kdk (fun hp=>kdk (fun _=>⟨_,rfl,no (by decide)⟩) fun hm=>?_) fun hp=>?_;have hp:=qay hp;have hm:=qav hm;obtain ⟨k,g⟩:∃ k:Nat,x.hole=(k:Int)+1:=⟨(x.hole - 1).toNat,by omega⟩;have hk:k<d.yb.length:=(by omega);have e1:d.yb[k]?=some d.yb[k]:=qb hk;rw [show w64 (x.hole - 1)=(k:Int) by rw [kje];omega];refine klt (kdk (fun _=>⟨_,rfl,trivial⟩) fun _=>⟨_,rfl,trivial⟩) fun v hv=>kdk (fun _=>⟨_,rfl,no (by decide)⟩) fun f=>?_;rw [kag,e1];refine klt (kdk (fun _=>⟨_,rfl,trivial⟩) fun _=>⟨_,rfl,trivial⟩) fun v hv=>kdk (fun _=>⟨_,rfl,no (by decide)⟩) fun f=>⟨_,rfl,fun _ => .hole g e1 fun h0=>?_⟩;subst f;rw [qh h0] at hv;exact qae.1 (qt hv)
  ·have hp:=qav hp;refine klt (kdk (fun _=>⟨_,rfl,trivial⟩) fun _=>kdk (fun _=>⟨_,rfl,trivial⟩) fun _=>⟨_,rfl,trivial⟩) fun v hv=>kdk (fun _=>⟨_,rfl,no (by decide)⟩) fun f=>?_;subst f;have m:x.hole=0/\0<=x.rule/\x.rule<(l.rules.length:Int):=by
    cases h1:decide (x.hole<0) with
    | true=>rw [h1] at hv;cases hv
    | false=>
     rw [h1,qd] at hv;cases j:decide (x.rule<0) with
     | true=>rw [j] at hv;cases hv
     | false=>
      rw [j,qd] at hv;have h1:=qav h1;have j:=qav j;have w:=qav (qt hv);omega
   obtain ⟨hx,h0,h1⟩:=m;obtain ⟨k,g⟩:=Int.eq_ofNat_of_zero_le h0;have hk:k<l.rules.length:=(by omega);have e1:l.rules[k]?=some l.rules[k]:=qb hk;rw [g,kag,e1,qa];refine klt (kdk (fun _=>⟨_,rfl,trivial⟩) fun _=>⟨_,rfl,trivial⟩) fun v hv=>kdk (fun _=>⟨_,rfl,no (by decide)⟩) fun f=>kdk (fun _=>⟨_,rfl,no (by decide)⟩) fun hl=>?_;subst f;have hs:0<=s->l.rules[k].symbol=s:=fun h0=>(by rw [qh h0] at hv;exact qae.1 (qt hv));have hl:x.args.length=l.rules[k].args.length:=(by have:=qae.1 hl;omega);refine knm (Ev.mono (kkw (P:=fun i=>∀ a b,x.args[i]?=some a->l.rules[k].args[i]?=some b->krc l d.yb b a) (B:=fun e=>e≠0) x.args.length (by omega) (fun i hi _=>?_) (by simp only [khg,kfj,qd])) fun q m=>ksh (fun _ e=>?_) fun e r=>?_);have o:i<l.rules[k].args.length:=(by omega);have e2:l.rules[k].args[i]?=some l.rules[k].args[i]:=qb o;have e3:x.args[i]?=some x.args[i]:=qb hi;simp only [khg,kf1 hi,qe,kag,e2,e3,qa];have t:=Dk.args_nodes (qv hi);obtain ⟨c,h1,j⟩:=k59 l d hd n x.args[i] l.rules[k].args[i] (by omega) (by omega);rw [h1,qa];refine kdk (fun hc=>⟨_,rfl,qbc.1 hc⟩) fun hc=>⟨_,rfl,rfl,fun a b ha f=>?_⟩;cases ha;cases f;exact j (qae.1 hc);subst e;exact ⟨_,rfl,fun _ => .node hx g e1 hs hl fun i a b ha f=>m i (khq ha) a b ha f⟩
   ·subst r;exact ⟨_,rfl,no m⟩
theorem k8y {α:Type} {xs:List α} {i:Int} {x:α} (h:idx xs i=some x):x∈xs:=qu (kpj h).2
theorem kmq {α β:Type} {x:Option α} {f g:α->Option β} (h:∀ v,x=some v->f v=g v):Option.bind x f=Option.bind x g:=by
 cases x with
 | none=>rfl
 | some v=>exact h v rfl
theorem kxx {α:Type} {c:Bool} {x y z:α} (h:x=y):(bif c then x else z)=bif c then y else z:=by rw [h]
theorem kaek {β:Type} {step:Int->Option (Int ⊕ (Unit ⊕ β))} (n:Nat) (hn:n<=9223372036854775807) (h:kab step fuel 0=some (.inl ())):∀ i:Nat,i<n->(∀ j:Nat,j<n->∀ s,step (j:Int)=some (.inl s)->s=((j+1:Nat):Int))->(∀ j:Nat,j<n->step (j:Int)≠some (.inr (.inl ())))->∃ s,step (i:Int)=some (.inl s):=by
 intro i hi a c;have key:∀ (k m:Nat),kab step k (m:Int)=some (.inl ())->m<=i->∃ s,step (i:Int)=some (.inl s):=by
  intro k
  induction k with
  | zero=>intro m h;cases h
  | succ k ih=>
   intro m h hm;rw [kab] at h;cases hs:step (m:Int) with
   | none=>rw [hs] at h;cases h
   | some r=>
    rw [hs] at h;cases r with
    | inl s=>
     by_cases d:m=i;subst d;exact ⟨s,hs⟩
     ·have:=a m (by omega) s hs;subst this;exact ih (m+1) h (by omega)
    | inr b=>
     injection h with h;subst h;exact absurd hs (c m (by omega))
 exact key fuel 0 h (qaj _)
theorem kag3 {l:La} (hl:kot l) (h:Sab) (f:∀ t∈h.ya,t.size<=20):km1 l h=ken l h:=by
 have e2:kl4 l h=kem l h:=by funext v;unfold kl4 kem;refine kxx (kmq fun t ht=>?_);obtain ⟨c,h1,g,_⟩:=k16 l h.yf t hl (by have:=f t (k8y ht);omega);rw [h1,g]
 unfold km1 ken;rw [e2];refine kmq fun _ _=>?_;by_cases o:h.ya.length<=64
 ·have e1:kab (kfw h) fuel 0=kab (kbq h) fuel 0:=by
   have hs:∀ i,i<h.ya.length->(kfw h (i:Int)=some (.inl ((i+1:Nat):Int))/\kbq h (i:Int)=some (.inl ((i+1:Nat):Int)))\/∃ b,kfw h (i:Int)=some (.inr b)/\kbq h (i:Int)=some (.inr b):=fun i hi=>by
    have g1:h.ya[i]?=some h.ya[i]:=qb hi;have q:=f _ (qv hi);have d:(h.ya.take i).length=i:=(by rw [qap];omega);have hp:Ev (kab (kbs (h.ya.take i) h.ya[i]) fuel 0) (Sum.elim (fun _=>∀ k,k<i->h.ya[k]?≠some h.ya[i]) fun k=>0<=k/\∃ k,k<i/\h.ya[k]?=some h.ya[i]):=(by refine kkw (P:=fun k=>h.ya[k]?≠some h.ya[i]) i (by omega) (fun k hk _=>?_) (by simp only [kbs,d,kfj,qd]);have a:k<h.ya.length:=(by omega);have g2:(h.ya.take i)[k]?=some h.ya[k]:=(by rw [List.getElem?_take_of_lt hk,qb a]);have m:=f _ (qv a);simp only [kbs,d,kf1 hk,qe,kag,g2,qa,kk7];rw [kafr _ _ (by omega) (by omega),qa,qa];refine kdk (fun hc=>⟨_,rfl,by omega,k,hk,by rw [qb a,cmpT_eq0.1 (eq_of_beq hc)]⟩) fun hc=>⟨_,rfl,rfl,fun e=>?_⟩;rw [qb a] at e;exact qam.1 hc (cmpT_eq0.2 (qt e).symm));have hr:Ev (kab (kdd h (i:Int)) fuel 0) (Sum.elim (fun _=>∀ k,k<i->h.ya[k]?≠some h.ya[i]) fun e=>e=6/\∃ k,k<i/\h.ya[k]?=some h.ya[i]):=(by refine kkw (P:=fun k=>h.ya[k]?≠some h.ya[i]) i (by omega) (fun k hk _=>?_) (by simp only [kdd,kfj,qd]);have a:k<h.ya.length:=(by omega);have m:=f _ (qv a);simp only [kdd,kf1 hk,qe,kag,g1,qb a,qa];rw [k9c _ _ (by omega) (by omega),qa];refine kdk (fun hc=>⟨_,rfl,rfl,k,hk,by rw [qb a,cmpT_eq0.1 (eq_of_beq hc)]⟩) fun hc=>⟨_,rfl,rfl,fun e=>?_⟩;exact qam.1 hc (cmpT_eq0.2 (qt e).symm));obtain ⟨p,p1,p2⟩:=hp;obtain ⟨r,r1,r2⟩:=hr;have s:=ka1 i;simp only [kfw,kbq,kf1 hi,qe,kag,g1,qa,kzm _ _ (qa4 hi),kcs,kc9,p1,r1,s];cases p with
    | inl u=>
     cases r with
     | inl u=>exact .inl ⟨rfl,rfl⟩
     | inr e=>obtain ⟨_,k,hk,e⟩:=r2;exact absurd e (p2 k hk)
    | inr j=>
     obtain ⟨w,k,hk,e⟩:=p2;cases r with
     | inl u=>exact absurd e (r2 k hk)
     | inr e'=>
      obtain ⟨rfl,_⟩:=r2;simp only [qan,qa,qh w,qe];exact .inr ⟨_,rfl,rfl⟩
   obtain ⟨r,h1,g⟩:=knv (kfw h) (kbq h) h.ya.length (fun i=>(i:Int)) hs (.inl ()) (by simp only [kfw,kfj,qd]) (by simp only [kbq,kfj,qd]);exact h1.trans g.symm
  rw [e1]
 ·have e:(bif decide ((h.ya.length:Int)<1) then some true else some (decide ((64:Int)<(h.ya.length:Int))):Option Bool)=some true:=by rw [qf (show ¬ (h.ya.length:Int)<1 by omega),qh (show (64:Int)<(h.ya.length:Int) by omega)];rfl
  rw [e];simp only [qa,qe]
theorem k9r:∀ n,kkt n=kdm n
 | 0=>rfl
 | n+1=>by show km9 (kkt n)=kev (kdm n);rw [k9r n];rfl
theorem k4d:∀ n,kl3 n=ka7 n
 | 0=>rfl
 | n+1=>by show kov (kl3 n)=kcn (ka7 n);rw [k4d n];rfl
theorem kacz {l:La} {d:Saa} (hd:d.yb.length<=1000) {s:Int} {x:Dk} (b:krc l d.yb s x):∀ n,kgp n d x=kb4 n d x:=by
 induction b with
 | hole hx hk ht=>
  rename_i s x k h;intro n;cases n with
  | zero=>rfl
  | succ n=>
   have a:=khq hk;show kgn (kgp n) d x=kb3 (kb4 n) d x;unfold kgn kb3;rw [qh (show 0<x.hole by omega),qe,qe,qa,qh (show x.hole<=(d.yb.length:Int) by omega),qe];have e:∀ h,kke h=kd4 h:=fun h=>(by funext v;unfold kke kd4;rw [k4d]);refine kmq fun h _=>?_;rw [e h]
 | node hx hr hk ht hl ha ih=>
  rename_i s x k r;intro n;cases n with
  | zero=>rfl
  | succ n=>
   show kgn (kgp n) d x=kb3 (kb4 n) d x;unfold kgn kb3;rw [qf (show ¬ 0<x.hole by omega),qd,qd,qa,qd];have e:kkl d x (kgp n)=kd2 d x (kb4 n):=(by funext v;unfold kkl kd2;refine kxx (kmq fun y hy=>?_);obtain ⟨i0,hi⟩:=kpj hy;have a:=khq hi;rw [ih v.2.toNat y _ hi (qb (by omega)) n]);rw [e]
theorem k37 {d:Saa} (l:d.yb.length<=1000) (a:∀ h∈d.yb,h.ya.length<=1000) (f:∀ h∈d.yb,∀ t∈h.ya,t.size<=20):∀ (n:Nat) (x:Dk),x.nodes<=n->x.nodes<=1000->Ev (kb4 n d x) fun _=>True
 | 0,x,h,_=>by have:=x.nodes_pos;omega
 | n+1,x,h,hx=>by
  show Ev (kb3 (kb4 n) d x) _;unfold kb3;have o:=Dk.args_len x;refine klt (kdk (fun _=>⟨_,rfl,trivial⟩) fun _=>⟨_,rfl,trivial⟩) fun v hv=>kdk (fun g=>?_) fun g=>?_
  ·subst g;have p:0<x.hole/\x.hole<=(d.yb.length:Int):=by
    cases hd:decide (0<x.hole) with
    | false=>rw [hd] at hv;cases hv
    | true=>
     rw [hd] at hv;exact ⟨qay hd,qay (qt hv)⟩
   obtain ⟨k,q⟩:∃ k:Nat,x.hole=(k:Int)+1:=⟨(x.hole - 1).toNat,by omega⟩;have hk:k<d.yb.length:=(by omega);have c:=qv hk;rw [show w64 (x.hole - 1)=(k:Int) by rw [kje];omega,kag,qb hk,qa];refine klt (kpa (Q:=fun _=>True) d.yb[k].ya.length (fun i s=>s.2=(i:Int)) (by have:=a _ c;omega) rfl (fun i s hi e=>?_) fun s e=>?_) fun _ _=>⟨_,rfl,trivial⟩;obtain ⟨m,j⟩:=s;obtain rfl:j=(i:Int):=e;have r:=f _ c _ (qv hi);have:=a _ c;simp only [kd4,kf1 hi,qe,kag,qb hi,qa];rw [kxk fuel _ (qa4 (ka9 (by omega))) (by omega),qa];exact ⟨_,rfl,ka1 _⟩
   ·obtain ⟨m,j⟩:=s;obtain rfl:j=_:=e;exact kt3 m (by simp only [kd4,kfj,qd]) trivial
  ·refine klt (kpa (Q:=fun _=>True) x.args.length (fun i s=>s.2=(i:Int)) (by omega) rfl (fun i s hi e=>?_) fun s e=>?_) fun _ _=>⟨_,rfl,trivial⟩;obtain ⟨m,j⟩:=s;obtain rfl:j=(i:Int):=e;have u:=Dk.args_nodes (qv hi);simp only [kd2,kf1 hi,qe,kag,qb hi,qa];obtain ⟨v,h1,_⟩:=k37 l a f n x.args[i] (by omega) (by omega);rw [h1,qa];exact ⟨_,rfl,ka1 _⟩
   ·obtain ⟨m,j⟩:=s;obtain rfl:j=_:=e;exact kt3 m (by simp only [kd2,kfj,qd]) trivial
structure k05 (l:La) (d:Saa):Prop where
 good:k1x l
 checkP:kei l=some 0
 checkR:kbr l=some 0
 body:krc l d.yb (-1) d.yc
theorem kaah {l:La} {d:Saa} (hl:kot l) (hd:k7b d):∃ c,khv l d=some c/\kda l d=some c/\(c=0->k05 l d):=by
 have n:=hd.holes;have k:=hd.nodes;obtain ⟨c,g1,g2,g3⟩:=kabk l hl;have el:kk0 l d=kc4 l d:=by funext v;unfold kk0 kc4;refine kxx (kmq fun h f=>?_);rw [kag3 hl h (hd.sizes h (k8y f))]
 have key:khv l d=kda l d/\Ev (kda l d) fun c=>c=0->k05 l d:=by
  unfold khv kda;rw [g1,g2,el,k9r,qa,qa];cases hc:c != 0 with
  | true=>exact ⟨rfl,⟨_,rfl,fun h=>absurd h (qbc.1 hc)⟩⟩
  | false=>
   obtain rfl:c=0:=qae.1 hc;simp only [qd];cases o:decide ((6:Int)<(d.yb.length:Int)) with
   | true=>exact ⟨rfl,⟨_,rfl,fun h=>absurd h (by decide)⟩⟩
   | false=>
    simp only [qd];have g:Ev (kab (kc4 l d) fuel 0) (Sum.elim (fun _=>∀ i,i<d.yb.length->True) fun e=>e≠0):=(by refine kkw (P:=fun _=>True) (B:=fun e:Int=>e≠0) d.yb.length (by omega) (fun i hi _=>?_) (by simp only [kc4,kfj,qd]);simp only [kc4,kf1 hi,qe,kag,qb hi,qa];obtain ⟨c,k1,k2⟩:=kafk g2 d.yb[i] (hd.sizes _ (qv hi));rw [k1,qa];exact kdk (fun h=>⟨_,rfl,qbc.1 h⟩) fun h=>⟨_,rfl,rfl,trivial⟩);obtain ⟨q,q1,q2⟩:=g;rw [q1,qa,qa];cases q with
    | inr e=>exact ⟨rfl,⟨_,rfl,fun h=>absurd h q2⟩⟩
    | inl u=>
     simp only [qaa];obtain ⟨b,k1,k2⟩:=k59 l d (by omega) fuel d.yc (-1) (qa4 (ka9 (by omega))) (by omega);rw [k1,qa,qa];cases j:b != 0 with
     | true=>exact ⟨rfl,⟨_,rfl,fun h=>absurd h (qbc.1 j)⟩⟩
     | false=>
      have a:=k2 (qae.1 j);simp only [qd];rw [kacz (by omega) a];refine ⟨rfl,?_⟩;obtain ⟨v,v1,_⟩:=k37 (d:=d) (by omega) (fun h f=>by have:=hd.terms h f;omega) hd.sizes fuel d.yc (qa4 (ka9 (by omega))) (by omega);rw [v1,qa];exact kdk (fun _=>⟨_,rfl,fun h=>absurd h (by decide)⟩) fun _=>⟨_,rfl,fun _=>⟨g3 rfl,g1,g2,a⟩⟩
 obtain ⟨e,v,h1,m⟩:=key;exact ⟨v,e.trans h1,h1,m⟩
theorem rule0 {l:La} (hl:kot l) (h:kbr l=some 0):∀ r∈l.rules,kbw l r=some 0:=by
 obtain ⟨b,n1,n2⟩:=kvc l.name hl.name;obtain ⟨r1,i1,i2,i3⟩:=ky6 l hl.inputs;obtain ⟨r2,s1,s2,s3⟩:=kw8 l hl.symbols hl.names;obtain ⟨r3,t1,t2,t3,t4⟩:=k87 l hl;have f:r3 = .inl ():=by
  unfold kbr at h;rw [n2,qa] at h;rcases kdu h with ⟨_,h⟩ | ⟨_,h⟩;cases h;rcases kdu h with ⟨_,h⟩ | ⟨_,h⟩;cases h;rw [i2,qa] at h;cases r1 with
  | inr e=>exact absurd (qt h) (i3 e rfl)
  | inl u=>
   simp only [qaa] at h;obtain ⟨v,_,h⟩:=kdh h;rcases kdu h with ⟨_,h⟩ | ⟨_,h⟩;cases h;rw [s2,qa] at h;cases r2 with
   | inr e=>exact absurd (qt h) (s3 e rfl)
   | inl u=>
    simp only [qaa] at h;rcases kdu h with ⟨_,h⟩ | ⟨_,h⟩;cases h;rw [t2,qa] at h;cases r3 with
    | inr e=>exact absurd (qt h) (t4 e rfl)
    | inl u=>rfl
 subst f;intro r hr;obtain ⟨i,hi,rfl⟩:=qaf.1 hr;have e1:l.rules[i]?=some l.rules[i]:=qb hi;have hst:=kaek (step:=kap l) l.rules.length hl.rules t2 i hi (fun j d s hs=>?_) fun j d hs=>?_
 rotate_left
 ·unfold kap at hs;rw [kf1 d,qe,kag,qb d,qa] at hs;obtain ⟨c,_,a⟩:=kdh hs;rcases kdu a with ⟨_,a⟩ | ⟨_,a⟩;cases a
  ·obtain ⟨v,_,a⟩:=kdh a;cases v with
   | inl u=>cases a;exact ka1 _ (h:=(by have:=hl.rules;omega))
   | inr e=>cases a
 ·unfold kap at hs;rw [kf1 d,qe,kag,qb d,qa] at hs;obtain ⟨c,_,a⟩:=kdh hs;rcases kdu a with ⟨_,a⟩ | ⟨_,a⟩;cases a
  ·obtain ⟨v,_,a⟩:=kdh a;cases v with
   | inl u=>cases a
   | inr e=>cases a
 unfold kap at hst;rw [kf1 hi,qe,kag,e1,qa] at hst;obtain ⟨s,hst⟩:=hst;obtain ⟨c,h1,a⟩:=kdh hst;rcases kdu a with ⟨_,a⟩ | ⟨g,a⟩;cases a
 ·rw [qae.1 g] at h1;exact h1
structure RuP (l:La) (r:Ru):Prop where
 kind:r.kind=1\/r.kind=2\/r.kind=3
 inp:r.kind=1->0<=r.input/\r.input<=100
 const:r.kind=2->kah fuel r.const=some 0
 args:r.kind=3->r.args≠[]/\r.op.size<=100
theorem kajd:opNames.all (fun n=>decide (n.size<=100) && (kb8 n).all fun o=>decide (1<=o.1.yd.length))=true:=by kernel_rfl
theorem kajy {l:La} (f:k1x l) {r:Ru} (hr:kyp r) (h:kbw l r=some 0):RuP l r:=by
 have hk:=(k4i hr h).kind;unfold kbw at h;obtain ⟨b1,h1,h⟩:=kdh h;rcases kdu h with ⟨_,h⟩ | ⟨g,h⟩;cases h;obtain ⟨b2,d,h⟩:=kdh h;rcases kdu h with ⟨_,h⟩ | ⟨j,h⟩;cases h;obtain ⟨x,k,h⟩:=kdh h;rcases hk with hk | hk | hk;refine ⟨.inl hk,fun _=>?_,fun e=>by omega,fun e=>by omega⟩;rw [show (r.kind == 1)=true by rw [hk];rfl,qe] at h;obtain ⟨b,g1,g2⟩:=kdh h;rcases kdu g2 with ⟨_,g2⟩ | ⟨i,g2⟩;cases g2;subst i;have a:=f.inputs;rcases kdu g1 with ⟨_,g1⟩ | ⟨q,g1⟩;cases g1;have q:=qav q;have q2:=qav (qt g1);omega
 ·refine ⟨.inr (.inl hk),fun e=>by omega,fun _=>?_,fun e=>by omega⟩;rw [show (r.kind == 1)=false by rw [hk];rfl,qd,show (r.kind == 2)=true by rw [hk];rfl,qe] at h;obtain ⟨c,g1,g2⟩:=kdh h;have hc:c=0:=by
   rcases kdu g2 with ⟨e,g2⟩ | ⟨e,g2⟩;cases g2;rfl
   ·exact qae.1 e
  obtain ⟨c',f1,f2,f3⟩:=kyf hr.2;rw [f2] at g1;cases g1;rw [<- hc];exact f1
 ·refine ⟨.inr (.inr hk),fun e=>by omega,fun e=>by omega,fun _=>?_⟩;rw [show (r.kind == 1)=false by rw [hk];rfl,qd,show (r.kind == 2)=false by rw [hk];rfl,qd] at h;obtain ⟨c,g1,g2⟩:=kdh h;cases g2;unfold kcx at g1;obtain ⟨o,f1,g1⟩:=kdh g1;rcases kdu g1 with ⟨_,g1⟩ | ⟨f2,g1⟩;cases g1;rcases kdu g1 with ⟨_,g1⟩ | ⟨f3,g1⟩;cases g1;by_cases a:r.op∈opNames;have:=qp.1 kajd r.op a;rw [f1,qo] at this;have h1:=qay this.1;have g:1<=o.1.yd.length:=qay this.2;have d:=qae.1 f3;exact ⟨fun e=>by rw [e,qat] at d;omega,h1⟩
  ·rw [(kwx _ a).2] at f1;cases f1;cases f2
def jnT (f:Nat->List UInt8):Nat->List UInt8
 | 0=>[]
 | k+1=>jnT f k++((if k=0 then [] else [44,32])++f k)
def pnT (f:Nat->List UInt8) (k:Nat):List UInt8:=if k=0 then [] else 40::jnT f k
theorem kadw (f:Nat->List UInt8) (k:Nat):pnT f (k+1)=pnT f k++((if k=0 then [40] else [44,32])++f k):=by
 unfold pnT;rw [ql (by omega)];by_cases h:k=0;subst h;simp [jnT]
 ·rw [ql h,ql h];simp only [jnT,ql h];simp
def txD (l:La) (n:Nat) (x:Dk):List UInt8:=match kcy n l x with
 | some b=>b.data.toList
 | none=>[]
theorem kacy {l:La} {d:Saa} (hl:kot l) (g:k05 l d) {k:Nat} {r:Ru} (hk:l.rules[k]?=some r) (j:r.kind≠3):ki9 l r.symbol (Tm.mk (k:Int) [])=some 0:=by
 have f:=g.good.good r (qu hk);have h:(Tm.mk (k:Int) []).size<=1000:=by show 0+1<=1000;omega
 obtain ⟨c,h1,m⟩:=k34 g.checkR r.symbol (Tm.mk (k:Int) []) h;have hc:c=0:=m.2 ⟨f.sym0,f.sym1,by show 0+1<=32;omega, .mk (k:=k) (r:=r) rfl hk rfl (by show 0=_;rw [kaay f,f.noargs j];rfl) fun i a b e=>by cases e⟩;obtain ⟨c',e1,e2,_⟩:=k16 l r.symbol (Tm.mk (k:Int) []) hl h;rw [h1] at e2;cases e2;rw [e1,hc]
theorem kaf6 {l:La} {d:Saa} (hl:kot l) (B:k05 l d) (R:d.yb.length<=1000):∀ (n:Nat) (x:Dk) (s:Int),x.nodes<=n->x.nodes<=1000->krc l d.yb s x ->
  ∃ T:List UInt8,kcy n l x=some (mkB T)/\T.length+2<=70000*x.nodes/\∀ acc:List UInt8,acc.length+70000*x.nodes<=1000000000->kf0 n (iB acc) l x=some (iB (acc++T))
 | 0,x,_,h,_,_=>by have:=x.nodes_pos;omega
 | n+1,x,s,h,hz,F=>by
  have P:=x.nodes_pos;show ∃ T:List UInt8,kft (kcy n) l x=some (mkB T)/\_/\∀ acc:List UInt8,_->kis (kf0 n) (iB acc) l x=_;unfold kft kis;cases F with
  | hole hx hk ht=>
   rename_i k h';have S:=khq hk;have G:=kw0 x.hole (by omega) (by omega);refine ⟨63::klw x.hole,?_,by simp only [qad];omega,fun acc ha=>?_⟩;rw [qh (show 0<x.hole by omega),qe,ku9 (by omega) (by omega),qa,show (⟨#[63]⟩:BA)=mkB [63] from rfl,kdx _ _ (by simp;omega)];rfl
   ·rw [qh (show 0<x.hole by omega),qe,k5f (by constructor <;> omega),qa,show (⟨#[63]⟩:BA)=mkB [63] from rfl,kdx _ _ (by simp;omega),qa,kkk rfl (by omega) (by simp;omega)];rfl
  | node hx hr hk ht H ha=>
   rename_i k r;have m:=qu hk;have hg:=B.good.good r m;have g:=kajy B.good (hl.wide r m) (rule0 hl B.checkR r m);rw [qf (show ¬ 0<x.hole by omega),qd,hr,kag,hk,qa];simp only [qd,qa];by_cases o:r.kind=3
   ·obtain ⟨C,I⟩:=g.args o;have U:=Dk.args_len x;have C:0<x.args.length:=(by rw [H];exact List.length_pos_iff.2 C);have V:=Dk.nodes_eq x;have u:∀ (i:Nat) (y:Dk),x.args[i]?=some y->kcy n l y=some (mkB (txD l n y))/\(txD l n y).length+2<=70000*y.nodes/\∀ acc:List UInt8,acc.length+70000*y.nodes<=1000000000->kf0 n (iB acc) l y=some (iB (acc++txD l n y)):=fun i y hy=>by have X:=Dk.args_nodes (qu hy);have hi:=khq hy;obtain ⟨T,t1,t2,t3⟩:=kaf6 hl B R n y _ (by omega) (by omega) (ha i y _ hy (qb (show i<r.args.length by omega)));have:txD l n y=T:=(by unfold txD;rw [t1];exact klo T);rw [this];exact ⟨t1,t2,t3⟩
    let f:Nat->List UInt8:=fun i=>txD l n (x.args.getD i (Dk.mk 0 0 []))
    have J:∀ (i:Nat) (hi:i<x.args.length),f i=txD l n x.args[i]:=fun i hi=>(by show txD l n (x.args.getD i _)=_;rw [List.getD,qb hi];rfl);have v:∀ i,i<=x.args.length->(jnT f i).length<=70000*Dk.nodesL (x.args.take i):=fun i=>by
     induction i with
     | zero=>intro _;simp [jnT]
     | succ i ih=>
      intro hi;have h1:=ih (by omega);have q:=(u i _ (qb (show i<x.args.length by omega))).2.1;rw [<- J i (by omega)] at q;rw [Dk.nodesL_take (show i<x.args.length by omega)];simp only [jnT,qy];split;rw [qat];omega
      ·simp only [qad,qat];omega
    have t:r.op=mkB r.op.data.toList:=k5m (by rw [klo]);have Q:r.op.data.toList.length<=100:=(by rw [<- kbo];exact I);have K:=v x.args.length (qw _);rw [List.take_length] at K;refine ⟨r.op.data.toList++(40::(jnT f x.args.length++[41])),?_,by simp only [qy,qad,qat];omega,fun acc D=>?_⟩
    ·rw [show (r.kind == 1)=false by rw [o];rfl,qd,show (r.kind == 2)=false by rw [o];rfl,qd,show cat r.op (⟨#[40]⟩:BA)=some (mkB (r.op.data.toList++[40])) by rw [t,klo];exact kdx _ _ (by simp;omega),qa];have w:Ev (kab (kfo l x (kcy n)) fuel (mkB (r.op.data.toList++[40]),0)) (·=mkB (r.op.data.toList++(40::jnT f x.args.length))):=by
      refine kpa x.args.length (fun i s=>s=(mkB (r.op.data.toList++(40::jnT f i)),(i:Int))) (by omega) (by simp [jnT]) (fun i s hi e=>?_) fun s e=>?_
      ·subst e;have L:=v i (by omega);have E:=Dk.nodesL_take_le x.args i;obtain ⟨c1,c2,_⟩:=u i _ (qb hi);have Y:=Dk.args_nodes (qv hi);rw [<- J i hi] at c1 c2;simp only [kfo,kf1 hi,qe,kag,qb hi,qa,c1];have j:(bif decide (0<(i:Int)) then Option.bind (cat (mkB (r.op.data.toList++(40::jnT f i))) (⟨#[44,32]⟩:BA)) fun v2=>some v2 else some (mkB (r.op.data.toList++(40::jnT f i))):Option BA)=some (mkB (r.op.data.toList++(40::(jnT f i++(if i=0 then [] else [44,32]))))):=by
        by_cases h0:i=0;subst h0;simp
        ·rw [qh (show (0:Int)<(i:Int) by omega),qe,ql h0,show (⟨#[44,32]⟩:BA)=mkB [44,32] from rfl,kdx _ _ (by simp only [qy,qad,qat];omega)];simp
       rw [j,qa,kdx _ _ (by simp only [qy,qad];split <;> (simp only [qad,qat];omega)),qa,ka1 _];refine ⟨_,rfl,?_⟩;show _=_;simp only [jnT];simp
      ·subst e;exact kt3 (mkB (r.op.data.toList++(40::jnT f x.args.length))) (by simp only [kfo,kfj,qd]) rfl
     rw [w.eq,qa,show (⟨#[41]⟩:BA)=mkB [41] from rfl,kdx _ _ (by simp only [qy,qad,qat];omega)];simp
    ·rw [show (r.kind != 3)=false by rw [o];rfl,qd,kkk t (by omega) (by omega),qa];have w:Ev (kab (kig l x (kf0 n)) fuel (0,iB (acc++r.op.data.toList))) (·=iB (acc++r.op.data.toList++pnT f x.args.length)):=by
      refine kpa x.args.length (fun i s=>s=((i:Int),iB (acc++r.op.data.toList++pnT f i))) (by omega) (by simp [pnT]) (fun i s hi e=>?_) fun s e=>?_
      ·subst e;have L:=v i (by omega);have E:=Dk.nodesL_take_le x.args (i+1);rw [Dk.nodesL_take hi] at E;have M:(pnT f i).length<=(jnT f i).length+1:=(by unfold pnT;split <;> simp);obtain ⟨c1,c2,c3⟩:=u i _ (qb hi);rw [<- J i hi] at c2 c3;simp only [kig,kf1 hi,qe,kag,qb hi,qa];have j:idx ([(⟨#[40]⟩:BA),(⟨#[44,32]⟩:BA)]:List BA) (imin (i:Int) 1)=some (mkB (if i=0 then [40] else [44,32])):=by
        by_cases h0:i=0;subst h0;rfl
        ·rw [ql h0,show imin (i:Int) 1=1 by unfold imin;split <;> omega];rfl
       rw [j,qa,kkk rfl (by simp only [qy];omega) (by split <;> simp),qa,c3 _ (by simp only [qy];split <;> (simp only [qad,qat];omega)),qa,ka1 _];refine ⟨_,rfl,?_⟩;show _=_;rw [kadw];simp
      ·subst e;exact kt3 (iB (acc++r.op.data.toList++pnT f x.args.length)) (by simp only [kig,kfj,qd]) rfl
     have M:(pnT f x.args.length).length<=(jnT f x.args.length).length+1:=(by unfold pnT;split <;> simp);rw [w.eq,qa,kq2 (acc++r.op.data.toList++pnT f x.args.length) 41 41 (by simp only [qy];omega),qa];unfold pnT;rw [ql (by omega)];simp
   ·have N:∃ T:List UInt8,(bif (r.kind == 1) then (Option.bind (kbe fuel r.input) fun v4=>(Option.bind (cat (⟨#[105,110]⟩:BA) v4) fun v5=>(some v5))) else (Option.bind (ke7 r.const) fun v6=>(some v6.1)):Option BA)=some (mkB T)/\kjd r=some (mkB T)/\T.length<=60000:=by
     unfold kjd;rcases g.kind with h1 | q | z
     ·obtain ⟨q1,q2⟩:=g.inp h1;have G:=kw0 r.input (by omega) (by omega);refine ⟨105::110::klw r.input,?_,?_,by simp only [qad];omega⟩;rw [show (r.kind == 1)=true by rw [h1];rfl,qe,ku9 (by omega) (by omega),qa,show (⟨#[105,110]⟩:BA)=mkB [105,110] from rfl,kdx _ _ (by simp;omega)];rfl
      ·rw [show (r.kind == 1)=true by rw [h1];rfl,qe,k5f (by constructor <;> omega),qa,show (⟨#[105,110]⟩:BA)=mkB [105,110] from rfl,kdx _ _ (by simp;omega)];rfl
     ·obtain ⟨p1,p2,p3⟩:=k8d (hl.wide r m).2 (g.const q);refine ⟨kax r.const,?_,?_,kadm p1⟩;rw [show (r.kind == 1)=false by rw [q];rfl,qd,p3];rfl
      ·rw [show (r.kind == 1)=false by rw [q];rfl,qd,p2];rfl
     ·exact absurd z o
    obtain ⟨T,t1,t2,t3⟩:=N;refine ⟨T,?_,by omega,fun acc D=>?_⟩
    ·rw [<- t1];rcases g.kind with h1 | q | z;rw [show (r.kind == 1)=true by rw [h1];rfl];rfl;rw [show (r.kind == 1)=false by rw [q];rfl,show (r.kind == 2)=true by rw [q];rfl];rfl
     ·exact absurd z o
    ·rw [show (r.kind != 3)=true by rw [qbc];exact o,qe];have A:km2 (k:Int) ([]:List Tm)=some (Tm.mk (k:Int) []):=rfl;rw [A,qa];have O:kin l (Tm.mk (k:Int) [])=some (mkB T,0):=(by have Z:=khq hk;unfold kin;rw [B.checkP,qa];simp only [show ((0:Int) != 0)=false from rfl,qd,Tm.rule];have p:(bif decide ((Tm.mk (k:Int) []).rule<0) then some true else some (decide ((l.rules.length:Int)<=(Tm.mk (k:Int) []).rule)):Option Bool)=some false:=(by rw [qf (show ¬ (Tm.mk (k:Int) []).rule<0 by show ¬ (k:Int)<0;omega),qf (show ¬ (l.rules.length:Int)<=(Tm.mk (k:Int) []).rule by show ¬ (l.rules.length:Int)<=(k:Int);omega)];rfl);have a:=p;simp only [Tm.rule] at a;rw [a,qa,qd,kag,hk,qa,kacy hl B hk o,qa];simp only [show ((0:Int) != 0)=false from rfl,qd];have hw:kg2 fuel ([]:List Int) l (Tm.mk (k:Int) [])=some (iB T):=(by rw [knx];show khw (kg2 18446744073709551615) ([]:List Int) l (Tm.mk (k:Int) [])=_;unfold khw;simp only [Tm.rule];rw [kag,hk,qa,show (r.kind != 3)=true by rw [qbc];exact o,qe,t2,qa,show ([]:List Int)=iB [] from rfl,kkk rfl (by simp) (by omega)];rfl);rw [hw,qa];show some (toBA (iB T),0)=_;rw [kx4]);rw [O,qa,kkk rfl (by omega) (by omega)];rfl
theorem kzo (l:La) (d:Saa) (hl:kot l):kew l d=some true:=by
 refine Ev.eq ?_;unfold kew;have aw:kii=some true:=rfl;have a:Ev (Option.bind (kf2 l) fun v1=>(bif (!v1) then (some (true)) else (Option.bind (ke9 d) fun v2=>(some (!v2)))):Option Bool) fun v=>v=false->k7b d:=by
  have e:Ev (kf2 l) fun _=>True:=by unfold kf2;exact klt (kdk (fun _=>⟨_,rfl,trivial⟩) fun _=>⟨_,rfl,trivial⟩) fun _ _=>⟨_,rfl,trivial⟩
  obtain ⟨b,f,i⟩:=kac9 d;refine klt e fun _ _=>kdk (fun _=>⟨_,rfl,fun h=>by cases h⟩) fun _=>?_;rw [f,qa];exact ⟨_,rfl,fun h=>i (by simpa using h)⟩
 obtain ⟨g,n,j⟩:=a;rw [n,qa,aw];refine kdk (fun _=>⟨_,rfl,rfl⟩) fun k=>?_;have hd:=j k;obtain ⟨c,c1,c2,c3⟩:=kaah hl hd;have m:∃ s:BA,kjy l d=some (s,c)/\kgm l d=some (s,c):=by
  unfold kjy kgm;rw [c1,c2,qa,qa];cases hc:c != 0 with
  | true=>exact ⟨_,rfl,rfl⟩
  | false=>
   obtain rfl:c=0:=qae.1 hc;have f:=c3 rfl;have o:=hd.nodes;obtain ⟨T,t1,t2,t3⟩:=kaf6 hl f (by have:=hd.holes;omega) fuel d.yc (-1) (qa4 (ka9 (by omega))) (by omega) f.body;refine ⟨mkB T,?_,?_⟩;simp only [qd];rw [show ([]:List Int)=iB [] from rfl,t3 [] (by simp;omega),qa];show some (toBA (iB T),0)=_;rw [kx4]
   ·simp only [qd];rw [t1];rfl
 obtain ⟨s,s1,s2⟩:=m;rw [s1,s2,c1,c2];simp only [qa];rw [show (c == c)=true from beq_self_eq_true c,qe,show (s.toList == s.toList)=true from beq_self_eq_true _,qe,qe];exact ⟨_,rfl,rfl⟩
open Go Go.RowKit Go.ChangeShapes Go.WideShapes Go.ChangeAt Go.Proofs.Tryz
theorem k12 {n:Int} (h:(Lit.int .i64 n).wf=true):kg9 n:=by simpa [Lit.wf,IntKind.min,IntKind.max,IntKind.signed,IntKind.bits,kg9] using h
variable {H:Type} {enc:TypeId×Value->H} {w:World} {base:Nat} {spare:Nat->Bool} {held:Bool}
theorem cells_ty:prog.cellsOf 3=1/\prog.cellsOf 2=1/\prog.cellsOf 9=1/\prog.cellsOf 22=1/\prog.cellsOf 74=1/\prog.cellsOf 23=1/\prog.cellsOf 24=1 /\
  prog.cellsOf 76=4/\prog.cellsOf 73=2/\prog.cellsOf 78=9/\prog.cellsOf 26=4:=⟨by kernel_rfl,by kernel_rfl,by kernel_rfl,by kernel_rfl,by kernel_rfl,by kernel_rfl,by kernel_rfl,by kernel_rfl,by kernel_rfl,by kernel_rfl,by kernel_rfl⟩
theorem ku3 {fuel:Nat} {cs:List Value} {x:DataW H×List MemPlace} (h:DataW.trod enc prog w base spare held fuel 9 cs=some x):∃ s,cs=[.string s]/\kus s:=by obtain ⟨s,hs,_,hl⟩:=DataW.trod_string underlying9 h;exact ⟨s,hs,by unfold maxLen at hl;exact hl⟩
theorem kkd {fuel:Nat} {cs:List Value} {x:DataW H×List MemPlace} (h:DataW.trod enc prog w base spare held fuel 3 cs=some x):∃ n,cs=[.int .i64 n]/\kg9 n:=by obtain ⟨n,hn,_,a⟩:=DataW.trod_int underlying3 h;exact ⟨n,hn,k12 a⟩
theorem kacm {fuel:Nat} {cs:List Value} {x:DataW H×List MemPlace} (h:DataW.trod enc prog w base spare held fuel 2 cs=some x):∃ n,cs=[.int .i64 n]/\kg9 n:=by obtain ⟨n,hn,_,a⟩:=DataW.trod_int underlying2 h;exact ⟨n,hn,k12 a⟩
theorem k1d {fuel:Nat} {cs:List Value} {x:DataW H×List MemPlace} (h:DataW.trod enc prog w base spare held fuel 22 cs=some x):∃ v ns,cs=[v]/\Ints Any w v ns:=
 kns IntR 1 underlying22 cells_ty.1 h fun n cs' y _ hy=>by obtain ⟨k,h1,a⟩:=kkd hy;exact ⟨k,h1,a⟩
theorem k92:∀ (fuel:Nat) (cs:List Value) (x:DataW H×List MemPlace),DataW.trod enc prog w base spare held fuel 76 cs=some x->∃ t,RepVa Any w cs t:=by
 obtain ⟨z1,z2,z3,z4,z5,z6,z7,z8,z9,z10,z11⟩:=cells_ty;intro fuel
 induction fuel using Nat.strongRecOn with
 | _ fuel ih=>
  intro cs x h;obtain ⟨xs,n,f,_,a,c,b⟩:=DataW.trod_struct underlying76 h;rw [z8] at a
  match cs,a with
  | [c0,c1,c2,c3],_=>
   have h0:=b 0 _ rfl;have h1:=b 1 _ rfl;have d:=b 2 _ rfl;have e:=b 3 _ rfl;rw [qb (by rw [c];decide)] at h0 h1 d e;obtain ⟨t,e0,ht⟩:=kkd h0;obtain ⟨m,e1,hm⟩:=kacm h1;obtain ⟨s,e2,hs⟩:=ku3 d;obtain ⟨v,ts,e3,g⟩:=kns (RepVa Any w) 4 underlying74 z8 e fun k cs' y hk hy=>ih k (by omega) cs' y hy;simp [z1,z2,z3,z4,z5,z6,z7,z8] at e0 e1 e2 e3;subst e0 e1 e2 e3;exact ⟨.mk t m s ts,RepVa.of ht hm hs g⟩
theorem k8e {fuel:Nat} {cs:List Value} {x:DataW H×List MemPlace} (h:DataW.trod enc prog w base spare held fuel 73 cs=some x):∃ t,k4y Any w cs t:=by
 obtain ⟨z1,z2,z3,z4,z5,z6,z7,z8,z9,z10,z11⟩:=cells_ty;obtain ⟨xs,n,d,_,a,b,c⟩:=DataW.trod_struct underlying73 h;rw [z9] at a
 match cs,a with
 | [c0,c1],_=>
  have h0:=c 0 _ rfl;have h1:=c 1 _ rfl;rw [qb (by rw [b];decide)] at h0 h1;obtain ⟨s,e0,hs⟩:=ku3 h0;obtain ⟨t,e1,ht⟩:=kkd h1;simp [z1,z2,z3,z4,z5,z6,z7,z8] at e0 e1;subst e0 e1;exact ⟨⟨s,t⟩,rfl,hs,ht⟩
theorem kach {fuel:Nat} {cs:List Value} {x:DataW H×List MemPlace} (h:DataW.trod enc prog w base spare held fuel 78 cs=some x):∃ t,k4u Any w cs t:=by
 obtain ⟨z1,z2,z3,z4,z5,z6,z7,z8,z9,z10,z11⟩:=cells_ty;obtain ⟨xs,n,m,_,d,f,e⟩:=DataW.trod_struct underlying78 h;rw [z10] at d
 match cs,d with
 | [c0,c1,c2,c3,c4,c5,c6,c7,c8],_=>
  have h0:=e 0 _ rfl;have h1:=e 1 _ rfl;have i:=e 2 _ rfl;have j:=e 3 _ rfl;have k:=e 4 _ rfl;have l:=e 5 _ rfl;rw [qb (by rw [f];decide)] at h0 h1 i j k l;obtain ⟨a,e0,ha⟩:=kkd h0;obtain ⟨b,e1,o⟩:=kkd h1;obtain ⟨c,e2,hc⟩:=kkd i;obtain ⟨v,hv⟩:=k92 _ _ _ j;obtain ⟨s,e4,hs⟩:=ku3 k;obtain ⟨u,ns,e5,g⟩:=k1d l;simp [z1,z2,z3,z4,z5,z6,z7,z8] at e0 e1 e2 e4 e5 hv;subst e0 e1 e2 e4 e5;exact ⟨⟨a,b,c,v,s,ns⟩,c3,c4,c5,c6,_,rfl,ha,o,hc,hs,hv,g⟩
theorem k4n {fuel:Nat} {cs:List Value} {x:DataW H×List MemPlace} (h:DataW.trod enc prog w base spare held fuel 26 cs=some x):∃ t,kagp Any w cs t:=by
 obtain ⟨z1,z2,z3,z4,z5,z6,z7,z8,z9,z10,z11⟩:=cells_ty;obtain ⟨xs,n,j,_,a,c,b⟩:=DataW.trod_struct underlying26 h;rw [z11] at a
 match cs,a with
 | [c0,c1,c2,c3],_=>
  have h0:=b 0 _ rfl;have h1:=b 1 _ rfl;have g:=b 2 _ rfl;have i:=b 3 _ rfl;rw [qb (by rw [c];decide)] at h0 h1 g i;obtain ⟨s,e0,hs⟩:=ku3 h0;obtain ⟨v1,n1,e1,d⟩:=k1d h1;obtain ⟨v2,n2,e2,e⟩:=kns (k4y Any w) 2 underlying23 z9 g fun k cs' y hk hy=>k8e hy;obtain ⟨v3,n3,e3,f⟩:=kns (k4u Any w) 9 underlying24 z10 i fun k cs' y hk hy=>kach hy;simp [z1,z2,z3,z4,z5,z6,z7,z8] at e0 e1 e2 e3;subst e0 e1 e2 e3;exact ⟨⟨s,n1,n2,n3⟩,_,_,_,rfl,hs,d,e,f⟩
theorem k2z {r:Reach} {b0:Nat} {v:Value} {d:DataW H} {p:List MemPlace} (hv:Value.okWide prog w r b0 26 v) (h:DataW.Trod enc prog w base spare held 26 v d p):∃ t,LaV Any w v t:=by obtain ⟨cs,rfl,a⟩:=okWide_struct underlying26 hv;obtain ⟨fuel,b⟩:=h;obtain ⟨t,ht⟩:=k4n b;exact ⟨t,cs.toList,by simp,by simpa [Value.cells] using ht⟩
theorem kaci {n:Int} (h:(Lit.int .i64 n).wf=true):kg9 n:=by simpa [Lit.wf,IntKind.min,IntKind.max,IntKind.signed,IntKind.bits,kg9] using h
theorem kvl:prog.cellsOf 47=2:=by kernel_rfl
theorem kade:prog.cellsOf 3=1:=by kernel_rfl
theorem k77:prog.cellsOf 42=1:=by kernel_rfl
theorem kads:∀ (fuel:Nat) (cs:List Value) (x:DataW H×List MemPlace),DataW.trod enc prog w base spare held fuel 47 cs=some x->∃ t,RepTm Any w cs t:=by
 intro fuel
 induction fuel using Nat.strongRecOn with
 | _ fuel ih=>
  intro cs x h;obtain ⟨xs,n,i,_,a,b,g⟩:=DataW.trod_struct underlying47 h;rw [kvl] at a
  match cs,a with
  | [c0,c1],_=>
   have h0:=g 0 _ rfl;have h1:=g 1 _ rfl;have e0:xs[0]?=some (xs[0]'(by rw [b];decide)):=qb _;have e1:xs[1]?=some (xs[1]'(by rw [b];decide)):=qb _;rw [e0] at h0;rw [e1] at h1;obtain ⟨r,c,_,d⟩:=DataW.trod_int underlying3 h0;obtain ⟨v,ts,hv,hs⟩:=kns (RepTm Any w) 2 underlying42 kvl h1 fun m cs' y hm hy=>ih m (by omega) cs' y hy;have e:c0 = .int .i64 r:=(by simpa [kade] using c);have f:c1=v:=(by simpa [k77] using hv);subst e f;exact ⟨.mk r ts,RepTm.of (kaci d) hs⟩
open Go Go.RowKit Go.Proofs.Tryz
def CRw (w:World) (cs:List Value) (x:FV) (size:Nat):Prop:=x.cells.length=size/\(∀ y∈x.cells,y.single=true)/\∀ (j:Nat) (u:Value) (y:FV),cs[j]?=some u->x.cells[j]?=some y->RF Any w u y
theorem knz {cs:List Value} (xs:List FV) (h:∀ (j:Nat) (y:FV),xs[j]?=some y->y.single=true/\∀ u,cs[j]?=some u->RF Any w u y) (hl:cs.length=xs.length:=by rfl):CRw w cs (.agg xs) xs.length:=by refine ⟨rfl,fun y hy=>?_,fun j u y a hy=>(h j y hy).2 u a⟩;obtain ⟨j,b⟩:=qbl.1 hy;exact (h j y b).1
theorem k8p {v:Value} {ns:List Int} (h:Ints Any w v ns):RF Any w v (eL 1 eI ns):=
 krd (R:=IntR) _ _ h fun cs x _ hx=>kaj1 hx.1 rfl
theorem kagh:∀ (x:Va) (cs:List Value),RepVa Any w cs x->CRw w cs (eVaR x) 4/\inV x:=by
 refine Va.ind fun t n s l ih=>?_;intro cs h;obtain ⟨v,rfl,ht,hn,hs,hv⟩:=h.form;have c:RF Any w v (.lst 4 l.length (ku8 l)):=by have:=krd eVaR 4 hv fun cs x hx hr=>(ih x hx cs hr).1;rw [kz6];have e:eL 4 eVaR l = .lst 4 l.length (l.map eVaR):=rfl;rw [<- e];exact this
 refine ⟨knz [eI t,eI n,eS s, .lst 4 l.length (ku8 l)] fun j y hy=>?_,?_⟩
 ·match j with
  | 0=>simp at hy;subst hy;exact ⟨rfl,fun u a=>by simp at a;subst a;exact .atom rfl⟩
  | 1=>simp at hy;subst hy;exact ⟨rfl,fun u a=>by simp at a;subst a;exact .atom rfl⟩
  | 2=>simp at hy;subst hy;exact ⟨rfl,fun u a=>by simp at a;subst a;exact .atom rfl⟩
  | 3=>simp at hy;subst hy;exact ⟨rfl,fun u a=>by simp at a;subst a;exact c⟩
  | j+4=>simp at hy
 ·obtain ⟨A,cap,_,h1,g,f⟩:=hv;have all:∀ x∈l,inV x:=fun x hx=>by obtain ⟨i,hi⟩:=qbl.1 hx;obtain ⟨b,o,cs,_,_,_,_,hr⟩:=f i x hi;exact (ih x hx cs hr).2
  have gen:∀ l:List Va,(∀ x∈l,inV x)->k1l 9223372036854775807 l/\kyb l:=fun l=>by
   induction l with
   | nil=>exact fun _=>⟨trivial,trivial⟩
   | cons y l ih=>exact fun h=>⟨⟨(h y (qx ..)).1,(ih fun z d=>h z (qk _ d)).1⟩,(h y (qx ..)).2,(ih fun z d=>h z (qk _ d)).2⟩
  obtain ⟨g1,g2⟩:=gen l all;exact ⟨⟨by omega,g1⟩,hs,g2⟩
theorem sy_cr {cs:List Value} {x:Sy} (h:k4y Any w cs x):CRw w cs (eSy x) 2:=by
 obtain ⟨rfl,hs,ht⟩:=h;refine knz [eS x.name,eI x.type] fun j y hy=>?_
 match j with
 | 0=>simp at hy;subst hy;exact ⟨rfl,fun u a=>by simp at a;subst a;exact .atom rfl⟩
 | 1=>simp at hy;subst hy;exact ⟨rfl,fun u a=>by simp at a;subst a;exact .atom rfl⟩
 | j+2=>simp at hy
theorem kagg {cs:List Value} {x:Ru} (h:k4u Any w cs x):CRw w cs (eRu x) 9/\kyp x:=by
 obtain ⟨c0,c1,c2,c3,v,rfl,h1,g,i,m,e,f⟩:=h;obtain ⟨k,kw⟩:=kagh _ _ e;obtain ⟨sy,kd,inp,c,op,ar⟩:=x;obtain ⟨t,n,s,l⟩:=c;obtain ⟨v',b,ht,hn,hs,hv⟩:=e.form;simp only [List.cons.injEq,and_true] at b;obtain ⟨rfl,rfl,rfl,rfl⟩:=b;have d:RF Any w c3 (eL 4 eVaR l):=krd eVaR 4 hv fun cs x hx hr=>(kagh x cs hr).1;refine ⟨knz [eI sy,eI kd,eI inp,eI t,eI n,eS s,eL 4 eVaR l,eS op,eL 1 eI ar] fun j y hy=>?_,(by obtain ⟨A,cap,_,q1,q2,_⟩:=f;exact qa1 q1 q2),kw⟩
 match j with
 | 0=>simp at hy;subst hy;exact ⟨rfl,fun u a=>by simp at a;subst a;exact .atom rfl⟩
 | 1=>simp at hy;subst hy;exact ⟨rfl,fun u a=>by simp at a;subst a;exact .atom rfl⟩
 | 2=>simp at hy;subst hy;exact ⟨rfl,fun u a=>by simp at a;subst a;exact .atom rfl⟩
 | 3=>simp at hy;subst hy;exact ⟨rfl,fun u a=>by simp at a;subst a;exact .atom rfl⟩
 | 4=>simp at hy;subst hy;exact ⟨rfl,fun u a=>by simp at a;subst a;exact .atom rfl⟩
 | 5=>simp at hy;subst hy;exact ⟨rfl,fun u a=>by simp at a;subst a;exact .atom rfl⟩
 | 6=>simp at hy;subst hy;exact ⟨rfl,fun u a=>by simp at a;subst a;exact d⟩
 | 7=>simp at hy;subst hy;exact ⟨rfl,fun u a=>by simp at a;subst a;exact .atom rfl⟩
 | 8=>simp at hy;subst hy;exact ⟨rfl,fun u a=>by simp at a;subst a;exact k8p f⟩
 | j+9=>simp at hy
theorem kac7 {cs:List Value} (xs:List FV) (hl:cs.length=xs.length) (h:CRw w cs (.agg xs) xs.length):RF Any w (.agg cs.toArray) (.agg xs):=
 .agg (by simpa using hl) (fun x hx=>h.2.1 x hx) fun i v x hv hx=>h.2.2 i v x (by simpa using hv) hx
theorem la_rf {v:Value} {x:La} (h:LaV Any w v x):RF Any w v (eLa x)/\kot x:=by
 obtain ⟨cs,rfl,v1,v2,v3,rfl,hn,h1,c,d⟩:=h;have r1:=k8p h1;have r2:RF Any w v2 (eL 2 eSy x.symbols):=krd eSy 2 c fun cs x _ hr=>sy_cr hr;have r3:RF Any w v3 (eL 9 eRu x.rules):=krd eRu 9 d fun cs x _ hr=>(kagg hr).1;refine ⟨kac7 [eS x.name,eL 1 eI x.inputs,eL 2 eSy x.symbols,eL 9 eRu x.rules] rfl (knz _ fun j y hy=>?_),?_⟩
 ·match j with
  | 0=>simp at hy;subst hy;exact ⟨rfl,fun u a=>by simp at a;subst a;exact .atom rfl⟩
  | 1=>simp at hy;subst hy;exact ⟨rfl,fun u a=>by simp at a;subst a;exact r1⟩
  | 2=>simp at hy;subst hy;exact ⟨rfl,fun u a=>by simp at a;subst a;exact r2⟩
  | 3=>simp at hy;subst hy;exact ⟨rfl,fun u a=>by simp at a;subst a;exact r3⟩
  | j+4=>simp at hy
 ·refine ⟨hn,?_,?_,?_,fun y hy=>?_,fun r hr=>?_⟩;obtain ⟨A,cap,_,q1,q2,_⟩:=h1;exact qa1 q1 q2;obtain ⟨A,cap,_,q1,q2,_⟩:=c;exact qa1 q1 q2;obtain ⟨A,cap,_,q1,q2,_⟩:=d;exact qa1 q1 q2;obtain ⟨A,cap,_,_,_,hx⟩:=c;obtain ⟨i,hi⟩:=qbl.1 hy;obtain ⟨b,o,cs,_,_,_,_,e⟩:=hx i y hi;exact e.2.1
  ·obtain ⟨A,cap,_,_,_,hx⟩:=d;obtain ⟨i,hi⟩:=qbl.1 hr;obtain ⟨b,o,cs,_,_,_,_,e⟩:=hx i r hi;exact (kagg e).2
theorem tm_cr:∀ (x:Tm) (cs:List Value),RepTm Any w cs x->CRw w cs (eTmR x) 2:=by
 refine Tm.ind fun r l ih=>?_;intro cs h;obtain ⟨v,rfl,hr,hv⟩:=h.form;have b:RF Any w v (.lst 2 l.length (kvm l)):=by have:=krd eTmR 2 hv fun cs x hx hr=>ih x hx cs hr;rw [kzy];have c:eL 2 eTmR l = .lst 2 l.length (l.map eTmR):=rfl;rw [<- c];exact this
 refine knz [eI r, .lst 2 l.length (kvm l)] fun j y hy=>?_
 match j with
 | 0=>simp at hy;subst hy;exact ⟨rfl,fun u a=>by simp at a;subst a;exact .atom rfl⟩
 | 1=>simp at hy;subst hy;exact ⟨rfl,fun u a=>by simp at a;subst a;exact b⟩
 | j+2=>simp at hy
theorem in_La {r:Reach} {b0:Nat} {v:Value} {d:DataW H} {p:List MemPlace} (hv:Value.okWide prog w r b0 26 v) (h:DataW.Trod enc prog w base spare held 26 v d p):∃ x,RF Any w v (eLa x)/\kot x:=by obtain ⟨x,hx⟩:=k2z hv h;exact ⟨x,la_rf hx⟩
open Go Go.RowKit Go.Proofs Go.Proofs.Tryz
variable {P:Program} {sp:Nat->Bool}
theorem kxh {nm:String} {cs:Array Value} {g:Nat} (h:w.var? P nm=some cs) (a:P.globalNamed nm=some g):∃ e d,w.heap[g]?=some (.cells cs e d):=by
 unfold World.var? at h;rw [a,qa] at h;split at h;rename_i cs' e d b;injection h with h;subst h;exact ⟨e,d,b⟩
 ·cases h
theorem kaeh {fuel:Nat} {t e:TypeId} {n:Nat} {k:IntKind} {f0 f1:Field} {cs:List Value} {zs:List (Int×Int)} {p:List MemPlace} (ht:P.underlying t=some (.array n e)) (A:P.underlying e=some (.struct #[f0,f1])) (h0:P.underlying f0.type=some (.int k)) (h1:P.underlying f1.type=some (.int k))
  (o0:f0.offset=0) (o1:f1.offset=1) (c0:P.cellsOf f0.type=1) (c1:P.cellsOf f1.type=1) (d:P.cellsOf e=2) (r:P.cellsOf t=2*n)
  (h:DataW.trod enc P w base sp held fuel t cs=some (.agg (zs.map fun z => .agg [.lit (.int k z.1), .lit (.int k z.2)]),p)):cs=zs.flatMap fun z=>[.int k z.1, .int k z.2]:=by
 obtain ⟨xs,m,_,hx,hl,B,s⟩:=DataW.trod_array ht h;have f:zs.map (fun z=>(.agg [.lit (.int k z.1), .lit (.int k z.2)]:DataW H))=xs.map (·.1):=by have:=qbg Prod.fst hx;simpa using this
 have g:zs.length=n:=by have:=qbg List.length f;simp at this;omega
 have one:∀ i (z:Int×Int),zs[i]?=some z->(cs.drop (i*2)).take 2=[.int k z.1, .int k z.2]:=fun i z j=>by
  have hi:i<n:=by rw [<- g];exact (qj.1 j).1
  have e1:=s i hi;rw [d] at e1;have o:xs[i]?=some xs[i]:=qb (by omega);rw [o] at e1;have hd:(xs[i]'(by omega)).1=(.agg [.lit (.int k z.1), .lit (.int k z.2)]:DataW H):=by have:=qbg (·[i]?) f;simp only [qr,j,o,qa9,qc] at this;exact this.symm
  obtain ⟨y0,y1,q,hy,c,t0,t1⟩:=Go.ChangeShapes.trod_struct2 A e1;rw [o0,c0] at t0;rw [o1,c1] at t1;obtain ⟨a,ha,rfl,_⟩:=DataW.trod_int h0 t0;obtain ⟨b,x,rfl,_⟩:=DataW.trod_int h1 t1;rw [hy] at hd;simp only [DataW.agg.injEq,List.cons.injEq,DataW.lit.injEq,Lit.int.injEq,true_and,and_true] at hd;obtain ⟨rfl,rfl⟩:=hd;rw [d] at c;generalize (cs.drop (i*2)).take 2=l at *
  match l,c with
  | [u,v],_=>
   simp at ha x;rw [ha,x]
 have key:∀ (zs:List (Int×Int)) (cs:List Value),cs.length=2*zs.length->(∀ i (z:Int×Int),zs[i]?=some z->(cs.drop (i*2)).take 2=[.int k z.1, .int k z.2])->cs=zs.flatMap fun z=>[.int k z.1, .int k z.2]:=by
  intro zs
  induction zs with
  | nil=>intro cs h _;exact qar (by simpa using h)
  | cons z zs ih=>
   intro cs h j
   match cs,h with
   | u::v::cs,h=>
    have e:=j 0 z rfl;simp at e;rw [qbd,<- ih cs (by simp at h;omega) fun i y hy=>by have:=j (i+1) y (by simpa using hy);rw [qa3,Nat.one_mul,<- List.drop_drop] at this;rw [show (u::v::cs).drop (i*2)=(u::v::cs).drop (i*2) from rfl,List.drop_drop] at this;rw [show i*2+2=(i*2)+1+1 from rfl,List.drop_succ_cons,List.drop_succ_cons] at this;exact this];rw [e.1,e.2];rfl
   | [_],h=>simp at h;omega
   | [],h=>simp at h
 exact key zs cs (by rw [hl,r,g]) one
theorem gl1_n : prog.globalNamed "math/bits.deBruijn32tab" = some 1 := by kernel_rfl
theorem gl1_t:(prog.globals[1]?).map (·.type)=some 230:=by kernel_rfl
theorem gl1_d:(Rows.laid_math_bits_deBruijn32tab:DataW Unit)=Lib.tabData .u8 gt1:=by kernel_rfl
theorem gl1_c:(gt1.map fun z=>Value.int .u8 z).toArray=gv1:=by kernel_rfl
theorem gl1_v {W : World} {cs : Array Value} {fuel : Nat} {p : List MemPlace} (hv : W.var? prog "math/bits.deBruijn32tab" = some cs) (h : DataW.trod (fun _ => ()) prog W 0 (fun _ => true) false fuel 230 cs.toList = some (Rows.laid_math_bits_deBruijn32tab, p)) : ∃ e d, W.heap[1]? = some (.cells gv1 e d) := by
 rw [gl1_d] at h;have:=Lib.cells_of_tab underlying230 underlying5 (by kernel_rfl) (by kernel_rfl) h;have e:cs=gv1:=by rw [<- gl1_c,<- this]
 rw [e] at hv;exact kxh hv gl1_n
theorem gl2_n : prog.globalNamed "math/bits.deBruijn64tab" = some 2 := by kernel_rfl
theorem gl2_t:(prog.globals[2]?).map (·.type)=some 231:=by kernel_rfl
theorem gl2_d:(Rows.laid_math_bits_deBruijn64tab:DataW Unit)=Lib.tabData .u8 gt2:=by kernel_rfl
theorem gl2_c:(gt2.map fun z=>Value.int .u8 z).toArray=gv2:=by kernel_rfl
theorem gl2_v {W : World} {cs : Array Value} {fuel : Nat} {p : List MemPlace} (hv : W.var? prog "math/bits.deBruijn64tab" = some cs) (h : DataW.trod (fun _ => ()) prog W 0 (fun _ => true) false fuel 231 cs.toList = some (Rows.laid_math_bits_deBruijn64tab, p)) : ∃ e d, W.heap[2]? = some (.cells gv2 e d) := by
 rw [gl2_d] at h;have:=Lib.cells_of_tab underlying231 underlying5 (by kernel_rfl) (by kernel_rfl) h;have e:cs=gv2:=by rw [<- gl2_c,<- this]
 rw [e] at hv;exact kxh hv gl2_n
theorem gl0_n : prog.globalNamed "internal/strconv.uint64pow10" = some 0 := by kernel_rfl
theorem gl0_t:(prog.globals[0]?).map (·.type)=some 221:=by kernel_rfl
theorem gl0_d:(Rows.laid_internal_strconv_uint64pow10:DataW Unit)=Lib.tabData .u64 gt0:=by kernel_rfl
theorem gl0_c:(gt0.map fun z=>Value.int .u64 z).toArray=gv0:=by kernel_rfl
theorem gl0_v {W : World} {cs : Array Value} {fuel : Nat} {p : List MemPlace} (hv : W.var? prog "internal/strconv.uint64pow10" = some cs) (h : DataW.trod (fun _ => ()) prog W 0 (fun _ => true) false fuel 221 cs.toList = some (Rows.laid_internal_strconv_uint64pow10, p)) : ∃ e d, W.heap[0]? = some (.cells gv0 e d) := by
 rw [gl0_d] at h;have:=Lib.cells_of_tab underlying221 underlying150 (by kernel_rfl) (by kernel_rfl) h;have e:cs=gv0:=by rw [<- gl0_c,<- this]
 rw [e] at hv;exact kxh hv gl0_n
theorem gl5_n : prog.globalNamed "unicode/utf8.acceptRanges" = some 5 := by kernel_rfl
theorem gl5_t:(prog.globals[5]?).map (·.type)=some 247:=by kernel_rfl
def gp5:List (Int×Int):=[(128,191),(160,191),(128,159),(144,191),(128,143),(0,0),(0,0),(0,0),(0,0),(0,0),(0,0),(0,0),(0,0),(0,0),(0,0),(0,0)]
theorem gl5_d:(Rows.laid_unicode_utf8_acceptRanges:DataW Unit) = .agg (gp5.map fun z => .agg [.lit (.int .u8 z.1), .lit (.int .u8 z.2)]):=by kernel_rfl
theorem gl5_c:(gp5.flatMap fun z=>[Value.int .u8 z.1,Value.int .u8 z.2]).toArray=gv5:=by kernel_rfl
theorem gl5_v {W : World} {cs : Array Value} {fuel : Nat} {p : List MemPlace} (hv : W.var? prog "unicode/utf8.acceptRanges" = some cs) (h : DataW.trod (fun _ => ()) prog W 0 (fun _ => true) false fuel 247 cs.toList = some (Rows.laid_unicode_utf8_acceptRanges, p)) : ∃ e d, W.heap[5]? = some (.cells gv5 e d) := by
 rw [gl5_d] at h;have:=kaeh underlying247 underlying246 underlying5 underlying5 rfl rfl (by kernel_rfl) (by kernel_rfl) (by kernel_rfl) (by kernel_rfl) h;have e:cs=gv5:=by rw [<- gl5_c,<- this]
 rw [e] at hv;exact kxh hv gl5_n
theorem gl4_n : prog.globalNamed "unicode/utf8.first" = some 4 := by kernel_rfl
theorem gl4_t:(prog.globals[4]?).map (·.type)=some 244:=by kernel_rfl
theorem gl4_d:(Rows.laid_unicode_utf8_first:DataW Unit)=Lib.tabData .u8 gt4:=by kernel_rfl
theorem gl4_c:(gt4.map fun z=>Value.int .u8 z).toArray=gv4:=by kernel_rfl
theorem gl4_v {W : World} {cs : Array Value} {fuel : Nat} {p : List MemPlace} (hv : W.var? prog "unicode/utf8.first" = some cs) (h : DataW.trod (fun _ => ()) prog W 0 (fun _ => true) false fuel 244 cs.toList = some (Rows.laid_unicode_utf8_first, p)) : ∃ e d, W.heap[4]? = some (.cells gv4 e d) := by
 rw [gl4_d] at h;have:=Lib.cells_of_tab underlying244 underlying5 (by kernel_rfl) (by kernel_rfl) h;have e:cs=gv4:=by rw [<- gl4_c,<- this]
 rw [e] at hv;exact kxh hv gl4_n
def kxy : List (String × DataW Unit) := [("math/bits.deBruijn32tab", Rows.laid_math_bits_deBruijn32tab), ("math/bits.deBruijn64tab", Rows.laid_math_bits_deBruijn64tab), ("internal/strconv.uint64pow10", Rows.laid_internal_strconv_uint64pow10), ("unicode/utf8.acceptRanges", Rows.laid_unicode_utf8_acceptRanges), ("unicode/utf8.first", Rows.laid_unicode_utf8_first)]
theorem kajb {W:World} (h:W.ShapedOpen prog):GlbR W 3 #[]:=by
 obtain ⟨m,hm⟩:=Go.Proofs.cell_of_shapedOpen_int (zero:=#[.int .i64 0]) (g:=3) (t:=3) (k := .i64) h (qay (by kernel_rfl)) (by kernel_rfl) rfl (by kernel_rfl) (by kernel_rfl) underlying3;obtain ⟨cs,a,hs,_⟩:=h.1 3 #[.int .i64 0] 3 (qay (by kernel_rfl)) (by kernel_rfl);refine .inr ⟨rfl,m,3,(0,0),?_⟩;obtain ⟨l⟩:=cs
 match l,hs with
 | [u],_=>
  simp only [World.cell?,a] at hm;have b:u = .int .i64 m:=by simpa using hm
  rw [a,b]
theorem kw9 {H:Type} {enc:TypeId×Value->H} {a:Assume} {C:Checked} {os:Os} {f:FuncId} {fn:Func} {s:ChangeSpec} {conds:List PathCond} {apart fresh b again:Bool} {X:World->Array Value->Prop}
  (o:∀ (w w':World) (args:Array Value),w.heap=w'.heap->X w args->X w' args)
  (own:ownKnob C.prog.godebug=none) (started:os.Started) (noInit:C.prog.inits.idxOf? f=none) (k:C.prog.funcs[f]?=some fn)
  (witness:∃ (w:World) (tape:Tape) (i:Input),w.os=os/\(w.forCall tape i).Shaped C.prog/\i.vars=[]/\Input.okWide C.prog (w.forCall tape i) .any w.heap.size f i /\
   ((s.pre enc C.prog fn conds apart (w.forCall tape i).memory i.args/\X (w.forCall tape i).memory i.args)/\sizedMet enc C.prog fn (OpenSpec.ofChange s) apart (w.forCall tape i).memory i.args)/\a.holds C.prog (lone (Frame.enter C.prog f i.args .normal) [] (w.forCall tape i)))
  (contract:∀ (W:World) (base:Nat) (args:Array Value) (ds gs:List (DataW H)) (before:List MemPlace),
   (∀ (j:Nat) t v,fn.params[j]?=some t->args[j]?=some v->Value.okWide C.prog W .any base t v) ->
   DataW.Whole enc C.prog fn.params.toList s.vars apart W args.toList ds gs before->X W args->W.ShapedOpen C.prog ->
   Calls C.prog f args W fun e W'=>∃ v,e = .returned v/\s.post enc C.prog fn apart fresh b again W args v W'):
  ReturnsInHanded a C os f .any (fun w args=>(s.pre enc C.prog fn conds apart w args/\X w args)/\sizedMet enc C.prog fn (OpenSpec.ofChange s) apart w args) (s.post enc C.prog fn apart fresh b again):=by
 refine returnsInHanded_of_calls own started noInit witness ?_;intro w tape i _ l _ m c h;obtain ⟨_,_,_,fn',d,_,_,_,_,g⟩:=m;have e:fn'=fn:=qt (d.symm.trans k);subst e;obtain ⟨⟨⟨ds,gs,before,p,hc⟩,hx⟩,r⟩:=c;have n:=DataW.Whole.of_heap (w':=w.forCall tape i) (by rfl) p;refine (contract (w.forCall tape i) w.heap.size i.args ds gs before g n (o _ _ _ (by rfl) hx) l).mono fun e W' ⟨v,q,hp⟩=>?_;subst q;exact ChangeSpec.post_blind hp
theorem kajs {W:World} (h:laidMetH prog kxy W) (a:W.ShapedOpen prog):∀ p,p∈GV->GlbR W p.1 p.2:=by
 have h:laidMet prog kxy W:=h;obtain ⟨ps,hl,_⟩:=h;simp only [kxy,DataW.LaidVars] at hl;obtain ⟨g0,t0,c0,u0,p0,q0,n0,y0,v0,d0,⟨g1,t1,c1,u1,p1,q1,n1,y1,v1,d1,⟨g2,t2,c2,u2,p2,q2,n2,y2,v2,d2,⟨g3,t3,c3,u3,p3,q3,n3,y3,v3,d3,⟨g4,t4,c4,u4,p4,q4,n4,y4,v4,d4,_,_⟩,_⟩,_⟩,_⟩,_⟩:=hl;obtain rfl:=qt (gl1_t.symm.trans (by rw [qt (gl1_n.symm.trans n0)];exact y0));have z1:=gl1_v v0 d0;obtain rfl:=qt (gl2_t.symm.trans (by rw [qt (gl2_n.symm.trans n1)];exact y1));have z2:=gl2_v v1 d1;obtain rfl:=qt (gl0_t.symm.trans (by rw [qt (gl0_n.symm.trans n2)];exact y2));have z0:=gl0_v v2 d2;obtain rfl:=qt (gl5_t.symm.trans (by rw [qt (gl5_n.symm.trans n3)];exact y3));have z5:=gl5_v v3 d3;obtain rfl:=qt (gl4_t.symm.trans (by rw [qt (gl4_n.symm.trans n4)];exact y4));have z4:=gl4_v v4 d4;intro p hp;simp only [GV,qab,List.not_mem_nil,or_false] at hp;rcases hp with rfl | rfl | rfl | rfl | rfl | rfl;exact .inl ⟨qay (by kernel_rfl),z0⟩;exact .inl ⟨qay (by kernel_rfl),z1⟩;exact .inl ⟨qay (by kernel_rfl),z2⟩;exact .inl ⟨qay (by kernel_rfl),z4⟩;exact .inl ⟨qay (by kernel_rfl),z5⟩
 ·exact kajb a
noncomputable def k28 (os:Os):World:=
 let w0:=World.holding prog os ⟨#[],#[],[]⟩
 { w0 with heap:=(((((w0.heap).modify 0 (fun | Obj.cells _ t fr=>Obj.cells gv0 t fr | o=>o)).modify 1 (fun | Obj.cells _ t fr=>Obj.cells gv1 t fr | o=>o)).modify 2 (fun | Obj.cells _ t fr=>Obj.cells gv2 t fr | o=>o)).modify 4 (fun | Obj.cells _ t fr=>Obj.cells gv4 t fr | o=>o)).modify 5 (fun | Obj.cells _ t fr=>Obj.cells gv5 t fr | o=>o) }
theorem k4k (os:Os) (args:Array Value):laidMetH prog kxy ((k28 os).forCall (fun _ _=>0) ⟨#[],args,[]⟩).memory:=
 laidMetH_of_parts (laidMet_of_run' 8 (by kernel_rfl) (by kernel_rfl)) (by kernel_rfl)
inductive RepDk (w:World):List Value->Dk->Prop where
 | mk (r h:Int) (kids:List Dk) (A:Option Addr) (cap:Nat) (css:Nat->List Value) (hc:kids.length<=cap) (hm:cap<=9223372036854775807)
  (hA:∀ (i:Nat) (x:Dk),kids[i]?=some x->∃ b o,A=some ⟨b,o,none⟩/\At w b (o+i*3) (css i))
  (hk:∀ (i:Nat) (x:Dk),kids[i]?=some x->RepDk w (css i) x):RepDk w [.int .i64 r, .int .i64 h, .slice A kids.length cap] (.mk r h kids)
theorem RepDk.len {cs:List Value} {x:Dk} (h:RepDk w cs x):cs.length=3:=by cases h;rfl
theorem RepDk.form {cs:List Value} {r k:Int} {l:List Dk} (h:RepDk w cs (.mk r k l)):∃ s,cs=[.int .i64 r, .int .i64 k,s]/\RepSl Any w 3 (RepDk w) s l:=by
 cases h with
 | mk _ _ _ A cap css hc hm hA hk=>
  refine ⟨_,rfl,A,cap,rfl,hc,hm,fun i x hx=>?_⟩;obtain ⟨b,o,h1,a⟩:=hA i x hx;exact ⟨b,o,css i,h1,trivial,a,(hk i x hx).len,hk i x hx⟩
theorem RepDk.of {s:Value} {r k:Int} {l:List Dk} (h:RepSl Any w 3 (RepDk w) s l):RepDk w [.int .i64 r, .int .i64 k,s] (.mk r k l):=by
 obtain ⟨A,cap,rfl,hc,hm,hx⟩:=h;have:∀ i:Nat,∃ cs:List Value,∀ x:Dk,l[i]?=some x->(∃ b o,A=some ⟨b,o,none⟩/\At w b (o+i*3) cs)/\RepDk w cs x:=fun i=>by
  cases hi:l[i]? with
  | none=>exact ⟨[],fun x h=>by cases h⟩
  | some x=>
   obtain ⟨b,o,cs,h1,e,c,_,d⟩:=hx i x hi;exact ⟨cs,fun y hy=>by cases hy;exact ⟨⟨b,o,h1,c⟩,d⟩⟩
 obtain ⟨css,a⟩:=Classical.axiomOfChoice this;exact .mk r k l A cap css hc hm (fun i x hi=>(a i x hi).1) (fun i x hi=>(a i x hi).2)
theorem dk_cr:∀ (x:Dk) (cs:List Value),RepDk w cs x->CRw w cs (eDkR x) 3:=by
 refine Dk.ind fun r k l ih=>?_;intro cs h;obtain ⟨v,rfl,hv⟩:=h.form;have b:RF Any w v (.lst 3 l.length (kvx l)):=by have:=krd eDkR 3 hv fun cs x hx hr=>ih x hx cs hr;rw [kzt];have c:eL 3 eDkR l = .lst 3 l.length (l.map eDkR):=rfl;rw [<- c];exact this
 refine knz [eI r,eI k, .lst 3 l.length (kvx l)] fun j y hy=>?_
 match j with
 | 0=>simp at hy;subst hy;exact ⟨rfl,fun u a=>by simp at a;subst a;exact .atom rfl⟩
 | 1=>simp at hy;subst hy;exact ⟨rfl,fun u a=>by simp at a;subst a;exact .atom rfl⟩
 | 2=>simp at hy;subst hy;exact ⟨rfl,fun u a=>by simp at a;subst a;exact b⟩
 | j+3=>simp at hy
def k42 (w:World) (cs:List Value) (h:Sab):Prop:=∃ v,cs=[.int .i64 h.yf,v]/\RepSl Any w 2 (RepTm Any w) v h.ya
theorem ho_cr {cs:List Value} {x:Sab} (h:k42 w cs x):CRw w cs (kca x) 2:=by
 obtain ⟨v,rfl,h1⟩:=h;have r1:RF Any w v (eL 2 eTmR x.ya):=krd eTmR 2 h1 fun cs x _ hr=>tm_cr x cs hr;refine knz [eI x.yf,eL 2 eTmR x.ya] fun j y hy=>?_
 match j with
 | 0=>simp at hy;subst hy;exact ⟨rfl,fun u a=>by simp at a;subst a;exact .atom rfl⟩
 | 1=>simp at hy;subst hy;exact ⟨rfl,fun u a=>by simp at a;subst a;exact r1⟩
 | j+2=>simp at hy
def kagu (w:World) (cs:List Value) (d:Saa):Prop:=∃ c0 c1 c2 v,cs=[c0,c1,c2,v]/\RepDk w [c0,c1,c2] d.yc/\RepSl Any w 2 (k42 w) v d.yb
theorem dr_rf {v:Value} {x:Saa} {cs:Array Value} (hv:v = .agg cs) (h:kagu w cs.toList x):RF Any w v (ka5 x):=by
 subst hv;obtain ⟨c0,c1,c2,v,h0,h1,b⟩:=h;have r2:RF Any w v (eL 2 kca x.yb):=krd kca 2 b fun cs x _ hr=>ho_cr hr;have k:=dk_cr x.yc _ h1;rw [k2q] at k;have hc:cs=#[c0,c1,c2,v]:=by cases cs;simp_all
 subst hc;refine kac7 (cs:=[c0,c1,c2,v]) [eI x.yc.rule,eI x.yc.hole,eL 3 eDkR x.yc.args,eL 2 kca x.yb] rfl (knz _ fun j y hy=>?_)
 match j with
 | 0=>simp at hy;subst hy;exact ⟨rfl,fun u a=>k.2.2 0 u _ a rfl⟩
 | 1=>simp at hy;subst hy;exact ⟨rfl,fun u a=>k.2.2 1 u _ a rfl⟩
 | 2=>simp at hy;subst hy;exact ⟨rfl,fun u a=>k.2.2 2 u _ a rfl⟩
 | 3=>simp at hy;subst hy;exact ⟨rfl,fun u a=>by simp at a;subst a;exact r2⟩
 | j+4=>simp at hy
theorem kaae:prog.cellsOf 3=1/\prog.cellsOf 27=1/\prog.cellsOf 30=1/\prog.cellsOf 42=1/\prog.cellsOf 29=3/\prog.cellsOf 44=2/\prog.cellsOf 32=4:=⟨by kernel_rfl,by kernel_rfl,by kernel_rfl,by kernel_rfl,by kernel_rfl,by kernel_rfl,by kernel_rfl⟩
theorem kahe:∀ (fuel:Nat) (cs:List Value) (x:DataW H×List MemPlace),DataW.trod enc prog w base spare held fuel 29 cs=some x->∃ t,RepDk w cs t:=by
 obtain ⟨z1,z2,z3,z4,z5,z6,z7⟩:=kaae;intro fuel
 induction fuel using Nat.strongRecOn with
 | _ fuel ih=>
  intro cs x h;obtain ⟨xs,n,g,_,c,d,e⟩:=DataW.trod_struct underlying29 h;rw [z5] at c
  match cs,c with
  | [c0,c1,c2],_=>
   have h0:=e 0 _ rfl;have h1:=e 1 _ rfl;have f:=e 2 _ rfl;rw [qb (by rw [d];decide)] at h0 h1 f;obtain ⟨a,e0,ha⟩:=kkd h0;obtain ⟨b,e1,j⟩:=kkd h1;obtain ⟨v,ts,e2,i⟩:=kns (RepDk w) 3 underlying27 z5 f fun k cs' y hk hy=>ih k (by omega) cs' y hy;simp [z1,z2] at e0 e1 e2;subst e0 e1 e2;exact ⟨.mk a b ts,RepDk.of i⟩
theorem kai2 {fuel:Nat} {cs:List Value} {x:DataW H×List MemPlace} (h:DataW.trod enc prog w base spare held fuel 44 cs=some x):∃ t,k42 w cs t:=by
 obtain ⟨z1,z2,z3,z4,z5,z6,z7⟩:=kaae;obtain ⟨xs,n,e,_,b,c,d⟩:=DataW.trod_struct underlying44 h;rw [z6] at b
 match cs,b with
 | [c0,c1],_=>
  have h0:=d 0 _ rfl;have h1:=d 1 _ rfl;rw [qb (by rw [c];decide)] at h0 h1;obtain ⟨a,e0,ha⟩:=kkd h0;obtain ⟨v,ts,e1,f⟩:=kns (RepTm Any w) 2 underlying42 kvl h1 fun k cs' y hk hy=>kads k cs' y hy;simp [z1,z4] at e0 e1;subst e0 e1;exact ⟨⟨a,ts⟩,_,rfl,f⟩
theorem kaie {fuel:Nat} {cs:List Value} {x:DataW H×List MemPlace} (h:DataW.trod enc prog w base spare held fuel 32 cs=some x):∃ t,kagu w cs t:=by
 obtain ⟨z1,z2,z3,z4,z5,z6,z7⟩:=kaae;obtain ⟨xs,n,f,_,a,c,d⟩:=DataW.trod_struct underlying32 h;rw [z7] at a
 match cs,a with
 | [c0,c1,c2,c3],_=>
  have h0:=d 0 _ rfl;have h1:=d 1 _ rfl;rw [qb (by rw [c];decide)] at h0 h1;obtain ⟨b,e⟩:=kahe _ _ _ h0;obtain ⟨v,hs,e1,g⟩:=kns (k42 w) 2 underlying30 z6 h1 fun k cs' y hk hy=>kai2 hy;simp [z3,z5] at e e1;subst e1;exact ⟨⟨b,hs⟩,_,_,_,_,rfl,e,g⟩
theorem kaky {r:Reach} {b0:Nat} {v:Value} {d:DataW H} {p:List MemPlace} (hv:Value.okWide prog w r b0 32 v) (h:DataW.Trod enc prog w base spare held 32 v d p):∃ x,RF Any w v (ka5 x):=by obtain ⟨cs,rfl,a⟩:=okWide_struct underlying32 hv;obtain ⟨fuel,b⟩:=h;obtain ⟨t,ht⟩:=kaie b;exact ⟨t,dr_rf rfl (by simpa [Value.cells] using ht)⟩
open Go Go.RowKit Go.ChangeShapes Go.WideShapes Go.Proofs.Tryz
theorem kahn:Tryz.checked.prog.liftsFinal=false:=by as_aux_lemma=>kernel_rfl
theorem kaat:Tryz.checked.prog.mayEnter=true:=by as_aux_lemma=>kernel_rfl
theorem kakd:Tryz.checked.prog.make=some .cut:=by as_aux_lemma=>kernel_rfl
set_option maxRecDepth 100000 in
theorem kwd (os:Os) (started:os.Started) (H:Type) (enc:TypeId×Value->H):
  ReturnsInHanded {} Tryz.checked os 3 .any (fun w args=>(Rows.sketchChecksSpec.pre enc prog Tryz.f3 Rows.sketchChecksRow.domain false w args/\laidMetH prog Rows.sketchChecksRow.laid w)/\sizedMet enc prog Tryz.f3 (OpenSpec.ofChange Rows.sketchChecksSpec) false w args) (Rows.sketchChecksSpec.post enc prog Tryz.f3 false true false false):=by
 refine kw9 (C:=Tryz.checked) (X:=fun w _=>laidMetH prog kxy w) (fun _ _ _ l h=>h.of_heap l) kaee started (by kernel_rfl) func3
  (ChangeSpec.witness_at (enc:=enc) (C:=Tryz.checked) (os:=os) (X:=fun w _=>laidMetH prog kxy w) false (k28 os) #[.agg #[.string ⟨#[]⟩, .slice none 0 0, .slice none 0 0, .slice none 0 0], .agg #[.int .i64 0, .int .i64 0, .slice none 0 0, .slice none 0 0]] 8 rfl (by kernel_rfl) (by kernel_rfl) (by kernel_rfl) (by kernel_rfl) (by kernel_rfl) (k4k os _)) ?_
 intro W base args ds gs before b k m c;have a:∀ (j:Nat) t v,Tryz.f3.params[j]?=some t->args[j]?=some v->Value.okWide prog W .any base t v:=b;have d:=k;obtain ⟨p,q,f,n,rfl,o,r⟩:=k;have hA:DataW.TrodAll enc prog W 0 (fun _=>true) true Tryz.f3.params.toList args.toList ds p:=f;rw [Tryz.params3] at hA a;obtain ⟨v0,vs0,d0,ds0,p0,q0,g,rfl,rfl,h0,r0⟩:=trodAll_cons hA;obtain ⟨v1,vs1,d1,ds1,p1,q1,rfl,rfl,rfl,h1,r1⟩:=trodAll_cons r0;obtain ⟨rfl,rfl,rfl⟩:=trodAll_nil r1;obtain rfl:args=#[v0,v1]:=by cases args;simp_all
 obtain ⟨rfl,rfl⟩:=trodVars_none n;obtain ⟨x0,e0,b0⟩:=in_La (a 0 26 v0 rfl rfl) h0;obtain ⟨x1,e1⟩:=kaky (a 1 32 v1 rfl rfl) h1;refine (kaa6 [eLa x0,ka5 x1] (knf x0 x1 true (kzo x0 x1 b0)) rfl ?_ (kajs m c)).mono fun e W' ⟨s,u⟩=>?_
 ·intro i v x hv hx
  match i with
  | 0=>simp at hv hx;subst hv hx;exact e0
  | 1=>simp at hv hx;subst hv hx;exact e1
  | i+2=>simp at hv
 subst s;exact ⟨_,rfl,kae7 kafd (by rw [Tryz.params3];intro t ht;simp at ht;rcases ht with rfl | rfl <;> exact ⟨by kernel_rfl,qay (by kernel_rfl)⟩) rfl underlying4 rfl rfl d u⟩
set_option maxHeartbeats 4000000 in
theorem kwc:joinedFacts Tryz.checked.prog 3 Tryz.f3 Rows.sketchChecksSpec Rows.sketchChecksRow=true:=by
 unfold joinedFacts;simp only [kaat,kahn,kakd,kakf,kag6,kahu,qo,Bool.and_true]
 repeat' apply And.intro
 all_goals (as_aux_lemma=>kernel_rfl)
theorem kxa:Rows.SketchChecksSaid:=
 OpenClaim.holds_of_wide 3 Tryz.f3 rfl rfl rfl rfl rfl rfl rfl ⟨rfl,rfl,rfl,rfl,rfl⟩ rfl rfl rfl rfl rfl (by kernel_rfl) func3 kwc
  (qay (by kernel_rfl)) (by unfold Func.isWrapper;rw [ql (qav (by kernel_rfl))];exact ⟨rfl,rfl⟩)
  (fun os started H enc _=>kwd os started H enc)
theorem sketchChecks_card_holds:Rows.SketchChecksCardSaid:=
 Claim7.holds_tied_plain_at .later [] [.data, .data, .data, .data, .pinned] true (true, "bcf48be0292dc659704c88be194b91fd8cc36b632724793ecce1d57522a35c39") true kxa (fun _ h => by cases h) (by kernel_rfl) (fun _ h => by cases h) sketchChecks_row_tie rfl ⟨rfl, rfl⟩ (by kernel_rfl) rfl
  (fun f fn b a=>by
   obtain rfl : f = 3 := qt ((show prog.funcNamed "synthesis/synthesislaw34.SketchChecks" = some 3 by kernel_rfl).symm.trans b) |>.symm;obtain rfl:fn=Tryz.f3:=(qt (func3.symm.trans a)).symm;exact ⟨by kernel_rfl,fun j t ht=>by
    rw [Tryz.params3] at ht
    match j with
    | 0=>obtain rfl:=qt ht;exact (show prog.wantsStandIn 26=false by kernel_rfl)
    | 1=>obtain rfl:=qt ht;exact (show prog.wantsStandIn 32=false by kernel_rfl)
    | j+2=>simp at ht⟩)
  (by kernel_rfl)
end Go.Proofs.YtgebfaidgikieaaGreatDoor
