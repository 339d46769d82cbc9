/- SpaceMany: the law returns true for every input where the listed tables hold what the program lays into them. -/
import Derived.Test.YtnlhjbnpjefjgabGreatDoorUa
import Derived.Test.YtnlhjbnpjefjgabGreatDoorTT
import Derived.Test.YtnlhjbnpjefjgabGreatDoorRows
import Derived.Lib.LaidTab
import Derived.LaidLaws
import Derived.LaidHandle
import Derived.OpenShut
import Derived.ChangeSame
import Derived.Test.YtnlhjbnpjefjgabGreatDoorHd
import Derived.ChangeMaps5
import Derived.JoinedOf
import Derived.Test.YtnlhjbnpjefjgabGreatDoorSim
import Derived.Test.YtnlhjbnpjefjgabGreatDoorCards
import Derived.Test.YtnlhjbnpjefjgabGreatDoorTie
import Derived.SevenTiedAt
set_option linter.all false
set_option maxRecDepth 100000
namespace Go.Proofs.YtnlhjbnpjefjgabGreatDoor
open Go Go.RowKit Go.Proofs.Tryz
theorem k6o:∀ l:List Tm,l.length<=Tm.sizeL l
 | []=>by simp
 | t::l=>by rw [Tm.sizeL,qbp];have:=Tm.size_pos t;have:=k6o l;omega
theorem k6d {m:List (BA×Int)} {rs:List Int} {ag:List (List Int)} {zs:List Int} {ts:List Tm} (h:kg6 m rs ag zs ts) (r:∀ t∈ts,t.size<=1000):∀ (n:Nat) (j:Nat) (t:Tm),t.size<=n->ts[j]?=some t->kcv n m rs ag zs (j:Int)=some (t.rule,t.args):=by
 intro n
 induction n with
 | zero=>
  intro j t ht;have:=Tm.size_pos t;omega
 | succ n ih=>
  intro j t ht e;have d:=(qd.1 e).1;rw [kcv];unfold kfg;have a:ag[j]?=some (ag[j]'(by rw [h.la];exact d)):=qa _;obtain ⟨xs,f⟩:∃ xs,xs=ag[j]'(by rw [h.la];exact d):=⟨_,rfl⟩;rw [<- f] at a;have q:=h.ar j xs t a e;have g:=krc q;have hr:rs[j]?=some t.rule:=by rw [h.lr,qg,e];rfl
  rw [kbt,hr,qh,kbt,a,qh];have u:t.size=Tm.sizeL t.args+1:=by cases t;rfl
  have v:=k6o t.args;have w:=r t (ql e);obtain ⟨b,l,o⟩:=ku3 (step:=kda m rs ag zs (kcv n) xs) xs.length (by omega)
   (fun i s=>s=((i:Int),t.args.take i)) (fun b=>b=t.args)
   (fun i s hi hs=>by subst hs;have c:i<t.args.length:=(by omega);obtain ⟨k,k1,k2,k3⟩:=k3q q c;have p:(t.args[i]).size<=n:=(by have:=Tm.sizeL_mem (qaq c);omega);refine ⟨_,?_,rfl⟩;unfold kda;simp only;rw [qau (show (i:Int)<(xs.length:Int) by omega),qr,kbt,k1,qh,ih k _ p k3,qh,kml (by simp;omega),qh,kgx i];rw [qay c,show Tm.mk (t.args[i]).rule (t.args[i]).args=t.args[i] by cases t.args[i];rfl])
   (fun s hs=>by subst hs;refine ⟨_,?_,rfl⟩;unfold kda;simp only;rw [qax (by omega),qw,g,List.take_length])
   (s:=(0,[])) rfl
  subst o;rw [l];rfl
theorem k3d {js:List Nat} (j:Nat):iget (js.map mk1) (j:Int) false=decide (j∈js):=by
 unfold iget;cases h:imf (j:Int) (js.map mk1) 0 with
 | none=>
  rw [qax];exact fun b=>kvj h (mk1 j) (qbj b) rfl
 | some p=>
  obtain ⟨i,x⟩:=p;obtain ⟨_,c,k,a,d⟩:=kw5 h;rw [Nat.sub_zero] at a;rw [qg] at a;cases b:js[i]? with
  | none=>rw [b] at a;cases a
  | some j'=>
   rw [b] at a;have a:mk1 j'=(k,x):=qy a;unfold mk1 at a;injection a with e1 e2;have:j'=j:=(by omega);subst this;rw [qau (ql b),<- e2]
variable {m:List (BA×Int)} {rs:List Int} {ag:List (List Int)} {zs:List Int} {ts:List Tm} {tab:List (List Int)}
def OutQ (ts:List Tm) (P:Nat->Prop) (r:List (Int×Bool)×List Tm):Prop:=∃ js:List Nat,r.1=js.map mk1/\js.Nodup/\(∀ j∈js,j<ts.length)/\js.map (fun j=>ts[j]?)=r.2.map some/\∀ j,j∈js↔P j
theorem kaa4 (h:kg6 m rs ag zs ts) (v:∀ t∈ts,t.size<=1000) (u:ts.length<=500000) {row:List Nat} (g:∀ j∈row,j<ts.length) (z:row.length<=500000) {seen:List (Int×Bool)} {out:List Tm} {P:Nat->Prop} (A:OutQ ts P (seen,out)):
  ∃ r,kai (kc4 (rs,ag,zs,tab,m) (row.map fun (j:Nat)=>(j:Int))) fuel (0,seen,out)=some r/\OutQ ts (fun j=>P j\/j∈row) r:=by
 refine ku3 (step:=kc4 (rs,ag,zs,tab,m) (row.map fun (j:Nat)=>(j:Int))) row.length (by omega)
  (fun i s=>s.1=(i:Int)/\OutQ ts (fun j=>P j\/j∈row.take i) s.2) _
  (fun i s hi hs=>?_) (fun s hs=>?_) (s:=(0,seen,out)) ⟨rfl,?_⟩
 ·obtain ⟨si,ss,so⟩:=s;obtain ⟨rfl,js,h1,k,l,d,o⟩:=hs;simp only at h1 d;subst h1;have c:=g row[i] (qaq hi);have w:so.length=js.length:=by simpa using (qah List.length d).symm
  have B:js.length<=500000:=qa7 (kqz ts.length js k l) u;have p:∀ j,(P j\/j∈row.take (i+1))↔((P j\/j∈row.take i)\/j=row[i]):=fun j=>by rw [qay hi,qab,qaa,or_assoc]
  by_cases hm:row[i]∈js
  ·refine ⟨(((i+1:Nat):Int),js.map mk1,so),?_,rfl,js,rfl,k,l,d,fun j=>?_⟩;unfold kc4;simp only [qj];rw [qau (show (i:Int)<(row.length:Int) by omega),qr,kbt,qg,qa hi];simp only [qai,qh];rw [k3d,qau hm];simp only [Bool.not_true,qw,qh];rw [kgx i]
   ·refine (o j).trans (Iff.trans ?_ (p j).symm);exact ⟨.inl,fun h=>by
     rcases h with h | rfl;exact h
     ·exact (o _).1 hm⟩
  ·have ht:=qa c;refine ⟨(((i+1:Nat):Int),(js++[row[i]]).map mk1,so++[ts[row[i]]]),?_,rfl,js++[row[i]],rfl,?_,fun j f=>?_,?_,fun j=>?_⟩
   ·unfold kc4;simp only [qj];rw [qau (show (i:Int)<(row.length:Int) by omega),qr,kbt,qg,qa hi];simp only [qai,qh];rw [k3d,qax hm];simp only [Bool.not_false,qr];have C:=v _ (qaq c);rw [k6d h v fuel row[i] ts[row[i]] (Nat.le_of_lt (ke6 (by omega))) ht,qh,kml (by simp;omega),qh,qh,kgx i];rcases k26 (js:=js) row[i] with ⟨q,_⟩ | ⟨_,q⟩;exact absurd q hm
    ·rw [q,show Tm.mk (ts[row[i]]).rule (ts[row[i]]).args=ts[row[i]] by cases ts[row[i]];rfl]
   rw [List.nodup_append];exact ⟨k,by simp,fun a ha b x e=>hm (by rw [qaa] at x;rw [<- x,<- e];exact ha)⟩
   ·rcases qab.1 f with f | f;exact l j f
    ·rw [qaa] at f;rw [f];exact c
   rw [qbc,qbc,d];simp [ht]
   ·refine Iff.trans ?_ (p j).symm;rw [qab,qaa,o j]
 ·obtain ⟨si,ss,so⟩:=s;obtain ⟨rfl,y⟩:=hs;refine ⟨(ss,so),?_,?_⟩;unfold kc4;simp only [qj];rw [qax (by omega),qw]
  ·rw [List.take_length] at y;exact y
 ·obtain ⟨js,h1,k,l,d,o⟩:=A;exact ⟨js,h1,k,l,d,fun j=>by rw [o j];simp⟩
theorem k3i {ns:List Nod} {X:Int->List Tm}:∀ (vs:List Int),(∀ a∈vs,0<=a/\∀ t,t∈X a↔Bt ns a.toNat t)->∀ l,l∈prT X vs↔Bts ns vs l
 | [],_,l=>by
  rw [prT,qaa];constructor;rintro rfl;exact .nil
  ·intro h;cases h;rfl
 | a::vs,h,l=>by
  rw [prT,qat];have ih:=k3i vs (fun b d=>h b (qe _ d));obtain ⟨h0,h1⟩:=h a (qn ..);constructor;rintro ⟨t,ht,hl⟩;obtain ⟨l2,c,rfl⟩:=qx.1 hl;exact .cons h0 ((h1 t).1 ht) ((ih l2).1 c)
  ·intro hl;cases hl with
   | cons _ ht hs=>exact ⟨_,(h1 _).2 ht,qx.2 ⟨_,(ih _).2 hs,rfl⟩⟩
theorem k6j {ts:List Tm}:∀ l:List Nat,(∀ j∈l,j<ts.length)->l.map (fun j=>ts[j]?)=(l.filterMap fun j=>ts[j]?).map some
 | [],_=>rfl
 | a::l,h=>by rw [qao,List.filterMap_cons,qa (h a (qn ..))];simp only [qao];rw [k6j l fun j b=>h j (qe _ b)]
theorem k6q {js:List Nat} {τ:List Int} (h:τ.Perm ((js.map mk1).map fun p=>p.1)):∃ ks:List Nat,τ=ks.map (fun (j:Nat)=>(j:Int))/\ks.length=js.length/\∀ j,j∈ks↔j∈js:=by
 rw [List.map_map] at h;have hm:∀ x,x∈τ↔∃ j∈js,((j:Nat):Int)=x:=fun x=>by rw [h.mem_iff,qx];rfl
 have e:τ=(τ.map Int.toNat).map (fun (j:Nat)=>(j:Int)):=by
  rw [List.map_map]
  conv=>lhs;rw [<- List.map_id τ]
  refine List.map_congr_left fun x a=>?_;obtain ⟨j,_,rfl⟩:=(hm x).1 a;simp
 refine ⟨τ.map Int.toNat,e,?_,fun j=>?_⟩;rw [qj,h.length_eq,qj]
 ·rw [qx];constructor;rintro ⟨x,a,rfl⟩;obtain ⟨k,hk,rfl⟩:=(hm x).1 a;simpa using hk
  ·intro b;exact ⟨(j:Int),(hm _).2 ⟨j,b,rfl⟩,by simp⟩
abbrev T6:=Int×List Int×List (List Int)×List Int×List (List Int)×List (BA×Int)
def JInv (sp:Spa) (X0:List Tm) (i:Nat) (s:T6):Prop:=s.1=(i:Int)/\∃ (ts:List Tm) (LT:Int->List Tm),kg6 s.2.2.2.2.2 s.2.1 s.2.2.1 s.2.2.2.1 ts/\(∀ u∈ts,u∈X0)/\s.2.2.2.2.1.length=sp.ya.length /\
 (∀ a:Nat,a<i->∃ row,s.2.2.2.2.1[a]?=some row/\kea ts ts.length row (LT (a:Int))/\(LT (a:Int)).length<=500000/\∀ t,t∈LT (a:Int)↔Bt sp.ya a t)/\∀ a:Nat,i<=a->a<sp.ya.length->s.2.2.2.2.1[a]?=some []
section
variable {sp:Spa} {X0:List Tm} (hf:kpc sp) (hX0:X0.length<=500000) (hXs:∀ u∈X0,u.size<=1000) (hX:∀ i t,Bt sp.ya i t->t∈X0) (hru:∀ n∈sp.ya,∀ o∈n.yc,inI o.yd=true)
include hf hX0 hXs hX hru
theorem kwm {i:Nat} {n:Nod} (hn:sp.ya[i]?=some n) {X1:List Tm} (r:∀ t,t∈X1↔Bt sp.ya i t) {tab:List (List Int)} {LT:Int->List Tm} {m rs ag zs} {ts:List Tm} (E:kg6 m rs ag zs ts) (y:∀ u∈ts,u∈X0)
  (g:∀ a:Nat,a<i->∃ row,tab[a]?=some row/\kea ts ts.length row (LT (a:Int))/\(LT (a:Int)).length<=500000/\∀ t,t∈LT (a:Int)↔Bt sp.ya a t):
  (∃ rs' ag' zs' seen' m' e,kai (kci ((i:Int),rs,ag,zs,tab,m) n) fuel (0,rs,ag,zs,[],m)=some (.inl (rs',ag',zs',seen',m'))/\seen'.length<=4096/\kg6 m' rs' ag' zs' (ts++e)/\(∀ u∈e,u∈X0)/\kip seen' (ts++e) (Bt sp.ya i)) \/
  (kai (kci ((i:Int),rs,ag,zs,tab,m) n) fuel (0,rs,ag,zs,[],m)=some (.inr ())/\4096<X1.length):=by
 have F:=qa7 (kaad hn) hf.opts;have z:=ql hn;have A:∀ u∈X1,u∈X0:=fun u hu=>hX i u ((r u).1 hu);have q:∀ o∈n.yc,∀ l,l∈prT LT o.yb↔Bts sp.ya o.yb l:=fun o ho=>k3i _ fun a ha=>by obtain ⟨h0,h1⟩:=kxy hf hn ho a ha;obtain ⟨row,_,_,_,p⟩:=g a.toNat (by omega);rw [Int.toNat_of_nonneg h0] at p;exact ⟨h0,p⟩
 obtain ⟨b,v,B⟩:=kzq (step:=kci ((i:Int),rs,ag,zs,tab,m) n) n.yc.length (by omega)
  (fun k s=>s.1=(k:Int)/\s.2.2.2.2.1.length<=4096/\∃ e,kg6 s.2.2.2.2.2 s.2.1 s.2.2.1 s.2.2.2.1 (ts++e)/\(∀ u∈e,u∈X0)/\kip s.2.2.2.2.1 (ts++e) (fun t=>∃ o∈n.yc.take k,∃ l2∈prT LT o.yb,t=Tm.mk o.yd l2))
  (fun b=>(∃ rs' ag' zs' seen' m',b = .inl (rs',ag',zs',seen',m')/\seen'.length<=4096/\∃ e,kg6 m' rs' ag' zs' (ts++e)/\(∀ u∈e,u∈X0)/\kip seen' (ts++e) (Bt sp.ya i))\/(b = .inr ()/\4096<X1.length))
  (fun k s hk hs=>by
   obtain ⟨sk,srs,sag,szs,ss,sm⟩:=s;obtain ⟨rfl,p0,e,p1,p2,p3⟩:=hs;simp only at p0 p1 p3;obtain ⟨o,ho⟩:∃ o,o=n.yc[k]:=⟨_,rfl⟩;have f:o∈n.yc:=(by rw [ho];exact qaq _);have w:n.yc[k]?=some o:=(by rw [ho];exact qa hk);have G:=k2l hf hn f;have x:∀ o∈n.yc,∀ l2∈prT LT o.yb,Tm.mk o.yd l2∈X1:=fun o ho l2 c=>(r _).2 (.mk hn ho ((q o ho l2).1 c));obtain ⟨ok,⟨s1,m1,rs1,ag1,zs1⟩,r1,r2⟩:=k8j (a7:=tab) (o:=o) (LT:=LT) (X0:=X0) (X1:=X1) (hru n z o f) hX0 hXs A (by omega) fuel [] [] (by simp) (ke6 (by simp;omega)) (fun l2 c=>x o f l2 (by simpa using c))
    sm srs sag szs (ts++e) ss _ p1 (fun u hu=>by
     rcases qab.1 hu with hu | hu;exact y u hu
     ·exact p2 u hu) ⟨[],rfl,(fun j C=>nomatch C),rfl⟩ (fun a ha=>by
     obtain ⟨h0,h1⟩:=kxy hf hn f a ha;obtain ⟨row,q1,q2,q3,_⟩:=g a.toNat (by omega);rw [Int.toNat_of_nonneg h0] at q2 q3;exact ⟨row,by rw [idxN h0];exact q1,kug q2,q3⟩) p3 (fun t ⟨o',d,l2,c,e1⟩=>by rw [e1];exact x o' (qa6 d) l2 c) p0
   rcases r2 with ⟨rfl,r0,e',r2,r3,r4⟩ | ⟨rfl,r0⟩
   ·refine .inl ⟨(((k+1:Nat):Int),rs1,ag1,zs1,s1,m1),?_,rfl,r0,e++e',by rw [<- qa0];exact r2,fun u hu=>?_,?_⟩;unfold kci;simp only;rw [qau (show (k:Int)<(n.yc.length:Int) by omega),qr,kbt,w,qh];unfold kdt;rw [r1];simp only [qh,Bool.not_true,qw];rw [kgx k]
    ·rcases qab.1 hu with hu | hu;exact p2 u hu
     ·exact r3 u hu
    ·rw [<- qa0];refine kix r4 fun t=>?_;rw [qay hk,<- ho];constructor
     ·rintro ⟨o',d,l2,c,rfl⟩;rcases qab.1 d with d | d;exact .inl ⟨o',d,l2,c,rfl⟩
      ·rw [qaa] at d;subst d;exact .inr ⟨l2,by simpa using c,rfl⟩
     ·rintro (⟨o',d,l2,c,rfl⟩ | ⟨l2,c,rfl⟩);exact ⟨o',List.mem_append_left _ d,l2,c,rfl⟩
      ·exact ⟨o,qbr _ (qaa.2 rfl),l2,by simpa using c,rfl⟩
   ·refine .inr ⟨.inr (),?_, .inr ⟨rfl,r0⟩⟩;unfold kci;simp only;rw [qau (show (k:Int)<(n.yc.length:Int) by omega),qr,kbt,w,qh];unfold kdt;rw [r1];simp only [qh,Bool.not_false,qr])
  (fun s hs=>by
   obtain ⟨sk,srs,sag,szs,ss,sm⟩:=s;obtain ⟨rfl,p0,e,p1,p2,p3⟩:=hs;refine ⟨.inl (srs,sag,szs,ss,sm),?_, .inl ⟨srs,sag,szs,ss,sm,rfl,p0,e,p1,p2,kix p3 fun t=>?_⟩⟩;unfold kci;simp only;rw [qax (by omega),qw]
   ·rw [List.take_length];constructor;intro h;obtain ⟨n',o,l2,h1,p,rfl,D⟩:=h.inv;rw [hn] at h1;cases h1;exact ⟨o,p,l2,(q o p l2).2 D,rfl⟩
    ·rintro ⟨o,p,l2,D,rfl⟩;exact .mk hn p ((q o p l2).1 D))
  (s:=(0,rs,ag,zs,[],m)) ⟨rfl,by simp,[],by rw [List.append_nil];exact E,(fun u hu=>nomatch hu),[],rfl,List.nodup_nil,(fun j C=>nomatch C),fun t=>by simp⟩
 rcases B with ⟨rs',ag',zs',seen',m',rfl,p0,e,p1,p2,p3⟩ | ⟨rfl,p0⟩;exact .inl ⟨rs',ag',zs',seen',m',e,v,p0,p1,p2,p3⟩
 ·exact .inr ⟨v,p0⟩
theorem kwb {i:Nat} (hi:i<sp.ya.length) {X1:List Tm} (p:∀ t,t∈X1↔Bt sp.ya i t) (A:X1.length<=4096) {s:T6} (B:JInv sp X0 i s):∃ keys next,kbr (sp,0) s=some (.inl (keys,next))/\∀ τ:List Int,τ.Perm keys->JInv sp X0 (i+1) (next τ):=by
 obtain ⟨si,rs,ag,zs,tab,m⟩:=s;obtain ⟨rfl,ts,LT,y,f,g,c,d⟩:=B;simp only at y g c d;have hn:=qa hi;obtain ⟨rs',ag',zs',seen',m',e,q1,_,q2,q3,q4⟩:=(kwm hf hX0 hXs hX hru hn p (tab:=tab) y f c).resolve_right fun h=>by omega
 have q:=k0y X0 q4 q2.nd fun t ht=>hX i t ht;have r:=d i (qu _) hi;have b:idx tab (i:Int)=some []:=by rw [kbt,r]
 have v:ksy tab (i:Int) seen'=some []:=by unfold ksy;rw [b,qh,show Nat.ble ((([]:List Int).length+seen'.length)*9) 140737488355328=true from Nat.ble_eq_true_of_le (by simp;omega),qr]
 refine ⟨_,_,by unfold kbr;simp only;rw [qau (show (i:Int)<(sp.ya.length:Int) by omega),qr,kbt,hn,qh,q1,qh];simp only [qad];rw [v,qh],fun τ C=>?_⟩;obtain ⟨js,rfl,j1,j2,j3⟩:=q4;obtain ⟨ks,rfl,k2,k3⟩:=k6q C;have k:∀ j∈ks,j<(ts++e).length:=fun j D=>j2 j ((k3 j).1 D);have l:=k6j ks k;have o:(ks.filterMap fun j=>(ts++e)[j]?).length=ks.length:=by simpa using (qah List.length l).symm
 rw [qj] at q;obtain ⟨L,z⟩:∃ L:Int->List Tm,∀ a,L a=if a=(i:Int) then ks.filterMap (fun j=>(ts++e)[j]?) else LT a:=⟨_,fun _=>rfl⟩;refine ⟨kgx i (h:=(by have:=hf.nodes;omega)),ts++e,L,q2,fun u hu=>?_,?_,fun a ha=>?_,fun a ha w=>?_⟩
 ·rcases qab.1 hu with hu | hu;exact f u hu
  ·exact q3 u hu
 show (kd6 tab (i:Int) [] _).length=_;rw [kl1 b,List.length_set,g]
 ·show ∃ row,(kd6 tab (i:Int) [] _)[a]?=some row/\_;rw [kl1 b,Int.toNat_natCast,List.nil_append];by_cases E:a=i;subst E;refine ⟨_,qa5 (by omega),?_⟩;rw [z,qt rfl];refine ⟨⟨ks,rfl,k,l⟩,by rw [o,k2];omega,fun t=>?_⟩;rw [List.mem_filterMap,j3 t];exact ⟨fun ⟨j,h1,x⟩=>⟨j,(k3 j).1 h1,x⟩,fun ⟨j,h1,x⟩=>⟨j,(k3 j).2 h1,x⟩⟩
  ·rw [qbb (by omega)];obtain ⟨row,r1,r2,r3,r4⟩:=c a (by omega);rw [z,qq (show ¬ ((a:Int)=(i:Int)) by omega)];exact ⟨row,r1,kug r2,r3,r4⟩
 ·show (kd6 tab (i:Int) [] _)[a]?=some [];rw [kl1 b,Int.toNat_natCast,qbb (by omega)];exact d a (by omega) w
theorem k5e {i:Nat} (hi:i<sp.ya.length) {X1:List Tm} (b:∀ t,t∈X1↔Bt sp.ya i t) (d:X1.Nodup) (j:4096<X1.length) {s:T6} (k:JInv sp X0 i s):kbr (sp,0) s=some (.inr (.inr ())):=by
 obtain ⟨si,rs,ag,zs,tab,m⟩:=s;obtain ⟨rfl,ts,LT,h,f,g,a,c⟩:=k;simp only at h g a c;have hn:=qa hi;rcases kwm hf hX0 hXs hX hru hn b (tab:=tab) h f a with ⟨rs',ag',zs',seen',m',e,q1,q0,q2,q3,q4⟩ | ⟨q1,_⟩;have:=kabb q4 d fun t ht=>(b t).1 ht;omega
 ·unfold kbr;simp only;rw [qau (show (i:Int)<(sp.ya.length:Int) by omega),qr,kbt,hn,qh,q1,qh];simp only [qag]
end
theorem kys {α β:Type} {f:α->β}:∀ {l:List α},l.Nodup->(∀ a∈l,∀ b∈l,f a=f b->a=b)->(l.map f).Nodup
 | [],_,_=>List.nodup_nil
 | a::l,h,hi=>by rw [qao,List.nodup_cons];rw [List.nodup_cons] at h;refine ⟨fun hm=>?_,kys h.2 fun b d c hc=>hi b (qe _ d) c (qe _ hc)⟩;obtain ⟨b,d,e⟩:=qx.1 hm;exact h.1 (hi b (qe _ d) a (qn ..) e ▸ d)
theorem ktg {α β:Type} {f:α->β}:∀ {l:List α},(l.map f).Nodup->l.Nodup
 | [],_=>List.nodup_nil
 | a::l,h=>by rw [qao,List.nodup_cons] at h;rw [List.nodup_cons];exact ⟨fun hm=>h.1 (qbj hm),ktg h.2⟩
noncomputable def kqr (sp:Spa):((List Int×List (List Int)×List Int×List (List Int)×List (BA×Int)) ⊕ Unit)->Option (List Tm×Int):=fun v17=>Sum.elim (fun v18=>(Option.bind (kai (kc3 (sp,0) v18) fuel (0,([]:List (Int×Bool)),([]:List (Tm)))) fun (v31:List Tm)=>(bif (decide (4096<(List.length (v31):Int))) then (some (([]:List Tm),11)) else (Option.bind (kmp v31) fun v32=>(some (v32,0)))))) (fun v33=>(some (([]:List Tm),11))) v17
section
variable {sp:Spa} {X0:List Tm} (hf:kpc sp) (hX0:X0.length<=500000) (hXs:∀ u∈X0,u.size<=1000) (hX:∀ i t,Bt sp.ya i t->t∈X0) (hru:∀ n∈sp.ya,∀ o∈n.yc,inI o.yd=true)
include hf hX0 hXs hX hru
omit hX hru in
theorem k43 {m rs ag zs} {tab:List (List Int)} {ts:List Tm} {LT:Int->List Tm} (w:kg6 m rs ag zs ts) (i:∀ u∈ts,u∈X0)
  (c:∀ a:Nat,a<sp.ya.length->∃ row,tab[a]?=some row/\kea ts ts.length row (LT (a:Int))/\(LT (a:Int)).length<=500000/\∀ t,t∈LT (a:Int)↔Bt sp.ya a t):
  ∃ out,kai (kc3 (sp,0) (rs,ag,zs,tab,m)) fuel (0,[],[])=some out/\out.Nodup/\(∀ t,t∈out↔InS sp t)/\out.length<=X0.length:=by
 have y:ts.length<=500000:=qa7 (kis w.nd i) hX0;have A:∀ t∈ts,t.size<=1000:=fun t ht=>hXs t (i t ht);have B:=kabw hf.roots;have C:=hf.nodes;obtain ⟨out,h1,sn,o⟩:=ku3 (step:=kc3 (sp,0) (rs,ag,zs,tab,m)) sp.ye.length (by omega)
  (fun k s=>s.1=(k:Int)/\OutQ ts (fun j=>∃ r∈sp.ye.take k,∃ t,ts[j]?=some t/\Bt sp.ya r.toNat t) s.2)
  (fun out=>∃ sn,OutQ ts (fun j=>∃ r∈sp.ye,∃ t,ts[j]?=some t/\Bt sp.ya r.toNat t) (sn,out))
  (fun k s hk hs=>by
   obtain ⟨sk,ss,so⟩:=s;obtain ⟨rfl,x⟩:=hs;have hr:=qa hk;obtain ⟨r,l⟩:∃ r,r=sp.ye[k]:=⟨_,rfl⟩;rw [<- l] at hr;obtain ⟨r0,r1⟩:=hf.roots.1 r (by rw [l];exact qaq _);obtain ⟨row,q1,⟨js,rfl,q2,q3⟩,q4,q5⟩:=c r.toNat (by omega);have D:js.length<=500000:=(by have:=qah List.length q3;simp only [qj] at this;omega);obtain ⟨⟨ss',so'⟩,w1,w2⟩:=kaa4 (tab:=tab) w A y q2 (by omega) x;have z:∀ j,j∈js↔∃ t,ts[j]?=some t/\Bt sp.ya r.toNat t:=fun j=>by
    constructor;intro p;have:ts[j]?∈(LT ((r.toNat:Nat):Int)).map some:=(by rw [<- q3];exact qx.2 ⟨j,p,rfl⟩);obtain ⟨t,ht,e⟩:=qx.1 this;exact ⟨t,e.symm,(q5 t).1 ht⟩
    ·rintro ⟨t,ht,d⟩;have:some t∈js.map fun j=>ts[j]?:=(by rw [q3];exact qbj ((q5 t).2 d));obtain ⟨k,hk,e⟩:=qx.1 this;have:k=j:=(List.getElem?_inj (q2 k hk) w.nd).1 (e.trans ht.symm);exact this ▸ hk
   refine ⟨(((k+1:Nat):Int),ss',so'),?_,rfl,?_⟩;unfold kc3;simp only;rw [qau (show (k:Int)<(sp.ye.length:Int) by omega),qr,kbt,hr,qh,idxN r0,q1,qh,w1,qh,kgx k]
   ·obtain ⟨js',z1,z2,z3,z4,z5⟩:=w2;refine ⟨js',z1,z2,z3,z4,fun j=>(z5 j).trans ?_⟩;show ((∃ r∈sp.ye.take k,∃ t,ts[j]?=some t/\Bt sp.ya r.toNat t)\/j∈js)↔∃ r∈sp.ye.take (k+1),∃ t,ts[j]?=some t/\Bt sp.ya r.toNat t;rw [z j,qay hk,<- l];constructor
    ·rintro (⟨r',h1,o⟩ | h);exact ⟨r',List.mem_append_left _ h1,o⟩
     ·exact ⟨r,qbr _ (qaa.2 rfl),h⟩
    ·rintro ⟨r',h1,o⟩;rcases qab.1 h1 with h1 | h1;exact .inl ⟨r',h1,o⟩
     ·rw [qaa] at h1;subst h1;exact .inr o)
  (fun s hs=>by obtain ⟨sk,ss,so⟩:=s;obtain ⟨rfl,x⟩:=hs;refine ⟨so,?_,ss,by rw [List.take_length] at x;exact x⟩;unfold kc3;simp only;rw [qax (by omega),qw])
  (s:=(0,[],[])) ⟨rfl,[],rfl,List.nodup_nil,(fun j p=>nomatch p),rfl,fun j=>by simp⟩
 obtain ⟨js,z1,z2,z3,z4,z5⟩:=o;simp only at z4;have g:∀ t,t∈out↔∃ j∈js,ts[j]?=some t:=fun t=>by
  have:t∈out↔some t∈out.map some:=by simp
  rw [this,<- z4,qx]
 have q:out.Nodup:=by refine ktg (f:=some) ?_;rw [<- z4];exact kys z2 fun a ha b d e=>(List.getElem?_inj (z3 a ha) w.nd).1 e
 refine ⟨out,h1,q,fun t=>?_,kis q fun t ht=>?_⟩
 ·rw [g];constructor;rintro ⟨j,p,ht⟩;obtain ⟨r,hr,t',v,d⟩:=(z5 j).1 p;rw [ht] at v;cases v;exact ⟨r,hr,(hf.roots.1 r hr).1,d⟩
  ·rintro ⟨r,hr,h0,d⟩;obtain ⟨row,q1,⟨js',rfl,q2,q3⟩,q4,q5⟩:=c r.toNat (knq d);have:some t∈js'.map fun j=>ts[j]?:=(by rw [q3];exact qbj ((q5 t).2 d));obtain ⟨k,hk,e⟩:=qx.1 this;exact ⟨k,(z5 k).2 ⟨r,hr,t,e,d⟩,e⟩
 ·obtain ⟨j,p,e⟩:=(g t).1 ht;exact i t (ql e)
variable {XT:Nat->List Tm} (hXT:∀ i,i<sp.ya.length->(∀ t,t∈XT i↔Bt sp.ya i t)/\(XT i).Nodup)
include hXT
theorem k74 (e:∀ i,i<sp.ya.length->(XT i).length<=4096) {Y:List Tm} (f:Y.Nodup) (d:∀ t,t∈Y↔InS sp t) (q:Y.length<=4096) (g:Y.Pairwise fun a b=>TV.cmpT b a<0->False):∀ (k i:Nat) (s:T6) (fu:Nat),sp.ya.length - i=k->i<=sp.ya.length->k<fu->JInv sp X0 i s->DlP (kbr (sp,0)) (kqr sp) (Y,(0:Int)) fu s:=by
 intro k
 induction k with
 | zero=>
  intro i s fu h1 u v h;obtain ⟨n,rfl⟩:∃ n,fu=n+1:=⟨fu - 1,by omega⟩;have hi:i=sp.ya.length:=by omega
  subst hi;obtain ⟨si,rs,ag,zs,tab,m⟩:=s;obtain ⟨rfl,ts,LT,p,j,l,c,_⟩:=h;simp only at p l c;refine ⟨.inr (.inl (rs,ag,zs,tab,m)),?_,?_⟩;unfold kbr;simp only;rw [qax (by omega),qw]
  ·show kqr sp (.inl (rs,ag,zs,tab,m))=some (Y,0);obtain ⟨out,o1,o2,o3,o4⟩:=k43 hf hX0 hXs p j c;have w:=kis (X:=Y) o2 fun t ht=>(d t).2 ((o3 t).1 ht);unfold kqr;simp only [qad];rw [o1,qh,qax (by omega),qw];have o:∀ t∈out,t.size<=1000:=fun t ht=>(by obtain ⟨r,_,_,x⟩:=(o3 t).1 ht;exact hXs t (hX _ _ x));have hst:kmp out=some (kiu out):=(by unfold kmp;rw [show (Nat.blt out.length 4611686018427387904 && out.all (fun t=>Nat.ble t.size 1000))=true from ?_,qr];rw [qo];refine ⟨Nat.ble_eq_true_of_le (by omega),qk.2 fun t ht=>Nat.ble_eq_true_of_le (o t ht)⟩);rw [hst,qh];rw [<- ks8 (xs:=out) (ys:=Y) ((List.perm_ext_iff_of_nodup f o2).2 fun t=>(d t).trans (o3 t).symm) g]
 | succ k ih=>
  intro i s fu h1 u v h;obtain ⟨n,rfl⟩:∃ n,fu=n+1:=⟨fu - 1,by omega⟩;obtain ⟨keys,next,q1,q2⟩:=kwb hf hX0 hXs hX hru (by omega) (hXT i (by omega)).1 (e i (by omega)) h;exact ⟨.inl (keys,next),q1,fun τ y=>ih (i+1) (next τ) n (by omega) (by omega) (by omega) (q2 τ y)⟩
theorem k7z {b:Nat} (a:b<sp.ya.length) (e:4096<(XT b).length) (c:∀ i,i<b->(XT i).length<=4096):∀ (k i:Nat) (s:T6) (fu:Nat),b - i=k->i<=b->k<fu->JInv sp X0 i s->DlP (kbr (sp,0)) (kqr sp) (([]:List Tm),(11:Int)) fu s:=by
 intro k
 induction k with
 | zero=>
  intro i s fu h1 f g d;obtain ⟨n,rfl⟩:∃ n,fu=n+1:=⟨fu - 1,by omega⟩;have hi:i=b:=by omega
  subst hi;exact ⟨.inr (.inr ()),k5e hf hX0 hXs hX hru a (hXT i a).1 (hXT i a).2 e d,rfl⟩
 | succ k ih=>
  intro i s fu h1 f g d;obtain ⟨n,rfl⟩:∃ n,fu=n+1:=⟨fu - 1,by omega⟩;obtain ⟨keys,next,q1,q2⟩:=kwb hf hX0 hXs hX hru (by omega) (hXT i (by omega)).1 (c i (by omega)) d;exact ⟨.inl (keys,next),q1,fun τ h=>ih (i+1) (next τ) n (by omega) (by omega) (by omega) (q2 τ h)⟩
omit hf hX0 hXs hX hru hXT in
theorem k8z:JInv sp X0 0 (0,[],[],[],List.replicate sp.ya.length [],[]):=by refine ⟨rfl,[],fun _=>[],?_,(fun u hu=>nomatch hu),by simp,fun a ha=>absurd ha (Nat.not_lt_zero a),fun a _ ha=>by simp [ha]⟩;exact ⟨⟨fun r xs=>⟨fun h=>Bool.noConfusion (show false=true from h),fun h=>by simp at h⟩,fun i r xs h=>by simp at h⟩,rfl,rfl,rfl,fun i xs t h=>by simp at h,List.nodup_nil⟩
omit hX0 hXs hX hru hXT in
theorem kw1 {a0:Spa} (ht:kdb a0=some (sp,0)) {r:List Tm×Int} (h:DlP (kbr (sp,0)) (kqr sp) r fuel (0,[],[],[],List.replicate sp.ya.length [],[])):kby a0=some r:=by have a:=hf.nodes;unfold kby;rw [ht,qh];show (bif ((0:Int) != 0) then _ else _)=_;rw [show ((0:Int) != 0)=false from rfl,qw];rw [show khu=some () from rfl,qh,kacz 24 ([]:List Int) sp.ya.length (by omega),qh];exact k7l (kqr sp) h
theorem kabe {a0:Spa} (ht:kdb a0=some (sp,0)) (c:∀ i,i<sp.ya.length->(XT i).length<=4096) {Y:List Tm} (d:Y.Nodup) (e:∀ t,t∈Y↔InS sp t) (f:Y.length<=4096) (g:Y.Pairwise fun a b=>TV.cmpT b a<0->False):kby a0=some (Y,0):=by have h:=hf.nodes;exact kw1 hf ht (k74 hf hX0 hXs hX hru hXT c d e f g sp.ya.length 0 _ fuel (by omega) (by omega) (ke6 (by omega)) k8z)
theorem kaab {a0:Spa} (ht:kdb a0=some (sp,0)) {b:Nat} (c:b<sp.ya.length) (d:4096<(XT b).length) (a:∀ i,i<b->(XT i).length<=4096):kby a0=some (([]:List Tm),11):=by have e:=hf.nodes;exact kw1 hf ht (k7z hf hX0 hXs hX hru hXT c d a b 0 _ fuel (by omega) (by omega) (ke6 (by omega)) k8z)
end
def optB (ns:List Nod) (i:Nat) (n:Nod) (o:Opn):Bool:=decide (0<=o.yd) && o.yb.all (fun a=>decide (0<=a) && decide (a<(i:Int))) && decide (1+(o.yb.map (szAt ns)).sum=n.yf)
def nodB (ns:List Nod) (i:Nat) (n:Nod):Bool:=decide (0<=n.yg) && (decide (1<=n.yf) && decide (n.yf<=24)) && n.yc.all (optB ns i n) && (n.yc.zip (n.yc.drop 1)).all fun p=>decide (kl6 p.1 p.2<0)
def conB (ns:List Nod):Bool:=ns.all fun n=>n.yc.all fun o=>ns.all fun m=>m.yc.all fun p=>bif decide (o.yd=p.yd) then decide (n.yg=m.yg) && decide (o.yb.map (syAt ns)=p.yb.map (syAt ns)) else true
def atB (ns:List Nod) (i:Nat) (f:Nod->Bool):Bool:=match ns[i]? with
 | some n=>f n
 | none=>true
def kua (s:Spa):Bool:=Nat.ble s.ya.length 4096 && s.ye.all (fun a=>decide (0<=a) && decide (a<(s.ya.length:Int))) && (s.ye.zip (s.ye.drop 1)).all (fun p=>decide (p.1<p.2)) &&
 (List.range s.ya.length).all (fun i=>atB s.ya i (nodB s.ya i)) && Nat.ble (optN s.ya) 32768 && conB s.ya
theorem k1i {α:Type} {l:List α} {i:Nat} {x y:α} (h1:l[i]?=some x) (a:l[i+1]?=some y):(x,y)∈l.zip (l.drop 1):=
 qbs.2 ⟨i,k25 h1 (by rw [qae,Nat.add_comm];exact a)⟩
theorem k1s {ns:List Nod} {i:Nat} {n:Nod} (f:Nat->Nod->Bool) (h:((List.range ns.length).all fun i=>atB ns i (f i))=true) (hn:ns[i]?=some n):f i n=true:=by have:=qk.1 h i (qbl.2 (qd.1 hn).1);unfold atB at this;rw [hn] at this;exact this
theorem k3f {s:Spa} (h:kua s=true):kpc s:=by
 unfold kua at h;simp only [qo] at h;obtain ⟨⟨⟨⟨⟨h1,c⟩,d⟩,e⟩,f⟩,g⟩:=h;refine ⟨qi h1,⟨fun x b=>?_,fun i x y b hy=>?_⟩,fun i n hn=>?_,qi f,fun i k n m o p hn hm ho hp hr=>?_⟩;simpa using qk.1 c x b;simpa using qk.1 d _ (k1i b hy)
 ·have:=k1s _ e hn;unfold nodB at this;simp only [qo,qa3] at this;obtain ⟨⟨⟨a1,a2⟩,a3⟩,a4⟩:=this;refine ⟨a1,a2,fun o ho=>?_,fun k o p ho hp=>?_⟩;have:=qk.1 a3 o ho;unfold optB at this;simp only [qo,qa3] at this;exact ⟨this.1.1,fun a ha=>by simpa using qk.1 this.1.2 a ha,this.2⟩
  ·simpa using qk.1 a4 _ (k1i ho hp)
 ·have:=qk.1 (qk.1 (qk.1 (qk.1 g n (ql hn)) o ho) m (ql hm)) p hp;rw [qau hr,qr] at this;simpa using this
def uniB (ns:List Nod):Bool:=(List.range ns.length).all fun i=>atB ns i fun n=>(List.range ns.length).all fun j=>atB ns j fun m=>bif decide (n.yg=m.yg) && decide (n.yf=m.yf) then decide (i=j) else true
theorem k6u {ns:List Nod} (h:uniB ns=true):k4e ns:=by intro i j n m hn hm e1 e2;have h1:=k1s (fun i n=>(List.range ns.length).all fun j=>atB ns j fun m=>bif decide (n.yg=m.yg) && decide (n.yf=m.yf) then decide (i=j) else true) h hn;have a:=k1s (fun j m=>bif decide (n.yg=m.yg) && decide (n.yf=m.yf) then decide (i=j) else true) h1 hm;rw [qau e1,qau e2] at a;simpa using a
theorem k2m {s:Spa} (h:(s.ya.all fun n=>n.yc.all fun o=>inI o.yd)=true):∀ n∈s.ya,∀ o∈n.yc,inI o.yd=true:=fun n hn o ho=>qk.1 (qk.1 h n hn) o ho
def cls (ns:List Nod):Nat->Int->Nat
 | 0,_=>0
 | i+1,a=>if a=(i:Int) then (match ns[i]? with | some n=>(n.yc.map fun o=>kwk (cls ns i) o.yb).sum | none=>0) else cls ns i a
theorem kx5 (ns:List Nod):∀ (i:Nat) (a:Int),(tls ns i a).length=cls ns i a
 | 0,_=>rfl
 | i+1,a=>by
  rw [tls,cls];split
  ·cases ns[i]? with
   | none=>rfl
   | some n=>
    simp only;unfold tlN tlO;rw [List.length_flatMap];congr 1;refine List.map_congr_left fun o _=>?_;rw [qj,k3o];exact qah (fun c=>kwk c o.yb) (funext (kx5 ns i))
  ·exact kx5 ns i a
def cnt (s:Spa) (i:Nat):Nat:=cls s.ya (i+1) (i:Int)
theorem k15 (s:Spa) (i:Nat):(TL s.ya i).length=cnt s i:=kx5 _ _ _
def allT (s:Spa):List Tm:=(List.range s.ya.length).flatMap (TL s.ya)
theorem kvo (s:Spa):(allT s).length=((List.range s.ya.length).map (cnt s)).sum:=by unfold allT;rw [List.length_flatMap];congr 1;exact List.map_congr_left fun i _=>k15 s i
theorem k4l (xs:List Tm):(kiu xs).Perm xs/\(kiu xs).Pairwise fun a b=>TV.cmpT b a<0->False:=by
 have an:=fun x y=>TV.cmpT_ord.anti x y trivial;have tr:=fun x y z=>TV.cmpT_ord.trans x y z trivial trivial trivial;refine ⟨List.mergeSort_perm _ _,(List.pairwise_mergeSort (le:=fun x y=>decide (TV.cmpT x y<=0)) (fun a b c h1 d=>?_) (fun a b=>?_) xs).imp fun {a b} h=>?_⟩;simp only [qa3] at h1 d ⊢;exact tr a b c h1 d;have:=an a b;simp only [qbm,qa3];omega
 ·have:=an a b;have:TV.cmpT a b<=0:=by simpa using h
  omega
section
variable {s:Spa} (hf:kua s=true) (hu:uniB s.ya=true) (hr:(s.ya.all fun n=>n.yc.all fun o=>inI o.yd)=true) (ht:kdb s=some (s,0)) (hn:Nat.ble ((List.range s.ya.length).map (cnt s)).sum 500000=true)
include hf hu hr ht hn
theorem k5v (d:s.ye=(List.range s.ya.length).map fun (i:Nat)=>(i:Int)) (h:Nat.ble ((List.range s.ya.length).map (cnt s)).sum 4096=true):∃ Y,kby s=some (Y,0)/\Y.length=((List.range s.ya.length).map (cnt s)).sum:=by
 have c:=k3f hf;have m:=k6u hu;have hn:=qi hn;have h:=qi h;rw [<- kvo] at h hn;have hXT:∀ i,i<s.ya.length->(∀ t,t∈TL s.ya i↔Bt s.ya i t)/\(TL s.ya i).Nodup:=fun i hi=>kxb c m (i+1) i (by omega) hi;have a:∀ t,t∈allT s↔∃ i,Bt s.ya i t:=fun t=>by unfold allT;rw [qat];exact ⟨fun ⟨i,hi,h⟩=>⟨i,((hXT i (qbl.1 hi)).1 t).1 h⟩,fun ⟨i,h⟩=>⟨i,qbl.2 (knq h),((hXT i (knq h)).1 t).2 h⟩⟩
 have f:(allT s).Nodup:=by unfold allT List.Nodup;rw [List.pairwise_flatMap];refine ⟨fun i hi=>(hXT i (qbl.1 hi)).2,List.Pairwise.imp_of_mem (fun {i j} hi n g x o y hy e=>?_) List.nodup_range⟩;subst e;exact g (k2o c m (((hXT i (qbl.1 hi)).1 x).1 o) (((hXT j (qbl.1 n)).1 x).1 hy))
 have k:∀ u∈allT s,u.size<=1000:=fun u hu=>by obtain ⟨i,b⟩:=(a u).1 hu;have hi:=qa (knq b);have h1:=ktn c u i _ hi b;have p:=(c.node i _ hi).size.2;omega
 obtain ⟨hp,hs⟩:=k4l (allT s);have l:∀ t,t∈kiu (allT s)↔InS s t:=fun t=>by
  rw [hp.mem_iff,a];unfold InS;rw [d];constructor;rintro ⟨i,b⟩;exact ⟨(i:Int),qx.2 ⟨i,qbl.2 (knq b),rfl⟩,by omega,b⟩
  ·rintro ⟨r,_,_,b⟩;exact ⟨_,b⟩
 refine ⟨kiu (allT s),kabe c (X0:=allT s) hn k (fun i t b=>(a t).2 ⟨i,b⟩) (k2m hr) hXT ht (fun i hi=>?_) (hp.nodup_iff.2 f) l (by rw [hp.length_eq];exact h) hs,by rw [hp.length_eq,kvo]⟩;have:=ks5 (TL s.ya i) (allT s) (hXT i hi).2 fun t ht=>(a t).2 ⟨i,((hXT i hi).1 t).1 ht⟩;omega
theorem k4q {b:Nat} (c:b<s.ya.length) (g:Nat.blt 4096 (cnt s b)=true) (e:((List.range b).all fun i=>Nat.ble (cnt s i) 4096)=true):kby s=some (([]:List Tm),11):=by
 have d:=k3f hf;have j:=k6u hu;have hn:=qi hn;rw [<- kvo] at hn;have hXT:∀ i,i<s.ya.length->(∀ t,t∈TL s.ya i↔Bt s.ya i t)/\(TL s.ya i).Nodup:=fun i hi=>kxb d j (i+1) i (by omega) hi;have a:∀ t,t∈allT s↔∃ i,Bt s.ya i t:=fun t=>by unfold allT;rw [qat];exact ⟨fun ⟨i,hi,h⟩=>⟨i,((hXT i (qbl.1 hi)).1 t).1 h⟩,fun ⟨i,h⟩=>⟨i,qbl.2 (knq h),((hXT i (knq h)).1 t).2 h⟩⟩
 have f:∀ u∈allT s,u.size<=1000:=fun u hu=>by obtain ⟨i,c⟩:=(a u).1 hu;have hi:=qa (knq c);have h1:=ktn d u i _ hi c;have k:=(d.node i _ hi).size.2;omega
 exact kaab d (X0:=allT s) hn f (fun i t c=>(a t).2 ⟨i,c⟩) (k2m hr) hXT ht c (by rw [k15];exact qi g) fun i hi=>by rw [k15];exact qi (qk.1 e i (qbl.2 hi))
end
def mNod (j:Nat):Nod:=match j with
 | 0=>⟨0,1,[⟨0,[]⟩,⟨2,[]⟩,⟨3,[]⟩,⟨4,[]⟩]⟩
 | j+1=>⟨0,((2*j+3:Nat):Int),(List.range (j+1)).map fun (a:Nat)=>⟨1,[(a:Int),((j - a:Nat):Int)]⟩⟩
def mSp (k:Nat):Spa:=⟨(List.range (k+1)).map mNod,(List.range (k+1)).map fun (i:Nat)=>(i:Int)⟩
open Go Go.RowKit Go.Proofs Go.Proofs.Tryz
variable {P:Program} {H:Type} {enc:TypeId×Value->H} {w:World} {base:Nat} {sp:Nat->Bool} {held:Bool}
theorem k1e {nm:String} {cs:Array Value} {g:Nat} (h:w.var? P nm=some cs) (a:P.globalNamed nm=some g):∃ e d,w.heap[g]?=some (.cells cs e d):=by
 unfold World.var? at h;rw [a,qh] at h;split at h;rename_i cs' e d b;injection h with h;subst h;exact ⟨e,d,b⟩
 ·cases h
theorem gl2_n : prog.globalNamed "math/bits.deBruijn32tab" = some 2 := by kernel_rfl
theorem gl2_t:(prog.globals[2]?).map (·.type)=some 243:=by kernel_rfl
theorem gl2_d:(Rows.laid_math_bits_deBruijn32tab:DataW Unit)=Lib.tabData .u8 gt2:=by kernel_rfl
theorem gl2_c:(gt2.map fun z=>Value.int .u8 z).toArray=gv2:=by kernel_rfl
theorem gl2_v {W : World} {cs : Array Value} {fuel : Nat} {p : List MemPlace} (hv : W.var? prog "math/bits.deBruijn32tab" = some cs) (h : DataW.trod (fun _ => ()) prog W 0 (fun _ => true) false fuel 243 cs.toList = some (Rows.laid_math_bits_deBruijn32tab, p)) : ∃ e d, W.heap[2]? = some (.cells gv2 e d) := by
 rw [gl2_d] at h;have:=Lib.cells_of_tab underlying243 underlying5 (by kernel_rfl) (by kernel_rfl) h;have e:cs=gv2:=by rw [<- gl2_c,<- this]
 rw [e] at hv;exact k1e hv gl2_n
theorem gl3_n : prog.globalNamed "math/bits.deBruijn64tab" = some 3 := by kernel_rfl
theorem gl3_t:(prog.globals[3]?).map (·.type)=some 244:=by kernel_rfl
theorem gl3_d:(Rows.laid_math_bits_deBruijn64tab:DataW Unit)=Lib.tabData .u8 gt3:=by kernel_rfl
theorem gl3_c:(gt3.map fun z=>Value.int .u8 z).toArray=gv3:=by kernel_rfl
theorem gl3_v {W : World} {cs : Array Value} {fuel : Nat} {p : List MemPlace} (hv : W.var? prog "math/bits.deBruijn64tab" = some cs) (h : DataW.trod (fun _ => ()) prog W 0 (fun _ => true) false fuel 244 cs.toList = some (Rows.laid_math_bits_deBruijn64tab, p)) : ∃ e d, W.heap[3]? = some (.cells gv3 e d) := by
 rw [gl3_d] at h;have:=Lib.cells_of_tab underlying244 underlying5 (by kernel_rfl) (by kernel_rfl) h;have e:cs=gv3:=by rw [<- gl3_c,<- this]
 rw [e] at hv;exact k1e hv gl3_n
theorem gl0_n : prog.globalNamed "internal/strconv.uint64pow10" = some 0 := by kernel_rfl
theorem gl0_t:(prog.globals[0]?).map (·.type)=some 239:=by kernel_rfl
theorem gl0_d:(Rows.laid_internal_strconv_uint64pow10:DataW Unit)=Lib.tabData .u64 gt0:=by kernel_rfl
theorem gl0_c:(gt0.map fun z=>Value.int .u64 z).toArray=gv0:=by kernel_rfl
theorem gl0_v {W : World} {cs : Array Value} {fuel : Nat} {p : List MemPlace} (hv : W.var? prog "internal/strconv.uint64pow10" = some cs) (h : DataW.trod (fun _ => ()) prog W 0 (fun _ => true) false fuel 239 cs.toList = some (Rows.laid_internal_strconv_uint64pow10, p)) : ∃ e d, W.heap[0]? = some (.cells gv0 e d) := by
 rw [gl0_d] at h;have:=Lib.cells_of_tab underlying239 underlying152 (by kernel_rfl) (by kernel_rfl) h;have e:cs=gv0:=by rw [<- gl0_c,<- this]
 rw [e] at hv;exact k1e hv gl0_n
def kto : List (String × DataW Unit) := [("math/bits.deBruijn32tab", Rows.laid_math_bits_deBruijn32tab), ("math/bits.deBruijn64tab", Rows.laid_math_bits_deBruijn64tab), ("internal/strconv.uint64pow10", Rows.laid_internal_strconv_uint64pow10)]
theorem kab1 {W:World} (h:W.ShapedOpen prog):GlbR W 1 #[]:=by
 obtain ⟨m,hm⟩:=Go.Proofs.cell_of_shapedOpen_int (zero:=#[.int .i64 0]) (g:=1) (t:=3) (k := .i64) h (of_decide_eq_true (by kernel_rfl)) (by kernel_rfl) rfl (by kernel_rfl) (by kernel_rfl) underlying3;obtain ⟨cs,a,hs,_⟩:=h.1 1 #[.int .i64 0] 3 (of_decide_eq_true (by kernel_rfl)) (by kernel_rfl);refine .inr ⟨rfl,m,3,(0,0),?_⟩;obtain ⟨l⟩:=cs
 match l,hs with
 | [u],_=>
  simp only [World.cell?,a] at hm;have hu:u = .int .i64 m:=by simpa using hm
  rw [a,hu]
theorem ks2 {H:Type} {enc:TypeId×Value->H} {a:Assume} {C:Checked} {os:Os} {f:FuncId} {fn:Func} {s:ChangeSpec} {conds:List PathCond} {apart fresh b again:Bool} {X:World->Array Value->Prop}
  (hX:∀ (w w':World) (args:Array Value),w.heap=w'.heap->X w args->X w' args)
  (own:ownKnob C.prog.godebug=none) (started:os.Started) (noInit:C.prog.inits.idxOf? f=none) (k:C.prog.funcs[f]?=some fn)
  (witness:∃ (w:World) (tape:Tape) (i:Input),w.os=os/\(w.forCall tape i).Shaped C.prog/\i.vars=[]/\Input.okWide C.prog (w.forCall tape i) .any w.heap.size f i /\
   ((s.pre enc C.prog fn conds apart (w.forCall tape i).memory i.args/\X (w.forCall tape i).memory i.args)/\sizedMet enc C.prog fn (OpenSpec.ofChange s) apart (w.forCall tape i).memory i.args)/\a.holds C.prog (lone (Frame.enter C.prog f i.args .normal) [] (w.forCall tape i)))
  (contract:∀ (W:World) (base:Nat) (args:Array Value) (ds gs:List (DataW H)) (before:List MemPlace),
   (∀ (j:Nat) t v,fn.params[j]?=some t->args[j]?=some v->Value.okWide C.prog W .any base t v) ->
   DataW.Whole enc C.prog fn.params.toList s.vars apart W args.toList ds gs before->X W args->W.ShapedOpen C.prog ->
   Calls C.prog f args W fun e W'=>∃ v,e = .returned v/\s.post enc C.prog fn apart fresh b again W args v W'):
  ReturnsInHanded a C os f .any (fun w args=>(s.pre enc C.prog fn conds apart w args/\X w args)/\sizedMet enc C.prog fn (OpenSpec.ofChange s) apart w args) (s.post enc C.prog fn apart fresh b again):=by
 refine returnsInHanded_of_calls own started noInit witness ?_;intro w tape i _ l _ m c h;obtain ⟨_,_,_,fn',d,_,_,_,_,g⟩:=m;have e:fn'=fn:=qy (d.symm.trans k);subst e;obtain ⟨⟨⟨ds,gs,before,o,hc⟩,p⟩,r⟩:=c;have n:=DataW.Whole.of_heap (w':=w.forCall tape i) (by rfl) o;refine (contract (w.forCall tape i) w.heap.size i.args ds gs before g n (hX _ _ _ (by rfl) p) l).mono fun e W' ⟨v,q,hp⟩=>?_;subst q;exact ChangeSpec.post_blind hp
theorem kack {W:World} (h:laidMetH prog kto W) (a:W.ShapedOpen prog):∀ p,p∈GV->GlbR W p.1 p.2:=by
 have h:laidMet prog kto W:=h;obtain ⟨ps,hl,_⟩:=h;simp only [kto,DataW.LaidVars] at hl;obtain ⟨g0,t0,c0,u0,p0,q0,n0,y0,v0,d0,⟨g1,t1,c1,u1,p1,q1,n1,y1,v1,d1,⟨g2,t2,c2,u2,p2,q2,n2,y2,v2,d2,_,_⟩,_⟩,_⟩:=hl;obtain rfl:=qy (gl2_t.symm.trans (by rw [qy (gl2_n.symm.trans n0)];exact y0));have z2:=gl2_v v0 d0;obtain rfl:=qy (gl3_t.symm.trans (by rw [qy (gl3_n.symm.trans n1)];exact y1));have z3:=gl3_v v1 d1;obtain rfl:=qy (gl0_t.symm.trans (by rw [qy (gl0_n.symm.trans n2)];exact y2));have z0:=gl0_v v2 d2;intro p hp;simp only [GV,qan,List.not_mem_nil,or_false] at hp;rcases hp with rfl | rfl | rfl | rfl;exact .inl ⟨of_decide_eq_true (by kernel_rfl),z0⟩;exact .inl ⟨of_decide_eq_true (by kernel_rfl),z2⟩;exact .inl ⟨of_decide_eq_true (by kernel_rfl),z3⟩
 ·exact kab1 a
noncomputable def kx7 (os:Os):World:=
 let w0:=World.holding prog os ⟨#[],#[],[]⟩
 { w0 with heap:=(((w0.heap).modify 0 (fun | Obj.cells _ t fr=>Obj.cells gv0 t fr | o=>o)).modify 2 (fun | Obj.cells _ t fr=>Obj.cells gv2 t fr | o=>o)).modify 3 (fun | Obj.cells _ t fr=>Obj.cells gv3 t fr | o=>o) }
theorem ky3 (os:Os) (args:Array Value):laidMetH prog kto ((kx7 os).forCall (fun _ _=>0) ⟨#[],args,[]⟩).memory:=
 laidMetH_of_parts (laidMet_of_run' 8 (by kernel_rfl) (by kernel_rfl)) (by kernel_rfl)
def inRu (i:Int):Ru:=Ru.mk 0 1 i (Va.mk 0 0 (⟨#[]⟩:BA) []) (⟨#[]⟩:BA) []
def mRu0:List Ru:=[inRu 0,Ru.mk 0 3 0 (Va.mk 0 0 (⟨#[]⟩:BA) []) (⟨#[97,100,100]⟩:BA) [0,0]]
def mRu:List Ru:=mRu0++[inRu 1,inRu 2,inRu 3]
def mLa:La:=La.mk (⟨#[110]⟩:BA) [2,2,2,2] [Sy.mk (⟨#[83]⟩:BA) 2] mRu
theorem kaav:kai kdg fuel (1,mRu0)=some mRu:=by kernel_rfl
theorem few_m (k:Nat) (hf:kua (mSp k)=true) (hu:uniB (mSp k).ya=true) (hr:((mSp k).ya.all fun n=>n.yc.all fun o=>inI o.yd)=true) (ht:kdb (mSp k)=some (mSp k,0))
  (hn:Nat.ble ((List.range (mSp k).ya.length).map (cnt (mSp k))).sum 4096=true):∃ Y,kby (mSp k)=some (Y,0)/\Y.length=((List.range (mSp k).ya.length).map (cnt (mSp k))).sum:=
 k5v hf hu hr ht (Nat.ble_eq_true_of_le (by have:=qi hn;omega)) (by unfold mSp;rw [qj,List.length_range]) hn
theorem k5r {a0:Int} {k:Nat} (h1:1<=a0) (d:a0<=11) (hA:kid mLa 0 a0=some (mSp k,0)) (f:khi (mSp k)=some false)
  (a:(9<=a0/\kby (mSp k)=some (([]:List Tm),11))\/(a0<9/\∃ (Y:List Tm) (e:Int),kby (mSp k)=some (Y,0)/\kcr mLa 0 a0=some ((Y.length:Int),e))):kas a0=some true:=by
 have b:kcp=some true:=rfl;unfold kas;rw [qax (show ¬ a0<1 by omega),qw,qax (show ¬ 11<a0 by omega),qh];simp only [qw];rw [show kd0=some () from rfl,qh];have hr:=kaav;unfold mRu0 inRu at hr;rw [hr,qh];show Option.bind (kid mLa 0 a0) _=_;rw [hA,qh];simp only;rw [show ((0:Int) != 0)=false from rfl,qw,f,qh,qh,qw];rcases a with ⟨c,a⟩ | ⟨c,Y,e,a,hn⟩;rw [a,qh,qau c,qr];simp only [b,qh];rfl
 ·rw [a,qh,qax (by omega),qw];show Option.bind (kcr mLa 0 a0) _=_;rw [hn,qh];simp only [beq_self_eq_true,qr,b,qh]
theorem kmx {a0:Int} (k:Nat) (e:Int) (c:Nat) (h1:1<=a0:=by omega) (b:a0<9:=by omega) (hA:kid mLa 0 a0=some (mSp k,0):=by kernel_rfl) (d:khi (mSp k)=some false:=by kernel_rfl) (hf:kua (mSp k)=true:=by kernel_rfl) (hu:uniB (mSp k).ya=true:=by kernel_rfl) (hr:((mSp k).ya.all fun n=>n.yc.all fun o=>inI o.yd)=true:=by kernel_rfl) (ht:kdb (mSp k)=some (mSp k,0):=by kernel_rfl) (hc:((List.range (mSp k).ya.length).map (cnt (mSp k))).sum=c:=by kernel_rfl) (a:Nat.ble c 4096=true:=by kernel_rfl) (hn:kcr mLa 0 a0=some ((c:Int),e):=by kernel_rfl):kas a0=some true:=by
 obtain ⟨Y,f,g⟩:=few_m k hf hu hr ht (by rw [hc];exact a);exact k5r h1 (by omega) hA d (.inr ⟨b,Y,e,f,by rw [g,hc];exact hn⟩)
theorem kxd {a0:Int} (k:Nat) (c:9<=a0:=by omega) (a:a0<=11:=by omega) (hA:kid mLa 0 a0=some (mSp k,0):=by kernel_rfl) (d:khi (mSp k)=some false:=by kernel_rfl) (hf:kua (mSp k)=true:=by kernel_rfl) (hu:uniB (mSp k).ya=true:=by kernel_rfl) (hr:((mSp k).ya.all fun n=>n.yc.all fun o=>inI o.yd)=true:=by kernel_rfl) (ht:kdb (mSp k)=some (mSp k,0):=by kernel_rfl) (hn:Nat.ble ((List.range (mSp k).ya.length).map (cnt (mSp k))).sum 500000=true:=by kernel_rfl) (e:Nat.blt 4 (mSp k).ya.length=true:=by kernel_rfl) (f:Nat.blt 4096 (cnt (mSp k) 4)=true:=by kernel_rfl) (b:((List.range 4).all fun i=>Nat.ble (cnt (mSp k) i) 4096)=true:=by kernel_rfl):kas a0=some true:=
 k5r (by omega) a hA d (.inl ⟨c,k4q hf hu hr ht hn (qi e) f b⟩)
theorem ky2 (most:Int) (_:kio most):kas most=some true:=by
 have a:kcp=some true:=rfl;by_cases h:most<1;unfold kas;rw [qau h,qr];simp only [qh,qr,a];by_cases b:11<most;unfold kas;rw [qax h,qw,qau b];simp only [qh,qr,a];have hm:most=1\/most=2\/most=3\/most=4\/most=5\/most=6\/most=7\/most=8\/most=9\/most=10\/most=11:=by omega
 rcases hm with rfl | rfl | rfl | rfl | rfl | rfl | rfl | rfl | rfl | rfl | rfl;exact kmx 0 0 4;exact kmx 0 0 4;exact kmx 1 0 20;exact kmx 1 0 20;exact kmx 2 0 148;exact kmx 2 0 148;exact kmx 3 0 1428;exact kmx 3 0 1428;exact kxd 4;exact kxd 4
 ·exact kxd 5
open Go Go.RowKit Go.ChangeShapes Go.WideShapes Go.Proofs.Tryz
theorem kacx:laidOutB Tryz.checked.prog=true:=by as_aux_lemma=>kernel_rfl
theorem k9y:mapsRowed Tryz.checked.prog=true:=by as_aux_lemma=>kernel_rfl
theorem kaaj:Tryz.checked.prog.stopsHeard=true:=by as_aux_lemma=>kernel_rfl
theorem kaaa:Tryz.checked.prog.liftsFinal=false:=by as_aux_lemma=>kernel_rfl
theorem k4r:Tryz.checked.prog.mayEnter=true:=by as_aux_lemma=>kernel_rfl
theorem kacv:Tryz.checked.prog.make=some .cut:=by as_aux_lemma=>kernel_rfl
open Go Go.RowKit Go.ChangeShapes Go.WideShapes Go.ChangeAt Go.Proofs.Tryz
set_option maxRecDepth 100000 in
theorem ku0 (os:Os) (started:os.Started) (H:Type) (enc:TypeId×Value->H):
  ReturnsInHanded {} Tryz.checked os 3 .any (fun w args=>(Rows.spaceManySpec.pre enc prog Tryz.f3 Rows.spaceManyRow.domain false w args/\laidMetH prog Rows.spaceManyRow.laid w)/\sizedMet enc prog Tryz.f3 (OpenSpec.ofChange Rows.spaceManySpec) false w args) (Rows.spaceManySpec.post enc prog Tryz.f3 false true false false):=by
 refine ks2 (C:=Tryz.checked) (X:=fun w _=>laidMetH prog kto w) (fun _ _ _ m h=>h.of_heap m) k7m started (by kernel_rfl) func3
  (ChangeSpec.witness_at (enc:=enc) (C:=Tryz.checked) (os:=os) (X:=fun w _=>laidMetH prog kto w) false (kx7 os) #[.int .i64 0] 8 rfl (by kernel_rfl) (by kernel_rfl) (by kernel_rfl) (by kernel_rfl) (by kernel_rfl) (ky3 os _)) ?_
 intro W base args ds gs before b k n c;have a:∀ (j:Nat) t v,Tryz.f3.params[j]?=some t->args[j]?=some v->Value.okWide prog W .any base t v:=b;have d:=k;obtain ⟨p,q,f,o,rfl,r,s⟩:=k;have hA:DataW.TrodAll enc prog W 0 (fun _=>true) true Tryz.f3.params.toList args.toList ds p:=f;rw [Tryz.params3] at hA a;obtain ⟨v0,vs0,d0,ds0,p0,q0,g,rfl,rfl,h0,r0⟩:=trodAll_cons hA;obtain ⟨rfl,rfl,rfl⟩:=trodAll_nil r0;obtain rfl:args=#[v0]:=by cases args;simp_all
 obtain ⟨rfl,rfl⟩:=trodVars_none o;obtain ⟨x0,e0,b0⟩:=kacq underlying3 (a 0 3 v0 rfl rfl) h0;refine (k44 [eI x0] (kk5 x0 true (ky2 x0 b0)) rfl ?_ (kack n c)).mono fun e W' ⟨u,y⟩=>?_
 ·intro i v x hv l
  match i with
  | 0=>simp at hv l;subst hv l;exact e0
  | i+1=>simp at hv
 subst u;exact ⟨_,rfl,k8h k8n (by rw [Tryz.params3];intro t ht;simp at ht;rcases ht with rfl <;> exact ⟨by kernel_rfl,of_decide_eq_true (by kernel_rfl)⟩) rfl underlying4 rfl rfl d y⟩
set_option maxHeartbeats 4000000 in
theorem ku5:joinedFacts Tryz.checked.prog 3 Tryz.f3 Rows.spaceManySpec Rows.spaceManyRow=true:=by
 unfold joinedFacts;simp only [k4r,kaaa,kacv,kacx,k9y,kaaj,qo,Bool.and_true]
 repeat' apply And.intro
 all_goals (as_aux_lemma=>kernel_rfl)
theorem kwt:Rows.SpaceManySaid:=
 OpenClaim.holds_of_wide 3 Tryz.f3 rfl rfl rfl rfl rfl rfl rfl ⟨rfl,rfl,rfl,rfl,rfl⟩ rfl rfl rfl rfl rfl (by kernel_rfl) func3 ku5
  (of_decide_eq_true (by kernel_rfl)) (by unfold Func.isWrapper;rw [qq (of_decide_eq_false (by kernel_rfl))];exact ⟨rfl,rfl⟩)
  (fun os started H enc _=>ku0 os started H enc)
theorem spaceMany_card_holds:Rows.SpaceManyCardSaid:=
 Claim7.holds_tied_plain_at .later [] [.data, .data, .data] true (true, "2f687f4a771acedf4e90598028c1ab1f5e246762f9b6d04b8e8e8d55cbdc5a5b") true kwt (fun _ h => by cases h) (by kernel_rfl) (fun _ h => by cases h) spaceMany_row_tie rfl ⟨rfl, rfl⟩ (by kernel_rfl) rfl
  (fun f fn hf a=>by
   obtain rfl : f = 3 := qy ((show prog.funcNamed "synthesis/synthesislaw25.SpaceMany" = some 3 by kernel_rfl).symm.trans hf) |>.symm;obtain rfl:fn=Tryz.f3:=(qy (func3.symm.trans a)).symm;exact ⟨by kernel_rfl,fun j t ht=>by
    rw [Tryz.params3] at ht
    match j with
    | 0=>obtain rfl:=qy ht;exact (show prog.wantsStandIn 3=false by kernel_rfl)
    | j+1=>simp at ht⟩)
  (by kernel_rfl)
end Go.Proofs.YtnlhjbnpjefjgabGreatDoor
