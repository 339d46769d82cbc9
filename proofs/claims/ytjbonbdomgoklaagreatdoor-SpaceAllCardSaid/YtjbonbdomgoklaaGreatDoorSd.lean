import Derived.Test.YtjbonbdomgoklaaGreatDoorSa
import Derived.Test.YtjbonbdomgoklaaGreatDoorHd
import Derived.Test.YtjbonbdomgoklaaGreatDoorSim
import Derived.Deep.Fields
import Derived.Test.YtjbonbdomgoklaaGreatDoorDm
import Derived.Test.YtjbonbdomgoklaaGreatDoorZE
set_option linter.all false
set_option maxRecDepth 100000
namespace Go.Proofs.YtjbonbdomgoklaaGreatDoor
open Go Go.RowKit Go.Proofs.Tryz
def fg (l:List Bool) (i:Nat):Bool:=(l[i]?).getD false
theorem kmv (l:List Bool) {a:Int} (h0:0<=a) (h1:a<(l.length:Int):=by omega):idx l a=some (fg l a.toNat):=by
 have b:a.toNat<l.length:=by omega
 unfold idx fg;rw [ql h0,qb b];rfl
theorem kng {l:List Bool} {i:Nat} (h:i<l.length:=by omega):l[i]?=some (fg l i):=by unfold fg;rw [qb h];rfl
theorem kj8 {l:List Bool} {i:Nat} (h:i<l.length) (b:Bool) (j:Nat):fg (l.set i b) j=if j=i then b else fg l j:=by
 unfold fg;by_cases a:j=i;subst a;rw [ql rfl,qbr h];rfl
 ·rw [qi a,qbw (by omega)]
theorem k5j (n i:Nat):fg (List.replicate n false) i=false:=by unfold fg;rw [qbu];split <;> rfl
theorem kqt {l:List Int} {n:Nat} (h:AscP l n):l.length<=n:=by
 have key:∀ (i:Nat) (x:Int),l[i]?=some x->(i:Int)<=x:=by
  intro i
  induction i with
  | zero=>intro x a;exact (h.1 x (qp a)).1
  | succ i ih=>
   intro x a;have hi:=ka8 a;have hy:=qb (l:=l) (i:=i) (by omega);have:=h.2 i _ x hy a;have:=ih _ hy;omega
 by_cases h0:l.length=0;omega
 ·have a:=qb (l:=l) (i:=l.length - 1) (by omega);have h1:=key _ _ a;have b:=(h.1 _ (qp a)).2;omega
theorem kgt {s:Spa} (hf:kb6 s) {i:Nat} {n:Nod} {o:Opn} (hn:s.ya[i]?=some n) (ho:o∈n.yc):o.yb.length<=24:=by
 have c:=hf.node i n hn;have d:=c.opt o ho;have key:∀ l:List Int,(∀ a∈l,0<=a/\a<(i:Int))->(l.length:Int)<=(l.map (szAt s.ya)).sum:=by
  intro l
  induction l with
  | nil=>intro _;simp
  | cons a l ih=>
   intro h;have h1:=ih fun b f=>h b (qk _ f);have e:=h a (qo ..);have g:=ka8 hn;obtain ⟨m,_,e2,e3,_⟩:=kni s.ya e.1 (by omega);have j:=(hf.node _ m e2).size;simp only [qat,qa2,List.sum_cons];omega
 have h1:=key _ d.args;have e:=d.size;have g:=c.size;omega
theorem kq3 {f g:Nat->Bool} {o:Opn} (h:∀ a∈o.yb,f a.toNat=g a.toNat):kar f o=kar g o:=by unfold kar;rw [Bool.eq_iff_iff,qr,qr];exact ⟨fun k a ha=>by rw [<- h a ha];exact k a ha,fun k a ha=>by rw [h a ha];exact k a ha⟩
theorem kxc {o:Opn} {l:List Bool} (h:∀ a∈o.yb,0<=a/\a<(l.length:Int)) (g:o.yb.length<=9223372036854775807):kcw o l=some (kar (fg l) o):=by
 unfold kcw
 let bad:Nat->Bool:=fun j=>!fg l ((o.yb[j]?).getD 0).toNat
 have hs:∀ j,j<o.yb.length->kev o l (j:Int)=if bad j=true then some (.inr (.inr false)) else some (.inl ((j+1:Nat):Int)):=fun j c=>by
  have ha:=h _ (qn c);have e:bad j=!fg l o.yb[j].toNat:=by show (!fg l ((o.yb[j]?).getD 0).toNat)=_;rw [qb c,qaf]
  rw [e];simp only [kev,kao c,qd,kaf,qb c,qa,kak c g,kmv _ ha.1 (h1:=ha.2)];cases fg l o.yb[j].toNat <;> rfl
 have i:kev o l (o.yb.length:Int)=some (.inr (.inl ())):=by simp only [kev,kan,qc]
 rcases kmk (kev o l) o.yb.length bad (fun _ => .inr false) (.inl ()) hs i with ⟨j,c,f,_,hr⟩ | ⟨f,hr⟩
 ·rw [hr];have b:(!fg l ((o.yb[j]?).getD 0).toNat)=true:=f;rw [qb c,qaf] at b;have:kar (fg l) o=false:=by rw [Bool.eq_false_iff];intro d;have:=qr.1 d _ (qn c);rw [this] at b;cases b
  rw [this];rfl
 ·rw [hr];have:kar (fg l) o=true:=qr.2 fun a ha=>by
   obtain ⟨j,c,rfl⟩:=qal.1 ha;have b:(!fg l ((o.yb[j]?).getD 0).toNat)=false:=f j c;rw [qb c,qaf] at b;cases k:fg l o.yb[j].toNat with
   | true=>rfl
   | false=>rw [k] at b;cases b
  rw [this];rfl
section
variable {s:Spa} (hf:kb6 s)
include hf
theorem olen {i:Nat} {n:Nod} (hn:s.ya[i]?=some n):n.yc.length<=32768:=qag (ksc hn) hf.opts
theorem klf {i:Nat} {n:Nod} {o:Opn} (hn:s.ya[i]?=some n) (ho:o∈n.yc) {a:Int} (ha:a∈o.yb):0<=a/\a<(i:Int)/\a<(s.ya.length:Int):=by have h1:=((hf.node i n hn).opt o ho).args a ha;have b:=ka8 hn;omega
def kon (s:Spa) (l:List Bool) (i:Nat):Prop:=∀ n,s.ya[i]?=some n->(fg l i=true↔∃ o∈n.yc,kar (fg l) o=true)
theorem k7i:Ev (kiw s) fun l=>l.length=s.ya.length/\∀ i,i<s.ya.length->kon s l i:=by
 have v:=hf.nodes;unfold kiw;rw [kla 1 false s.ya.length,qa];refine kc7 (Ev.mono (kbo (xs:=s.ya) (step:=khm s) (Q:=fun l=>l.length=s.ya.length/\∀ i,i<s.ya.length->kon s l i) (fun (i:Nat) (l:List Bool)=>((i:Int),l))
  (fun i l=>l.length=s.ya.length/\(∀ k,k<i->kon s l k)/\∀ k,i<=k->fg l k=false) (t0:=List.replicate s.ya.length false) (by omega) ⟨qa0,fun k h=>by omega,fun k _=>k5j _ _⟩ (fun i l hi ⟨h1,d,t⟩=>?_) (fun l ⟨h1,d,t⟩=>?_)) ?_)
 ·have hn:=qb hi;have w:=olen hf hn;simp only [khm,kao hi,qd,kak hi (show s.ya.length<=9223372036854775807 by omega)];refine kc7 (Ev.mono (kbo (xs:=s.ya[i].yc) (step:=khl s ((i:Int),l)) (Q:=fun l'=>l'.length=s.ya.length/\(∀ k,k≠i->fg l' k=fg l k)/\(fg l' i=true↔∃ o∈s.ya[i].yc,kar (fg l) o=true)) (fun (k:Nat) (l':List Bool)=>((k:Int),l'))
   (fun k l'=>l'.length=s.ya.length/\(∀ k,k≠i->fg l' k=fg l k)/\(fg l' i=true↔∃ o∈s.ya[i].yc.take k,kar (fg l) o=true)) (t0:=l) (by omega) ⟨h1,fun _ _=>rfl,by simp [t i (qx _)]⟩ (fun k l' hk ⟨g1,g2,g3⟩=>?_) (fun l' ⟨g1,g2,g3⟩=>?_)) ?_)
  rotate_left
  ·have ho:=qb hk;have hm:=qn hk;have g:i<l'.length:=(by omega);have p:kcw s.ya[i].yc[k] l'=some (kar (fg l) s.ya[i].yc[k]):=(by rw [kxc (fun a ha=>by have:=klf hf hn hm ha;omega) (by have:=kgt hf hn hm;omega)];congr 1;exact kq3 fun a ha=>g2 _ (by have:=klf hf hn hm ha;omega));have hst:∀ b:Bool,(b=true↔(fg l' i=true\/kar (fg l) s.ya[i].yc[k]=true))->(l'.set i b).length=s.ya.length/\(∀ k,k≠i->fg (l'.set i b) k=fg l k)/\(fg (l'.set i b) i=true↔∃ o∈s.ya[i].yc.take (k+1),kar (fg l) o=true):=fun b r=>by
    refine ⟨by rw [qbk];exact g1,fun j u=>by rw [kj8 g,qi u];exact g2 j u,?_⟩;rw [kj8 g,ql rfl,r,g3,qae hk];simp only [qak,qai];constructor
    ·rintro (⟨o,h1,d⟩ | d);exact ⟨o, .inl h1,d⟩
     ·exact ⟨_, .inr rfl,d⟩
    ·rintro ⟨o,h1 | rfl,d⟩;exact .inl ⟨o,h1,d⟩
     ·exact .inr d
   simp only [khl,kaf,hn,qa,kao hk,qd,kng (h:=g),kak hk (show s.ya[i].yc.length<=9223372036854775807 by omega),ho,p,qah];cases r:fg l' i with
   | true=>
    simp only [qd,qa];exact ⟨_,rfl,_,rfl,hst true (by simp [r])⟩
   | false=>
    simp only [qc,qa];exact ⟨_,rfl,_,rfl,hst _ (by simp [r])⟩
  refine ⟨_,by simp only [khl,kaf,hn,qa,kan,qc],_,rfl,g1,g2,?_⟩;rw [qar] at g3;exact g3
  ·rintro l' ⟨g1,g2,g3⟩;refine ⟨_,rfl,_,rfl,g1,fun k hk n e=>?_,fun k hk=>?_⟩
   ·have f:∀ o∈n.yc,kar (fg l') o=kar (fg l) o:=fun o ho=>kq3 fun a ha=>g2 _ (by have:=klf hf e ho ha;omega);by_cases q:k=i;subst q;rw [hn] at e;cases e;rw [g3];exact ⟨fun ⟨o,c,m⟩=>⟨o,c,by rw [f o c];exact m⟩,fun ⟨o,c,m⟩=>⟨o,c,by rw [<- f o c];exact m⟩⟩
    ·rw [g2 k q,d k (by omega) n e];exact ⟨fun ⟨o,c,m⟩=>⟨o,c,by rw [f o c];exact m⟩,fun ⟨o,c,m⟩=>⟨o,c,by rw [<- f o c];exact m⟩⟩
   ·rw [g2 k (by omega)];exact t k (by omega)
 exact ⟨_,by simp only [khm,kan,qc],_,rfl,h1,d⟩
 ·intro l h;exact ⟨l,rfl,h⟩
omit hf in
theorem k82 {l:List Bool} (h:∀ i,i<s.ya.length->kon s l i):∀ (t:Tm) (i:Nat),Bt s.ya i t->fg l i=true:=by
 intro t
 induction t using Tm.ind with
 | h r ts ih=>
  intro i d;obtain ⟨n,o,ts',hn,ho,e,hs⟩:=d.inv;injection e with b c;subst b c;refine (h i (ka8 hn) n hn).2 ⟨o,ho,qr.2 fun a ha=>?_⟩;have key:∀ {vs:List Int} {ts:List Tm},Bts s.ya vs ts->(∀ t∈ts,∀ i,Bt s.ya i t->fg l i=true)->∀ a∈vs,fg l a.toNat=true:=by
   intro vs
   induction vs with
   | nil=>intro ts _ _ a ha;simp at ha
   | cons v vs ih2=>
    intro ts hs hi a ha;cases hs with
    | cons h0 ht hs=>
     rcases qan.1 ha with rfl | ha;exact hi _ (qo ..) _ ht
     ·exact ih2 hs (fun t ht=>hi t (qk _ ht)) a ha
  exact key hs ih a ha
theorem k0b {l:List Bool} (hl:l.length=s.ya.length):Ev (kac (kb2 s l) fuel (0,List.replicate s.ya.length false)) fun p=>p.length=s.ya.length/\∀ r∈s.yg,fg p r.toNat=fg l r.toNat:=by
 have e:=kqt hf.roots;have f:=hf.nodes;refine kbo (xs:=s.yg) (step:=kb2 s l) (fun (j:Nat) (p:List Bool)=>((j:Int),p)) (fun j p=>p.length=s.ya.length/\∀ r∈s.yg.take j,fg p r.toNat=fg l r.toNat) (by omega) ⟨qa0,by simp⟩ (fun j p b ⟨h1,d⟩=>?_) (fun p ⟨h1,d⟩=>?_)
 ·have hr:=qb b;have c:=hf.roots.1 _ (qn b);simp only [kb2,kao b,qd,kaf,hr,qa,kmv l c.1,kmv p c.1,kak b (show s.yg.length<=9223372036854775807 by omega)];refine ⟨_,rfl,_,rfl,by rw [qbk];exact h1,fun r a=>?_⟩;rw [kj8 (by omega)];split;rename_i h;rw [h]
  ·rename_i h;rw [qae b,qak,qai] at a;rcases a with a | rfl;exact d r a
   ·exact absurd rfl h
 ·refine ⟨_,by simp only [kb2,kan,qc],_,rfl,h1,fun r hr=>d r ?_⟩;rw [qar];exact hr
theorem k6i {l p:List Bool} {i:Nat} {n:Nod} {o:Opn} (hl:l.length=s.ya.length) (hp:p.length=s.ya.length) (hn:s.ya[i]?=some n) (ho:o∈n.yc):Ev (kac (kbg l o) fuel (0,p)) fun q=>
  q.length=s.ya.length/\(∀ k,fg p k=true->fg q k=true)/\(∀ k,i<=k->fg q k=fg p k)/\(kar (fg l) o=true->∀ a∈o.yb,fg q a.toNat=true):=by
 have t:=kgt hf hn ho;have u:=hf.nodes;have b:kcw o l=some (kar (fg l) o):=kxc (fun a ha=>by have:=klf hf hn ho ha;omega) (by omega);cases r:kar (fg l) o with
 | false=>
  rw [r] at b;refine ⟨p,?_,hp,fun k h=>h,fun k _=>rfl,fun h=>by cases h⟩;show kac _ fuel _=_;rw [show fuel=18446744073709551615+1 from rfl,kac];have:kbg l o (0,p)=some (.inr p):=by
   simp only [kbg];by_cases h0:(0:Int)<(o.yb.length:Int);rw [qj h0,qd,b];rfl
   ·rw [qg h0];rfl
  rw [this]
 | true=>
  rw [r] at b;refine Ev.mono (kbo (xs:=o.yb) (step:=kbg l o) (Q:=fun q=>q.length=s.ya.length/\(∀ k,fg p k=true->fg q k=true)/\(∀ k,i<=k->fg q k=fg p k)/\∀ a∈o.yb,fg q a.toNat=true) (fun (j:Nat) (q:List Bool)=>((j:Int),q))
   (fun j q=>q.length=s.ya.length/\(∀ k,fg p k=true->fg q k=true)/\(∀ k,i<=k->fg q k=fg p k)/\∀ a∈o.yb.take j,fg q a.toNat=true) (t0:=p) (by omega) ⟨hp,fun k h=>h,fun k _=>rfl,by simp⟩ (fun j q e ⟨h1,f,g,d⟩=>?_) (fun q ⟨h1,f,g,d⟩=>?_)) (fun q ⟨h1,f,g,d⟩=>⟨h1,f,g,fun _=>d⟩)
  ·have ha:=qb e;have m:=klf hf hn ho (qn e);simp only [kbg,kao e,qd,b,qa,kaf,ha,kmv q m.1,kak e (show o.yb.length<=9223372036854775807 by omega)];refine ⟨_,rfl,_,rfl,by rw [qbk];exact h1,fun k hk=>?_,fun k hk=>?_,fun a c=>?_⟩
   ·rw [kj8 (by omega)];split;rfl
    ·exact f k hk
   rw [kj8 (by omega),qi (by omega)];exact g k hk
   ·rw [kj8 (by omega)];split;rfl
    ·rename_i h;rw [qae e,qak,qai] at c;rcases c with c | rfl;exact d a c
     ·exact absurd rfl h
  ·refine ⟨_,by simp only [kbg,kan,qc,qa],_,rfl,h1,f,g,?_⟩;rw [qar] at d;exact d
theorem k3t {l p:List Bool} {i:Nat} {n:Nod} (hl:l.length=s.ya.length) (hp:p.length=s.ya.length) (hn:s.ya[i]?=some n) (x:Int×List Bool) (m:x.1=(i:Int)):Ev (kac (kb0 s l x) fuel (0,p)) fun q=>
  q.length=s.ya.length/\(∀ k,fg p k=true->fg q k=true)/\(∀ k,i<=k->fg q k=fg p k)/\(fg p i=true->∀ o∈n.yc,kar (fg l) o=true->∀ a∈o.yb,fg q a.toNat=true):=by
 have r:=olen hf hn;have hi:=ka8 hn;refine kbo (xs:=n.yc) (step:=kb0 s l x) (fun (j:Nat) (q:List Bool)=>((j:Int),q))
  (fun j q=>q.length=s.ya.length/\(∀ k,fg p k=true->fg q k=true)/\(∀ k,i<=k->fg q k=fg p k)/\(fg p i=true->∀ o∈n.yc.take j,kar (fg l) o=true->∀ a∈o.yb,fg q a.toNat=true)) (by omega) ⟨hp,fun k h=>h,fun k _=>rfl,by simp⟩ (fun j q c ⟨h1,e,d,f⟩=>?_) (fun q ⟨h1,e,d,f⟩=>?_)
 ·have ho:=qb c;have hm:=qn c;simp only [kb0,m,kaf,hn,qa,kao c,qd,kng (h:=(show i<q.length by omega)),d i (qx _),ho,kak c (show n.yc.length<=9223372036854775807 by omega)];cases g:fg p i with
  | false=>
   simp only [qc];exact ⟨_,rfl,h1,e,d,fun h=>absurd h (by simp)⟩
  | true=>
   simp only [qd];refine kc7 (Ev.mono (k6i hf hl h1 hn hm) fun q' ⟨g1,g2,g3,g4⟩=>?_);refine ⟨_,rfl,_,rfl,g1,fun k hk=>g2 k (e k hk),fun k hk=>by rw [g3 k hk,d k hk],fun _ o b hfo a ha=>?_⟩;rw [qae c,qak,qai] at b;rcases b with b | rfl;exact g2 _ (f g o b hfo a ha)
   ·exact g4 hfo a ha
 ·refine ⟨_,by simp only [kb0,m,kaf,hn,qa,kan,qc],_,rfl,h1,e,d,?_⟩;rw [qar] at f;exact f
theorem k7f {l p:List Bool} (hl:l.length=s.ya.length) (hp:p.length=s.ya.length):Ev (kac (kdj s l) fuel (w64 ((s.ya.length:Int) - 1),p)) fun q=>
  q.length=s.ya.length/\(∀ k,fg p k=true->fg q k=true)/\∀ (i:Nat) (n:Nod),s.ya[i]?=some n->fg q i=true->∀ o∈n.yc,kar (fg l) o=true->∀ a∈o.yb,fg q a.toNat=true:=by
 have j:=hf.nodes;have e0:w64 ((s.ya.length:Int) - 1)=(s.ya.length:Int) - 1:=kas;rw [e0];refine ksp (fun (x:Int×List Bool) => -1<=x.1/\x.1<(s.ya.length:Int)/\x.2.length=s.ya.length/\(∀ k,fg p k=true->fg x.2 k=true)/\∀ (i:Nat) (n:Nod),x.1<(i:Int)->s.ya[i]?=some n->fg x.2 i=true->∀ o∈n.yc,kar (fg l) o=true->∀ a∈o.yb,fg x.2 a.toNat=true)
  (fun x=>(x.1+1).toNat) (by show ((s.ya.length:Int) - 1+1).toNat<_;omega) ⟨by show (-1:Int)<=(s.ya.length:Int) - 1;omega,by show (s.ya.length:Int) - 1<_;omega,hp,fun k h=>h,fun i n h hn=>by have:=ka8 hn;have u:(s.ya.length:Int) - 1<(i:Int):=h;omega⟩ ?_
 rintro ⟨z,q⟩ ⟨h0,h1,d,e,f⟩;simp only at h0 h1 d e f;by_cases m:0<=z
 ·obtain ⟨i,rfl⟩:∃ i:Nat,z=(i:Int):=⟨z.toNat,by omega⟩;have hi:i<s.ya.length:=by omega
  have hn:=qb hi;have e1:w64 ((i:Int) - 1)=(i:Int) - 1:=kas;simp only [kdj,qj m,qd,e1];refine kc7 (Ev.mono (k3t hf hl d hn _ rfl) fun q' ⟨g1,g2,g3,g4⟩=>?_);refine ⟨_,rfl,⟨by show (-1:Int)<=(i:Int) - 1;omega,by show (i:Int) - 1<_;omega,g1,fun k hk=>g2 k (e k hk),fun k n hk b r o ho hfo a ha=>?_⟩,by show ((i:Int) - 1+1).toNat<((i:Int)+1).toNat;omega⟩;have t:(i:Int) - 1<(k:Int):=hk;have c:fg q k=true:=by rw [<- g3 k (by omega)];exact r
  by_cases g:k=i;subst g;rw [hn] at b;cases b;exact g4 c o ho hfo a ha
  ·exact g2 _ (f k n (by omega) b c o ho hfo a ha)
 ·obtain rfl:z = -1:=by omega
  refine ⟨.inr q,by simp only [kdj];rfl,d,e,fun i n hn=>f i n (by omega) hn⟩
end
theorem map_take {α β:Type} (g:α->β) {l:List α} {j:Nat} (h:j<l.length):(l.take (j+1)).map g=(l.take j).map g++[g l[j]]:=by rw [qae h,qax];rfl
theorem kmh {α:Type} (q:α->Bool) {l:List α} {j:Nat} (h:j<l.length):(l.take (j+1)).filter q=(l.take j).filter q++(if q l[j]=true then [l[j]] else []):=by
 rw [qae h,List.filter_append];congr 1;split;rename_i a;rw [List.filter_cons_of_pos a];rfl
 ·rename_i a;rw [List.filter_cons_of_neg (by simpa using a)];rfl
section
variable {s:Spa} (hf:kb6 s)
include hf
def NumR (s:Spa) (p:Nat->Bool) (i:Nat) (num:List Int):Prop:=num.length=s.ya.length/\∀ k,k<i->num[k]?=some (cntP p k:Int)
omit hf in
theorem NumR.idx {p:Nat->Bool} {i:Nat} {num:List Int} (h:NumR s p i num) {a:Int} (h0:0<=a) (h1:a<(i:Int)):Go.Proofs.YtjbonbdomgoklaaGreatDoor.idx num a=some (numI p a):=by unfold Go.Proofs.YtjbonbdomgoklaaGreatDoor.idx;rw [ql h0,h.2 a.toNat (by omega)];rfl
theorem kah6 {p:Nat->Bool} {i:Nat} {n:Nod} {o:Opn} (hn:s.ya[i]?=some n) (ho:o∈n.yc) (x:Int×List Int×List Nod) (num:List Int) (d:List.set x.2.1 (Int.toNat x.1) (List.length (x.2.2):Int)=num) (a:NumR s p (i+1) num):
  Ev (kac (kfy x o) fuel (0,([]:List Int))) fun v=>v=o.yb.map (numI p):=by
 have e:=kgt hf hn ho;refine kbo (xs:=o.yb) (step:=kfy x o) (fun (j:Nat) (q:List Int)=>((j:Int),q)) (fun j q=>q=(o.yb.take j).map (numI p)) (by omega) (by simp) (fun j q b h1=>?_) (fun q h1=>?_);subst h1;have ha:=qb b;have c:=klf hf hn ho (qn b);simp only [kfy,kao b,qd,kaf,ha,qa,d,a.idx c.1 (by omega),kak b (show o.yb.length<=9223372036854775807 by omega)];rw [kcg (by simp;omega),qa];exact ⟨_,rfl,_,rfl,(map_take _ b).symm⟩
 ·subst h1;rw [qar];exact ⟨_,by simp only [kfy,kan,qc],_,rfl,rfl⟩
theorem kafh {l:List Bool} {p:Nat->Bool} (hl:l.length=s.ya.length) {i:Nat} {n:Nod} (hn:s.ya[i]?=some n) (x:Int×List Int×List Nod) (c:x.1=(i:Int)) (num:List Int) (h:List.set x.2.1 (Int.toNat x.1) (List.length (x.2.2):Int)=num) (d:NumR s p (i+1) num):
  Ev (kac (kfx s l x) fuel (0,([]:List Opn))) fun v=>v=(n.yc.filter (kar (fg l))).map (kir p):=by
 have k:=olen hf hn;have hi:=ka8 hn;refine kbo (xs:=n.yc) (step:=kfx s l x) (fun (j:Nat) (q:List Opn)=>((j:Int),q)) (fun j q=>q=((n.yc.take j).filter (kar (fg l))).map (kir p)) (by omega) (by simp) (fun j q b h1=>?_) (fun q h1=>?_)
 ·subst h1;have ho:=qb b;have hm:=qn b;have e:kcw n.yc[j] l=some (kar (fg l) n.yc[j]):=kxc (fun a ha=>by have:=klf hf hn hm ha;omega) (by have:=kgt hf hn hm;omega);simp only [kfx,c,kaf,hn,qa,kao b,qd,ho,e,kak b (show n.yc.length<=9223372036854775807 by omega)];cases f:kar (fg l) n.yc[j] with
  | false=>
   simp only [Bool.not_false,qd,qa,qaj];refine ⟨_,rfl,_,rfl,?_⟩;rw [kmh _ b,qi (by rw [f];simp),qby]
  | true=>
   simp only [qbc,qc];have g:(((n.yc.take j).filter (kar (fg l))).map (kir p)).length<=j:=(by rw [qs];refine qag (qb6 _ _) ?_;rw [qam];omega);obtain ⟨v,hv,rfl⟩:=kah6 hf hn hm x num h d;rw [hv,qa,kcg (by rw [qab];omega)];simp only [qa,qy];refine ⟨_,rfl,_,rfl,?_⟩;rw [kmh _ b,ql f,qax];rfl
 ·subst h1;rw [qar];exact ⟨_,by simp only [kfx,c,kaf,hn,qa,kan,qc],_,rfl,rfl⟩
def kept (s:Spa) (f p:Nat->Bool) (i:Nat):List Nod:=((List.range i).filter p).map fun i=>ko0 f p ((s.ya[i]?).getD nodD)
omit hf in
theorem kqk (f p:Nat->Bool) (i:Nat):(kept s f p i).length=cntP p i:=by unfold kept;rw [qs];rfl
omit hf in
theorem ktt {f p:Nat->Bool} {i:Nat} {n:Nod} (hn:s.ya[i]?=some n):kept s f p (i+1)=kept s f p i++(if p i=true then [ko0 f p n] else []):=by
 unfold kept;rw [qbg,List.filter_append,qax];congr 1;split;rename_i h;rw [List.filter_cons_of_pos h,List.filter_nil,qa2,List.map_nil,hn];rfl
 ·rename_i h;rw [List.filter_cons_of_neg (by simpa using h)];rfl
theorem k3l {l q:List Bool} (hl:l.length=s.ya.length) (g:q.length=s.ya.length):Ev (kac (kf0 s l q) fuel (0,List.replicate s.ya.length 0,([]:List Nod))) fun v=>NumR s (fg q) s.ya.length v.1/\v.2=kept s (fg l) (fg q) s.ya.length:=by
 have f:=hf.nodes;refine kbo (xs:=s.ya) (step:=kf0 s l q) (fun (j:Nat) (v:List Int×List Nod)=>((j:Int),v.1,v.2)) (fun j v=>NumR s (fg q) j v.1/\v.2=kept s (fg l) (fg q) j) (t0:=(List.replicate s.ya.length 0,[])) (by omega) ⟨⟨qa0,fun k h=>by omega⟩,rfl⟩ (fun i v hi ⟨h1,c⟩=>?_) (fun v ⟨h1,c⟩=>?_)
 ·obtain ⟨num,nds⟩:=v;simp only at h1 c;subst c;have hn:=qb hi;have b:i<num.length:=by rw [h1.1];exact hi
  have a:NumR s (fg q) (i+1) (List.set num i (cntP (fg q) i:Int)):=by
   refine ⟨by rw [qbk];exact h1.1,fun k hk=>?_⟩;by_cases d:k=i;subst d;rw [qbr b]
   ·rw [qbw (by omega)];exact h1.2 k (by omega)
  have e1:num[i]?=some num[i]:=qb b;simp only [kf0,kao hi,qd,kaf,e1,hn,qa,kng (h:=(show i<q.length by omega)),qah,kqk,kak hi (show s.ya.length<=9223372036854775807 by omega)];cases e:fg q i with
  | false=>
   simp only [Bool.not_false,qd,qa,qaj];refine ⟨_,rfl,(_,_),rfl,a,?_⟩;rw [ktt hn,qi (by rw [e];simp),qby];rfl
  | true=>
   simp only [qbc,qc];obtain ⟨v,hv,rfl⟩:=kafh hf hl hn ((i:Int),num,kept s (fg l) (fg q) i) rfl (List.set num i (cntP (fg q) i:Int)) (by simp [kqk]) a;have:=k2p (fg q) i;rw [hv,qa,kcg (by rw [kqk,qab];omega)];simp only [qa,qy];refine ⟨_,rfl,(_,_),rfl,a,?_⟩;rw [ktt hn,ql e];rfl
 ·exact ⟨_,by simp only [kf0,kan,qc],_,rfl,h1,c⟩
theorem k3q {l:List Bool} {p:Nat->Bool} (hl:l.length=s.ya.length) (x:List Int×List Nod) (e:NumR s p s.ya.length x.1):Ev (kac (kfw s l x) fuel (0,([]:List Int))) fun v=>v=(s.yg.filter fun r=>fg l r.toNat).map (numI p):=by
 have f:=kqt hf.roots;have g:=hf.nodes;refine kbo (xs:=s.yg) (step:=kfw s l x) (fun (j:Nat) (q:List Int)=>((j:Int),q)) (fun j q=>q=((s.yg.take j).filter fun r=>fg l r.toNat).map (numI p)) (by omega) (by simp) (fun j q b h1=>?_) (fun q h1=>?_)
 ·subst h1;have hr:=qb b;have a:=hf.roots.1 _ (qn b);simp only [kfw,kao b,qd,kaf,hr,qa,kmv l a.1,e.idx a.1 a.2,kak b (show s.yg.length<=9223372036854775807 by omega)];cases c:fg l s.yg[j].toNat with
  | false=>
   simp only [qc,qa];refine ⟨_,rfl,_,rfl,?_⟩;rw [kmh _ b,qi (by rw [c];simp),qby]
  | true=>
   simp only [qd];have d:(((s.yg.take j).filter fun r=>fg l r.toNat).map (numI p)).length<=j:=(by rw [qs];refine qag (qb6 _ _) ?_;rw [qam];omega);rw [kcg (by rw [qab];omega)];simp only [qa];refine ⟨_,rfl,_,rfl,?_⟩;rw [kmh _ b,ql c,qax];rfl
 ·subst h1;rw [qar];exact ⟨_,by simp only [kfw,kan,qc],_,rfl,rfl⟩
end
theorem kagb {s:Spa} (d:ktk s):Ev (kbz s) fun r=>(¬ kb6 s/\r=(⟨[],[]⟩,4))\/(kb6 s/\∃ f p,krv s f p/\r=(kb7 f p s,0)):=by
 unfold kbz;obtain ⟨b,e,a⟩:=kvs d;rw [e,qa];cases b with
 | false=>exact ⟨_,rfl, .inl ⟨fun h=>absurd (a.2 h) qa6,rfl⟩⟩
 | true=>
  have hf:=a.1 rfl;have g:=hf.nodes;simp only [qbc,qc];obtain ⟨l,hl,l1,l2⟩:=k7i hf;rw [hl,qa,kla 1 false s.ya.length,qa];obtain ⟨p,hp,p1,p2⟩:=k0b hf l1;rw [hp,qa];obtain ⟨q,j,q1,q2,q3⟩:=k7f hf l1 p1;rw [j,qa,kla 8 0 s.ya.length,qa];obtain ⟨v,hv,v1,v2⟩:=k3l hf l1 q1;rw [hv,qa];obtain ⟨u,hu,rfl⟩:=k3q hf l1 v v1;rw [hu,qa];refine ⟨_,rfl, .inr ⟨hf,fg l,fg q,⟨fun i t h=>k82 l2 t i h,fun r hr c=>q2 _ (by rw [p2 r hr];exact c),fun i n o h1 k m w=>q3 i n k h1 o m w⟩,?_⟩⟩;rw [v2];rfl
theorem ko8 {s:Spa} (hf:kb6 s):ktk s:=by
 have a:=hf.nodes;have b:=kqt hf.roots;refine ⟨by omega,by omega,fun n hn=>?_,fun n hn o ho=>?_⟩;obtain ⟨i,hi⟩:=qaz.1 hn;have:=olen hf hi;omega
 ·obtain ⟨i,hi⟩:=qaz.1 hn;have:=kgt hf hi ho;omega
open Go Go.RowKit Go.ChangeShapes Go.WideShapes Go.ChangeAt Go.Proofs.Tryz
theorem k1p {n:Int} (h:(Lit.int .i64 n).wf=true):ki5 n:=by simpa [Lit.wf,IntKind.min,IntKind.max,IntKind.signed,IntKind.bits,ki5] using h
variable {H:Type} {enc:TypeId×Value->H} {w:World} {base:Nat} {spare:Nat->Bool} {held:Bool}
theorem cells_ty:prog.cellsOf 3=1/\prog.cellsOf 2=1/\prog.cellsOf 9=1/\prog.cellsOf 22=1/\prog.cellsOf 65=1/\prog.cellsOf 23=1/\prog.cellsOf 24=1 /\
  prog.cellsOf 67=4/\prog.cellsOf 63=2/\prog.cellsOf 69=9/\prog.cellsOf 26=4:=⟨by kernel_rfl,by kernel_rfl,by kernel_rfl,by kernel_rfl,by kernel_rfl,by kernel_rfl,by kernel_rfl,by kernel_rfl,by kernel_rfl,by kernel_rfl,by kernel_rfl⟩
theorem kvl {fuel:Nat} {cs:List Value} {x:DataW H×List MemPlace} (h:DataW.trod enc prog w base spare held fuel 9 cs=some x):∃ s,cs=[.string s]/\kva s:=by obtain ⟨s,hs,_,hl⟩:=DataW.trod_string underlying9 h;exact ⟨s,hs,by unfold maxLen at hl;exact hl⟩
theorem kqi {fuel:Nat} {cs:List Value} {x:DataW H×List MemPlace} (h:DataW.trod enc prog w base spare held fuel 3 cs=some x):∃ n,cs=[.int .i64 n]/\ki5 n:=by obtain ⟨n,hn,_,a⟩:=DataW.trod_int underlying3 h;exact ⟨n,hn,k1p a⟩
theorem kac2 {fuel:Nat} {cs:List Value} {x:DataW H×List MemPlace} (h:DataW.trod enc prog w base spare held fuel 2 cs=some x):∃ n,cs=[.int .i64 n]/\ki5 n:=by obtain ⟨n,hn,_,a⟩:=DataW.trod_int underlying2 h;exact ⟨n,hn,k1p a⟩
theorem k0s {fuel:Nat} {cs:List Value} {x:DataW H×List MemPlace} (h:DataW.trod enc prog w base spare held fuel 22 cs=some x):∃ v ns,cs=[v]/\Ints Any w v ns:=
 kyd IntR 1 underlying22 cells_ty.1 h fun n cs' y _ hy=>by obtain ⟨k,h1,a⟩:=kqi hy;exact ⟨k,h1,a⟩
theorem k98:∀ (fuel:Nat) (cs:List Value) (x:DataW H×List MemPlace),DataW.trod enc prog w base spare held fuel 67 cs=some x->∃ t,RepVa Any w cs t:=by
 obtain ⟨z1,z2,z3,z4,z5,z6,z7,z8,z9,z10,z11⟩:=cells_ty;intro fuel
 induction fuel using Nat.strongRecOn with
 | _ fuel ih=>
  intro cs x h;obtain ⟨xs,n,e,_,a,b,hf⟩:=DataW.trod_struct underlying67 h;rw [z8] at a
  match cs,a with
  | [c0,c1,c2,c3],_=>
   have h0:=hf 0 _ rfl;have h1:=hf 1 _ rfl;have c:=hf 2 _ rfl;have d:=hf 3 _ rfl;rw [qb (by rw [b];decide)] at h0 h1 c d;obtain ⟨t,e0,ht⟩:=kqi h0;obtain ⟨m,e1,hm⟩:=kac2 h1;obtain ⟨s,e2,hs⟩:=kvl c;obtain ⟨v,ts,e3,f⟩:=kyd (RepVa Any w) 4 underlying65 z8 d fun k cs' y hk hy=>ih k (by omega) cs' y hy;simp [z1,z2,z3,z4,z5,z6,z7,z8] at e0 e1 e2 e3;subst e0 e1 e2 e3;exact ⟨.mk t m s ts,RepVa.of ht hm hs f⟩
theorem k74 {fuel:Nat} {cs:List Value} {x:DataW H×List MemPlace} (h:DataW.trod enc prog w base spare held fuel 63 cs=some x):∃ t,k4v Any w cs t:=by
 obtain ⟨z1,z2,z3,z4,z5,z6,z7,z8,z9,z10,z11⟩:=cells_ty;obtain ⟨xs,n,c,_,a,b,hf⟩:=DataW.trod_struct underlying63 h;rw [z9] at a
 match cs,a with
 | [c0,c1],_=>
  have h0:=hf 0 _ rfl;have h1:=hf 1 _ rfl;rw [qb (by rw [b];decide)] at h0 h1;obtain ⟨s,e0,hs⟩:=kvl h0;obtain ⟨t,e1,ht⟩:=kqi h1;simp [z1,z2,z3,z4,z5,z6,z7,z8] at e0 e1;subst e0 e1;exact ⟨⟨s,t⟩,rfl,hs,ht⟩
theorem kacw {fuel:Nat} {cs:List Value} {x:DataW H×List MemPlace} (h:DataW.trod enc prog w base spare held fuel 69 cs=some x):∃ t,k4p Any w cs t:=by
 obtain ⟨z1,z2,z3,z4,z5,z6,z7,z8,z9,z10,z11⟩:=cells_ty;obtain ⟨xs,n,l,_,d,e,hf⟩:=DataW.trod_struct underlying69 h;rw [z10] at d
 match cs,d with
 | [c0,c1,c2,c3,c4,c5,c6,c7,c8],_=>
  have h0:=hf 0 _ rfl;have h1:=hf 1 _ rfl;have g:=hf 2 _ rfl;have i:=hf 3 _ rfl;have j:=hf 4 _ rfl;have k:=hf 5 _ rfl;rw [qb (by rw [e];decide)] at h0 h1 g i j k;obtain ⟨a,e0,ha⟩:=kqi h0;obtain ⟨b,e1,m⟩:=kqi h1;obtain ⟨c,e2,hc⟩:=kqi g;obtain ⟨v,hv⟩:=k98 _ _ _ i;obtain ⟨s,e4,hs⟩:=kvl j;obtain ⟨u,ns,e5,f⟩:=k0s k;simp [z1,z2,z3,z4,z5,z6,z7,z8] at e0 e1 e2 e4 e5 hv;subst e0 e1 e2 e4 e5;exact ⟨⟨a,b,c,v,s,ns⟩,c3,c4,c5,c6,_,rfl,ha,m,hc,hs,hv,f⟩
theorem k4k {fuel:Nat} {cs:List Value} {x:DataW H×List MemPlace} (h:DataW.trod enc prog w base spare held fuel 26 cs=some x):∃ t,kahd Any w cs t:=by
 obtain ⟨z1,z2,z3,z4,z5,z6,z7,z8,z9,z10,z11⟩:=cells_ty;obtain ⟨xs,n,i,_,a,b,hf⟩:=DataW.trod_struct underlying26 h;rw [z11] at a
 match cs,a with
 | [c0,c1,c2,c3],_=>
  have h0:=hf 0 _ rfl;have h1:=hf 1 _ rfl;have f:=hf 2 _ rfl;have g:=hf 3 _ rfl;rw [qb (by rw [b];decide)] at h0 h1 f g;obtain ⟨s,e0,hs⟩:=kvl h0;obtain ⟨v1,n1,e1,c⟩:=k0s h1;obtain ⟨v2,n2,e2,d⟩:=kyd (k4v Any w) 2 underlying23 z9 f fun k cs' y hk hy=>k74 hy;obtain ⟨v3,n3,e3,e⟩:=kyd (k4p Any w) 9 underlying24 z10 g fun k cs' y hk hy=>kacw hy;simp [z1,z2,z3,z4,z5,z6,z7,z8] at e0 e1 e2 e3;subst e0 e1 e2 e3;exact ⟨⟨s,n1,n2,n3⟩,_,_,_,rfl,hs,c,d,e⟩
theorem k2r {r:Reach} {b0:Nat} {v:Value} {d:DataW H} {p:List MemPlace} (hv:Value.okWide prog w r b0 26 v) (h:DataW.Trod enc prog w base spare held 26 v d p):∃ t,LaV Any w v t:=by obtain ⟨cs,rfl,a⟩:=okWide_struct underlying26 hv;obtain ⟨fuel,hf⟩:=h;obtain ⟨t,ht⟩:=k4k hf;exact ⟨t,cs.toList,by simp,by simpa [Value.cells] using ht⟩
def CRw (w:World) (cs:List Value) (x:FV) (size:Nat):Prop:=x.cells.length=size/\(∀ y∈x.cells,y.single=true)/\∀ (j:Nat) (u:Value) (y:FV),cs[j]?=some u->x.cells[j]?=some y->RF Any w u y
theorem kyj {cs:List Value} (xs:List FV) (h:∀ (j:Nat) (y:FV),xs[j]?=some y->y.single=true/\∀ u,cs[j]?=some u->RF Any w u y) (hl:cs.length=xs.length:=by rfl):CRw w cs (.agg xs) xs.length:=by refine ⟨rfl,fun y hy=>?_,fun j u y hu hy=>(h j y hy).2 u hu⟩;obtain ⟨j,a⟩:=qaz.1 hy;exact (h j y a).1
theorem k8o {v:Value} {ns:List Int} (h:Ints Any w v ns):RF Any w v (eL 1 eI ns):=
 k1f (R:=IntR) _ _ h fun cs x _ a=>kala a.1 rfl
theorem kag5:∀ (x:Va) (cs:List Value),RepVa Any w cs x->CRw w cs (eVaR x) 4/\inV x:=by
 refine Va.ind fun t n s l ih=>?_;intro cs h;obtain ⟨v,rfl,ht,hn,hs,hv⟩:=h.form;have c:RF Any w v (.lst 4 l.length (kvp l)):=by have:=k1f eVaR 4 hv fun cs x a hr=>(ih x a cs hr).1;rw [kzk];have e:eL 4 eVaR l = .lst 4 l.length (l.map eVaR):=rfl;rw [<- e];exact this
 refine ⟨kyj [eI t,eI n,eS s, .lst 4 l.length (kvp l)] fun j y hy=>?_,?_⟩
 ·match j with
  | 0=>simp at hy;subst hy;exact ⟨rfl,fun u hu=>by simp at hu;subst hu;exact .atom rfl⟩
  | 1=>simp at hy;subst hy;exact ⟨rfl,fun u hu=>by simp at hu;subst hu;exact .atom rfl⟩
  | 2=>simp at hy;subst hy;exact ⟨rfl,fun u hu=>by simp at hu;subst hu;exact .atom rfl⟩
  | 3=>simp at hy;subst hy;exact ⟨rfl,fun u hu=>by simp at hu;subst hu;exact c⟩
  | j+4=>simp at hy
 ·obtain ⟨A,cap,_,h1,g,f⟩:=hv;have all:∀ x∈l,inV x:=fun x a=>by obtain ⟨i,hi⟩:=qaz.1 a;obtain ⟨b,o,cs,_,_,_,_,hr⟩:=f i x hi;exact (ih x a cs hr).2
  have gen:∀ l:List Va,(∀ x∈l,inV x)->k05 9223372036854775807 l/\kx0 l:=fun l=>by
   induction l with
   | nil=>exact fun _=>⟨trivial,trivial⟩
   | cons y l ih=>exact fun h=>⟨⟨(h y (qo ..)).1,(ih fun z d=>h z (qk _ d)).1⟩,(h y (qo ..)).2,(ih fun z d=>h z (qk _ d)).2⟩
  obtain ⟨g1,g2⟩:=gen l all;exact ⟨⟨by omega,g1⟩,hs,g2⟩
theorem sy_cr {cs:List Value} {x:Sy} (h:k4v Any w cs x):CRw w cs (eSy x) 2:=by
 obtain ⟨rfl,hs,ht⟩:=h;refine kyj [eS x.name,eI x.type] fun j y hy=>?_
 match j with
 | 0=>simp at hy;subst hy;exact ⟨rfl,fun u hu=>by simp at hu;subst hu;exact .atom rfl⟩
 | 1=>simp at hy;subst hy;exact ⟨rfl,fun u hu=>by simp at hu;subst hu;exact .atom rfl⟩
 | j+2=>simp at hy
theorem kag4 {cs:List Value} {x:Ru} (h:k4p Any w cs x):CRw w cs (eRu x) 9/\k1b x:=by
 obtain ⟨c0,c1,c2,c3,v,rfl,h1,f,g,i,d,e⟩:=h;obtain ⟨k,kw⟩:=kag5 _ _ d;obtain ⟨sy,kd,inp,c,op,ar⟩:=x;obtain ⟨t,n,s,l⟩:=c;obtain ⟨v',a,ht,hn,hs,hv⟩:=d.form;simp only [List.cons.injEq,and_true] at a;obtain ⟨rfl,rfl,rfl,rfl⟩:=a;have b:RF Any w c3 (eL 4 eVaR l):=k1f eVaR 4 hv fun cs x m hr=>(kag5 x cs hr).1;refine ⟨kyj [eI sy,eI kd,eI inp,eI t,eI n,eS s,eL 4 eVaR l,eS op,eL 1 eI ar] fun j y hy=>?_,(by obtain ⟨A,cap,_,q1,q2,_⟩:=e;exact qag q1 q2),kw⟩
 match j with
 | 0=>simp at hy;subst hy;exact ⟨rfl,fun u hu=>by simp at hu;subst hu;exact .atom rfl⟩
 | 1=>simp at hy;subst hy;exact ⟨rfl,fun u hu=>by simp at hu;subst hu;exact .atom rfl⟩
 | 2=>simp at hy;subst hy;exact ⟨rfl,fun u hu=>by simp at hu;subst hu;exact .atom rfl⟩
 | 3=>simp at hy;subst hy;exact ⟨rfl,fun u hu=>by simp at hu;subst hu;exact .atom rfl⟩
 | 4=>simp at hy;subst hy;exact ⟨rfl,fun u hu=>by simp at hu;subst hu;exact .atom rfl⟩
 | 5=>simp at hy;subst hy;exact ⟨rfl,fun u hu=>by simp at hu;subst hu;exact .atom rfl⟩
 | 6=>simp at hy;subst hy;exact ⟨rfl,fun u hu=>by simp at hu;subst hu;exact b⟩
 | 7=>simp at hy;subst hy;exact ⟨rfl,fun u hu=>by simp at hu;subst hu;exact .atom rfl⟩
 | 8=>simp at hy;subst hy;exact ⟨rfl,fun u hu=>by simp at hu;subst hu;exact k8o e⟩
 | j+9=>simp at hy
theorem kamc {cs:List Value} (xs:List FV) (hl:cs.length=xs.length) (h:CRw w cs (.agg xs) xs.length):RF Any w (.agg cs.toArray) (.agg xs):=
 .agg (by simpa using hl) (fun x a=>h.2.1 x a) fun i v x hv a=>h.2.2 i v x (by simpa using hv) a
theorem la_rf {v:Value} {x:La} (h:LaV Any w v x):RF Any w v (eLa x)/\k1k x:=by
 obtain ⟨cs,rfl,v1,v2,v3,rfl,hn,h1,a,c⟩:=h;have r1:=k8o h1;have r2:RF Any w v2 (eL 2 eSy x.symbols):=k1f eSy 2 a fun cs x _ hr=>sy_cr hr;have r3:RF Any w v3 (eL 9 eRu x.rules):=k1f eRu 9 c fun cs x _ hr=>(kag4 hr).1;refine ⟨kamc [eS x.name,eL 1 eI x.inputs,eL 2 eSy x.symbols,eL 9 eRu x.rules] rfl (kyj _ fun j y hy=>?_),?_⟩
 ·match j with
  | 0=>simp at hy;subst hy;exact ⟨rfl,fun u hu=>by simp at hu;subst hu;exact .atom rfl⟩
  | 1=>simp at hy;subst hy;exact ⟨rfl,fun u hu=>by simp at hu;subst hu;exact r1⟩
  | 2=>simp at hy;subst hy;exact ⟨rfl,fun u hu=>by simp at hu;subst hu;exact r2⟩
  | 3=>simp at hy;subst hy;exact ⟨rfl,fun u hu=>by simp at hu;subst hu;exact r3⟩
  | j+4=>simp at hy
 ·refine ⟨hn,?_,?_,?_,fun y hy=>?_,fun r hr=>?_⟩;obtain ⟨A,cap,_,q1,q2,_⟩:=h1;exact qag q1 q2;obtain ⟨A,cap,_,q1,q2,_⟩:=a;exact qag q1 q2;obtain ⟨A,cap,_,q1,q2,_⟩:=c;exact qag q1 q2;obtain ⟨A,cap,_,_,_,d⟩:=a;obtain ⟨i,hi⟩:=qaz.1 hy;obtain ⟨b,o,cs,_,_,_,_,e⟩:=d i y hi;exact e.2.1
  ·obtain ⟨A,cap,_,_,_,d⟩:=c;obtain ⟨i,hi⟩:=qaz.1 hr;obtain ⟨b,o,cs,_,_,_,_,e⟩:=d i r hi;exact (kag4 e).2
theorem in_La {r:Reach} {b0:Nat} {v:Value} {d:DataW H} {p:List MemPlace} (hv:Value.okWide prog w r b0 26 v) (h:DataW.Trod enc prog w base spare held 26 v d p):∃ x,RF Any w v (eLa x)/\k1k x:=by obtain ⟨x,a⟩:=k2r hv h;exact ⟨x,la_rf a⟩
variable {P:Program}
def Wt (P:Program) (t:TypeId) (d:DataW H):Prop:=∀ k∈DataW.weights P t d,k<=140737488351232
theorem k83:∀ {ts:List TypeId} {ds:List (DataW H)},(∀ k∈DataW.weightsEach P ts ds,k<=140737488351232)->∀ (i:Nat) (t:TypeId) (d:DataW H),ts[i]?=some t->ds[i]?=some d->Wt P t d
 | [],_,_,i,t,d,ht,_=>by cases ht
 | _::_,[],_,i,t,d,_,a=>by cases a
 | t::ts,x::ds,h,i,t',d,ht,a=>by
  simp only [DataW.weightsEach,qak] at h;cases i with
  | zero=>simp at ht a;subst ht a;exact fun k hk=>h k (.inl hk)
  | succ i=>exact k83 (fun k hk=>h k (.inr hk)) i t' d (by simpa using ht) (by simpa using a)
structure SpW (s:Sad):Prop where
 nodes:s.ya.length<=3518437208780
 roots:s.yg.length<=17592186043904
 opts:∀ n∈s.ya,n.yc.length<=4398046510976
 args:∀ n∈s.ya,∀ o∈n.yc,o.yb.length<=17592186043904
def kp1 (l:La) (ns:List Nod) (i:Nat) (o:Opn):Int:=match l.rules[o.yd.toNat]? with
 | none=>1
 | some r=>if shp ns i o=r.symbol::r.args then 0 else 4
variable {l:La} {s:Spa} {i:Nat} {n:Nod} {o:Opn}
theorem k8q (hf:kb6 s) (hn:s.ya[i]?=some n) (ho:o∈n.yc):o.yb.length<=24:=by
 have h1:=(hf.node i n hn).opt o ho;have b:=(hf.node i n hn).size;have key:∀ l:List Int,(∀ a∈l,1<=szAt s.ya a)->(l.length:Int)<=(l.map (szAt s.ya)).sum:=fun l=>by
  induction l with
  | nil=>intro _;simp
  | cons x l ih=>
   intro h;have h1:=h x (qo ..);have b:=ih fun y hy=>h y (qk _ hy);simp only [qa2,List.sum_cons,qat];omega
 have c:=key o.yb fun a ha=>by obtain ⟨a0,a1⟩:=h1.args a ha;have hi:=ka8 hn;obtain ⟨m,_,e2,e3,_⟩:=kni s.ya a0 (by omega);have:=(hf.node _ m e2).size;omega
 have:=h1.size;omega
theorem kw7 (hf:kb6 s) (hn:s.ya[i]?=some n) (ho:o∈n.yc):∀ a∈o.yb,0<=a/\a<(s.ya.length:Int):=fun a ha=>by have h1:=((hf.node i n hn).opt o ho).args a ha;have:=ka8 hn;omega
theorem kaiy (hg:khu l) (hf:kb6 s) (hn:s.ya[i]?=some n) (ho:o∈n.yc):khy l s n o=some (kp1 l s.ya i o):=by
 have g:=((hf.node i n hn).opt o ho).rule;have c:=kw7 hf hn ho;have j:=k8q hf hn ho;unfold khy kp1;rw [qg (show ¬ o.yd<0 by omega),qc];by_cases h1:(l.rules.length:Int)<=o.yd;rw [qj h1,qa,qd,qaq (by omega)]
 ·have b:o.yd.toNat<l.rules.length:=by omega
  rw [qg h1,qa,qc,show idx l.rules o.yd=some l.rules[o.yd.toNat] by unfold idx;rw [ql g,qb b],qa,qb b];have p:=(hg.good _ (qn b)).few;generalize l.rules[o.yd.toNat]=r at p;simp only;by_cases f:r.symbol=n.yf
  ·rw [show (r.symbol != n.yf)=false by simp [f],qc,qa];by_cases q:r.args.length=o.yb.length
   ·rw [show ((r.args.length:Int) != (o.yb.length:Int))=false by simp [q],qc];rcases kmk (kgn s o r) r.args.length (fun k=>decide (syAt s.ya ((o.yb[k]?).getD 0)≠(r.args[k]?).getD 0)) (fun _ => .inr 4) (.inl ()) (fun k hk=>by
     have a:k<o.yb.length:=(by omega);obtain ⟨m,e1,_,_,e3⟩:=kni s.ya (c _ (qn a)).1 (c _ (qn a)).2;simp only [kgn,kao hk,qd,kaf,qb hk,qb a,qa,e1,qaf,e3,kak hk (show r.args.length<=9223372036854775807 by omega)];by_cases h:m.yf=r.args[k];rw [show (m.yf != r.args[k])=false by simp [h],qi (by simp [h])];rfl
     ·rw [show (m.yf != r.args[k])=true by simp [h],ql (by simp [h])];rfl) (by simp only [kgn,kan,qc]) with ⟨k,hk,d,_,hr⟩ | ⟨d,hr⟩
    rw [hr,qa];rw [qbm] at d;have:¬ shp s.ya i o=r.symbol::r.args:=fun e=>(by unfold shp at e;injection e with _ e;have a:k<o.yb.length:=(by omega);have:=congrArg (fun x=>x[k]?) e;simp only [qq,qb hk,qb a,qba,qe] at this;rw [qb hk,qb a] at d;exact d this);rw [qi this];rfl
    ·rw [hr,qa];have:shp s.ya i o=r.symbol::r.args:=by
      unfold shp;rw [kli hn,f];congr 1;refine qbt fun k=>?_;by_cases hk:k<r.args.length;have a:k<o.yb.length:=(by omega);have:=d k hk;rw [qb1,qb hk,qb a] at this;simp only [qaf,ne_eq,Decidable.not_not] at this;rw [qq,qb hk,qb a,qba,this]
      ·rw [qaq (by rw [qs];omega),qaq (by omega)]
     rw [ql this];rfl
   ·rw [show ((r.args.length:Int) != (o.yb.length:Int))=true by simp;omega,qd,qi];intro e;have:=congrArg List.length e;unfold shp at this;simp at this;omega
  ·rw [show (r.symbol != n.yf)=true by simp [f],qd,qa,qd,qi];intro e;unfold shp at e;injection e with e _;rw [kli hn] at e;exact f e.symm
theorem kafy (hg:khu l) (hf:kb6 s) (hn:s.ya[i]?=some n) {k:Nat} (hk:k<n.yc.length):kdw l s n (k:Int)=if kp1 l s.ya i n.yc[k]≠0 then some (.inr (.inr (kp1 l s.ya i n.yc[k]))) else some (.inl ((k+1:Nat):Int)):=by
 have ho:=qn hk;have a:n.yc.length<=32768:=qag (ksc hn) hf.opts;simp only [kdw,kao hk,qd,kaf,qb hk,qa,kak hk (show n.yc.length<=9223372036854775807 by omega)];rw [kaiy hg hf hn ho,qa];by_cases h:kp1 l s.ya i n.yc[k]=0;rw [show (kp1 l s.ya i n.yc[k] != 0)=false by simp [h],qc,qi (by simp [h])]
 ·rw [show (kp1 l s.ya i n.yc[k] != 0)=true by simp [h],qd,ql h]
theorem kxo (hf:kb6 s):∀ (t:Tm) (i:Nat) (n:Nod),s.ya[i]?=some n->Bt s.ya i t->(t.size:Int)=n.ye:=by
 refine Tm.ind fun r l ih=>?_;intro i n hn d;obtain ⟨n',o,ts,b,ho,e,hs⟩:=d.inv;rw [hn] at b;cases b;cases e;have f:=(hf.node i n hn).opt o ho;have key:∀ (vs:List Int) (ts:List Tm),Bts s.ya vs ts->(∀ t∈ts,∀ (i:Nat) (n:Nod),s.ya[i]?=some n->Bt s.ya i t->(t.size:Int)=n.ye)->(Tm.sizeL ts:Int)=(vs.map (szAt s.ya)).sum:=fun vs=>by
  induction vs with
  | nil=>intro ts h _;cases h;rfl
  | cons a vs ih2=>
   intro ts h hi;cases h with
   | @cons _ _ t ts h0 ht hs=>
    have h1:=ih2 _ hs fun t ht=>hi t (qk _ ht);have c:=k01 ht;have hm:=qb c;have g:=hi t (qo ..) _ _ hm ht;have j:szAt s.ya a=s.ya[a.toNat].ye:=(by unfold szAt;rw [hm];rfl);simp only [Tm.sizeL,qa2,List.sum_cons];omega
 have h1:=key _ _ hs ih;have g:=f.size;show ((Tm.sizeL l+1:Nat):Int)=_;omega
theorem k2g {o:Opn} {l:List Bool} (h:∀ a∈o.yb,0<=a/\a<(l.length:Int)) (b:o.yb.length<=9223372036854775807):kj5 l o=some (kar (fg l) o):=kxc h b
theorem kalw {os:List Opn} {l:List Bool} (h:∀ o∈os,(∀ a∈o.yb,0<=a/\a<(l.length:Int))/\o.yb.length<=9223372036854775807) (c:os.length<=9223372036854775807):kbt os l=some (os.any (kar (fg l))):=by
 unfold kbt kda;rcases kmk (kbu os l) os.length (fun k=>(os[k]?).any (kar (fg l))) (fun k => .inr (k:Int)) (.inl ()) (fun k hk=>by obtain ⟨h1,d⟩:=h _ (qn hk);simp only [kbu,kmn,kao hk,qd,kaf,qb hk,qa,kak hk c,k2g h1 d,Option.any_some];cases kar (fg l) os[k] <;> rfl) (by simp only [kbu,kan,qc]) with ⟨k,hk,b,_,hr⟩ | ⟨b,hr⟩;rw [hr];rw [qb hk,Option.any_some] at b;rw [show os.any (kar (fg l))=true from List.any_eq_true.2 ⟨_,qn hk,b⟩];simp only [qa,qaj];rw [qj (by omega)]
 ·rw [hr];have:os.any (kar (fg l))=false:=by rw [List.any_eq_false];intro o ho;obtain ⟨k,hk⟩:=qaz.1 ho;have:=b k (ka8 hk);rw [hk,Option.any_some] at this;simp [this]
  rw [this];rfl
theorem kaga (hf:kb6 s):Ev (kno s) fun l=>l.length=s.ya.length/\∀ i,i<s.ya.length->kon s l i:=by
 have p:=hf.nodes;unfold kno;rw [kla _ _ _,qa];refine kc7 (Ev.mono (kbo (xs:=s.ya) (step:=kk8 s) (Q:=fun l=>l.length=s.ya.length/\∀ i,i<s.ya.length->kon s l i)
  (fun (i:Nat) (l:List Bool)=>((i:Int),l)) (fun i l=>l.length=s.ya.length/\∀ k,k<i->kon s l k) (t0:=List.replicate s.ya.length false) (by omega) ⟨by simp,fun k h=>by omega⟩ (fun i l hi ⟨h1,j⟩=>?_) (fun l ⟨h1,j⟩=>?_)) fun l hl=>⟨l,rfl,hl⟩)
 ·have hn:=qb hi;have f:i<l.length:=by omega
  have q:s.ya[i].yc.length<=32768:=qag (ksc hn) hf.opts;have e:∀ o∈s.ya[i].yc,(∀ a∈o.yb,0<=a/\a<(l.length:Int))/\o.yb.length<=9223372036854775807:=fun o ho=>by have r:=kw7 hf hn ho;have t:=k8q hf hn ho;exact ⟨fun a ha=>by have:=r a ha;omega,by omega⟩
  simp only [kk8,kao hi,qd,kaf,hn,qa,kalw e (by omega),qb f,kak hi (show s.ya.length<=9223372036854775807 by omega),qah];refine ⟨_,rfl,_,rfl,by simp [h1],fun k hk n c=>?_⟩;have d:=kj8 f (s.ya[i].yc.any (kar (fg l)));have b:∀ o∈n.yc,kar (fg (l.set i (s.ya[i].yc.any (kar (fg l))))) o=kar (fg l) o:=fun o ho=>kq3 fun a ha=>by have:=((hf.node k n c).opt o ho).args a ha;rw [d,qi (by omega)]
  have m:(∃ o∈n.yc,kar (fg (l.set i (s.ya[i].yc.any (kar (fg l))))) o=true)↔∃ o∈n.yc,kar (fg l) o=true:=
   ⟨fun ⟨o,ho,h⟩=>⟨o,ho,by rw [<- b o ho];exact h⟩,fun ⟨o,ho,h⟩=>⟨o,ho,by rw [b o ho];exact h⟩⟩
  rw [d,m];by_cases g:k=i;subst g;rw [hn] at c;cases c;rw [ql rfl,List.any_eq_true]
  ·rw [qi g];exact j k (by omega) n c
 ·exact ⟨_,by simp only [kk8,kan,qc],_,rfl,h1,j⟩
theorem kab9 (hf:kb6 s) {l l':List Bool} (h1:l.length=s.ya.length) (c:∀ i,i<s.ya.length->kon s l i) (d:l'.length=s.ya.length) (b:∀ i,i<s.ya.length->kon s l' i):l=l':=by
 have key:∀ i,i<s.ya.length->fg l i=fg l' i:=fun i=>by
  induction i using Nat.strongRecOn with
  | _ i ih=>
   intro hi;have hn:=qb hi;rw [Bool.eq_iff_iff,c i hi _ hn,b i hi _ hn];have hc:∀ o∈s.ya[i].yc,kar (fg l) o=kar (fg l') o:=fun o ho=>kq3 fun a ha=>(by have:=((hf.node i _ hn).opt o ho).args a ha;exact ih a.toNat (by omega) (by omega));exact ⟨fun ⟨o,ho,h⟩=>⟨o,ho,by rw [<- hc o ho];exact h⟩,fun ⟨o,ho,h⟩=>⟨o,ho,by rw [hc o ho];exact h⟩⟩
 refine qbt fun i=>?_;by_cases hi:i<s.ya.length;rw [kng,kng,key i hi]
 ·rw [qaq (by omega),qaq (by omega)]
inductive Nd (s:Spa) (f:Nat->Bool):Nat->Prop where
 | root {r:Int} (hr:r∈s.yg) (hf:f r.toNat=true):Nd s f r.toNat
 | arg {i:Nat} {n:Nod} {o:Opn} {a:Int} (hi:Nd s f i) (hn:s.ya[i]?=some n) (ho:o∈n.yc) (hfo:kar f o=true) (ha:a∈o.yb):Nd s f a.toNat
theorem k1u {α:Type} {x:Option α} {P Q:α->Prop} (h:Ev x P) (k:Ev x Q):Ev x fun v=>P v/\Q v:=by obtain ⟨v,h1,a⟩:=h;obtain ⟨u,k1,k2⟩:=k;rw [h1] at k1;cases k1;exact ⟨v,h1,a,k2⟩
structure kt4 (s:Spa) (l q:List Bool):Prop where
 len:l.length=s.ya.length
 full:∀ i,i<s.ya.length->kon s l i
 qlen:q.length=s.ya.length
 need:∀ k,fg q k=true↔Nd s (fg l) k
section
variable {s:Spa} (hf:kb6 s)
include hf
theorem kad1 {l q l' q':List Bool} (h:kt4 s l q) (a:kt4 s l' q'):l=l'/\q=q':=by
 obtain rfl:=kab9 hf h.len h.full a.len a.full;refine ⟨rfl,qbt fun i=>?_⟩;have h1:=h.qlen;have b:=a.qlen;by_cases hi:i<s.ya.length;rw [kng,kng];congr 1;rw [Bool.eq_iff_iff,h.need,a.need]
 ·rw [qaq (by omega),qaq (by omega)]
theorem kaff {l:List Bool} (hl:l.length=s.ya.length):Ev (kac (kb2 s l) fuel (0,List.replicate s.ya.length false)) fun p=>∀ k,fg p k=true->Nd s (fg l) k:=by
 have d:=kqt hf.roots;have e:=hf.nodes;refine kbo (xs:=s.yg) (step:=kb2 s l) (fun (j:Nat) (p:List Bool)=>((j:Int),p)) (fun j p=>p.length=s.ya.length/\∀ k,fg p k=true->Nd s (fg l) k) (by omega) ⟨qa0,fun k h=>by rw [k5j] at h;cases h⟩ (fun j p a ⟨h1,c⟩=>?_) (fun p ⟨h1,c⟩=>?_)
 ·have hr:=qb a;have b:=hf.roots.1 _ (qn a);simp only [kb2,kao a,qd,kaf,hr,qa,kmv l b.1,kmv p b.1,kak a (show s.yg.length<=9223372036854775807 by omega)];refine ⟨_,rfl,_,rfl,by rw [qbk];exact h1,fun k hk=>?_⟩;rw [kj8 (by omega)] at hk;split at hk;rename_i h;subst h;exact .root (qn a) hk
  ·exact c k hk
 ·exact ⟨_,by simp only [kb2,kan,qc],_,rfl,c⟩
theorem kamh {S:Nat->Prop} {l p:List Bool} {i:Nat} {n:Nod} {o:Opn} (hl:l.length=s.ya.length) (hp:p.length=s.ya.length) (hn:s.ya[i]?=some n) (ho:o∈n.yc) (hS:∀ k,fg p k=true->S k) (hA:kar (fg l) o=true->∀ a∈o.yb,S a.toNat):
  Ev (kac (kbg l o) fuel (0,p)) fun q=>∀ k,fg q k=true->S k:=by
 have f:=kgt hf hn ho;have g:=hf.nodes;have b:kcw o l=some (kar (fg l) o):=kxc (fun a ha=>by have:=klf hf hn ho ha;omega) (by omega);refine kbo (xs:=o.yb) (step:=kbg l o) (fun (j:Nat) (q:List Bool)=>((j:Int),q)) (fun j q=>q.length=s.ya.length/\∀ k,fg q k=true->S k) (by omega) ⟨hp,hS⟩ (fun j q c ⟨h1,d⟩=>?_) (fun q ⟨h1,d⟩=>?_)
 ·have ha:=qb c;have e:=klf hf hn ho (qn c);simp only [kbg,kao c,qd,b,qa,kaf,ha,kmv q e.1,kak c (show o.yb.length<=9223372036854775807 by omega)];cases m:kar (fg l) o with
  | false=>exact ⟨_,rfl,d⟩
  | true=>
   refine ⟨_,rfl,_,rfl,by rw [qbk];exact h1,fun k hk=>?_⟩;rw [kj8 (by omega)] at hk;split at hk;rename_i h;subst h;exact hA m _ (qn c)
   ·exact d k hk
 ·exact ⟨_,by simp only [kbg,kan,qc,qa],_,rfl,d⟩
theorem kahy {S:Nat->Prop} {l p:List Bool} {i:Nat} {n:Nod} (hl:l.length=s.ya.length) (hp:p.length=s.ya.length) (hn:s.ya[i]?=some n) (x:Int×List Bool) (f:x.1=(i:Int)) (hS:∀ k,fg p k=true->S k) (hA:fg p i=true->∀ o∈n.yc,kar (fg l) o=true->∀ a∈o.yb,S a.toNat):
  Ev (kac (kb0 s l x) fuel (0,p)) fun q=>∀ k,fg q k=true->S k:=by
 have g:=olen hf hn;have hi:=ka8 hn;refine kbo (xs:=n.yc) (step:=kb0 s l x) (fun (j:Nat) (q:List Bool)=>((j:Int),q)) (fun j q=>q.length=s.ya.length/\(∀ k,i<=k->fg q k=fg p k)/\∀ k,fg q k=true->S k) (by omega) ⟨hp,fun k _=>rfl,hS⟩ (fun j q b ⟨h1,d,c⟩=>?_) (fun q ⟨h1,d,c⟩=>?_)
 ·have ho:=qb b;have hm:=qn b;simp only [kb0,f,kaf,hn,qa,kao b,qd,kng (h:=(show i<q.length by omega)),d i (qx _),ho,kak b (show n.yc.length<=9223372036854775807 by omega)];cases e:fg p i with
  | false=>exact ⟨_,rfl,c⟩
  | true=>
   simp only [qd];refine kc7 (Ev.mono (k1u (k6i hf hl h1 hn hm) (kamh hf hl h1 hn hm c (hA e _ hm))) fun q' ⟨⟨g1,g2,g3,g4⟩,g5⟩=>?_);exact ⟨_,rfl,_,rfl,g1,fun k hk=>by rw [g3 k hk,d k hk],g5⟩
 ·exact ⟨_,by simp only [kb0,f,kaf,hn,qa,kan,qc],_,rfl,c⟩
theorem kakv {l p:List Bool} (hl:l.length=s.ya.length) (hp:p.length=s.ya.length) (hS:∀ k,fg p k=true->Nd s (fg l) k):Ev (kac (kdj s l) fuel (w64 ((s.ya.length:Int) - 1),p)) fun q=>∀ k,fg q k=true->Nd s (fg l) k:=by
 have d:=hf.nodes;have e0:w64 ((s.ya.length:Int) - 1)=(s.ya.length:Int) - 1:=kas;rw [e0];refine ksp (fun (x:Int×List Bool) => -1<=x.1/\x.1<(s.ya.length:Int)/\x.2.length=s.ya.length/\∀ k,fg x.2 k=true->Nd s (fg l) k)
  (fun x=>(x.1+1).toNat) (by show ((s.ya.length:Int) - 1+1).toNat<_;omega) ⟨by show (-1:Int)<=(s.ya.length:Int) - 1;omega,by show (s.ya.length:Int) - 1<_;omega,hp,hS⟩ ?_
 rintro ⟨z,q⟩ ⟨h0,h1,c,b⟩;simp only at h0 h1 c b;by_cases e:0<=z
 ·obtain ⟨i,rfl⟩:∃ i:Nat,z=(i:Int):=⟨z.toNat,by omega⟩;have hi:i<s.ya.length:=by omega
  have hn:=qb hi;have e1:w64 ((i:Int) - 1)=(i:Int) - 1:=kas;simp only [kdj,qj e,qd,e1];refine kc7 (Ev.mono (k1u (k3t hf hl c hn _ rfl) (kahy hf hl c hn _ rfl b fun f o ho hfo a ha => .arg (b _ f) hn ho hfo ha)) fun q' ⟨⟨g1,g2,g3,g4⟩,g5⟩=>?_);exact ⟨_,rfl,⟨by show (-1:Int)<=(i:Int) - 1;omega,by show (i:Int) - 1<_;omega,g1,g5⟩,by show ((i:Int) - 1+1).toNat<((i:Int)+1).toNat;omega⟩
 ·obtain rfl:z = -1:=by omega
  exact ⟨.inr q,by simp only [kdj];rfl,b⟩
theorem kaeq {l:List Bool} (hl:l.length=s.ya.length):Ev (kac (kku s l) fuel (0,List.replicate s.ya.length false)) fun p=>p.length=s.ya.length/\(∀ r∈s.yg,fg p r.toNat=fg l r.toNat)/\∀ k,fg p k=true->Nd s (fg l) k:=by
 have f:=kqt hf.roots;have g:=hf.nodes;refine kbo (xs:=s.yg) (step:=kku s l) (fun (j:Nat) (p:List Bool)=>((j:Int),p)) (fun j p=>p.length=s.ya.length/\(∀ r∈s.yg.take j,fg p r.toNat=fg l r.toNat)/\∀ k,fg p k=true->Nd s (fg l) k) (by omega) ⟨qa0,by simp,fun k h=>by rw [k5j] at h;cases h⟩ (fun j p b ⟨h1,d,e⟩=>?_) (fun p ⟨h1,d,e⟩=>?_)
 ·have hr:=qb b;have c:=hf.roots.1 _ (qn b);simp only [kku,kao b,qd,kaf,hr,qa,kmv l c.1,kmv p c.1,kak b (show s.yg.length<=9223372036854775807 by omega)];refine ⟨_,rfl,_,rfl,by rw [qbk];exact h1,fun r a=>?_,fun k hk=>?_⟩
  ·rw [kj8 (by omega)];split;rename_i h;rw [h]
   ·rename_i h;rw [qae b,qak,qai] at a;rcases a with a | rfl;exact d r a
    ·exact absurd rfl h
  ·rw [kj8 (by omega)] at hk;split at hk;rename_i h;subst h;exact .root (qn b) hk
   ·exact e k hk
 ·refine ⟨_,by simp only [kku,kan,qc],_,rfl,h1,fun r hr=>d r ?_,e⟩;rw [qar];exact hr
theorem kakj {S:Nat->Prop} {l p:List Bool} {i:Nat} {n:Nod} {o:Opn} (hl:l.length=s.ya.length) (hp:p.length=s.ya.length) (hn:s.ya[i]?=some n) (ho:o∈n.yc) (x:Int×List Bool) (A:x.1=(i:Int)) (hS:∀ k,fg p k=true->S k) (hA:fg p i=true->kar (fg l) o=true->∀ a∈o.yb,S a.toNat):
  Ev (kac (kjx l x o) fuel (0,p)) fun q=>q.length=s.ya.length/\(∀ k,fg p k=true->fg q k=true)/\(∀ k,i<=k->fg q k=fg p k)/\(fg p i=true->kar (fg l) o=true->∀ a∈o.yb,fg q a.toNat=true)/\∀ k,fg q k=true->S k:=by
 have B:=kgt hf hn ho;have C:=hf.nodes;have hi:=ka8 hn;have f:kj5 l o=some (kar (fg l) o):=k2g (fun a ha=>by have:=klf hf hn ho ha;omega) (by omega);refine Ev.mono (kbo (xs:=o.yb) (step:=kjx l x o) (Q:=fun q=>q.length=s.ya.length/\(∀ k,fg p k=true->fg q k=true)/\(∀ k,i<=k->fg q k=fg p k)/\(fg p i=true->kar (fg l) o=true->∀ a∈o.yb,fg q a.toNat=true)/\∀ k,fg q k=true->S k) (fun (j:Nat) (q:List Bool)=>((j:Int),q))
  (fun j q=>q.length=s.ya.length/\(∀ k,fg p k=true->fg q k=true)/\(∀ k,i<=k->fg q k=fg p k)/\(fg p i=true->kar (fg l) o=true->∀ a∈o.yb.take j,fg q a.toNat=true)/\∀ k,fg q k=true->S k) (t0:=p) (by omega) ⟨hp,fun k h=>h,fun k _=>rfl,by simp,hS⟩ (fun j q e ⟨h1,t,g,u,v⟩=>?_) (fun q ⟨h1,t,g,u,v⟩=>?_)) (fun q h=>h)
 ·have ha:=qb e;have w:=klf hf hn ho (qn e);have m:=kmv q w.1;have D:idx q (i:Int)=some (fg p i):=by rw [kaf,kng,g i (qx _)]
  have fin:∀ b:Bool,(fg q o.yb[j].toNat=true->b=true)->(fg p i=true->kar (fg l) o=true->b=true)->(b=true->fg q o.yb[j].toNat=true\/(fg p i=true/\kar (fg l) o=true))->∃ t',(((j+1:Nat):Int),List.set q (Int.toNat o.yb[j]) b)=(((j+1:Nat):Int),t') /\
    t'.length=s.ya.length/\(∀ k,fg p k=true->fg t' k=true)/\(∀ k,i<=k->fg t' k=fg p k)/\(fg p i=true->kar (fg l) o=true->∀ a∈o.yb.take (j+1),fg t' a.toNat=true)/\∀ k,fg t' k=true->S k:=fun b b1 b2 b3=>by
   refine ⟨_,rfl,by rw [qbk];exact h1,fun k hk=>?_,fun k hk=>?_,fun r hfo a c=>?_,fun k hk=>?_⟩
   ·rw [kj8 (by omega)];split;rename_i h;subst h;exact b1 (t _ hk)
    ·exact t k hk
   rw [kj8 (by omega),qi (by omega)];exact g k hk
   ·rw [kj8 (by omega)];split;exact b2 r hfo
    ·rename_i h;rw [qae e,qak,qai] at c;rcases c with c | rfl;exact u r hfo a c
     ·exact absurd rfl h
   ·rw [kj8 (by omega)] at hk;split at hk
    ·rename_i h;subst h;rcases b3 hk with h | ⟨h,y⟩;exact v _ h
     ·exact hA h y _ (qn e)
    ·exact v k hk
  have z:q[i]?=some (fg p i):=by rw [kng,g i (qx _)]
  have d:kjx l x o ((j:Int),q)=some (.inl (((j+1:Nat):Int),List.set q (Int.toNat o.yb[j]) (fg q o.yb[j].toNat || (fg p i && kar (fg l) o)))):=by
   simp only [kjx,kao e,qd,kaf,ha,qa,m,kak e (show o.yb.length<=9223372036854775807 by omega),A,z,f];cases fg q o.yb[j].toNat with
   | true=>rfl
   | false=>cases fg p i <;> rfl
  refine ⟨_,d,fin _ (fun h=>by rw [h];rfl) (fun h y=>by rw [h,y];simp) fun h=>?_⟩;cases E:fg q o.yb[j].toNat with
  | true=>exact .inl rfl
  | false=>
   rw [E,Bool.false_or,qv] at h;exact .inr h
 ·refine ⟨_,by simp only [kjx,kan,qc,qa],_,rfl,h1,t,g,?_,v⟩;rw [qar] at u;exact u
theorem kajm {S:Nat->Prop} {l p:List Bool} {i:Nat} {n:Nod} (hl:l.length=s.ya.length) (hp:p.length=s.ya.length) (hn:s.ya[i]?=some n) (x:Int×List Bool) (r:x.1=(i:Int)) (hS:∀ k,fg p k=true->S k) (hA:fg p i=true->∀ o∈n.yc,kar (fg l) o=true->∀ a∈o.yb,S a.toNat):
  Ev (kac (kkv l x n) fuel (0,p)) fun q=>q.length=s.ya.length/\(∀ k,fg p k=true->fg q k=true)/\(∀ k,i<=k->fg q k=fg p k)/\(fg p i=true->∀ o∈n.yc,kar (fg l) o=true->∀ a∈o.yb,fg q a.toNat=true)/\∀ k,fg q k=true->S k:=by
 have t:=olen hf hn;have hi:=ka8 hn;refine kbo (xs:=n.yc) (step:=kkv l x n) (fun (j:Nat) (q:List Bool)=>((j:Int),q))
  (fun j q=>q.length=s.ya.length/\(∀ k,fg p k=true->fg q k=true)/\(∀ k,i<=k->fg q k=fg p k)/\(fg p i=true->∀ o∈n.yc.take j,kar (fg l) o=true->∀ a∈o.yb,fg q a.toNat=true)/\∀ k,fg q k=true->S k) (by omega) ⟨hp,fun k h=>h,fun k _=>rfl,by simp,hS⟩ (fun j q c ⟨h1,g,d,f,m⟩=>?_) (fun q ⟨h1,g,d,f,m⟩=>?_)
 ·have ho:=qb c;have hm:=qn c;simp only [kkv,kaf,qa,kao c,qd,ho,kak c (show n.yc.length<=9223372036854775807 by omega)];refine kc7 (Ev.mono (kakj (S:=S) hf hl h1 hn hm x r m fun u hfo a ha=>hA (by rw [<- d i (qx _)];exact u) _ hm hfo a ha) fun q' ⟨g1,g2,g3,g4,g5⟩=>?_);refine ⟨_,rfl,_,rfl,g1,fun k hk=>g2 k (g k hk),fun k hk=>by rw [g3 k hk,d k hk],fun e o b hfo a ha=>?_,g5⟩;rw [qae c,qak,qai] at b;rcases b with b | rfl;exact g2 _ (f e o b hfo a ha)
  ·exact g4 (by rw [d i (qx _)];exact e) hfo a ha
 ·refine ⟨_,by simp only [kkv,kan,qc],_,rfl,h1,g,d,?_,m⟩;rw [qar] at f;exact f
theorem kalj {l p:List Bool} (hl:l.length=s.ya.length) (hp:p.length=s.ya.length) (hS:∀ k,fg p k=true->Nd s (fg l) k):Ev (kac (km1 s l) fuel (w64 ((s.ya.length:Int) - 1),p)) fun q=>
  q.length=s.ya.length/\(∀ k,fg p k=true->fg q k=true)/\(∀ (i:Nat) (n:Nod),s.ya[i]?=some n->fg q i=true->∀ o∈n.yc,kar (fg l) o=true->∀ a∈o.yb,fg q a.toNat=true)/\∀ k,fg q k=true->Nd s (fg l) k:=by
 have r:=hf.nodes;have e0:w64 ((s.ya.length:Int) - 1)=(s.ya.length:Int) - 1:=kas;rw [e0];refine ksp (fun (x:Int×List Bool) => -1<=x.1/\x.1<(s.ya.length:Int)/\x.2.length=s.ya.length/\(∀ k,fg p k=true->fg x.2 k=true)/\(∀ (i:Nat) (n:Nod),x.1<(i:Int)->s.ya[i]?=some n->fg x.2 i=true->∀ o∈n.yc,kar (fg l) o=true->∀ a∈o.yb,fg x.2 a.toNat=true)/\∀ k,fg x.2 k=true->Nd s (fg l) k)
  (fun x=>(x.1+1).toNat) (by show ((s.ya.length:Int) - 1+1).toNat<_;omega) ⟨by show (-1:Int)<=(s.ya.length:Int) - 1;omega,by show (s.ya.length:Int) - 1<_;omega,hp,fun k h=>h,fun i n h hn=>by have:=ka8 hn;have v:(s.ya.length:Int) - 1<(i:Int):=h;omega,hS⟩ ?_
 rintro ⟨z,q⟩ ⟨h0,h1,e,f,g,d⟩;simp only at h0 h1 e f g d;by_cases t:0<=z
 ·obtain ⟨i,rfl⟩:∃ i:Nat,z=(i:Int):=⟨z.toNat,by omega⟩;have hi:i<s.ya.length:=by omega
  have hn:=qb hi;have e1:w64 ((i:Int) - 1)=(i:Int) - 1:=kas;simp only [km1,qj t,qd,e1,kaf,hn,qa];refine kc7 (Ev.mono (kajm (S:=Nd s (fg l)) hf hl e hn _ rfl d fun j o ho hfo a ha => .arg (d _ j) hn ho hfo ha) fun q' ⟨g1,g2,g3,g4,g5⟩=>?_);refine ⟨_,rfl,⟨by show (-1:Int)<=(i:Int) - 1;omega,by show (i:Int) - 1<_;omega,g1,fun k hk=>g2 k (f k hk),fun k n hk b j o ho hfo a ha=>?_,g5⟩,by show ((i:Int) - 1+1).toNat<((i:Int)+1).toNat;omega⟩;have u:(i:Int) - 1<(k:Int):=hk;have c:fg q k=true:=by rw [<- g3 k (by omega)];exact j
  by_cases m:k=i;subst m;rw [hn] at b;cases b;exact g4 c o ho hfo a ha
  ·exact g2 _ (g k n (by omega) b c o ho hfo a ha)
 ·obtain rfl:z = -1:=by omega
  exact ⟨.inr q,by simp only [km1];rfl,e,f,fun i n hn=>g i n (by omega) hn,d⟩
def NumQ (s:Spa) (p:Nat->Bool) (i:Nat) (num:List Int):Prop:=num.length=s.ya.length/\∀ k,k<i->p k=true->num[k]?=some (cntP p k:Int)
omit hf in
theorem NumQ.idx {p:Nat->Bool} {i:Nat} {num:List Int} (h:NumQ s p i num) {a:Int} (h0:0<=a) (h1:a<(i:Int)) (hp:p a.toNat=true):Go.Proofs.YtjbonbdomgoklaaGreatDoor.idx num a=some (numI p a):=by unfold Go.Proofs.YtjbonbdomgoklaaGreatDoor.idx;rw [ql h0,h.2 a.toNat (by omega) hp];rfl
omit hf in
theorem kaik (f:Int->Int) {num args:List Int} (hl:args.length<=1000) (h:∀ a∈args,idx num a=some (f a)):kje num args=some (args.map f):=by
 unfold kje;have k:=kck (kgd num args) args.length (fun j=>((j:Int),(args.take j).map f)) (args.map f) (fun j b=>by
  simp only [kgd,kao b,qd,kaf,qb b,qa,h _ (qn b),kak b (show args.length<=9223372036854775807 by omega)];rw [kcg (by simp;omega),qa,map_take _ b]) (by
  simp only [kgd,kan,qc,qar])
 have k':kac (kgd num args) fuel (0,([]:List Int))=some (args.map f):=by simpa using k
 rw [k',qa]
theorem popts {l:List Bool} {p:Nat->Bool} (hl:l.length=s.ya.length) {i:Nat} {n:Nod} (hn:s.ya[i]?=some n) (c:∀ o∈n.yc,kar (fg l) o=true->∀ a∈o.yb,p a.toNat=true) (x:Int×List Int×List Nod) (num:List Int) (k:List.set x.2.1 (Int.toNat x.1) (List.length (x.2.2):Int)=num) (d:NumQ s p (i+1) num):
  Ev (kac (kky l x n) fuel (0,([]:List Opn))) fun v=>v=(n.yc.filter (kar (fg l))).map (kir p):=by
 have m:=olen hf hn;have hi:=ka8 hn;refine kbo (xs:=n.yc) (step:=kky l x n) (fun (j:Nat) (q:List Opn)=>((j:Int),q)) (fun j q=>q=((n.yc.take j).filter (kar (fg l))).map (kir p)) (by omega) (by simp) (fun j q b h1=>?_) (fun q h1=>?_)
 ·subst h1;have ho:=qb b;have hm:=qn b;have e:kj5 l n.yc[j]=some (kar (fg l) n.yc[j]):=k2g (fun a ha=>by have:=klf hf hn hm ha;omega) (by have:=kgt hf hn hm;omega);simp only [kky,kaf,qa,kao b,qd,ho,e,kak b (show n.yc.length<=9223372036854775807 by omega),k];cases g:kar (fg l) n.yc[j] with
  | false=>
   simp only [qc,qa];refine ⟨_,rfl,_,rfl,?_⟩;rw [kmh _ b,qi (by rw [g];simp),qby]
  | true=>
   simp only [qd];have h:(((n.yc.take j).filter (kar (fg l))).map (kir p)).length<=j:=(by rw [qs];refine qag (qb6 _ _) ?_;rw [qam];omega);rw [kaik (numI p) (by have:=kgt hf hn hm;omega) (fun a ha=>by have:=klf hf hn hm ha;exact d.idx this.1 (by omega) (c _ hm g a ha)),qa,kcg (by rw [qab];omega)];simp only [qa];refine ⟨_,rfl,_,rfl,?_⟩;rw [kmh _ b,ql g,qax];rfl
 ·subst h1;rw [qar];exact ⟨_,by simp only [kky,kan,qc],_,rfl,rfl⟩
theorem kamd {l q:List Bool} (hl:l.length=s.ya.length) (r:q.length=s.ya.length) (e:∀ (i:Nat) (n:Nod),s.ya[i]?=some n->fg q i=true->∀ o∈n.yc,kar (fg l) o=true->∀ a∈o.yb,fg q a.toNat=true):
  Ev (kac (kkt s l q) fuel (0,List.replicate s.ya.length 0,([]:List Nod))) fun v=>NumQ s (fg q) s.ya.length v.1/\v.2=kept s (fg l) (fg q) s.ya.length:=by
 have p:=hf.nodes;refine kbo (xs:=s.ya) (step:=kkt s l q) (fun (j:Nat) (v:List Int×List Nod)=>((j:Int),v.1,v.2)) (fun j v=>NumQ s (fg q) j v.1/\v.2=kept s (fg l) (fg q) j) (t0:=(List.replicate s.ya.length 0,[])) (by omega) ⟨⟨qa0,fun k h=>by omega⟩,rfl⟩ (fun i v hi ⟨h1,g⟩=>?_) (fun v ⟨h1,g⟩=>?_)
 ·obtain ⟨num,nds⟩:=v;simp only at h1 g;subst g;have hn:=qb hi;have f:i<num.length:=by rw [h1.1];exact hi
  have e1:num[i]?=some num[i]:=qb f;simp only [kkt,kao hi,qd,kaf,e1,hn,qa,kng (h:=(show i<q.length by omega)),qah,kqk,kak hi (show s.ya.length<=9223372036854775807 by omega)];cases m:fg q i with
  | false=>
   simp only [Bool.not_false,qd,qa,qaj];refine ⟨_,rfl,(_,_),rfl,⟨h1.1,fun k hk b=>?_⟩,?_⟩
   ·by_cases d:k=i;subst d;rw [m] at b;cases b
    ·exact h1.2 k (by omega) b
   ·rw [ktt hn,qi (by rw [m];simp),qby];rfl
  | true=>
   have c:NumQ s (fg q) (i+1) (List.set num i (cntP (fg q) i:Int)):=by
    refine ⟨by rw [qbk];exact h1.1,fun k hk b=>?_⟩;by_cases d:k=i;subst d;rw [qbr f]
    ·rw [qbw (by omega)];exact h1.2 k (by omega) b
   simp only [qbc,qc];obtain ⟨v,hv,rfl⟩:=popts hf hl hn (e i _ hn m) ((i:Int),num,kept s (fg l) (fg q) i) (List.set num i (cntP (fg q) i:Int)) (by simp [kqk]) c;have:=k2p (fg q) i;rw [hv,qa,kcg (by rw [kqk,qab];omega)];simp only [qa,qy];refine ⟨_,rfl,(_,_),rfl,c,?_⟩;rw [ktt hn,ql m];rfl
 ·exact ⟨_,by simp only [kkt,kan,qc],_,rfl,h1,g⟩
theorem kalh {l:List Bool} {p:Nat->Bool} (hl:l.length=s.ya.length) (c:∀ r∈s.yg,fg l r.toNat=true->p r.toNat=true) (x:List Int×List Nod) (f:NumQ s p s.ya.length x.1):Ev (kac (kkw s l x) fuel (0,([]:List Int))) fun v=>v=(s.yg.filter fun r=>fg l r.toNat).map (numI p):=by
 have g:=kqt hf.roots;have h:=hf.nodes;refine kbo (xs:=s.yg) (step:=kkw s l x) (fun (j:Nat) (q:List Int)=>((j:Int),q)) (fun j q=>q=((s.yg.take j).filter fun r=>fg l r.toNat).map (numI p)) (by omega) (by simp) (fun j q b h1=>?_) (fun q h1=>?_)
 ·subst h1;have hr:=qb b;have hm:=qn b;have a:=hf.roots.1 _ hm;simp only [kkw,kao b,qd,kaf,hr,qa,kmv l a.1,kak b (show s.yg.length<=9223372036854775807 by omega)];cases d:fg l s.yg[j].toNat with
  | false=>
   simp only [qc,qa];refine ⟨_,rfl,_,rfl,?_⟩;rw [kmh _ b,qi (by rw [d];simp),qby]
  | true=>
   simp only [qd,f.idx a.1 a.2 (c _ hm d),qa];have e:(((s.yg.take j).filter fun r=>fg l r.toNat).map (numI p)).length<=j:=(by rw [qs];refine qag (qb6 _ _) ?_;rw [qam];omega);rw [kcg (by rw [qab];omega)];simp only [qa];refine ⟨_,rfl,_,rfl,?_⟩;rw [kmh _ b,ql d,qax];rfl
 ·subst h1;rw [qar];exact ⟨_,by simp only [kkw,kan,qc],_,rfl,rfl⟩
omit hf in
theorem kac9 {l q:List Bool} (h:kt4 s l q):krv s (fg l) (fg q):=
 ⟨fun i t c=>k82 h.full t i c,fun r hr b=>(h.need _).2 (.root hr b),fun i n o d hn ho hfo a ha=>(h.need _).2 (.arg ((h.need _).1 d) hn ho hfo ha)⟩
end
theorem kadf {s:Spa} (d:ktk s):Ev (kbz s) fun r=>(¬ kb6 s/\r=(⟨[],[]⟩,4))\/(kb6 s/\∃ l q,kt4 s l q/\r=(kb7 (fg l) (fg q) s,0)):=by
 unfold kbz;obtain ⟨b,e,a⟩:=kvs d;rw [e,qa];cases b with
 | false=>exact ⟨_,rfl, .inl ⟨fun h=>absurd (a.2 h) qa6,rfl⟩⟩
 | true=>
  have hf:=a.1 rfl;have f:=hf.nodes;simp only [qbc,qc];obtain ⟨l,hl,l1,l2⟩:=k7i hf;rw [hl,qa,kla 1 false s.ya.length,qa];obtain ⟨p,hp,⟨p1,p2⟩,p3⟩:=k1u (k0b hf l1) (kaff hf l1);rw [hp,qa];obtain ⟨q,g,⟨q1,q2,q3⟩,q4⟩:=k1u (k7f hf l1 p1) (kakv hf l1 p1 p3);rw [g,qa,kla 8 0 s.ya.length,qa];obtain ⟨v,hv,v1,v2⟩:=k3l hf l1 q1;rw [hv,qa];obtain ⟨u,hu,rfl⟩:=k3q hf l1 v v1;rw [hu,qa];refine ⟨_,rfl, .inr ⟨hf,l,q,⟨l1,l2,q1,fun k=>⟨q4 k,fun h=>?_⟩⟩,?_⟩⟩
  ·induction h with
   | root hr c=>exact q2 _ (by rw [p2 _ hr];exact c)
   | arg _ hn ho hfo ha ih=>exact q3 _ _ hn ih _ ho hfo _ ha
  ·rw [v2];rfl
theorem kakm {s:Spa} (d:ktk s):Ev (kn0 s) fun r=>(¬ kb6 s/\r=(⟨[],[]⟩,4))\/(kb6 s/\∃ l q,kt4 s l q/\r=(kb7 (fg l) (fg q) s,0)):=by
 unfold kn0;obtain ⟨b,e,c⟩:=kak8 d;rw [e,qa];cases b with
 | false=>exact ⟨_,rfl, .inl ⟨fun h=>absurd (c.2 h) qa6,rfl⟩⟩
 | true=>
  have hf:=c.1 rfl;have f:=hf.nodes;simp only [qbc,qc];obtain ⟨l,hl,l1,l2⟩:=kaga hf;rw [hl,qa,kla 1 false s.ya.length,qa];obtain ⟨p,hp,p1,p2,p3⟩:=kaeq hf l1;rw [hp,qa];obtain ⟨q,g,q1,q2,q3,q4⟩:=kalj hf l1 p1 p3;rw [g,qa,kla 8 0 s.ya.length,qa];obtain ⟨v,hv,v1,v2⟩:=kamd hf l1 q1 q3;rw [hv,qa];obtain ⟨u,hu,rfl⟩:=kalh (p:=fg q) hf l1 (fun r hr a=>q2 _ (by rw [p2 r hr];exact a)) v v1;rw [hu,qa];refine ⟨_,rfl, .inr ⟨hf,l,q,⟨l1,l2,q1,fun k=>⟨q4 k,fun h=>?_⟩⟩,?_⟩⟩
  ·induction h with
   | root hr a=>exact q2 _ (by rw [p2 _ hr];exact a)
   | arg _ hn ho hfo ha ih=>exact q3 _ _ hn ih _ ho hfo _ ha
  ·rw [v2];rfl
theorem kv6 {α:Type} {p:α->Bool} {l:List α} (h:∀ x∈l,p x=true):l.filter p=l:=List.filter_eq_self.2 h
theorem kafv {p:Nat->Bool} {n:Nat} (h:∀ i,i<n->p i=true):cntP p n=n:=by unfold cntP;rw [kv6 fun x a=>h x (by simpa using a),List.length_range]
section
variable {s:Spa} (hf:kb6 s)
include hf
theorem kahs {f p:Nat->Bool} (h1:∀ i,i<s.ya.length->f i=true) (d:∀ i,i<s.ya.length->p i=true):kb7 f p s=s:=by
 have b:∀ a:Int,0<=a->a<(s.ya.length:Int)->numI p a=a:=fun a h0 e=>by unfold numI;rw [kafv fun i hi=>d i (by omega)];omega
 obtain ⟨ns,rs⟩:=s;unfold kb7;congr 1
 ·rw [kv6 fun i hi=>d i (by simpa using hi)];refine qbt fun i=>?_;rw [qq];by_cases hi:i<ns.length;have hn:=qb hi;rw [List.getElem?_range hi,qba,hn,qaf];congr 1;unfold ko0;have c:∀ o∈ns[i].yc,kar f o=true:=fun o ho=>qr.2 fun a ha=>(by have:=kw7 hf hn ho a ha;exact h1 _ (by have h:a<(ns.length:Int):=this.2;show a.toNat<ns.length;omega));rw [kv6 c];have hk:ns[i].yc.map (kir p)=ns[i].yc:=(by refine (qbl fun o ho=>?_).trans (List.map_id _);unfold kir;have:o.yb.map (numI p)=o.yb:=(by refine (qbl fun a ha=>?_).trans (List.map_id _);have:=kw7 hf hn ho a ha;exact b a this.1 this.2);rw [this];rfl);rw [hk]
  ·rw [qaq (l:=List.range _) (by rw [List.length_range];show ns.length<=i;omega),qaq (l:=ns) (by omega)];rfl
 ·rw [kv6 fun r hr=>by have:=hf.roots.1 r hr;exact h1 _ (by have h:r<(ns.length:Int):=this.2;show r.toNat<ns.length;omega)];refine (qbl fun r hr=>?_).trans (List.map_id _);have:=hf.roots.1 r hr;exact b r this.1 this.2
theorem kaaz {l q l' q':List Bool} (h:kt4 s l q) (I:kt4 (kb7 (fg l) (fg q) s) l' q'):kb7 (fg l') (fg q') (kb7 (fg l) (fg q) s)=kb7 (fg l) (fg q) s:=by
 have hk:=kac9 h;have d:=kxh hf hk
 -- what is needed J terms
 have m:∀ k,Nd s (fg l) k->fg l k=true:=fun k C=>by
  cases C with
  | root hr e=>exact e
  | arg hi hn ho hfo ha=>exact qr.1 hfo _ ha
 have node:∀ j,j<(kb7 (fg l) (fg q) s).ya.length->∃ i n,s.ya[i]?=some n/\fg q i=true/\cntP (fg q) i=j/\(kb7 (fg l) (fg q) s).ya[j]?=some (ko0 (fg l) (fg q) n):=fun j p=>by obtain ⟨i,n,h1,v,w,B⟩:=knz (qb p);exact ⟨i,n,h1,v,w,by rw [qb p,B]⟩
 have t:∀ j,j<(kb7 (fg l) (fg q) s).ya.length->fg l' j=true:=fun j=>by
  induction j using Nat.strongRecOn with
  | _ j ih=>
   intro p;obtain ⟨i,n,h1,v,w,B⟩:=node j p;have hi:=ka8 h1;obtain ⟨o,ho,hfo⟩:=(h.full i hi n h1).1 (m i ((h.need i).1 v));refine (I.full j p _ B).2 ⟨kir (fg q) o,qaa.2 ⟨o,qa5.2 ⟨ho,hfo⟩,rfl⟩,qr.2 fun b D=>?_⟩;obtain ⟨a,ha,rfl⟩:=qaa.1 (show b∈o.yb.map (numI (fg q)) from D);have x:=((hf.node i n h1).opt o ho).args a ha;have u:=(h.need a.toNat).2 (.arg ((h.need i).1 v) h1 ho hfo ha);have E:cntP (fg q) a.toNat<j:=(by rw [<- w];exact kyi _ _ _ u);have:(numI (fg q) a).toNat=cntP (fg q) a.toNat:=(by unfold numI;omega);rw [this];exact ih _ E (by omega)
 have F:∀ i,Nd s (fg l) i->Nd (kb7 (fg l) (fg q) s) (fg l') (cntP (fg q) i):=fun i C=>by
  induction C with
  | @root r hr e=>
   have x:=hf.roots.1 r hr;have u:=(h.need r.toNat).2 (.root hr e);have hn:=qb (show r.toNat<s.ya.length by omega);have g:=kuz (f:=fg l) hn u;have y:numI (fg q) r∈(kb7 (fg l) (fg q) s).yg:=qaa.2 ⟨r,qa5.2 ⟨hr,e⟩,rfl⟩;have c:(numI (fg q) r).toNat=cntP (fg q) r.toNat:=(by unfold numI;omega);have:=Nd.root (f:=fg l') y (by rw [c];exact t _ (ka8 g))
   rwa [c] at this
  | @arg i n o a hi hn ho hfo ha ih=>
   have G:=(h.need i).2 hi;have x:=((hf.node i n hn).opt o ho).args a ha;have g:=kuz (f:=fg l) hn G;have z:kir (fg q) o∈(ko0 (fg l) (fg q) n).yc:=qaa.2 ⟨o,qa5.2 ⟨ho,hfo⟩,rfl⟩;have H:numI (fg q) a∈(kir (fg q) o).yb:=qaa.2 ⟨a,ha,rfl⟩;have c:(numI (fg q) a).toNat=cntP (fg q) a.toNat:=(by unfold numI;omega);have A:kar (fg l') (kir (fg q) o)=true:=qr.2 fun b D=>(by have:=kw7 d g z b D;exact t _ (by omega));have:=Nd.arg (f:=fg l') ih g z A H
   rwa [c] at this
 refine kahs d t fun j p=>?_;obtain ⟨i,n,h1,v,w,B⟩:=node j p;have:=F i ((h.need i).1 v);rw [w] at this;exact (I.need j).2 this
end
theorem kt2:∀ l:List Int,cmpI l l=0
 | []=>rfl
 | x::l=>by simp [cmpI,kt2 l]
end Go.Proofs.YtjbonbdomgoklaaGreatDoor
