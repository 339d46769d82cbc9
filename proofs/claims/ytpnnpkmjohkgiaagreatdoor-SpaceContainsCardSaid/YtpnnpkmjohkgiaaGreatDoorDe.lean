import Derived.Test.YtpnnpkmjohkgiaaGreatDoorDd
set_option linter.all false
set_option maxRecDepth 100000
namespace Go.Proofs.YtpnnpkmjohkgiaaGreatDoor
open Go Go.RowKit
def fg (l:List Bool) (i:Nat):Bool:=(l[i]?).getD false
theorem kun {l:List Bool} {a:Int} (h0:0<=a) (h1:a<(l.length:Int)):idx l a=some (fg l a.toNat):=by
 have b:a.toNat<l.length:=by omega
 unfold idx fg;rw [qq h0,qa b];rfl
theorem ko9 {l:List Bool} {i:Nat} (h:i<l.length):l[i]?=some (fg l i):=by unfold fg;rw [qa h];rfl
theorem ko3 {l:List Bool} {i:Nat} (h:i<l.length) (b:Bool) (j:Nat):fg (l.set i b) j=if j=i then b else fg l j:=by
 unfold fg;by_cases a:j=i;subst a;rw [qq rfl,List.getElem?_set_self h];rfl
 ·rw [qh a,List.getElem?_set_ne (by omega)]
theorem k1i (n i:Nat):fg (List.replicate n false) i=false:=by unfold fg;rw [List.getElem?_replicate];split <;> rfl
theorem kqo {s:Spa} (hf:kc2 s) {i:Nat} {n:Nod} {o:Opn} (hn:s.f_Nodes[i]?=some n) (ho:o∈n.f_Options):o.f_Args.length<=24:=by
 have c:=hf.node i n hn;have d:=c.opt o ho;have key:∀ l:List Int,(∀ a∈l,0<=a/\a<(i:Int))->(l.length:Int)<=(l.map (szAt s.f_Nodes)).sum:=by
  intro l
  induction l with
  | nil=>intro _;simp
  | cons a l ih=>
   intro h;have h1:=ih fun b f=>h b (qp _ f);have e:=h a (q9 ..);have g:=kbo hn;obtain ⟨m,_,e2,e3,_⟩:=ke8 (ns:=s.f_Nodes) e.1 (by omega);have j:=(hf.node _ m e2).size;simp only [List.length_cons,qa9,List.sum_cons];omega
 have h1:=key _ d.args;have e:=d.size;have g:=c.size;omega
theorem kg0 {f g:Nat->Bool} {o:Opn} (h:∀ a∈o.f_Args,f a.toNat=g a.toNat):kb6 f o=kb6 g o:=by unfold kb6;rw [Bool.eq_iff_iff,ql,ql];exact ⟨fun k a ha=>by rw [<- h a ha];exact k a ha,fun k a ha=>by rw [h a ha];exact k a ha⟩
theorem kux {o:Opn} {l:List Bool} (h:∀ a∈o.f_Args,0<=a/\a<(l.length:Int)) (g:o.f_Args.length<=9223372036854775807):kcx o l=some (kb6 (fg l) o):=by
 unfold kcx
 let bad:Nat->Bool:=fun j=>!fg l ((o.f_Args[j]?).getD 0).toNat
 have hs:∀ j,j<o.f_Args.length->kbu o l (j:Int)=if bad j=true then some (.inr (.inr false)) else some (.inl ((j+1:Nat):Int)):=fun j c=>by
  have ha:=h _ (qt c);have e:bad j=!fg l o.f_Args[j].toNat:=by show (!fg l ((o.f_Args[j]?).getD 0).toNat)=_;rw [qa c,qah]
  rw [e];simp only [kbu,ka6 c,qe,kak,qa c,qc,kal c g,kun ha.1 ha.2];cases fg l o.f_Args[j].toNat <;> rfl
 have i:kbu o l (o.f_Args.length:Int)=some (.inr (.inl ())):=by simp only [kbu,ka2,qg]
 rcases kcq (step:=kbu o l) o.f_Args.length (by omega) bad (fun _ => .inr false) (.inl ()) hs i with ⟨j,c,f,_,hr⟩ | ⟨f,hr⟩
 ·rw [hr];have b:(!fg l ((o.f_Args[j]?).getD 0).toNat)=true:=f;rw [qa c,qah] at b;have:kb6 (fg l) o=false:=by rw [Bool.eq_false_iff];intro d;have:=ql.1 d _ (qt c);rw [this] at b;cases b
  rw [this];rfl
 ·rw [hr];have:kb6 (fg l) o=true:=ql.2 fun a ha=>by
   obtain ⟨j,c,rfl⟩:=qab.1 ha;have b:(!fg l ((o.f_Args[j]?).getD 0).toNat)=false:=f j c;rw [qa c,qah] at b;cases k:fg l o.f_Args[j].toNat with
   | true=>rfl
   | false=>rw [k] at b;cases b
  rw [this];rfl
section
variable {s:Spa} (hf:kc2 s)
include hf
theorem olen {i:Nat} {n:Nod} (hn:s.f_Nodes[i]?=some n):n.f_Options.length<=32768:=qay (ki3 hn) hf.opts
theorem kqc {i:Nat} {n:Nod} {o:Opn} (hn:s.f_Nodes[i]?=some n) (ho:o∈n.f_Options) {a:Int} (ha:a∈o.f_Args):0<=a/\a<(i:Int)/\a<(s.f_Nodes.length:Int):=by have h1:=((hf.node i n hn).opt o ho).args a ha;have b:=kbo hn;omega
def kha (s:Spa) (l:List Bool) (i:Nat):Prop:=∀ n,s.f_Nodes[i]?=some n->(fg l i=true↔∃ o∈n.f_Options,kb6 (fg l) o=true)
theorem kxe:Ev (kdh s) fun l=>l.length=s.f_Nodes.length/\∀ i,i<s.f_Nodes.length->kha s l i:=by
 have v:=hf.nodes;unfold kdh;rw [kuv 1 false s.f_Nodes.length (by omega),qc];refine kda (Ev.mono (kco (xs:=s.f_Nodes) (step:=kcs s) (Q:=fun l=>l.length=s.f_Nodes.length/\∀ i,i<s.f_Nodes.length->kha s l i) (fun (i:Nat) (l:List Bool)=>((i:Int),l))
  (fun i l=>l.length=s.f_Nodes.length/\(∀ k,k<i->kha s l k)/\∀ k,i<=k->fg l k=false) (t0:=List.replicate s.f_Nodes.length false) (by omega) ⟨List.length_replicate,fun k h=>by omega,fun k _=>k1i _ _⟩ (fun i l hi ⟨h1,d,t⟩=>?_) (fun l ⟨h1,d,t⟩=>?_)) ?_)
 ·have hn:=qa hi;have w:=olen hf hn;simp only [kcs,ka6 hi,qe,kal hi (show s.f_Nodes.length<=9223372036854775807 by omega)];refine kda (Ev.mono (kco (xs:=s.f_Nodes[i].f_Options) (step:=kcr s ((i:Int),l)) (Q:=fun l'=>l'.length=s.f_Nodes.length/\(∀ k,k≠i->fg l' k=fg l k)/\(fg l' i=true↔∃ o∈s.f_Nodes[i].f_Options,kb6 (fg l) o=true)) (fun (k:Nat) (l':List Bool)=>((k:Int),l'))
   (fun k l'=>l'.length=s.f_Nodes.length/\(∀ k,k≠i->fg l' k=fg l k)/\(fg l' i=true↔∃ o∈s.f_Nodes[i].f_Options.take k,kb6 (fg l) o=true)) (t0:=l) (by omega) ⟨h1,fun _ _=>rfl,by simp [t i (qx _)]⟩ (fun k l' hk ⟨g1,g2,g3⟩=>?_) (fun l' ⟨g1,g2,g3⟩=>?_)) ?_)
  rotate_left
  ·have ho:=qa hk;have hm:=qt hk;have g:i<l'.length:=(by omega);have p:kcx s.f_Nodes[i].f_Options[k] l'=some (kb6 (fg l) s.f_Nodes[i].f_Options[k]):=(by rw [kux (fun a ha=>by have:=kqc hf hn hm ha;omega) (by have:=kqo hf hn hm;omega)];congr 1;exact kg0 fun a ha=>g2 _ (by have:=kqc hf hn hm ha;omega));have hst:∀ b:Bool,(b=true↔(fg l' i=true\/kb6 (fg l) s.f_Nodes[i].f_Options[k]=true))->(l'.set i b).length=s.f_Nodes.length/\(∀ k,k≠i->fg (l'.set i b) k=fg l k)/\(fg (l'.set i b) i=true↔∃ o∈s.f_Nodes[i].f_Options.take (k+1),kb6 (fg l) o=true):=fun b r=>by
    refine ⟨by rw [List.length_set];exact g1,fun j u=>by rw [ko3 g,qh u];exact g2 j u,?_⟩;rw [ko3 g,qq rfl,r,g3,qa0 hk];simp only [qan,qax];constructor
    ·rintro (⟨o,h1,d⟩ | d);exact ⟨o, .inl h1,d⟩
     ·exact ⟨_, .inr rfl,d⟩
    ·rintro ⟨o,h1 | rfl,d⟩;exact .inl ⟨o,h1,d⟩
     ·exact .inr d
   simp only [kcr,kak,hn,qc,ka6 hk,qe,ko9 g,kal hk (show s.f_Nodes[i].f_Options.length<=9223372036854775807 by omega),ho,p,Int.toNat_natCast];cases r:fg l' i with
   | true=>
    simp only [qe,qc];exact ⟨_,rfl,_,rfl,hst true (by simp [r])⟩
   | false=>
    simp only [qg,qc];exact ⟨_,rfl,_,rfl,hst _ (by simp [r])⟩
  refine ⟨_,by simp only [kcr,kak,hn,qc,ka2,qg],_,rfl,g1,g2,?_⟩;rw [qa7] at g3;exact g3
  ·rintro l' ⟨g1,g2,g3⟩;refine ⟨_,rfl,_,rfl,g1,fun k hk n e=>?_,fun k hk=>?_⟩
   ·have f:∀ o∈n.f_Options,kb6 (fg l') o=kb6 (fg l) o:=fun o ho=>kg0 fun a ha=>g2 _ (by have:=kqc hf e ho ha;omega);by_cases q:k=i;subst q;rw [hn] at e;cases e;rw [g3];exact ⟨fun ⟨o,c,m⟩=>⟨o,c,by rw [f o c];exact m⟩,fun ⟨o,c,m⟩=>⟨o,c,by rw [<- f o c];exact m⟩⟩
    ·rw [g2 k q,d k (by omega) n e];exact ⟨fun ⟨o,c,m⟩=>⟨o,c,by rw [f o c];exact m⟩,fun ⟨o,c,m⟩=>⟨o,c,by rw [<- f o c];exact m⟩⟩
   ·rw [g2 k (by omega)];exact t k (by omega)
 exact ⟨_,by simp only [kcs,ka2,qg],_,rfl,h1,d⟩
 ·intro l h;exact ⟨l,rfl,h⟩
end
end Go.Proofs.YtpnnpkmjohkgiaaGreatDoor
