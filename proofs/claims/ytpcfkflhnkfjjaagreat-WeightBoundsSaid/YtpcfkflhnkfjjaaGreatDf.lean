import Derived.Test.YtpcfkflhnkfjjaaGreatDe
set_option linter.all false
set_option maxRecDepth 100000
namespace Go.Proofs.YtpcfkflhnkfjjaaGreat
open Go Go.RowKit
theorem map_take {α β:Type} (g:α->β) {l:List α} {j:Nat} (h:j<l.length):(l.take (j+1)).map g=(l.take j).map g++[g l[j]]:=by rw [qz h,qa5];rfl
theorem koy {α:Type} (q:α->Bool) {l:List α} {j:Nat} (h:j<l.length):(l.take (j+1)).filter q=(l.take j).filter q++(if q l[j]=true then [l[j]] else []):=by
 rw [qz h,List.filter_append];congr 1;split;rename_i a;rw [List.filter_cons_of_pos a];rfl
 ·rename_i a;rw [List.filter_cons_of_neg (by simpa using a)];rfl
section
variable {s:Spa} (hf:kgy s)
include hf
def NumR (s:Spa) (p:Nat->Bool) (i:Nat) (num:List Int):Prop:=num.length=s.f_Nodes.length/\∀ k,k<i->num[k]?=some (cntP p k:Int)
omit hf in
theorem NumR.idx {p:Nat->Bool} {i:Nat} {num:List Int} (h:NumR s p i num) {a:Int} (h0:0<=a) (h1:a<(i:Int)):Go.Proofs.YtpcfkflhnkfjjaaGreat.idx num a=some (numI p a):=by unfold Go.Proofs.YtpcfkflhnkfjjaaGreat.idx;rw [qn h0,h.2 a.toNat (by omega)];rfl
theorem k8v {p:Nat->Bool} {i:Nat} {n:Nod} {o:Opn} (hn:s.f_Nodes[i]?=some n) (ho:o∈n.f_Options) (x:Int×List Int×List Nod) (num:List Int) (d:List.set x.2.1 (Int.toNat x.1) (List.length (x.2.2):Int)=num) (a:NumR s p (i+1) num):
  Ev (kab (kd0 x o) fuel (0,([]:List Int))) fun v=>v=o.f_Args.map (numI p):=by
 have e:=kh6 hf hn ho;refine kb9 (xs:=o.f_Args) (step:=kd0 x o) (fun (j:Nat) (q:List Int)=>((j:Int),q)) (fun j q=>q=(o.f_Args.take j).map (numI p)) (by omega) (by simp) (fun j q b h1=>?_) (fun q h1=>?_);subst h1;have ha:=qb b;have c:=kmw hf hn ho (qq b);simp only [kd0,kav b,qf,kaf,ha,qa,d,a.idx c.1 (by omega),kal b (show o.f_Args.length<=9223372036854775807 by omega)];rw [keh (by simp;omega),qa];exact ⟨_,rfl,_,rfl,(map_take _ b).symm⟩
 ·subst h1;rw [qaw];exact ⟨_,by simp only [kd0,kaq,qc],_,rfl,rfl⟩
theorem k6d {l:List Bool} {p:Nat->Bool} (hl:l.length=s.f_Nodes.length) {i:Nat} {n:Nod} (hn:s.f_Nodes[i]?=some n) (x:Int×List Int×List Nod) (c:x.1=(i:Int)) (num:List Int) (h:List.set x.2.1 (Int.toNat x.1) (List.length (x.2.2):Int)=num) (d:NumR s p (i+1) num):
  Ev (kab (kdz s l x) fuel (0,([]:List Opn))) fun v=>v=(n.f_Options.filter (kcj (fg l))).map (kjq p):=by
 have k:=olen hf hn;have hi:=kc6 hn;refine kb9 (xs:=n.f_Options) (step:=kdz s l x) (fun (j:Nat) (q:List Opn)=>((j:Int),q)) (fun j q=>q=((n.f_Options.take j).filter (kcj (fg l))).map (kjq p)) (by omega) (by simp) (fun j q b h1=>?_) (fun q h1=>?_)
 ·subst h1;have ho:=qb b;have hm:=qq b;have e:kb3 n.f_Options[j] l=some (kcj (fg l) n.f_Options[j]):=kze (fun a ha=>by have:=kmw hf hn hm ha;omega) (by have:=kh6 hf hn hm;omega);simp only [kdz,c,kaf,hn,qa,kav b,qf,ho,e,kal b (show n.f_Options.length<=9223372036854775807 by omega)];cases f:kcj (fg l) n.f_Options[j] with
  | false=>
   simp only [Bool.not_false,qf,qa,qi];refine ⟨_,rfl,_,rfl,?_⟩;rw [koy _ b,qk (by rw [f];simp),qbo]
  | true=>
   simp only [qa6,qc];have g:(((n.f_Options.take j).filter (kcj (fg l))).map (kjq p)).length<=j:=(by rw [qu];refine qaf (List.length_filter_le _ _) ?_;rw [qak];omega);obtain ⟨v,hv,rfl⟩:=k8v hf hn hm x num h d;rw [hv,qa,keh (by rw [qam];omega)];simp only [qa,qg];refine ⟨_,rfl,_,rfl,?_⟩;rw [koy _ b,qn f,qa5];rfl
 ·subst h1;rw [qaw];exact ⟨_,by simp only [kdz,c,kaf,hn,qa,kaq,qc],_,rfl,rfl⟩
def kept (s:Spa) (f p:Nat->Bool) (i:Nat):List Nod:=((List.range i).filter p).map fun i=>kni f p ((s.f_Nodes[i]?).getD nodD)
omit hf in
theorem kud (f p:Nat->Bool) (i:Nat):(kept s f p i).length=cntP p i:=by unfold kept;rw [qu];rfl
omit hf in
theorem kxa {f p:Nat->Bool} {i:Nat} {n:Nod} (hn:s.f_Nodes[i]?=some n):kept s f p (i+1)=kept s f p i++(if p i=true then [kni f p n] else []):=by
 unfold kept;rw [List.range_succ,List.filter_append,qa5];congr 1;split;rename_i h;rw [List.filter_cons_of_pos h,List.filter_nil,qbi,List.map_nil,hn];rfl
 ·rename_i h;rw [List.filter_cons_of_neg (by simpa using h)];rfl
theorem k3t {l q:List Bool} (hl:l.length=s.f_Nodes.length) (g:q.length=s.f_Nodes.length):Ev (kab (kd1 s l q) fuel (0,List.replicate s.f_Nodes.length 0,([]:List Nod))) fun v=>NumR s (fg q) s.f_Nodes.length v.1/\v.2=kept s (fg l) (fg q) s.f_Nodes.length:=by
 have f:=hf.nodes;refine kb9 (xs:=s.f_Nodes) (step:=kd1 s l q) (fun (j:Nat) (v:List Int×List Nod)=>((j:Int),v.1,v.2)) (fun j v=>NumR s (fg q) j v.1/\v.2=kept s (fg l) (fg q) j) (t0:=(List.replicate s.f_Nodes.length 0,[])) (by omega) ⟨⟨qap,fun k h=>by omega⟩,rfl⟩ (fun i v hi ⟨h1,c⟩=>?_) (fun v ⟨h1,c⟩=>?_)
 ·obtain ⟨num,nds⟩:=v;simp only at h1 c;subst c;have hn:=qb hi;have b:i<num.length:=by rw [h1.1];exact hi
  have a:NumR s (fg q) (i+1) (List.set num i (cntP (fg q) i:Int)):=by
   refine ⟨by rw [qbp];exact h1.1,fun k hk=>?_⟩;by_cases d:k=i;subst d;rw [qbk b]
   ·rw [List.getElem?_set_ne (by omega)];exact h1.2 k (by omega)
  have e1:num[i]?=some num[i]:=qb b;simp only [kd1,kav hi,qf,kaf,e1,hn,qa,kyi (show i<q.length by omega),q8,kud,kal hi (show s.f_Nodes.length<=9223372036854775807 by omega)];cases e:fg q i with
  | false=>
   simp only [Bool.not_false,qf,qa,qi];refine ⟨_,rfl,(_,_),rfl,a,?_⟩;rw [kxa hn,qk (by rw [e];simp),qbo];rfl
  | true=>
   simp only [qa6,qc];obtain ⟨v,hv,rfl⟩:=k6d hf hl hn ((i:Int),num,kept s (fg l) (fg q) i) rfl (List.set num i (cntP (fg q) i:Int)) (by simp [kud]) a;have:=k01 (fg q) i;rw [hv,qa,keh (by rw [kud,qam];omega)];simp only [qa,qg];refine ⟨_,rfl,(_,_),rfl,a,?_⟩;rw [kxa hn,qn e];rfl
 ·exact ⟨_,by simp only [kd1,kaq,qc],_,rfl,h1,c⟩
theorem k35 {l:List Bool} {p:Nat->Bool} (hl:l.length=s.f_Nodes.length) (x:List Int×List Nod) (e:NumR s p s.f_Nodes.length x.1):Ev (kab (kdy s l x) fuel (0,([]:List Int))) fun v=>v=(s.f_Roots.filter fun r=>fg l r.toNat).map (numI p):=by
 have f:=kte hf.roots;have g:=hf.nodes;refine kb9 (xs:=s.f_Roots) (step:=kdy s l x) (fun (j:Nat) (q:List Int)=>((j:Int),q)) (fun j q=>q=((s.f_Roots.take j).filter fun r=>fg l r.toNat).map (numI p)) (by omega) (by simp) (fun j q b h1=>?_) (fun q h1=>?_)
 ·subst h1;have hr:=qb b;have a:=hf.roots.1 _ (qq b);simp only [kdy,kav b,qf,kaf,hr,qa,kse (l:=l) a.1 (by omega),e.idx a.1 a.2,kal b (show s.f_Roots.length<=9223372036854775807 by omega)];cases c:fg l s.f_Roots[j].toNat with
  | false=>
   simp only [qc,qa];refine ⟨_,rfl,_,rfl,?_⟩;rw [koy _ b,qk (by rw [c];simp),qbo]
  | true=>
   simp only [qf];have d:(((s.f_Roots.take j).filter fun r=>fg l r.toNat).map (numI p)).length<=j:=(by rw [qu];refine qaf (List.length_filter_le _ _) ?_;rw [qak];omega);rw [keh (by rw [qam];omega)];simp only [qa];refine ⟨_,rfl,_,rfl,?_⟩;rw [koy _ b,qn c,qa5];rfl
 ·subst h1;rw [qaw];exact ⟨_,by simp only [kdy,kaq,qc],_,rfl,rfl⟩
end
theorem kzr {s:Spa} (d:kuv s):Ev (ke6 s) fun r=>(¬ kgy s/\r=(⟨[],[]⟩,4))\/(kgy s/\∃ f p,kqo s f p/\r=(kh1 f p s,0)):=by
 unfold ke6;obtain ⟨b,e,a⟩:=k6b d;rw [e,qa];cases b with
 | false=>exact ⟨_,rfl, .inl ⟨fun h=>absurd (a.2 h) qa3,rfl⟩⟩
 | true=>
  have hf:=a.1 rfl;have g:=hf.nodes;simp only [qa6,qc];obtain ⟨l,hl,l1,l2⟩:=k7a hf;rw [hl,qa,kmp 1 false s.f_Nodes.length (by omega),qa];obtain ⟨p,hp,p1,p2⟩:=k1w hf l1;rw [hp,qa];obtain ⟨q,j,q1,q2,q3⟩:=k69 hf l1 p1;rw [j,qa,kmp 8 0 s.f_Nodes.length (by omega),qa];obtain ⟨v,hv,v1,v2⟩:=k3t hf l1 q1;rw [hv,qa];obtain ⟨u,k,rfl⟩:=k35 hf l1 v v1;rw [k,qa];refine ⟨_,rfl, .inr ⟨hf,fg l,fg q,⟨fun i t h=>k85 l2 t i h,fun r hr c=>q2 _ (by rw [p2 r hr];exact c),fun i n o h1 m w x=>q3 i n m h1 o w x⟩,?_⟩⟩;rw [v2];rfl
theorem k25 {s:Spa} (hf:kgy s):kuv s:=by
 have a:=hf.nodes;have b:=kte hf.roots;refine ⟨by omega,by omega,fun n hn=>?_,fun n hn o ho=>?_⟩;obtain ⟨i,hi⟩:=qan.1 hn;have:=olen hf hi;omega
 ·obtain ⟨i,hi⟩:=qan.1 hn;have:=kh6 hf hi ho;omega
end Go.Proofs.YtpcfkflhnkfjjaaGreat
