import Derived.Test.YtpnnpkmjohkgiaaGreatDoorDe
set_option linter.all false
set_option maxRecDepth 100000
namespace Go.Proofs.YtpnnpkmjohkgiaaGreatDoor
open Go Go.RowKit
theorem kpw {α β:Type} (g:α->β) {l:List α} {j:Nat} (h:j<l.length):(l.take (j+1)).map g=(l.take j).map g++[g l[j]]:=by rw [qab h,qa0];rfl
theorem kei {α:Type} (q:α->Bool) {l:List α} {j:Nat} (h:j<l.length):(l.take (j+1)).filter q=(l.take j).filter q++(if q l[j]=true then [l[j]] else []):=by
 rw [qab h,List.filter_append];congr 1;split;rename_i a;rw [List.filter_cons_of_pos a];rfl
 ·rename_i a;rw [List.filter_cons_of_neg (by simpa using a)];rfl
section
variable {s:Spa} (hf:kcg s)
include hf
def NumR (s:Spa) (p:Nat->Bool) (i:Nat) (num:List Int):Prop:=num.length=s.f_Nodes.length/\∀ k,k<i->num[k]?=some (cntP p k:Int)
omit hf in
theorem NumR.idx {p:Nat->Bool} {i:Nat} {num:List Int} (h:NumR s p i num) {a:Int} (h0:0<=a) (h1:a<(i:Int)):Go.Proofs.YtpnnpkmjohkgiaaGreatDoor.idx num a=some (numI p a):=by unfold Go.Proofs.YtpnnpkmjohkgiaaGreatDoor.idx;rw [qq h0,h.2 a.toNat (by omega)];rfl
theorem kyk {p:Nat->Bool} {i:Nat} {n:Nod} {o:Opn} (hn:s.f_Nodes[i]?=some n) (ho:o∈n.f_Options) (x:Int×List Int×List Nod) (num:List Int) (d:List.set x.2.1 (Int.toNat x.1) (List.length (x.2.2):Int)=num) (a:NumR s p (i+1) num):
  Ev (kah (kb3 x o) fuel (0,([]:List Int))) fun v=>v=o.f_Args.map (numI p):=by
 have e:=kc7 hf hn ho;refine ka3 (xs:=o.f_Args) (step:=kb3 x o) (fun (j:Nat) (q:List Int)=>((j:Int),q)) (fun j q=>q=(o.f_Args.take j).map (numI p)) (by omega) (by simp) (fun j q b h1=>?_) (fun q h1=>?_);subst h1;have ha:=qa b;have c:=keh hf hn ho (qo b);simp only [kb3,ka0 b,qe,kaj,ha,qc,d,a.idx c.1 (by omega),kal b (show o.f_Args.length<=9223372036854775807 by omega)];rw [keu (by simp;omega),qc];exact ⟨_,rfl,_,rfl,(kpw _ b).symm⟩
 ·subst h1;rw [qal];exact ⟨_,by simp only [kb3,kap,qg],_,rfl,rfl⟩
theorem kv4 {l:List Bool} {p:Nat->Bool} (hl:l.length=s.f_Nodes.length) {i:Nat} {n:Nod} (hn:s.f_Nodes[i]?=some n) (x:Int×List Int×List Nod) (c:x.1=(i:Int)) (num:List Int) (h:List.set x.2.1 (Int.toNat x.1) (List.length (x.2.2):Int)=num) (d:NumR s p (i+1) num):
  Ev (kah (kb1 s l x) fuel (0,([]:List Opn))) fun v=>v=(n.f_Options.filter (kak (fg l))).map (kdm p):=by
 have k:=olen hf hn;have hi:=kbe hn;refine ka3 (xs:=n.f_Options) (step:=kb1 s l x) (fun (j:Nat) (q:List Opn)=>((j:Int),q)) (fun j q=>q=((n.f_Options.take j).filter (kak (fg l))).map (kdm p)) (by omega) (by simp) (fun j q b h1=>?_) (fun q h1=>?_)
 ·subst h1;have ho:=qa b;have hm:=qo b;have e:ka6 n.f_Options[j] l=some (kak (fg l) n.f_Options[j]):=kjr (fun a ha=>by have:=keh hf hn hm ha;omega) (by have:=kc7 hf hn hm;omega);simp only [kb1,c,kaj,hn,qc,ka0 b,qe,ho,e,kal b (show n.f_Options.length<=9223372036854775807 by omega)];cases f:kak (fg l) n.f_Options[j] with
  | false=>
   simp only [Bool.not_false,qe,qc,qx];refine ⟨_,rfl,_,rfl,?_⟩;rw [kei _ b,qh (by rw [f];simp),List.append_nil]
  | true=>
   simp only [qbe,qg];have g:(((n.f_Options.take j).filter (kak (fg l))).map (kdm p)).length<=j:=(by rw [qaj];refine qat (List.length_filter_le _ _) ?_;rw [qam];omega);obtain ⟨v,hv,rfl⟩:=kyk hf hn hm x num h d;rw [hv,qc,keu (by rw [List.length_singleton];omega)];simp only [qc,qu];refine ⟨_,rfl,_,rfl,?_⟩;rw [kei _ b,qq f,qa0];rfl
 ·subst h1;rw [qal];exact ⟨_,by simp only [kb1,c,kaj,hn,qc,kap,qg],_,rfl,rfl⟩
def kept (s:Spa) (f p:Nat->Bool) (i:Nat):List Nod:=((List.range i).filter p).map fun i=>kf5 f p ((s.f_Nodes[i]?).getD nodD)
omit hf in
theorem kf8 (f p:Nat->Bool) (i:Nat):(kept s f p i).length=cntP p i:=by unfold kept;rw [qaj];rfl
omit hf in
theorem khv {f p:Nat->Bool} {i:Nat} {n:Nod} (hn:s.f_Nodes[i]?=some n):kept s f p (i+1)=kept s f p i++(if p i=true then [kf5 f p n] else []):=by
 unfold kept;rw [List.range_succ,List.filter_append,qa0];congr 1;split;rename_i h;rw [List.filter_cons_of_pos h,List.filter_nil,qa3,List.map_nil,hn];rfl
 ·rename_i h;rw [List.filter_cons_of_neg (by simpa using h)];rfl
theorem ktp {l q:List Bool} (hl:l.length=s.f_Nodes.length) (g:q.length=s.f_Nodes.length):Ev (kah (kb4 s l q) fuel (0,List.replicate s.f_Nodes.length 0,([]:List Nod))) fun v=>NumR s (fg q) s.f_Nodes.length v.1/\v.2=kept s (fg l) (fg q) s.f_Nodes.length:=by
 have f:=hf.nodes;refine ka3 (xs:=s.f_Nodes) (step:=kb4 s l q) (fun (j:Nat) (v:List Int×List Nod)=>((j:Int),v.1,v.2)) (fun j v=>NumR s (fg q) j v.1/\v.2=kept s (fg l) (fg q) j) (t0:=(List.replicate s.f_Nodes.length 0,[])) (by omega) ⟨⟨List.length_replicate,fun k h=>by omega⟩,rfl⟩ (fun i v hi ⟨h1,c⟩=>?_) (fun v ⟨h1,c⟩=>?_)
 ·obtain ⟨num,nds⟩:=v;simp only at h1 c;subst c;have hn:=qa hi;have b:i<num.length:=by rw [h1.1];exact hi
  have a:NumR s (fg q) (i+1) (List.set num i (cntP (fg q) i:Int)):=by
   refine ⟨by rw [qbc];exact h1.1,fun k hk=>?_⟩;by_cases d:k=i;subst d;rw [List.getElem?_set_self b]
   ·rw [List.getElem?_set_ne (by omega)];exact h1.2 k (by omega)
  have e1:num[i]?=some num[i]:=qa b;simp only [kb4,ka0 hi,qe,kaj,e1,hn,qc,ket (show i<q.length by omega),Int.toNat_natCast,kf8,kal hi (show s.f_Nodes.length<=9223372036854775807 by omega)];cases e:fg q i with
  | false=>
   simp only [Bool.not_false,qe,qc,qx];refine ⟨_,rfl,(_,_),rfl,a,?_⟩;rw [khv hn,qh (by rw [e];simp),List.append_nil];rfl
  | true=>
   simp only [qbe,qg];obtain ⟨v,hv,rfl⟩:=kv4 hf hl hn ((i:Int),num,kept s (fg l) (fg q) i) rfl (List.set num i (cntP (fg q) i:Int)) (by simp [kf8]) a;have:=km2 (fg q) i;rw [hv,qc,keu (by rw [kf8,List.length_singleton];omega)];simp only [qc,qu];refine ⟨_,rfl,(_,_),rfl,a,?_⟩;rw [khv hn,qq e];rfl
 ·exact ⟨_,by simp only [kb4,kap,qg],_,rfl,h1,c⟩
theorem kt2 {l:List Bool} {p:Nat->Bool} (hl:l.length=s.f_Nodes.length) (x:List Int×List Nod) (e:NumR s p s.f_Nodes.length x.1):Ev (kah (kb0 s l x) fuel (0,([]:List Int))) fun v=>v=(s.f_Roots.filter fun r=>fg l r.toNat).map (numI p):=by
 have f:=kg6 hf.roots;have g:=hf.nodes;refine ka3 (xs:=s.f_Roots) (step:=kb0 s l x) (fun (j:Nat) (q:List Int)=>((j:Int),q)) (fun j q=>q=((s.f_Roots.take j).filter fun r=>fg l r.toNat).map (numI p)) (by omega) (by simp) (fun j q b h1=>?_) (fun q h1=>?_)
 ·subst h1;have hr:=qa b;have a:=hf.roots.1 _ (qo b);simp only [kb0,ka0 b,qe,kaj,hr,qc,keo (l:=l) a.1 (by omega),e.idx a.1 a.2,kal b (show s.f_Roots.length<=9223372036854775807 by omega)];cases c:fg l s.f_Roots[j].toNat with
  | false=>
   simp only [qg,qc];refine ⟨_,rfl,_,rfl,?_⟩;rw [kei _ b,qh (by rw [c];simp),List.append_nil]
  | true=>
   simp only [qe];have d:(((s.f_Roots.take j).filter fun r=>fg l r.toNat).map (numI p)).length<=j:=(by rw [qaj];refine qat (List.length_filter_le _ _) ?_;rw [qam];omega);rw [keu (by rw [List.length_singleton];omega)];simp only [qc];refine ⟨_,rfl,_,rfl,?_⟩;rw [kei _ b,qq c,qa0];rfl
 ·subst h1;rw [qal];exact ⟨_,by simp only [kb0,kap,qg],_,rfl,rfl⟩
end
theorem kte {s:Spa} (hf:kcg s):kgu s:=by
 have a:=hf.nodes;have b:=kg6 hf.roots;refine ⟨by omega,by omega,fun n hn=>?_,fun n hn o ho=>?_⟩;obtain ⟨i,hi⟩:=qaq.1 hn;have:=olen hf hi;omega
 ·obtain ⟨i,hi⟩:=qaq.1 hn;have:=kc7 hf hi ho;omega
end Go.Proofs.YtpnnpkmjohkgiaaGreatDoor
