import Derived.Test.YtpnnpkmjohkgiaaGreatDoorGv
import Derived.Test.YtpnnpkmjohkgiaaGreatDoorZE
import Derived.Test.YtpnnpkmjohkgiaaGreatDoorSa
import Derived.Test.YtpnnpkmjohkgiaaGreatDoorDe
set_option linter.all false
set_option maxRecDepth 100000
namespace Go.Proofs.YtpnnpkmjohkgiaaGreatDoor
open Go Go.RowKit Go.ChangeShapes Go.WideShapes Go.ChangeAt Go.Proofs.Tryz
section
variable {H:Type} {enc:TypeId×Value->H} {P:Program} {w:World} {base:Nat} {spare:Nat->Bool} {held:Bool}
def Wt (P:Program) (t:TypeId) (d:DataW H):Prop:=∀ k∈DataW.weights P t d,k<=140737488351232
theorem ktm {e:TypeId}:∀ {ds:List (DataW H)},(∀ k∈DataW.weightsAll P e ds,k<=140737488351232)->∀ d∈ds,Wt P e d
 | [],_,d,a=>by cases a
 | x::ds,h,d,a=>by
  simp only [DataW.weightsAll,qad] at h;rcases qaw.1 a with rfl | a;exact fun k hk=>h k (.inl hk)
  ·exact ktm (fun k hk=>h k (.inr hk)) d a
theorem kmy:∀ {ts:List TypeId} {ds:List (DataW H)},(∀ k∈DataW.weightsEach P ts ds,k<=140737488351232)->∀ (i:Nat) (t:TypeId) (d:DataW H),ts[i]?=some t->ds[i]?=some d->Wt P t d
 | [],_,_,i,t,d,ht,_=>by cases ht
 | _::_,[],_,i,t,d,_,a=>by cases a
 | t::ts,x::ds,h,i,t',d,ht,a=>by
  simp only [DataW.weightsEach,qad] at h;cases i with
  | zero=>simp at ht a;subst ht a;exact fun k hk=>h k (.inl hk)
  | succ i=>exact kmy (fun k hk=>h k (.inr hk)) i t' d (by simpa using ht) (by simpa using a)
theorem kll {T:Type} {R:List Value->T->Prop} {t e:TypeId} {size fuel:Nat} {cs:List Value} {x:DataW H×List MemPlace} (ht:P.underlying t=some (.slice e)) (G:P.cellsOf e=size) (d:0<size)
  (h:DataW.trod enc P w base spare held fuel t cs=some x) (q:Wt P t x.1) (s:∀ n cs' y,n<fuel->DataW.trod enc P w base spare held n e cs'=some y->Wt P e y.1->∃ z,R cs' z):
  ∃ v xs,cs=[v]/\RepSl Any w size R v xs/\xs.length*P.bytesOf e<=140737488351232:=by
 rcases DataW.trod_slice ht h with ⟨rfl,_⟩ | ⟨a,len,cap,elems,rest,n,I,rfl,rfl,_,J,f,D,g,_⟩;exact ⟨_,[],rfl,RepSl.nil (by omega),by simp⟩
 ·have l:(elems.length+rest.length)*P.bytesOf e<=140737488351232/\∀ k∈DataW.weightsAll P e (elems.map (·.1)),k<=140737488351232:=by unfold Wt at q;simp only [DataW.weights,ht,qaw,qad,qaj] at q;exact ⟨q _ (.inl rfl),fun k hk=>q k (.inr (.inl hk))⟩
  have each:∀ i,i<len->∃ cs' z,R cs' z/\cs'.length=size/\∀ j,j<size->w.cell? ((a.add (i*size)).add j)=cs'[j]?:=fun i hi=>by have h1:=g i hi;have A:elems[i]?=some elems[i]:=qa (by omega);rw [A,G] at h1;obtain ⟨cs',hc,B⟩:=qi.1 h1;obtain ⟨_,hl,c⟩:=World.cells?_some hc;obtain ⟨z,r⟩:=s n cs' _ (by omega) B (ktm l.2 _ (qaf.2 ⟨_,qo (by omega),rfl⟩));exact ⟨cs',z,r,hl,c⟩
  obtain ⟨xs,C,E⟩:=kq1 (Q:=fun i z=>∃ cs',R cs' z/\cs'.length=size/\∀ j,j<size->w.cell? ((a.add (i*size)).add j)=cs'[j]?) len (fun i hi=>by obtain ⟨cs',z,h⟩:=each i hi;exact ⟨z,cs',h⟩);refine ⟨_,xs,rfl,⟨some a,cap,by rw [C],by omega,by unfold maxLen at f;exact f,fun i z r=>?_⟩,qat (qay _ (by omega)) l.1⟩;obtain ⟨cs',hr,hl,c⟩:=E i z r;have m:a.spot=none:=by
   have h0:0<xs.length:=(by have:=(qd.1 r).1;omega);obtain ⟨cs0,_,K,p⟩:=E 0 _ (qa h0);have h1:=p 0 d;simp only [Nat.zero_mul,Addr.add,if_true] at h1;rw [qa (by omega)] at h1;unfold World.cell? at h1;split at h1
   ·split at h1;cases h1
    ·rename_i hs;simpa using hs
   ·cases h1
  obtain ⟨b,o,sp⟩:=a;simp only at m;subst m;refine ⟨b,o,cs',rfl,trivial,fun j u F=>?_,hl,hr⟩;have L:j<size:=by have:=(qd.1 F).1;omega
  rw [<- F,<- c j L];congr 1;unfold Addr.add;by_cases h1:i*size=0 <;> by_cases A:j=0 <;> simp [h1,A,Nat.add_assoc]
theorem kjx {t:TypeId} {fs:Array Field} {ds:List (DataW H)} (ht:P.underlying t=some (.struct fs)) (a:Wt P t (.agg ds)):∀ (i:Nat) (f:Field) (d:DataW H),fs[i]?=some f->ds[i]?=some d->Wt P f.type d:=fun i f d hf b=>by unfold Wt at a;simp only [DataW.weights,ht] at a;exact kmy a i _ d (by simp [hf]) b
end
section
variable {w:World}
def koh (w:World) (cs:List Value) (o:Sab):Prop:=∃ v,cs=[.int .i64 o.f_Rule,v]/\Ints Any w v o.f_Args/\o.f_Args.length*8<=140737488351232
def kl3 (w:World) (cs:List Value) (n:Saa):Prop:=∃ v,cs=[.int .i64 n.f_Symbol, .int .i64 n.f_Size,v]/\RepSl Any w 2 (koh w) v n.f_Options/\n.f_Options.length*32<=140737488351232
def kxa (w:World) (cs:List Value) (s:Sac):Prop:=∃ v u,cs=[v,u]/\RepSl Any w 3 (kl3 w) v s.f_Nodes/\s.f_Nodes.length*40<=140737488351232/\Ints Any w u s.f_Roots/\s.f_Roots.length*8<=140737488351232
theorem op_cr {cs:List Value} {x:Sab} (h:koh w cs x):CRw w cs (kac x) 2:=by
 obtain ⟨v,rfl,h1,_⟩:=h;refine km6 (xs:=[eI x.f_Rule,eL 1 eI x.f_Args]) rfl fun j y hy=>?_
 match j with
 | 0=>simp at hy;subst hy;exact ⟨rfl,fun u a=>by simp at a;subst a;exact .atom rfl⟩
 | 1=>simp at hy;subst hy;exact ⟨rfl,fun u a=>by simp at a;subst a;exact kqh h1⟩
 | j+2=>simp at hy
theorem no_cr {cs:List Value} {x:Saa} (h:kl3 w cs x):CRw w cs (kaa x) 3:=by
 obtain ⟨v,rfl,h1,_⟩:=h;have r1:RF Any w v (eL 2 kac x.f_Options):=ksq (ec:=kac) (size:=2) (by omega) h1 fun cs x _ hr=>op_cr hr;refine km6 (xs:=[eI x.f_Symbol,eI x.f_Size,eL 2 kac x.f_Options]) rfl fun j y hy=>?_
 match j with
 | 0=>simp at hy;subst hy;exact ⟨rfl,fun u a=>by simp at a;subst a;exact .atom rfl⟩
 | 1=>simp at hy;subst hy;exact ⟨rfl,fun u a=>by simp at a;subst a;exact .atom rfl⟩
 | 2=>simp at hy;subst hy;exact ⟨rfl,fun u a=>by simp at a;subst a;exact r1⟩
 | j+3=>simp at hy
structure SpW (s:Sac):Prop where
 nodes:s.f_Nodes.length<=3518437208780
 roots:s.f_Roots.length<=17592186043904
 opts:∀ n∈s.f_Nodes,n.f_Options.length<=4398046510976
 args:∀ n∈s.f_Nodes,∀ o∈n.f_Options,o.f_Args.length<=17592186043904
theorem sp_rf {v:Value} {x:Sac} {cs:Array Value} (hv:v = .agg cs) (h:kxa w cs.toList x):RF Any w v (kbc x)/\SpW x:=by
 subst hv;obtain ⟨v1,v2,h0,h1,q1,d,q2⟩:=h;have r1:RF Any w v1 (eL 3 kaa x.f_Nodes):=ksq (ec:=kaa) (size:=3) (by omega) h1 fun cs x _ hr=>no_cr hr;have r2:=kqh d;have hc:cs=#[v1,v2]:=by cases cs;simp_all
 subst hc;have each:∀ n∈x.f_Nodes,∃ cs,kl3 w cs n:=fun n hn=>by obtain ⟨A,cap,_,_,_,c⟩:=h1;obtain ⟨i,hi⟩:=qaq.1 hn;obtain ⟨b,o,cs,_,_,_,_,hr⟩:=c i n hi;exact ⟨cs,hr⟩
 refine ⟨k2f (cs:=[v1,v2]) (xs:=[eL 3 kaa x.f_Nodes,eL 1 eI x.f_Roots]) rfl (km6 rfl fun j y hy=>?_),⟨by omega,by omega,fun n hn=>?_,fun n hn o ho=>?_⟩⟩
 ·match j with
  | 0=>simp at hy;subst hy;exact ⟨rfl,fun u a=>by simp at a;subst a;exact r1⟩
  | 1=>simp at hy;subst hy;exact ⟨rfl,fun u a=>by simp at a;subst a;exact r2⟩
  | j+2=>simp at hy
 obtain ⟨cs,v,_,_,e⟩:=each n hn;omega
 ·obtain ⟨cs,v,_,⟨A,cap,_,_,_,c⟩,_⟩:=each n hn;obtain ⟨i,hi⟩:=qaq.1 ho;obtain ⟨b,o',cs',_,_,_,_,⟨v',_,_,e⟩⟩:=c i o hi;omega
end
section
variable {H:Type} {enc:TypeId×Value->H} {w:World} {base:Nat} {spare:Nat->Bool} {held:Bool}
theorem sp_ty:prog.cellsOf 3=1/\prog.cellsOf 22=1/\prog.cellsOf 65=1/\prog.cellsOf 27=1/\prog.cellsOf 69=2/\prog.cellsOf 67=3/\prog.cellsOf 29=2 /\
  prog.bytesOf 3=8/\prog.bytesOf 69=32/\prog.bytesOf 67=40:=⟨by kernel_rfl,by kernel_rfl,by kernel_rfl,by kernel_rfl,by kernel_rfl,by kernel_rfl,by kernel_rfl,by kernel_rfl,by kernel_rfl,by kernel_rfl⟩
theorem kmm {fuel:Nat} {cs:List Value} {x:DataW H×List MemPlace} (h:DataW.trod enc prog w base spare held fuel 22 cs=some x) (c:Wt prog 22 x.1):∃ v ns,cs=[v]/\Ints Any w v ns/\ns.length*8<=140737488351232:=by
 obtain ⟨v,xs,h1,a,b⟩:=kll (R:=IntR) (size:=1) underlying22 cells_ty.1 (by omega) h c fun n cs' y _ hy _=>by obtain ⟨k,h1,a⟩:=kip hy;exact ⟨k,h1,a⟩
 rw [sp_ty.2.2.2.2.2.2.2.1] at b;exact ⟨v,xs,h1,a,b⟩
theorem kyn {fuel:Nat} {cs:List Value} {x:DataW H×List MemPlace} (h:DataW.trod enc prog w base spare held fuel 69 cs=some x) (e:Wt prog 69 x.1):∃ t,koh w cs t:=by
 obtain ⟨z1,z2,z3,z4,z5,z6,z7,z8,z9,z10⟩:=sp_ty;obtain ⟨xs,n,f,rfl,a,b,hf⟩:=DataW.trod_struct underlying69 h;have c:=kjx underlying69 e;rw [z5] at a
 match cs,a with
 | [c0,c1],_=>
  have h0:=hf 0 _ rfl;have h1:=hf 1 _ rfl;rw [qa (by rw [b];decide)] at h0 h1;obtain ⟨t,e0,ht⟩:=kip h0;obtain ⟨u,ns,e1,d,g⟩:=kmm h1 (c 1 _ _ rfl (by rw [qr,qa (by rw [b];decide)];rfl));simp [z1,z2] at e0 e1;subst e0 e1;exact ⟨⟨t,ns⟩,_,rfl,d,g⟩
theorem kzg {fuel:Nat} {cs:List Value} {x:DataW H×List MemPlace} (h:DataW.trod enc prog w base spare held fuel 67 cs=some x) (e:Wt prog 67 x.1):∃ t,kl3 w cs t:=by
 obtain ⟨z1,z2,z3,z4,z5,z6,z7,z8,z9,z10⟩:=sp_ty;obtain ⟨xs,n,l,rfl,c,d,hf⟩:=DataW.trod_struct underlying67 h;have f:=kjx underlying67 e;rw [z6] at c
 match cs,c with
 | [c0,c1,c2],_=>
  have h0:=hf 0 _ rfl;have h1:=hf 1 _ rfl;have i:=hf 2 _ rfl;rw [qa (by rw [d];decide)] at h0 h1 i;obtain ⟨a,e0,_⟩:=kip h0;obtain ⟨b,e1,_⟩:=kip h1;obtain ⟨v,os,e2,g,j⟩:=kll (R:=koh w) (size:=2) underlying65 z5 (by omega) i (f 2 _ _ rfl (by rw [qr,qa (by rw [d];decide)];rfl)) fun k cs' y hk hy e=>kyn hy e;rw [z9] at j;simp [z1,z3] at e0 e1 e2;subst e0 e1 e2;exact ⟨⟨a,b,os⟩,_,rfl,g,j⟩
theorem kyw {fuel:Nat} {cs:List Value} {x:DataW H×List MemPlace} (h:DataW.trod enc prog w base spare held fuel 29 cs=some x) (d:Wt prog 29 x.1):∃ t,kxa w cs t:=by
 obtain ⟨z1,z2,z3,z4,z5,z6,z7,z8,z9,z10⟩:=sp_ty;obtain ⟨xs,n,j,rfl,a,b,hf⟩:=DataW.trod_struct underlying29 h;have c:=kjx underlying29 d;rw [z7] at a
 match cs,a with
 | [c0,c1],_=>
  have h0:=hf 0 _ rfl;have h1:=hf 1 _ rfl;rw [qa (by rw [b];decide)] at h0 h1;obtain ⟨v,ns,e0,e,i⟩:=kll (R:=kl3 w) (size:=3) underlying27 z6 (by omega) h0 (c 0 _ _ rfl (by rw [qr,qa (by rw [b];decide)];rfl)) fun k cs' y hk hy d=>kzg hy d;obtain ⟨u,is,e1,f,g⟩:=kmm h1 (c 1 _ _ rfl (by rw [qr,qa (by rw [b];decide)];rfl));rw [z10] at i;simp [z2,z4] at e0 e1;subst e0 e1;exact ⟨⟨ns,is⟩,_,_,rfl,e,i,f,g⟩
theorem k1f {r:Reach} {b0:Nat} {v:Value} {d:DataW H} {p:List MemPlace} (hv:Value.okWide prog w r b0 29 v) (h:DataW.Trod enc prog w base spare held 29 v d p) (a:Wt prog 29 d):∃ x,RF Any w v (kbc x)/\SpW x:=by obtain ⟨cs,rfl,b⟩:=okWide_struct underlying29 hv;obtain ⟨fuel,hf⟩:=h;obtain ⟨t,ht⟩:=kyw hf a;exact ⟨t,sp_rf rfl (by simpa [Value.cells] using ht)⟩
end
open Go Go.RowKit Go.Proofs.Tryz
theorem SpW.wide {s:Spa} (h:SpW s):kgu s:=⟨by have:=h.nodes;omega,by have:=h.roots;omega,fun n hn=>by have:=h.opts n hn;omega,fun n hn o ho=>by have:=h.args n hn o ho;omega⟩
section
variable {l:La} {s:Spa} {i:Nat} {n:Nod} {o:Opn}
theorem kyf (hf:kcg s) (hn:s.f_Nodes[i]?=some n) (ho:o∈n.f_Options):o.f_Args.length<=24:=by
 have h1:=(hf.node i n hn).opt o ho;have b:=(hf.node i n hn).size;have key:∀ l:List Int,(∀ a∈l,1<=szAt s.f_Nodes a)->(l.length:Int)<=(l.map (szAt s.f_Nodes)).sum:=fun l=>by
  induction l with
  | nil=>intro _;simp
  | cons x l ih=>
   intro h;have h1:=h x (qv ..);have b:=ih fun y hy=>h y (qs _ hy);simp only [qa3,List.sum_cons,List.length_cons];omega
 have c:=key o.f_Args fun a ha=>by obtain ⟨a0,a1⟩:=h1.args a ha;have hi:=kbe hn;obtain ⟨m,_,e2,e3,_⟩:=kfl (ns:=s.f_Nodes) a0 (by omega);have:=(hf.node _ m e2).size;omega
 have:=h1.size;omega
theorem kl1 (hf:kcg s) (hn:s.f_Nodes[i]?=some n) (ho:o∈n.f_Options):∀ a∈o.f_Args,0<=a/\a<(s.f_Nodes.length:Int):=fun a ha=>by have h1:=((hf.node i n hn).opt o ho).args a ha;have:=kbe hn;omega
theorem kum (a:SpW s):∃ b,kc2 s=some b:=by
 unfold kc2;have key:∃ r,kah (kbk s) fuel (0,0,0)=some r:=by
  have:Ev (kah (kbk s) fuel (0,0,0)) fun _=>True:=by
   refine ka3 (xs:=s.f_Nodes) (step:=kbk s) (Q:=fun _=>True) (fun (i:Nat) (t:Int×Int)=>(t.1,t.2,(i:Int))) (fun _ _=>True) (t0:=(0,0)) (by have:=a.nodes;omega) trivial (fun i t hi _=>?_) (fun t _=>?_)
   ·have hn:=qa hi;have c:=a.opts _ (qo hi);have d:=a.nodes;simp only [kbk,ka0 hi,qe,kaj,hn,qc,kal hi (show s.f_Nodes.length<=9223372036854775807 by omega)];refine kcd (Ev.mono (ka3 (xs:=s.f_Nodes[i].f_Options) (Q:=fun _=>True) (fun (k:Nat) (m:Int)=>(m,(k:Int))) (fun _ _=>True) (t0:=t.2) (by omega) trivial (fun k m hk _=>?_) (fun m _=>?_)) fun r _=>⟨_,rfl,(_,_),rfl,trivial⟩)
    ·simp only [kc8,ka0 hk,qe,kaj,hn,qa hk,qc,kal hk (show s.f_Nodes[i].f_Options.length<=9223372036854775807 by omega)];cases decide (w64 (t.1+(s.f_Nodes[i].f_Options.length:Int))<=120) with
     | false=>exact ⟨_,rfl,trivial⟩
     | true=>
      simp only [qe,qc];cases decide (m<=500) with
      | false=>exact ⟨_,rfl,trivial⟩
      | true=>exact ⟨_,rfl,_,rfl,trivial⟩
    ·exact ⟨.inr m,by simp only [kc8,kaj,hn,qc,kap,qg],m,rfl,trivial⟩
   ·exact ⟨.inr (t.1,t.2),by simp only [kbk,kap,qg],_,rfl,trivial⟩
  obtain ⟨r,hr,_⟩:=this;exact ⟨r,hr⟩
 obtain ⟨r,hr⟩:=key;cases decide ((40:Int)<(s.f_Nodes.length:Int)) with
 | true=>exact ⟨_,rfl⟩
 | false=>
  simp only [qg,qc];cases decide ((60:Int)<(s.f_Roots.length:Int)) with
  | true=>exact ⟨_,rfl⟩
  | false=>
   simp only [qg,hr,qc];cases decide (r.1<=120) <;> exact ⟨_,rfl⟩
end
section
variable {s:Spa}
theorem kmw {o:Opn} {l:List Bool} (h:∀ a∈o.f_Args,0<=a/\a<(l.length:Int)) (b:o.f_Args.length<=9223372036854775807):kdn l o=some (kak (fg l) o):=kjr h b
theorem k1z {os:List Opn} {l:List Bool} (h:∀ o∈os,(∀ a∈o.f_Args,0<=a/\a<(l.length:Int))/\o.f_Args.length<=9223372036854775807) (c:os.length<=9223372036854775807):kay os l=some (os.any (kak (fg l))):=by
 unfold kay kba;rcases kfu (step:=kax os l) os.length (by omega) (fun k=>(os[k]?).any (kak (fg l))) (fun k => .inr (k:Int)) (.inl ()) (fun k hk=>by obtain ⟨h1,d⟩:=h _ (qo hk);simp only [kax,kek,ka0 hk,qe,kaj,qa hk,qc,kal hk c,kmw h1 d,Option.any_some];cases kak (fg l) os[k] <;> rfl) (by simp only [kax,kap,qg]) with ⟨k,hk,b,_,hr⟩ | ⟨b,hr⟩;rw [hr];rw [qa hk,Option.any_some] at b;rw [show os.any (kak (fg l))=true from List.any_eq_true.2 ⟨_,qo hk,b⟩];simp only [qc,qx];rw [qaa (by omega)]
 ·rw [hr];have:os.any (kak (fg l))=false:=by rw [List.any_eq_false];intro o ho;obtain ⟨k,hk⟩:=qaq.1 ho;have:=b k (kbe hk);rw [hk,Option.any_some] at this;simp [this]
  rw [this];rfl
theorem kwr (hf:kcg s):Ev (kew s) fun l=>l.length=s.f_Nodes.length/\∀ i,i<s.f_Nodes.length->kfb s l i:=by
 have p:=hf.nodes;unfold kew;rw [kig _ _ _ (by omega),qc];refine kcd (Ev.mono (ka3 (xs:=s.f_Nodes) (step:=kd7 s) (Q:=fun l=>l.length=s.f_Nodes.length/\∀ i,i<s.f_Nodes.length->kfb s l i)
  (fun (i:Nat) (l:List Bool)=>((i:Int),l)) (fun i l=>l.length=s.f_Nodes.length/\∀ k,k<i->kfb s l k) (t0:=List.replicate s.f_Nodes.length false) (by omega) ⟨by simp,fun k h=>by omega⟩ (fun i l hi ⟨h1,j⟩=>?_) (fun l ⟨h1,j⟩=>?_)) fun l hl=>⟨l,rfl,hl⟩)
 ·have hn:=qa hi;have f:i<l.length:=by omega
  have q:s.f_Nodes[i].f_Options.length<=32768:=qat (kmz hn) hf.opts;have e:∀ o∈s.f_Nodes[i].f_Options,(∀ a∈o.f_Args,0<=a/\a<(l.length:Int))/\o.f_Args.length<=9223372036854775807:=fun o ho=>by have r:=kl1 hf hn ho;have t:=kyf hf hn ho;exact ⟨fun a ha=>by have:=r a ha;omega,by omega⟩
  simp only [kd7,ka0 hi,qe,kaj,hn,qc,k1z e (by omega),qa f,kal hi (show s.f_Nodes.length<=9223372036854775807 by omega),Int.toNat_natCast];refine ⟨_,rfl,_,rfl,by simp [h1],fun k hk n c=>?_⟩;have d:=kdo f (s.f_Nodes[i].f_Options.any (kak (fg l)));have b:∀ o∈n.f_Options,kak (fg (l.set i (s.f_Nodes[i].f_Options.any (kak (fg l))))) o=kak (fg l) o:=fun o ho=>kgh fun a ha=>by have:=((hf.node k n c).opt o ho).args a ha;rw [d,qh (by omega)]
  have m:(∃ o∈n.f_Options,kak (fg (l.set i (s.f_Nodes[i].f_Options.any (kak (fg l))))) o=true)↔∃ o∈n.f_Options,kak (fg l) o=true:=
   ⟨fun ⟨o,ho,h⟩=>⟨o,ho,by rw [<- b o ho];exact h⟩,fun ⟨o,ho,h⟩=>⟨o,ho,by rw [b o ho];exact h⟩⟩
  rw [d,m];by_cases g:k=i;subst g;rw [hn] at c;cases c;rw [qq rfl,List.any_eq_true]
  ·rw [qh g];exact j k (by omega) n c
 ·exact ⟨_,by simp only [kd7,kap,qg],_,rfl,h1,j⟩
theorem ktq (hf:kcg s) {l l':List Bool} (h1:l.length=s.f_Nodes.length) (c:∀ i,i<s.f_Nodes.length->kfb s l i) (d:l'.length=s.f_Nodes.length) (b:∀ i,i<s.f_Nodes.length->kfb s l' i):l=l':=by
 have key:∀ i,i<s.f_Nodes.length->fg l i=fg l' i:=fun i=>by
  induction i using Nat.strongRecOn with
  | _ i ih=>
   intro hi;have hn:=qa hi;rw [Bool.eq_iff_iff,c i hi _ hn,b i hi _ hn];have hc:∀ o∈s.f_Nodes[i].f_Options,kak (fg l) o=kak (fg l') o:=fun o ho=>kgh fun a ha=>(by have:=((hf.node i _ hn).opt o ho).args a ha;exact ih a.toNat (by omega) (by omega));exact ⟨fun ⟨o,ho,h⟩=>⟨o,ho,by rw [<- hc o ho];exact h⟩,fun ⟨o,ho,h⟩=>⟨o,ho,by rw [hc o ho];exact h⟩⟩
 refine List.ext_getElem? fun i=>?_;by_cases hi:i<s.f_Nodes.length;rw [ket (by omega),ket (by omega),key i hi]
 ·rw [qan (by omega),qan (by omega)]
end
end Go.Proofs.YtpnnpkmjohkgiaaGreatDoor
