import Derived.Test.YtpcfkflhnkfjjaaGreatFin
import Derived.Test.YtpcfkflhnkfjjaaGreatOpenLang
import Derived.Test.YtpcfkflhnkfjjaaGreatGu
set_option linter.all false
set_option maxRecDepth 100000
namespace Go.Proofs.YtpcfkflhnkfjjaaGreat
open Go Go.RowKit Go.ChangeShapes Go.WideShapes Go.ChangeAt
section
variable {w:World}
def CR (w:World) (cs:List Value) (x:FV) (size:Nat):Prop:=x.cells.length=size/\(∀ y∈x.cells,y.single=true)/\∀ (j:Nat) (u:Value) (y:FV),cs[j]?=some u->x.cells[j]?=some y->RF Any w u y
theorem kqb {cs:List Value} {xs:List FV} (hl:cs.length=xs.length) (h:∀ (j:Nat) (y:FV),xs[j]?=some y->y.single=true/\∀ u,cs[j]?=some u->RF Any w u y):CR w cs (.agg xs) xs.length:=by refine ⟨rfl,fun y a=>?_,fun j u y b a=>(h j y a).2 u b⟩;obtain ⟨j,c⟩:=qan.1 a;exact (h j y c).1
theorem k0q {v:Value} {ns:List Int} (h:Ints Any w v ns):RF Any w v (eL 1 eI ns):=
 ks9 (R:=IntR) (by omega) h fun cs x _ a=>k3s a.1 rfl
theorem k7x:∀ (x:Va) (cs:List Value),RepVa Any w cs x->CR w cs (eVaR x) 4/\inV x:=by
 refine Va.ind fun t n s l ih=>?_;intro cs h;obtain ⟨v,rfl,ht,hn,hs,hv⟩:=h.form;have e:RF Any w v (.lst 4 l.length (kqv l)):=by have:=ks9 (ec:=eVaR) (size:=4) (by omega) hv fun cs x d hr=>(ih x d cs hr).1;rw [kua];have g:eL 4 eVaR l = .lst 4 l.length (l.map eVaR):=rfl;rw [<- g];exact this
 refine ⟨kqb (xs:=[eI t,eI n,eS s, .lst 4 l.length (kqv l)]) rfl fun j y c=>?_,?_⟩
 ·match j with
  | 0=>simp at c;subst c;exact ⟨rfl,fun u a=>by simp at a;subst a;exact .atom rfl⟩
  | 1=>simp at c;subst c;exact ⟨rfl,fun u a=>by simp at a;subst a;exact .atom rfl⟩
  | 2=>simp at c;subst c;exact ⟨rfl,fun u a=>by simp at a;subst a;exact .atom rfl⟩
  | 3=>simp at c;subst c;exact ⟨rfl,fun u a=>by simp at a;subst a;exact e⟩
  | j+4=>simp at c
 ·obtain ⟨A,cap,_,h1,m,k⟩:=hv;have all:∀ x∈l,inV x:=fun x d=>by obtain ⟨i,hi⟩:=qan.1 d;obtain ⟨b,o,cs,_,_,_,_,hr⟩:=k i x hi;exact (ih x d cs hr).2
  have gen:∀ l:List Va,(∀ x∈l,inV x)->kvd 9223372036854775807 l/\ksu l:=fun l=>by
   induction l with
   | nil=>exact fun _=>⟨trivial,trivial⟩
   | cons y l ih=>exact fun h=>⟨⟨(h y (qs ..)).1,(ih fun z f=>h z (qo _ f)).1⟩,(h y (qs ..)).2,(ih fun z f=>h z (qo _ f)).2⟩
  obtain ⟨g1,g2⟩:=gen l all;exact ⟨⟨by omega,g1⟩,hs,g2⟩
theorem sy_cr {cs:List Value} {x:Sy} (h:kx1 Any w cs x):CR w cs (eSy x) 2:=by
 obtain ⟨rfl,hs,ht⟩:=h;refine kqb (xs:=[eS x.name,eI x.type]) rfl fun j y a=>?_
 match j with
 | 0=>simp at a;subst a;exact ⟨rfl,fun u b=>by simp at b;subst b;exact .atom rfl⟩
 | 1=>simp at a;subst a;exact ⟨rfl,fun u b=>by simp at b;subst b;exact .atom rfl⟩
 | j+2=>simp at a
theorem k7w {cs:List Value} {x:Ru} (h:kxy Any w cs x):CR w cs (eRu x) 9/\kvi x:=by
 obtain ⟨c0,c1,c2,c3,v,rfl,h1,i,m,o,f,g⟩:=h;obtain ⟨k,kw⟩:=k7x _ _ f;obtain ⟨sy,kd,inp,c,op,ar⟩:=x;obtain ⟨t,n,s,l⟩:=c;obtain ⟨v',d,ht,hn,hs,hv⟩:=f.form;simp only [List.cons.injEq,and_true] at d;obtain ⟨rfl,rfl,rfl,rfl⟩:=d;have e:RF Any w c3 (eL 4 eVaR l):=ks9 (ec:=eVaR) (size:=4) (by omega) hv fun cs x p hr=>(k7x x cs hr).1;refine ⟨kqb (xs:=[eI sy,eI kd,eI inp,eI t,eI n,eS s,eL 4 eVaR l,eS op,eL 1 eI ar]) rfl fun j y b=>?_,(by obtain ⟨A,cap,_,q1,q2,_⟩:=g;exact qaf q1 q2),kw⟩
 match j with
 | 0=>simp at b;subst b;exact ⟨rfl,fun u a=>by simp at a;subst a;exact .atom rfl⟩
 | 1=>simp at b;subst b;exact ⟨rfl,fun u a=>by simp at a;subst a;exact .atom rfl⟩
 | 2=>simp at b;subst b;exact ⟨rfl,fun u a=>by simp at a;subst a;exact .atom rfl⟩
 | 3=>simp at b;subst b;exact ⟨rfl,fun u a=>by simp at a;subst a;exact .atom rfl⟩
 | 4=>simp at b;subst b;exact ⟨rfl,fun u a=>by simp at a;subst a;exact .atom rfl⟩
 | 5=>simp at b;subst b;exact ⟨rfl,fun u a=>by simp at a;subst a;exact .atom rfl⟩
 | 6=>simp at b;subst b;exact ⟨rfl,fun u a=>by simp at a;subst a;exact e⟩
 | 7=>simp at b;subst b;exact ⟨rfl,fun u a=>by simp at a;subst a;exact .atom rfl⟩
 | 8=>simp at b;subst b;exact ⟨rfl,fun u a=>by simp at a;subst a;exact k0q g⟩
 | j+9=>simp at b
theorem k4w {cs:List Value} {xs:List FV} (hl:cs.length=xs.length) (h:CR w cs (.agg xs) xs.length):RF Any w (.agg cs.toArray) (.agg xs):=
 .agg (by simpa using hl) (fun x a=>h.2.1 x a) fun i v x hv a=>h.2.2 i v x (by simpa using hv) a
theorem la_rf {v:Value} {x:La} (h:LaV Any w v x):RF Any w v (eLa x)/\kta x:=by
 obtain ⟨cs,rfl,v1,v2,v3,rfl,hn,h1,d,e⟩:=h;have r1:=k0q h1;have r2:RF Any w v2 (eL 2 eSy x.symbols):=ks9 (ec:=eSy) (size:=2) (by omega) d fun cs x _ hr=>sy_cr hr;have r3:RF Any w v3 (eL 9 eRu x.rules):=ks9 (ec:=eRu) (size:=9) (by omega) e fun cs x _ hr=>(k7w hr).1;refine ⟨k4w (xs:=[eS x.name,eL 1 eI x.inputs,eL 2 eSy x.symbols,eL 9 eRu x.rules]) rfl (kqb rfl fun j y a=>?_),?_⟩
 ·match j with
  | 0=>simp at a;subst a;exact ⟨rfl,fun u c=>by simp at c;subst c;exact .atom rfl⟩
  | 1=>simp at a;subst a;exact ⟨rfl,fun u c=>by simp at c;subst c;exact r1⟩
  | 2=>simp at a;subst a;exact ⟨rfl,fun u c=>by simp at c;subst c;exact r2⟩
  | 3=>simp at a;subst a;exact ⟨rfl,fun u c=>by simp at c;subst c;exact r3⟩
  | j+4=>simp at a
 ·refine ⟨hn,?_,?_,?_,fun y a=>?_,fun r hr=>?_⟩;obtain ⟨A,cap,_,q1,q2,_⟩:=h1;exact qaf q1 q2;obtain ⟨A,cap,_,q1,q2,_⟩:=d;exact qaf q1 q2;obtain ⟨A,cap,_,q1,q2,_⟩:=e;exact qaf q1 q2;obtain ⟨A,cap,_,_,_,f⟩:=d;obtain ⟨i,hi⟩:=qan.1 a;obtain ⟨b,o,cs,_,_,_,_,g⟩:=f i y hi;exact g.2.1
  ·obtain ⟨A,cap,_,_,_,f⟩:=e;obtain ⟨i,hi⟩:=qan.1 hr;obtain ⟨b,o,cs,_,_,_,_,g⟩:=f i r hi;exact (k7w g).2
end
section
variable {H:Type} {enc:TypeId×Value->H} {w:World} {base:Nat} {spare:Nat->Bool} {held:Bool}
theorem in_La {r:Reach} {b0:Nat} {v:Value} {d:DataW H} {p:List MemPlace} (hv:Value.okWide Tryz.prog w r b0 26 v) (h:DataW.Trod enc Tryz.prog w base spare held 26 v d p):∃ x,RF Any w v (eLa x)/\kta x:=by obtain ⟨x,a⟩:=kwh hv h;exact ⟨x,la_rf a⟩
end
end Go.Proofs.YtpcfkflhnkfjjaaGreat
