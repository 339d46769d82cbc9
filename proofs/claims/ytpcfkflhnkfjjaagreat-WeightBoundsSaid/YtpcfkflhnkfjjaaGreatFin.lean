import Derived.Test.YtpcfkflhnkfjjaaGreatLaw
import Derived.Test.YtpcfkflhnkfjjaaGreatEnc
import Derived.Test.YtpcfkflhnkfjjaaGreatTy
import Derived.ChangeMaps5
set_option linter.all false
namespace Go.Proofs.YtpcfkflhnkfjjaaGreat
open Go Go.RowKit Go.ChangeShapes Go.WideShapes Go.ChangeAt Go.ChangeMaps
section
variable {T:Type} {P:Program} {H:Type} {enc:TypeId×Value->H} {w:World} {base:Nat} {spare:Nat->Bool} {held:Bool}
theorem ks9 {R:List Value->T->Prop} {ec:T->FV} {size:Nat} {v:Value} {xs:List T} (k:0<size) (h:RepSl Any w size R v xs)
  (g:∀ cs x,x∈xs->R cs x->(ec x).cells.length=size/\(∀ y∈(ec x).cells,y.single=true)/\∀ (j:Nat) (u:Value) (y:FV),cs[j]?=some u->(ec x).cells[j]?=some y->RF Any w u y):RF Any w v (eL size ec xs):=by
 obtain ⟨A,cap,rfl,h1,l,m⟩:=h;have f:∀ i:Nat,∃ cs:List Value,∀ x,xs[i]?=some x->∃ b o,A=some ⟨b,o,none⟩/\At w b (o+i*size) cs/\cs.length=size/\R cs x:=fun i=>by
  cases d:xs[i]? with
  | none=>exact ⟨[],fun x h=>by cases h⟩
  | some x=>
   obtain ⟨b,o,cs,e1,_,e2,e3,e4⟩:=m i x d;exact ⟨cs,fun y e=>by injection e with e;subst e;exact ⟨b,o,e1,e2,e3,e4⟩⟩
 obtain ⟨css,c⟩:=Classical.axiomOfChoice f;refine .lst css (by simp) h1 l k (fun i x d=>?_) (fun i x d=>?_) fun i x j v y d hv e=>?_;simp only [qp,qt] at d;obtain ⟨z,a,rfl⟩:=d;obtain ⟨b,o,e1,e2,_⟩:=c i z a;exact ⟨b,o,e1,trivial,e2⟩;simp only [qp,qt] at d;obtain ⟨z,a,rfl⟩:=d;obtain ⟨b,o,e1,e2,e3,e4⟩:=c i z a;obtain ⟨g1,g2,_⟩:=g _ z (qm a) e4;exact ⟨e3,g1,g2⟩
 ·simp only [qp,qt] at d;obtain ⟨z,a,rfl⟩:=d;obtain ⟨b,o,e1,e2,e3,e4⟩:=c i z a;exact (g _ z (qm a) e4).2.2 j v y hv e
theorem k3s {x:Value} {cs:List Value} (b:cs=[x]) (d:x.oneCell'=true):(FV.atom x).cells.length=1/\(∀ y∈(FV.atom x).cells,y.single=true)/\∀ (j:Nat) (u:Value) (y:FV),cs[j]?=some u->(FV.atom x).cells[j]?=some y->RF Any w u y:=by
 subst b;refine ⟨rfl,fun y a=>?_,fun j u y c a=>?_⟩;simp [FV.cells] at a;subst a;exact d
 ·cases j with
  | zero=>
   simp [FV.cells] at c a;subst c a;exact .atom d
  | succ j=>simp at c
theorem kaar {n:Int} (h:(Lit.int .i64 n).wf=true):kg0 n:=by simpa [Lit.wf,IntKind.min,IntKind.max,IntKind.signed,IntKind.bits,kg0] using h
theorem in_sl {R:List Value->T->Prop} {ec:T->FV} {size:Nat} {r:Reach} {b0:Nat} {t e:TypeId} {v:Value} {d:DataW H} {p:List MemPlace} (ht:P.underlying t=some (.slice e)) (l:P.cellsOf e=size) (k:0<size) (hv:Value.okWide P w r b0 t v)
  (h:DataW.Trod enc P w base spare held t v d p) (f:∀ n cs' y,DataW.trod enc P w base spare held n e cs'=some y->∃ z,R cs' z)
  (m:∀ cs x,R cs x->(ec x).cells.length=size/\(∀ y∈(ec x).cells,y.single=true)/\∀ (j:Nat) (u:Value) (y:FV),cs[j]?=some u->(ec x).cells[j]?=some y->RF Any w u y):
  ∃ xs:List T,RF Any w v (eL size ec xs)/\xs.length<=9223372036854775807/\∀ x∈xs,∃ cs,R cs x:=by
 obtain ⟨a,len,cap,rfl⟩:=okWide_slice ht hv;obtain ⟨fuel,hf⟩:=h;obtain ⟨v',xs,hc,c⟩:=kp9 (R:=R) ht l k hf fun n cs' y _ q=>f n cs' y q;have:v' = .slice a len cap:=by simpa [Value.cells] using hc.symm
 subst this;refine ⟨xs,ks9 k c fun cs x _ g=>m cs x g,?_,fun x g=>?_⟩;obtain ⟨A,cap',h0,h1,s,_⟩:=c;omega
 ·obtain ⟨A,cap',h0,h1,s,B⟩:=c;obtain ⟨i,hi⟩:=qan.1 g;obtain ⟨b,o,cs,_,_,_,_,C⟩:=B i x hi;exact ⟨cs,C⟩
theorem k95 {r:Reach} {b0:Nat} {t e:TypeId} {v:Value} {d:DataW H} {p:List MemPlace} (ht:P.underlying t=some (.slice e)) (c:P.underlying e=some (.int .i64)) (f:P.cellsOf e=1) (hv:Value.okWide P w r b0 t v)
  (h:DataW.Trod enc P w base spare held t v d p):∃ xs:List Int,RF Any w v (eL 1 eI xs)/\xs.length<=9223372036854775807/\∀ x∈xs,kg0 x:=by
 obtain ⟨xs,h1,g,i⟩:=in_sl (R:=fun cs n=>cs=[.int .i64 n]/\kg0 n) (ec:=eI) ht f (by omega) hv h (fun n cs' y j=>by obtain ⟨m,hm,_,a⟩:=DataW.trod_int c j;exact ⟨m,hm,kaar a⟩) fun cs x b=>k3s b.1 rfl;exact ⟨xs,h1,g,fun x b=>let ⟨_,h⟩:=i x b;h.2⟩
theorem k4r {f:FuncId} {args:List FV} {vs:Array Value} (hp:kac P f args (eB true)) (hs:vs.size=args.length) (hr:∀ (i:Nat) (v:Value) (x:FV),vs[i]?=some v->args[i]?=some x->RF Any w v x):
  Calls P f vs w fun e w'=>e = .returned (.bool true)/\Below w.heap.size w w':=by
 refine (hp.2 Any w vs hs hr).mono ?_;rintro e w' ⟨v,rfl,h1,a⟩;rw [h1.atom_eq];exact ⟨rfl,a⟩
end
end Go.Proofs.YtpcfkflhnkfjjaaGreat
