import Derived.Test.YtpcfkflhnkfjjaaGreatLaw
import Derived.Test.YtpcfkflhnkfjjaaGreatLang
import Derived.Deep.Fields
import Derived.Test.YtpcfkflhnkfjjaaGreatEnc
set_option linter.all false
set_option maxRecDepth 100000
namespace Go.Proofs.YtpcfkflhnkfjjaaGreat
open Go Go.RowKit Go.ChangeShapes Go.WideShapes Go.ChangeAt Go.Proofs.Tryz
theorem kvt {n:Int} (h:(Lit.int .i64 n).wf=true):kg0 n:=by simpa [Lit.wf,IntKind.min,IntKind.max,IntKind.signed,IntKind.bits,kg0] using h
section
variable {H:Type} {enc:TypeId×Value->H} {w:World} {base:Nat} {spare:Nat->Bool} {held:Bool}
theorem cells_ty:prog.cellsOf 3=1/\prog.cellsOf 2=1/\prog.cellsOf 9=1/\prog.cellsOf 22=1/\prog.cellsOf 52=1/\prog.cellsOf 23=1/\prog.cellsOf 24=1 /\
  prog.cellsOf 54=4/\prog.cellsOf 51=2/\prog.cellsOf 56=9/\prog.cellsOf 26=4:=⟨by kernel_rfl,by kernel_rfl,by kernel_rfl,by kernel_rfl,by kernel_rfl,by kernel_rfl,by kernel_rfl,by kernel_rfl,by kernel_rfl,by kernel_rfl,by kernel_rfl⟩
theorem kqu {fuel:Nat} {cs:List Value} {x:DataW H×List MemPlace} (h:DataW.trod enc prog w base spare held fuel 9 cs=some x):∃ s,cs=[.string s]/\kon s:=by obtain ⟨s,hs,_,hl⟩:=DataW.trod_string underlying9 h;exact ⟨s,hs,by unfold maxLen at hl;exact hl⟩
theorem kjc {fuel:Nat} {cs:List Value} {x:DataW H×List MemPlace} (h:DataW.trod enc prog w base spare held fuel 3 cs=some x):∃ n,cs=[.int .i64 n]/\kg0 n:=by obtain ⟨n,hn,_,a⟩:=DataW.trod_int underlying3 h;exact ⟨n,hn,kvt a⟩
theorem k4g {fuel:Nat} {cs:List Value} {x:DataW H×List MemPlace} (h:DataW.trod enc prog w base spare held fuel 2 cs=some x):∃ n,cs=[.int .i64 n]/\kg0 n:=by obtain ⟨n,hn,_,a⟩:=DataW.trod_int underlying2 h;exact ⟨n,hn,kvt a⟩
theorem ku5 {fuel:Nat} {cs:List Value} {x:DataW H×List MemPlace} (h:DataW.trod enc prog w base spare held fuel 22 cs=some x):∃ v ns,cs=[v]/\Ints Any w v ns:=
 kp9 (R:=IntR) (size:=1) underlying22 cells_ty.1 (by omega) h fun n cs' y _ a=>by obtain ⟨k,h1,b⟩:=kjc a;exact ⟨k,h1,b⟩
theorem k1o:∀ (fuel:Nat) (cs:List Value) (x:DataW H×List MemPlace),DataW.trod enc prog w base spare held fuel 54 cs=some x->∃ t,RepVa Any w cs t:=by
 obtain ⟨z1,z2,z3,z4,z5,z6,z7,z8,z9,z10,z11⟩:=cells_ty;intro fuel
 induction fuel using Nat.strongRecOn with
 | _ fuel ih=>
  intro cs x h;obtain ⟨xs,n,e,_,a,b,hf⟩:=DataW.trod_struct underlying54 h;rw [z8] at a
  match cs,a with
  | [c0,c1,c2,c3],_=>
   have h0:=hf 0 _ rfl;have h1:=hf 1 _ rfl;have c:=hf 2 _ rfl;have d:=hf 3 _ rfl;rw [qb (by rw [b];decide)] at h0 h1 c d;obtain ⟨t,e0,ht⟩:=kjc h0;obtain ⟨m,e1,hm⟩:=k4g h1;obtain ⟨s,e2,hs⟩:=kqu c;obtain ⟨v,ts,e3,f⟩:=kp9 (R:=RepVa Any w) (size:=4) underlying52 z8 (by omega) d fun k cs' y hk g=>ih k (by omega) cs' y g;simp [z1,z2,z3,z4,z5,z6,z7,z8] at e0 e1 e2 e3;subst e0 e1 e2 e3;exact ⟨.mk t m s ts,RepVa.of ht hm hs f⟩
theorem k0h {fuel:Nat} {cs:List Value} {x:DataW H×List MemPlace} (h:DataW.trod enc prog w base spare held fuel 51 cs=some x):∃ t,kx1 Any w cs t:=by
 obtain ⟨z1,z2,z3,z4,z5,z6,z7,z8,z9,z10,z11⟩:=cells_ty;obtain ⟨xs,n,c,_,a,b,hf⟩:=DataW.trod_struct underlying51 h;rw [z9] at a
 match cs,a with
 | [c0,c1],_=>
  have h0:=hf 0 _ rfl;have h1:=hf 1 _ rfl;rw [qb (by rw [b];decide)] at h0 h1;obtain ⟨s,e0,hs⟩:=kqu h0;obtain ⟨t,e1,ht⟩:=kjc h1;simp [z1,z2,z3,z4,z5,z6,z7,z8] at e0 e1;subst e0 e1;exact ⟨⟨s,t⟩,rfl,hs,ht⟩
theorem k4d {fuel:Nat} {cs:List Value} {x:DataW H×List MemPlace} (h:DataW.trod enc prog w base spare held fuel 56 cs=some x):∃ t,kxy Any w cs t:=by
 obtain ⟨z1,z2,z3,z4,z5,z6,z7,z8,z9,z10,z11⟩:=cells_ty;obtain ⟨xs,n,l,_,d,e,hf⟩:=DataW.trod_struct underlying56 h;rw [z10] at d
 match cs,d with
 | [c0,c1,c2,c3,c4,c5,c6,c7,c8],_=>
  have h0:=hf 0 _ rfl;have h1:=hf 1 _ rfl;have g:=hf 2 _ rfl;have i:=hf 3 _ rfl;have j:=hf 4 _ rfl;have k:=hf 5 _ rfl;rw [qb (by rw [e];decide)] at h0 h1 g i j k;obtain ⟨a,e0,ha⟩:=kjc h0;obtain ⟨b,e1,m⟩:=kjc h1;obtain ⟨c,e2,hc⟩:=kjc g;obtain ⟨v,hv⟩:=k1o _ _ _ i;obtain ⟨s,e4,hs⟩:=kqu j;obtain ⟨u,ns,e5,f⟩:=ku5 k;simp [z1,z2,z3,z4,z5,z6,z7,z8] at e0 e1 e2 e4 e5 hv;subst e0 e1 e2 e4 e5;exact ⟨⟨a,b,c,v,s,ns⟩,c3,c4,c5,c6,_,rfl,ha,m,hc,hs,hv,f⟩
theorem kxv {fuel:Nat} {cs:List Value} {x:DataW H×List MemPlace} (h:DataW.trod enc prog w base spare held fuel 26 cs=some x):∃ t,k74 Any w cs t:=by
 obtain ⟨z1,z2,z3,z4,z5,z6,z7,z8,z9,z10,z11⟩:=cells_ty;obtain ⟨xs,n,j,_,a,b,hf⟩:=DataW.trod_struct underlying26 h;rw [z11] at a
 match cs,a with
 | [c0,c1,c2,c3],_=>
  have h0:=hf 0 _ rfl;have h1:=hf 1 _ rfl;have g:=hf 2 _ rfl;have i:=hf 3 _ rfl;rw [qb (by rw [b];decide)] at h0 h1 g i;obtain ⟨s,e0,hs⟩:=kqu h0;obtain ⟨v1,n1,e1,c⟩:=ku5 h1;obtain ⟨v2,n2,e2,d⟩:=kp9 (R:=kx1 Any w) (size:=2) underlying23 z9 (by omega) g fun k cs' y hk e=>k0h e;obtain ⟨v3,n3,e3,f⟩:=kp9 (R:=kxy Any w) (size:=9) underlying24 z10 (by omega) i fun k cs' y hk e=>k4d e;simp [z1,z2,z3,z4,z5,z6,z7,z8] at e0 e1 e2 e3;subst e0 e1 e2 e3;exact ⟨⟨s,n1,n2,n3⟩,_,_,_,rfl,hs,c,d,f⟩
theorem kwh {r:Reach} {b0:Nat} {v:Value} {d:DataW H} {p:List MemPlace} (hv:Value.okWide prog w r b0 26 v) (h:DataW.Trod enc prog w base spare held 26 v d p):∃ t,LaV Any w v t:=by obtain ⟨cs,rfl,a⟩:=okWide_struct underlying26 hv;obtain ⟨fuel,hf⟩:=h;obtain ⟨t,ht⟩:=kxv hf;exact ⟨t,cs.toList,by simp,by simpa [Value.cells] using ht⟩
end
section
variable {H:Type} {enc:TypeId×Value->H} {w:World} {base:Nat} {spare:Nat->Bool} {held:Bool}
theorem kxl:prog.cellsOf 3=1:=by kernel_rfl
end
end Go.Proofs.YtpcfkflhnkfjjaaGreat
