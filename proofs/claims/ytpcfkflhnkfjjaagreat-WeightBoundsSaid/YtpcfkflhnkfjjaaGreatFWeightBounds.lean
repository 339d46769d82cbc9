/- WeightBounds: the law returns true for every input. -/
import Derived.Test.YtpcfkflhnkfjjaaGreatGv
import Derived.Test.YtpcfkflhnkfjjaaGreatZE
import Derived.ChangeMaps5
import Derived.JoinedOf
import Derived.Test.YtpcfkflhnkfjjaaGreatRows
import Derived.Test.YtpcfkflhnkfjjaaGreatMem
import Derived.Test.YtpcfkflhnkfjjaaGreatDi
set_option linter.all false
set_option maxRecDepth 100000
namespace Go.Proofs.YtpcfkflhnkfjjaaGreat
open Go Go.RowKit Go.ChangeShapes Go.WideShapes Go.ChangeAt Go.Proofs.Tryz
section
variable {H:Type} {enc:TypeId×Value->H} {w:World} {base:Nat} {spare:Nat->Bool} {held:Bool}
theorem k2m:prog.cellsOf 28=2:=by kernel_rfl
theorem k89 {r:Reach} {b0:Nat} {v:Value} {d:DataW H} {p:List MemPlace} (hv:Value.okWide prog w r b0 28 v) (h:DataW.Trod enc prog w base spare held 28 v d p):∃ x,RF Any w v (kj5 x)/\True:=by
 obtain ⟨cs,rfl,a⟩:=okWide_struct underlying28 hv;obtain ⟨fuel,hf⟩:=h;obtain ⟨xs,n,o,_,i,e,hf⟩:=DataW.trod_struct underlying28 hf;rw [k2m] at a;obtain ⟨l⟩:=cs
 match l,a with
 | [c0,c1],_=>
  have h0:=hf 0 _ rfl;have h1:=hf 1 _ rfl;rw [qb (by rw [e];decide)] at h0 h1;obtain ⟨m,e0,_⟩:=kjc h0;obtain ⟨k,e1',_⟩:=kjc h1;have f:c0 = .int .i64 m:=by simpa [kxl,Value.cells] using e0
  have g:c1 = .int .i64 k:=by simpa [kxl,Value.cells] using e1'
  subst f g;refine ⟨⟨m,k⟩,k4w (cs:=[.int .i64 m, .int .i64 k]) (xs:=[eI m,eI k]) rfl (kqb rfl fun j y b=>?_),trivial⟩
  match j with
  | 0=>simp at b;subst b;exact ⟨rfl,fun u c=>by simp at c;subst c;exact .atom rfl⟩
  | 1=>simp at b;subst b;exact ⟨rfl,fun u c=>by simp at c;subst c;exact .atom rfl⟩
  | j+2=>simp at b
end
open Go Go.RowKit Go.ChangeShapes Go.WideShapes Go.Proofs.Tryz
theorem kaa5:laidOutB Tryz.checked.prog=true:=by as_aux_lemma=>kernel_rfl
theorem k8o:mapsRowed Tryz.checked.prog=true:=by as_aux_lemma=>kernel_rfl
theorem k9b:Tryz.checked.prog.stopsHeard=true:=by as_aux_lemma=>kernel_rfl
theorem k8y:Tryz.checked.prog.liftsFinal=false:=by as_aux_lemma=>kernel_rfl
theorem k2h:Tryz.checked.prog.mayEnter=true:=by as_aux_lemma=>kernel_rfl
theorem kaa4:Tryz.checked.prog.make=some .cut:=by as_aux_lemma=>kernel_rfl
set_option maxRecDepth 100000 in
theorem krr (os:Os) (started:os.Started) (H:Type) (enc:TypeId×Value->H):
  ReturnsInHanded {} Tryz.checked os 3 .any (Rows.weightBoundsSpec.pre6 enc prog Tryz.f3 Rows.weightBoundsRow.domain false) (Rows.weightBoundsSpec.post enc prog Tryz.f3 false true false false):=by
 refine returnsInHanded_of_change (C:=Tryz.checked) k5x started (by kernel_rfl) func3
  (ChangeSpec.witness6 (enc:=enc) (C:=Tryz.checked) false ⟨#[],#[.agg #[.string ⟨#[]⟩, .slice none 0 0, .slice none 0 0, .slice none 0 0], .slice none 0 0, .agg #[.int .i64 0, .int .i64 0]],[]⟩ 8 (by kernel_rfl) (by kernel_rfl) (by kernel_rfl) (by kernel_rfl)) ?_
 intro W base args ds gs before b h _ _;have a:∀ (j:Nat) t v,Tryz.f3.params[j]?=some t->args[j]?=some v->Value.okWide prog W .any base t v:=b;have d:=h;obtain ⟨p,q,f,k,rfl,l,m⟩:=h;have hA:DataW.TrodAll enc prog W 0 (fun _=>true) true Tryz.f3.params.toList args.toList ds p:=f;rw [Tryz.params3] at hA a;obtain ⟨v0,vs0,d0,ds0,p0,q0,g,rfl,rfl,h0,r0⟩:=trodAll_cons hA;obtain ⟨v1,vs1,d1,ds1,p1,q1,rfl,rfl,rfl,h1,r1⟩:=trodAll_cons r0;obtain ⟨v2,vs2,d2,ds2,p2,q2,rfl,rfl,rfl,n,r2⟩:=trodAll_cons r1;obtain ⟨rfl,rfl,rfl⟩:=trodAll_nil r2;obtain rfl:args=#[v0,v1,v2]:=by cases args;simp_all
 obtain ⟨rfl,rfl⟩:=trodVars_none k;obtain ⟨x0,e0,b0⟩:=in_La (a 0 26 v0 rfl rfl) h0;obtain ⟨x1,e1,b1,c1⟩:=k95 underlying22 underlying3 (by kernel_rfl) (a 1 22 v1 rfl rfl) h1;obtain ⟨x2,e2,b2⟩:=k89 (a 2 28 v2 rfl rfl) n;refine (k4r (kk7 x0 x1 x2 true (kt6 x0 x1 x2 b0 b1 b2)) rfl ?_).mono fun e W' ⟨o,r⟩=>?_
 ·intro i v x hv c
  match i with
  | 0=>simp at hv c;subst hv c;exact e0
  | 1=>simp at hv c;subst hv c;exact e1
  | 2=>simp at hv c;subst hv c;exact e2
  | i+3=>simp at hv
 subst o;exact ⟨_,rfl,k6t k60 (by rw [Tryz.params3];intro t ht;simp at ht;rcases ht with rfl | rfl | rfl <;> exact ⟨by kernel_rfl,of_decide_eq_true (by kernel_rfl)⟩) rfl underlying4 rfl rfl d r⟩
set_option maxHeartbeats 4000000 in
theorem krq:joinedFacts Tryz.checked.prog 3 Tryz.f3 Rows.weightBoundsSpec Rows.weightBoundsRow=true:=by
 unfold joinedFacts;simp only [k2h,k8y,kaa4,kaa5,k8o,k9b,qy,Bool.and_true]
 repeat' apply And.intro
 all_goals (as_aux_lemma=>kernel_rfl)
theorem weightBounds_holds:Rows.WeightBoundsSaid:=
 OpenClaim.holds_of_wide 3 Tryz.f3 rfl rfl rfl rfl rfl rfl rfl ⟨rfl,rfl,rfl,rfl,rfl⟩ rfl rfl rfl rfl rfl (by kernel_rfl) func3 krq
  (of_decide_eq_true (by kernel_rfl)) (by unfold Func.isWrapper;rw [qk (of_decide_eq_false (by kernel_rfl))];exact ⟨rfl,rfl⟩)
  (fun os started H enc _=>krr os started H enc)
end Go.Proofs.YtpcfkflhnkfjjaaGreat
