/- SpaceChecks: the law returns true for every input where the listed tables hold what the program lays into them. -/
import Derived.Test.YtpnnpkmjohkgiaaGreatDoorSa
import Derived.Test.YtpnnpkmjohkgiaaGreatDoorSp
import Derived.ChangeMaps5
import Derived.JoinedOf
import Derived.Test.YtpnnpkmjohkgiaaGreatDoorRows
import Derived.Test.YtpnnpkmjohkgiaaGreatDoorLaw
import Derived.Test.YtpnnpkmjohkgiaaGreatDoorSp
import Derived.Test.YtpnnpkmjohkgiaaGreatDoorCards
import Derived.Test.YtpnnpkmjohkgiaaGreatDoorTie
import Derived.Test.YtpnnpkmjohkgiaaGreatDoorRel
import Derived.SevenTiedAt
set_option linter.all false
set_option maxRecDepth 100000
namespace Go.Proofs.YtpnnpkmjohkgiaaGreatDoor
open Go Go.RowKit Go.Proofs.Tryz
theorem SpW.wide {s:Spa} (h:SpW s):kn4 s:=⟨by have:=h.nodes;omega,by have:=h.roots;omega,fun n hn=>by have:=h.opts n hn;omega,fun n hn o a=>by have:=h.args n hn o a;omega⟩
def kgz (l:La) (ns:List Nod) (i:Nat) (o:Opn):Int:=match l.rules[o.f_Rule.toNat]? with
 | none=>1
 | some r=>if shp ns i o=r.symbol::r.args then 0 else 4
section
variable {l:La} {s:Spa} {i:Nat} {n:Nod} {o:Opn}
theorem kvf (b:kgd s) (hn:s.f_Nodes[i]?=some n) (c:o∈n.f_Options):o.f_Args.length<=24:=by
 have h1:=(b.node i n hn).opt o c;have d:=(b.node i n hn).size;have key:∀ l:List Int,(∀ a∈l,1<=szAt s.f_Nodes a)->(l.length:Int)<=(l.map (szAt s.f_Nodes)).sum:=fun l=>by
  induction l with
  | nil=>intro _;simp
  | cons x l ih=>
   intro h;have h1:=h x (q9 ..);have d:=ih fun y hy=>h y (qu _ hy);simp only [qa2,List.sum_cons,List.length_cons];omega
 have e:=key o.f_Args fun a ha=>by obtain ⟨a0,a1⟩:=h1.args a ha;have hi:=keu hn;obtain ⟨m,_,e2,e3,_⟩:=khv (ns:=s.f_Nodes) a0 (by omega);have:=(b.node _ m e2).size;omega
 have:=h1.size;omega
theorem ky8 (b:kgd s) (hn:s.f_Nodes[i]?=some n) (c:o∈n.f_Options):∀ a∈o.f_Args,0<=a/\a<(s.f_Nodes.length:Int):=fun a ha=>by have h1:=((b.node i n hn).opt o c).args a ha;have:=keu hn;omega
theorem k47 (t:km0 l) (g:kgd s) (hn:s.f_Nodes[i]?=some n) (j:o∈n.f_Options):kds l s n o=some (kgz l s.f_Nodes i o):=by
 have p:=((g.node i n hn).opt o j).rule;have c:=ky8 g hn j;have q:=kvf g hn j;unfold kds kgz;rw [qi (show ¬ o.f_Rule<0 by omega),qe];by_cases h1:(l.rules.length:Int)<=o.f_Rule;rw [qk h1,qb,qd,qax (by omega)]
 ·have b:o.f_Rule.toNat<l.rules.length:=by omega
  rw [qi h1,qb,qe,show idx l.rules o.f_Rule=some l.rules[o.f_Rule.toNat] by unfold idx;rw [qq p,qa b],qb,qa b];have u:=(t.good _ (qs b)).few;generalize l.rules[o.f_Rule.toNat]=r at u;simp only;by_cases f:r.symbol=n.f_Symbol
  ·rw [show (r.symbol != n.f_Symbol)=false by simp [f],qe,qb];by_cases v:r.args.length=o.f_Args.length
   ·rw [show ((r.args.length:Int) != (o.f_Args.length:Int))=false by simp [v],qe];rcases kji (step:=kc7 s o r) r.args.length (by omega) (fun k=>decide (syAt s.f_Nodes ((o.f_Args[k]?).getD 0)≠(r.args[k]?).getD 0)) (fun _ => .inr 4) (.inl ()) (fun k hk=>by
     have a:k<o.f_Args.length:=(by omega);obtain ⟨m,e1,_,_,e3⟩:=khv (ns:=s.f_Nodes) (c _ (qs a)).1 (c _ (qs a)).2;simp only [kc7,kdf hk,qd,kaj,qa hk,qa a,qb,e1,qaf,e3,kbs hk (show r.args.length<=9223372036854775807 by omega)];by_cases h:m.f_Symbol=r.args[k];rw [show (m.f_Symbol != r.args[k])=false by simp [h],ql (by simp [h])];rfl
     ·rw [show (m.f_Symbol != r.args[k])=true by simp [h],qq (by simp [h])];rfl) (by simp only [kc7,kcn,qe]) with ⟨k,hk,d,_,hr⟩ | ⟨d,hr⟩
    rw [hr,qb];rw [qa3] at d;have:¬ shp s.f_Nodes i o=r.symbol::r.args:=fun e=>(by unfold shp at e;injection e with _ e;have a:k<o.f_Args.length:=(by omega);have:=congrArg (fun x=>x[k]?) e;simp only [qv,qa hk,qa a,qa1,qc] at this;rw [qa hk,qa a] at d;exact d this);rw [ql this];rfl
    ·rw [hr,qb];have:shp s.f_Nodes i o=r.symbol::r.args:=by
      unfold shp;rw [kgh hn,f];congr 1;refine List.ext_getElem? fun k=>?_;by_cases hk:k<r.args.length;have a:k<o.f_Args.length:=(by omega);have:=d k hk;rw [qbe,qa hk,qa a] at this;simp only [qaf,ne_eq,Decidable.not_not] at this;rw [qv,qa hk,qa a,qa1,this]
      ·rw [qax (by rw [qat];omega),qax (by omega)]
     rw [qq this];rfl
   ·rw [show ((r.args.length:Int) != (o.f_Args.length:Int))=true by simp;omega,qd,ql];intro e;have:=congrArg List.length e;unfold shp at this;simp at this;omega
  ·rw [show (r.symbol != n.f_Symbol)=true by simp [f],qd,qb,qd,ql];intro e;unfold shp at e;injection e with e _;rw [kgh hn] at e;exact f e.symm
theorem k7p (p:km0 l) (f:kgd s) (hn:s.f_Nodes[i]?=some n) {k:Nat} (hk:k<n.f_Options.length):kfa l s n (k:Int)=if kgz l s.f_Nodes i n.f_Options[k]≠0 then some (.inr (.inr (kgz l s.f_Nodes i n.f_Options[k]))) else some (.inl ((k+1:Nat):Int)):=by
 have g:=qs hk;have b:=((f.node i n hn).opt _ g).rule;have c:=ky8 f hn g;have d:=kvf f hn g;have q:n.f_Options.length<=32768:=qap (kn9 hn) f.opts;simp only [kfa,kdf hk,qd,kaj,qa hk,qb,kbs hk (show n.f_Options.length<=9223372036854775807 by omega)];generalize n.f_Options[k]=o at g b c d;unfold kgz;by_cases h1:(l.rules.length:Int)<=o.f_Rule;rw [qk h1,qd,qax (by omega)];rfl
 ·have a:o.f_Rule.toNat<l.rules.length:=by omega
  rw [qi h1,qe,show idx l.rules o.f_Rule=some l.rules[o.f_Rule.toNat] by unfold idx;rw [qq b,qa a],qb,qa a];have j:=(p.good _ (qs a)).few;generalize l.rules[o.f_Rule.toNat]=r at j;simp only;rw [kv5 hn c (by omega),qb];have e:(shp s.f_Nodes i o).length<=9223372036854775807:=by unfold shp;simp;omega
  have key:(bif List.isEmpty r.args then Option.bind (ka2 (shp s.f_Nodes i o) ([r.symbol]:List Int)) fun v11=>some (!v11) else Option.bind (appN 8 ([r.symbol]:List Int) r.args) fun v9=>Option.bind (ka2 (shp s.f_Nodes i o) v9) fun v10=>some (!v10))=some (!decide (shp s.f_Nodes i o=r.symbol::r.args)):=by
   cases m:r.args with
   | nil=>simp only [List.isEmpty_nil,qd,krk _ _ e,qb]
   | cons x xs=>
    rw [m] at j;simp only [List.isEmpty_cons,qe,appN,qb];rw [kpz (by simp at j ⊢; omega),qb,krk _ _ e];rfl
  rw [key,qb];by_cases h:shp s.f_Nodes i o=r.symbol::r.args;rw [qq h,qk h];rfl
  ·rw [ql h,qi h];rfl
theorem k2e (b:km0 l) (a:kgd s) (hn:s.f_Nodes[i]?=some n) {k:Nat} (hk:k<n.f_Options.length):kcr l s n (k:Int)=if kgz l s.f_Nodes i n.f_Options[k]≠0 then some (.inr (.inr (kgz l s.f_Nodes i n.f_Options[k]))) else some (.inl ((k+1:Nat):Int)):=by
 have c:=qs hk;have d:n.f_Options.length<=32768:=qap (kn9 hn) a.opts;simp only [kcr,kdf hk,qd,kaj,qa hk,qb,kbs hk (show n.f_Options.length<=9223372036854775807 by omega)];rw [k47 b a hn c,qb];by_cases h:kgz l s.f_Nodes i n.f_Options[k]=0;rw [show (kgz l s.f_Nodes i n.f_Options[k] != 0)=false by simp [h],qe,ql (by simp [h])]
 ·rw [show (kgz l s.f_Nodes i n.f_Options[k] != 0)=true by simp [h],qd,qq h]
theorem kyf (b:km0 l) (a:kgd s) (hn:s.f_Nodes[i]?=some n):∃ r,kac (kfa l s n) fuel 0=some r/\kac (kcr l s n) fuel 0=some r:=by
 have c:n.f_Options.length<=32768:=qap (kn9 hn) a.opts;refine kh3 n.f_Options.length (by omega) (fun k=>(k:Int)) (fun k hk=>?_) (.inl ()) (by simp only [kfa,kcn,qe]) (by simp only [kcr,kcn,qe]);rw [k7p b a hn hk,k2e b a hn hk];by_cases h:kgz l s.f_Nodes i n.f_Options[k]≠0;rw [qq h];exact .inr ⟨_,rfl,rfl⟩
 ·rw [ql h];exact .inl ⟨rfl,rfl⟩
theorem kwl (b:km0 l) (a:kgd s):∃ r,kac (kf9 l s) fuel 0=some r/\kac (kdg l s) fuel 0=some r:=by
 have c:=a.nodes;refine kh3 s.f_Nodes.length (by omega) (fun k=>(k:Int)) (fun k hk=>?_) (.inl ()) (by simp only [kf9,kcn,qe]) (by simp only [kdg,kcn,qe]);have hn:=qa hk;obtain ⟨r,h1,d⟩:=kyf b a hn;simp only [kf9,kdg,kdf hk,qd,kaj,hn,qb,kbs hk (show s.f_Nodes.length<=9223372036854775807 by omega),h1,d];cases decide ((l.symbols.length:Int)<=s.f_Nodes[k].f_Symbol) with
 | true=>exact .inr ⟨_,rfl,rfl⟩
 | false=>
  cases r with
  | inl u=>exact .inl ⟨rfl,rfl⟩
  | inr e=>exact .inr ⟨_,rfl,rfl⟩
theorem kzu (hl:koo l) (g:kn4 s):∃ c,khf l s=some c/\kd3 l s=some c:=by
 obtain ⟨c,h1,h,i⟩:=k6x l hl;unfold khf kd3;rw [h1,h,qb,qb];by_cases hc:c=0
 ·subst hc;rw [show ((0:Int) != 0)=false from rfl,qe,qe];obtain ⟨b,j,a⟩:=k7d g;obtain ⟨b',f,d⟩:=k1t g;obtain rfl:b=b':=by rw [Bool.eq_iff_iff,a,d]
  rw [j,f,qb,qb];cases b with
  | false=>exact ⟨4,rfl,rfl⟩
  | true=>
   obtain ⟨r,e1,e2⟩:=kwl (i rfl) (a.1 rfl);rw [e1,e2];cases r with
   | inl u=>exact ⟨_,rfl,rfl⟩
   | inr e=>exact ⟨_,rfl,rfl⟩
 ·rw [show (c != 0)=true by simp [hc]];exact ⟨c,rfl,rfl⟩
theorem kz3 (a:SpW s):∃ b,keh s=some b:=by
 unfold keh;have key:∃ r,kac (kb8 s) fuel (0,0,0)=some r:=by
  have:Ev (kac (kb8 s) fuel (0,0,0)) fun _=>True:=by
   refine kfx (xs:=s.f_Nodes) (step:=kb8 s) (Q:=fun _=>True) (fun (i:Nat) (t:Int×Int)=>(t.1,t.2,(i:Int))) (fun _ _=>True) (t0:=(0,0)) (by have:=a.nodes;omega) trivial (fun i t hi _=>?_) (fun t _=>?_)
   ·have hn:=qa hi;have c:=a.opts _ (qs hi);have d:=a.nodes;simp only [kb8,kdf hi,qd,kaj,hn,qb,kbs hi (show s.f_Nodes.length<=9223372036854775807 by omega)];refine kgp (Ev.mono (kfx (xs:=s.f_Nodes[i].f_Options) (Q:=fun _=>True) (fun (k:Nat) (m:Int)=>(m,(k:Int))) (fun _ _=>True) (t0:=t.2) (by omega) trivial (fun k m hk _=>?_) (fun m _=>?_)) fun r _=>⟨_,rfl,(_,_),rfl,trivial⟩)
    ·simp only [ker,kdf hk,qd,kaj,hn,qa hk,qb,kbs hk (show s.f_Nodes[i].f_Options.length<=9223372036854775807 by omega)];cases decide (w64 (t.1+(s.f_Nodes[i].f_Options.length:Int))<=120) with
     | false=>exact ⟨_,rfl,trivial⟩
     | true=>
      simp only [qd,qb];cases decide (m<=500) with
      | false=>exact ⟨_,rfl,trivial⟩
      | true=>exact ⟨_,rfl,_,rfl,trivial⟩
    ·exact ⟨.inr m,by simp only [ker,kaj,hn,qb,kcn,qe],m,rfl,trivial⟩
   ·exact ⟨.inr (t.1,t.2),by simp only [kb8,kcn,qe],_,rfl,trivial⟩
  obtain ⟨r,hr,_⟩:=this;exact ⟨r,hr⟩
 obtain ⟨r,hr⟩:=key;cases decide ((40:Int)<(s.f_Nodes.length:Int)) with
 | true=>exact ⟨_,rfl⟩
 | false=>
  simp only [qe,qb];cases decide ((60:Int)<(s.f_Roots.length:Int)) with
  | true=>exact ⟨_,rfl⟩
  | false=>
   simp only [qe,hr,qb];cases decide (r.1<=120) <;> exact ⟨_,rfl⟩
theorem k1z (l:La):∃ b,ket l=some b:=by unfold ket;cases decide ((l.rules.length:Int)<=20) <;> exact ⟨_,rfl⟩
end
theorem kpw (l:La) (s:Spa) (hl:koo l) (hs:SpW s):kdo l s=some true:=by
 unfold kdo;obtain ⟨b,d⟩:=k1z l;obtain ⟨b',a⟩:=kz3 hs;obtain ⟨c,h1,e⟩:=kzu hl hs.wide;rw [d,qb,a,h1,e];cases b with
 | false=>rfl
 | true=>
  cases b' with
  | false=>rfl
  | true=>
   simp only [qa9,qe,qb,beq_self_eq_true,qd];rfl
open Go Go.RowKit Go.ChangeShapes Go.WideShapes Go.Proofs.Tryz
theorem k7r:laidOutB Tryz.checked.prog=true:=by as_aux_lemma=>kernel_rfl
theorem k4c:mapsRowed Tryz.checked.prog=true:=by as_aux_lemma=>kernel_rfl
theorem k41:Tryz.checked.prog.stopsHeard=true:=by as_aux_lemma=>kernel_rfl
theorem kxi:Tryz.checked.prog.mayEnter=true:=by as_aux_lemma=>kernel_rfl
theorem k7o:Tryz.checked.prog.make=some .cut:=by as_aux_lemma=>kernel_rfl
open Go Go.RowKit Go.ChangeShapes Go.WideShapes Go.ChangeAt Go.Proofs.Tryz
set_option maxRecDepth 100000 in
theorem kni (os:Os) (started:os.Started) (H:Type) (enc:TypeId×Value->H):
  ReturnsInHanded {} Tryz.checked os 3 .any (fun w args=>(Rows.spaceChecksSpec.pre enc prog Tryz.f3 Rows.spaceChecksRow.domain false w args/\laidMetH prog Rows.spaceChecksRow.laid w)/\sizedMet enc prog Tryz.f3 (OpenSpec.ofChange Rows.spaceChecksSpec) false w args) (Rows.spaceChecksSpec.post enc prog Tryz.f3 false true false false):=by
 refine knj (C:=Tryz.checked) (X:=fun w _=>laidMetH prog kwf w) (fun _ _ _ r h=>h.of_heap r) k1d started (by kernel_rfl) func3
  (ChangeSpec.witness_at (enc:=enc) (C:=Tryz.checked) (os:=os) (X:=fun w _=>laidMetH prog kwf w) false (krn os) #[.agg #[.string ⟨#[]⟩, .slice none 0 0, .slice none 0 0, .slice none 0 0], .agg #[.slice none 0 0, .slice none 0 0]] 8 rfl (by kernel_rfl) (by kernel_rfl) (by kernel_rfl) (by kernel_rfl) (by kernel_rfl) (ksl os _)) ?_
 intro W base args ds gs before b o B c;have a:∀ (j:Nat) t v,Tryz.f3.params[j]?=some t->args[j]?=some v->Value.okWide prog W .any base t v:=b;have g:=o;obtain ⟨p,q,l,s,rfl,u,y⟩:=o;have hA:DataW.TrodAll enc prog W 0 (fun _=>true) true Tryz.f3.params.toList args.toList ds p:=l;have d:=qo.1 c;rw [Tryz.params3] at hA a d;obtain ⟨v0,vs0,d0,ds0,p0,q0,m,rfl,rfl,h0,r0⟩:=trodAll_cons hA;obtain ⟨v1,vs1,d1,ds1,p1,q1,rfl,rfl,rfl,h1,r1⟩:=trodAll_cons r0;obtain ⟨rfl,rfl,rfl⟩:=trodAll_nil r1;obtain rfl:args=#[v0,v1]:=by cases args;simp_all
 obtain ⟨rfl,rfl⟩:=trodVars_none s;have n:=kra (fun k hk=>of_decide_eq_true (d k hk));obtain ⟨x0,e0,b0⟩:=in_La (a 0 26 v0 rfl rfl) h0;obtain ⟨x1,e1,b1⟩:=k7c (a 1 29 v1 rfl rfl) h1 (n 1 _ _ rfl rfl);refine (kzw (args:=[eLa x0,kcf x1]) (kio x0 x1 true (kpw x0 x1 b0 b1)) rfl ?_).mono fun e W' ⟨z,A⟩=>?_
 ·intro i v x hv f
  match i with
  | 0=>simp at hv f;subst hv f;exact e0
  | 1=>simp at hv f;subst hv f;exact e1
  | i+2=>simp at hv
 subst z;exact ⟨_,rfl,k2c k2j (by rw [Tryz.params3];intro t ht;simp at ht;rcases ht with rfl | rfl <;> exact ⟨by kernel_rfl,of_decide_eq_true (by kernel_rfl)⟩) rfl underlying4 rfl rfl g A⟩
set_option maxHeartbeats 4000000 in
theorem knk:joinedFacts Tryz.checked.prog 3 Tryz.f3 Rows.spaceChecksSpec Rows.spaceChecksRow=true:=by
 unfold joinedFacts;simp only [kxi,k4r,k7o,k7r,k4c,k41,qp,Bool.and_true]
 repeat' apply And.intro
 all_goals (as_aux_lemma=>kernel_rfl)
theorem kov:Rows.SpaceChecksSaid:=
 OpenClaim.holds_of_wide 3 Tryz.f3 rfl rfl rfl rfl rfl rfl rfl ⟨rfl,rfl,rfl,rfl,rfl⟩ rfl rfl rfl rfl rfl (by kernel_rfl) func3 knk
  (of_decide_eq_true (by kernel_rfl)) (by unfold Func.isWrapper;rw [ql (of_decide_eq_false (by kernel_rfl))];exact ⟨rfl,rfl⟩)
  (fun os started H enc _=>kni os started H enc)
theorem spaceChecks_card_holds:Rows.SpaceChecksCardSaid:=
 Claim7.holds_tied_plain_at .later [] [.data, .data, .data] true (true, "9b112f8c1b49446c8055dc5e2bf22bf3d1b52285d4be3f11a6733062987cedf8") true kov (fun _ h => by cases h) (by kernel_rfl) (fun _ h => by cases h) spaceChecks_row_tie rfl ⟨rfl, rfl⟩ (by kernel_rfl) rfl
  (fun f fn b a=>by
   obtain rfl : f = 3 := qab ((show prog.funcNamed "synthesis/synthesislaw25.SpaceChecks" = some 3 by kernel_rfl).symm.trans b) |>.symm;obtain rfl:fn=Tryz.f3:=(qab (func3.symm.trans a)).symm;exact ⟨by kernel_rfl,fun j t ht=>by
    rw [Tryz.params3] at ht
    match j with
    | 0=>obtain rfl:=qab ht;exact (show prog.wantsStandIn 26=false by kernel_rfl)
    | 1=>obtain rfl:=qab ht;exact (show prog.wantsStandIn 29=false by kernel_rfl)
    | j+2=>simp at ht⟩)
  (by kernel_rfl)
end Go.Proofs.YtpnnpkmjohkgiaaGreatDoor
