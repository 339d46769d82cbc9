import Derived.Test.YtnlhjbnpjefjgabGreatDoorTT
import Derived.Test.YtnlhjbnpjefjgabGreatDoorTT
import Derived.Test.YtnlhjbnpjefjgabGreatDoorTT
import Derived.Test.YtnlhjbnpjefjgabGreatDoorVE
set_option linter.unusedVariables false
namespace Go.Proofs.YtnlhjbnpjefjgabGreatDoor
open Go Go.RowKit Go.Proofs.Tryz
noncomputable def exF:FT:=(.nd 68 Tryz.f68 (.nd 38 Tryz.f38 (.nd 19 Tryz.f19 (.nd 12 Tryz.f12 (.nd 7 Tryz.f7 (.nd 5 Tryz.f5 (.nd 4 Tryz.f4 .lf .lf) (.nd 6 Tryz.f6 .lf .lf)) (.nd 10 Tryz.f10 (.nd 8 Tryz.f8 .lf .lf) (.nd 11 Tryz.f11 .lf .lf))) (.nd 16 Tryz.f16 (.nd 14 Tryz.f14 (.nd 13 Tryz.f13 .lf .lf) (.nd 15 Tryz.f15 .lf .lf)) (.nd 18 Tryz.f18 (.nd 17 Tryz.f17 .lf .lf) .lf))) (.nd 28 Tryz.f28 (.nd 23 Tryz.f23 (.nd 21 Tryz.f21 (.nd 20 Tryz.f20 .lf .lf) (.nd 22 Tryz.f22 .lf .lf)) (.nd 26 Tryz.f26 (.nd 24 Tryz.f24 .lf .lf) (.nd 27 Tryz.f27 .lf .lf))) (.nd 32 Tryz.f32 (.nd 30 Tryz.f30 (.nd 29 Tryz.f29 .lf .lf) (.nd 31 Tryz.f31 .lf .lf)) (.nd 34 Tryz.f34 (.nd 33 Tryz.f33 .lf .lf) .lf)))) (.nd 53 Tryz.f53 (.nd 46 Tryz.f46 (.nd 42 Tryz.f42 (.nd 40 Tryz.f40 (.nd 39 Tryz.f39 .lf .lf) (.nd 41 Tryz.f41 .lf .lf)) (.nd 44 Tryz.f44 (.nd 43 Tryz.f43 .lf .lf) (.nd 45 Tryz.f45 .lf .lf))) (.nd 50 Tryz.f50 (.nd 48 Tryz.f48 (.nd 47 Tryz.f47 .lf .lf) (.nd 49 Tryz.f49 .lf .lf)) (.nd 52 Tryz.f52 (.nd 51 Tryz.f51 .lf .lf) .lf))) (.nd 61 Tryz.f61 (.nd 57 Tryz.f57 (.nd 55 Tryz.f55 (.nd 54 Tryz.f54 .lf .lf) (.nd 56 Tryz.f56 .lf .lf)) (.nd 59 Tryz.f59 (.nd 58 Tryz.f58 .lf .lf) (.nd 60 Tryz.f60 .lf .lf))) (.nd 65 Tryz.f65 (.nd 63 Tryz.f63 (.nd 62 Tryz.f62 .lf .lf) (.nd 64 Tryz.f64 .lf .lf)) (.nd 67 Tryz.f67 (.nd 66 Tryz.f66 .lf .lf) .lf))))) (.nd 110 Tryz.f110 (.nd 93 Tryz.f93 (.nd 79 Tryz.f79 (.nd 75 Tryz.f75 (.nd 70 Tryz.f70 (.nd 69 Tryz.f69 .lf .lf) (.nd 71 Tryz.f71 .lf .lf)) (.nd 77 Tryz.f77 (.nd 76 Tryz.f76 .lf .lf) (.nd 78 Tryz.f78 .lf .lf))) (.nd 90 Tryz.f90 (.nd 81 Tryz.f81 (.nd 80 Tryz.f80 .lf .lf) (.nd 82 Tryz.f82 .lf .lf)) (.nd 92 Tryz.f92 (.nd 91 Tryz.f91 .lf .lf) .lf))) (.nd 102 Tryz.f102 (.nd 97 Tryz.f97 (.nd 95 Tryz.f95 (.nd 94 Tryz.f94 .lf .lf) (.nd 96 Tryz.f96 .lf .lf)) (.nd 99 Tryz.f99 (.nd 98 Tryz.f98 .lf .lf) (.nd 101 Tryz.f101 .lf .lf))) (.nd 107 Tryz.f107 (.nd 104 Tryz.f104 (.nd 103 Tryz.f103 .lf .lf) (.nd 106 Tryz.f106 .lf .lf)) (.nd 109 Tryz.f109 (.nd 108 Tryz.f108 .lf .lf) .lf)))) (.nd 158 Tryz.f158 (.nd 139 Tryz.f139 (.nd 122 Tryz.f122 (.nd 120 Tryz.f120 (.nd 111 Tryz.f111 .lf .lf) (.nd 121 Tryz.f121 .lf .lf)) (.nd 124 Tryz.f124 (.nd 123 Tryz.f123 .lf .lf) (.nd 138 Tryz.f138 .lf .lf))) (.nd 150 Tryz.f150 (.nd 141 Tryz.f141 (.nd 140 Tryz.f140 .lf .lf) (.nd 147 Tryz.f147 .lf .lf)) (.nd 157 Tryz.f157 (.nd 151 Tryz.f151 .lf .lf) .lf))) (.nd 192 Tryz.f192 (.nd 180 Tryz.f180 (.nd 160 Tryz.f160 (.nd 159 Tryz.f159 .lf .lf) (.nd 166 Tryz.f166 .lf .lf)) (.nd 191 Tryz.f191 (.nd 182 Tryz.f182 .lf .lf) .lf)) (.nd 205 Tryz.f205 (.nd 199 Tryz.f199 (.nd 198 Tryz.f198 .lf .lf) (.nd 200 Tryz.f200 .lf .lf)) (.nd 213 Tryz.f213 (.nd 210 Tryz.f210 .lf .lf) .lf))))))
def exZ:List (TypeId×Value):=[(2, .int .i64 0),(3, .int .i64 0),(4, .bool false),(97, .slice none 0 0)]
def exP:List Nat:=[4,7,14,15,16,17,18,19,21,26,34,38,43,45,47,48,49,52,54,55,56,57,58,61,62,63,66,71,75,82,90,96,97,98,99,103,104,106,108,120,121,123,138,139,140,147,151,158,159,160,198,199,200,205,210,213,5,12,11,44]
def exM:List Nat:=[10]
def exN:List Nat:=[11,12,44]
theorem kacd:exF.ok prog:=FT.ok_of (by kernel_rfl)
theorem kadb:ZOk prog exZ:=by
 intro p hp;simp only [exZ,qan,List.not_mem_nil,or_false] at hp;rcases hp with rfl | rfl | rfl | rfl;exact ⟨_,show prog.info? 2=some Tryz.t2 from by kernel_rfl,by kernel_rfl⟩;exact ⟨_,show prog.info? 3=some Tryz.t3 from by kernel_rfl,by kernel_rfl⟩;exact ⟨_,show prog.info? 4=some Tryz.t4 from by kernel_rfl,by kernel_rfl⟩
 ·exact ⟨_,show prog.info? 97=some Tryz.t97 from by kernel_rfl,by kernel_rfl⟩
def exI:List Nat:=[217]
theorem kabz:∀ f∈exI,IbOk prog f:=by intro f hf;simp only [exI,qan,List.not_mem_nil,or_false] at hf;subst hf;exact ⟨Tryz.f217,func217,by kernel_rfl,by kernel_rfl,by kernel_rfl,rfl⟩
noncomputable def exC (fx:List (Nat×List FV×FV)):Cx:={ T:=TT,Z:=exZ,fn:=exF,mu:=exM,pu:=exP,fx:=fx,ib:=exI,nf:=exN }
theorem k6z (fx:List (Nat×List FV×FV)) (h:∀ p∈fx,PCall prog p.1 p.2.1 p.2.2):CxOk prog (exC fx):=⟨kag,kadb,kacd,h,kabz,by kernel_rfl⟩
-- 4 synthesis/synthesislaw25.awake
-- 5 synthesis/synthesislaw25.sums
-- 6 synthesis/space.All
-- 7 synthesis/space.Empty
-- 8 synthesis/space.Terms
-- 10 synthesis/synthesislaw25.two
-- 11 synthesis/space.Of
-- 12 synthesis/synthesislaw25.double
-- 13 synthesis/space.Trim
-- 14 synthesis/space.Check
-- 15 synthesis/synthesisref13.Same
-- 16 synthesis/synthesisref13.Compare
-- 17 synthesis/space.Contains
-- 18 synthesis/synthesisref26.Equal
-- 19 synthesis/grammar.Check
-- 20 slices.Repeat[[]int,int]
-- 21 synthesis/counting.Count
-- 22 synthesis/grammar.Of
-- 23 (synthesis/space.grid).options
-- 24 slices.SortFunc[[]synthesis/api.Option,synthesis/api.Option]
-- 26 synthesis/space.formed
-- 27 synthesis/space.filled
-- 28 slices.ContainsFunc[[]int,int]
-- 29 synthesis/space.Empty$1
-- 30 synthesis/space.newPool
-- 31 (*synthesis/space.pool).expand
-- 32 (*synthesis/space.pool).term
-- 33 slices.SortFunc[[]synthesis/api.Term,synthesis/api.Term]
-- 34 synthesis/term.Compare
-- 38 synthesis/space.check
-- 39 (*synthesis/space.pool).add
-- 40 slices.Clone[[]int,int]
-- 41 slices.Sort[[]int,int]
-- 42 slices.Compact[[]int,int]
-- 43 synthesis/space.whole
-- 44 synthesis/space.renumbered
-- 45 slices.Equal[synthesis/space.shape,int]
-- 46 synthesis/space.shapeOf
-- 47 synthesis/synthesisref13.order
-- 48 synthesis/synthesisref13.Size
-- 49 synthesis/synthesisref13.CompareInts
-- 50 synthesis/synthesisref13.Rules
-- 51 synthesis/synthesisref13.arities
-- 52 synthesis/space.small
-- 53 synthesis/space.owners
-- 54 slices.Contains[[]int,int]
-- 55 synthesis/synthesisref26.compareOptions
-- 56 synthesis/grammar.named
-- 57 synthesis/grammar.typed
-- 58 synthesis/grammar.rule
-- 59 slices.ContainsFunc[[]synthesis/api.Rule,synthesis/api.Rule]
-- 60 synthesis/grammar.Check$1
-- 61 synthesis/grammar.sameRule
-- 62 math/bits.Mul
-- 63 synthesis/counting.check
-- 64 synthesis/counting.counted
-- 65 synthesis/counting.Count$1
-- 66 synthesis/counting.permitted
-- 67 synthesis/counting.open
-- 68 (*synthesis/counting.counter).terms
-- 69 (synthesis/space.grid).options$1
-- 70 slices.pdqsortCmpFunc[synthesis/api.Option]
-- 71 math/bits.Len
-- 75 synthesis/space.ascending
-- 76 slices.ContainsFunc[[]synthesis/api.Option,synthesis/api.Option]
-- 77 synthesis/space.filled$1
-- 78 slices.IndexFunc[[]int,int]
-- 79 (*synthesis/space.pool).expand$1
-- 80 (*synthesis/space.pool).put
-- 81 slices.pdqsortCmpFunc[synthesis/api.Term]
-- 82 synthesis/term.Size
-- 90 synthesis/term.Check
-- 91 slices.pdqsortOrdered[int]
-- 92 synthesis/space.small$1
-- 93 slices.ContainsFunc[[]synthesis/api.Term,synthesis/api.Term]
-- 94 synthesis/space.small$1$1
-- 95 synthesis/space.owners$1
-- 96 synthesis/space.belongs
-- 97 slices.Index[[]int,int]
-- 98 synthesis/grammar.symbol
-- 99 synthesis/grammar.same
-- 101 synthesis/operator.Find
-- 102 slices.IndexFunc[[]synthesis/api.Rule,synthesis/api.Rule]
-- 103 slices.Equal[[]int,int]
-- 104 synthesis/value.Equal
-- 106 math/bits.Mul64
-- 107 synthesis/counting.counted$1
-- 108 synthesis/counting.plus
-- 109 (*synthesis/counting.counter).lists
-- 110 synthesis/counting.args
-- 111 slices.insertionSortCmpFunc[synthesis/api.Option]
-- 120 math/bits.Len64
-- 121 cmp.isNaN[int]
-- 122 slices.IndexFunc[[]synthesis/api.Option,synthesis/api.Option]
-- 123 synthesis/space.key
-- 124 slices.insertionSortCmpFunc[synthesis/api.Term]
-- 138 synthesis/term.within
-- 139 synthesis/term.shallow
-- 140 synthesis/term.derived
-- 141 slices.insertionSortOrdered[int]
-- 147 cmp.Less[int]
-- 150 slices.IndexFunc[[]synthesis/api.Term,synthesis/api.Term]
-- 151 slices.BinarySearch[[]int,int]
-- 157 synthesis/operator.find
-- 158 synthesis/value.Compare
-- 159 synthesis/counting.key
-- 160 synthesis/counting.times
-- 166 strconv.AppendInt
-- 180 synthesis/operator.catalog
-- 182 internal/strconv.AppendInt
-- 191 synthesis/operator.family
-- 192 internal/strconv.AppendUint
-- 198 strings.Cut
-- 199 synthesis/operator.typeOf
-- 200 internal/strconv.small
-- 205 internal/stringslite.Cut
-- 210 internal/stringslite.Index
-- 213 internal/stringslite.IndexByte
-- 217 internal/bytealg.IndexByteString
-- NF synthesis/space.Of
-- NF synthesis/synthesislaw25.double
-- NF synthesis/space.renumbered
-- ODD ('synthesis/synthesisref26.Equal',6,'alloc','alloc')
-- PU synthesis/synthesislaw25.awake
-- PU synthesis/space.Empty
-- PU synthesis/space.Check
-- PU synthesis/synthesisref13.Same
-- PU synthesis/synthesisref13.Compare
-- PU synthesis/space.Contains
-- PU synthesis/synthesisref26.Equal
-- PU synthesis/grammar.Check
-- PU synthesis/counting.Count
-- PU synthesis/space.formed
-- PU synthesis/term.Compare
-- PU synthesis/space.check
-- PU synthesis/space.whole
-- PU slices.Equal[synthesis/space.shape,int]
-- PU synthesis/synthesisref13.order
-- PU synthesis/synthesisref13.Size
-- PU synthesis/synthesisref13.CompareInts
-- PU synthesis/space.small
-- PU slices.Contains[[]int,int]
-- PU synthesis/synthesisref26.compareOptions
-- PU synthesis/grammar.named
-- PU synthesis/grammar.typed
-- PU synthesis/grammar.rule
-- PU synthesis/grammar.sameRule
-- PU math/bits.Mul
-- PU synthesis/counting.check
-- PU synthesis/counting.permitted
-- PU math/bits.Len
-- PU synthesis/space.ascending
-- PU synthesis/term.Size
-- PU synthesis/term.Check
-- PU synthesis/space.belongs
-- PU slices.Index[[]int,int]
-- PU synthesis/grammar.symbol
-- PU synthesis/grammar.same
-- PU slices.Equal[[]int,int]
-- PU synthesis/value.Equal
-- PU math/bits.Mul64
-- PU synthesis/counting.plus
-- PU math/bits.Len64
-- PU cmp.isNaN[int]
-- PU synthesis/space.key
-- PU synthesis/term.within
-- PU synthesis/term.shallow
-- PU synthesis/term.derived
-- PU cmp.Less[int]
-- PU slices.BinarySearch[[]int,int]
-- PU synthesis/value.Compare
-- PU synthesis/counting.key
-- PU synthesis/counting.times
-- PU strings.Cut
-- PU synthesis/operator.typeOf
-- PU internal/strconv.small
-- PU internal/stringslite.Cut
-- PU internal/stringslite.Index
-- PU internal/stringslite.IndexByte
-- PU synthesis/synthesislaw25.sums
-- PU synthesis/synthesislaw25.double
-- PU synthesis/space.Of
-- PU synthesis/space.renumbered
set_option linter.all false
section
variable {P:Program} {w:World} {t:TypeId} {st:St} {o:Oper} {a:Act}
theorem kaam {ops:Array Oper} {l:List Oper} (c c':AV) {Q:Exit->St->Prop} (h:∀ (ψ:Env) (S:Nat->Prop) (a:Act) (w:World),(∀ t,RV ψ (·∈st.ids) S w (a.tmps.getD t undef) (st.get t)) ->
   kbx P o a w (fun v w'=>Grow w w'/\RV ψ (·∈st.ids) (fun b=>S b\/w.heap.size<=b) w' v c)\/kbx P o a w (fun v w'=>Grow w w'/\RV ψ (·∈st.ids) (fun b=>S b\/w.heap.size<=b) w' v c')) (d:ka0 ops st o=some true) (i:∀ t,o.dst=some t->t<st.n) (hn:awpL P ops l (st.put o.dst c) Q) (g:awpL P ops l (st.put o.dst c') Q):awpL P ops (o::l) st Q:=fun F S0 N0 ψ S a w hs=>by
 unfold wpList;rw [kcj hs d];rcases h ψ S a w hs.tmps with hr | hr;refine .inl (kbq ?_ hr);rintro v w' ⟨d,hv⟩;exact ka6 (fun e a' w'' k=>k.pre (Fr.of_grow hs.core.fr d)) _ _ _ (hn F S0 N0 ψ _ _ w' (hs.put (st':=st) rfl rfl rfl (hs.core.grow d) hv.bound Ext.refl (fun _ h=>h) (fun b f=>⟨.inl f,qba (hs.core.lt b f) d.size⟩) (Same.of_grow d) i))
 ·refine .inl (kbq ?_ hr);rintro v w' ⟨d,hv⟩;exact ka6 (fun e a' w'' k=>k.pre (Fr.of_grow hs.core.fr d)) _ _ _ (g F S0 N0 ψ _ _ w' (hs.put (st':=st) rfl rfl rfl (hs.core.grow d) hv.bound Ext.refl (fun _ h=>h) (fun b f=>⟨.inl f,qba (hs.core.lt b f) d.size⟩) (Same.of_grow d) i))
theorem nslb {Q:Exit->St->Prop} [Tab P] {g:Cfg} (k:Nat) {α:Type} (x y:Operand) (yt te:TypeId) (size:Nat) (enc:α->FV) (xs:List α) (neg:Bool) (n:List.isEmpty xs=true) (ho:(kiv (crun P k g)).op = .binOp (if neg then .neq else .eql) t x y yt) (ht:P.underlying t=some (.slice te)) (p:(stOf (crun P k g)).eval x = .fz (eL size enc xs)) (hy:(stOf (crun P k g)).eval y = .fz (.atom (.slice none 0 0))) (hv:okP (crun P k g)=true) (h1:W P (rsmA (.fz (.atom (.bool true))) (stOf (crun P k g)).heap (stOf (crun P k g)).ids (crun P k g)) Q) (j:W P (rsmA (.fz (.atom (.bool false))) (stOf (crun P k g)).heap (stOf (crun P k g)).ids (crun P k g)) Q):W P g Q:=by
 refine ka1 k ?_;generalize crun P k g=g' at *
 obtain ⟨foc,ks,st⟩:=g';unfold okP at hv;simp only at hv;split at hv
 ·rename_i os o l;split at hv
  ·rename_i q r;have k1:awpL P os l (st.put o.dst (.fz (.atom (.bool true)))) (kdp P ks Q):=(by unfold W at h1;exact h1);have k2:awpL P os l (st.put o.dst (.fz (.atom (.bool false)))) (kdp P ks Q):=(by unfold W at j;exact j);unfold W;refine kaam (.fz (.atom (.bool true))) (.fz (.atom (.bool false))) (fun ψ S a w e=>?_) q (kjl r) k1 k2;have q1:=Sim.eval_tmps e x;rw [show st.eval x=_ from p] at q1;have q2:=Sim.eval_tmps e y;rw [show st.eval y=_ from hy] at q2;have q2:=q2.atom;have q1:=q1.inv;obtain rfl:xs=[]:=List.isEmpty_iff.1 n;obtain ⟨A,cap,css,f,hn,s,u,hs,ha,z,hr⟩:=q1.lst_inv;have h:∀ b:Bool,kbx P o a w (fun v w'=>Grow w w'/\RV ψ (·∈st.ids) (fun b=>S b\/w.heap.size<=b) w' v (.fz (.atom (.bool b))))->kbx P o a w (fun v w'=>Grow w w'/\RV ψ (·∈st.ids) (fun b=>S b\/w.heap.size<=b) w' v (.fz (.atom (.bool true))))\/kbx P o a w (fun v w'=>Grow w w'/\RV ψ (·∈st.ids) (fun b=>S b\/w.heap.size<=b) w' v (.fz (.atom (.bool false)))):=fun b m=>by
    cases b;exact .inr m
    ·exact .inl m
   have i:∃ b:Bool,∀ d:Nat,(Op.equalIn (d+1) t (.slice A 0 cap) (.slice none 0 0)).run P w = .ok b w:=(by cases A <;> simp [Op.equalIn,run_underlying ht]);obtain ⟨b,i⟩:=i;obtain ⟨p1,p2⟩:=ky0 (P:=P) (w:=w) i;refine h (if neg then !b else b) (kad w (.bool (if neg then !b else b)) ?_ ⟨kaf _, .fz (.atom rfl)⟩);cases neg;simp [execOp,show o.op=_ from ho,f,q2,knu,p1]
   ·simp [execOp,show o.op=_ from ho,f,q2,knu,p2]
  ·cases hv
 ·cases hv
theorem k1b (e:TypeId) (x:Operand) (idt g id:Nat) (ov:Value) (eo ei:TypeId) (rows:List (List Value)) (ho:o.op = .box e x:=by kernel_rfl) (k:kaa st.heap idt=some (.tab g ov eo ei rows):=by kernel_rfl) (m:st.eval x = .fz (.atom ov):=by kernel_rfl) (d:st.ids.contains id=false:=by kernel_rfl):
  StepA P o st (.ref id 0 0) ((id, .box e [.fz (.atom ov)])::st.heap) (id::st.ids):=by
 have d:id∉st.ids:=by simpa using d
 intro F S0 N0 ψ S a w f;have c:=f.core;have l:ov.oneCell'=true:=by obtain ⟨_,⟨_,vs,_,_,j,_⟩,_⟩:=c.obj idt _ k;rcases j.2 with ⟨rfl,_⟩ | ⟨g,cap,cur,rfl,_⟩ <;> rfl
 have hs:∀ y∈(st.eval x).cells,y.single=true:=by rw [m];intro y hy;simp [AV.cells,FV.cells] at hy;subst hy;exact l
 obtain ⟨e1,e2,e3⟩:=RV.cells (f.eval x) hs;have hc:(st.eval x).cells=[.fz (.atom ov)]:=by rw [m];rfl
 rw [hc] at e1 e2 hs;refine kad (w.alloc (.cells (a.eval x).cells e)) (.pointer (some ⟨w.heap.size,0,none⟩)) ?_ ⟨ψ.set id 0 (.pointer (some ⟨w.heap.size,0,none⟩)),S,?_,?_,kes _ c.fr,kay d _ _,fun _ h=>qe _ h,fun _ h=>h,Same.of_grow (kap _ _)⟩;simp [execOp,ho,Instr.box,newVar,newRow];refine c.add (kap _ _) d (fun b n=>by simp [kak] at n;omega) ⟨ka2 _ _,w.heap.size,_,kaj _ _,heap_alloc_new w _,e1,hs,fun i v y hv hy=>?_⟩;exact (e2 i v y hv hy).keep (kay d _ _) (fun _ h=>qe _ h) (fun _ h=>h) (Same.of_grow (kap _ _))
 ·exact .ref (qn ..) (qas _) rfl fun _=>⟨w.heap.size,by rw [kaj];rfl,rfl⟩
end
section
variable {P:Program} [t:Tab P] {Q:Exit->St->Prop} {g:Cfg}
def kzm (ks ids:List Nat) (st:St):St:=⟨st.n,ks.map fun t=>(t,look .any st.tmps t),ids.filterMap fun i=>(kaa st.heap i).map fun o=>(i,o),ids,st.dfr⟩
theorem wrl (k:Nat) (ks ids:List Nat) (i q m n:Nat) (a:W P (kpr (crun P k g) (kzo i n (kzm ks ids (stOf (crun P k g))))) Q) (hmn:m=n:=by simp) (hl:coA (stOf (crun P k g)) (kzm ks ids (stOf (crun P k g)))=some (kzm ks ids (stOf (crun P k g))):=by kernel_rfl)
  (hr:kxt i (kzm ks ids (stOf (crun P k g)))=List.replicate q m:=by kernel_rfl) (hc:kta (crun P k g)=true:=by kernel_rfl):W P g Q:=wle k ((le_a hl).trans (k7p i hr hmn)) a (hc:=hc)
end
set_option maxRecDepth 100000
def adF:List FV:=[.atom (.string ⟨#[97,100,100]⟩)]
def adR:FV := .tup [.agg [.atom (.string ⟨#[97,100,100]⟩), .lst 1 2 [.atom (.int .i64 2), .atom (.int .i64 2)], .atom (.int .i64 2)], .atom (.bool true)]
theorem k7t:PCall prog 101 adF adR:=k3a (k6z [] (fun p h=>by cases h)) 10000
def twA:FV := .agg [.lst 3 2 [.agg [.atom (.int .i64 0), .atom (.int .i64 1), .lst 2 1 [.agg [.atom (.int .i64 0), .atom (.slice none 0 0)]]], .agg [.atom (.int .i64 0), .atom (.int .i64 3), .lst 2 1 [.agg [.atom (.int .i64 1), .lst 1 2 [.atom (.int .i64 0), .atom (.int .i64 0)]]]]], .lst 1 2 [.atom (.int .i64 0), .atom (.int .i64 1)]]
def twB:FV := .agg [.lst 3 2 [.agg [.atom (.int .i64 0), .atom (.int .i64 1), .lst 2 1 [.agg [.atom (.int .i64 0), .atom (.slice none 0 0)]]], .agg [.atom (.int .i64 0), .atom (.int .i64 3), .lst 2 1 [.agg [.atom (.int .i64 1), .lst 1 2 [.atom (.int .i64 0), .atom (.int .i64 0)]]]]], .lst 1 2 [.atom (.int .i64 0), .atom (.int .i64 1)]]
def twS:Sad:=Sad.mk [Saa.mk 0 1 [Sac.mk 0 []],Saa.mk 0 3 [Sac.mk 1 [0,0]]] [0,1]
theorem kacu:PCall prog 18 [twA,twB] (.atom (.bool true)):=PCall.le (ko7 twS twS true (by kernel_rfl)) (by kernel_rfl)
def fx0:List (Nat×List FV×FV):=[(101,adF,adR),(18,[twA,twB], .atom (.bool true))]
theorem kact:∀ p∈fx0,PCall prog p.1 p.2.1 p.2.2:=fun p hp=>by
 rcases qan.1 hp with rfl | hp;exact k7t
 ·obtain rfl:=qaa.1 hp;exact kacu
theorem k59:PCall prog 4 [] (.atom (.bool true)):=k3a (k6z fx0 kact) 2000
def kcp:Option Bool:=some true
theorem kfm (r:Bool) (h:kcp=some r):PCall prog 4 [] (eB r):=by cases h;exact k59
open Go Go.RowKit Go.Proofs Go.Proofs.Tryz
set_option maxHeartbeats 2000000
attribute [local irreducible] NStep StepA kin LeSt
def kcq (a0:List Int):Option (List Int):=Option.bind (app 8 ([]:List Int) a0) fun v2=>some v2
theorem ki9 (a0 r:List Int) (h:kcq a0=some r):PCall prog 40 [(eL 1 eI) a0] ((eL 1 eI) (r)):=by
 unfold kcq at h;cases b:List.isEmpty a0 with
 | false=>
  have a:nonE a0=some ():=by unfold nonE;rw [b];rfl
  refine pcl [.one (.sl 1)] func40 ?_;refine nst 8 (k7j (t:=23) (.tmp 3) (.const (.slice none 0 0)) 23 3 1 eI a0 false a) ?_;refine sst 5 (kow 23 tt23 1 eI 0 #[] 3 tt3 ([]:List (Int))) ?_;refine ap nI 1 h fun v2 h=>?_;refine wle 2 (kgt 2 1 v2.length 3 1 (List.map eI v2)) ?_;cases h;exact lq 1
 | true=>
  obtain rfl:a0=[]:=List.isEmpty_iff.1 b;refine pcl [.one (.sl 1)] func40 ?_;refine nslb (t:=23) 8 (.tmp 3) (.const (.slice none 0 0)) 23 3 1 eI ([]:List Int) false rfl (by kernel_rfl) (by kernel_rfl) (by kernel_rfl) (by kernel_rfl) (by kernel_rfl) ?_ ?_;have e:(Option.bind (app 8 ([]:List Int) []) fun v2=>some v2)=some ([]:List Int):=by kernel_rfl
  rw [e] at h;cases h;exact lq 7;refine sst 5 (kow 23 tt23 1 eI 0 #[] 3 tt3 ([]:List (Int))) ?_;refine ap nI 1 h fun v2 h=>?_;refine wle 2 (kgt 2 1 v2.length 3 1 (List.map eI v2)) ?_;cases h;exact lq 1
end Go.Proofs.YtnlhjbnpjefjgabGreatDoor
