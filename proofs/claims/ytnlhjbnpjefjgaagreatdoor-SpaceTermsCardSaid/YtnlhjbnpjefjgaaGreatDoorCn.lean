import Derived.Test.YtnlhjbnpjefjgaaGreatDoorGl
import Derived.Test.YtnlhjbnpjefjgaaGreatDoorKz
import Derived.Test.YtnlhjbnpjefjgaaGreatDoorKz
import Derived.Test.YtnlhjbnpjefjgaaGreatDoorVE
set_option linter.unusedVariables false
namespace Go.Proofs.YtnlhjbnpjefjgaaGreatDoor
open Go Go.RowKit Go.Proofs.Tryz
noncomputable def exF:FT:=(.nd 85 Tryz.f85 (.nd 44 Tryz.f44 (.nd 25 Tryz.f25 (.nd 17 Tryz.f17 (.nd 12 Tryz.f12 (.nd 8 Tryz.f8 (.nd 6 Tryz.f6 .lf .lf) (.nd 11 Tryz.f11 .lf .lf)) (.nd 15 Tryz.f15 (.nd 13 Tryz.f13 .lf .lf) (.nd 16 Tryz.f16 .lf .lf))) (.nd 21 Tryz.f21 (.nd 19 Tryz.f19 (.nd 18 Tryz.f18 .lf .lf) (.nd 20 Tryz.f20 .lf .lf)) (.nd 23 Tryz.f23 (.nd 22 Tryz.f22 .lf .lf) .lf))) (.nd 37 Tryz.f37 (.nd 29 Tryz.f29 (.nd 27 Tryz.f27 (.nd 26 Tryz.f26 .lf .lf) (.nd 28 Tryz.f28 .lf .lf)) (.nd 35 Tryz.f35 (.nd 34 Tryz.f34 .lf .lf) (.nd 36 Tryz.f36 .lf .lf))) (.nd 41 Tryz.f41 (.nd 39 Tryz.f39 (.nd 38 Tryz.f38 .lf .lf) (.nd 40 Tryz.f40 .lf .lf)) (.nd 43 Tryz.f43 (.nd 42 Tryz.f42 .lf .lf) .lf)))) (.nd 60 Tryz.f60 (.nd 53 Tryz.f53 (.nd 48 Tryz.f48 (.nd 46 Tryz.f46 (.nd 45 Tryz.f45 .lf .lf) (.nd 47 Tryz.f47 .lf .lf)) (.nd 51 Tryz.f51 (.nd 50 Tryz.f50 .lf .lf) (.nd 52 Tryz.f52 .lf .lf))) (.nd 57 Tryz.f57 (.nd 55 Tryz.f55 (.nd 54 Tryz.f54 .lf .lf) (.nd 56 Tryz.f56 .lf .lf)) (.nd 59 Tryz.f59 (.nd 58 Tryz.f58 .lf .lf) .lf))) (.nd 78 Tryz.f78 (.nd 68 Tryz.f68 (.nd 62 Tryz.f62 (.nd 61 Tryz.f61 .lf .lf) (.nd 67 Tryz.f67 .lf .lf)) (.nd 70 Tryz.f70 (.nd 69 Tryz.f69 .lf .lf) (.nd 71 Tryz.f71 .lf .lf))) (.nd 82 Tryz.f82 (.nd 80 Tryz.f80 (.nd 79 Tryz.f79 .lf .lf) (.nd 81 Tryz.f81 .lf .lf)) (.nd 84 Tryz.f84 (.nd 83 Tryz.f83 .lf .lf) .lf))))) (.nd 129 Tryz.f129 (.nd 100 Tryz.f100 (.nd 93 Tryz.f93 (.nd 89 Tryz.f89 (.nd 87 Tryz.f87 (.nd 86 Tryz.f86 .lf .lf) (.nd 88 Tryz.f88 .lf .lf)) (.nd 91 Tryz.f91 (.nd 90 Tryz.f90 .lf .lf) (.nd 92 Tryz.f92 .lf .lf))) (.nd 97 Tryz.f97 (.nd 95 Tryz.f95 (.nd 94 Tryz.f94 .lf .lf) (.nd 96 Tryz.f96 .lf .lf)) (.nd 99 Tryz.f99 (.nd 98 Tryz.f98 .lf .lf) .lf))) (.nd 121 Tryz.f121 (.nd 107 Tryz.f107 (.nd 105 Tryz.f105 (.nd 104 Tryz.f104 .lf .lf) (.nd 106 Tryz.f106 .lf .lf)) (.nd 110 Tryz.f110 (.nd 109 Tryz.f109 .lf .lf) (.nd 119 Tryz.f119 .lf .lf))) (.nd 125 Tryz.f125 (.nd 123 Tryz.f123 (.nd 122 Tryz.f122 .lf .lf) (.nd 124 Tryz.f124 .lf .lf)) (.nd 128 Tryz.f128 (.nd 127 Tryz.f127 .lf .lf) .lf)))) (.nd 170 Tryz.f170 (.nd 145 Tryz.f145 (.nd 134 Tryz.f134 (.nd 132 Tryz.f132 (.nd 130 Tryz.f130 .lf .lf) (.nd 133 Tryz.f133 .lf .lf)) (.nd 136 Tryz.f136 (.nd 135 Tryz.f135 .lf .lf) (.nd 137 Tryz.f137 .lf .lf))) (.nd 149 Tryz.f149 (.nd 147 Tryz.f147 (.nd 146 Tryz.f146 .lf .lf) (.nd 148 Tryz.f148 .lf .lf)) (.nd 158 Tryz.f158 (.nd 155 Tryz.f155 .lf .lf) .lf))) (.nd 187 Tryz.f187 (.nd 180 Tryz.f180 (.nd 172 Tryz.f172 (.nd 171 Tryz.f171 .lf .lf) (.nd 173 Tryz.f173 .lf .lf)) (.nd 186 Tryz.f186 (.nd 183 Tryz.f183 .lf .lf) .lf)) (.nd 198 Tryz.f198 (.nd 192 Tryz.f192 (.nd 188 Tryz.f188 .lf .lf) (.nd 193 Tryz.f193 .lf .lf)) (.nd 202 Tryz.f202 (.nd 201 Tryz.f201 .lf .lf) .lf))))))
def exZ:List (TypeId×Value):=[(2, .int .i64 0),(3, .int .i64 0),(4, .bool false),(103, .slice none 0 0)]
def exP:List Nat:=[6,11,12,13,21,22,23,29,34,35,37,38,39,40,43,45,50,56,58,62,70,71,78,84,85,86,87,88,91,92,93,96,104,109,119,123,124,125,129,130,132,134,145,146,147,148,155,171,172,173,188,192,193,198,201,202,15,19,18,57]
def exM:List Nat:=[16]
def exN:List Nat:=[18,19,57]
theorem kaai:exF.ok prog:=FT.ok_of (by kernel_rfl)
theorem kabs:ZOk prog exZ:=by
 intro p hp;simp only [exZ,qat,List.not_mem_nil,or_false] at hp;rcases hp with rfl | rfl | rfl | rfl;exact ⟨_,show prog.info? 2=some Tryz.t2 from by kernel_rfl,by kernel_rfl⟩;exact ⟨_,show prog.info? 3=some Tryz.t3 from by kernel_rfl,by kernel_rfl⟩;exact ⟨_,show prog.info? 4=some Tryz.t4 from by kernel_rfl,by kernel_rfl⟩
 ·exact ⟨_,show prog.info? 103=some Tryz.t103 from by kernel_rfl,by kernel_rfl⟩
def exI:List Nat:=[206]
theorem k94:∀ f∈exI,IbOk prog f:=by intro f hf;simp only [exI,qat,List.not_mem_nil,or_false] at hf;subst hf;exact ⟨Tryz.f206,func206,by kernel_rfl,by kernel_rfl,by kernel_rfl,rfl⟩
noncomputable def exC (fx:List (Nat×List FV×FV)):Cx:={ T:=TT,Z:=exZ,fn:=exF,mu:=exM,pu:=exP,fx:=fx,ib:=exI,nf:=exN }
theorem k4b (fx:List (Nat×List FV×FV)) (h:∀ p∈fx,PCall prog p.1 p.2.1 p.2.2):CxOk prog (exC fx):=⟨kaj,kabs,kaai,h,k94,by kernel_rfl⟩
-- 6 synthesis/synthesislaw25.awake
-- 8 synthesis/space.Terms
-- 11 synthesis/synthesisref13.Same
-- 12 synthesis/space.Contains
-- 13 synthesis/synthesisref13.Compare
-- 15 synthesis/synthesislaw25.sums
-- 16 synthesis/synthesislaw25.two
-- 17 synthesis/space.All
-- 18 synthesis/space.Of
-- 19 synthesis/synthesislaw25.double
-- 20 synthesis/space.Trim
-- 21 synthesis/space.Check
-- 22 synthesis/space.Empty
-- 23 synthesis/synthesisref26.Equal
-- 25 synthesis/space.newPool
-- 26 (*synthesis/space.pool).expand
-- 27 (*synthesis/space.pool).term
-- 28 slices.SortFunc[[]synthesis/api.Term,synthesis/api.Term]
-- 29 synthesis/term.Compare
-- 34 synthesis/space.formed
-- 35 synthesis/space.small
-- 36 synthesis/space.owners
-- 37 slices.Contains[[]int,int]
-- 38 synthesis/synthesisref13.order
-- 39 synthesis/synthesisref13.Size
-- 40 synthesis/synthesisref13.CompareInts
-- 41 synthesis/synthesisref13.Rules
-- 42 synthesis/synthesisref13.arities
-- 43 synthesis/grammar.Check
-- 44 slices.Repeat[[]int,int]
-- 45 synthesis/counting.Count
-- 46 synthesis/grammar.Of
-- 47 (synthesis/space.grid).options
-- 48 slices.SortFunc[[]synthesis/api.Option,synthesis/api.Option]
-- 50 synthesis/space.check
-- 51 (*synthesis/space.pool).add
-- 52 slices.Clone[[]int,int]
-- 53 slices.Sort[[]int,int]
-- 54 slices.Compact[[]int,int]
-- 55 synthesis/space.filled
-- 56 synthesis/space.whole
-- 57 synthesis/space.renumbered
-- 58 slices.Equal[synthesis/space.shape,int]
-- 59 synthesis/space.shapeOf
-- 60 slices.ContainsFunc[[]int,int]
-- 61 synthesis/space.Empty$1
-- 62 synthesis/synthesisref26.compareOptions
-- 67 (*synthesis/space.pool).expand$1
-- 68 (*synthesis/space.pool).put
-- 69 slices.pdqsortCmpFunc[synthesis/api.Term]
-- 70 math/bits.Len
-- 71 synthesis/term.Size
-- 78 synthesis/space.ascending
-- 79 synthesis/space.small$1
-- 80 slices.ContainsFunc[[]synthesis/api.Term,synthesis/api.Term]
-- 81 synthesis/space.small$1$1
-- 82 slices.ContainsFunc[[]synthesis/api.Option,synthesis/api.Option]
-- 83 synthesis/space.owners$1
-- 84 synthesis/space.belongs
-- 85 slices.Index[[]int,int]
-- 86 synthesis/grammar.named
-- 87 synthesis/grammar.typed
-- 88 synthesis/grammar.rule
-- 89 slices.ContainsFunc[[]synthesis/api.Rule,synthesis/api.Rule]
-- 90 synthesis/grammar.Check$1
-- 91 synthesis/grammar.sameRule
-- 92 math/bits.Mul
-- 93 synthesis/counting.check
-- 94 synthesis/counting.counted
-- 95 synthesis/counting.Count$1
-- 96 synthesis/counting.permitted
-- 97 synthesis/counting.open
-- 98 (*synthesis/counting.counter).terms
-- 99 (synthesis/space.grid).options$1
-- 100 slices.pdqsortCmpFunc[synthesis/api.Option]
-- 104 synthesis/term.Check
-- 105 slices.pdqsortOrdered[int]
-- 106 synthesis/space.filled$1
-- 107 slices.IndexFunc[[]int,int]
-- 109 synthesis/space.key
-- 110 slices.insertionSortCmpFunc[synthesis/api.Term]
-- 119 math/bits.Len64
-- 121 slices.IndexFunc[[]synthesis/api.Term,synthesis/api.Term]
-- 122 slices.IndexFunc[[]synthesis/api.Option,synthesis/api.Option]
-- 123 slices.BinarySearch[[]int,int]
-- 124 synthesis/grammar.symbol
-- 125 synthesis/grammar.same
-- 127 synthesis/operator.Find
-- 128 slices.IndexFunc[[]synthesis/api.Rule,synthesis/api.Rule]
-- 129 slices.Equal[[]int,int]
-- 130 synthesis/value.Equal
-- 132 math/bits.Mul64
-- 133 synthesis/counting.counted$1
-- 134 synthesis/counting.plus
-- 135 (*synthesis/counting.counter).lists
-- 136 synthesis/counting.args
-- 137 slices.insertionSortCmpFunc[synthesis/api.Option]
-- 145 cmp.isNaN[int]
-- 146 synthesis/term.within
-- 147 synthesis/term.shallow
-- 148 synthesis/term.derived
-- 149 slices.insertionSortOrdered[int]
-- 155 cmp.Less[int]
-- 158 strconv.AppendInt
-- 170 synthesis/operator.find
-- 171 synthesis/value.Compare
-- 172 synthesis/counting.key
-- 173 synthesis/counting.times
-- 180 internal/strconv.AppendInt
-- 183 synthesis/operator.catalog
-- 186 internal/strconv.AppendUint
-- 187 synthesis/operator.family
-- 188 internal/strconv.small
-- 192 strings.Cut
-- 193 synthesis/operator.typeOf
-- 198 internal/stringslite.Cut
-- 201 internal/stringslite.Index
-- 202 internal/stringslite.IndexByte
-- 206 internal/bytealg.IndexByteString
-- NF synthesis/space.Of
-- NF synthesis/synthesislaw25.double
-- NF synthesis/space.renumbered
-- ODD ('synthesis/synthesisref26.Equal',6,'alloc','alloc')
-- PU synthesis/synthesislaw25.awake
-- PU synthesis/synthesisref13.Same
-- PU synthesis/space.Contains
-- PU synthesis/synthesisref13.Compare
-- PU synthesis/space.Check
-- PU synthesis/space.Empty
-- PU synthesis/synthesisref26.Equal
-- PU synthesis/term.Compare
-- PU synthesis/space.formed
-- PU synthesis/space.small
-- PU slices.Contains[[]int,int]
-- PU synthesis/synthesisref13.order
-- PU synthesis/synthesisref13.Size
-- PU synthesis/synthesisref13.CompareInts
-- PU synthesis/grammar.Check
-- PU synthesis/counting.Count
-- PU synthesis/space.check
-- PU synthesis/space.whole
-- PU slices.Equal[synthesis/space.shape,int]
-- PU synthesis/synthesisref26.compareOptions
-- PU math/bits.Len
-- PU synthesis/term.Size
-- PU synthesis/space.ascending
-- PU synthesis/space.belongs
-- PU slices.Index[[]int,int]
-- PU synthesis/grammar.named
-- PU synthesis/grammar.typed
-- PU synthesis/grammar.rule
-- PU synthesis/grammar.sameRule
-- PU math/bits.Mul
-- PU synthesis/counting.check
-- PU synthesis/counting.permitted
-- PU synthesis/term.Check
-- PU synthesis/space.key
-- PU math/bits.Len64
-- PU slices.BinarySearch[[]int,int]
-- PU synthesis/grammar.symbol
-- PU synthesis/grammar.same
-- PU slices.Equal[[]int,int]
-- PU synthesis/value.Equal
-- PU math/bits.Mul64
-- PU synthesis/counting.plus
-- PU cmp.isNaN[int]
-- PU synthesis/term.within
-- PU synthesis/term.shallow
-- PU synthesis/term.derived
-- PU cmp.Less[int]
-- PU synthesis/value.Compare
-- PU synthesis/counting.key
-- PU synthesis/counting.times
-- PU internal/strconv.small
-- PU strings.Cut
-- PU synthesis/operator.typeOf
-- PU internal/stringslite.Cut
-- PU internal/stringslite.Index
-- PU internal/stringslite.IndexByte
-- PU synthesis/synthesislaw25.sums
-- PU synthesis/synthesislaw25.double
-- PU synthesis/space.Of
-- PU synthesis/space.renumbered
set_option linter.all false
section
variable {P:Program} {w:World} {t:TypeId} {st:St} {o:Oper} {a:Act}
theorem k8j {ops:Array Oper} {l:List Oper} (c c':AV) {Q:Exit->St->Prop} (h:∀ (ψ:Env) (S:Nat->Prop) (a:Act) (w:World),(∀ t,RV ψ (·∈st.ids) S w (a.tmps.getD t undef) (st.get t)) ->
   kcm P o a w (fun v w'=>Grow w w'/\RV ψ (·∈st.ids) (fun b=>S b\/w.heap.size<=b) w' v c)\/kcm P o a w (fun v w'=>Grow w w'/\RV ψ (·∈st.ids) (fun b=>S b\/w.heap.size<=b) w' v c')) (d:kbk ops st o=some true) (i:∀ t,o.dst=some t->t<st.n) (hn:awpL P ops l (st.put o.dst c) Q) (g:awpL P ops l (st.put o.dst c') Q):awpL P ops (o::l) st Q:=fun F S0 N0 ψ S a w hs=>by
 unfold wpList;rw [ke5 hs d];rcases h ψ S a w hs.tmps with hr | hr;refine .inl (kcg ?_ hr);rintro v w' ⟨d,hv⟩;exact kbm (fun e a' w'' k=>k.pre (Fr.of_grow hs.core.fr d)) _ _ _ (hn F S0 N0 ψ _ _ w' (hs.put (st':=st) rfl rfl rfl (hs.core.grow d) hv.bound Ext.refl (fun _ h=>h) (fun b f=>⟨.inl f,qbo (hs.core.lt b f) d.size⟩) (Same.of_grow d) i))
 ·refine .inl (kcg ?_ hr);rintro v w' ⟨d,hv⟩;exact kbm (fun e a' w'' k=>k.pre (Fr.of_grow hs.core.fr d)) _ _ _ (g F S0 N0 ψ _ _ w' (hs.put (st':=st) rfl rfl rfl (hs.core.grow d) hv.bound Ext.refl (fun _ h=>h) (fun b f=>⟨.inl f,qbo (hs.core.lt b f) d.size⟩) (Same.of_grow d) i))
theorem nslb {Q:Exit->St->Prop} [Tab P] {g:Cfg} (k:Nat) {α:Type} (x y:Operand) (yt te:TypeId) (size:Nat) (enc:α->FV) (xs:List α) (neg:Bool) (n:List.isEmpty xs=true) (ho:(kjw (crun P k g)).op = .binOp (if neg then .neq else .eql) t x y yt) (ht:P.underlying t=some (.slice te)) (p:(stOf (crun P k g)).eval x = .fz (eL size enc xs)) (hy:(stOf (crun P k g)).eval y = .fz (.atom (.slice none 0 0))) (hv:okP (crun P k g)=true) (h1:W P (rsmA (.fz (.atom (.bool true))) (stOf (crun P k g)).heap (stOf (crun P k g)).ids (crun P k g)) Q) (j:W P (rsmA (.fz (.atom (.bool false))) (stOf (crun P k g)).heap (stOf (crun P k g)).ids (crun P k g)) Q):W P g Q:=by
 refine kb0 k ?_;generalize crun P k g=g' at *
 obtain ⟨foc,ks,st⟩:=g';unfold okP at hv;simp only at hv;split at hv
 ·rename_i os o l;split at hv
  ·rename_i q r;have k1:awpL P os l (st.put o.dst (.fz (.atom (.bool true)))) (ke9 P ks Q):=(by unfold W at h1;exact h1);have k2:awpL P os l (st.put o.dst (.fz (.atom (.bool false)))) (ke9 P ks Q):=(by unfold W at j;exact j);unfold W;refine k8j (.fz (.atom (.bool true))) (.fz (.atom (.bool false))) (fun ψ S a w e=>?_) q (kkf r) k1 k2;have q1:=Sim.eval_tmps e x;rw [show st.eval x=_ from p] at q1;have q2:=Sim.eval_tmps e y;rw [show st.eval y=_ from hy] at q2;have q2:=q2.atom;have q1:=q1.inv;obtain rfl:xs=[]:=List.isEmpty_iff.1 n;obtain ⟨A,cap,css,f,hn,s,u,hs,ha,z,hr⟩:=q1.lst_inv;have h:∀ b:Bool,kcm P o a w (fun v w'=>Grow w w'/\RV ψ (·∈st.ids) (fun b=>S b\/w.heap.size<=b) w' v (.fz (.atom (.bool b))))->kcm P o a w (fun v w'=>Grow w w'/\RV ψ (·∈st.ids) (fun b=>S b\/w.heap.size<=b) w' v (.fz (.atom (.bool true))))\/kcm P o a w (fun v w'=>Grow w w'/\RV ψ (·∈st.ids) (fun b=>S b\/w.heap.size<=b) w' v (.fz (.atom (.bool false)))):=fun b m=>by
    cases b;exact .inr m
    ·exact .inl m
   have i:∃ b:Bool,∀ d:Nat,(Op.equalIn (d+1) t (.slice A 0 cap) (.slice none 0 0)).run P w = .ok b w:=(by cases A <;> simp [Op.equalIn,run_underlying ht]);obtain ⟨b,i⟩:=i;obtain ⟨p1,p2⟩:=kv3 (P:=P) (w:=w) i;refine h (if neg then !b else b) (kaf w (.bool (if neg then !b else b)) ?_ ⟨kai _, .fz (.atom rfl)⟩);cases neg;simp [execOp,show o.op=_ from ho,f,q2,kmi,p1]
   ·simp [execOp,show o.op=_ from ho,f,q2,kmi,p2]
  ·cases hv
 ·cases hv
theorem k5t (e:TypeId) (x:Operand) (idt g id:Nat) (ov:Value) (eo ei:TypeId) (rows:List (List Value)) (ho:o.op = .box e x) (k:kaa st.heap idt=some (.tab g ov eo ei rows)) (m:st.eval x = .fz (.atom ov)) (d:st.ids.contains id=false):
  StepA P o st (.ref id 0 0) ((id, .box e [.fz (.atom ov)])::st.heap) (id::st.ids):=by
 have d:id∉st.ids:=by simpa using d
 intro F S0 N0 ψ S a w f;have c:=f.core;have l:ov.oneCell'=true:=by obtain ⟨_,⟨_,vs,_,_,j,_⟩,_⟩:=c.obj idt _ k;rcases j.2 with ⟨rfl,_⟩ | ⟨g,cap,cur,rfl,_⟩ <;> rfl
 have hs:∀ y∈(st.eval x).cells,y.single=true:=by rw [m];intro y hy;simp [AV.cells,FV.cells] at hy;subst hy;exact l
 obtain ⟨e1,e2,e3⟩:=RV.cells (f.eval x) hs;have hc:(st.eval x).cells=[.fz (.atom ov)]:=by rw [m];rfl
 rw [hc] at e1 e2 hs;refine kaf (w.alloc (.cells (a.eval x).cells e)) (.pointer (some ⟨w.heap.size,0,none⟩)) ?_ ⟨ψ.set id 0 (.pointer (some ⟨w.heap.size,0,none⟩)),S,?_,?_,kf9 _ c.fr,kbs d _ _,fun _ h=>qh _ h,fun _ h=>h,Same.of_grow (kax _ _)⟩;simp [execOp,ho,Instr.box,newVar,newRow];refine c.add (kax _ _) d (fun b n=>by simp [kar] at n;omega) ⟨kbq _ _,w.heap.size,_,kap _ _,heap_alloc_new w _,e1,hs,fun i v y hv hy=>?_⟩;exact (e2 i v y hv hy).keep (kbs d _ _) (fun _ h=>qh _ h) (fun _ h=>h) (Same.of_grow (kax _ _))
 ·exact .ref (qq ..) (qar _) rfl fun _=>⟨w.heap.size,by rw [kap];rfl,rfl⟩
end
section
variable {P:Program} [t:Tab P] {Q:Exit->St->Prop} {g:Cfg}
def kwp (ks ids:List Nat) (st:St):St:=⟨st.n,ks.map fun t=>(t,look .any st.tmps t),ids.filterMap fun i=>(kaa st.heap i).map fun o=>(i,o),ids,st.dfr⟩
theorem wrl (k:Nat) (ks ids:List Nat) (i q m n:Nat) (a:W P (knt (crun P k g) (kwr i n (kwp ks ids (stOf (crun P k g))))) Q) (hmn:m=n:=by simp) (hl:coA (stOf (crun P k g)) (kwp ks ids (stOf (crun P k g)))=some (kwp ks ids (stOf (crun P k g))):=by kernel_rfl)
  (hr:kuu i (kwp ks ids (stOf (crun P k g)))=List.replicate q m:=by kernel_rfl) (hc:kqt (crun P k g)=true:=by kernel_rfl):W P g Q:=wle k ((le_a hl).trans (k41 i hr hmn)) a (hc:=hc)
end
set_option maxRecDepth 100000
def adF:List FV:=[.atom (.string ⟨#[97,100,100]⟩)]
def adR:FV := .tup [.agg [.atom (.string ⟨#[97,100,100]⟩), .lst 1 2 [.atom (.int .i64 2), .atom (.int .i64 2)], .atom (.int .i64 2)], .atom (.bool true)]
theorem k46:PCall prog 127 adF adR:=kz1 (k4b [] (fun p h=>by cases h)) 10000
def twA:FV := .agg [.lst 3 2 [.agg [.atom (.int .i64 0), .atom (.int .i64 1), .lst 2 1 [.agg [.atom (.int .i64 0), .atom (.slice none 0 0)]]], .agg [.atom (.int .i64 0), .atom (.int .i64 3), .lst 2 1 [.agg [.atom (.int .i64 1), .lst 1 2 [.atom (.int .i64 0), .atom (.int .i64 0)]]]]], .lst 1 2 [.atom (.int .i64 0), .atom (.int .i64 1)]]
def twB:FV := .agg [.lst 3 2 [.agg [.atom (.int .i64 0), .atom (.int .i64 1), .lst 2 1 [.agg [.atom (.int .i64 0), .atom (.slice none 0 0)]]], .agg [.atom (.int .i64 0), .atom (.int .i64 3), .lst 2 1 [.agg [.atom (.int .i64 1), .lst 1 2 [.atom (.int .i64 0), .atom (.int .i64 0)]]]]], .lst 1 2 [.atom (.int .i64 0), .atom (.int .i64 1)]]
def twS:Sac:=Sac.mk [Saa.mk 0 1 [Sab.mk 0 []],Saa.mk 0 3 [Sab.mk 1 [0,0]]] [0,1]
theorem kaa7:PCall prog 23 [twA,twB] (.atom (.bool true)):=PCall.le (knh twS twS true (by kernel_rfl)) (by kernel_rfl)
def fx0:List (Nat×List FV×FV):=[(127,adF,adR),(23,[twA,twB], .atom (.bool true))]
theorem kaa5:∀ p∈fx0,PCall prog p.1 p.2.1 p.2.2:=fun p hp=>by
 rcases qat.1 hp with rfl | hp;exact k46
 ·obtain rfl:=q9.1 hp;exact kaa7
theorem k29:PCall prog 6 [] (.atom (.bool true)):=kz1 (k4b fx0 kaa5) 2000
def kdt:Option Bool:=some true
theorem kfc (r:Bool) (h:kdt=some r):PCall prog 6 [] (eB r):=by cases h;exact k29
open Go Go.RowKit Go.Proofs Go.Proofs.Tryz
set_option maxHeartbeats 2000000
attribute [local irreducible] NStep StepA kk7 LeSt
def ke3 (a0:List Int):Option (List Int):=Option.bind (app 8 ([]:List Int) a0) fun v2=>some v2
theorem kng (a0 r:List Int) (h:ke3 a0=some r):PCall prog 52 [(eL 1 eI) a0] ((eL 1 eI) (r)):=by
 unfold ke3 at h;cases b:List.isEmpty a0 with
 | false=>
  have a:nonE a0=some ():=by unfold nonE;rw [b];rfl
  refine pcl [.one (.sl 1)] func52 ?_;refine nst 8 (k4w (t:=23) (.tmp 3) (.const (.slice none 0 0)) 23 3 1 eI a0 false a) ?_;refine sst 5 (kna 23 tt23 1 eI 0 #[] 3 tt3 ([]:List (Int))) ?_;refine ap nI 1 h fun v2 h=>?_;refine wle 2 (kgl 2 1 v2.length 3 1 (List.map eI v2)) ?_;cases h;exact lq 1
 | true=>
  obtain rfl:a0=[]:=List.isEmpty_iff.1 b;refine pcl [.one (.sl 1)] func52 ?_;refine nslb (t:=23) 8 (.tmp 3) (.const (.slice none 0 0)) 23 3 1 eI ([]:List Int) false rfl (by kernel_rfl) (by kernel_rfl) (by kernel_rfl) (by kernel_rfl) (by kernel_rfl) ?_ ?_;have e:(Option.bind (app 8 ([]:List Int) []) fun v2=>some v2)=some ([]:List Int):=by kernel_rfl
  rw [e] at h;cases h;exact lq 7;refine sst 5 (kna 23 tt23 1 eI 0 #[] 3 tt3 ([]:List (Int))) ?_;refine ap nI 1 h fun v2 h=>?_;refine wle 2 (kgl 2 1 v2.length 3 1 (List.map eI v2)) ?_;cases h;exact lq 1
end Go.Proofs.YtnlhjbnpjefjgaaGreatDoor
