import Derived.Test.YtaimpcnpifoidaaGreatDoorNb
import Derived.Test.YtaimpcnpifoidaaGreatDoorBc
set_option linter.all false
set_option maxRecDepth 100000
namespace Go.Proofs.YtaimpcnpifoidaaGreatDoor
open Go Go.RowKit
theorem kaey (g:Tm->Int) (t:Tm):t.pre g=g t::Tm.preL g t.args:=by cases t;rfl
theorem ko8 {t x:Tm} (h:x∈t.args):x.size<t.size:=by have:=Tm.sizeL_mem h;have:=kpq (t:=t);omega
theorem kyd (t:Tm):t.args.length<t.size:=by have:=km8 t.args;have:=kpq (t:=t);omega
theorem kxm (g:Tm->Int) (r:Tm->Option (List Int)):∀ (xs:List Tm) (acc:List Int),acc.length+Tm.sizeL xs<=1000000->(∀ x∈xs,r x=some (x.pre g))->xs.foldlM (fun s x=>Option.bind (r x) fun v=>app 8 s v) acc=some (acc++Tm.preL g xs)
 | [],acc,_,_=>by simp [Tm.preL]
 | x::xs,acc,hl,h=>by have hs:Tm.sizeL (x::xs)=x.size+Tm.sizeL xs:=rfl;rw [List.foldlM_cons,h x (qt ..),qa,ki2 (by rw [Tm.pre_length];omega)];have:=kxm g r xs (acc++x.pre g) (by rw [qr,Tm.pre_length];omega) fun y a=>h y (qn _ a);show List.foldlM _ (acc++x.pre g) xs=_;rw [this,qan];rfl
theorem kx4:∀ (n:Nat) (t:Tm),t.size<=n->t.size<=1000->kcr n t=some t.rules
 | 0,t,h,_=>by have:=Tm.size_pos t;omega
 | n+1,t,h,hl=>by
  show kg5 (kcr n) t=_;have b:=kyd t;have c:=kpq (t:=t);unfold kg5;rw [k0l (step:=kgs t (kcr n)) t.args (fun s x=>Option.bind (kcr n x) fun v=>app 8 s v) (fun i s=>(i,s)) (by omega) (fun i x s a=>by
   have hi:=k6c a;simp only [kgs,kbd hi,qf,kak,a,qa,ki3 hi (show t.args.length<=9223372036854775807 by omega)];cases kcr n x with
   | none=>rfl
   | some v=>simp only [qa];cases app 8 s v <;> rfl) (fun s=>by simp only [kgs,kfm,qd])]
  rw [kxm Tm.rule _ t.args _ (by rw [qbg];omega) fun x a=>kx4 n x (by have:=ko8 a;omega) (by have:=ko8 a;omega)];show some _=some (t.pre Tm.rule);rw [kaey];rfl
theorem kux:∀ (n:Nat) (t:Tm),t.size<=n->t.size<=1000->kcc n t=some t.arities
 | 0,t,h,_=>by have:=Tm.size_pos t;omega
 | n+1,t,h,hl=>by
  show kga (kcc n) t=_;have b:=kyd t;have c:=kpq (t:=t);unfold kga;rw [k0l (step:=kfu t (kcc n)) t.args (fun s x=>Option.bind (kcc n x) fun v=>app 8 s v) (fun i s=>(i,s)) (by omega) (fun i x s a=>by
   have hi:=k6c a;simp only [kfu,kbd hi,qf,kak,a,qa,ki3 hi (show t.args.length<=9223372036854775807 by omega)];cases kcc n x with
   | none=>rfl
   | some v=>simp only [qa];cases app 8 s v <;> rfl) (fun s=>by simp only [kfu,kfm,qd])]
  rw [kxm Tm.nargs _ t.args _ (by rw [qbg];omega) fun x a=>kux n x (by have:=ko8 a;omega) (by have:=ko8 a;omega)];show some _=some (t.pre Tm.nargs);rw [kaey];rfl
theorem k4j (r:Tm->Option Int):∀ (xs:List Tm) (s:Nat),s+Tm.sizeL xs<=1000000->(∀ x∈xs,r x=some (x.size:Int))->xs.foldlM (fun (s:Int) x=>Option.bind (r x) fun v=>some (w64 (s+v))) (s:Int)=some ((s+Tm.sizeL xs:Nat):Int)
 | [],s,_,_=>by simp [Tm.sizeL]
 | x::xs,s,hl,h=>by have hs:Tm.sizeL (x::xs)=x.size+Tm.sizeL xs:=rfl;rw [List.foldlM_cons,h x (qt ..),qa,kdn (by omega) (by omega)];have:=k4j r xs (s+x.size) (by omega) fun y a=>h y (qn _ a);show List.foldlM _ ((s:Int)+(x.size:Int)) xs=_;rw [show (s:Int)+(x.size:Int)=((s+x.size:Nat):Int) by omega,this,hs];congr 2;omega
theorem k05:∀ (n:Nat) (t:Tm),t.size<=n->t.size<=1000->kcj n t=some (t.size:Int)
 | 0,t,h,_=>by have:=Tm.size_pos t;omega
 | n+1,t,h,hl=>by show khd (kcj n) t=_;have b:=kyd t;have c:=kpq (t:=t);unfold khd;rw [k0l (step:=kgx t (kcj n)) t.args (fun s x=>Option.bind (kcj n x) fun v=>some (w64 (s+v))) (fun i s=>(s,i)) (by omega) (fun i x s a=>by have hi:=k6c a;simp only [kgx,kbd hi,qf,kak,a,qa,ki3 hi (show t.args.length<=9223372036854775807 by omega)];cases kcj n x <;> rfl) (fun s=>by simp only [kgx,kfm,qd])];have:=k4j (kcj n) t.args 1 (by omega) fun x a=>k05 n x (by have:=ko8 a;omega) (by have:=ko8 a;omega);rw [show (1:Int)=((1:Nat):Int) from rfl,this,qa];congr 2;omega
def lexC:List Int->List Int->Int
 | x::xs,y::ys=>if x<y then -1 else if y<x then 1 else lexC xs ys
 | _,_=>0
def lexO:List Int->List Int->Unit ⊕ Int
 | x::xs,y::ys=>if x<y then .inr (-1) else if y<x then .inr 1 else lexO xs ys
 | _,_ => .inl ()
theorem k85:∀ xs ys:List Int,Sum.elim (fun _=>0) id (lexO xs ys)=lexC xs ys
 | [],_=>rfl
 | _::_,[]=>rfl
 | x::xs,y::ys=>by
  simp only [lexO,lexC];split;rfl
  ·split;rfl
   ·exact k85 xs ys
theorem kaas (x y:List Int) (hl:x.length=y.length) (d:x.length<=1000000):kd4 x y=some (lexC x y):=by
 unfold kd4;have h:=klu (step:=kc9 x y) x.length (by omega) (fun i=>(i:Int)) (fun i=>lexO (x.drop i) (y.drop i)) (fun i hi=>by
  have a:i<y.length:=by omega
  simp only [kc9,kbd hi,kbd a,qf,kak,qc hi,qc a,qa,ki3 hi (show x.length<=9223372036854775807 by omega),qaa hi,qaa a,lexO];by_cases h1:x[i]<y[i];rw [qe h1,qj h1];exact .inr rfl
  ·rw [qb h1,qg h1];by_cases h2:y[i]<x[i];rw [qe h2,qj h2];exact .inr rfl
   ·rw [qb h2,qg h2];exact .inl ⟨rfl,rfl⟩) (by
  simp only [kc9,kfm,qd,List.drop_length,lexO,qa])
 have b:kaa (kc9 x y) fuel 0=some (lexO x y):=by simpa using h
 rw [b,qa,<- k85];cases lexO x y with
 | inr c=>rfl
 | inl u=>
  simp only [qh];unfold kgk;have e1:decide ((x.length:Int)<(y.length:Int))=false:=qb (by omega);have e2:decide ((y.length:Int)<(x.length:Int))=false:=qb (by omega);simp [e1,e2,hl]
def cmpT (a b:Tm):Int:=if a.size<b.size then -1 else if b.size<a.size then 1 else if lexC a.rules b.rules≠0 then lexC a.rules b.rules else lexC a.arities b.arities
theorem kak3 (a b:Tm) (ha:a.size<=1000) (c:b.size<=1000):kgz a b=some (cmpT a b):=by
 unfold kgz cmpT;rw [k05 (fuel+a.size) a (by omega) ha,k05 (fuel+b.size) b (by omega) c];simp only [qa,kgk];by_cases h1:a.size<b.size;rw [qj h1,qe (show (a.size:Int)<(b.size:Int) by omega)];rfl;rw [qg h1,qb (show ¬ (a.size:Int)<(b.size:Int) by omega)];by_cases h2:b.size<a.size;rw [qj h2,qe (show (b.size:Int)<(a.size:Int) by omega)];rfl;rw [qg h2,qb (show ¬ (b.size:Int)<(a.size:Int) by omega)];simp only [qd,qa,show ((0:Int) != 0)=false from rfl];rw [kx4 fuel a (Nat.le_of_lt (kbk (by omega))) ha,kx4 fuel b (Nat.le_of_lt (kbk (by omega))) c];simp only [qa];rw [kaas a.rules b.rules (by rw [Tm.rules_length,Tm.rules_length];omega) (by rw [Tm.rules_length];omega),qa];by_cases h3:lexC a.rules b.rules=0;rw [qg (by simpa using h3),h3,show ((0:Int) != 0)=false from rfl,qd];rw [kux fuel a (Nat.le_of_lt (kbk (by omega))) ha,kux fuel b (Nat.le_of_lt (kbk (by omega))) c];simp only [qa];rw [kaas a.arities b.arities (by rw [Tm.arities_length,Tm.arities_length];omega) (by rw [Tm.arities_length];omega)];rfl
 ·rw [qj h3,show (lexC a.rules b.rules != 0)=true by rw [qbl];exact h3];rfl
theorem kx1:∀ xs:List Int,lexC xs xs=0
 | []=>rfl
 | x::xs=>by simp only [lexC,Int.lt_irrefl,qa4];exact kx1 xs
def ofI (l:La) (s:Int):List Nat:=selN (fun i=>decide ((kax l (i:Int)).symbol=s)) l.rules.length
theorem k18 {l:La} {i:Nat} (h:i<l.rules.length):kax l (i:Int)=l.rules[i]:=by unfold kax;rw [show ((i:Int).toNat)=i from rfl,List.getD_eq_getElem?_getD,qc h];rfl
theorem of_p {l:La} (s:Int) (hl:l.rules.length<=100000):kpj l s=some ((ofI l s).map fun (i:Nat)=>(i:Int)):=by
 unfold kpj ofI;have main:kaa (kmb l s) fuel (0,[])=some ((selN (fun i=>decide ((kax l (i:Int)).symbol=s)) l.rules.length).map fun (i:Nat)=>(i:Int)):=by
  refine Ev.eq (kj5 l.rules.length (fun k v=>v=((k:Int),(selN (fun i=>decide ((kax l (i:Int)).symbol=s)) k).map fun (i:Nat)=>(i:Int))) (by omega) rfl (fun k v hk a=>?_) fun v a=>?_)
  ·subst a;refine knn (s:=(((k+1:Nat):Int),(selN (fun i=>decide ((kax l (i:Int)).symbol=s)) (k+1)).map fun (i:Nat)=>(i:Int))) ?_ rfl;have c:=kz8 (fun i=>decide ((kax l (i:Int)).symbol=s)) k;have er:=k18 hk;simp only [kmb,kbd hk,qf,kak,qc hk,qa,ki3 hk (show l.rules.length<=9223372036854775807 by omega)];by_cases h:l.rules[k].symbol=s;rw [show (l.rules[k].symbol == s)=true from beq_iff_eq.2 h,qf,ki2 (by simp only [qag,qu,qaf];omega),k5x (by rw [er];exact qe h),List.map_append];rfl
   ·rw [show (l.rules[k].symbol == s)=false from beq_false_of_ne h,qd,k9y (by rw [er];exact qb h)];rfl
  ·subst a;refine knl (b:=_) ?_ rfl;simp only [kmb,kfm,qd]
 rw [main,qa]
def fitB (r:Ru) (x:Ex):Bool:=(r.kind == x.kind) && ((r.op.toList == x.op.toList) && ((r.input == x.input) && eqV r.const x.value))
def kgu (f:Ex->Int->Option Tm):List Int->List Ex->Option (List Tm)
 | [],_=>some []
 | _::_,[]=>none
 | a::bs,x::xs=>match f x a with
  | none=>none
  | some t=>(kgu f bs xs).map (t::·)
def kip (l:La) (f:Ex->Int->Option Tm) (x:Ex):List Nat->Option Tm
 | []=>none
 | i::is=>if fitB (kax l (i:Int)) x=true then (match kgu f (kax l (i:Int)).args x.args with
   | some ys=>some (Tm.mk (i:Int) ys)
   | none=>kip l f x is) else kip l f x is
def drvM (l:La):Nat->Ex->Int->Option Tm
 | 0,_,_=>none
 | n+1,x,s=>kip l (drvM l n) x (ofI l s)
inductive XOk:Ex->Prop
 | mk {k i:Int} {v:Va} {o:BA} {xs:List Ex} (hv:okV v) (h3:k=3->opM (bsOf o)=some xs.length) (hn:k≠3->xs=[]) (ha:∀ a∈xs,XOk a):XOk (.mk k i v o xs)
theorem XOk.args {x:Ex} (h:XOk x):∀ a∈x.args,XOk a:=by
 cases h with
 | @mk _ _ _ _ _ _ _ _ b=>exact b
mutual
def szX:Ex->Nat
 | .nil=>1
 | .mk _ _ _ _ xs=>szXs xs+1
def szXs:List Ex->Nat
 | []=>0
 | x::xs=>szX x+szXs xs
end
theorem k3g:∀ {xs:List Ex} {x:Ex},x∈xs->szX x<=szXs xs
 | y::xs,x,h=>by
  rw [szXs];rcases qac.1 h with rfl | h;omega
  ·have:=k3g h;omega
theorem kamx {r:Ru} {x:Ex} (hr:okV r.const) (a:XOk x):kme r x=some (fitB r x):=by
 cases a with
 | @mk k i v o xs hv h3 hn ha=>
  unfold kme fitB;simp only [unEx,qa,Ex.kind,Ex.op,Ex.input,Ex.value];rw [kqb hr hv];generalize (r.kind == k)=b1;generalize (r.op.toList == o.toList)=b2;generalize (r.input == i)=b3;cases b1 <;> cases b2 <;> cases b3 <;> rfl
theorem fit_eq {r:Ru} {x:Ex}:fitB r x=true↔r.kind=x.kind/\r.op=x.op/\r.input=x.input/\r.const=x.value:=by unfold fitB;rw [q8,q8,q8,eqV_iff,beqB_iff,beq_iff_eq,beq_iff_eq]
theorem k0o {l:La} (hv:klh l) {r:Ru} (hr:r∈l.rules) {x:Ex} (b:XOk x) (h:fitB r x=true):r.args.length=x.args.length:=by
 obtain ⟨j,c,e⟩:=qad.1 hr;have a:=(hv.valid j c).2;rw [e] at a;obtain ⟨f1,f2,f3,f4⟩:=fit_eq.1 h;cases b with
 | @mk k i v o xs _ h3 hn ha=>
  simp only [Ex.kind,Ex.op,Ex.args] at f1 f2 ⊢;rcases a with ⟨q,_,_,q4,_⟩ | ⟨q,_,_,q4,_⟩ | ⟨q,_,_,o',q4,q5,_⟩;rw [q4,hn (by omega)];rfl;rw [q4,hn (by omega)];rfl
  ·have:=h3 (by omega);unfold opM at this;rw [k0d,<- f2,q4] at this;simp only [ql] at this;omega
def drR:Option Tm->Int×List Tm×Bool
 | some t=>(t.rule,t.args,true)
 | none=>(0,[],false)
theorem k7e {l:La} (hl:kk5 l) (hv:klh l):∀ (n:Nat) (x:Ex) (s:Int),XOk x->szX x<=n->kas n l x s=some (drR (drvM l n x s))
 | 0,x,s,m,hn=>by cases m;simp only [szX] at hn;omega
 | n+1,x,s,m,hn=>by
  have y:=hv.rules;have z:(ofI l s).length<=l.rules.length:=kz8 _ _;show kcb (kas n) l x s=some (drR (kip l (drvM l n) x (ofI l s)));unfold kcb;rw [of_p s (by omega),qa];have d:((ofI l s).map fun (i:Nat)=>(i:Int)).length=(ofI l s).length:=qag ..;have main:kaa (kb7 l x (kas n) ((ofI l s).map fun (i:Nat)=>(i:Int))) fuel 0=some (drR (kip l (drvM l n) x (ofI l s))):=by
   refine Ev.eq (kj5 (ofI l s).length (fun k v=>v=(k:Int)/\kip l (drvM l n) x (ofI l s)=kip l (drvM l n) x ((ofI l s).drop k)) (by omega) ⟨rfl,by rw [qaz]⟩ (fun k v hk ⟨e,a⟩=>?_) fun v ⟨e,a⟩=>?_)
   ·subst e;have f:(ofI l s)[k]<l.rules.length/\_:=mem_selN.1 (qv hk);have hd:=qaa hk;generalize hi:(ofI l s)[k]=i at f hd;have A:=f.1;have e1:((ofI l s).map fun (i:Nat)=>(i:Int))[k]?=some (i:Int):=(by rw [qp,qc hk,hi];rfl);obtain ⟨e2,hm⟩:=k00 (l:=l) (i:=(i:Int)) (by omega) (by omega);have p:okV (kax l (i:Int)).const:=(by obtain ⟨j,o,ej⟩:=qad.1 hm;have:=hv.valid j o;rw [ej] at this;exact (ValidR.modR (hl.wide _ hm) this).2);unfold kb7;rw [d];simp only [kbd hk,qf,kak,e1,qa,e2,kamx p m,ki3 hk (show (ofI l s).length<=9223372036854775807 by omega)];rw [hd,kip] at a;cases q:fitB (kax l (i:Int)) x with
    | false=>
     rw [q] at a;simp only [qbc,qa4] at a;exact knn (s:=((k+1:Nat):Int)) rfl ⟨rfl,a⟩
    | true=>
     rw [q,qj rfl] at a;have B:=k0o hv hm m q;have C:(kax l (i:Int)).args.length<=1000:=k8k hl hv hm;have inner:kaa (kb5 l x (kas n) (kax l (i:Int))) fuel (0,[])=some (match kgu (drvM l n) (kax l (i:Int)).args x.args with | some ys => .inr ys | none => .inl ()):=by
      refine Ev.eq (kj5 (kax l (i:Int)).args.length (fun j v=>∃ acc,v=((j:Int),acc)/\acc.length=j/\kgu (drvM l n) (kax l (i:Int)).args x.args=(kgu (drvM l n) ((kax l (i:Int)).args.drop j) (x.args.drop j)).map (acc++·)) (by omega) ⟨[],rfl,rfl,by rw [qaz,qaz];cases kgu (drvM l n) (kax l (i:Int)).args x.args <;> rfl⟩ (fun j v o ⟨acc,e,g,h⟩=>?_) fun v ⟨acc,e,g,h⟩=>?_)
      ·subst e;have c:j<x.args.length:=(by omega);have r:XOk x.args[j]:=by
        cases m with
        | @mk _ _ _ _ xs _ _ _ ha=>exact ha _ (qv c)
       have u:szX x.args[j]<=n:=by
        cases m with
        | @mk _ _ _ _ xs _ _ _ ha=>
         have h1:szX (xs[j])<=szXs xs:=k3g (qv c);simp only [szX] at hn;exact qbd h1 (by omega)
       have w:unEx x=some x:=(by cases m;rfl);have ih:=k7e hl hv n x.args[j] (kax l (i:Int)).args[j] r u;rw [qaa o,qaa c,kgu] at h;simp only [kb5,kbd o,qf,kak,qc o,qc c,w,qa,ih,ki3 o (show (kax l (i:Int)).args.length<=9223372036854775807 by omega)];cases ht:drvM l n x.args[j] (kax l (i:Int)).args[j] with
       | none=>
        rw [ht] at h;refine kni (b := .inl ()) rfl ?_;rw [h];rfl
       | some t=>
        rw [ht] at h;simp only [drR,qab,qd];rw [ki2 (by simp only [qu,qaf];omega)];refine knn (s:=(((j+1:Nat):Int),acc++[t])) (by cases t;rfl) ⟨acc++[t],rfl,by simp [g],?_⟩;rw [h];simp only;cases kgu (drvM l n) ((kax l (i:Int)).args.drop (j+1)) (x.args.drop (j+1)) with
        | none=>rfl
        | some ys=>simp
      ·subst e;rw [List.drop_length,kgu] at h;refine knl (b := .inr acc) ?_ (by rw [h];simp);simp only [kb5,kfm,qd]
     rw [qab,qd,inner,qa];cases ha:kgu (drvM l n) (kax l (i:Int)).args x.args with
     | none=>
      rw [ha] at a;exact knn (s:=((k+1:Nat):Int)) rfl ⟨rfl,a⟩
     | some ys=>
      rw [ha] at a;refine kni (b:=((i:Int),ys,true)) rfl ?_;rw [a];rfl
   ·subst e;rw [List.drop_length,kip] at a;refine knl (b:=(0,[],false)) ?_ (by rw [a];rfl);unfold kb7;rw [d];simp only [kfm,qd]
  rw [main,qa]
theorem kyf {l:La} {f:Ex->Int->Option Tm} {x:Ex} {u:Tm}:∀ {is:List Nat},kip l f x is=some u->∃ i ys,i∈is/\u=Tm.mk (i:Int) ys/\fitB (kax l (i:Int)) x=true/\kgu f (kax l (i:Int)).args x.args=some ys
 | i::is,h=>by
  rw [kip] at h;by_cases a:fitB (kax l (i:Int)) x=true
  ·rw [qj a] at h;cases ha:kgu f (kax l (i:Int)).args x.args with
   | none=>
    rw [ha] at h;obtain ⟨j,ys,h1,h2⟩:=kyf h;exact ⟨j,ys,qn _ h1,h2⟩
   | some ys=>
    rw [ha] at h;cases h;exact ⟨i,ys,qt ..,rfl,a,ha⟩
  ·rw [qg a] at h;obtain ⟨j,ys,h1,h2⟩:=kyf h;exact ⟨j,ys,qn _ h1,h2⟩
theorem k4b {f:Ex->Int->Option Tm}:∀ {bs:List Int} {xs:List Ex} {ys:List Tm},kgu f bs xs=some ys->ys.length=bs.length/\∀ (k:Nat) (h1:k<bs.length) (h2:k<xs.length) (h3:k<ys.length),f xs[k] bs[k]=some ys[k]
 | [],xs,ys,h=>by cases h;exact ⟨rfl,fun k h=>by simp at h⟩
 | a::bs,[],ys,h=>by cases h
 | a::bs,x::xs,ys,h=>by
  rw [kgu] at h;cases b:f x a with
  | none=>rw [b] at h;cases h
  | some t=>
   rw [b] at h;obtain ⟨zs,h1,rfl⟩:=qm.1 h;obtain ⟨h2,h3⟩:=k4b h1;refine ⟨by simp [h2],fun k k1 k2 k3=>?_⟩;cases k with
   | zero=>exact b
   | succ k=>exact h3 k (by simpa using k1) (by simpa using k2) (by simpa using k3)
theorem kakf {l:La} (hv:klh l) {r:Ru} (hr:r∈l.rules) {x:Ex} (b:XOk x) (h:fitB r x=true):x=if r.kind=3 then Ex.mk 3 0 kcw r.op x.args else if r.kind=1 then Ex.mk 1 r.input kcw ⟨#[]⟩ [] else Ex.mk 2 0 r.const ⟨#[]⟩ []:=by
 obtain ⟨j,c,e⟩:=qad.1 hr;have a:=(hv.valid j c).2;rw [e] at a;obtain ⟨f1,f2,f3,f4⟩:=fit_eq.1 h;cases b with
 | @mk k i v o xs _ h3 hn ha=>
  simp only [Ex.kind,Ex.op,Ex.input,Ex.value,Ex.args] at f1 f2 f3 f4 ⊢;subst f1 f2 f3 f4;rcases a with ⟨q,q2,q3,q4,_⟩ | ⟨q,q2,q3,q4,_⟩ | ⟨q,q2,q3,_⟩;rw [qg (by omega),qj q,hn (by omega),q,q2,q3];rw [qg (by omega),qg (by omega),hn (by omega),q,q2,q3]
  ·rw [qj q,q,q2,q3]
theorem k35 {l:La} (hv:klh l):∀ (n:Nat) (x:Ex) (s:Int) (u:Tm),XOk x->drvM l n x s=some u->Dr l s u/\exT l u=x
 | 0,x,s,u,d,h=>by cases h
 | n+1,x,s,u,d,h=>by
  rw [drvM] at h;obtain ⟨i,ys,h1,rfl,f,ha⟩:=kyf h;obtain ⟨g,b⟩:=mem_selN.1 h1;have b:=qal b;obtain ⟨_,hm⟩:=k00 (l:=l) (i:=(i:Int)) (by omega) (by omega);obtain ⟨a1,a2⟩:=k4b ha;have j:=k0o hv hm d f;have c:=d.args;have each:∀ (k:Nat) (hk:k<ys.length),Dr l ((kax l (i:Int)).args.getD k 0) ys[k]/\exT l ys[k]=x.args[k]'(by omega):=fun k hk=>by have h1:k<(kax l (i:Int)).args.length:=(by omega);have h2:k<x.args.length:=(by omega);have e:(kax l (i:Int)).args.getD k 0=(kax l (i:Int)).args[k]:=(by rw [List.getD_eq_getElem?_getD,qc h1];rfl);rw [e];exact k35 hv n _ _ _ (c _ (qv h2)) (a2 k h1 h2 hk)
  refine ⟨?_,?_⟩;rw [<- b];exact .mk (by omega) (by omega) a1 fun k hk=>(each k hk).1
  ·have a:=kakf hv hm d f;unfold exT;by_cases h3:(kax l (i:Int)).kind=3;rw [qj h3] at a ⊢;rw [a,k03];congr 1;refine List.ext_getElem (by rw [qag];omega) fun k k1 k2=>?_;rw [List.getElem_map];exact (each k (by rw [qag] at k1;exact k1)).2
   ·rw [qg h3] at a ⊢;exact a.symm
theorem x_ok {l:La} (hl:kk5 l) (hv:klh l):∀ (t:Tm) (s:Int),Dr l s t->XOk (exT l t)/\szX (exT l t)=t.size:=by
 refine Tm.ind fun i ys ih=>?_;intro s h;cases h with
 | @mk i ys h0 h1 c ha=>
  obtain ⟨_,hm⟩:=k00 h0 h1;obtain ⟨j,p,e⟩:=qad.1 hm;have g:=hv.valid j p;rw [e] at g;have b:=(ValidR.modR (hl.wide _ hm) g).2;have m:(Tm.mk i ys).size=Tm.sizeL ys+1:=rfl;have d:(kax l i).args=[]->ys=[]:=fun h=>qar (by rw [c,h];rfl);unfold exT;rcases g.2 with ⟨q,q2,q3,q4,_⟩ | ⟨q,q2,q3,q4,_⟩ | ⟨q,q2,q3,o,q4,q5,_⟩;obtain rfl:=d q4;rw [qg (by omega),qj q];exact ⟨.mk (q2 ▸ b) (fun h=>by cases h) (fun _=>rfl) (by simp),rfl⟩;obtain rfl:=d q4;rw [qg (by omega),qg (by omega)];exact ⟨.mk b (fun h=>by cases h) (fun _=>rfl) (by simp),rfl⟩
  ·rw [qj q,k03];have each:∀ y∈ys,XOk (exT l y)/\szX (exT l y)=y.size:=fun y f=>(by obtain ⟨k,hk,rfl⟩:=qad.1 f;exact ih _ f _ (ha k hk));refine ⟨.mk (q3 ▸ b) (fun _=>?_) (fun h=>absurd rfl h) fun a h=>?_,?_⟩;unfold opM;rw [k0d,q4];simp only [qag];rw [c,q5];obtain ⟨y,f,rfl⟩:=qa3.1 h;exact (each y f).1
   ·rw [szX,m];congr 1;have:∀ zs:List Tm,(∀ y∈zs,szX (exT l y)=y.size)->szXs (zs.map (exT l))=Tm.sizeL zs:=fun zs=>by
     induction zs with
     | nil=>intro _;rfl
     | cons z zs ihz=>
      intro n;rw [qa8,szXs,Tm.sizeL,n z (qt ..),ihz fun y f=>n y (qn _ f)]
    exact this ys fun y f=>(each y f).2
end Go.Proofs.YtaimpcnpifoidaaGreatDoor
