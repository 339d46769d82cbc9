import Derived.Test.YtpcfkflhnkfjjaaGreatGu
import Derived.Test.YtpcfkflhnkfjjaaGreatLo
import Derived.Test.YtpcfkflhnkfjjaaGreatEv
import Derived.Test.YtpcfkflhnkfjjaaGreatZE
set_option linter.all false
set_option maxRecDepth 100000
namespace Go.Proofs.YtpcfkflhnkfjjaaGreat
open Go Go.RowKit
theorem k2i {l:List Tm} {i:Nat} (h:i<l.length):Tm.sizeL (l.take (i+1))=Tm.sizeL (l.take i)+l[i].size:=by rw [qz h,Tm.sizeL_snoc]
theorem kxs (l:List Tm) (i:Nat):i<=l.length->i<=Tm.sizeL (l.take i)/\Tm.sizeL (l.take i)<=Tm.sizeL l:=by
 intro hi
 induction i with
 | zero=>exact ⟨qaj _,by simp [Tm.sizeL]⟩
 | succ i ih=>
  have h1:=ih (by omega);have c:=k2i (l:=l) (i:=i) (by omega);have d:=Tm.size_pos l[i];refine ⟨by omega,?_⟩;have:Tm.sizeL l=Tm.sizeL (l.take (i+1))+Tm.sizeL (l.drop (i+1)):=by
   have gen:∀ a b:List Tm,Tm.sizeL (a++b)=Tm.sizeL a+Tm.sizeL b:=fun a b=>by
    induction a with
    | nil=>simp [Tm.sizeL]
    | cons x a ih=>simp only [List.cons_append,Tm.sizeL,ih];omega
   rw [<- gen,List.take_append_drop]
  omega
theorem kjr {t:Tm}:Tm.sizeL t.args+1=t.size:=by cases t;rfl
theorem kyh (l:List Tm):l.length<=Tm.sizeL l:=by have:=(kxs l l.length (qx _)).1;rw [qaw] at this;exact this
theorem kvv (g:Tm->Int) (t:Tm):t.pre g=g t::Tm.preL g t.args:=by cases t;rfl
theorem kis {t x:Tm} (h:x∈t.args):x.size<t.size:=by have:=Tm.sizeL_mem h;have:=kjr (t:=t);omega
theorem kqp (t:Tm):t.args.length<t.size:=by have:=kyh t.args;have:=kjr (t:=t);omega
theorem ksk (g:Tm->Int) (r:Tm->Option (List Int)):∀ (xs:List Tm) (acc:List Int),acc.length+Tm.sizeL xs<=1000000->(∀ x∈xs,r x=some (x.pre g))->xs.foldlM (fun s x=>Option.bind (r x) fun v=>app 8 s v) acc=some (acc++Tm.preL g xs)
 | [],acc,_,_=>by simp [Tm.preL]
 | x::xs,acc,hl,h=>by have hs:Tm.sizeL (x::xs)=x.size+Tm.sizeL xs:=rfl;rw [List.foldlM_cons,h x (qs ..),qa,keh (by rw [Tm.pre_length];omega)];have:=ksk g r xs (acc++x.pre g) (by rw [qab,Tm.pre_length];omega) fun y a=>h y (qo _ a);show List.foldlM _ (acc++x.pre g) xs=_;rw [this,qbd];rfl
theorem kr5:∀ (n:Nat) (t:Tm),t.size<=n->t.size<=1000->kbp n t=some t.rules
 | 0,t,h,_=>by have:=Tm.size_pos t;omega
 | n+1,t,h,hl=>by
  show kfc (kbp n) t=_;have b:=kqp t;have c:=kjr (t:=t);unfold kfc;rw [kn6 (step:=ke1 t (kbp n)) t.args (fun s x=>Option.bind (kbp n x) fun v=>app 8 s v) (fun i s=>(i,s)) (by omega) (fun i x s a=>by
   have hi:=kc6 a;simp only [ke1,kav hi,qf,kaf,a,qa,kal hi (show t.args.length<=9223372036854775807 by omega)];cases kbp n x with
   | none=>rfl
   | some v=>simp only [qa];cases app 8 s v <;> rfl) (fun s=>by simp only [ke1,kaq,qc])]
  rw [ksk Tm.rule _ t.args _ (by rw [qam];omega) fun x a=>kr5 n x (by have:=kis a;omega) (by have:=kis a;omega)];show some _=some (t.pre Tm.rule);rw [kvv];rfl
theorem kpx:∀ (n:Nat) (t:Tm),t.size<=n->t.size<=1000->kbf n t=some t.arities
 | 0,t,h,_=>by have:=Tm.size_pos t;omega
 | n+1,t,h,hl=>by
  show kef (kbf n) t=_;have b:=kqp t;have c:=kjr (t:=t);unfold kef;rw [kn6 (step:=kd8 t (kbf n)) t.args (fun s x=>Option.bind (kbf n x) fun v=>app 8 s v) (fun i s=>(i,s)) (by omega) (fun i x s a=>by
   have hi:=kc6 a;simp only [kd8,kav hi,qf,kaf,a,qa,kal hi (show t.args.length<=9223372036854775807 by omega)];cases kbf n x with
   | none=>rfl
   | some v=>simp only [qa];cases app 8 s v <;> rfl) (fun s=>by simp only [kd8,kaq,qc])]
  rw [ksk Tm.nargs _ t.args _ (by rw [qam];omega) fun x a=>kpx n x (by have:=kis a;omega) (by have:=kis a;omega)];show some _=some (t.pre Tm.nargs);rw [kvv];rfl
theorem kw4 (r:Tm->Option Int):∀ (xs:List Tm) (s:Nat),s+Tm.sizeL xs<=1000000->(∀ x∈xs,r x=some (x.size:Int))->xs.foldlM (fun (s:Int) x=>Option.bind (r x) fun v=>some (w64 (s+v))) (s:Int)=some ((s+Tm.sizeL xs:Nat):Int)
 | [],s,_,_=>by simp [Tm.sizeL]
 | x::xs,s,hl,h=>by have hs:Tm.sizeL (x::xs)=x.size+Tm.sizeL xs:=rfl;rw [List.foldlM_cons,h x (qs ..),qa,kbq (by omega) (by omega)];have:=kw4 r xs (s+x.size) (by omega) fun y a=>h y (qo _ a);show List.foldlM _ ((s:Int)+(x.size:Int)) xs=_;rw [show (s:Int)+(x.size:Int)=((s+x.size:Nat):Int) by omega,this,hs];congr 2;omega
theorem ktx:∀ (n:Nat) (t:Tm),t.size<=n->t.size<=1000->kbk n t=some (t.size:Int)
 | 0,t,h,_=>by have:=Tm.size_pos t;omega
 | n+1,t,h,hl=>by show kfn (kbk n) t=_;have b:=kqp t;have c:=kjr (t:=t);unfold kfn;rw [kn6 (step:=kfb t (kbk n)) t.args (fun s x=>Option.bind (kbk n x) fun v=>some (w64 (s+v))) (fun i s=>(s,i)) (by omega) (fun i x s a=>by have hi:=kc6 a;simp only [kfb,kav hi,qf,kaf,a,qa,kal hi (show t.args.length<=9223372036854775807 by omega)];cases kbk n x <;> rfl) (fun s=>by simp only [kfb,kaq,qc])];have:=kw4 (kbk n) t.args 1 (by omega) fun x a=>ktx n x (by have:=kis a;omega) (by have:=kis a;omega);rw [show (1:Int)=((1:Nat):Int) from rfl,this,qa];congr 2;omega
def lexC:List Int->List Int->Int
 | x::xs,y::ys=>if x<y then -1 else if y<x then 1 else lexC xs ys
 | _,_=>0
def lexO:List Int->List Int->Unit ⊕ Int
 | x::xs,y::ys=>if x<y then .inr (-1) else if y<x then .inr 1 else lexO xs ys
 | _,_ => .inl ()
theorem k1c:∀ xs ys:List Int,Sum.elim (fun _=>0) id (lexO xs ys)=lexC xs ys
 | [],_=>rfl
 | _::_,[]=>rfl
 | x::xs,y::ys=>by
  simp only [lexO,lexC];split;rfl
  ·split;rfl
   ·exact k1c xs ys
theorem k0m (x y:List Int) (hl:x.length=y.length) (e:x.length<=1000000):ka5 x y=some (lexC x y):=by
 unfold ka5;have h:=kio (step:=kap x y) x.length (by omega) (fun i=>(i:Int)) (fun i=>lexO (x.drop i) (y.drop i)) (fun i hi=>by
  have b:i<y.length:=by omega
  simp only [kap,kav hi,kav b,qf,kaf,qb hi,qb b,qa,kal hi (show x.length<=9223372036854775807 by omega),qah hi,qah b,lexO];by_cases h1:x[i]<y[i];rw [qh h1,qn h1];exact .inr rfl
  ·rw [qe h1,qk h1];by_cases a:y[i]<x[i];rw [qh a,qn a];exact .inr rfl
   ·rw [qe a,qk a];exact .inl ⟨rfl,rfl⟩) (by
  simp only [kap,kaq,qc,List.drop_length,lexO,qa])
 have d:kab (kap x y) fuel 0=some (lexO x y):=by simpa using h
 rw [d,qa,<- k1c];cases lexO x y with
 | inr c=>rfl
 | inl u=>
  simp only [qg];unfold kdn;have e1:decide ((x.length:Int)<(y.length:Int))=false:=qe (by omega);have e2:decide ((y.length:Int)<(x.length:Int))=false:=qe (by omega);simp [e1,e2,hl]
def cmpT (a b:Tm):Int:=if a.size<b.size then -1 else if b.size<a.size then 1 else if lexC a.rules b.rules≠0 then lexC a.rules b.rules else lexC a.arities b.arities
theorem k04 (a b:Tm) (ha:a.size<=1000) (d:b.size<=1000):kdr a b=some (cmpT a b):=by
 unfold kdr cmpT;rw [ktx fuel a (Nat.le_of_lt (ke5 (by omega))) ha,ktx fuel b (Nat.le_of_lt (ke5 (by omega))) d];simp only [qa,kdn];by_cases h1:a.size<b.size;rw [qn h1,qh (show (a.size:Int)<(b.size:Int) by omega)];rfl;rw [qk h1,qe (show ¬ (a.size:Int)<(b.size:Int) by omega)];by_cases e:b.size<a.size;rw [qn e,qh (show (b.size:Int)<(a.size:Int) by omega)];rfl;rw [qk e,qe (show ¬ (b.size:Int)<(a.size:Int) by omega)];simp only [qc,qa,show ((0:Int) != 0)=false from rfl];rw [kr5 fuel a (Nat.le_of_lt (ke5 (by omega))) ha,kr5 fuel b (Nat.le_of_lt (ke5 (by omega))) d];simp only [qa];rw [k0m a.rules b.rules (by rw [Tm.rules_length,Tm.rules_length];omega) (by rw [Tm.rules_length];omega),qa];by_cases c:lexC a.rules b.rules=0;rw [qk (by simpa using c),c,show ((0:Int) != 0)=false from rfl,qc];rw [kpx fuel a (Nat.le_of_lt (ke5 (by omega))) ha,kpx fuel b (Nat.le_of_lt (ke5 (by omega))) d];simp only [qa];rw [k0m a.arities b.arities (by rw [Tm.arities_length,Tm.arities_length];omega) (by rw [Tm.arities_length];omega)];rfl
 ·rw [qn c,show (lexC a.rules b.rules != 0)=true by rw [bne_iff_ne];exact c];rfl
theorem k0t:kcl=some true:=by kernel_rfl
def badW (x:Int):Bool:=decide (x<0) || decide (1000<x)
theorem ky2 (x:Int):kik x=some (!badW x)/\kic x=some (!badW x):=by
 unfold kik kic badW;by_cases h0:0<=x
 ·rw [qh h0,qe (show ¬ x<0 by omega)];by_cases h1:x<=1000;rw [qh h1,qe (show ¬ 1000<x by omega)];exact ⟨rfl,rfl⟩
  ·rw [qe h1,qh (show 1000<x by omega)];exact ⟨rfl,rfl⟩
 ·rw [qe h0,qh (show x<0 by omega)];exact ⟨rfl,rfl⟩
theorem kzi (w:List Int) (b:w.length<=9223372036854775807):kcq w=some (w.any badW):=by
 unfold kcq kff;rcases kjm (step:=kco w) w.length (by omega) (fun i=>badW (w[i]?.getD 0)) (fun i => .inr (i:Int)) (.inl ()) (fun i hi=>by have e1:w[i]?=some w[i]:=qb hi;simp only [kco,kav hi,qf,kaf,e1,qa,kiv,(ky2 w[i]).2,Bool.not_not,kal hi b,qw];cases badW w[i] <;> rfl) (by simp only [kco,kaq,qc]) with ⟨i,hi,a,_,h⟩ | ⟨a,h⟩;rw [h];simp only [qa,qi];have e1:w[i]?=some w[i]:=qb hi;rw [e1] at a;rw [qh (show (0:Int)<=(i:Int) by omega),List.any_eq_true.2 ⟨w[i],qq hi,a⟩]
 ·rw [h];simp only [qa,qg];rw [show decide ((0:Int) <= -1)=false from rfl,List.any_eq_false.2 fun x c=>?_];obtain ⟨i,hi,rfl⟩:=qaa.1 c;have:=a i hi;rw [qb hi] at this;simpa using this
theorem kaa1 (w:List Int) (b:w.length<=9223372036854775807):kab (kdi w) fuel 0=some (if w.any badW=true then .inr 1 else .inl ()):=by
 rcases kjm (step:=kdi w) w.length (by omega) (fun i=>badW (w[i]?.getD 0)) (fun i => .inr 1) (.inl ()) (fun i hi=>by
  have e1:w[i]?=some w[i]:=qb hi;have e2:(bif decide (w[i]<0) then some true else some (decide (1000<w[i])):Option Bool)=some (badW w[i]):=by unfold badW;cases decide (w[i]<0) <;> rfl
  simp only [kdi,kav hi,qf,kaf,e1,qa,e2,kal hi b,qw];cases badW w[i] <;> rfl) (by simp only [kdi,kaq,qc]) with ⟨i,hi,a,_,h⟩ | ⟨a,h⟩
 have e1:w[i]?=some w[i]:=qb hi;rw [e1] at a;rw [h,qn (List.any_eq_true.2 ⟨w[i],qq hi,a⟩)]
 ·rw [h,qk];rw [Bool.not_eq_true];refine List.any_eq_false.2 fun x c=>?_;obtain ⟨i,hi,rfl⟩:=qaa.1 c;have:=a i hi;rw [qb hi] at this;simpa using this
theorem k0b (l:La) (w:List Int) (hl:kta l) (b:w.length<=9223372036854775807):∃ c,khn l w=some c/\kes l w=some c/\(c=0->ki6 l/\w.length=l.rules.length/\∀ x∈w,0<=x/\x<=1000):=by
 obtain ⟨c,c1,c2,c3⟩:=k27 l hl;unfold khn kes;rw [c1,c2];simp only [qa];by_cases hc:c=0
 ·subst hc;rw [show ((0:Int) != 0)=false from rfl];simp only [qc];cases a:((w.length:Int) != (l.rules.length:Int)) with
  | true=>exact ⟨2,rfl,rfl,fun h=>absurd h (by decide)⟩
  | false=>
   have a:=qba.1 a;simp only [qc,kzi w b,kaa1 w b,qa];cases d:w.any badW with
   | true=>exact ⟨1,rfl,rfl,fun h=>absurd h (by decide)⟩
   | false=>
    refine ⟨0,rfl,rfl,fun _=>⟨c3 rfl,by omega,fun x e=>?_⟩⟩;have:=List.any_eq_false.1 d x e;unfold badW at this;simp only [Bool.or_eq_true,qbm,not_or] at this;omega
 ·rw [show (c != 0)=true by rw [bne_iff_ne];exact hc];exact ⟨c,rfl,rfl,fun h=>absurd h hc⟩
theorem k6g (l:La) (w:List Int):∃ b,kgu l w=some b/\(b=true->l.rules.length<=20/\l.symbols.length<=8/\w.length<=30):=by
 unfold kgu;by_cases h1:(l.rules.length:Int)<=20
 ·rw [qh h1];by_cases a:(l.symbols.length:Int)<=8
  ·rw [qh a];by_cases c:(w.length:Int)<=30;rw [qh c];exact ⟨true,rfl,fun _=>by omega⟩
   ·rw [qe c];exact ⟨false,rfl,fun h=>by cases h⟩
  ·rw [qe a];exact ⟨false,rfl,fun h=>by cases h⟩
 ·rw [qe h1];exact ⟨false,rfl,fun h=>by cases h⟩
def rW (w:List Int) (r:Int):Int:=(w[r.toNat]?).getD 0
def rOk (w:List Int) (r:Int):Bool:=decide (0<=r) && (decide (r<(w.length:Int)) && !badW (rW w r))
def sumW (w rs:List Int):Int:=(rs.map (rW w)).sum
theorem k3w {w:List Int} {r:Int} (h:rOk w r=true):idx w r=some (rW w r)/\0<=r/\r<(w.length:Int)/\0<=rW w r/\rW w r<=1000:=by
 unfold rOk badW at h;simp only [qy,qbm,Bool.not_eq_true',Bool.or_eq_false_iff,qbb] at h;obtain ⟨h0,h1,b,c⟩:=h;have a:r.toNat<w.length:=by omega
 refine ⟨?_,h0,h1,by omega,by omega⟩;unfold idx rW;rw [qn h0,qb a];rfl
theorem k4n (w:List Int) (t:Tm):t.rules.all (rOk w)=(rOk w t.rule && (Tm.preL Tm.rule t.args).all (rOk w)):=by show (t.pre Tm.rule).all _=_;rw [kvv];rfl
theorem kvj (w:List Int) (t:Tm):sumW w t.rules=rW w t.rule+sumW w (Tm.preL Tm.rule t.args):=by show sumW w (t.pre Tm.rule)=_;rw [kvv];simp [sumW]
theorem ktp (w a b:List Int):sumW w (a++b)=sumW w a+sumW w b:=by simp [sumW]
theorem ku4 (w:List Int):∀ rs:List Int,rs.all (rOk w)=true->0<=sumW w rs/\sumW w rs<=1000*(rs.length:Int)
 | [],_=>by simp [sumW]
 | r::rs,h=>by
  simp only [List.all_cons,qy] at h;obtain ⟨_,_,_,h1,a⟩:=k3w h.1;obtain ⟨b,c⟩:=ku4 w rs h.2;have:sumW w (r::rs)=rW w r+sumW w rs:=by simp [sumW]
  rw [this,qax];omega
def kvz (w rs:List Int):Int×Int:=if rs.all (rOk w)=true then (sumW w rs,0) else (0,1)
theorem kyo (w:List Int) (r:Tm->Option (Int×Int)):∀ (xs:List Tm) (s:Int),0<=s->s+1000*(Tm.sizeL xs:Int)<=1000000000->(∀ x∈xs,r x=some (kvz w x.rules)) ->
  runL (fun (s:Int) x=>Option.bind (r x) fun v=>(bif v.2 != 0 then some (.inr ((0:Int),v.2)) else some (.inl (w64 (s+v.1))):Option (Int ⊕ (Int×Int)))) xs s=some (if (Tm.preL Tm.rule xs).all (rOk w)=true then .inl (s+sumW w (Tm.preL Tm.rule xs)) else .inr (0,1))
 | [],s,_,_,_=>by simp [runL,Tm.preL,sumW]
 | x::xs,s,h0,hl,h=>by
  have hs:Tm.sizeL (x::xs)=x.size+Tm.sizeL xs:=rfl;have hp:Tm.preL Tm.rule (x::xs)=x.rules++Tm.preL Tm.rule xs:=rfl;rw [runL,h x (qs ..),qa,hp,List.all_append];unfold kvz;by_cases a:x.rules.all (rOk w)=true;obtain ⟨g1,g2⟩:=ku4 w _ a;rw [Tm.rules_length] at g2;rw [qn a];simp only [a,Bool.true_and,show ((0:Int) != 0)=false from rfl,qc,qa,qg];rw [kbq (by omega) (by omega),kyo w r xs (s+sumW w x.rules) (by omega) (by omega) fun y b=>h y (qo _ b),ktp,Int.add_assoc]
  ·rw [qk a];have hf:x.rules.all (rOk w)=false:=(by simpa using a);simp only [hf,Bool.false_and,Bool.false_eq_true,if_false,show ((1:Int) != 0)=true from rfl,qf,qa,qi]
theorem k1h (w:List Int) (b:w.length<=9223372036854775807):∀ (n:Nat) (t:Tm),t.size<=n->t.size<=1000->kc4 n w t=some (kvz w t.rules)
 | 0,t,h,_=>by have:=Tm.size_pos t;omega
 | n+1,t,h,hl=>by
  show ki0 (kc4 n) w t=_;have c:=kqp t;have d:=kjr (t:=t);unfold ki0 kvz;rw [k4n];have e:(bif decide (t.rule<0) then some true else bif decide ((w.length:Int)<=t.rule) then some true else Option.bind (idx w t.rule) fun v1=>Option.bind (kik v1) fun v2=>some (!v2):Option Bool)=some (!rOk w t.rule):=by unfold rOk;by_cases h0:t.rule<0;rw [qh h0,qe (show ¬ 0<=t.rule by omega)];rfl;by_cases h1:(w.length:Int)<=t.rule;rw [qe h0,qh h1,qe (show ¬ t.rule<(w.length:Int) by omega),qh (show 0<=t.rule by omega)];rfl;rw [qe h0,qe h1,qh (show t.rule<(w.length:Int) by omega),qh (show 0<=t.rule by omega)];have hi:idx w t.rule=some (rW w t.rule):=(by unfold idx rW;rw [qn (by omega),qb (by omega)];rfl);simp only [qc,hi,qa,(ky2 _).1,Bool.true_and]
  rw [e,qa];cases hr:rOk w t.rule with
  | false=>rfl
  | true=>
   obtain ⟨hi,_,_,g0,g1⟩:=k3w hr;simp only [qa6,qc,hi,qa,Bool.true_and];rw [kyj (step:=kim w t (kc4 n)) t.args (fun (s:Int) x=>Option.bind (kc4 n w x) fun v=>(bif v.2 != 0 then some (.inr ((0:Int),v.2)) else some (.inl (w64 (s+v.1))):Option (Int ⊕ (Int×Int)))) (fun s i=>(s,i)) id (by omega) (fun i x s a=>by
    have hi:=kc6 a;simp only [kim,kav hi,qf,kaf,a,qa,kal hi (show t.args.length<=9223372036854775807 by omega)];cases kc4 n w x with
    | none=>rfl
    | some v=>
     simp only [qa];cases v.2 != 0 <;> rfl) (fun s=>by simp only [kim,kaq,qc];rfl)]
   rw [kyo w (kc4 n w) t.args _ g0 (by omega) fun x a=>k1h w b n x (by have:=kis a;omega) (by have:=kis a;omega)];cases ha:(Tm.preL Tm.rule t.args).all (rOk w) with
   | true=>
    simp only [if_true,qbf,qa,id,qg];rw [<- kvj]
   | false=>rfl
mutual
theorem k0r:∀ (s t:Tm) (xs ys us vs:List Int),s.pre Tm.rule++xs=t.pre Tm.rule++ys->s.pre Tm.nargs++us=t.pre Tm.nargs++vs->s=t/\xs=ys/\us=vs
 | .mk r l, .mk r' l',xs,ys,us,vs,h1,a=>by
  simp only [Tm.pre,List.cons_append,List.cons.injEq] at h1 a;have hr:r=r':=h1.1;have hl:l.length=l'.length:=by have:=a.1;simp only [Tm.nargs,Tm.args] at this;omega
  obtain ⟨e1,e2,e3⟩:=kyx l l' hl xs ys us vs h1.2 a.2;exact ⟨by rw [hr,e1],e2,e3⟩
theorem kyx:∀ (l l':List Tm),l.length=l'.length->∀ (xs ys us vs:List Int),Tm.preL Tm.rule l++xs=Tm.preL Tm.rule l'++ys->Tm.preL Tm.nargs l++us=Tm.preL Tm.nargs l'++vs->l=l'/\xs=ys/\us=vs
 | [],[],_,xs,ys,us,vs,h1,a=>⟨rfl,by simpa [Tm.preL] using h1,by simpa [Tm.preL] using a⟩
 | [],_::_,h,_,_,_,_,_,_=>by simp at h
 | _::_,[],h,_,_,_,_,_,_=>by simp at h
 | t::l,t'::l',h,xs,ys,us,vs,h1,a=>by simp only [Tm.preL,qbd] at h1 a;obtain ⟨e1,e2,e3⟩:=k0r t t' _ _ _ _ h1 a;obtain ⟨e4,e5,e6⟩:=kyx l l' (by simpa using h) xs ys us vs e2 e3;exact ⟨by rw [e1,e4],e5,e6⟩
end
structure Ord3 {α:Type} (E:α->α->Prop) (c:α->α->Int):Prop where
 anti:∀ x y,E x y->c y x = -c x y
 trans:∀ x y z,E x y->E y z->E x z->c x y<=0->c y z<=0->c x z<=0
def lex {α:Type} (c d:α->α->Int) (x y:α):Int:=if c x y≠0 then c x y else d x y
theorem Ord3.lex {α:Type} {E:α->α->Prop} {c d:α->α->Int} (a:∀ x y,E x y->E y x) (hc:Ord3 E c) (f:Ord3 (fun x y=>E x y/\c x y=0) d):Ord3 E (lex c d):=by
 have z:∀ x y,E x y->(c y x=0↔c x y=0):=fun x y e=>by rw [hc.anti x y e];omega
 refine ⟨fun x y e=>?_,fun x y z e1 e2 e3 h1 b=>?_⟩
 ·unfold Go.Proofs.YtpcfkflhnkfjjaaGreat.lex;by_cases h:c x y=0;rw [qk (by rw [(z x y e).2 h];decide),qk (by rw [h];decide)];exact f.anti x y ⟨e,h⟩
  ·rw [qn (fun g=>h ((z x y e).1 g)),qn h];exact hc.anti x y e
 ·unfold Go.Proofs.YtpcfkflhnkfjjaaGreat.lex at h1 b ⊢;have k1:c x y<=0:=by split at h1 <;> omega
  have k2:c y z<=0:=by split at b <;> omega
  have k3:=hc.trans x y z e1 e2 e3 k1 k2;by_cases h:c x z=0;have a1:=hc.anti x y e1;have a2:=hc.anti y z e2;have a3:=hc.anti x z e3;have b1:=hc.trans y z x e2 (a _ _ e3) (a _ _ e1) k2 (by omega);have b2:=hc.trans z x y (a _ _ e3) e1 (a _ _ e2) (by omega) k1;have c1:c x y=0:=(by omega);have c2:c y z=0:=(by omega);rw [qk (by rw [c1];decide)] at h1;rw [qk (by rw [c2];decide)] at b;rw [qk (by rw [h];decide)];exact f.trans x y z ⟨e1,c1⟩ ⟨e2,c2⟩ ⟨e3,h⟩ h1 b
  ·rw [qn h];exact k3
def cmpZ {α:Type} (f:α->Int) (x y:α):Int:=if f x<f y then -1 else if f y<f x then 1 else 0
theorem k6p {α:Type} {E:α->α->Prop} (f:α->Int):Ord3 E (cmpZ f):=by
 refine ⟨fun x y _=>?_,fun x y z _ _ _ h1 a=>?_⟩;unfold cmpZ;split <;> split <;> omega
 ·unfold cmpZ at *
  split at h1
  ·split at a;rw [qn (by omega)];decide
   ·split at a;omega
    ·rw [qn (by omega)];decide
  ·split at h1;omega
   ·split at a;rw [qn (by omega)];decide
    ·split at a;omega
     ·rw [qk (by omega),qk (by omega)];decide
theorem ksh:∀ xs ys:List Int,xs.length=ys.length->lexC ys xs = -lexC xs ys
 | [],[],_=>rfl
 | [],_::_,h=>by simp at h
 | _::_,[],h=>by simp at h
 | x::xs,y::ys,h=>by
  have ih:=ksh xs ys (by simpa using h);simp only [lexC];rcases Int.lt_trichotomy x y with h1 | h1 | h1;rw [qk (by omega),qn h1,qn h1];rfl;rw [qk (by omega),qk (by omega),qk (by omega),qk (by omega),ih]
  ·rw [qn h1,qk (by omega),qn h1]
theorem kqk:∀ xs ys zs:List Int,xs.length=ys.length->ys.length=zs.length->lexC xs ys<=0->lexC ys zs<=0->lexC xs zs<=0
 | [],_,_,_,_,_,_=>by simp [lexC]
 | _::_,[],_,h,_,_,_=>by simp at h
 | _::_,_::_,[],_,h,_,_=>by simp at h
 | x::xs,y::ys,z::zs,h,g,h1,a=>by
  have ih:=kqk xs ys zs (by simpa using h) (by simpa using g);simp only [lexC] at h1 a ⊢;split at h1
  ·split at a;rw [qn (by omega)];decide
   ·split at a;omega
    ·rw [qn (by omega)];decide
  ·split at h1;omega
   ·split at a;rw [qn (by omega)];decide
    ·split at a;omega
     ·rw [qk (by omega),qk (by omega)];exact ih h1 a
theorem kwe:∀ xs ys:List Int,xs.length=ys.length->lexC xs ys=0->xs=ys
 | [],[],_,_=>rfl
 | [],_::_,h,_=>by simp at h
 | _::_,[],h,_=>by simp at h
 | x::xs,y::ys,h,h1=>by
  simp only [lexC] at h1;split at h1;omega
  ·split at h1;omega
   ·rw [kwe xs ys (by simpa using h) h1,show x=y by omega]
theorem kxd:∀ xs:List Int,lexC xs xs=0
 | []=>rfl
 | x::xs=>by simp only [lexC,Int.lt_irrefl,if_false];exact kxd xs
theorem k5q (a b:Tm):cmpT a b=lex (cmpZ fun t:Tm=>(t.size:Int)) (lex (fun a b=>lexC a.rules b.rules) (fun a b=>lexC a.arities b.arities)) a b:=by
 unfold cmpT lex cmpZ;by_cases h1:a.size<b.size;rw [qn h1,qn (show (a.size:Int)<(b.size:Int) by omega),qn (by decide)]
 ·rw [qk h1,qk (show ¬ (a.size:Int)<(b.size:Int) by omega)];by_cases c:b.size<a.size;rw [qn c,qn (show (b.size:Int)<(a.size:Int) by omega),qn (by decide)]
  ·rw [qk c,qk (show ¬ (b.size:Int)<(a.size:Int) by omega),qk (show ¬ ((0:Int)≠0) by decide)]
theorem cmpZ_zero {α:Type} {f:α->Int} {x y:α}:cmpZ f x y=0↔f x=f y:=by
 unfold cmpZ;split;omega
 ·split <;> omega
theorem cmpT_ord:Ord3 (fun _ _=>True) cmpT:=by
 have:cmpT=lex (cmpZ fun t:Tm=>(t.size:Int)) (lex (fun a b=>lexC a.rules b.rules) (fun a b=>lexC a.arities b.arities)):=by funext a b;exact k5q a b
 rw [this];have c:∀ {a b:Tm},cmpZ (fun t:Tm=>(t.size:Int)) a b=0->a.size=b.size:=fun h=>by have:=cmpZ_zero.1 h;omega
 refine Ord3.lex (fun _ _ _=>trivial) (k6p _) (Ord3.lex (fun x y h=>⟨trivial,by have:=c h.2;exact cmpZ_zero.2 (by omega)⟩) ⟨fun x y h=>?_,fun x y z h1 d _=>?_⟩ ⟨fun x y h=>?_,fun x y z h1 d _=>?_⟩);exact ksh _ _ (by rw [Tm.rules_length,Tm.rules_length];exact c h.2);exact kqk _ _ _ (by rw [Tm.rules_length,Tm.rules_length];exact c h1.2) (by rw [Tm.rules_length,Tm.rules_length];exact c d.2);exact ksh _ _ (by rw [Tm.arities_length,Tm.arities_length];exact c h.1.2)
 ·exact kqk _ _ _ (by rw [Tm.arities_length,Tm.arities_length];exact c h1.1.2) (by rw [Tm.arities_length,Tm.arities_length];exact c d.1.2)
theorem cmpT_eq0 {s t:Tm}:cmpT s t=0↔s=t:=by
 constructor
 ·intro h;unfold cmpT at h;split at h;omega
  ·split at h;omega
   ·have hs:s.size=t.size:=(by omega);split at h;rename_i h0;exact absurd h h0
    ·rename_i h0;have e1:=kwe s.rules t.rules (by rw [Tm.rules_length,Tm.rules_length];exact hs) (by simpa using h0);have e2:=kwe s.arities t.arities (by rw [Tm.arities_length,Tm.arities_length];exact hs) h;exact (k0r s t [] [] [] [] (by simpa [Tm.rules] using e1) (by simpa [Tm.arities] using e2)).1
 ·rintro rfl;unfold cmpT;simp [kxd]
structure SR (R:Type) where
 add:R->R->R
 mul:R->R->R
 zero:R
 one:R
 add_assoc:∀ a b c,add (add a b) c=add a (add b c)
 add_comm:∀ a b,add a b=add b a
 zero_add:∀ a,add zero a=a
 mul_assoc:∀ a b c,mul (mul a b) c=mul a (mul b c)
 mul_comm:∀ a b,mul a b=mul b a
 mul_add:∀ a b c,mul a (add b c)=add (mul a b) (mul a c)
 mul_zero:∀ a,mul a zero=zero
 mul_one:∀ a,mul a one=a
namespace SR
variable {R:Type} (S:SR R)
theorem add_zero (a:R):S.add a S.zero=a:=by rw [S.add_comm,S.zero_add]
theorem zero_mul (a:R):S.mul S.zero a=S.zero:=by rw [S.mul_comm,S.mul_zero]
theorem one_mul (a:R):S.mul S.one a=a:=by rw [S.mul_comm,S.mul_one]
theorem add_mul (a b c:R):S.mul (S.add a b) c=S.add (S.mul a c) (S.mul b c):=by rw [S.mul_comm,S.mul_add,S.mul_comm c,S.mul_comm c]
theorem add4 (a b c d:R):S.add (S.add a b) (S.add c d)=S.add (S.add a c) (S.add b d):=by rw [S.add_assoc,<- S.add_assoc b,S.add_comm b c,S.add_assoc c,<- S.add_assoc a]
def sum (f:Nat->R):Nat->R
 | 0=>S.zero
 | n+1=>S.add (sum f n) (f n)
theorem sum_congr {f g:Nat->R}:∀ (n:Nat),(∀ i,i<n->f i=g i)->S.sum f n=S.sum g n
 | 0,_=>rfl
 | n+1,h=>by rw [sum,sum,sum_congr n fun i hi=>h i (by omega),h n (by omega)]
theorem sum_zero {f:Nat->R}:∀ (n:Nat),(∀ i,i<n->f i=S.zero)->S.sum f n=S.zero
 | 0,_=>rfl
 | n+1,h=>by rw [sum,sum_zero n fun i hi=>h i (by omega),h n (by omega),S.zero_add]
theorem sum_add (f g:Nat->R):∀ n,S.sum (fun i=>S.add (f i) (g i)) n=S.add (S.sum f n) (S.sum g n)
 | 0=>(S.zero_add _).symm
 | n+1=>by rw [sum,sum,sum,sum_add f g n,S.add4]
theorem mul_sum (c:R) (f:Nat->R):∀ n,S.mul c (S.sum f n)=S.sum (fun i=>S.mul c (f i)) n
 | 0=>S.mul_zero c
 | n+1=>by rw [sum,sum,S.mul_add,mul_sum c f n]
theorem sum_mul (c:R) (f:Nat->R):∀ n,S.mul (S.sum f n) c=S.sum (fun i=>S.mul (f i) c) n
 | 0=>S.zero_mul c
 | n+1=>by rw [sum,sum,S.add_mul,sum_mul c f n]
theorem tri (F:Nat->Nat->R):∀ n,S.sum (fun j=>S.sum (fun i=>F i (j - i)) (j+1)) n=S.sum (fun i=>S.sum (fun k=>F i k) (n - i)) n
 | 0=>rfl
 | n+1=>by
  rw [sum,tri F n];have h:S.sum (fun i=>S.sum (fun k=>F i k) (n+1 - i)) (n+1)=S.sum (fun i=>S.add (S.sum (fun k=>F i k) (n - i)) (F i (n - i))) (n+1):=S.sum_congr _ fun i hi=>by rw [show n+1 - i=(n - i)+1 by omega,sum]
  rw [h,S.sum_add];congr 1;rw [sum,Nat.sub_self,sum,S.add_zero]
def rr (V:Int->Nat->R):List Int->Nat->R
 | [],n=>if n=0 then S.one else S.zero
 | a::ys,n=>S.sum (fun k=>S.mul (V a k) (rr V ys (n - k))) (n+1)
def conv (f g:Nat->R) (n:Nat):R:=S.sum (fun i=>S.mul (f i) (g (n - i))) (n+1)
def lf (V:Int->Nat->R) (f:Nat->R):List Int->Nat->R
 | []=>f
 | a::ys=>lf V (S.conv f (V a)) ys
theorem lf_eq (V:Int->Nat->R):∀ (ys:List Int) (f:Nat->R) (n:Nat),S.lf V f ys n=S.sum (fun i=>S.mul (f i) (S.rr V ys (n - i))) (n+1)
 | [],f,n=>by rw [lf,sum,S.sum_zero n fun i hi=>by rw [rr,qk (by omega),S.mul_zero],S.zero_add,Nat.sub_self,rr,qn rfl,S.mul_one]
 | a::ys,f,n=>by
  rw [lf,lf_eq V ys];have h1:S.sum (fun j=>S.mul (S.conv f (V a) j) (S.rr V ys (n - j))) (n+1)=S.sum (fun j=>S.sum (fun i=>S.mul (f i) (S.mul (V a (j - i)) (S.rr V ys (n - i - (j - i))))) (j+1)) (n+1):=S.sum_congr _ fun j b=>by unfold conv;rw [S.sum_mul];exact S.sum_congr _ fun i hi=>by rw [S.mul_assoc,show n - i - (j - i)=n - j by omega]
  rw [h1,S.tri (fun i k=>S.mul (f i) (S.mul (V a k) (S.rr V ys (n - i - k)))) (n+1)];refine S.sum_congr _ fun i hi=>?_;rw [<- S.mul_sum,rr,show n+1 - i=n - i+1 by omega]
def dlt (n:Nat):R:=if n=0 then S.one else S.zero
theorem lf_dlt (V:Int->Nat->R) (ys:List Int) (n:Nat):S.lf V S.dlt ys n=S.rr V ys n:=by
 rw [S.lf_eq];have:∀ m,S.sum (fun i=>S.mul (S.dlt i) (S.rr V ys (n - i))) (m+1)=S.rr V ys n:=fun m=>by
  induction m with
  | zero=>rw [sum,sum,S.zero_add];show S.mul (S.dlt 0) _=_;rw [show S.dlt 0=S.one from rfl,S.one_mul,Nat.sub_zero]
  | succ m ih=>rw [sum,ih,show S.dlt (m+1)=S.zero from rfl,S.zero_mul,S.add_zero]
 exact this n
theorem rr_congr {V V':Int->Nat->R}:∀ (ys:List Int) (n:Nat),(∀ a∈ys,∀ k,k<=n->V a k=V' a k)->S.rr V ys n=S.rr V' ys n
 | [],n,_=>rfl
 | a::ys,n,h=>by rw [rr,rr];refine S.sum_congr _ fun k hk=>?_;rw [h a (qs ..) k (by omega),rr_congr ys (n - k) fun b c j d=>h b (qo _ c) j (by omega)]
theorem sum_shift (f:Nat->R):∀ n,S.sum f (n+1)=S.add (f 0) (S.sum (fun i=>f (i+1)) n)
 | 0=>by rw [sum,sum,sum,S.zero_add,S.add_zero]
 | n+1=>by rw [sum,sum_shift f n,sum,S.add_assoc]
def tab (N:Nat) (sy:Nat->Int) (ar:Nat->List Int) (wt:Nat->R):Nat->Int->Nat->R
 | 0=>fun _ _=>S.zero
 | n+1=>fun s k=>if k=n+1 then S.sum (fun i=>if sy i=s then S.mul (wt i) (S.rr (tab N sy ar wt n) (ar i) n) else S.zero) N else tab N sy ar wt n s k
def val (N:Nat) (sy:Nat->Int) (ar:Nat->List Int) (wt:Nat->R) (s:Int) (k:Nat):R:=S.tab N sy ar wt k s k
theorem tab_eq (N:Nat) (sy:Nat->Int) (ar:Nat->List Int) (wt:Nat->R) (s:Int):∀ (n k:Nat),S.tab N sy ar wt n s k=if k<=n then S.val N sy ar wt s k else S.zero
 | 0,k=>by
  unfold val;by_cases h:k=0;subst h;rw [qn (by omega)]
  ·rw [qk (by omega),tab]
 | n+1,k=>by
  by_cases h:k=n+1;subst h;rw [qn (by omega)];rfl
  ·show (if k=n+1 then _ else S.tab N sy ar wt n s k)=_;rw [qk h,tab_eq N sy ar wt s n k];by_cases a:k<=n;rw [qn a,qn (by omega)]
   ·rw [qk a,qk (by omega)]
end SR
def k7s:Ru:=Ru.mk 0 0 0 kfr ⟨#[]⟩ []
def khs (l:La) (k:Nat):Int:=((l.rules[k]?).getD k7s).symbol
def keo (l:La) (k:Nat):List Int:=((l.rules[k]?).getD k7s).args
theorem ks7 (l:La) {k:Nat} (h:k<l.rules.length):∃ y,l.rules[k]?=some y/\y.symbol=khs l k/\y.args=keo l k/\y∈l.rules:=
 ⟨l.rules[k],qb h,by unfold khs;rw [qb h];rfl,by unfold keo;rw [qb h];rfl,qq h⟩
def NS:SR Nat:=⟨(·+·),(·*·),0,1,Nat.add_assoc,Nat.add_comm,Nat.zero_add,Nat.mul_assoc,Nat.mul_comm,Nat.mul_add,Nat.mul_zero,qaz⟩
def en (n:Nat):Int:=((min n 1152921504606846977:Nat):Int)
theorem k7q (n:Nat):0<=en n/\en n<=1152921504606846977:=by unfold en;omega
theorem k80 (a b:Nat):imin (w64 (en a+en b)) 1152921504606846977=en (a+b):=by have h1:=k7q a;have c:=k7q b;rw [kbq (by omega) (by omega)];unfold imin en;split <;> omega
theorem kaas (m n:Nat) (hn:0<n) (hm:m<=9223372036854775807):quo .i64 (m:Int) (n:Int)=some ((m / n:Nat):Int):=by
 unfold quo;rw [qk (by omega)];have h1:((m:Int).tdiv (n:Int))=((m / n:Nat):Int):=(Int.ofNat_tdiv m n).symm;have a:m / n<=m:=Nat.div_le_self m n;rw [h1];generalize m / n=q at *
 exact congrArg some (kbq (by omega) (by omega))
theorem k3k {a b:Nat} (h:min a 1152921504606846977*min b 1152921504606846977<=1152921504606846977):w64 (en a*en b)=((min a 1152921504606846977*min b 1152921504606846977:Nat):Int):=by unfold en;rw [<- Int.natCast_mul];exact kbq (by omega) (by omega)
theorem k8e (a b:Nat):min (min a 1152921504606846977*min b 1152921504606846977) 1152921504606846977=min (a*b) 1152921504606846977:=by
 by_cases ha:a<=1152921504606846977
 ·by_cases c:b<=1152921504606846977;rw [Nat.min_eq_left ha,Nat.min_eq_left c]
  ·rw [Nat.min_eq_left ha,Nat.min_eq_right (show 1152921504606846977<=b by omega)];rcases Nat.eq_zero_or_pos a with h0 | h0;subst h0;simp
   ·have h1:1152921504606846977<=a*1152921504606846977:=Nat.le_mul_of_pos_left _ h0;have d:1152921504606846977<=a*b:=qaf (by omega:1152921504606846977<=b) (Nat.le_mul_of_pos_left _ h0);omega
 ·rw [Nat.min_eq_right (by omega:1152921504606846977<=a)];rcases Nat.eq_zero_or_pos b with h0 | h0;subst h0;simp
  ·have e:1<=min b 1152921504606846977:=(by omega);have h1:1152921504606846977<=1152921504606846977*min b 1152921504606846977:=Nat.le_mul_of_pos_right _ e;have d:1152921504606846977<=a*b:=qaf (by omega:1152921504606846977<=a) (Nat.le_mul_of_pos_right _ h0);omega
def VN (l:La):Int->Nat->Nat:=NS.val l.rules.length (khs l) (keo l) (fun _=>1)
theorem kul (a b:Nat):kd5 (en a) (en b)=some (en (a+b)):=by unfold kd5 kec;rw [qa,k80]
theorem k4s (a b:Nat):kf3 (en a) (en b)=some (en (a*b)):=by
 have hc:=k8e a b;have c:∀ n:Nat,imin (n:Int) 1152921504606846977=((min n 1152921504606846977:Nat):Int):=fun n=>by unfold imin;split <;> omega
 unfold kf3 kec;by_cases h0:0<min a 1152921504606846977
 ·have e0:decide (0<en a)=true:=qh (by unfold en;omega);have f:quo .i64 1152921504606846977 (en a)=some ((1152921504606846977 / min a 1152921504606846977:Nat):Int):=kaas 1152921504606846977 _ h0 (by omega);rw [e0,f];simp only [qf,qa];by_cases d:1152921504606846977 / min a 1152921504606846977<min b 1152921504606846977;have e1:decide (((1152921504606846977 / min a 1152921504606846977:Nat):Int)<en b)=true:=qh (by unfold en;omega);rw [e1,qf];have e:=(Nat.div_lt_iff_lt_mul h0).1 d;rw [Nat.mul_comm] at e;unfold en;congr 1;omega
  ·have e1:decide (((1152921504606846977 / min a 1152921504606846977:Nat):Int)<en b)=false:=qe (by unfold en;omega);rw [e1,qc];have e:¬ 1152921504606846977<min b 1152921504606846977*min a 1152921504606846977:=fun h=>d ((Nat.div_lt_iff_lt_mul h0).2 h);rw [Nat.mul_comm] at e;rw [k3k (by omega),c];unfold en;rw [hc]
 ·have e0:decide (0<en a)=false:=qe (by unfold en;omega);rw [e0];simp only [qc,qa];have g:min a 1152921504606846977=0:=by omega
  rw [k3k (by rw [g,Nat.zero_mul];omega),c];unfold en;rw [hc]
def rowN (f:Nat->Nat) (n:Nat):List Int:=(List.range n).map fun m=>en (f m)
theorem kkm (f:Nat->Nat) (n:Nat):(rowN f n).length=n:=by simp [rowN]
theorem khy (f:Nat->Nat) {n k:Nat} (h:k<n):(rowN f n)[k]?=some (en (f k)):=by simp [rowN,h]
theorem khb {f g:Nat->Nat} {n:Nat} (h:∀ m,m<n->f m=g m):rowN f n=rowN g n:=by unfold rowN;exact List.map_congr_left fun m hm=>by rw [h m (List.mem_range.1 hm)]
theorem kuh (f:Nat->Nat) (n k v:Nat):(rowN f n).set k (en v)=rowN (fun m=>if m=k then v else f m) n:=by
 refine qbn fun i=>?_;rw [List.getElem?_set,kkm];by_cases hk:k=i
 ·subst hk;rw [qn rfl];split;rename_i h;rw [khy _ h,qn rfl]
  ·rename_i h;rw [qao (by rw [kkm];omega)]
 ·rw [qk hk];by_cases hi:i<n;rw [khy _ hi,khy _ hi,qk (fun h=>hk h.symm)]
  ·rw [qao (by rw [kkm];omega),qao (by rw [kkm];omega)]
theorem kuf (n:Nat):List.replicate n (0:Int)=rowN (fun _=>0) n:=by
 refine qbn fun i=>?_;by_cases hi:i<n;rw [khy _ hi,qbc,qn hi];rfl
 ·rw [qbc,qk hi,qao (by rw [kkm];omega)]
def tabN (T:Int->Nat->Nat) (n m:Nat):List (List Int):=(List.range n).map fun s:Nat=>rowN (T (s:Int)) m
theorem kqj (T:Int->Nat->Nat) (n m:Nat):(tabN T n m).length=n:=by simp [tabN]
theorem kp4 (T:Int->Nat->Nat) {n m i:Nat} (hi:i<n):(tabN T n m)[i]?=some (rowN (T (i:Int)) m):=by simp [tabN,hi]
theorem kq9 (T:Int->Nat->Nat) {n m:Nat} {s:Int} (h:0<=s/\s<(n:Int)):idx (tabN T n m) s=some (rowN (T s) m):=by obtain ⟨k,rfl⟩:=Int.eq_ofNat_of_zero_le h.1;rw [kaf];exact kp4 T (by omega)
theorem kvq {T T':Int->Nat->Nat} {n m:Nat} (h:∀ s k,k<m->T s k=T' s k):tabN T n m=tabN T' n m:=by unfold tabN;exact List.map_congr_left fun s hs=>khb fun k hk=>h _ k hk
theorem k63 (T:Int->Nat->Nat) {n m:Nat} {s:Int} (h:0<=s/\s<(n:Int)) (f:Nat->Nat):(tabN T n m).set s.toNat (rowN f m)=tabN (fun q=>if q=s then f else T q) n m:=by
 obtain ⟨k,rfl⟩:=Int.eq_ofNat_of_zero_le h.1;refine qbn fun i=>?_;rw [List.getElem?_set,kqj];have hk:k<n:=by omega
 by_cases a:k=i;subst a;rw [q8,qn rfl,qn hk,kp4 _ hk,qn rfl]
 ·rw [q8,qk a];by_cases hi:i<n;rw [kp4 _ hi,kp4 _ hi,qk (by omega)]
  ·rw [qao (by rw [kqj];omega),qao (by rw [kqj];omega)]
theorem k8f {T:Int->Nat->Nat} {ns M p:Nat} {a:Int} (ha:0<=a/\a<(ns:Int)) (hp:p<M) (d:p<=100) {i:Nat} (hi:i<=p) (x:List Int) (z:Int) (o g:Nat->Nat):
  kab (kbo (tabN T ns M) (p:Int) (z,rowN o (p+1)) a ((i:Int),x)) fuel (1,rowN g (p+1))=some (rowN (fun m=>if i<m then g m+o i*T a (m - i) else g m) (p+1)):=by
 have h:=kfg (step:=kbo (tabN T ns M) (p:Int) (z,rowN o (p+1)) a ((i:Int),x)) (p - i) (by omega) (fun j=>(((j+1:Nat):Int),rowN (fun m=>if i<m/\m<=i+j then g m+o i*T a (m - i) else g m) (p+1))) (rowN (fun m=>if i<m then g m+o i*T a (m - i) else g m) (p+1)) (fun j e=>by
  have ew:w64 ((i:Int)+((j+1:Nat):Int))=((i+j+1:Nat):Int):=by rw [kbq (by omega) (by omega)];omega
  have ew2:w64 (((j+1:Nat):Int)+1)=((j+1+1:Nat):Int):=by rw [kbq (by omega) (by omega)];omega
  have b:decide (((i+j+1:Nat):Int)<=(p:Int))=true:=qh (by omega);have e3:(rowN (fun m=>if i<m/\m<=i+j then g m+o i*T a (m - i) else g m) (p+1))[i+j+1]?=some (en (g (i+j+1))):=by rw [khy _ (by omega),qk (by omega)]
  have e4:(rowN (T a) M)[j+1]?=some (en (T a (j+1))):=khy _ (by omega);have e5:(rowN o (p+1))[i]?=some (en (o i)):=khy _ (by omega);simp only [kbo,ew,ew2,b,qf,kaf,e3,e4,e5,kq9 T ha,qa,k4s,kul,q8,kuh];congr 3;refine khb fun m hm=>?_;by_cases h1:m=i+j+1;subst h1;rw [qn rfl,qn (by omega),show i+j+1 - i=j+1 by omega]
  ·rw [qk h1];by_cases c:i<m/\m<=i+j;rw [qn c,qn (by omega)]
   ·rw [qk c,qk (by omega)]) (by
  have ew:w64 ((i:Int)+((p - i+1:Nat):Int))=((p+1:Nat):Int):=by rw [kbq (by omega) (by omega)];omega
  have b:decide (((p+1:Nat):Int)<=(p:Int))=false:=qe (by omega);simp only [kbo,ew,b,qc];congr 2;refine khb fun m hm=>?_;by_cases c:i<m;rw [qn c,qn (by omega)]
  ·rw [qk c,qk (by omega)])
 rw [show rowN g (p+1)=rowN (fun m=>if i<m/\m<=i+0 then g m+o i*T a (m - i) else g m) (p+1) from khb fun m hm=>by rw [qk (by omega)]];exact h
theorem k9o {T:Int->Nat->Nat} {ns M p:Nat} {a:Int} (ha:0<=a/\a<(ns:Int)) (hp:p<M) (c:p<=100) (z:Int) (o:Nat->Nat) (d:T a 0=0):
  kab (kay (tabN T ns M) (p:Int) (z,rowN o (p+1)) a) fuel (0,rowN (fun _=>0) (p+1))=some (rowN (NS.conv o (T a)) (p+1)):=by
 have h:=kfg (step:=kay (tabN T ns M) (p:Int) (z,rowN o (p+1)) a) (p+1) (by omega) (fun j=>((j:Int),rowN (fun m=>NS.sum (fun i=>o i*T a (m - i)) (min j m)) (p+1))) (rowN (NS.conv o (T a)) (p+1)) (fun j e=>by
  have b:decide ((j:Int)<=(p:Int))=true:=qh (by omega);simp only [kay,b,qf,qa,k8f ha hp c (show j<=p by omega),kal e (show p+1<=9223372036854775807 by omega)];congr 3;refine khb fun m hm=>?_;by_cases h1:j<m;rw [qn h1,show min j m=j by omega,show min (j+1) m=j+1 by omega];rfl
  ·rw [qk h1,show min j m=m by omega,show min (j+1) m=m by omega]) (by
  have b:decide (((p+1:Nat):Int)<=(p:Int))=false:=qe (by omega);simp only [kay,b,qc];congr 2;refine khb fun m hm=>?_;unfold SR.conv;rw [SR.sum,show min (p+1) m=m by omega,Nat.sub_self,d];show _=_+o m*0;rw [Nat.mul_zero,Nat.add_zero];rfl)
 rw [show rowN (fun _=>0) (p+1)=rowN (fun m=>NS.sum (fun i=>o i*T a (m - i)) (min 0 m)) (p+1) from khb fun m hm=>by rw [Nat.zero_min];rfl];exact h
theorem k5b (t:List (List Int)) (p a z z':Int) (s:List Int) (v6:Int×List Int):kbo t p (z,s) a v6=kbo t p (z',s) a v6:=by funext v7;unfold kbo;rfl
theorem k49 (t:List (List Int)) (p a z z':Int) (s:List Int):kay t p (z,s) a=kay t p (z',s) a:=by funext v6;unfold kay;rw [k5b t p a z z' s v6]
theorem kxf {T:Int->Nat->Nat} {ns M p:Nat} (hp:p<M) (c:p<=100) (d:∀ a,T a 0=0):∀ (ys:List Int) (o:Nat->Nat),(∀ a∈ys,0<=a/\a<(ns:Int)) ->
  ys.foldlM (fun (s:List Int) a=>Option.bind (mkL 8 (0:Int) ((p+1:Nat):Int)) fun v5=>kab (kay (tabN T ns M) (p:Int) (0,s) a) fuel (0,v5)) (rowN o (p+1))=some (rowN (NS.lf T o ys) (p+1))
 | [],o,_=>rfl
 | a::ys,o,ha=>by
  have e:(Option.bind (mkL 8 (0:Int) ((p+1:Nat):Int)) fun v5=>kab (kay (tabN T ns M) (p:Int) (0,rowN o (p+1)) a) fuel (0,v5))=some (rowN (NS.conv o (T a)) (p+1)):=by rw [kmp 8 (0:Int) (p+1) (by omega),qa,kuf,k9o (ha a (qs ..)) hp c 0 o (d a)]
  rw [List.foldlM_cons,e];exact kxf hp c d ys (NS.conv o (T a)) fun b f=>ha b (qo _ f)
theorem kaba:en 1=1:=by unfold en;rw [Nat.min_eq_left (by omega)];rfl
theorem kaad (p:Nat):(rowN (fun _=>0) (p+1)).set (Int.toNat 0) 1=rowN NS.dlt (p+1):=by rw [<- kaba,Int.toNat_zero,kuh];refine khb fun m hm=>?_;unfold SR.dlt;split <;> rfl
theorem k54 {T:Int->Nat->Nat} {ns M p:Nat} (hp:p<M) (b:p<=100) (c:∀ a,T a 0=0) (ys:List Int) (hl:ys.length<=1000000) (ha:∀ a∈ys,0<=a/\a<(ns:Int)):kab (kdv (tabN T ns M) ys (p:Int)) fuel (0,rowN NS.dlt (p+1))=some (rowN (NS.lf T NS.dlt ys) (p+1)):=by
 have ew:w64 ((p:Int)+1)=((p+1:Nat):Int):=by rw [kbq (by omega) (by omega)];omega
 rw [kn6 (step:=kdv (tabN T ns M) ys (p:Int)) ys (fun (s:List Int) a=>Option.bind (mkL 8 (0:Int) ((p+1:Nat):Int)) fun v5=>kab (kay (tabN T ns M) (p:Int) (0,s) a) fuel (0,v5)) (fun i s=>(i,s)) (by omega) (fun i a s e=>by
  have hi:=kc6 e;have d:=k49 (tabN T ns M) (p:Int) a (i:Int) 0 s;unfold kdv;simp only;rw [kav hi,qf,kaf,e,qa,ew,kal hi (show ys.length<=9223372036854775807 by omega),d];cases mkL 8 (0:Int) ((p+1:Nat):Int) with
  | none=>rfl
  | some v=>rw [qa,qa];cases kab (kay (tabN T ns M) (p:Int) (0,s) a) fuel (0,v) <;> rfl) (fun s=>by unfold kdv;simp only;rw [kaq,qc])]
 exact kxf hp b c ys NS.dlt ha
theorem k9u {T:Int->Nat->Nat} {ns M p:Nat} (hp:p<M) (b:p<=100) (c:∀ a,T a 0=0) (ys:List Int) (hl:ys.length<=1000000) (ha:∀ a∈ys,0<=a/\a<(ns:Int)):kgc (tabN T ns M) ys (p:Int)=some (en (NS.rr T ys p)):=by
 have ew:w64 ((p:Int)+1)=((p+1:Nat):Int):=by rw [kbq (by omega) (by omega)];omega
 have e0:idx (rowN (fun _=>0) (p+1)) 0=some (en 0):=by have:=khy (fun _=>0) (show 0<p+1 by omega);rw [show (0:Int)=((0:Nat):Int) from rfl,kaf,this]
 have es:=kaad p;unfold kgc;rw [ew,kmp 8 (0:Int) (p+1) (by omega),kuf];simp only [qa,e0,es];rw [k54 hp b c ys hl ha];simp only [qa,kaf,khy _ (show p<p+1 by omega),NS.lf_dlt]
def tabC (l:La):Nat->Int->Nat->Nat:=NS.tab l.rules.length (khs l) (keo l) (fun _=>1)
theorem kv5 (l:La) (n:Nat) (s:Int) (k:Nat) (h:k<=n):tabC l n s k=VN l s k:=by unfold tabC;rw [SR.tab_eq,qn h];rfl
theorem k8s (l:La) (n:Nat) (s:Int) (k:Nat) (h:n<k):tabC l n s k=0:=by unfold tabC;rw [SR.tab_eq,qk (by omega)];rfl
def midC (l:La) (n i:Nat) (s:Int) (k:Nat):Nat:=if k=n+1 then NS.sum (fun i=>if khs l i=s then 1*NS.rr (tabC l n) (keo l i) n else 0) i else tabC l n s k
theorem k5z {l:La} (m:ki6 l) {n most:Nat} (hn:n<most) (hm:most<=24) (z:List (List Int)):
  kab (kde l (((n+1:Nat):Int),z)) fuel (0,tabN (tabC l n) l.symbols.length (most+1))=some (tabN (tabC l (n+1)) l.symbols.length (most+1)):=by
 have o:=m.rules;have ew:w64 (((n+1:Nat):Int) - 1)=(n:Int):=by rw [kbq (by omega) (by omega)];omega
 have h:=kfg (step:=kde l (((n+1:Nat):Int),z)) l.rules.length (by omega) (fun i=>((i:Int),tabN (midC l n i) l.symbols.length (most+1))) (tabN (tabC l (n+1)) l.symbols.length (most+1)) (fun i hi=>by
  obtain ⟨y,q,hs,g,e⟩:=ks7 l hi;have gy:=m.good y e;have r:=gy.few;have f:0<=y.symbol/\y.symbol<(l.symbols.length:Int):=⟨gy.sym0,gy.sym1⟩;have d:=k9u (T:=midC l n i) (ns:=l.symbols.length) (M:=most+1) (p:=n) (by omega) (by omega) (fun a=>by unfold midC;rw [qk (by omega),kv5 l n a 0 (by omega)];rfl) y.args (by omega) gy.args;have j:NS.rr (midC l n i) y.args n=NS.rr (tabC l n) y.args n:=NS.rr_congr _ _ fun a _ k hk=>by unfold midC;rw [qk (by omega)]
  rw [j] at d;have e3:(rowN (midC l n i y.symbol) (most+1))[n+1]?=some (en (midC l n i y.symbol (n+1))):=khy _ (by omega);simp only [kde,kav hi,qf,kaf,q,qa,kq9 _ f,ew,e3,d,kul,kal hi (show l.rules.length<=9223372036854775807 by omega),q8,kuh,k63 _ f];congr 3;refine kvq fun s k hk=>?_;unfold midC;by_cases c:s=y.symbol
  ·rw [qn c];by_cases b:k=n+1;rw [qn b,qn b,qn rfl,SR.sum,<- hs,<- c,qn rfl,<- g,Nat.one_mul];rfl
   ·rw [qk b,qk b,qk b,c]
  ·rw [qk c];by_cases b:k=n+1;rw [qn b,qn b,SR.sum,<- hs,qk (fun h=>c h.symm)];exact (Nat.add_zero _).symm
   ·rw [qk b,qk b]) (by
  simp only [kde,kaq,qc];rfl)
 have h0:tabN (tabC l n) l.symbols.length (most+1)=tabN (midC l n 0) l.symbols.length (most+1):=kvq fun s k hk=>by
  unfold midC;by_cases b:k=n+1;rw [qn b,k8s l n s k (by omega)];rfl
  ·rw [qk b]
 rw [h0];exact h
theorem k6i (ns:Nat) (c:ns<=16) {most:Nat} (hm:most<=24) (T:Int->Nat->Nat) (d:∀ s k,T s k=0):kab (kdd (most:Int)) fuel (0,List.replicate ns ([]:List Int))=some (tabN T ns (most+1)):=by
 have ew:w64 ((most:Int)+1)=((most+1:Nat):Int):=by rw [kbq (by omega) (by omega)];omega
 have h:=kfg (step:=kdd (most:Int)) ns (by omega) (fun j=>((j:Int),List.replicate j (rowN (fun _=>0) (most+1))++List.replicate (ns - j) ([]:List Int))) (tabN T ns (most+1)) (fun j b=>by
  have a:(List.replicate j (rowN (fun _=>0) (most+1))++List.replicate (ns - j) ([]:List Int)).length=ns:=by rw [qab,qap,qap];omega
  have e1':(List.replicate j (rowN (fun _=>0) (most+1))++List.replicate (ns - j) ([]:List Int))[j]?=some []:=by rw [qai (by rw [qap];omega),qap,Nat.sub_self,qbc,qn (by omega)]
  have e2':(List.replicate j (rowN (fun _=>0) (most+1))++List.replicate (ns - j) ([]:List Int)).set j (rowN (fun _=>0) (most+1))=List.replicate (j+1) (rowN (fun _=>0) (most+1))++List.replicate (ns - (j+1)) ([]:List Int):=by rw [List.set_append_right _ _ (by rw [qap];omega),qap,Nat.sub_self,show ns - j=(ns - (j+1))+1 by omega,List.replicate_succ,List.set_cons_zero,List.replicate_succ',qbd];rfl
  simp only [kdd,a,kav b,qf,ew,kmp 8 (0:Int) (most+1) (by omega),kuf,qa,kaf,e1',q8,e2',kal b (show ns<=9223372036854775807 by omega)]) (by
  have a:(List.replicate ns (rowN (fun _=>0) (most+1))++List.replicate (ns - ns) ([]:List Int)).length=ns:=by simp
  simp only [kdd,a,kaq,qc];congr 2;rw [Nat.sub_self,List.replicate_zero,qbo];refine qbn fun i=>?_;by_cases hi:i<ns;rw [qbc,qn hi,kp4 T hi];congr 1;exact khb fun m _=>(d _ _).symm
  ·rw [qbc,qk hi,qao (by rw [kqj];omega)])
 rw [Nat.sub_zero,List.replicate_zero,List.nil_append] at h;exact h
theorem kzo {l:La} (c:ki6 l) {most:Nat} (hm:most<=24):ker l (most:Int)=some (tabN (tabC l most) l.symbols.length (most+1)):=by
 have b:=c.sym16;unfold ker;simp only [kmp 24 ([]:List Int) l.symbols.length (by omega),qa,k6i l.symbols.length b hm (tabC l 0) (fun _ _=>rfl)];have h:=kfg (step:=kdb l (most:Int)) most (by omega) (fun j=>(((j+1:Nat):Int),tabN (tabC l j) l.symbols.length (most+1))) (tabN (tabC l most) l.symbols.length (most+1)) (fun j d=>by
  have a:decide (((j+1:Nat):Int)<=(most:Int))=true:=qh (by omega);have ew:w64 (((j+1:Nat):Int)+1)=((j+1+1:Nat):Int):=by rw [kbq (by omega) (by omega)];omega
  simp only [kdb,a,qf,k5z c d hm,qa,ew]) (by
  have a:decide (((most+1:Nat):Int)<=(most:Int))=false:=qe (by omega);simp only [kdb,a,qc])
 rw [show kab (kdb l (most:Int)) fuel (1,tabN (tabC l 0) l.symbols.length (most+1))=_ from h];rfl
def ansC (n:Nat):Int×Int:=if (1152921504606846976:Int)<en n then (0,11) else (en n,0)
def badQ (l:La) (s k:Int):Bool:=decide (s<0) || (decide ((l.symbols.length:Int)<=s) || (decide (k<1) || decide (24<k)))
theorem k9v (l:La) (s k:Int):((bif decide (s<0) then some true else bif decide ((l.symbols.length:Int)<=s) then some true else bif decide (k<1) then some true else some (decide (24<k))):Option Bool)=some (badQ l s k):=by unfold badQ;cases decide (s<0) <;> cases decide ((l.symbols.length:Int)<=s) <;> cases decide (k<1) <;> cases decide (24<k) <;> rfl
theorem k2a {l:La} {s k:Int} (h:badQ l s k=false):0<=s/\s<(l.symbols.length:Int)/\1<=k/\k<=24:=by unfold badQ at h;simp at h;omega
def errC (l:La) (c s k:Int):Int:=if c≠0 then c else if badQ l s k=true then 1 else 0
theorem k05 {l:La} {c:Int} (hc:kba l=some c) (s k:Int):kep l s k=some (errC l c s k):=by
 unfold kep errC;rw [hc,qa,k9v];by_cases h:c=0;rw [h,bne_self_eq_false,qk (by simp)];cases badQ l s k <;> rfl
 ·rw [show (c != 0)=true by rw [bne_iff_ne];exact h,qn h];rfl
theorem krw {l:La} {c s k:Int} (h:errC l c s k=0):c=0/\0<=s/\s<(l.symbols.length:Int)/\1<=k/\k<=24:=by
 unfold errC at h;by_cases hc:c=0
 ·rw [qk (by simpa using hc)] at h;cases a:badQ l s k with
  | true=>rw [a] at h;cases h
  | false=>exact ⟨hc,k2a a⟩
 ·rw [qn hc] at h;exact absurd h hc
theorem k4a {l:La} (d:ki6 l) {c s k:Int} (hc:kba l=some c):kfv l s k=some (if errC l c s k≠0 then (0,errC l c s k) else ansC (VN l s k.toNat)):=by
 unfold kfv;rw [k05 hc,qa];by_cases a:errC l c s k=0
 ·obtain ⟨_,h1,e,f,g⟩:=krw a;obtain ⟨n,rfl⟩:=Int.eq_ofNat_of_zero_le (show 0<=k by omega);rw [a,bne_self_eq_false,qk (by simp),q8,qc,kzo d (by omega),qa,kq9 _ ⟨h1,e⟩,qa,kaf,khy _ (by omega),qa,kv5 l n s n (qx _)];unfold ansC;by_cases b:1152921504606846976<en (VN l s n);rw [qh b,qn b];rfl
  ·rw [qe b,qk b];rfl
 ·rw [show (errC l c s k != 0)=true by rw [bne_iff_ne];exact a,qn a];rfl
def totC (l:La) (s:Int) (n:Nat):Nat:=NS.sum (fun j=>VN l s (j+1)) n
theorem k3x {l:La} (h:ki6 l) {c s k:Int} (hc:kba l=some c):kf6 l s k=some (if errC l c s k≠0 then (0,errC l c s k) else ansC (totC l s k.toNat)):=by
 unfold kf6;rw [k05 hc,qa];by_cases b:errC l c s k=0
 ·obtain ⟨_,h1,m,o,p⟩:=krw b;obtain ⟨n,rfl⟩:=Int.eq_ofNat_of_zero_le (show 0<=k by omega);have g:=kfg (step:=kdh (rowN (tabC l n s) (n+1))) (n+1) (by omega) (fun j=>(en (NS.sum (tabC l n s) j),(j:Int))) (en (NS.sum (tabC l n s) (n+1))) (fun j f=>by
   unfold kdh;simp only;rw [kkm,kav f,qf,kaf,khy _ f,qa,kul,qa,kal f (by omega)];rfl) (by
   unfold kdh;simp only;rw [kkm,kaq,qc])
  have a:NS.sum (tabC l n s) (n+1)=totC l s n:=by have e:NS.sum (tabC l n s) (n+1)=NS.sum (VN l s) (n+1):=NS.sum_congr _ fun i hi=>kv5 l n s i (by omega);rw [e,NS.sum_shift];show VN l s 0+totC l s n=_;rw [show VN l s 0=0 from rfl,Nat.zero_add]
  rw [a] at g;rw [b,bne_self_eq_false,qk (by simp),q8,qc,kzo h (by omega),qa,kq9 _ ⟨h1,m⟩,qa];rw [show kab (kdh (rowN (tabC l n s) (n+1))) fuel (0,0)=_ from g,qa];unfold ansC;by_cases d:1152921504606846976<en (totC l s n);rw [qh d,qn d];rfl
  ·rw [qe d,qk d];rfl
 ·rw [show (errC l c s k != 0)=true by rw [bne_iff_ne];exact b,qn b];rfl
abbrev ON:=Option Nat
def omin:ON->ON->ON
 | none,b=>b
 | a,none=>a
 | some a,some b=>some (min a b)
def oadd:ON->ON->ON
 | some a,some b=>some (a+b)
 | _,_=>none
theorem kpd (a:ON):omin a none=a:=by cases a <;> rfl
def MP:SR ON where
 add:=omin
 mul:=oadd
 zero:=none
 one:=some 0
 add_assoc:=fun a b c=>by cases a <;> cases b <;> cases c <;> simp [omin,Nat.min_assoc]
 add_comm:=fun a b=>by cases a <;> cases b <;> simp [omin,Nat.min_comm]
 zero_add:=fun a=>by cases a <;> rfl
 mul_assoc:=fun a b c=>by cases a <;> cases b <;> cases c <;> simp [oadd,Nat.add_assoc]
 mul_comm:=fun a b=>by cases a <;> cases b <;> simp [oadd,Nat.add_comm]
 mul_add:=fun a b c=>by cases a <;> cases b <;> cases c <;> simp [oadd,omin,Nat.add_min_add_left]
 mul_zero:=fun a=>by cases a <;> rfl
 mul_one:=fun a=>by cases a <;> simp [oadd]
def BN (n:Nat) (x:ON):Prop:=∀ v,x=some v->v<=n
theorem BN.none {n:Nat}:BN n none:=fun v h=>by cases h
theorem BN.mono {m n:Nat} {x:ON} (h:BN m x) (hm:m<=n):BN n x:=fun v hv=>qaf (h v hv) hm
theorem BN.omin {n:Nat} {x y:ON} (h:BN n x) (k:BN n y):BN n (omin x y):=fun v hv=>by
 cases x with
 | none=>exact k v hv
 | some a=>
  cases y with
  | none=>exact h v hv
  | some b=>
   have h1:=h a rfl;have hv:some (min a b)=some v:=hv;cases hv;omega
theorem BN.oadd {m n:Nat} {x y:ON} (h:BN m x) (k:BN n y):BN (m+n) (oadd x y):=fun v hv=>by
 cases x with
 | none=>cases hv
 | some a=>
  cases y with
  | none=>cases hv
  | some b=>
   have h1:=h a rfl;have c:=k b rfl;have hv:some (a+b)=some v:=hv;cases hv;omega
theorem BN.sum {m:Nat} {f:Nat->ON}:∀ n,(∀ i,i<n->BN m (f i))->BN m (MP.sum f n)
 | 0,_=>BN.none
 | n+1,h=>(BN.sum n fun i hi=>h i (by omega)).omin (h n (by omega))
theorem BN.rr {V:Int->Nat->ON}:∀ (ys:List Int) (n:Nat),(∀ a k,k<=n->BN (1000*k) (V a k))->BN (1000*n) (MP.rr V ys n)
 | [],n,_=>by
  rw [SR.rr];split;intro v hv;have hv:some 0=some v:=hv;cases hv;omega
  ·exact BN.none
 | a::ys,n,h=>by rw [SR.rr];refine BN.sum _ fun k hk=>?_;have:=(h a k (by omega)).oadd (BN.rr ys (n - k) fun b j c=>h b j (by omega));rw [show 1000*k+1000*(n - k)=1000*n by omega] at this;exact this
def wAt (w:List Int) (k:Nat):ON:=some ((w[k]?).getD 0).toNat
def tabW (l:La) (w:List Int):Nat->Int->Nat->ON:=MP.tab l.rules.length (khs l) (keo l) (wAt w)
def valW (l:La) (w:List Int):Int->Nat->ON:=MP.val l.rules.length (khs l) (keo l) (wAt w)
theorem kls {l:La} {w:List Int} (b:∀ x∈w,0<=x/\x<=1000):∀ (n:Nat) (s:Int) (k:Nat),BN (1000*k) (tabW l w n s k)
 | 0,s,k=>BN.none
 | n+1,s,k=>by
  show BN (1000*k) (if k=n+1 then _ else tabW l w n s k);split
  ·rename_i hk;subst hk;refine BN.sum _ fun i hi=>?_;split
   ·have h1:BN 1000 (wAt w i):=fun v hv=>by
     unfold wAt at hv;cases hv;cases c:w[i]? with
     | none=>simp
     | some x=>have:=b x (qm c);simp only [qw];omega
    have d:=h1.oadd (BN.rr (V:=tabW l w n) (keo l i) n fun a k _=>kls b n a k);exact d.mono (by omega)
   ·exact BN.none
  ·exact kls b n s k
theorem kaal {l:La} {w:List Int} (a:∀ x∈w,0<=x/\x<=1000) (s:Int) (k:Nat):BN (1000*k) (valW l w s k):=kls a k s k
theorem k66 {l:La} {w:List Int} (a:∀ x∈w,0<=x/\x<=1000) {i:Nat} (h:i<w.length):∃ n:Nat,n<=1000/\w[i]?=some (n:Int)/\wAt w i=some n:=by have e:w[i]?=some w[i]:=qb h;have:=a w[i] (qq h);refine ⟨w[i].toNat,by omega,by rw [e,Int.toNat_of_nonneg this.1],?_⟩;unfold wAt;rw [e];rfl
def e1:ON->Int
 | none=>1099511627776
 | some v=>(v:Int)
def e2:ON->Int
 | none => -1
 | some v=>(v:Int)
theorem kx0 {x:ON} (h:BN 100000 x):0<=e1 x/\e1 x<=1099511627776:=by
 cases x with
 | none=>exact ⟨by decide,by decide⟩
 | some v=>
  have:=h v rfl;show 0<=(v:Int)/\(v:Int)<=1099511627776;omega
theorem k24 {a b:Int} (h:a<=b):imin a b=a:=by unfold imin;rw [qk (by omega)]
theorem kaav {a b:Int} (h:b<a):imin a b=b:=by unfold imin;rw [qn h]
theorem k2x {x a b:ON} (d:BN 100000 x) (ha:BN 100000 a) (c:BN 100000 b):imin (e1 x) (w64 (e1 a+e1 b))=e1 (omin x (oadd a b)):=by
 have e:=kx0 d;have f:=kx0 ha;have g:=kx0 c;rw [kbq (by omega) (by omega)];cases a with
 | none=>
  have h0:e1 none=1099511627776:=rfl;rw [show oadd none b=none by cases b <;> rfl,kpd,k24 (by omega)]
 | some a=>
  cases b with
  | none=>
   have h0:e1 none=1099511627776:=rfl;rw [show oadd (some a) none=none from rfl,kpd,k24 (by omega)]
  | some b=>
   have h1:=ha a rfl;have h:=c b rfl;cases x with
   | none=>
    show imin 1099511627776 ((a:Int)+(b:Int))=((a+b:Nat):Int);rw [kaav (by omega)];omega
   | some x=>
    show imin (x:Int) ((a:Int)+(b:Int))=((min x (a+b):Nat):Int);unfold imin;split <;> omega
def rowE (e:ON->Int) (f:Nat->ON) (n:Nat):List Int:=(List.range n).map fun m=>e (f m)
theorem kiu (e:ON->Int) (f:Nat->ON) (n:Nat):(rowE e f n).length=n:=by simp [rowE]
theorem kih (e:ON->Int) (f:Nat->ON) {n k:Nat} (h:k<n):(rowE e f n)[k]?=some (e (f k)):=by simp [rowE,h]
theorem kgt (e:ON->Int) {f g:Nat->ON} {n:Nat} (h:∀ m,m<n->f m=g m):rowE e f n=rowE e g n:=by unfold rowE;exact List.map_congr_left fun m hm=>by rw [h m (List.mem_range.1 hm)]
theorem kuj (e:ON->Int) (f:Nat->ON) (n k:Nat) (v:ON):(rowE e f n).set k (e v)=rowE e (fun m=>if m=k then v else f m) n:=by
 refine qbn fun i=>?_;rw [List.getElem?_set,kiu];by_cases hk:k=i
 ·subst hk;rw [qn rfl];split;rename_i h;rw [kih _ _ h,qn rfl]
  ·rename_i h;rw [qao (by rw [kiu];omega)]
 ·rw [qk hk];by_cases hi:i<n;rw [kih _ _ hi,kih _ _ hi,qk (fun h=>hk h.symm)]
  ·rw [qao (by rw [kiu];omega),qao (by rw [kiu];omega)]
def tabL (T:Int->Nat->ON) (n m:Nat):List (List Int):=(List.range n).map fun s:Nat=>rowE e1 (T (s:Int)) m
theorem kqz (T:Int->Nat->ON) (n m:Nat):(tabL T n m).length=n:=by simp [tabL]
theorem kqi (T:Int->Nat->ON) {n m:Nat} {s:Int} (h:0<=s/\s<(n:Int)):idx (tabL T n m) s=some (rowE e1 (T s) m):=by
 obtain ⟨k,rfl⟩:=Int.eq_ofNat_of_zero_le h.1;rw [kaf];have hk:k<n:=by omega
 simp [tabL,hk]
theorem ku7 {T T':Int->Nat->ON} {n m:Nat} (h:∀ s k,k<m->T s k=T' s k):tabL T n m=tabL T' n m:=by unfold tabL;exact List.map_congr_left fun s hs=>kgt _ fun k hk=>h _ k hk
theorem k5a (T:Int->Nat->ON) {n m:Nat} {s:Int} (h:0<=s/\s<(n:Int)) (f:Nat->ON):(tabL T n m).set s.toNat (rowE e1 f m)=tabL (fun q=>if q=s then f else T q) n m:=by
 obtain ⟨k,rfl⟩:=Int.eq_ofNat_of_zero_le h.1;refine qbn fun i=>?_;rw [List.getElem?_set,kqz];have at_:∀ (T:Int->Nat->ON) (i:Nat),i<n->(tabL T n m)[i]?=some (rowE e1 (T (i:Int)) m):=fun T i hi=>by simp [tabL,hi]
 have hk:k<n:=by omega
 by_cases a:k=i;subst a;rw [q8,qn rfl,qn hk,at_ _ _ hk,qn rfl]
 ·rw [q8,qk a];by_cases hi:i<n;rw [at_ _ _ hi,at_ _ _ hi,qk (by omega)]
  ·rw [qao (by rw [kqz];omega),qao (by rw [kqz];omega)]
theorem ksa:∀ {n:Nat},1<=n->n<=25->kbd [1099511627776] (n:Int)=some (rowE e1 (fun _=>none) n)
 | 0,h,_=>absurd h (by omega)
 | 1,_,_=>by kernel_rfl
 | 2,_,_=>by kernel_rfl
 | 3,_,_=>by kernel_rfl
 | 4,_,_=>by kernel_rfl
 | 5,_,_=>by kernel_rfl
 | 6,_,_=>by kernel_rfl
 | 7,_,_=>by kernel_rfl
 | 8,_,_=>by kernel_rfl
 | 9,_,_=>by kernel_rfl
 | 10,_,_=>by kernel_rfl
 | 11,_,_=>by kernel_rfl
 | 12,_,_=>by kernel_rfl
 | 13,_,_=>by kernel_rfl
 | 14,_,_=>by kernel_rfl
 | 15,_,_=>by kernel_rfl
 | 16,_,_=>by kernel_rfl
 | 17,_,_=>by kernel_rfl
 | 18,_,_=>by kernel_rfl
 | 19,_,_=>by kernel_rfl
 | 20,_,_=>by kernel_rfl
 | 21,_,_=>by kernel_rfl
 | 22,_,_=>by kernel_rfl
 | 23,_,_=>by kernel_rfl
 | 24,_,_=>by kernel_rfl
 | 25,_,_=>by kernel_rfl
 | n+26,_,h=>absurd h (by omega)
theorem kaaj {T:Int->Nat->ON} {ns M p:Nat} {a:Int} (ha:0<=a/\a<(ns:Int)) (hp:p<M) (d:p<=24) {i:Nat} (hi:i<=p) (x:List Int) (oi:ON) (g:Nat->ON) (e:∀ k,k<=p->BN 100000 (T a k)) (ho:BN 100000 oi) (f:∀ m,m<=p->BN 100000 (g m)):
  kab (kdw (tabL T ns M) (p:Int) a ((i:Int),x) (e1 oi)) fuel (1,rowE e1 g (p+1))=some (rowE e1 (fun m=>if i<m then omin (g m) (oadd oi (T a (m - i))) else g m) (p+1)):=by
 have h:=kfg (step:=kdw (tabL T ns M) (p:Int) a ((i:Int),x) (e1 oi)) (p - i) (by omega) (fun j=>(((j+1:Nat):Int),rowE e1 (fun m=>if i<m/\m<=i+j then omin (g m) (oadd oi (T a (m - i))) else g m) (p+1))) (rowE e1 (fun m=>if i<m then omin (g m) (oadd oi (T a (m - i))) else g m) (p+1)) (fun j l=>by
  have ew:w64 ((i:Int)+((j+1:Nat):Int))=((i+j+1:Nat):Int):=by rw [kbq (by omega) (by omega)];omega
  have ew2:w64 (((j+1:Nat):Int)+1)=((j+1+1:Nat):Int):=by rw [kbq (by omega) (by omega)];omega
  have b:decide (((i+j+1:Nat):Int)<=(p:Int))=true:=qh (by omega);have e3:(rowE e1 (fun m=>if i<m/\m<=i+j then omin (g m) (oadd oi (T a (m - i))) else g m) (p+1))[i+j+1]?=some (e1 (g (i+j+1))):=by rw [kih _ _ (by omega),qk (by omega)]
  have e4:(rowE e1 (T a) M)[j+1]?=some (e1 (T a (j+1))):=kih _ _ (by omega);simp only [kdw,ew,ew2,b,qf,kaf,e3,e4,kqi T ha,qa,k2x (f (i+j+1) (by omega)) ho (e (j+1) (by omega)),q8,kuj];congr 3;refine kgt _ fun m hm=>?_;by_cases h1:m=i+j+1;subst h1;rw [qn rfl,qn (by omega),show i+j+1 - i=j+1 by omega]
  ·rw [qk h1];by_cases c:i<m/\m<=i+j;rw [qn c,qn (by omega)]
   ·rw [qk c,qk (by omega)]) (by
  have ew:w64 ((i:Int)+((p - i+1:Nat):Int))=((p+1:Nat):Int):=by rw [kbq (by omega) (by omega)];omega
  have b:decide (((p+1:Nat):Int)<=(p:Int))=false:=qe (by omega);simp only [kdw,ew,b,qc];congr 2;refine kgt _ fun m hm=>?_;by_cases c:i<m;rw [qn c,qn (by omega)]
  ·rw [qk c,qk (by omega)])
 rw [show rowE e1 g (p+1)=rowE e1 (fun m=>if i<m/\m<=i+0 then omin (g m) (oadd oi (T a (m - i))) else g m) (p+1) from kgt _ fun m hm=>by rw [qk (by omega)]];exact h
theorem k83 {T:Int->Nat->ON} {ns M p:Nat} {a:Int} (ha:0<=a/\a<(ns:Int)) (hp:p<M) (b:p<=24) (z:Int) (o:Nat->ON) (e:∀ k,k<=p->BN (1000*k) (T a k)) (c:T a 0=none) (ho:∀ k,k<=p->BN (1000*k) (o k)):
  kab (ka3 (tabL T ns M) (p:Int) (z,rowE e1 o (p+1)) a) fuel (0,rowE e1 (fun _=>none) (p+1))=some (rowE e1 (MP.conv o (T a)) (p+1)):=by
 have h:=kfg (step:=ka3 (tabL T ns M) (p:Int) (z,rowE e1 o (p+1)) a) (p+1) (by omega) (fun j=>((j:Int),rowE e1 (fun m=>MP.sum (fun i=>oadd (o i) (T a (m - i))) (min j m)) (p+1))) (rowE e1 (MP.conv o (T a)) (p+1)) (fun j d=>by
  have f:∀ m,m<=p->BN 100000 (MP.sum (fun i=>oadd (o i) (T a (m - i))) (min j m)):=fun m hm=>BN.sum _ fun i hi=>((ho i (by omega)).oadd (e (m - i) (by omega))).mono (by omega);have e1':=kih e1 o d;simp only [ka3,kiu,kav d,qf,kaf,e1',qa,kaaj ha hp b (show j<=p by omega) _ (o j) _ (fun k hk=>(e k hk).mono (by omega)) ((ho j (by omega)).mono (by omega)) f,kal d (show p+1<=9223372036854775807 by omega)];congr 3;refine kgt _ fun m hm=>?_;by_cases h1:j<m;rw [qn h1,show min j m=j by omega,show min (j+1) m=j+1 by omega];rfl
  ·rw [qk h1,show min j m=m by omega,show min (j+1) m=m by omega]) (by
  have hl:=kiu e1 o (p+1);simp only [ka3,hl,kaq,qc];congr 2;refine kgt _ fun m hm=>?_;unfold SR.conv;rw [SR.sum,show min (p+1) m=m by omega,Nat.sub_self,c];exact (kpd _).symm.trans (by rw [show MP.mul (o m) none=none from MP.mul_zero _];rfl))
 rw [show rowE e1 (fun _=>none) (p+1)=rowE e1 (fun m=>MP.sum (fun i=>oadd (o i) (T a (m - i))) (min 0 m)) (p+1) from kgt _ fun m hm=>by rw [Nat.zero_min];rfl];exact h
theorem kws {T:Int->Nat->ON} {ns M p:Nat} (hp:p<M) (c:p<=24) (e:∀ a k,k<=p->BN (1000*k) (T a k)) (d:∀ a,T a 0=none):∀ (ys:List Int) (o:Nat->ON),(∀ a∈ys,0<=a/\a<(ns:Int))->(∀ k,k<=p->BN (1000*k) (o k)) ->
  ys.foldlM (fun (s:List Int) a=>Option.bind (kbd [1099511627776] ((p+1:Nat):Int)) fun v5=>kab (ka3 (tabL T ns M) (p:Int) (0,s) a) fuel (0,v5)) (rowE e1 o (p+1))=some (rowE e1 (MP.lf T o ys) (p+1))
 | [],o,_,_=>rfl
 | a::ys,o,ha,ho=>by
  have f:(Option.bind (kbd [1099511627776] ((p+1:Nat):Int)) fun v5=>kab (ka3 (tabL T ns M) (p:Int) (0,rowE e1 o (p+1)) a) fuel (0,v5))=some (rowE e1 (MP.conv o (T a)) (p+1)):=by rw [ksa (by omega) (by omega),qa,k83 (ha a (qs ..)) hp c 0 o (e a) (d a) ho]
  rw [List.foldlM_cons,f];refine kws hp c e d ys (MP.conv o (T a)) (fun b g=>ha b (qo _ g)) fun k hk=>?_;refine BN.sum _ fun i hi=>?_;have:=(ho i (by omega)).oadd (e a (k - i) (by omega));exact this.mono (by omega)
theorem k90 {T:Int->Nat->ON} {ns M p:Nat} (hp:p<M) (b:p<=24) (f:∀ a k,k<=p->BN (1000*k) (T a k)) (c:∀ a,T a 0=none) (ys:List Int) (hl:ys.length<=5) (ha:∀ a∈ys,0<=a/\a<(ns:Int)):
  kgd (tabL T ns M) ys (p:Int)=some (rowE e1 (MP.rr T ys) (p+1)):=by
 have ew:w64 ((p:Int)+1)=((p+1:Nat):Int):=by rw [kbq (by omega) (by omega)];omega
 have e0:idx (rowE e1 (fun _=>none) (p+1)) 0=some (e1 none):=by have:=kih e1 (fun _=>none) (show 0<p+1 by omega);rw [show (0:Int)=((0:Nat):Int) from rfl,kaf,this]
 have es:(rowE e1 (fun _=>none) (p+1)).set (Int.toNat 0) 0=rowE e1 MP.dlt (p+1):=by have:=kuj e1 (fun _=>none) (p+1) 0 (some 0);refine Eq.trans this (kgt _ fun m hm=>?_);rfl
 unfold kgd;rw [ew,ksa (by omega) (by omega)];simp only [qa,e0,es];rw [kn6 (step:=kfa (tabL T ns M) ys (p:Int)) ys (fun (s:List Int) a=>Option.bind (kbd [1099511627776] ((p+1:Nat):Int)) fun v5=>kab (ka3 (tabL T ns M) (p:Int) (0,s) a) fuel (0,v5)) (fun i s=>(i,s)) (by omega) (fun i a s e=>by
  have hi:=kc6 e;have d:ka3 (tabL T ns M) (p:Int) ((i:Int),s) a=ka3 (tabL T ns M) (p:Int) (0,s) a:=rfl;simp only [kfa,kav hi,qf,kaf,e,qa,ew,d,kal hi (show ys.length<=9223372036854775807 by omega)];cases kbd [1099511627776] ((p+1:Nat):Int) with
  | none=>rfl
  | some v=>simp only [qa];cases kab (ka3 (tabL T ns M) (p:Int) (0,s) a) fuel (0,v) <;> rfl) (fun s=>by simp only [kfa,kaq,qc])]
 rw [kws hp b f c ys MP.dlt ha fun k hk=>by
  unfold SR.dlt;split;intro v hv;have hv:some 0=some v:=hv;cases hv;omega
  ·exact BN.none]
 simp only [qa];congr 1;exact kgt _ fun m _=>MP.lf_dlt T ys m
theorem k6l (l:La) {k:Nat} (h:k<l.rules.length):∃ y,l.rules[k]?=some y/\y.symbol=khs l k/\y.args=keo l k/\y∈l.rules:=
 ⟨l.rules[k],qb h,by unfold khs;rw [qb h];rfl,by unfold keo;rw [qb h];rfl,qq h⟩
theorem k8b (l:La) (w:List Int) (n:Nat) (s:Int) (k:Nat) (h:n<k):tabW l w n s k=none:=by unfold tabW;rw [SR.tab_eq,qk (by omega)];rfl
theorem k1a (l:La) (w:List Int) (n:Nat) (s:Int) (k:Nat) (h:k<=n):tabW l w n s k=valW l w s k:=by unfold tabW;rw [SR.tab_eq,qn h];rfl
def midW (l:La) (w:List Int) (n i:Nat) (s:Int) (k:Nat):ON:=if k=n+1 then MP.sum (fun i=>if khs l i=s then oadd (wAt w i) (MP.rr (tabW l w n) (keo l i) n) else none) i else tabW l w n s k
theorem k0j {l:La} {w:List Int} (b:∀ x∈w,0<=x/\x<=1000) (c:w.length=l.rules.length) (n:Nat) (hn:n<=24) (i:Nat) (s:Int) (k:Nat):BN (1000*k) (midW l w n i s k):=by
 unfold midW;split
 ·rename_i hk;subst hk;refine BN.sum _ fun i hi=>?_;split
  ·have h1:BN 1000 (wAt w i):=fun v hv=>by
    unfold wAt at hv;cases hv;cases d:w[i]? with
    | none=>simp
    | some x=>have:=b x (qm d);simp only [qw];omega
   have e:=h1.oadd (BN.rr (V:=tabW l w n) (keo l i) n fun a k _=>kls b n a k);exact e.mono (by omega)
  ·exact BN.none
 ·exact kls b n s k
theorem k51 {l:La} (D:ki6 l) {w:List Int} (m:∀ x∈w,0<=x/\x<=1000) (d:w.length=l.rules.length) {n most:Nat} (hn:n<most) (hm:most<=24) (z:List (List Int)):
  kab (kg1 l w ((n:Int),z)) fuel (0,tabL (tabW l w n) l.symbols.length (most+1))=some (tabL (tabW l w (n+1)) l.symbols.length (most+1)):=by
 have E:=D.rules;have ew:w64 ((n:Int)+1)=((n+1:Nat):Int):=by rw [kbq (by omega) (by omega)];omega
 have h:=kfg (step:=kg1 l w ((n:Int),z)) l.rules.length (by omega) (fun i=>((i:Int),tabL (midW l w n i) l.symbols.length (most+1))) (tabL (tabW l w (n+1)) l.symbols.length (most+1)) (fun i hi=>by
  obtain ⟨y,F,hs,o,e⟩:=k6l l hi;have gy:=D.good y e;obtain ⟨v,hv,r,f⟩:=k66 m (i:=i) (l:=l) (by omega);have g:0<=y.symbol/\y.symbol<(l.symbols.length:Int):=⟨gy.sym0,gy.sym1⟩;have j:=k90 (T:=midW l w n i) (ns:=l.symbols.length) (M:=most+1) (p:=n) (by omega) (by omega) (fun a k _=>k0j m d n (by omega) i a k) (fun a=>by unfold midW;rw [qk (by omega)];have h0:tabW l w n a 0=valW l w a 0:=k1a l w n a 0 (by omega);rw [h0];rfl) y.args gy.few gy.args;have t:MP.rr (midW l w n i) y.args n=MP.rr (tabW l w n) y.args n:=MP.rr_congr _ _ fun a _ k hk=>by unfold midW;rw [qk (by omega)]
  have e3:(rowE e1 (midW l w n i y.symbol) (most+1))[n+1]?=some (e1 (midW l w n i y.symbol (n+1))):=kih _ _ (by omega);have e4:(rowE e1 (MP.rr (midW l w n i) y.args) (n+1))[n]?=some (e1 (MP.rr (tabW l w n) y.args n)):=by rw [kih _ _ (by omega),t]
  have u:BN 100000 (midW l w n i y.symbol (n+1)):=(k0j m d n (by omega) i y.symbol (n+1)).mono (by omega);have A:BN 100000 (wAt w i):=by rw [f];intro q G;cases G;omega
  have B:BN 100000 (MP.rr (tabW l w n) y.args n):=(BN.rr (V:=tabW l w n) y.args n fun a k _=>kls m n a k).mono (by omega);have hc:=k2x u A B;have C:e1 (wAt w i)=(v:Int):=by rw [f];rfl
  rw [C] at hc;simp only [kg1,kav hi,qf,kaf,F,qa,kqi _ g,ew,e3,r,j,e4,hc,kal hi (show l.rules.length<=9223372036854775807 by omega),q8,kuj,k5a _ g];congr 3;refine ku7 fun s k hk=>?_;unfold midW;by_cases c:s=y.symbol
  ·rw [qn c];by_cases b:k=n+1;rw [qn b,qn b,qn rfl,SR.sum,<- hs,<- c,qn rfl,<- o];rfl
   ·rw [qk b,qk b,qk b,c]
  ·rw [qk c];by_cases b:k=n+1;rw [qn b,qn b,SR.sum,<- hs,qk (fun h=>c h.symm)];exact (kpd _).symm
   ·rw [qk b,qk b]) (by
  simp only [kg1,kaq,qc];rfl)
 have h0:tabL (tabW l w n) l.symbols.length (most+1)=tabL (midW l w n 0) l.symbols.length (most+1):=ku7 fun s k hk=>by
  unfold midW;by_cases b:k=n+1;rw [qn b,k8b l w n s k (by omega)];rfl
  ·rw [qk b]
 rw [h0];exact h
theorem k6w {l:La} (c:ki6 l) {w:List Int} (d:∀ x∈w,0<=x/\x<=1000) (a:w.length=l.rules.length) {most:Nat} (hm:most<=24):
  kab (kg5 l w (most:Int)) fuel (0,tabL (tabW l w 0) l.symbols.length (most+1))=some (tabL (tabW l w most) l.symbols.length (most+1)):=
 kfg (step:=kg5 l w (most:Int)) most (by omega) (fun j=>((j:Int),tabL (tabW l w j) l.symbols.length (most+1))) (tabL (tabW l w most) l.symbols.length (most+1)) (fun j b=>by simp only [kg5,kav b,qf,k51 c d a b hm,qa,kal b (show most<=9223372036854775807 by omega)]) (by simp only [kg5,kaq,qc])
theorem k6s (ns:Nat) (b:ns<=16) {most:Nat} (hm:most<=24) (T:Int->Nat->ON) (c:∀ s k,T s k=none):kab (kg2 (most:Int) (List.replicate ns ([]:List Int))) fuel (0,List.replicate ns ([]:List Int))=some (tabL T ns (most+1)):=by
 have ew:w64 ((most:Int)+1)=((most+1:Nat):Int):=by rw [kbq (by omega) (by omega)];omega
 have h:=kfg (step:=kg2 (most:Int) (List.replicate ns ([]:List Int))) ns (by omega) (fun j=>((j:Int),List.replicate j (rowE e1 (fun _=>none) (most+1))++List.replicate (ns - j) ([]:List Int))) (tabL T ns (most+1)) (fun j a=>by
  have e1':(List.replicate j (rowE e1 (fun _=>none) (most+1))++List.replicate (ns - j) ([]:List Int))[j]?=some []:=by rw [qai (by rw [qap];omega),qap,Nat.sub_self,qbc,qn (by omega)]
  have e2':(List.replicate j (rowE e1 (fun _=>none) (most+1))++List.replicate (ns - j) ([]:List Int)).set j (rowE e1 (fun _=>none) (most+1))=List.replicate (j+1) (rowE e1 (fun _=>none) (most+1))++List.replicate (ns - (j+1)) ([]:List Int):=by rw [List.set_append_right _ _ (by rw [qap];omega),qap,Nat.sub_self,show ns - j=(ns - (j+1))+1 by omega,List.replicate_succ,List.set_cons_zero,List.replicate_succ',qbd];rfl
  simp only [kg2,qap,kav a,qf,ew,ksa (show 1<=most+1 by omega) (show most+1<=25 by omega),qa,kaf,e1',q8,e2',kal a (show ns<=9223372036854775807 by omega)]) (by
  have hl:(List.replicate ns ([]:List Int)).length=ns:=qap;simp only [kg2,hl,kaq,qc];congr 2;rw [Nat.sub_self,List.replicate_zero,qbo];refine qbn fun i=>?_;by_cases hi:i<ns;rw [qbc,qn hi];have:=kqi T (n:=ns) (m:=most+1) (s:=(i:Int)) ⟨by omega,by omega⟩;rw [kaf] at this;rw [this];congr 1;exact kgt _ fun m _=>(c _ _).symm
  ·rw [qbc,qk hi,qao (by rw [kqz];omega)])
 rw [Nat.sub_zero,List.replicate_zero,List.nil_append] at h;exact h
theorem k9c (f:Nat->ON) (n:Nat) (hn:n<=24) (hf:∀ k,k<=n->BN 100000 (f k)):kgv (rowE e1 f (n+1))=some (e1 (MP.sum f (n+1))):=by
 have d:∀ j,j<=n+1->BN 100000 (MP.sum f j):=fun j e=>BN.sum _ fun i hi=>hf i (by omega);have a:∀ {x y:ON},BN 100000 x->BN 100000 y->imin (e1 x) (e1 y)=e1 (omin x y):=fun {x y} g c=>by have h:=k2x g c (show BN 100000 (some 0) from fun v hv=>by cases hv;omega);have l:=kx0 c;have e0:e1 (some 0)=0:=rfl;rw [e0,Int.add_zero,kbq (by omega) (by omega)] at h;rw [h];congr 2;cases y <;> rfl
 have h0:idx (rowE e1 f (n+1)) 0=some (e1 (f 0)):=by have:=kih e1 f (show 0<n+1 by omega);rw [show (0:Int)=((0:Nat):Int) from rfl,kaf,this]
 unfold kgv;rw [kiu,qe (by omega)];simp only [qc,h0,qa];have h:=kfg (step:=kfp (rowE e1 f (n+1))) n (by omega) (fun j=>(e1 (MP.sum f (j+1)),((j+1:Nat):Int))) (e1 (MP.sum f (n+1))) (fun j e=>by
  have e3:=kih e1 f (show j+1<n+1 by omega);have ew:w64 (((j+1:Nat):Int)+1)=((j+1+1:Nat):Int):=by rw [kbq (by omega) (by omega)];omega
  simp only [kfp,kiu,kav (show j+1<n+1 by omega),qf,kaf,e3,qa,ew,a (d (j+1) (by omega)) (hf (j+1) (by omega))];rfl) (by
  have hl:=kiu e1 f (n+1);simp only [kfp,hl,kaq,qc])
 have b:e1 (MP.sum f (0+1))=e1 (f 0):=by rw [SR.sum,SR.sum];rfl
 rw [b] at h;rw [show (1:Int)=((0+1:Nat):Int) from rfl,h];rfl
def ansW:ON->Int×Int
 | some v=>((v:Int),0)
 | none=>(0,12)
theorem k2e {l:La} (d:ki6 l) {w:List Int} (hc:khn l w=some 0) (b:∀ x∈w,0<=x/\x<=1000) (a:w.length=l.rules.length) {s:Int} (hs:0<=s/\s<(l.symbols.length:Int)) {most:Nat} (h1:1<=most) (hm:most<=24):
  kij l w s (most:Int)=some (ansW (MP.sum (valW l w s) (most+1))):=by
 have c:=d.sym16;unfold kij;rw [hc,qe (show ¬ s<0 by omega),qe (show ¬ (l.symbols.length:Int)<=s by omega),qe (show ¬ (most:Int)<1 by omega),qe (show ¬ (24:Int)<(most:Int) by omega)];simp only [bne_self_eq_false,qc,qa,kmp 24 ([]:List Int) l.symbols.length (by omega),k6s l.symbols.length c hm (tabW l w 0) (fun _ _=>rfl),k6w d b a hm,kqi _ hs,k9c (tabW l w most s) most hm (fun k hk=>(kls b most s k).mono (by omega))];have e:MP.sum (tabW l w most s) (most+1)=MP.sum (valW l w s) (most+1):=MP.sum_congr _ fun k hk=>k1a l w most s k (by omega);rw [e];have f:BN 100000 (MP.sum (valW l w s) (most+1)):=BN.sum _ fun k hk=>(kaal b s k).mono (by omega);cases g:MP.sum (valW l w s) (most+1) with
 | none=>rfl
 | some v=>
  have:=f v g;show (bif decide ((v:Int)<1099511627776) then some ((v:Int),0) else some (0,12))=_;rw [qh (by omega)];rfl
end Go.Proofs.YtpcfkflhnkfjjaaGreat
