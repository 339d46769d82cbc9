import Derived.Test.YtaimpcnpifoidaaGreatDoorNb
set_option linter.unusedVariables false
set_option linter.unusedSimpArgs false
set_option maxRecDepth 100000
namespace Go.Proofs.YtaimpcnpifoidaaGreatDoor
open Go Go.RowKit
theorem ktd (g:Tm→Int) (t:Tm):t.pre g=g t::Tm.preL g t.args:=by cases t;rfl
theorem knf {t x:Tm} (h:x∈t.args):x.size<t.size:=by
 have:=Tm.sizeL_mem h
 have:=kk0 (t:=t)
 omega
theorem kvm (t:Tm):t.args.length<t.size:=by
 have:=kgd t.args
 have:=kk0 (t:=t)
 omega
theorem kvb (g:Tm→Int) (r:Tm→Option (List Int)):∀ (xs:List Tm) (acc:List Int),acc.length+Tm.sizeL xs≤1000000→(∀ x∈xs,r x=some (x.pre g))→xs.foldlM (fun s x=>Option.bind (r x) fun v=>app 8 s v) acc=some (acc++Tm.preL g xs)
 | [],acc,_,_=>by simp [Tm.preL]
 | x::xs,acc,hl,h=>by
  have hs:Tm.sizeL (x::xs)=x.size+Tm.sizeL xs:=rfl
  rw [List.foldlM_cons,h x (qo ..),qa,kk9 (by rw [Tm.pre_length];omega)]
  have:=kvb g r xs (acc++x.pre g) (by rw [ql,Tm.pre_length];omega) fun y hy=>h y (qk _ hy)
  show List.foldlM _ (acc++x.pre g) xs=_
  rw [this,qaa]
  rfl
theorem kvj:∀ (n:Nat) (t:Tm),t.size≤n→t.size≤1000→kci n t=some t.rules
 | 0,t,h,_=>by have:=Tm.size_pos t;omega
 | n+1,t,h,hl=>by
  show kgf (kci n) t=_
  have hal:=kvm t
  have hsa:=kk0 (t:=t)
  unfold kgf
  rw [kxr (step:=kf0 t (kci n)) t.args (fun s x=>Option.bind (kci n x) fun v=>app 8 s v) (fun i s=>(i,s)) (by omega) (fun i x s hx=>by
   have hi:=k4v hx
   simp only [kf0,kbb hi,qd,kak,hx,qa,kg9 hi (show t.args.length≤9223372036854775807 by omega)]
   cases kci n x with
   | none=>rfl
   | some v=>simp only [qa];cases app 8 s v <;> rfl) (fun s=>by simp only [kf0,kez,qb])]
  rw [kvb Tm.rule _ t.args _ (by rw [qau];omega) fun x hx=>kvj n x (by have:=knf hx;omega) (by have:=knf hx;omega)]
  show some _=some (t.pre Tm.rule)
  rw [ktd]
  rfl
theorem ksa:∀ (n:Nat) (t:Tm),t.size≤n→t.size≤1000→kb4 n t=some t.arities
 | 0,t,h,_=>by have:=Tm.size_pos t;omega
 | n+1,t,h,hl=>by
  show kfq (kb4 n) t=_
  have hal:=kvm t
  have hsa:=kk0 (t:=t)
  unfold kfq
  rw [kxr (step:=kfe t (kb4 n)) t.args (fun s x=>Option.bind (kb4 n x) fun v=>app 8 s v) (fun i s=>(i,s)) (by omega) (fun i x s hx=>by
   have hi:=k4v hx
   simp only [kfe,kbb hi,qd,kak,hx,qa,kg9 hi (show t.args.length≤9223372036854775807 by omega)]
   cases kb4 n x with
   | none=>rfl
   | some v=>simp only [qa];cases app 8 s v <;> rfl) (fun s=>by simp only [kfe,kez,qb])]
  rw [kvb Tm.nargs _ t.args _ (by rw [qau];omega) fun x hx=>ksa n x (by have:=knf hx;omega) (by have:=knf hx;omega)]
  show some _=some (t.pre Tm.nargs)
  rw [ktd]
  rfl
theorem k03 (r:Tm→Option Int):∀ (xs:List Tm) (s:Nat),s+Tm.sizeL xs≤1000000→(∀ x∈xs,r x=some (x.size:Int))→xs.foldlM (fun (s:Int) x=>Option.bind (r x) fun v=>some (w64 (s+v))) (s:Int)=some ((s+Tm.sizeL xs:Nat):Int)
 | [],s,_,_=>by simp [Tm.sizeL]
 | x::xs,s,hl,h=>by
  have hs:Tm.sizeL (x::xs)=x.size+Tm.sizeL xs:=rfl
  rw [List.foldlM_cons,h x (qo ..),qa,kei (by omega) (by omega)]
  have:=k03 r xs (s+x.size) (by omega) fun y hy=>h y (qk _ hy)
  show List.foldlM _ ((s:Int)+(x.size:Int)) xs=_
  rw [show (s:Int)+(x.size:Int)=((s+x.size:Nat):Int) by omega,this,hs]
  congr 2
  omega
theorem kti:∀ (n:Nat) (t:Tm),t.size≤n→t.size≤1000→ka1 n t=some (t.size:Int)
 | 0,t,h,_=>by have:=Tm.size_pos t;omega
 | n+1,t,h,hl=>by
  show kec (ka1 n) t=_
  have hal:=kvm t
  have hsa:=kk0 (t:=t)
  unfold kec
  rw [kxr (step:=kc7 t (ka1 n)) t.args (fun s x=>Option.bind (ka1 n x) fun v=>some (w64 (s+v))) (fun i s=>(s,i)) (by omega) (fun i x s hx=>by
   have hi:=k4v hx
   simp only [kc7,kbb hi,qd,kak,hx,qa,kg9 hi (show t.args.length≤9223372036854775807 by omega)]
   cases ka1 n x <;> rfl) (fun s=>by simp only [kc7,kez,qb])]
  have:=k03 (ka1 n) t.args 1 (by omega) fun x hx=>kti n x (by have:=knf hx;omega) (by have:=knf hx;omega)
  rw [show (1:Int)=((1:Nat):Int) from rfl,this,qa]
  congr 2
  omega
def lexC:List Int→List Int→Int
 | x::xs,y::ys=>if x<y then -1 else if y<x then 1 else lexC xs ys
 | _,_=>0
def lexO:List Int→List Int→Unit ⊕ Int
 | x::xs,y::ys=>if x<y then .inr (-1) else if y<x then .inr 1 else lexO xs ys
 | _,_ => .inl ()
theorem k7c:∀ xs ys:List Int,Sum.elim (fun _=>0) id (lexO xs ys)=lexC xs ys
 | [],_=>rfl
 | _::_,[]=>rfl
 | x::xs,y::ys=>by
  simp only [lexO,lexC]
  split
  ·rfl
  ·split
   ·rfl
   ·exact k7c xs ys
theorem k6p (x y:List Int) (hl:x.length=y.length) (hx:x.length≤1000000):kds x y=some (lexC x y):=by
 unfold kds
 have h:=kkp (step:=kcz x y) x.length (by omega) (fun i=>(i:Int)) (fun i=>lexO (x.drop i) (y.drop i)) (fun i hi=>by
  have hy:i<y.length:=by omega
  simp only [kcz,kbb hi,kbb hy,qd,kak,List.getElem?_eq_getElem hi,List.getElem?_eq_getElem hy,qa,kg9 hi (show x.length≤9223372036854775807 by omega),qv hi,qv hy,lexO]
  by_cases h1:x[i]<y[i]
  ·rw [qe h1,if_pos h1];exact .inr rfl
  ·rw [qc h1,if_neg h1]
   by_cases h2:y[i]<x[i]
   ·rw [qe h2,if_pos h2];exact .inr rfl
   ·rw [qc h2,if_neg h2];exact .inl ⟨rfl,rfl⟩) (by
  simp only [kcz,kez,qb,List.drop_length,lexO,qa])
 have h':kaa (kcz x y) fuel 0=some (lexO x y):=by simpa using h
 rw [h',qa,← k7c]
 cases lexO x y with
 | inr c=>rfl
 | inl u=>
  simp only [qf]
  unfold kfw
  have e1:decide ((x.length:Int)<(y.length:Int))=false:=qc (by omega)
  have e2:decide ((y.length:Int)<(x.length:Int))=false:=qc (by omega)
  simp [e1,e2,hl]
def cmpT (a b:Tm):Int:=if a.size<b.size then -1 else if b.size<a.size then 1 else if lexC a.rules b.rules≠0 then lexC a.rules b.rules else lexC a.arities b.arities
theorem kaiy (a b:Tm) (ha:a.size≤1000) (hb:b.size≤1000):ke6 a b=some (cmpT a b):=by
 unfold ke6 cmpT
 rw [kti (fuel+a.size) a (by omega) ha,kti (fuel+b.size) b (by omega) hb]
 simp only [qa,kfw]
 by_cases h1:a.size<b.size
 ·rw [if_pos h1,qe (show (a.size:Int)<(b.size:Int) by omega)];rfl
 rw [if_neg h1,qc (show ¬ (a.size:Int)<(b.size:Int) by omega)]
 by_cases h2:b.size<a.size
 ·rw [if_pos h2,qe (show (b.size:Int)<(a.size:Int) by omega)];rfl
 rw [if_neg h2,qc (show ¬ (b.size:Int)<(a.size:Int) by omega)]
 simp only [qb,qa,show ((0:Int) != 0)=false from rfl]
 rw [kvj fuel a (qa2 (kbg (by omega))) ha,kvj fuel b (qa2 (kbg (by omega))) hb]
 simp only [qa]
 rw [k6p a.rules b.rules (by rw [Tm.rules_length,Tm.rules_length];omega) (by rw [Tm.rules_length];omega),qa]
 by_cases h3:lexC a.rules b.rules=0
 ·rw [if_neg (by simpa using h3),h3,show ((0:Int) != 0)=false from rfl,qb]
  rw [ksa fuel a (qa2 (kbg (by omega))) ha,ksa fuel b (qa2 (kbg (by omega))) hb]
  simp only [qa]
  rw [k6p a.arities b.arities (by rw [Tm.arities_length,Tm.arities_length];omega) (by rw [Tm.arities_length];omega)]
  rfl
 ·rw [if_pos h3,show (lexC a.rules b.rules != 0)=true by rw [qas];exact h3]
  rfl
theorem k1a:∀ xs:List Int,lexC xs xs=0
 | []=>rfl
 | x::xs=>by simp only [lexC,Int.lt_irrefl,if_false];exact k1a xs
end Go.Proofs.YtaimpcnpifoidaaGreatDoor
