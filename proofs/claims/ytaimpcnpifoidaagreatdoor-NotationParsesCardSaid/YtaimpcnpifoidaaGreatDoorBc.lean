import Derived.Test.YtaimpcnpifoidaaGreatDoorNj
set_option linter.all false
set_option maxRecDepth 100000
namespace Go.Proofs.YtaimpcnpifoidaaGreatDoor
open Go Go.RowKit
def wc (c:UInt8):Bool:=decide (letC c) || decide (digC c)
def wdL:List UInt8->List UInt8
 | []=>[]
 | c::t=>if letC c then (c::t).takeWhile wc else []
def litM (r:List UInt8):(Va×List UInt8) ⊕ List UInt8:=match oneP.run r with
 | (some v,m) => .inl (v,m)
 | (none,m)=>if r.head?=some 48 then .inl (Va.mk 2 0 ⟨#[]⟩ [],r.tail) else .inr m
def kabx:List UInt8:=[116,114,117,101]
def k7z:List UInt8:=[102,97,108,115,101]
def litW (w r:List UInt8):Prop:=w=[]\/w=kabx\/w=k7z\/(w=[114]/\r.tail.head?=some 34)
instance (w r:List UInt8):Decidable (litW w r):=by unfold litW;infer_instance
def kff:List UInt8->List UInt8->List UInt8 ⊕ List UInt8
 | [],r => .inl r
 | _::_,[] => .inr []
 | c::t,d::r=>if d=c then kff t r else .inr (d::r)
def sepW (k:Nat):List UInt8:=if k=0 then [40] else [44,32]
def argL (f:List UInt8->(Ex×List UInt8) ⊕ List UInt8):Nat->Nat->List Ex->List UInt8->(List Ex×List UInt8) ⊕ List UInt8
 | 0,_,acc,r => .inl (acc,r)
 | left+1,k,acc,r=>match kff (sepW k) r with
  | .inr m => .inr m
  | .inl m=>match f m with
   | .inr q => .inr q
   | .inl (x,q)=>argL f left (k+1) (acc++[x]) q
def opM (w:List UInt8):Option Nat:=match ka7 (mkB w) with
 | some (o,true)=>some o.f_Args.length
 | _=>none
def exM:Nat->List UInt8->(Ex×List UInt8) ⊕ List UInt8
 | 0,r => .inr r
 | n+1,r=>if litW (wdL r) r then (match litM r with
   | .inl (v,m) => .inl (Ex.mk 2 0 v ⟨#[]⟩ [],m)
   | .inr m => .inr m)
  else match inpL (wdL r) with
   | some k => .inl (Ex.mk 1 (k:Int) kcw ⟨#[]⟩ [],r.drop (wdL r).length)
   | none=>match opM (wdL r) with
    | some c=>(match argL (exM n) c 0 [] (r.drop (wdL r).length) with
     | .inr m => .inr m
     | .inl (acc,m)=>match kff [41] m with
      | .inl q => .inl (Ex.mk 3 0 kcw (mkB (wdL r)) acc,q)
      | .inr q => .inr q)
    | none => .inr r
theorem k09 {s r:List UInt8} (h:r <:+ s):s.drop (s.length - r.length)=r:=(List.suffix_iff_eq_drop.1 h).symm
theorem kj6 {s r:List UInt8} (h:r <:+ s):r.length<=s.length:=List.IsSuffix.length_le h
def pos (s r:List UInt8):Int:=((s.length - r.length:Nat):Int)
theorem kql {s t:List UInt8} {c:UInt8} (h:(c::t) <:+ s):byt (mkB s) (pos s (c::t))=some (c.toNat:Int):=by
 have hl:=kj6 h;have hd:=k09 h;simp only [qu] at hl;unfold pos;have hi:s.length - (t.length+1)<s.length:=by omega
 rw [qu] at hd ⊢;rw [k2d (by rw [kb9];exact hi)];congr 2;simp only [kb9];rw [qaa hi] at hd;rw [(List.cons.inj hd).1]
theorem krk {s r:List UInt8} (h:r <:+ s):decide (pos s r<((mkB s).size:Int))=decide (r≠[]):=by
 have hl:=kj6 h;rw [kb8];unfold pos;cases r with
 | nil=>rw [qb (by simp),qb (by simp)]
 | cons c t=>rw [qe (by simp only [qu] at hl ⊢; omega),qe (by simp)]
theorem kae7 {s r:List UInt8} (h:r <:+ s):decide (((mkB s).size:Int)<=pos s r)=decide (r=[]):=by
 have hl:=kj6 h;rw [kb8];unfold pos;cases r with
 | nil=>rw [qe (by simp),qe (by simp)]
 | cons c t=>rw [qb (by simp only [qu] at hl ⊢; omega),qb (by simp)]
theorem k3i {s r:List UInt8} (h:r <:+ s):cutS (mkB s) (pos s r) ((mkB s).size:Int)=some (mkB r):=by
 have e:(mkB s).data.toList=s.take (s.length - r.length)++r:=by
  rw [kb9]
  conv=>lhs;rw [<- qa9 (s.length - r.length) s,k09 h]
 have:=kaip e;rw [qah,Nat.min_eq_left (by omega)] at this;exact this
theorem k25 {s a m:List UInt8} (h:(a++m) <:+ s):pos s m=pos s (a++m)+(a.length:Int):=by have:=kj6 h;rw [qr] at this;unfold pos;rw [qr];omega
theorem k3o {s a m:List UInt8} (h:(a++m) <:+ s):m <:+ s:=(List.suffix_append a m).trans h
theorem k3t {s a m:List UInt8} (h:(a++m) <:+ s):cutS (mkB s) (pos s (a++m)) (pos s m)=some (mkB a):=by have hl:=kj6 h;have hd:=k09 h;rw [qr] at hl;rw [k25 h];unfold pos;have:=kxx (s:=mkB s) (i:=s.length - (a++m).length) (w:=a.length) (by rw [kb8,qr];omega);rw [kb9,hd,List.take_left] at this;rw [<- this];congr 1
theorem kvs {s a m:List UInt8} (hs:s.length<=4000000) (h:(a++m) <:+ s):w64 (pos s (a++m)+(a.length:Int))=pos s m:=by rw [<- k25 h];unfold pos;rw [kdn (by omega) (by omega)]
theorem kmk {s t:List UInt8} {c:UInt8} (hs:s.length<=4000000) (h:(c::t) <:+ s):w64 (pos s (c::t)+1)=pos s t:=kvs (a:=[c]) hs h
theorem krh {s t:List UInt8} {c:UInt8} (h:(c::t) <:+ s):t <:+ s:=k3o (a:=[c]) h
theorem kadn (p:UInt8->Bool) (r:List UInt8):r.takeWhile p++r.drop (r.takeWhile p).length=r:=by
 have h:=List.takeWhile_append_dropWhile (p:=p) (l:=r);have e:r.drop (r.takeWhile p).length=r.dropWhile p:=by
  conv=>lhs;rw [<- h]
  rw [List.drop_append_of_le_length (by rw [h];exact qy _)];simp
 rw [e];exact h
theorem koo (r:List UInt8):wdL r++r.drop (wdL r).length=r:=by
 cases r with
 | nil=>rfl
 | cons c t=>
  rw [wdL];by_cases h:letC c;rw [qj h];exact kadn wc _
  ·rw [qg h];rfl
theorem kacp {s r0:List UInt8} (hs:s.length<=4000000) (h0:r0 <:+ s) {step:Int->Option (Int ⊕ Int)}
  (a:∀ r,r <:+ s->step (pos s r)=some (match r with | [] => .inr (pos s r) | c::t=>if wc c=true then .inl (pos s t) else .inr (pos s r))):
  kaa step fuel (pos s r0)=some (pos s (r0.drop (r0.takeWhile wc).length)):=by
 have key:∀ (r:List UInt8) (n:Nat),r <:+ s->r.length<n->kaa step n (pos s r)=some (pos s (r.drop (r.takeWhile wc).length)):=by
  intro r
  induction r with
  | nil=>
   intro n h hn;obtain ⟨n,rfl⟩:∃ j,n=j+1:=⟨n - 1,by omega⟩;rw [kbm (a [] h)];rfl
  | cons c t ih=>
   intro n h hn;obtain ⟨n,rfl⟩:∃ j,n=j+1:=⟨n - 1,by omega⟩;have hs:=a (c::t) h;simp only at hs;by_cases b:wc c=true;rw [qj b] at hs;rw [kgj hs,ih n (krh h) (by simp only [qu] at hn;omega),List.takeWhile_cons,qj b];rfl
   ·rw [qg b] at hs;rw [kbm hs,List.takeWhile_cons,qg b];rfl
 exact key r0 fuel h0 (by have:=kj6 h0;exact kbk (by omega))
theorem kanj {s r:List UInt8} (hs:s.length<=4000000) (h:r <:+ s):kg3 ⟨mkB s,pos s r⟩=some (mkB (r.takeWhile wc)):=by
 unfold kg3;rw [kacp hs h (step:=khn ⟨mkB s,pos s r⟩) (fun q a=>?_),qa]
 ·have e:=kadn wc r;have h2:(r.takeWhile wc++r.drop (r.takeWhile wc).length) <:+ s:=by rw [e];exact h
  have:=k3t h2;rw [e] at this;rw [this];rfl
 ·unfold khn;rw [krk a];cases q with
  | nil=>rfl
  | cons c t=>
   rw [qe (by simp),qf,kql a];simp only [qa,k42,kagc,kmk hs a];unfold wc;by_cases h1:letC c;rw [qe h1];rfl
   ·rw [qb h1];by_cases h2:digC c;rw [qe h2];rfl
    ·rw [qb h2];rfl
def muR (s:List UInt8):List UInt8 ⊕ List UInt8->Int ⊕ (Int×Int)
 | .inl r => .inl (pos s r)
 | .inr r => .inr (pos s r,pos s r)
theorem kox:∀ (t r:List UInt8),match kff t r with
  | .inl m=>r=t++m
  | .inr m=>m <:+ r
 | [],r=>rfl
 | _::_,[]=>List.suffix_refl _
 | c::t,d::r=>by
  rw [kff];by_cases h:d=c
  ·rw [qj h];have:=kox t r;cases hm:kff t r with
   | inl m=>rw [hm] at this;simp only at this ⊢; rw [h,this];rfl
   | inr m=>rw [hm] at this;exact this.trans (List.suffix_cons d r)
  ·rw [qg h];exact List.suffix_refl _
theorem kado {s r t:List UInt8} (hs:s.length<=4000000) (ht:t.length<=100) (h:r <:+ s):kfj ⟨mkB s,pos s r⟩ (⟨t.toArray⟩:BA)=some (muR s (kff t r)):=by
 have a:((⟨t.toArray⟩:BA)).size=t.length:=by show (mkB t).size=_;rw [kb8]
 unfold kfj;have main:Ev (kaa (kfw ⟨mkB s,pos s r⟩ (⟨t.toArray⟩:BA)) fuel (0,pos s r)) (·=muR s (kff t r)):=by
  refine kj5 t.length (fun k v=>∃ q,q <:+ s/\v=((k:Int),pos s q)/\kff t r=kff (t.drop k) q) (by omega) ⟨r,h,rfl,by rw [qaz]⟩ (fun k v hk ⟨q,d,e,f⟩=>?_) fun v ⟨q,d,e,f⟩=>?_
  ·subst e;have g:byt (⟨t.toArray⟩:BA) (k:Int)=some ((t[k]).toNat:Int):=k2d (s:=⟨t.toArray⟩) (i:=k) hk;have hd:=qaa hk;unfold kfw;rw [a];simp only [kbd hk,qf,kae7 d];cases q with
   | nil=>
    rw [qe rfl];refine kni (b := .inr (pos s [],pos s [])) rfl ?_;rw [f,hd];rfl
   | cons c m=>
    rw [qb (by simp),qd,kql d,g];simp only [qa];by_cases hc:c=t[k];rw [show ((c.toNat:Int) != (t[k].toNat:Int))=false by rw [hc];exact bne_self_eq_false _,qd,kmk hs d,w64s k (by omega)];refine knn (s:=(((k+1:Nat):Int),pos s m)) rfl ⟨m,krh d,rfl,?_⟩;rw [f,hd,kff,qj hc]
    ·rw [show ((c.toNat:Int) != (t[k].toNat:Int))=true by rw [qbl];intro e;exact hc (cEq e),qf];refine kni (b := .inr (pos s (c::m),pos s (c::m))) rfl ?_;rw [f,hd,kff,qg hc];rfl
  ·subst e;refine knl (b := .inl (pos s q)) ?_ (by rw [f,List.drop_length];rfl);unfold kfw;rw [a];simp only [kfm,qd]
 rw [main.eq,qa];cases kff t r <;> rfl
theorem k82 {f:Nat}:∀ {n:Int} {l:List UInt8},∃ v m,(kcz f n).run l=(some v,m):=by
 induction f with
 | zero=>intro n l;exact ⟨n,l,rfl⟩
 | succ f ih=>
  intro n l;rw [kcz];split;exact ⟨n,l,rfl⟩
  ·show ∃ v m,Pr.run (if 48<=hd l/\hd l<=57/\n*10+(hd l - 48)<=1000000 then .adv (kcz f (n*10+(hd l - 48))) else .done n) l=(some v,m);split;exact ih
   ·exact ⟨n,l,rfl⟩
theorem k72 {neg:Bool} {c:UInt8} {l:List UInt8} (h:dig c) (h2:neg=true->c≠48):∃ v m,(unsP neg).run (c::l)=(some v,m):=by unfold unsP;show ∃ v m,Pr.run (if (c.toNat:Int)<48\/57<(c.toNat:Int)\/(neg=true/\(c.toNat:Int)=48) then .fail else _) (c::l)=(some v,m);unfold dig at h;rw [qg (by rintro (h3 | h3 | ⟨h3,a⟩) <;> first | omega | exact h2 h3 (cEq (d:=48) a))];show ∃ v m,Pr.run (Pr.bind (kcz 7 ((c.toNat:Int) - 48)) _) l=(some v,m);rw [run_bind];obtain ⟨v,m,e⟩:=k82 (f:=7) (n:=(c.toNat:Int) - 48) (l:=l);rw [e];exact ⟨_,_,rfl⟩
theorem kafe {v:Va} {m m':List UInt8} (hv:kir v) (h:oneP.run (kad v++m)=(none,m')):v=Va.mk 2 0 ⟨#[]⟩ []/\hd m=120:=by
 by_cases hi:kqz v
 ·obtain ⟨n,rfl,n1,n2⟩:=hi;have e:kad (Va.mk 2 n ⟨#[]⟩ [])=kd8 n:=by simp [kad]
  rw [e] at h;obtain ⟨d,ds,f,i,_,g,_⟩:=kza n.natAbs;have a:=i d (qt ..);have pk:∀ (c:UInt8) (l:List UInt8),oneP.run (c::l)=((fun c:Int=>(if c=116 then (kbc [116,114,117,101]).bind fun _ => .done (Va.mk 1 1 ⟨#[]⟩ [])
 else if c=102 then (kbc [102,97,108,115,101]).bind fun _ => .done (Va.mk 1 0 ⟨#[]⟩ [])
 else if c=34 then textE
 else if c=114 then .adv ((kdw 1 40).bind fun s => .done (Va.mk 8 0 (toBA s) []))
 else if c=91 then .adv ((kbg 93 0 (fun _=>intE) 16 []).bind fun l => .done (Va.mk 5 0 ⟨#[]⟩ l))
 else if c=123 then .adv ((kbg 125 0 (fun _=>textE) 16 []).bind fun l => .done (Va.mk 6 0 ⟨#[]⟩ l))
 else if c=60 then .adv ((kbg 62 0 rowE 8 []).bind fun l => .done (Va.mk 7 0 ⟨#[]⟩ l))
 else if c=48 then .adv (.peek fun d=>if d=120 then .adv (bitsP.bind fun n => .done (Va.mk 4 n ⟨#[]⟩ [])) else .done (Va.mk 2 0 ⟨#[]⟩ []))
 else intE:Pr Va)) (c.toNat:Int)).run (c::l):=fun c l=>rfl
  by_cases j:n<0;have e2:kd8 n=45::d::ds:=(by unfold kd8;rw [qj j,f]);have hne:d≠48:=(by have:=g (by omega);intro e;subst e;simp at this);rw [e2,qam,pk] at h;simp only [show ((45:UInt8).toNat:Int)=45 from rfl,show ¬ ((45:Int)=116) by decide,show ¬ ((45:Int)=102) by decide,show ¬ ((45:Int)=34) by decide,show ¬ ((45:Int)=114) by decide,show ¬ ((45:Int)=91) by decide,show ¬ ((45:Int)=123) by decide,show ¬ ((45:Int)=60) by decide,show ¬ ((45:Int)=48) by decide,qa4] at h;unfold intE at h;rw [run_bind] at h;have hn:∃ v q,numP.run (45::(d::ds++m))=(some v,q):=(by unfold numP;show ∃ v q,Pr.run (if (45:Int)=45 then Pr.adv (unsP true) else unsP false) (45::(d::ds++m))=(some v,q);rw [qj rfl];exact k72 a fun _=>hne);obtain ⟨v,q,e3⟩:=hn;rw [e3] at h;cases h
  ·have e2:kd8 n=d::ds:=(by unfold kd8;rw [qg j,f]);unfold dig at a;rw [e2,qam,pk] at h;dsimp only at h;rw [qg (by omega),qg (by omega),qg (by omega),qg (by omega),qg (by omega),qg (by omega),qg (by omega)] at h;by_cases h0:n=0
   ·subst h0;have e0:kd8 0=[48]:=(by unfold kd8;rw [qg (by decide)];show decN 0=_;rw [decN];rfl);rw [e0] at e2;obtain ⟨rfl,rfl⟩:=List.cons.inj e2;rw [qj (show ((48:UInt8).toNat:Int)=48 from rfl)] at h;refine ⟨rfl,?_⟩;have h:Pr.run ((fun d:Int=>if d=120 then .adv (bitsP.bind fun n => .done (Va.mk 4 n ⟨#[]⟩ [])) else .done (Va.mk 2 0 ⟨#[]⟩ [])) (hd m)) m=(none,m'):=h;dsimp only at h;by_cases b:hd m=120;exact b
    ·rw [qg b] at h;cases h
   ·have hne:¬ (d.toNat:Int)=48:=(by have:=g (by omega);omega);rw [qg hne] at h;unfold intE at h;rw [run_bind] at h;have hn:∃ v q,numP.run (d::(ds++m))=(some v,q):=(by unfold numP;show ∃ v q,Pr.run (if (d.toNat:Int)=45 then Pr.adv (unsP true) else unsP false) (d::(ds++m))=(some v,q);rw [qg (by omega)];exact k72 ⟨a.1,a.2⟩ fun h=>by cases h);obtain ⟨v,q,e3⟩:=hn;rw [e3] at h;cases h
 ·rw [k0a hv fun h=>absurd h hi] at h;cases h
theorem kku (r:List UInt8):∃ o j,oneP.run r=(o,r.drop j)/\j<=r.length/\oneP.ev (mkB r) 0=(o,j):=by have e:=kvr (mkB r) oneP 0;have hl:=k6g (mkB r);rw [qaz,kb9] at e;rw [kb8] at hl;exact ⟨_,_,e,hl,rfl⟩
theorem k79 {r:List UInt8} {j:Nat} (h:oneP.ev (mkB r) 0=(none,j)):prV (mkB r)=(Va.mk 0 0 ⟨#[]⟩ [],(j:Int),8):=by unfold prV;rw [h]
theorem k8i {r:List UInt8} {v:Va} {j:Nat} (h:oneP.ev (mkB r) 0=(some v,j)):prV (mkB r)=if j<r.length then (Va.mk 0 0 ⟨#[]⟩ [],(j:Int),8) else (v,0,0):=by unfold prV;rw [h,kb8]
theorem k0k {r:List UInt8} {j k:Nat} (h:oneP.ev (mkB r) 0=(none,j)) (hk:(prV (mkB (r.take k))).2.2=0):k=1/\(∃ t,r=48::120::t)/\(prV (mkB (r.take k))).1=Va.mk 2 0 ⟨#[]⟩ []:=by
 obtain ⟨e1,e2⟩:=kags hk;obtain ⟨o,j',h1,h2,h3⟩:=kku r;rw [h] at h3;obtain ⟨rfl,rfl⟩:=Prod.mk.inj h3;have er:r=kad (prV (mkB (r.take k))).1++r.drop k:=by rw [<- e1,qa9]
 rw [er] at h1;generalize (prV (mkB (r.take k))).1=v at e1 e2 h1 er;obtain ⟨rfl,a⟩:=kafe e2 h1;have e0:kad (Va.mk 2 0 ⟨#[]⟩ [])=[48]:=by simp [kad,kd8,decN]
 rw [e0] at e1 er;have b:=q9 List.length e1;rw [qah,qu,qaf] at b;cases hm:r.drop k with
 | nil=>rw [hm] at a;exact absurd (show (0:Int)=120 from a) (by decide)
 | cons c t=>
  rw [hm] at a er;have hc:c=120:=cEq (d:=120) a;subst hc;refine ⟨?_,⟨t,er⟩,rfl⟩;rw [er] at b;simp only [qr,qu,qaf] at b;omega
theorem kais {t:List UInt8} {j:Nat} (h:oneP.ev (mkB (48::120::t)) 0=(none,j)):2<=j:=by
 obtain ⟨o,j',h1,h2,h3⟩:=kku (48::120::t);rw [h] at h3;obtain ⟨rfl,rfl⟩:=Prod.mk.inj h3;have e:oneP.run (48::120::t)=Pr.run (bitsP.bind fun n => .done (Va.mk 4 n ⟨#[]⟩ [])) t:=rfl;obtain ⟨k,hk⟩:∃ k,(Pr.run (bitsP.bind fun n => .done (Va.mk 4 n ⟨#[]⟩ [])) t).2=t.drop k:=by have:=kvr (mkB t) (bitsP.bind fun n => .done (Va.mk 4 n ⟨#[]⟩ [])) 0;rw [qaz,kb9] at this;exact ⟨_,by rw [this]⟩
 rw [e] at h1;rw [h1] at hk;have:=q9 List.length hk;simp only [qau,qu] at this h2;omega
def liR (s:List UInt8):(Va×List UInt8) ⊕ List UInt8->(Ex×Int) ⊕ Int
 | .inl (v,m) => .inl (Ex.mk 2 0 v ⟨#[]⟩ [],pos s m)
 | .inr m => .inr (pos s m)
theorem kal3 (r:List UInt8):match litM r with
  | .inl (v,m)=>m <:+ r
  | .inr m=>m <:+ r:=by
 obtain ⟨o,j,h1,h2,_⟩:=kku r;unfold litM;rw [h1];cases o with
 | some v=>exact List.drop_suffix j r
 | none=>
  simp only;by_cases a:r.head?=some 48;rw [qj a];exact List.tail_suffix r
  ·rw [qg a];exact List.drop_suffix j r
theorem kalg (r:List UInt8) (h:r.length<=4000000):kcp (mkB r) (⟨#[48]⟩:BA)=some (decide (r.head?=some 48)):=by
 unfold kcp kc0;rw [show (((⟨#[48]⟩:BA).size:Int))=1 from rfl,kb8];cases r with
 | nil=>rfl
 | cons c t=>
  rw [qe (by simp only [qu];omega),qf,show cutS (mkB (c::t)) 0 1=some (mkB [c]) from ko1 (s:=mkB (c::t)) (a:=[c]) (b:=t) (kb9 _),qa,qa,km0];show some (decide ([c]=[48]))=_;congr 1;rw [qbj];simp
theorem kae5 {s r:List UInt8} (hs:s.length<=4000000) (h:r <:+ s):kdc ⟨mkB s,pos s r⟩=some (liR s (litM r)):=by
 have hl:=kj6 h;obtain ⟨o,j,h1,h2,h3⟩:=kku r;unfold kdc litM;simp only;rw [k3i h,qa,kqi (by rw [kb8];omega),qa,h1];have f:∀ k,k<=r.length->w64 (pos s r+(k:Int))=pos s (r.drop k):=fun k hk=>by have:=kvs (s:=s) (a:=r.take k) (m:=r.drop k) hs (by rw [qa9];exact h);rw [qa9,qah,Nat.min_eq_left hk] at this;exact this
 cases o with
 | some v=>
  rw [k8i h3];by_cases i:j<r.length
  ·rw [qj i,show ((8:Int) == 0)=false from rfl,qd];have e:cutS (mkB r) 0 (j:Int)=some (mkB (r.take j)):=(by have:=ko1 (s:=mkB r) (a:=r.take j) (b:=r.drop j) (by rw [kb9,qa9]);rw [qah,Nat.min_eq_left h2] at this;exact this);obtain ⟨e1,e2⟩:=ky5 h1;have et:r.take j=kad v:=by
    have:=q9 (List.take j) e1;rw [this,List.take_append_of_le_length,List.take_of_length_le];have:=q9 List.length e1;rw [qr,qau] at this;omega
    ·have:=q9 List.length e1;rw [qr,qau] at this;omega
   rw [e,qa,kqi (by rw [kb8,qah];omega),qa,et,kzk e2];simp only [bne_self_eq_false,qd,qa,kae8,f j h2];rfl
  ·rw [qg i];have:r.drop j=[]:=qaq (by omega);rw [this];simp only [qbr,qf,liR];rw [kb8];unfold pos;simp
 | none=>
  rw [k79 h3];simp only [show ((8:Int) == 0)=false from rfl,qd];have e:cutS (mkB r) 0 (j:Int)=some (mkB (r.take j)):=by have:=ko1 (s:=mkB r) (a:=r.take j) (b:=r.drop j) (by rw [kb9,qa9]);rw [qah,Nat.min_eq_left h2] at this;exact this
  have g:(prV (mkB (r.take j))).2.2≠0:=fun hk=>by obtain ⟨q1,⟨t,q2⟩,_⟩:=k0k h3 hk;subst q2;have:=kais h3;omega
  rw [e,qa,kqi (by rw [kb8,qah];omega),qa,show ((prV (mkB (r.take j))).2.2 != 0)=true by rw [qbl];exact g,qf,kalg r (by omega),qa,qa];by_cases d:r.head?=some 48
  ·rw [qe d,qj d,qf];cases r with
   | nil=>cases d
   | cons c t=>
    have hc:c=48:=qq d;subst hc;have ht:=kmk hs h;rw [show cutS (mkB (48::t)) 0 1=some (mkB [48]) from ko1 (s:=mkB (48::t)) (a:=[48]) (b:=t) (kb9 _),qa,kqi (by rw [kb8];simp),qa];have e0:prV (mkB [48])=(Va.mk 2 0 ⟨#[]⟩ [],0,0):=(by have:=kzk (v:=Va.mk 2 0 ⟨#[]⟩ []) (.inr (.inl ⟨0,rfl,by omega,by omega⟩));rw [show kad (Va.mk 2 0 ⟨#[]⟩ [])=[48] by simp [kad,kd8,decN]] at this;exact this);rw [e0];simp only [qa,bne_self_eq_false,qd,ht];rfl
  ·rw [qb d,qg d,qd,qa];simp only [show ((prV (mkB (r.take j))).2.2 != 0)=true by rw [qbl];exact g,qf,f j h2];rfl
theorem k7q {v:Va} (h:kir v):kad v≠[]:=fun e=>by have h1:=kaap h (m:=[]) ⟨.inl (by decide),by decide⟩;rw [e] at h1;have h2:oneP.run ([]:List UInt8)=(none,[]):=rfl;rw [List.append_nil,h2] at h1;cases h1
def k5d (r:List UInt8):(Ex×List UInt8) ⊕ List UInt8->Prop
 | .inl (_,m)=>m <:+ r/\m.length<r.length
 | .inr m=>m <:+ r
theorem k7u {r m:List UInt8} {v:Va} (h:litM r = .inl (v,m)):m.length<r.length:=by
 obtain ⟨o,j,h1,h2,_⟩:=kku r;unfold litM at h;rw [h1] at h;cases o with
 | some u=>
  cases h;obtain ⟨e1,e2⟩:=ky5 h1;have:=q9 List.length e1;have h3:=List.length_pos_iff.2 (k7q e2);rw [qr] at this;omega
 | none=>
  simp only at h;by_cases a:r.head?=some 48
  ·rw [qj a] at h;cases h;cases r with
   | nil=>cases a
   | cons c t=>simp
  ·rw [qg a] at h;cases h
theorem kain {w:List UInt8} {c:Nat} (h:opM w=some c):∃ o,ka7 (mkB w)=some (o,true)/\c=o.f_Args.length/\c<=5/\w≠[]:=by
 unfold opM at h;split at h;rename_i o ho;cases h;refine ⟨o,ho,rfl,kqm ho rfl,fun e=>?_⟩;have:=(kahm ho).1.1;rw [e] at this;exact absurd this (by decide)
 ·cases h
theorem kyp {f:List UInt8->(Ex×List UInt8) ⊕ List UInt8} (c:∀ q,k5d q (f q)):∀ (left k:Nat) (acc:List Ex) (r:List UInt8),match argL f left k acc r with
  | .inl (_,m)=>m <:+ r
  | .inr m=>m <:+ r
 | 0,_,_,r=>List.suffix_refl r
 | left+1,k,acc,r=>by
  rw [argL];have h1:=kox (sepW k) r;cases hm:kff (sepW k) r with
  | inr m=>rw [hm] at h1;exact h1
  | inl m=>
   rw [hm] at h1;simp only at h1 ⊢;have b:m <:+ r:=(by rw [h1];exact List.suffix_append _ _);have h2:=c m;cases d:f m with
   | inr q=>rw [d] at h2;exact h2.trans b
   | inl p=>
    obtain ⟨x,q⟩:=p;rw [d] at h2;simp only;have h3:=kyp c left (k+1) (acc++[x]) q;cases ha:argL f left (k+1) (acc++[x]) q with
    | inl p=>obtain ⟨a,m2⟩:=p;rw [ha] at h3;exact h3.trans (h2.1.trans b)
    | inr m2=>rw [ha] at h3;exact h3.trans (h2.1.trans b)
theorem ktb:∀ (n:Nat) (r:List UInt8),k5d r (exM n r)
 | 0,r=>List.suffix_refl r
 | n+1,r=>by
  rw [exM];have hd:r.drop (wdL r).length <:+ r:=List.drop_suffix _ r;by_cases a:litW (wdL r) r
  ·rw [qj a];have h1:=kal3 r;cases hl:litM r with
   | inl p=>obtain ⟨v,m⟩:=p;rw [hl] at h1;exact ⟨h1,k7u hl⟩
   | inr m=>rw [hl] at h1;exact h1
  ·rw [qg a];have hne:wdL r≠[]:=fun e=>a (.inl e);have b:(r.drop (wdL r).length).length<r.length:=(by have h1:=q9 List.length (koo r);have h2:=List.length_pos_iff.2 hne;rw [qr] at h1;omega);cases inpL (wdL r) with
   | some k=>exact ⟨hd,b⟩
   | none=>
    simp only;cases opM (wdL r) with
    | none=>exact List.suffix_refl r
    | some c=>
     simp only;have h1:=kyp (f:=exM n) (ktb n) c 0 [] (r.drop (wdL r).length);cases ha:argL (exM n) c 0 [] (r.drop (wdL r).length) with
     | inr m=>rw [ha] at h1;exact h1.trans hd
     | inl p=>
      obtain ⟨acc,m⟩:=p;rw [ha] at h1;simp only at h1 ⊢;have h2:=kox [41] m;cases hm:kff [41] m with
      | inl q=>
       rw [hm] at h2;simp only at h2;have d:q <:+ m:=(by rw [h2];exact List.suffix_append _ _);have h3:=kj6 (d.trans h1);exact ⟨(d.trans h1).trans hd,by omega⟩
      | inr q=>rw [hm] at h2;exact (h2.trans h1).trans hd
def ExQ (s:List UInt8):(Ex×List UInt8) ⊕ List UInt8->((Ex×Int) ⊕ (Int×Int))->Prop
 | .inl (x,m),q=>q = .inl (x,pos s m)
 | .inr m,q=>∃ z,q = .inr (pos s m,z)
theorem kakv (i:Nat):idx ([(⟨#[40]⟩:BA),(⟨#[44,32]⟩:BA)]:List BA) (imin (i:Int) 1)=some (⟨(sepW i).toArray⟩:BA):=by
 unfold sepW;by_cases h:i=0;subst h;rfl
 ·rw [qg h,show imin (i:Int) 1=1 by unfold imin;split <;> omega];rfl
theorem kajp (i:Nat):(sepW i).length<=100:=by unfold sepW;split <;> simp
theorem kang {s r:List UInt8} {n:Nat} (hs:s.length<=4000000) (hr:r <:+ s) (hn:r.length<n) {f:List UInt8->(Ex×List UInt8) ⊕ List UInt8} {rec:Sad->Option ((Ex×Int) ⊕ (Int×Int))}
  (l:∀ q,k5d q (f q)) (c:∀ q,q <:+ s->q.length<n->Ev (rec ⟨mkB s,pos s q⟩) (ExQ s (f q))) {p0:Int} {v:Saa×Bool} (hc:v.1.f_Args.length<=5):
  Ev (kaa (kdv ⟨mkB s,p0⟩ rec v) fuel (0,pos s r,[])) fun res=>match argL f v.1.f_Args.length 0 [] r with
   | .inl (acc,m)=>res = .inl (pos s m,acc)
   | .inr m=>∃ z,res = .inr (pos s m,z):=by
 refine kj5 v.1.f_Args.length (fun i st=>∃ acc q,st=((i:Int),pos s q,acc)/\argL f v.1.f_Args.length 0 [] r=argL f (v.1.f_Args.length - i) i acc q/\acc.length=i/\q <:+ s/\q.length<n) (by omega) ⟨[],r,rfl,rfl,rfl,hr,hn⟩ (fun i st hi ⟨acc,q,e,a,hl,g,h⟩=>?_) fun st ⟨acc,q,e,a,hl,g,h⟩=>?_
 ·subst e;obtain ⟨k,hk⟩:∃ k,v.1.f_Args.length - i=k+1:=⟨v.1.f_Args.length - i - 1,by omega⟩;rw [hk,argL] at a;unfold kdv;simp only [kbd hi,qf,kakv,qa,kado hs (kajp i) g];have h1:=kox (sepW i) q;cases hm:kff (sepW i) q with
  | inr m=>
   rw [hm] at a;refine kni (b := .inr (pos s m,pos s m)) rfl ?_;rw [a];exact ⟨_,rfl⟩
  | inl m=>
   rw [hm] at a h1;simp only at a h1;have d:m <:+ s:=k3o (by rw [<- h1];exact g);have o:m.length<=q.length:=(by rw [h1,qr];omega);simp only [muR,qh];obtain ⟨res,e1,e2⟩:=c m d (by omega);have h2:=l m;rw [e1,qa];cases j:f m with
   | inr z=>
    rw [j] at a e2;obtain ⟨y,rfl⟩:=e2;refine kni (b := .inr (pos s z,y)) rfl ?_;rw [a];exact ⟨_,rfl⟩
   | inl p=>
    obtain ⟨x,z⟩:=p;rw [j] at a e2 h2;have e2:res = .inl (x,pos s z):=e2;subst e2;have h3:=h2.2;simp only [qh];rw [ki2 (by simp only [qu,qaf];omega),qa,w64s i (by omega)];refine knn (s:=(((i+1:Nat):Int),pos s z,acc++[x])) rfl ⟨acc++[x],z,rfl,?_,by simp [hl],h2.1.trans d,by omega⟩;rw [a,show v.1.f_Args.length - (i+1)=k by omega]
 ·subst e;rw [Nat.sub_self,argL] at a;refine knl (b := .inl (pos s q,acc)) ?_ (by rw [a]);unfold kdv;simp only [kfm,qd]
theorem kakk (c:UInt8) (r:List UInt8) (h:r.length<=4000000):kcp (mkB r) (⟨#[c]⟩:BA)=some (decide (r.head?=some c)):=by
 unfold kcp kc0;rw [show (((⟨#[c]⟩:BA).size:Int))=1 from rfl,kb8];cases r with
 | nil=>rfl
 | cons d t=>
  rw [qe (by simp only [qu];omega),qf,show cutS (mkB (d::t)) 0 1=some (mkB [d]) from ko1 (s:=mkB (d::t)) (a:=[d]) (b:=t) (kb9 _),qa,qa,km0];show some (decide ([d]=[c]))=_;congr 1;rw [qbj];simp
theorem k75 {k:Int} {w r:List UInt8} (hk:k=0\/k=1) (a:kad (Va.mk 1 k ⟨#[]⟩ [])=w) (h:wdL r=w):litM r = .inl (Va.mk 1 k ⟨#[]⟩ [],r.drop w.length):=by
 have hv:kir (Va.mk 1 k ⟨#[]⟩ []):=by rcases hk with rfl | rfl;exact .inl (.inl rfl);exact .inl (.inr rfl)
 have e:=koo r;rw [h] at e;have:=k0a hv (m:=r.drop w.length) fun ⟨n,hn,_⟩=>by cases hn
 rw [a,e] at this;unfold litM;rw [this]
theorem kaj9:kad (Va.mk 1 1 ⟨#[]⟩ [])=kabx:=by simp [kad,kabx]
theorem kahl:kad (Va.mk 1 0 ⟨#[]⟩ [])=k7z:=by simp [kad,k7z]
theorem kadw {s:List UInt8} (hs:s.length<=4000000):∀ (n:Nat) (r:List UInt8),r <:+ s->r.length<n->Ev (kcn n ⟨mkB s,pos s r⟩) (ExQ s (exM n r))
 | 0,r,_,hn=>by omega
 | n+1,r,hr,hn=>by
  show Ev (keb (kcn n) ⟨mkB s,pos s r⟩) _;unfold keb;rw [exM];simp only [kae7 hr];have lit:∀ {P:Prop} [Decidable P] (A:P) (B:(Ex×List UInt8) ⊕ List UInt8),Ev (Option.bind (kdc ⟨mkB s,pos s r⟩) fun v6=>Sum.elim (fun v5=>some (.inl (v5.1,v5.2))) (fun v7=>some (.inr (v7,pos s r))) v6) (ExQ s (if P then (match litM r with
   | .inl (v,m) => .inl (Ex.mk 2 0 v ⟨#[]⟩ [],m)
   | .inr m => .inr m) else B)):=fun {P} _ A B=>by
   rw [qj A,kae5 hs hr,qa];cases litM r with
   | inl p=>obtain ⟨v,m⟩:=p;exact kaf rfl
   | inr m=>exact kaf ⟨_,rfl⟩
  cases r with
  | nil=>
   rw [qe rfl,qf,qa,qf];exact lit (.inl rfl) _
  | cons c t=>
   rw [qb (by simp),qd,kql hr,qa,k42,qa,qa];by_cases hc:letC c
   ·have d:wdL (c::t)=(c::t).takeWhile wc:=(by rw [wdL,qj hc]);rw [qe hc,qab,qd,kanj hs hr,qa,<- d];have e:wdL (c::t)≠[]:=(by rw [d,List.takeWhile_cons,qj (by unfold wc;rw [qe hc];rfl)];simp);have eq34:(bif ((mkB (wdL (c::t))).toList == (⟨#[114]⟩:BA).toList) then (Option.bind (cutS (mkB s) (w64 (pos s (c::t)+1)) ((mkB s).size:Int)) fun v9=>(Option.bind (kcp (v9) ((⟨#[34]⟩:BA))) fun v10=>(some (v10)))) else (some (false)))=some (decide (wdL (c::t)=[114]/\t.head?=some 34)):=by
     rw [km0];by_cases u:wdL (c::t)=[114];rw [qe u,qf,kmk hs hr,k3i (krh hr),qa,kakk 34 t (by have:=kj6 hr;simp only [qu] at this;omega),qa];congr 1;rw [qbj];exact ⟨fun h=>⟨u,h⟩,fun h=>h.2⟩
     ·rw [qb u,qb fun h=>u h.1];rfl
    rw [eq34,qa,km0,km0];have j:(wdL (c::t)++(c::t).drop (wdL (c::t)).length) <:+ s:=(by rw [koo];exact hr);have a:w64 (pos s (c::t)+((mkB (wdL (c::t))).size:Int))=pos s ((c::t).drop (wdL (c::t)).length):=(by have:=kvs hs j;rw [koo] at this;rw [kb8];exact this);by_cases g:wdL (c::t)=[116,114,117,101];rw [qe g,qf,qa,qf,qj (show litW _ _ from .inr (.inl g)),k75 (.inr rfl) kaj9 g,a,g];exact kaf rfl;rw [qb g,qd,qa];by_cases i:wdL (c::t)=[102,97,108,115,101];rw [qe i,qf,qj (show litW _ _ from .inr (.inr (.inl i))),k75 (.inl rfl) kahl i,a,i];exact kaf rfl;rw [qb i,qd];by_cases w:wdL (c::t)=[114]/\t.head?=some 34;rw [qe w,qf];exact lit (.inr (.inr (.inr w))) _;rw [qb w,qd,inp_p,qa];have C:¬ litW (wdL (c::t)) (c::t):=by
     rintro (h | h | h | h);exact e h;exact g h;exact i h
     ·exact w h
    rw [qg C];cases hi:inpL (wdL (c::t)) with
    | some k=>
     simp only [inpR,qf,a];exact kaf rfl
    | none=>
     simp only [inpR,qd];obtain ⟨o,o1,o2⟩:=kub (mkB (wdL (c::t)));rw [o1,qa];obtain ⟨o,b⟩:=o;cases b with
     | false=>
      have:opM (wdL (c::t))=none:=(by unfold opM;rw [o2]);rw [this];exact kaf ⟨_,rfl⟩
     | true=>
      have x:opM (wdL (c::t))=some o.f_Args.length:=(by unfold opM;rw [o2]);rw [x];simp only [qab,qd,a];have l:(c::t).drop (wdL (c::t)).length <:+ s:=(List.drop_suffix _ _).trans hr;have y:((c::t).drop (wdL (c::t)).length).length<n:=(by have h1:=q9 List.length (koo (c::t));have h2:=List.length_pos_iff.2 e;rw [qr] at h1;omega);obtain ⟨res,e1,e2⟩:=kang (n:=n) hs l y (f:=exM n) (rec:=kcn n) (ktb n) (fun q h1 h2=>kadw hs n q h1 h2) (p0:=pos s (c::t)) (v:=(o,true)) (kqm o2 rfl);rw [e1,qa];simp only at e2;have h3:=kyp (f:=exM n) (ktb n) o.f_Args.length 0 [] ((c::t).drop (wdL (c::t)).length);cases ha:argL (exM n) o.f_Args.length 0 [] ((c::t).drop (wdL (c::t)).length) with
      | inr m=>
       rw [ha] at e2;obtain ⟨z,rfl⟩:=e2;exact kaf ⟨_,rfl⟩
      | inl p=>
       obtain ⟨acc,m⟩:=p;rw [ha] at e2 h3;simp only at e2 h3;subst e2;simp only [qh];rw [kado hs (by simp) (h3.trans l),qa];cases kff [41] m with
       | inl q=>exact kaf rfl
       | inr q=>exact kaf ⟨_,rfl⟩
   ·have d:wdL (c::t)=[]:=(by rw [wdL,qg hc]);rw [qb hc,qbb,qf];exact lit (.inl d) _
def kabj (s:List UInt8):Ex ⊕ List UInt8:=match exM fuel s with
 | .inl (x,[]) => .inl x
 | .inl (_,m) => .inr m
 | .inr m => .inr m
theorem kamb {s:List UInt8} (hs:s.length<=4000000):kky (mkB s)=some (match kabj s with
  | .inl x=>(x,0,0)
  | .inr m=>(Ex.nil,pos s m,8)):=by
 unfold kky kabj;obtain ⟨res,e1,e2⟩:=kadw hs fuel s (List.suffix_refl s) (kbk (by omega));have h0:pos s s=0:=by unfold pos;simp
 rw [h0] at e1;rw [e1,qa];have a:=ktb fuel s;cases b:exM fuel s with
 | inr m=>
  rw [b] at e2;obtain ⟨z,rfl⟩:=e2;rfl
 | inl p=>
  obtain ⟨x,m⟩:=p;rw [b] at e2 a;have e2:res = .inl (x,pos s m):=e2;subst e2;simp only [qh,krk a.1];cases m with
  | nil=>rfl
  | cons c t=>rfl
mutual
def exT (l:La):Tm->Ex
 | .mk i ys=>if (kax l i).kind=3 then Ex.mk 3 0 kcw (kax l i).op (exTs l ys) else if (kax l i).kind=1 then Ex.mk 1 (kax l i).input kcw ⟨#[]⟩ [] else Ex.mk 2 0 (kax l i).const ⟨#[]⟩ []
def exTs (l:La):List Tm->List Ex
 | []=>[]
 | t::ts=>exT l t::exTs l ts
end
theorem k03 (l:La):∀ ts:List Tm,exTs l ts=ts.map (exT l)
 | []=>rfl
 | t::ts=>by rw [exTs,k03 l ts];rfl
inductive Dr (l:La):Int->Tm->Prop
 | mk {i:Int} {ys:List Tm} (h0:0<=i) (h1:i<(l.rules.length:Int)) (hl:ys.length=(kax l i).args.length) (ha:∀ (k:Nat) (hk:k<ys.length),Dr l ((kax l i).args.getD k 0) ys[k]):Dr l (kax l i).symbol (.mk i ys)
end Go.Proofs.YtaimpcnpifoidaaGreatDoor
