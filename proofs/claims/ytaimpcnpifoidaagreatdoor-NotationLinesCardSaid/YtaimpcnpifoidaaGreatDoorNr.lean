import Derived.Test.YtaimpcnpifoidaaGreatDoorNb
set_option linter.unusedVariables false
set_option linter.unusedSimpArgs false
set_option maxRecDepth 100000
namespace Go.Proofs.YtaimpcnpifoidaaGreatDoor
open Go Go.RowKit
inductive Pr (α:Type) where
 | done (a:α)
 | fail
 | peek (k:Int→Pr α)
 | adv (p:Pr α)
def Pr.run {α:Type}:Pr α→List UInt8→Option α×List UInt8
 | .done a,l=>(some a,l)
 | .fail,l=>(none,l)
 | .peek k,l=>(k (hd l)).run l
 | .adv p,l=>p.run l.tail
def Pr.bind {α β:Type}:Pr α→(α→Pr β)→Pr β
 | .done a,f=>f a
 | .fail,_ => .fail
 | .peek k,f => .peek fun c=>(k c).bind f
 | .adv p,f => .adv (p.bind f)
theorem run_bind {α β:Type} (f:α→Pr β):∀ (p:Pr α) (l:List UInt8),(p.bind f).run l=match p.run l with
  | (some a,m)=>(f a).run m
  | (none,m)=>(none,m)
 | .done a,l=>rfl
 | .fail,l=>rfl
 | .peek k,l=>run_bind f (k (hd l)) l
 | .adv p,l=>run_bind f p l.tail
def Pr.good {α:Type}:Bool→Pr α→Prop
 | _, .done _=>True
 | _, .fail=>True
 | _, .peek k=>(k 0).good false∧∀ c,c≠0→(k c).good true
 | b, .adv p=>b=true∧p.good false
theorem k65 {α:Type}:∀ (p:Pr α),p.good false→p.good true
 | .done a,_=>trivial
 | .fail,_=>trivial
 | .peek k,h=>h
 | .adv p,h=>by cases h.1
theorem kli {α:Type} {p:Pr α} (h:p.good false) (b:Bool):p.good b:=by
 cases b
 ·exact h
 ·exact k65 p h
theorem kqo {α β:Type} {f:α→Pr β} (hf:∀ a,(f a).good false):∀ (p:Pr α) (b:Bool),p.good b→(p.bind f).good b
 | .done a,b,_=>kli (hf a) b
 | .fail,_,_=>trivial
 | .peek k,_,h=>⟨kqo hf (k 0) false h.1,fun c hc=>kqo hf (k c) true (h.2 c hc)⟩
 | .adv p,_,h=>⟨h.1,kqo hf p false h.2⟩
theorem kfh {α β:Type} {f:α→Pr β} (hf:∀ a,(f a).good false) {p:Pr α} (h:p.good false):(p.bind f).good false:=kqo hf p false h
def kcb:List Int→Pr Unit
 | [] => .done ()
 | x::w => .peek fun c=>if c=x then .adv (kcb w) else .fail
theorem klv:∀ {w:List Int},(∀ x∈w,x≠0)→(kcb w).good false
 | [],_=>trivial
 | x::w,h=>by
  have hx:=h x (qu ..)
  refine ⟨?_,fun c hc=>?_⟩
  ·simp only [if_neg (show ¬ ((0:Int)=x) from fun h=>hx h.symm)];trivial
  ·dsimp only
   split
   ·exact ⟨rfl,klv fun y hy=>h y (ql _ hy)⟩
   ·trivial
def kjc (least:Nat):Nat→List Int→Pr (List Int)
 | 0,acc => .peek fun c=>if c=34∧least≤acc.length then .adv (.done acc) else .fail
 | k+1,acc => .peek fun c=>if c=34∧least≤acc.length then .adv (.done acc) else if c=34∨c<32∨126<c then .fail else
   if c=92 then .adv (.peek fun d=>if d=34∨d=92 then .adv (kjc least k (acc++[d])) else .fail) else .adv (kjc least k (acc++[c]))
theorem ks2 (least:Nat):∀ (k:Nat) (acc:List Int),(kjc least k acc).good false
 | 0,acc=>by
  refine ⟨?_,fun c hc=>?_⟩
  ·simp only [show ¬ ((0:Int)=34) by decide,false_and,if_false];trivial
  ·dsimp only
   split
   ·exact ⟨rfl,trivial⟩
   ·trivial
 | k+1,acc=>by
  refine ⟨?_,fun c hc=>?_⟩
  ·simp only [show ¬ ((0:Int)=34) by decide,false_and,if_false,show ((0:Int)<32) by decide,true_or,or_true,if_true];trivial
  ·dsimp only
   split
   ·exact ⟨rfl,trivial⟩
   split
   ·trivial
   split
   ·refine ⟨rfl,?_,fun d hd=>?_⟩
    ·simp only [show ¬ ((0:Int)=34∨(0:Int)=92) by decide,if_false];trivial
    ·dsimp only
     split
     ·exact ⟨rfl,ks2 least k _⟩
     ·trivial
   ·exact ⟨rfl,ks2 least k _⟩
def kgk (least most:Nat):Pr (List Int) := .peek fun c=>if c=34 then .adv (kjc least most []) else .fail
theorem kom (least most:Nat):(kgk least most).good false:=by
 refine ⟨?_,fun c hc=>?_⟩
 ·simp only [show ¬ ((0:Int)=34) by decide,if_false];trivial
 ·dsimp only
  split
  ·exact ⟨rfl,ks2 ..⟩
  ·trivial
def ke4:Nat→Int→Pr Int
 | 0,n => .done n
 | f+1,n=>if n≤0 then .done n else .peek fun b=>if 48≤b∧b≤57∧n*10+(b - 48)≤1000000 then .adv (ke4 f (n*10+(b - 48))) else .done n
theorem kub:∀ (f:Nat) (n:Int),(ke4 f n).good false
 | 0,n=>trivial
 | f+1,n=>by
  unfold ke4
  split
  ·trivial
  refine ⟨?_,fun c hc=>?_⟩
  ·simp only [show ¬ ((48:Int)≤0) by decide,false_and,if_false];trivial
  ·dsimp only
   split
   ·exact ⟨rfl,kub f _⟩
   ·trivial
def unsP (neg:Bool):Pr Int := .peek fun b=>if b<48∨57<b∨(neg=true∧b=48) then .fail else .adv ((ke4 7 (b - 48)).bind fun n => .done (if neg=true then -n else n))
def numP:Pr Int := .peek fun c=>if c=45 then .adv (unsP true) else unsP false
theorem kt2 (neg:Bool):(unsP neg).good false:=by
 refine ⟨?_,fun c hc=>?_⟩
 ·simp only [show (0:Int)<48 by decide,true_or,if_true];trivial
 ·dsimp only
  split
  ·trivial
  ·refine ⟨rfl,kfh (fun _=>?_) (kub 7 _)⟩
   trivial
theorem kyx:numP.good false:=by
 refine ⟨?_,fun c hc=>?_⟩
 ·simp only [show ¬ ((0:Int)=45) by decide,if_false];exact kt2 _
 ·dsimp only
  split
  ·exact ⟨rfl,kt2 _⟩
  ·exact kli (kt2 _) true
def kcv {α:Type} (e:Int) (least:Nat) (elem:List α→Pr α):Nat→List α→Pr (List α)
 | 0,acc => .peek fun c=>if c=e∧least≤acc.length then .adv (.done acc) else .fail
 | k+1,acc => .peek fun c=>if c=e∧least≤acc.length then .adv (.done acc) else
   (if acc.length=0 then .done () else kcb [44,32]).bind fun _=>(elem acc).bind fun v=>kcv e least elem k (acc++[v])
theorem kmn {α:Type} {e:Int} (he:e≠0) (least:Nat) {elem:List α→Pr α} (hel:∀ l,(elem l).good false):∀ (k:Nat) (acc:List α),(kcv e least elem k acc).good false
 | 0,acc=>by
  refine ⟨?_,fun c hc=>?_⟩
  ·simp only [show ¬ ((0:Int)=e) from fun h=>he h.symm,false_and,if_false];trivial
  ·dsimp only
   split
   ·exact ⟨rfl,trivial⟩
   ·trivial
 | k+1,acc=>by
  have hr:((if acc.length=0 then .done () else kcb [44,32]).bind fun _=>(elem acc).bind fun v=>kcv e least elem k (acc++[v])).good false:=by
   refine kfh (fun _=>kfh (fun v=>kmn he least hel k _) (hel _)) ?_
   split
   ·trivial
   ·exact klv (by decide)
  refine ⟨?_,fun c hc=>?_⟩
  ·simp only [show ¬ ((0:Int)=e) from fun h=>he h.symm,false_and,if_false];exact hr
  ·dsimp only
   split
   ·exact ⟨rfl,trivial⟩
   ·exact kli hr true
def hexV (c:Int):Int:=if 48≤c∧c≤57 then c - 48 else if 97≤c∧c≤102 then c - 87 else -1
def bitsP:Pr Int := .peek fun a=>if hexV a<0 then .fail else .adv (.peek fun b=>if hexV b<0 then .fail else .adv (.done (hexV a*16+hexV b)))
theorem k6b:bitsP.good false:=by
 refine ⟨?_,fun c hc=>?_⟩
 ·simp only [show hexV 0<0 by decide,if_true];trivial
 ·dsimp only
  split
  ·trivial
  ·refine ⟨rfl,?_,fun d hd=>?_⟩
   ·simp only [show hexV 0<0 by decide,if_true];trivial
   ·dsimp only
    split
    ·trivial
    ·exact ⟨rfl,trivial⟩
def intE:Pr Va:=numP.bind fun n => .done (Va.mk 2 n ⟨#[]⟩ [])
def textE:Pr Va:=(kgk 0 64).bind fun s => .done (Va.mk 3 0 (toBA s) [])
def rowE (acc:List Va):Pr Va := .peek fun c=>if c=123 then
  .adv ((kcv 125 (match acc with | []=>1 | r::_=>r.items.length) (fun _=>textE) (match acc with | []=>8 | r::_=>r.items.length) []).bind fun l => .done (Va.mk 6 0 ⟨#[]⟩ l)) else .fail
def oneP:Pr Va := .peek fun c=>
 if c=116 then (kcb [116,114,117,101]).bind fun _ => .done (Va.mk 1 1 ⟨#[]⟩ [])
 else if c=102 then (kcb [102,97,108,115,101]).bind fun _ => .done (Va.mk 1 0 ⟨#[]⟩ [])
 else if c=34 then textE
 else if c=114 then .adv ((kgk 1 40).bind fun s => .done (Va.mk 8 0 (toBA s) []))
 else if c=91 then .adv ((kcv 93 0 (fun _=>intE) 16 []).bind fun l => .done (Va.mk 5 0 ⟨#[]⟩ l))
 else if c=123 then .adv ((kcv 125 0 (fun _=>textE) 16 []).bind fun l => .done (Va.mk 6 0 ⟨#[]⟩ l))
 else if c=60 then .adv ((kcv 62 0 rowE 8 []).bind fun l => .done (Va.mk 7 0 ⟨#[]⟩ l))
 else if c=48 then .adv (.peek fun d=>if d=120 then .adv (bitsP.bind fun n => .done (Va.mk 4 n ⟨#[]⟩ [])) else .done (Va.mk 2 0 ⟨#[]⟩ []))
 else intE
theorem kn7:intE.good false:=kfh (fun _=>by exact True.intro) kyx
theorem kkt:textE.good false:=kfh (fun _=>by exact True.intro) (kom ..)
theorem kp5 (acc:List Va):(rowE acc).good false:=by
 refine ⟨?_,fun c hc=>?_⟩
 ·simp only [show ¬ ((0:Int)=123) by decide,if_false];trivial
 ·dsimp only
  split
  ·exact ⟨rfl,kfh (fun _=>by exact True.intro) (kmn (by decide) _ (fun _=>kkt) _ _)⟩
  ·trivial
theorem k7c:oneP.good false:=by
 refine ⟨?_,fun c hc=>?_⟩
 ·exact kn7
 ·dsimp only
  repeat' split
  ·exact kli (kfh (fun _=>by exact True.intro) (klv (by decide))) true
  ·exact kli (kfh (fun _=>by exact True.intro) (klv (by decide))) true
  ·exact kli kkt true
  ·exact ⟨rfl,kfh (fun _=>by exact True.intro) (kom ..)⟩
  ·exact ⟨rfl,kfh (fun _=>by exact True.intro) (kmn (by decide) _ (fun _=>kn7) _ _)⟩
  ·exact ⟨rfl,kfh (fun _=>by exact True.intro) (kmn (by decide) _ (fun _=>kkt) _ _)⟩
  ·exact ⟨rfl,kfh (fun _=>by exact True.intro) (kmn (by decide) _ kp5 _ _)⟩
  ·refine ⟨rfl,?_,fun d hd=>?_⟩
   ·simp only [show ¬ ((0:Int)=120) by decide,if_false];trivial
   ·dsimp only
    split
    ·exact ⟨rfl,kfh (fun _=>by exact True.intro) k6b⟩
    ·trivial
  ·exact kli kn7 true
theorem k00 {n:Nat} (h:n<16):((hexD n).toNat:Int)=if n<10 then 48+(n:Int) else 87+n:=by
 unfold hexD
 split
 ·rw [ofNat_toNat (by omega)];omega
 ·rw [ofNat_toNat (by omega)];omega
section
variable {α:Type} {e:UInt8} {least:Nat} {elem:List α→Pr α} {sh:α→List UInt8} {vs:List α}
end
theorem kzp (l:List Va):kaq (Va.mk 6 0 ⟨#[]⟩ l)=123::(kc1 (kn3 l)++[125]):=by simp [kaq]
theorem kqq {s:BA} {i:Nat} (h:s.size≤i):atI s i=0:=by rw [atI,qae (by rw [← kar];exact h)];rfl
theorem ksu (s:BA) (i:Nat):0≤atI s i∧atI s i≤255:=by
 by_cases h:i<s.size
 ·rw [(khu h).2.2]
  have:=(s.data.toList[i]'(by rw [← kar];exact h)).toNat_lt
  omega
 ·rw [kqq (by omega)];decide
theorem kji {s:BA} {i:Nat} (h:atI s i≠0):i<s.size:=by
 by_cases h':i<s.size
 ·exact h'
 ·exact absurd (kqq (by omega)) h
def Pr.ev {α:Type} (s:BA):Pr α→Nat→Option α×Nat
 | .done a,i=>(some a,i)
 | .fail,i=>(none,i)
 | .peek k,i=>(k (atI s i)).ev s i
 | .adv p,i=>p.ev s (i+1)
theorem k0r {α:Type} (s:BA):∀ (p:Pr α) (i:Nat),p.run (s.data.toList.drop i)=((p.ev s i).1,s.data.toList.drop (p.ev s i).2)
 | .done a,i=>rfl
 | .fail,i=>rfl
 | .peek k,i=>k0r s (k (atI s i)) i
 | .adv p,i=>by
  have:=k0r s p (i+1)
  rw [Pr.run,Pr.ev,← this,List.tail_drop]
theorem khl {α β:Type} (s:BA) (f:α→Pr β):∀ (p:Pr α) (i:Nat),(p.bind f).ev s i=match p.ev s i with
  | (some a,j)=>(f a).ev s j
  | (none,j)=>(none,j)
 | .done a,i=>rfl
 | .fail,i=>rfl
 | .peek k,i=>khl s f (k (atI s i)) i
 | .adv p,i=>khl s f p (i+1)
theorem kz5 {α:Type} {s:BA}:∀ (p:Pr α) (b:Bool) (i:Nat),p.good b→(b=true→i<s.size)→i≤s.size→i≤(p.ev s i).2∧(p.ev s i).2≤s.size
 | .done a,b,i,_,_,h=>⟨qt _,h⟩
 | .fail,b,i,_,_,h=>⟨qt _,h⟩
 | .peek k,b,i,hg,hb,h=>by
  show i≤((k (atI s i)).ev s i).2∧((k (atI s i)).ev s i).2≤s.size
  by_cases h0:atI s i=0
  ·rw [h0];exact kz5 (k 0) false i hg.1 (fun h=>by cases h) h
  ·exact kz5 (k _) true i (hg.2 _ h0) (fun _=>kji h0) h
 | .adv p,b,i,hg,hb,h=>by
  have:=kz5 p false (i+1) hg.2 (fun h=>by cases h) (hb hg.1)
  exact ⟨by show i≤(p.ev s (i+1)).2;omega,this.2⟩
theorem kpp {α:Type} {s:BA} {p:Pr α} {i:Nat} (hg:p.good false) (h:i≤s.size):i≤(p.ev s i).2∧(p.ev s i).2≤s.size:=kz5 p false i hg (fun h=>by cases h) h
def Pr.all {α:Type} (P:α→Prop):Pr α→Prop
 | .done a=>P a
 | .fail=>True
 | .peek k=>∀ c,(k c).all P
 | .adv p=>p.all P
theorem kga {α β:Type} {P:α→Prop} {Q:β→Prop} {f:α→Pr β} (hf:∀ a,P a→(f a).all Q):∀ p:Pr α,p.all P→(p.bind f).all Q
 | .done a,h=>hf a h
 | .fail,_=>trivial
 | .peek k,h=>fun c=>kga hf (k c) (h c)
 | .adv p,h=>kga hf p h
theorem kjl {α:Type} {P Q:α→Prop} (hf:∀ a,P a→Q a):∀ p:Pr α,p.all P→p.all Q
 | .done a,h=>hf a h
 | .fail,_=>trivial
 | .peek k,h=>fun c=>kjl hf (k c) (h c)
 | .adv p,h=>kjl hf p h
theorem kkk {α:Type}:∀ p:Pr α,p.all fun _=>True
 | .done a=>trivial
 | .fail=>trivial
 | .peek k=>fun c=>kkk (k c)
 | .adv p=>kkk p
theorem kua {α:Type} {P:α→Prop} {s:BA} {a:α}:∀ (p:Pr α) (i:Nat),p.all P→(p.ev s i).1=some a→P a
 | .done b,i,h,e=>by cases e;exact h
 | .fail,i,h,e=>by cases e
 | .peek k,i,h,e=>kua (k (atI s i)) i (h _) e
 | .adv p,i,h,e=>kua p (i+1) h e
theorem kge (s:BA) (i:Nat):kat ⟨s,(i:Int)⟩=some (atI s i):=by
 unfold kat
 by_cases h:i<s.size
 ·simp only [kbk h,qd,(khu h).1,qa]
 ·have:decide ((i:Int)<(s.size:Int))=false:=qc (by omega)
  simp only [this,qb,kqq (Nat.le_of_not_lt h)]
theorem kz1 (s:BA) (i:Nat):kgd s (i:Int)=some (atI s i):=by
 unfold kgd
 by_cases h:i<s.size
 ·simp only [kbk h,qd,(khu h).1,qa]
 ·have:decide ((i:Int)<(s.size:Int))=false:=qc (by omega)
  simp only [this,qb,kqq (Nat.le_of_not_lt h)]
theorem k04 (w:BA):(wl w).length=w.size:=by unfold wl;rw [q8,kar]
theorem kafm {w:BA} {m:Nat} {c:Int} {l:List Int} (h:(wl w).drop m=c::l):m<w.size∧atI w m=c∧(wl w).drop (m+1)=l:=by
 have hm:m<w.size:=by
  rw [← k04]
  by_cases h':m<(wl w).length
  ·exact h'
  ·rw [qae (by omega)] at h;cases h
 obtain ⟨b1,b2,b3⟩:=khu hm
 have:(wl w).drop m=atI w m::(wl w).drop (m+1):=by
  unfold wl
  rw [← List.map_drop,b2,qaf,List.map_drop,b3]
 rw [this] at h
 exact ⟨hm,(List.cons.inj h).1,(List.cons.inj h).2⟩
theorem ky1 (s w:BA) (i0:Int) (hs:s.size≤4000000) (hw:w.size≤1000000):∀ (l:List Int) (m i n:Nat),(wl w).drop m=l→(∀ x∈l,x≠0)→i≤s.size→l.length<n →
  kaa (kcx ⟨s,i0⟩ w) n ((m:Int),(i:Int))=some (((kcb l).ev s i).1.elim (.inr (((kcb l).ev s i).2:Int)) fun _ => .inl (((kcb l).ev s i).2:Int))
 | [],m,i,n+1,hl,h0,hi,_=>by
  have hm:w.size≤m:=by rw [← k04];exact List.drop_eq_nil_iff.1 hl
  refine kc5 ?_
  have:decide ((m:Int)<(w.size:Int))=false:=qc (by omega)
  simp only [kcx,this,qb]
  rfl
 | c::l,m,i,n+1,hl,h0,hi,hn=>by
  obtain ⟨hm,hc,hl'⟩:=kafm hl
  have b1:=(khu hm).1
  have hc0:c≠0:=h0 _ (qu ..)
  simp only [kcb,Pr.ev]
  by_cases h:i<s.size
  ·have e1:decide ((s.size:Int)≤(i:Int))=false:=qc (by omega)
   by_cases he:atI s i=c
   ·rw [if_pos he]
    simp only [Pr.ev]
    rw [← ky1 s w i0 hs hw l (m+1) (i+1) n hl' (fun x hx=>h0 x (ql _ hx)) (by omega) (by simpa using hn)]
    refine khh ?_
    have e2:(atI s i != c)=false:=by rw [he];simp
    simp only [kcx,kbk hm,qd,e1,qb,(khu h).1,b1,hc,qa,e2,w64s m (by omega),w64s i (by omega)]
   ·rw [if_neg he]
    refine kc5 ?_
    have e2:(atI s i != c)=true:=by simpa using he
    simp only [kcx,kbk hm,qd,e1,qb,(khu h).1,b1,hc,qa,e2]
    rfl
  ·have e1:decide ((s.size:Int)≤(i:Int))=true:=qe (by omega)
   rw [if_neg (by rw [kqq (by omega)];exact fun h=>hc0 h.symm)]
   refine kc5 ?_
   simp only [kcx,kbk hm,qd,e1,qa]
   rfl
theorem kq3 {s w:BA} (hs:s.size≤4000000) (hw:w.size≤1000000) (h0:∀ x∈wl w,x≠0) {i:Nat} (hi:i≤s.size):
  kan ⟨s,(i:Int)⟩ w=some (((kcb (wl w)).ev s i).1.isSome,(((kcb (wl w)).ev s i).2:Int)):=by
 unfold kan
 have:=ky1 s w i hs hw _ 0 i fuel rfl (by simpa using h0) hi (by rw [List.drop_zero,k04];exact kec (by omega))
 rw [List.drop_zero] at this
 rw [show ((0:Int),(⟨s,(i:Int)⟩:S_literal_reader).f_at)=(((0:Nat):Int),(i:Int)) from rfl,this,qa]
 cases ((kcb (wl w)).ev s i).1 <;> rfl
theorem k62 (xs:List Int):(toBA xs).data.toList=xs.map fun n=>UInt8.ofNat n.toNat:=by
 have key:∀ (xs:List Int) (r:BA),(xs.foldl (fun r n=>r.push (UInt8.ofNat n.toNat)) r).data.toList=r.data.toList++xs.map fun n=>UInt8.ofNat n.toNat:=by
  intro xs
  induction xs with
  | nil=>intro r;simp
  | cons x xs ih=>intro r;rw [List.foldl_cons,ih];simp [ByteArray.push]
 unfold toBA
 rw [key]
 rfl
theorem ky3 (xs:List Int):(toBA xs).size=xs.length:=by rw [kar,k62,q8]
theorem kr3 (s:BA) (i:Nat):IntKind.i32.wrap (atI s i)=atI s i:=by
 have:=ksu s i
 simp [IntKind.wrap,IntKind.signed,IntKind.bits,IntKind.min,IntKind.max]
 omega
def tOut (x:Option (List Int)×Nat):BA×Bool×Int:=(x.1.elim ⟨#[]⟩ toBA,x.1.isSome,(x.2:Int))
theorem k76 (s:BA) (i0:Int) (least most:Nat) (hs:s.size≤4000000) (hm:most≤4000000):∀ (k:Nat) (acc:List Int) (i n:Nat),acc.length+k=most→i≤s.size→k<n →
  ∃ b,kaa (kax ⟨s,i0⟩ (least:Int) (most:Int)) n ((i:Int),acc)=some b∧Sum.elim (fun j=>((⟨#[]⟩:BA),false,j)) id b=tOut ((kjc least k acc).ev s i):=by
 intro k
 induction k with
 | zero=>
  intro acc i n hk hi hn
  obtain ⟨n,rfl⟩:∃ m,n=m+1:=⟨n - 1,by omega⟩
  by_cases h:i<s.size
  ·have e3:((acc.length:Int) == (most:Int))=true:=by simp;omega
   unfold kjc
   simp only [Pr.ev]
   by_cases hq:atI s i=34∧least≤acc.length
   ·rw [if_pos hq]
    refine ⟨_,kc5 (b := .inr (toBA acc,true,((i+1:Nat):Int))) ?_,rfl⟩
    have e1:(atI s i == 34)=true:=by rw [hq.1];rfl
    have e2:decide ((least:Int)≤(acc.length:Int))=true:=qe (by omega)
    simp only [kax,kbk h,qd,(khu h).1,qa,e1,kbc,kay,e2,w64s i (by omega),qg]
   ·rw [if_neg hq]
    refine ⟨_,kc5 (b := .inr (⟨#[]⟩,false,(i:Int))) ?_,rfl⟩
    by_cases h34:atI s i=34
    ·have e1:(atI s i == 34)=true:=by rw [h34];rfl
     have e2:decide ((least:Int)≤(acc.length:Int))=false:=qc (by omega)
     simp only [kax,kbk h,qd,(khu h).1,qa,e1,kbc,kay,e2,qb,qg]
    ·have e1:(atI s i == 34)=false:=by simpa using h34
     simp only [kax,kbk h,qd,(khu h).1,qa,e1,kbc,kay,e3,qb,qg]
  ·have e1:decide ((i:Int)<(s.size:Int))=false:=qc (by omega)
   refine ⟨_,kc5 (b := .inl (i:Int)) (by simp only [kax,e1,qb]),?_⟩
   unfold kjc
   simp only [Pr.ev,kqq (Nat.le_of_not_lt h)]
   rw [if_neg (by omega)]
   rfl
 | succ k ih=>
  intro acc i n hk hi hn
  obtain ⟨n,rfl⟩:∃ m,n=m+1:=⟨n - 1,by omega⟩
  by_cases h:i<s.size
  ·have e3:((acc.length:Int) == (most:Int))=false:=by simp;omega
   unfold kjc
   simp only [Pr.ev]
   by_cases hq:atI s i=34∧least≤acc.length
   ·rw [if_pos hq]
    refine ⟨_,kc5 (b := .inr (toBA acc,true,((i+1:Nat):Int))) ?_,rfl⟩
    have e1:(atI s i == 34)=true:=by rw [hq.1];rfl
    have e2:decide ((least:Int)≤(acc.length:Int))=true:=qe (by omega)
    simp only [kax,kbk h,qd,(khu h).1,qa,e1,kbc,kay,e2,w64s i (by omega),qg]
   ·rw [if_neg hq]
    by_cases hb:atI s i=34∨atI s i<32∨126<atI s i
    ·rw [if_pos hb]
     refine ⟨_,kc5 (b := .inr (⟨#[]⟩,false,(i:Int))) ?_,rfl⟩
     by_cases h34:atI s i=34
     ·have e1:(atI s i == 34)=true:=by rw [h34];rfl
      have e2:decide ((least:Int)≤(acc.length:Int))=false:=qc (by omega)
      simp only [kax,kbk h,qd,(khu h).1,qa,e1,kbc,kay,e2,qb,qg]
     ·have e1:(atI s i == 34)=false:=by simpa using h34
      have e4:kkl (atI s i)=false:=by
       unfold kkl
       rw [Bool.and_eq_false_iff,decide_eq_false_iff_not,decide_eq_false_iff_not]
       omega
      simp only [kax,kbk h,qd,(khu h).1,qa,e1,kbc,kay,e3,qb,qg,kr3,kna,e4,qap]
    ·rw [if_neg hb]
     have e1:(atI s i == 34)=false:=by simp;omega
     have e4:kkl (atI s i)=true:=by
      unfold kkl
      rw [qv,decide_eq_true_eq,decide_eq_true_eq]
      omega
     by_cases h92:atI s i=92
     ·rw [if_pos h92]
      have e5:(atI s i == 92)=true:=by rw [h92];rfl
      simp only [Pr.ev]
      by_cases hd:atI s (i+1)=34∨atI s (i+1)=92
      ·rw [if_pos hd]
       have e6:(bif (atI s (i+1) != 34) then (some (atI s (i+1) != 92)) else (some false):Option Bool)=some false:=by rcases hd with hd | hd <;> rw [hd] <;> rfl
       have hi':i+1<s.size:=kji (by omega)
       simp only [Pr.ev]
       obtain ⟨b,hb1,hb2⟩:=ih (acc++[atI s (i+1)]) (i+1+1) n (by simp;omega) (by omega) (by omega)
       refine ⟨b,?_,hb2⟩
       rw [← hb1]
       refine khh ?_
       simp only [kax,kbk h,qd,(khu h).1,qa,e1,kbc,e3,qb,kr3,kna,e4,q9,e5,w64s i (by omega),kge,e6,qf,kam,kbt,
        kho (b:=1) (xs:=acc) (ys:=[atI s (i+1)]) (by simp;omega),w64s (i+1) (by omega)]
      ·rw [if_neg hd]
       refine ⟨_,kc5 (b := .inr (⟨#[]⟩,false,((i+1:Nat):Int))) ?_,rfl⟩
       have e6:(bif (atI s (i+1) != 34) then (some (atI s (i+1) != 92)) else (some false):Option Bool)=some true:=by
        have a1:(atI s (i+1) != 34)=true:=by simp;omega
        have a2:(atI s (i+1) != 92)=true:=by simp;omega
        rw [a1,a2];rfl
       simp only [kax,kbk h,qd,(khu h).1,qa,e1,kbc,e3,qb,kr3,kna,e4,q9,e5,w64s i (by omega),kge,e6,qg]
     ·rw [if_neg h92]
      have e5:(atI s i == 92)=false:=by simpa using h92
      simp only [Pr.ev]
      obtain ⟨b,hb1,hb2⟩:=ih (acc++[atI s i]) (i+1) n (by simp;omega) (by omega) (by omega)
      refine ⟨b,?_,hb2⟩
      rw [← hb1]
      refine khh ?_
      simp only [kax,kbk h,qd,(khu h).1,qa,e1,kbc,e3,qb,kr3,kna,e4,q9,e5,qf,kam,kbt,
       kho (b:=1) (xs:=acc) (ys:=[atI s i]) (by simp;omega),w64s i (by omega)]
  ·have e1:decide ((i:Int)<(s.size:Int))=false:=qc (by omega)
   refine ⟨_,kc5 (b := .inl (i:Int)) (by simp only [kax,e1,qb]),?_⟩
   unfold kjc
   simp only [Pr.ev,kqq (Nat.le_of_not_lt h)]
   rw [if_neg (by omega),if_pos (by omega)]
   rfl
theorem kup {s:BA} {least most:Nat} (hs:s.size≤4000000) (hm:most≤4000000) {i:Nat} (hi:i≤s.size):
  kbq ⟨s,(i:Int)⟩ (least:Int) (most:Int)=some (tOut ((kgk least most).ev s i)):=by
 unfold kbq
 rw [kq3 hs (by decide) (by decide) hi]
 rw [show wl (⟨#[34]⟩:BA)=[34] from rfl]
 simp only [kcb,kgk,Pr.ev,qa]
 by_cases h:atI s i=34
 ·rw [if_pos h,if_pos h]
  simp only [Pr.ev]
  obtain ⟨b,hb1,hb2⟩:=k76 s i least most hs hm most [] (i+1) fuel (by simp) (kji (by omega)) (kec (by omega))
  have hb1':kaa (kax ⟨s,(i:Int)⟩ (least:Int) (most:Int)) fuel (((i+1:Nat):Int),([]:List Int))=some b:=hb1
  simp only [Option.isSome_some,q9,qb,hb1',qa,← hb2]
  cases b <;> rfl
 ·rw [if_neg h,if_neg h]
  rfl
theorem kvv {n:Int} (h0:0≤n) (h1:n≤255):w64 (wu8 n)=n:=by
 have e:wu8 n=n:=by
  simp [wu8,IntKind.wrap,IntKind.signed,IntKind.bits,IntKind.min,IntKind.max]
  omega
 rw [e];exact ke8 (by omega) (by omega)
theorem k28 (s:BA) (i0:Int) (hs:s.size≤4000000):∀ (f:Nat) (m:Int) (i n:Nat),f≤7→0<m→m≤1000000→(10:Int) ^ (7 - f)≤m→i≤s.size→f<n →
  kaa (kaw ⟨s,i0⟩) n (m,atI s i,(i:Int))=some (((ke4 f m).ev s i).1.getD 0,(((ke4 f m).ev s i).2:Int))∧0<((ke4 f m).ev s i).1.getD 0∧((ke4 f m).ev s i).1.isSome=true∧((ke4 f m).ev s i).1.getD 0≤1000000 ∧
  kaa (ke0 s) n ((i:Int),m)=some ((((ke4 f m).ev s i).2:Int),((ke4 f m).ev s i).1.getD 0):=by
 intro f
 induction f with
 | zero=>intro m i n _ h0 h1 h2;exact absurd h2 (by simp;omega)
 | succ f ih=>
  intro m i n hf h0 h1 h2 hi hn
  obtain ⟨n,rfl⟩:∃ m,n=m+1:=⟨n - 1,by omega⟩
  have hr:=ksu s i
  unfold ke4
  rw [if_neg (by omega)]
  simp only [Pr.ev]
  have ew:atI s i - 48≤255:=by omega
  by_cases hc:48≤atI s i∧atI s i≤57∧m*10+(atI s i - 48)≤1000000
  ·rw [if_pos hc]
   simp only [Pr.ev]
   have hf1:1≤f:=by
    rcases Nat.eq_zero_or_pos f with rfl | h
    ·exfalso
     have:(10:Int) ^ (7 - (0+1))=1000000:=by decide
     omega
    ·exact h
   have hp:(10:Int) ^ (7 - f)=10 ^ (7 - (f+1))*10:=by rw [← Int.pow_succ];congr 1;omega
   obtain ⟨k1,k2,k3,k4,k5⟩:=ih (m*10+(atI s i - 48)) (i+1) n (by omega) (by omega) (by omega) (by rw [hp];omega) (kji (by omega)) (by omega)
   have w1:=kvv (n:=atI s i - 48) (by omega) (by omega)
   have w2:w64 (10*m)=10*m:=ke8 (by omega) (by omega)
   have w2':w64 (m*10)=m*10:=ke8 (by omega) (by omega)
   have w3:w64 (10*m+(atI s i - 48))=m*10+(atI s i - 48):=by rw [Int.mul_comm 10 m];exact ke8 (by omega) (by omega)
   have w3':w64 (m*10+(atI s i - 48))=m*10+(atI s i - 48):=ke8 (by omega) (by omega)
   have d1:decide (48≤atI s i)=true:=qe hc.1
   have d2:decide (atI s i≤57)=true:=qe hc.2.1
   have d3:decide (m*10+(atI s i - 48)≤1000000)=true:=qe hc.2.2
   have d4:decide (0<m)=true:=qe h0
   refine ⟨?_,k2,k3,k4,?_⟩
   ·rw [← k1]
    refine khh ?_
    simp only [kaw,d1,d2,d3,d4,w1,w2,w3,qd,qa,w64s i (by omega),kge]
   ·rw [← k5]
    refine khh ?_
    simp only [ke0,kz1,d1,d2,d3,d4,w1,w2',w3',qd,qa,w64s i (by omega)]
  ·rw [if_neg hc]
   refine ⟨kc5 ?_,h0,rfl,h1,kc5 ?_⟩
   all_goals
    have d4:decide (0<m)=true:=qe h0
    by_cases c1:48≤atI s i
    ·by_cases c2:atI s i≤57
     ·have w1:=kvv (n:=atI s i - 48) (by omega) (by omega)
      have w2:w64 (10*m)=10*m:=ke8 (by omega) (by omega)
      have w2':w64 (m*10)=m*10:=ke8 (by omega) (by omega)
      have w3:w64 (10*m+(atI s i - 48))=m*10+(atI s i - 48):=by rw [Int.mul_comm 10 m];exact ke8 (by omega) (by omega)
      have w3':w64 (m*10+(atI s i - 48))=m*10+(atI s i - 48):=ke8 (by omega) (by omega)
      have d1:decide (48≤atI s i)=true:=qe c1
      have d2:decide (atI s i≤57)=true:=qe c2
      have d3:decide (m*10+(atI s i - 48)≤1000000)=false:=qc (by omega)
      simp only [kaw,ke0,kz1,d1,d2,d3,d4,w1,w2,w2',w3,w3',qd,qb,qa]
      rfl
     ·have d1:decide (48≤atI s i)=true:=qe c1
      have d2:decide (atI s i≤57)=false:=qc c2
      simp only [kaw,ke0,kz1,d1,d2,d4,qd,qb,qa]
      rfl
    ·have d1:decide (48≤atI s i)=false:=qc c1
     simp only [kaw,ke0,kz1,d1,d4,qd,qb,qa]
     rfl
def nOut (x:Option Int×Nat):Bool×Int×Int:=(x.1.isSome,(x.2:Int),x.1.getD 0)
theorem k4e (s:BA) (f i:Nat):(ke4 f 0).ev s i=(some 0,i):=by
 cases f with
 | zero=>rfl
 | succ f=>unfold ke4;rw [if_pos (by omega)];rfl
theorem kzm {s:BA} (hs:s.size≤4000000) {i:Nat} (hi:i≤s.size):kea ⟨s,(i:Int)⟩=some (nOut (numP.ev s i)):=by
 have key:∀ (neg:Bool) (sg:Int) (j:Nat),j≤s.size→sg=(if neg=true then -1 else 1)→¬ (neg=false∧atI s j=48) →
   (Option.bind (kaa (kaw ⟨s,(i:Int)⟩) fuel (0,atI s j,(j:Int))) fun (v13:Int×Int)=>(some ((decide (0<v13.1)),v13.2,(w64 (sg*v13.1))):Option (Bool×Int×Int)))=some (nOut ((unsP neg).ev s j)):=by
  intro neg sg j hj hsg hne
  have hr:=ksu s j
  obtain ⟨n,hn⟩:∃ n,fuel=n+1:=⟨_,klt⟩
  have hn9:9<n:=by have:=kec (n:=10) (by omega);omega
  unfold unsP
  simp only [Pr.ev]
  by_cases hb:atI s j<48∨57<atI s j∨(neg=true∧atI s j=48)
  ·rw [if_pos hb]
   have:kaa (kaw ⟨s,(i:Int)⟩) fuel (0,atI s j,(j:Int))=some (0,(j:Int)):=by
    rw [hn]
    refine kc5 ?_
    rcases hb with hb | hb | hb
    ·have d1:decide (48≤atI s j)=false:=qc (by omega)
     simp only [kaw,d1,qb,qa]
    ·have d1:decide (48≤atI s j)=true:=qe (by omega)
     have d2:decide (atI s j≤57)=false:=qc (by omega)
     simp only [kaw,d1,d2,qd,qb,qa]
    ·have d1:decide (48≤atI s j)=true:=qe (by omega)
     have d2:decide (atI s j≤57)=true:=qe (by omega)
     have d3:decide (48<atI s j)=false:=qc (by omega)
     simp only [kaw,d1,d2,d3,show decide ((0:Int)<0)=false from rfl,qd,qb,qa]
   rw [this,qa,show w64 (sg*0)=0 by rw [Int.mul_zero];rfl]
   rfl
  ·rw [if_neg hb]
   have g1:48≤atI s j:=Int.not_lt.1 fun h=>hb (.inl h)
   have g2:atI s j≤57:=Int.not_lt.1 fun h=>hb (.inr (.inl h))
   have g3:atI s j≠48:=fun h=>by
    cases hn:neg with
    | true=>exact hb (.inr (.inr ⟨hn,h⟩))
    | false=>exact hne ⟨hn,h⟩
   have h48:48<atI s j:=by omega
   simp only [Pr.ev,khl]
   obtain ⟨k1,k2,k3,k4,k5⟩:=k28 s i hs 7 (atI s j - 48) (j+1) n (by omega) (by omega) (by omega) (by simp;omega) (kji (by omega)) (by omega)
   have w1:=kvv (n:=atI s j - 48) (by omega) (by omega)
   have:kaa (kaw ⟨s,(i:Int)⟩) fuel (0,atI s j,(j:Int))=some (((ke4 7 (atI s j - 48)).ev s (j+1)).1.getD 0,(((ke4 7 (atI s j - 48)).ev s (j+1)).2:Int)):=by
    rw [hn,← k1]
    refine khh ?_
    have d1:decide (48≤atI s j)=true:=qe (by omega)
    have d2:decide (atI s j≤57)=true:=qe (by omega)
    have d3:decide (48<atI s j)=true:=qe (by omega)
    have d5:decide (atI s j - 48≤1000000)=true:=qe (by omega)
    have w2:w64 (10*0)=0:=rfl
    have w3:w64 (0+(atI s j - 48))=atI s j - 48:=by rw [Int.zero_add];exact ke8 (by omega) (by omega)
    simp only [kaw,d1,d2,d3,d5,w1,w2,w3,show decide ((0:Int)<0)=false from rfl,qd,qb,qa,w64s j (by omega),kge]
   rw [this,qa]
   generalize (ke4 7 (atI s j - 48)).ev s (j+1)=x at k2 k3 k4 ⊢
   obtain ⟨_ | m,j'⟩:=x
   ·cases k3
   ·simp only [qao] at k2 k4 ⊢
    rw [qe k2]
    have:w64 (sg*m)=if neg=true then -m else m:=by
     rw [hsg]
     cases neg with
     | true=>simp only [if_true];rw [show (-1:Int)*m = -m by omega];exact ke8 (by omega) (by omega)
     | false=>simp only [qav,if_false];rw [Int.one_mul];exact ke8 (by omega) (by omega)
    rw [this]
    rfl
 unfold kea numP
 simp only [Pr.ev,kge,qa]
 by_cases h45:atI s i=45
 ·have e1:(atI s i == 45)=true:=by rw [h45];rfl
  rw [if_pos h45]
  simp only [Pr.ev]
  rw [← key true (-1) (i+1) (kji (by omega)) rfl (fun h=>by cases h.1)]
  simp only [e1,qd,qa,w64s i (by omega),show ((-1:Int) == 1)=false from rfl,qb,kge]
 ·have e1:(atI s i == 45)=false:=by simpa using h45
  rw [if_neg h45]
  by_cases h48:atI s i=48
  ·have e2:(atI s i == 48)=true:=by rw [h48];rfl
   simp only [e1,e2,qd,qb,qa,show ((1:Int) == 1)=true from rfl,kge,w64s i (by omega)]
   unfold unsP
   simp only [Pr.ev,h48]
   rw [if_neg (by simp)]
   simp only [Pr.ev,khl,show (48:Int) - 48=0 from rfl,k4e]
   rfl
  ·have e2:(atI s i == 48)=false:=by simpa using h48
   rw [← key false 1 i hi rfl (fun h=>h48 h.2)]
   simp only [e1,e2,qd,qb,qa,show ((1:Int) == 1)=true from rfl,kge]
theorem k8w (s:BA) (i:Nat):kk2 (atI s i)=some (hexV (atI s i))∧klx (atI s i)=some (hexV (atI s i)):=by
 have hr:=ksu s i
 have key:∀ n:Fin 256,kk2 ((n.val:Nat):Int)=some (hexV ((n.val:Nat):Int))∧klx ((n.val:Nat):Int)=some (hexV ((n.val:Nat):Int)):=by decide
 have:=key ⟨(atI s i).toNat,by omega⟩
 rwa [show (((atI s i).toNat:Nat):Int)=atI s i by omega] at this
theorem kyu {s:BA} (hs:s.size≤4000000) (i0:Int) {m:Int} {j k:Nat} (hm:0≤m∧m≤255) (hj:j<2) (hk:k≤s.size):
  kdv ⟨s,i0⟩ (m,(j:Int),(k:Int))=some (if hexV (atI s k)<0 then .inr (.inr (k:Int)) else .inl (16*m+hexV (atI s k),((j+1:Nat):Int),((k+1:Nat):Int))):=by
 have e0:decide ((j:Int)<2)=true:=qe (by omega)
 have hx:hexV (atI s k)≤15:=by unfold hexV;split <;> (try split) <;> omega
 by_cases h:hexV (atI s k)<0
 ·rw [if_pos h]
  have d1:decide (hexV (atI s k)<0)=true:=qe h
  cases hd:decide ((s.size:Int)≤(k:Int)) <;>
   simp only [kdv,e0,qd,qb,kge,qa,(k8w s k).1,hd,d1]
 ·rw [if_neg h]
  have d1:decide (hexV (atI s k)<0)=false:=qc h
  have hk':k<s.size:=kji fun h0=>h (by rw [h0];decide)
  have hd:decide ((s.size:Int)≤(k:Int))=false:=qc (by omega)
  have w1:w64 (16*m)=16*m:=ke8 (by omega) (by omega)
  have w2:w64 (16*m+hexV (atI s k))=16*m+hexV (atI s k):=ke8 (by omega) (by omega)
  simp only [kdv,e0,qd,qb,kge,qa,(k8w s k).1,hd,d1,w1,w2,w64s j (by omega),w64s k (by omega)]
theorem kafj {s:BA} (hs:s.size≤4000000) {i:Nat} (hi:i+2≤s.size):kfz ⟨s,(i:Int)⟩=some ((bitsP.ev s (i+2)).1.isSome,((bitsP.ev s (i+2)).2:Int),(bitsP.ev s (i+2)).1.elim 0 (fun _=>4),(bitsP.ev s (i+2)).1.getD 0):=by
 obtain ⟨n,hn⟩:∃ n,fuel=n+3:=⟨18446744073709551613,rfl⟩
 have ew:w64 ((i:Int)+2)=((i+2:Nat):Int):=ke8 (by omega) (by omega)
 have h1:kdv ⟨s,(i:Int)⟩ (0,0,((i+2:Nat):Int))=_:=kyu hs (i:Int) (m:=0) (j:=0) (k:=i+2) (by omega) (by omega) hi
 unfold kfz
 rw [show (⟨s,(i:Int)⟩:S_literal_reader).f_at=(i:Int) from rfl,ew,hn]
 unfold bitsP
 simp only [Pr.ev]
 by_cases h:hexV (atI s (i+2))<0
 ·rw [if_pos h] at h1 ⊢
  rw [kc5 (n:=n+2) h1]
  rfl
 ·rw [if_neg h] at h1 ⊢
  have hx:hexV (atI s (i+2))≤15:=by unfold hexV;split <;> (try split) <;> omega
  have hk':i+2<s.size:=kji fun h0=>h (by rw [h0];decide)
  have h2:=kyu hs (i:Int) (m:=16*0+hexV (atI s (i+2))) (j:=1) (k:=i+2+1) (by omega) (by omega) hk'
  rw [khh (n:=n+2) h1]
  simp only [Pr.ev]
  by_cases h':hexV (atI s (i+2+1))<0
  ·rw [if_pos h'] at h2 ⊢
   rw [kc5 (n:=n+1) h2]
   rfl
  ·rw [if_neg h'] at h2 ⊢
   rw [khh (n:=n+1) h2]
   rw [kc5 (n:=n) (b := .inl (16*(16*0+hexV (atI s (i+2)))+hexV (atI s (i+2+1)),((i+2+1+1:Nat):Int))) rfl]
   simp only [qa,qf,Pr.ev,Option.isSome_some,Option.elim_some,qao]
   rw [show 16*(16*0+hexV (atI s (i+2)))+hexV (atI s (i+2+1))=hexV (atI s (i+2))*16+hexV (atI s (i+2+1)) by omega]
theorem kqj {τ β:Type} {step:τ→Option (τ ⊕ β)} {s:BA} {e:Int} {least most:Nat} {elem:List Va→Pr Va} (hg:∀ l,(elem l).good false) (mk:Nat→List Va→τ) (Q:Option (List Va)×Nat→β→Prop) (Inv:List Va→Prop)
  (hi:∀ acc i v j,Inv acc→(elem acc).ev s i=(some v,j)→Inv (acc++[v]))
  (hstep:∀ i acc x,i≤s.size→acc.length<most→Inv acc→(elem acc).ev s i=x →
   (x.1=none→∃ b,step (mk i acc)=some (.inr b)∧Q (none,x.2) b) ∧
   ∀ v,x.1=some v →
    ((atI s x.2=e∧least≤acc.length+1)→∃ b,step (mk i acc)=some (.inr b)∧Q (some (acc++[v]),x.2+1) b) ∧
    (¬ (atI s x.2=e∧least≤acc.length+1)→acc.length+1=most→∃ b,step (mk i acc)=some (.inr b)∧Q (none,x.2) b) ∧
    (¬ (atI s x.2=e∧least≤acc.length+1)→acc.length+1≠most→((kcb [44,32]).ev s x.2).1=none→∃ b,step (mk i acc)=some (.inr b)∧Q (none,((kcb [44,32]).ev s x.2).2) b) ∧
    (¬ (atI s x.2=e∧least≤acc.length+1)→acc.length+1≠most→((kcb [44,32]).ev s x.2).1≠none→step (mk i acc)=some (.inl (mk ((kcb [44,32]).ev s x.2).2 (acc++[v]))))):
  ∀ k acc i n,acc.length+1+k=most→Inv acc→i≤s.size→k<n→∃ b,kaa step n (mk i acc)=some b∧Q (((elem acc).bind fun v=>kcv e least elem k (acc++[v])).ev s i) b:=by
 intro k
 induction k with
 | zero=>
  intro acc i n hk hI hi' hn
  obtain ⟨n,rfl⟩:∃ m,n=m+1:=⟨n - 1,by omega⟩
  obtain ⟨h1,h2⟩:=hstep i acc _ hi' (by omega) hI rfl
  rw [khl]
  rcases hx:(elem acc).ev s i with ⟨_ | v,j⟩
  ·rw [hx] at h1
   obtain ⟨b,hb,hq⟩:=h1 rfl
   exact ⟨b,kc5 hb,hq⟩
  ·rw [hx] at h2
   obtain ⟨q1,q2,_⟩:=h2 v rfl
   show ∃ b,_∧Q ((kcv e least elem 0 (acc++[v])).ev s j) b
   unfold kcv
   simp only [Pr.ev,qm,qay]
   by_cases hc:atI s j=e∧least≤acc.length+1
   ·obtain ⟨b,hb,hq⟩:=q1 hc
    rw [if_pos hc]
    exact ⟨b,kc5 hb,hq⟩
   ·obtain ⟨b,hb,hq⟩:=q2 hc (by omega)
    rw [if_neg hc]
    exact ⟨b,kc5 hb,hq⟩
 | succ k ih=>
  intro acc i n hk hI hi' hn
  obtain ⟨n,rfl⟩:∃ m,n=m+1:=⟨n - 1,by omega⟩
  obtain ⟨h1,h2⟩:=hstep i acc _ hi' (by omega) hI rfl
  rw [khl]
  have hle:=kpp (s:=s) (hg acc) hi'
  rcases hx:(elem acc).ev s i with ⟨_ | v,j⟩
  ·rw [hx] at h1
   obtain ⟨b,hb,hq⟩:=h1 rfl
   exact ⟨b,kc5 hb,hq⟩
  ·rw [hx] at h2 hle
   obtain ⟨q1,q2,q3,q4⟩:=h2 v rfl
   show ∃ b,_∧Q ((kcv e least elem (k+1) (acc++[v])).ev s j) b
   unfold kcv
   simp only [Pr.ev,qm,qay]
   by_cases hc:atI s j=e∧least≤acc.length+1
   ·obtain ⟨b,hb,hq⟩:=q1 hc
    rw [if_pos hc]
    exact ⟨b,kc5 hb,hq⟩
   ·rw [if_neg hc,if_neg (by omega),khl]
    have hle2:=kpp (s:=s) (klv (w:=[44,32]) (by decide)) hle.2
    rcases hw:(kcb [44,32]).ev s j with ⟨_ | u,j'⟩
    ·rw [hw] at q3
     obtain ⟨b,hb,hq⟩:=q3 hc (by omega) rfl
     exact ⟨b,kc5 hb,hq⟩
    ·rw [hw] at q4 hle2
     have hb:=q4 hc (by omega) (by exact fun h=>by cases h)
     rw [khh hb]
     exact ih (acc++[v]) j' n (by simp;omega) (hi acc i v j hI hx) hle2.2 (by omega)
def lQ (x:Option (List Va)×Nat) (b:List Va×Bool×Int):Prop:=b.2.1=x.1.isSome∧b.2.2=(x.2:Int)∧∀ l,x.1=some l→b.1=l
theorem k8x {s:BA} (hs:s.size≤4000000) {j:Nat} (hj:j≤s.size):kan ⟨s,(j:Int)⟩ (⟨#[44,32]⟩:BA)=some (((kcb [44,32]).ev s j).1.isSome,(((kcb [44,32]).ev s j).2:Int)):=kq3 hs (by decide) (by decide) hj
theorem kuz {s:BA} (hs:s.size≤4000000) {i:Nat} (hi:i≤s.size) (c:UInt8) (hc:c≠0):kan ⟨s,(i:Int)⟩ (⟨#[c]⟩:BA)=some (if atI s i=(c.toNat:Int) then (true,((i+1:Nat):Int)) else (false,(i:Int))):=by
 have hc0:(c.toNat:Int)≠0:=by
  intro h
  apply hc
  have:c.toNat=0:=by omega
  exact UInt8.toNat.inj this
 rw [kq3 hs (by show 1≤1000000;omega) (by intro x hx;simp [wl] at hx;rw [hx];exact hc0) hi,show wl (⟨#[c]⟩:BA)=[(c.toNat:Int)] from rfl]
 simp only [kcb,Pr.ev]
 by_cases h:atI s i=(c.toNat:Int)
 ·rw [if_pos h,if_pos h];rfl
 ·rw [if_neg h,if_neg h];rfl
def k0c {γ:Type} (s:BA) (j:Nat) (c:Int) (most len:Nat) (A B C:Int→γ):Option γ:=
 some (if atI s j=c then A ((j+1:Nat):Int) else if len=most then B (j:Int) else if ((kcb [44,32]).ev s j).1=none then B (((kcb [44,32]).ev s j).2:Int) else C (((kcb [44,32]).ev s j).2:Int))
theorem kyd {γ:Type} {s:BA} (hs:s.size≤4000000) {j:Nat} (hj:j≤s.size) (c:Int) (hc:c≠0) (most:Nat) (acc:List Va) (A B C:Int→γ):
  (Option.bind (kat ⟨s,(j:Int)⟩) fun v6=>(bif (v6 == c) then some (A (w64 ((j:Int)+1))) else (Option.bind ((bif ((List.length acc:Int) == (most:Int)) then (some (true,(j:Int))) else (Option.bind (kan ⟨s,(j:Int)⟩ (⟨#[44,32]⟩:BA)) fun v7=>(some ((!v7.1),v7.2)))):Option ((Bool)×(Int))) fun (v9:(Bool)×(Int))=>(bif v9.1 then some (B v9.2) else some (C v9.2))))) =
   k0c s j c most acc.length A B C:=by
 unfold k0c
 rw [kge,qa]
 by_cases h:atI s j=c
 ·rw [if_pos h,show (atI s j == c)=true by rw [h];simp,w64s j (by omega)];rfl
 ·rw [if_neg h,show (atI s j == c)=false by simpa using h,qb]
  by_cases hl:acc.length=most
  ·rw [if_pos hl,show ((acc.length:Int) == (most:Int))=true by simp;omega];rfl
  ·rw [if_neg hl,show ((acc.length:Int) == (most:Int))=false by simp;omega,qb,k8x hs hj]
   cases ((kcb [44,32]).ev s j).1 <;> rfl
theorem k36 (s:BA) (i:Nat):intE.ev s i=((numP.ev s i).1.map fun a=>Va.mk 2 a ⟨#[]⟩ [],(numP.ev s i).2):=by
 unfold intE;rw [khl]
 rcases numP.ev s i with ⟨_ | a,j⟩ <;> rfl
theorem kvw (s:BA) (i:Nat):textE.ev s i=(((kgk 0 64).ev s i).1.map fun a=>Va.mk 3 0 (toBA a) [],((kgk 0 64).ev s i).2):=by
 unfold textE;rw [khl]
 rcases (kgk 0 64).ev s i with ⟨_ | a,j⟩ <;> rfl
theorem ksg {τ β:Type} {step:τ→Option (τ ⊕ β)} {s:BA} {c:Int} {most:Nat} {elem:List Va→Pr Va} (hg:∀ l,(elem l).good false) {mk:Nat→List Va→τ} {Q:Option (List Va)×Nat→β→Prop} {Inv:List Va→Prop}
  (h:∀ i acc,i≤s.size→acc.length<most→Inv acc→(∀ j,(elem acc).ev s i=(none,j)→∃ b,step (mk i acc)=some (.inr b)∧Q (none,j) b) ∧
   ∀ v j,(elem acc).ev s i=(some v,j)→∃ A B C:Int→τ ⊕ β,step (mk i acc)=k0c s j c most (acc++[v]).length A B C ∧
    (∀ z:Nat,∃ b,A (z:Int) = .inr b∧Q (some (acc++[v]),z) b)∧(∀ z:Nat,∃ b,B (z:Int) = .inr b∧Q (none,z) b)∧∀ z:Nat,C (z:Int) = .inl (mk z (acc++[v]))):
  ∀ i acc x,i≤s.size→acc.length<most→Inv acc→(elem acc).ev s i=x →
   (x.1=none→∃ b,step (mk i acc)=some (.inr b)∧Q (none,x.2) b) ∧
   ∀ v,x.1=some v →
    ((atI s x.2=c∧0≤acc.length+1)→∃ b,step (mk i acc)=some (.inr b)∧Q (some (acc++[v]),x.2+1) b) ∧
    (¬ (atI s x.2=c∧0≤acc.length+1)→acc.length+1=most→∃ b,step (mk i acc)=some (.inr b)∧Q (none,x.2) b) ∧
    (¬ (atI s x.2=c∧0≤acc.length+1)→acc.length+1≠most→((kcb [44,32]).ev s x.2).1=none→∃ b,step (mk i acc)=some (.inr b)∧Q (none,((kcb [44,32]).ev s x.2).2) b) ∧
    (¬ (atI s x.2=c∧0≤acc.length+1)→acc.length+1≠most→((kcb [44,32]).ev s x.2).1≠none→step (mk i acc)=some (.inl (mk ((kcb [44,32]).ev s x.2).2 (acc++[v])))):=by
 intro i acc x hi hl hI hx
 obtain ⟨h1,h2⟩:=h i acc hi hl hI
 obtain ⟨_ | v,j⟩:=x
 ·exact ⟨fun _=>h1 j hx,fun v h=>by cases h⟩
 ·refine ⟨fun h=>(by cases h),fun v' hv=>?_⟩
  obtain rfl:=qo hv
  obtain ⟨A,B,C,e,a1,a2,a3⟩:=h2 v j hx
  unfold k0c at e
  rw [qm,qay] at e
  refine ⟨fun hc=>?_,fun hc hl=>?_,fun hc hl hw=>?_,fun hc hl hw=>?_⟩
  ·rw [if_pos hc.1] at e
   obtain ⟨b,hb,hq⟩:=a1 (j+1)
   exact ⟨b,by rw [e,hb],hq⟩
  ·rw [if_neg (fun h=>hc ⟨h,qaa _⟩),if_pos hl] at e
   obtain ⟨b,hb,hq⟩:=a2 j
   exact ⟨b,by rw [e,hb],hq⟩
  ·rw [if_neg (fun h=>hc ⟨h,qaa _⟩),if_neg hl,if_pos hw] at e
   obtain ⟨b,hb,hq⟩:=a2 ((kcb [44,32]).ev s j).2
   exact ⟨b,by rw [e,hb],hq⟩
  ·rw [if_neg (fun h=>hc ⟨h,qaa _⟩),if_neg hl,if_neg hw] at e
   rw [e,a3]
theorem k84 {s:BA} (hs:s.size≤4000000) (i0:Int):∀ k (acc:List Va) (i n:Nat),acc.length+1+k=16→True→i≤s.size→k<n →
  ∃ b,kaa (kff ⟨s,i0⟩ 93 16) n ((i:Int),acc)=some b∧lQ ((intE.bind fun v=>kcv 93 0 (fun _=>intE) k (acc++[v])).ev s i) b:=by
 refine kqj (least:=0) (elem:=fun _=>intE) (fun _=>kn7) (fun i acc=>((i:Int),acc)) lQ (fun _=>True) (fun _ _ _ _ _ _=>trivial) (ksg (fun _=>kn7) ?_)
 intro i acc hi hl _
 have hn:=kzm hs hi
 have hle:=kpp (s:=s) kyx hi
 simp only [k36]
 generalize numP.ev s i=y at hn hle
 obtain ⟨_ | m,j⟩:=y
 ·refine ⟨fun j' h=>?_,fun v j' h=>by cases h⟩
  cases h
  exact ⟨([],false,(j:Int)),by simp only [kff,hn,nOut,qa,Option.isSome_none,qap,qd],rfl,rfl,fun l h=>by cases h⟩
 ·refine ⟨fun j' h=>(by cases h),fun v j' h=>?_⟩
  cases h
  have ha:=kho (b:=56) (xs:=acc) (ys:=[Va.mk 2 m ⟨#[]⟩ []]) (by simp;omega)
  refine ⟨fun z => .inr (acc++[Va.mk 2 m ⟨#[]⟩ []],true,z),fun z => .inr ([],false,z),fun z => .inl (z,acc++[Va.mk 2 m ⟨#[]⟩ []]),Eq.trans ?_ (kyd hs hle.2 93 (by decide) 16 (acc++[Va.mk 2 m ⟨#[]⟩ []]) _ _ _),fun z=>⟨_,rfl,rfl,rfl,fun l h=>by cases h;rfl⟩,fun z=>⟨_,rfl,rfl,rfl,fun l h=>by cases h⟩,fun z=>rfl⟩
  simp only [kff,hn,nOut,qa,Option.isSome_some,q9,qb,qao,ha]
  rfl
theorem k6g {s:BA} (hs:s.size≤4000000) (i0:Int):∀ k (acc:List Va) (i n:Nat),acc.length+1+k=16→True→i≤s.size→k<n →
  ∃ b,kaa (kex ⟨s,i0⟩ 125 16) n ((i:Int),acc)=some b∧lQ ((textE.bind fun v=>kcv 125 0 (fun _=>textE) k (acc++[v])).ev s i) b:=by
 refine kqj (least:=0) (elem:=fun _=>textE) (fun _=>kkt) (fun i acc=>((i:Int),acc)) lQ (fun _=>True) (fun _ _ _ _ _ _=>trivial) (ksg (fun _=>kkt) ?_)
 intro i acc hi hl _
 have hn:=kup (least:=0) (most:=64) hs (by decide) hi
 have hle:=kpp (s:=s) (kom 0 64) hi
 simp only [kvw]
 have hn':kbq ⟨s,(i:Int)⟩ 0 64=some (tOut ((kgk 0 64).ev s i)):=hn
 generalize (kgk 0 64).ev s i=y at hn' hle
 obtain ⟨_ | m,j⟩:=y
 ·refine ⟨fun j' h=>?_,fun v j' h=>by cases h⟩
  cases h
  exact ⟨([],false,(j:Int)),by simp only [kex,kb9,hn',tOut,qa,Option.isSome_none,qap,qd],rfl,rfl,fun l h=>by cases h⟩
 ·refine ⟨fun j' h=>(by cases h),fun v j' h=>?_⟩
  cases h
  have ha:=kho (b:=56) (xs:=acc) (ys:=[Va.mk 3 0 (toBA m) []]) (by simp;omega)
  refine ⟨fun z => .inr (acc++[Va.mk 3 0 (toBA m) []],true,z),fun z => .inr ([],false,z),fun z => .inl (z,acc++[Va.mk 3 0 (toBA m) []]),Eq.trans ?_ (kyd hs hle.2 125 (by decide) 16 (acc++[Va.mk 3 0 (toBA m) []]) _ _ _),fun z=>⟨_,rfl,rfl,rfl,fun l h=>by cases h;rfl⟩,fun z=>⟨_,rfl,rfl,rfl,fun l h=>by cases h⟩,fun z=>rfl⟩
  simp only [kex,kb9,hn',tOut,qa,Option.isSome_some,q9,qb,Option.elim_some,ha]
  rfl
theorem kafv {s:BA} (hs:s.size≤4000000) {i:Nat} (hi:i≤s.size) (h91:atI s i=91):∃ b,kfy ⟨s,(i:Int)⟩ 91 93 16=some b∧lQ ((kcv 93 0 (fun _=>intE) 16 []).ev s (i+1)) b:=by
 have hi':i+1≤s.size:=kji (by omega)
 have ho:=kuz hs hi 91 (by decide)
 rw [if_pos (by rw [h91];rfl)] at ho
 have ho':kan ⟨s,(i:Int)⟩ (Utf8.encode 91)=some (true,((i+1:Nat):Int)):=ho
 unfold kfy kcv
 simp only [ho',qa,q9,qb,kge,Pr.ev]
 by_cases hc:atI s (i+1)=93
 ·rw [if_pos ⟨hc,qt _⟩,show (atI s (i+1) == 93)=true by rw [hc];rfl]
  exact ⟨_,rfl,rfl,w64s (i+1) (by omega),fun l h=>by cases h;rfl⟩
 ·rw [if_neg (fun h=>hc h.1),show (atI s (i+1) == 93)=false by simpa using hc,qb]
  obtain ⟨b,hb,hq⟩:=k84 hs i 15 [] (i+1) fuel rfl trivial hi' (kec (by omega))
  rw [hb]
  refine ⟨b,rfl,?_⟩
  simpa [Pr.bind] using hq
theorem kabt {s:BA} (hs:s.size≤4000000) {i:Nat} (hi:i≤s.size) (h91:atI s i=123):∃ b,kfq ⟨s,(i:Int)⟩ 123 125 16=some b∧lQ ((kcv 125 0 (fun _=>textE) 16 []).ev s (i+1)) b:=by
 have hi':i+1≤s.size:=kji (by omega)
 have ho:=kuz hs hi 123 (by decide)
 rw [if_pos (by rw [h91];rfl)] at ho
 have ho':kan ⟨s,(i:Int)⟩ (Utf8.encode 123)=some (true,((i+1:Nat):Int)):=ho
 unfold kfq kcv
 simp only [ho',qa,q9,qb,kge,Pr.ev]
 by_cases hc:atI s (i+1)=125
 ·rw [if_pos ⟨hc,qt _⟩,show (atI s (i+1) == 125)=true by rw [hc];rfl]
  exact ⟨_,rfl,rfl,w64s (i+1) (by omega),fun l h=>by cases h;rfl⟩
 ·rw [if_neg (fun h=>hc h.1),show (atI s (i+1) == 125)=false by simpa using hc,qb]
  obtain ⟨b,hb,hq⟩:=k6g hs i 15 [] (i+1) fuel rfl trivial hi' (kec (by omega))
  rw [hb]
  refine ⟨b,rfl,?_⟩
  simpa [Pr.bind] using hq
def kmk:List Va→Nat
 | []=>0
 | r::_=>r.items.length
def InvR (acc:List Va):Prop:=∀ r∈acc,1≤r.items.length∧r.items.length≤8
def rQ (cols:Nat) (x:Option (List Va)×Nat) (b:Bool×Int×Int×Int×List Va):Prop:=b.1=x.1.isSome∧b.2.1=(x.2:Int)∧∀ l,x.1=some l→b.2.2.1=(l.length:Int)∧b.2.2.2.1=6∧b.2.2.2.2=l
def rowG (least most:Nat):Pr Va := .peek fun c=>if c=123 then .adv ((kcv 125 least (fun _=>textE) most []).bind fun l => .done (Va.mk 6 0 ⟨#[]⟩ l)) else .fail
theorem kaal {s:BA} (hs:s.size≤4000000) (i0:Int) (cols least most:Nat) (hcl:(cols=0∧least=1∧most=8)∨(1≤cols∧cols≤8∧least=cols∧most=cols)):∀ k (acc:List Va) (i n:Nat),acc.length+1+k=most→True→i≤s.size→k<n →
  ∃ b,kaa (kdb ⟨s,i0⟩ (cols:Int)) n ((i:Int),acc)=some b∧rQ cols ((textE.bind fun v=>kcv 125 least (fun _=>textE) k (acc++[v])).ev s i) b:=by
 refine kqj (least:=least) (elem:=fun _=>textE) (fun _=>kkt) (fun i acc=>((i:Int),acc)) (rQ cols) (fun _=>True) (fun _ _ _ _ _ _=>trivial) ?_
 intro i acc x hi hl _ hx
 have hn:=kup (least:=0) (most:=64) hs (by decide) hi
 have hle:=kpp (s:=s) (kom 0 64) hi
 simp only [kvw] at hx
 have hn':kbq ⟨s,(i:Int)⟩ 0 64=some (tOut ((kgk 0 64).ev s i)):=hn
 generalize (kgk 0 64).ev s i=y at hn' hle hx
 have hm8:most≤8:=by omega
 obtain ⟨_ | m,j⟩:=y
 ·subst hx
  refine ⟨fun _=>?_,fun v h=>by cases h⟩
  exact ⟨(false,(j:Int),(cols:Int),0,[]),by simp only [kdb,kb9,hn',tOut,qa,Option.isSome_none,qap,qd],rfl,rfl,fun l h=>by cases h⟩
 ·subst hx
  refine ⟨fun h=>(by cases h),fun v hv=>?_⟩
  obtain rfl:=qo hv
  simp only
  have hj:=hle.2
  simp only at hj
  have ha:=kho (b:=56) (xs:=acc) (ys:=[Va.mk 3 0 (toBA m) []]) (by simp;omega)
  have hlen:((List.length (acc++[Va.mk 3 0 (toBA m) []]):Nat):Int)=((acc.length+1:Nat):Int):=by rw [qm];rfl
  have e7:(bif (atI s j == 125) then (bif ((cols:Int) == 0) then (some (true)) else (some (((acc.length+1:Nat):Int) == (cols:Int)))) else (some (false)):Option Bool)=some (decide (atI s j=125∧least≤acc.length+1)):=by
   by_cases h:atI s j=125
   ·rw [show (atI s j == 125)=true by rw [h];rfl,qd]
    rcases hcl with ⟨h1,h2,h3⟩ | ⟨h1,h2,h3,h4⟩
    ·rw [show ((cols:Int) == 0)=true by simp;omega,qe ⟨h,by omega⟩];rfl
    ·rw [show ((cols:Int) == 0)=false by simp;omega,qb]
     congr 1
     by_cases hc:acc.length+1=cols
     ·rw [qe ⟨h,by omega⟩,hc];simp
     ·rw [qc (by omega)];simp;omega
   ·rw [show (atI s j == 125)=false by simpa using h,qb,qc (fun h'=>h h'.1)]
  have e8:(bif (((acc.length+1:Nat):Int) == 8) then (some (true,(j:Int))) else (bif (((acc.length+1:Nat):Int) == (cols:Int)) then (some (true,(j:Int))) else (Option.bind (kan ⟨s,(j:Int)⟩ (⟨#[44,32]⟩:BA)) fun v8=>(some ((!v8.1),v8.2)))):Option (Bool×Int)) =
    if acc.length+1=most then some (true,(j:Int)) else some (!((kcb [44,32]).ev s j).1.isSome,(((kcb [44,32]).ev s j).2:Int)):=by
   by_cases hc:acc.length+1=most
   ·rw [if_pos hc]
    rcases hcl with ⟨h1,h2,h3⟩ | ⟨h1,h2,h3,h4⟩
    ·rw [show (((acc.length+1:Nat):Int) == 8)=true by rw [hc,h3];rfl];rfl
    ·rw [show (((acc.length+1:Nat):Int) == (cols:Int))=true by simp;omega]
     cases (((acc.length+1:Nat):Int) == 8) <;> rfl
   ·rw [if_neg hc,show (((acc.length+1:Nat):Int) == 8)=false by rw [qw];omega,show (((acc.length+1:Nat):Int) == (cols:Int))=false by rw [qw];omega,k8x hs hj]
    rfl
  have base:kdb ⟨s,i0⟩ (cols:Int) ((i:Int),acc)=(bif decide (atI s j=125∧least≤acc.length+1) then some (.inr (true,((j+1:Nat):Int),((acc.length+1:Nat):Int),6,acc++[Va.mk 3 0 (toBA m) []])) else Option.bind (if acc.length+1=most then some (true,(j:Int)) else some (!((kcb [44,32]).ev s j).1.isSome,(((kcb [44,32]).ev s j).2:Int))) fun v10=>bif v10.1 then some (.inr (false,v10.2,(cols:Int),0,[])) else some (.inl (v10.2,acc++[Va.mk 3 0 (toBA m) []]))):=by
   simp only [kdb,kb9,hn',tOut,qa,Option.isSome_some,q9,qb,Option.elim_some,ha,kge,hlen,e7,e8,w64s j (by omega)]
  refine ⟨fun hc=>?_,fun hc hl=>?_,fun hc hl hw=>?_,fun hc hl hw=>?_⟩
  ·rw [base,qe hc]
   exact ⟨_,rfl,rfl,rfl,fun l h=>by cases h;exact ⟨hlen.symm,rfl,rfl⟩⟩
  ·rw [base,qc hc,if_pos hl]
   exact ⟨_,rfl,rfl,rfl,fun l h=>by cases h⟩
  ·rw [base,qc hc,if_neg hl,hw]
   exact ⟨_,rfl,rfl,rfl,fun l h=>by cases h⟩
  ·rw [base,qc hc,if_neg hl]
   cases hw':((kcb [44,32]).ev s j).1 with
   | none=>exact absurd hw' hw
   | some u=>rfl
theorem k37 {s:BA} (hs:s.size≤4000000) {cols least most:Nat} (hcl:(cols=0∧least=1∧most=8)∨(1≤cols∧cols≤8∧least=cols∧most=cols)) {i:Nat} (hi:i≤s.size):
  ∃ b,keb ⟨s,(i:Int)⟩ (cols:Int)=some b∧b.1=((rowG least most).ev s i).1.isSome∧b.2.1=(((rowG least most).ev s i).2:Int) ∧
  ∀ v,((rowG least most).ev s i).1=some v→b.2.2.1=(v.items.length:Int)∧v=Va.mk b.2.2.2.1 0 ⟨#[]⟩ b.2.2.2.2:=by
 unfold keb rowG
 rw [kuz hs hi 123 (by decide)]
 simp only [Pr.ev]
 by_cases h:atI s i=123
 ·rw [if_pos (by rw [h];rfl),if_pos h]
  have hi':i+1≤s.size:=kji (by omega)
  simp only [qa,q9,qb,Pr.ev,khl]
  obtain ⟨k,hk⟩:∃ k,most=k+1:=⟨most - 1,by omega⟩
  obtain ⟨b,hb,hq⟩:=kaal hs i cols least most hcl k [] (i+1) fuel (by rw [hk];simp;omega) trivial hi' (kec (by omega))
  have hq':rQ cols ((kcv 125 least (fun _=>textE) most []).ev s (i+1)) b:=by
   rw [hk]
   unfold kcv
   simp only [Pr.ev]
   rw [if_neg (by simp;omega)]
   simpa [Pr.bind] using hq
  obtain ⟨q1,q2,q3⟩:=hq'
  rw [hb]
  refine ⟨b,rfl,?_⟩
  generalize (kcv 125 least (fun _=>textE) most []).ev s (i+1)=y at q1 q2 q3 ⊢
  obtain ⟨_ | l,j⟩:=y
  ·exact ⟨q1,q2,fun v h=>by cases h⟩
  ·refine ⟨q1,q2,fun v h=>?_⟩
   obtain ⟨r1,r2,r3⟩:=q3 l rfl
   cases h
   exact ⟨r1,by rw [r2,r3]⟩
 ·rw [if_neg (by exact h),if_neg h]
  exact ⟨_,rfl,rfl,rfl,fun v h=>by cases h⟩
theorem kagh {s:BA} (hs:s.size≤4000000) {acc:List Va} (hI:InvR acc) {i:Nat} (hi:i≤s.size):∃ b,keb ⟨s,(i:Int)⟩ (kmk acc:Int)=some b∧b.1=((rowE acc).ev s i).1.isSome∧b.2.1=(((rowE acc).ev s i).2:Int) ∧
  ∀ v,((rowE acc).ev s i).1=some v→b.2.2.1=(v.items.length:Int)∧v=Va.mk b.2.2.2.1 0 ⟨#[]⟩ b.2.2.2.2:=by
 cases acc with
 | nil=>exact k37 hs (.inl ⟨rfl,rfl,rfl⟩) hi
 | cons r l=>
  have:=hI r (qu ..)
  exact k37 hs (cols:=r.items.length) (.inr ⟨this.1,this.2,rfl,rfl⟩) hi
theorem ko8 {P:Va→Prop} {e:Int} {least:Nat} {elem:List Va→Pr Va} {I:List Va→Prop} (hI:∀ acc v,I acc→P v→I (acc++[v])) (hel:∀ acc,I acc→(elem acc).all P):∀ (k:Nat) (acc:List Va),I acc→(kcv e least elem k acc).all fun l=>I l∧least≤l.length∧l.length≤acc.length+k
 | 0,acc,h=>by
  unfold kcv
  intro c
  dsimp only
  split
  ·rename_i hc;exact ⟨h,hc.2,by omega⟩
  ·trivial
 | k+1,acc,h=>by
  unfold kcv
  intro c
  dsimp only
  split
  ·rename_i hc;exact ⟨h,hc.2,by omega⟩
  ·refine kga (P:=fun _=>True) (fun _ _=>kga (P:=P) (fun v hv=>?_) _ (hel acc h)) _ (kkk _)
   exact kjl (fun l hl=>⟨hl.1,hl.2.1,by have:=hl.2.2;simp at this;omega⟩) _ (ko8 hI hel k (acc++[v]) (hI acc v h hv))
def kjz (v:Va):Prop:=v.items=[]∧v.text.size≤64
theorem k1v (least:Nat):∀ (k:Nat) (acc:List Int),(kjc least k acc).all fun l=>least≤l.length∧l.length≤acc.length+k
 | 0,acc=>by
  unfold kjc;intro c;dsimp only
  split
  ·rename_i hc;exact ⟨hc.2,by omega⟩
  ·trivial
 | k+1,acc=>by
  unfold kjc;intro c;dsimp only
  have ih:=fun d=>kjl (Q:=fun l=>least≤l.length∧l.length≤acc.length+(k+1)) (fun l hl=>⟨hl.1,by have:=hl.2;simp at this;omega⟩) _ (k1v least k (acc++[d]))
  split
  ·rename_i hc;exact ⟨hc.2,by omega⟩
  split
  ·trivial
  split
  ·intro d;dsimp only
   split
   ·exact ih d
   ·trivial
  ·exact ih c
theorem k1y (least most:Nat):(kgk least most).all fun l=>least≤l.length∧l.length≤most:=by
 unfold kgk;intro c;dsimp only
 split
 ·exact kjl (fun l hl=>⟨hl.1,by simpa using hl.2⟩) _ (k1v least most [])
 ·trivial
theorem ktw:textE.all kjz:=kga (P:=fun l=>0≤l.length∧l.length≤64) (Q:=kjz) (fun l hl=>by show kjz _;exact ⟨rfl,by rw [show (Va.mk 3 0 (toBA l) []).text=toBA l from rfl,ky3];exact hl.2⟩) _ (k1y 0 64)
theorem k2x:intE.all kjz:=kga (P:=fun _=>True) (Q:=kjz) (fun l hl=>by show kjz _;exact ⟨rfl,qaa _⟩) _ (kkk _)
def lstV (v:Va):Prop:=v.items.length≤16∧v.text.size≤64∧∀ x∈v.items,kjz x
theorem k2e {acc:List Va} (hI:InvR acc):(rowE acc).all fun v=>lstV v∧1≤v.items.length∧v.items.length≤8:=by
 have key:∀ least most:Nat,1≤least→most≤8→(rowG least most).all fun v=>lstV v∧1≤v.items.length∧v.items.length≤8:=fun least most h1 h2=>by
  unfold rowG;intro c;dsimp only
  split
  ·refine kga (fun l hl=>?_) _ (ko8 (P:=kjz) (I:=fun l=>∀ x∈l,kjz x) (fun acc v ha hv x hx=>?_) (fun _ _=>ktw) most [] (by simp))
   ·obtain ⟨a1,a2,a3⟩:=hl
    simp only [qq,Nat.zero_add] at a3
    exact ⟨⟨by show l.length≤16;omega,qaa _,a1⟩,by show 1≤l.length;omega,by show l.length≤8;omega⟩
   ·rcases qah.1 hx with hx | hx
    ·exact ha x hx
    ·rw [qaq.1 hx];exact hv
  ·trivial
 cases acc with
 | nil=>exact key 1 8 (by omega) (by omega)
 | cons r l=>
  have:=hI r (qu ..)
  exact key _ _ this.1 this.2
def rvQ (x:Option (List Va)×Nat) (b:List Va×Bool×Int×Int):Prop:=b.2.1=x.1.isSome∧b.2.2.1=(x.2:Int)∧∀ l,x.1=some l→b.1=l
theorem k13 {acc:List Va} {v:Va} (h:InvR acc) (hv:1≤v.items.length∧v.items.length≤8):InvR (acc++[v]):=fun r hr=>by
 rcases qah.1 hr with hr | hr
 ·exact h r hr
 ·rw [qaq.1 hr];exact hv
theorem k58 {acc:List Va} {v:Va} {b:Int} (h:∀ r∈acc,r.items.length=v.items.length) (hb:b=(v.items.length:Int)):b=(kmk (acc++[v]):Int):=by
 cases acc with
 | nil=>rw [hb];rfl
 | cons r l=>rw [hb,← h r (qu ..)];rfl
def InvS (acc:List Va):Prop:=InvR acc∧∀ r∈acc,r.items.length=kmk acc
theorem k8f {acc:List Va}:(rowE acc).all fun v=>acc≠[]→v.items.length=kmk acc:=by
 have key:∀ least most:Nat,(rowG least most).all fun v=>least≤v.items.length∧v.items.length≤most:=fun least most=>by
  unfold rowG;intro c;dsimp only
  split
  ·refine kga (fun l hl=>?_) _ (ko8 (P:=fun _=>True) (I:=fun _=>True) (fun _ _ _ _=>trivial) (fun _ _=>kkk _) most [] trivial)
   exact ⟨hl.2.1,by have:=hl.2.2;rw [qq,Nat.zero_add] at this;exact this⟩
  ·trivial
 cases acc with
 | nil=>exact kjl (fun v _ h=>absurd rfl h) _ (key 1 8)
 | cons r l=>exact kjl (fun v hv _=>by show v.items.length=r.items.length;omega) _ (key r.items.length r.items.length)
theorem k2r {s:BA} {acc:List Va} {i j:Nat} {v:Va} (h:InvS acc) (he:(rowE acc).ev s i=(some v,j)):InvS (acc++[v])∧∀ r∈acc,r.items.length=v.items.length:=by
 have h1:=(kua _ i (k2e h.1) (by rw [he])).2
 have h2:=kua _ i (k8f (acc:=acc)) (by rw [he])
 refine ⟨⟨k13 h.1 h1,fun r hr=>?_⟩,fun r hr=>?_⟩
 ·cases acc with
  | nil=>simp at hr;rw [hr];rfl
  | cons q l=>
   show r.items.length=q.items.length
   rcases qah.1 hr with hr | hr
   ·exact h.2 r hr
   ·rw [qaq.1 hr];exact h2 (by simp)
 ·rw [h.2 r hr,h2 (by rintro rfl;cases hr)]
theorem k8z {s:BA} (hs:s.size≤4000000) (i0:Int):∀ k (acc:List Va) (i n:Nat),acc.length+1+k=8→InvS acc→i≤s.size→k<n →
  ∃ b,kaa (kdj ⟨s,i0⟩ 62 8) n ((i:Int),(kmk acc:Int),acc)=some b∧rvQ (((rowE acc).bind fun v=>kcv 62 0 rowE k (acc++[v])).ev s i) b:=by
 refine kqj (least:=0) (elem:=rowE) kp5 (fun i acc=>((i:Int),(kmk acc:Int),acc)) rvQ InvS (fun acc i v j h he=>(k2r h he).1) (ksg kp5 ?_)
 intro i acc hi hl hI
 obtain ⟨b,hb,q1,q2,q3⟩:=kagh hs hI.1 hi
 have hle:=kpp (s:=s) (kp5 acc) hi
 refine ⟨fun j h=>?_,fun v j h=>?_⟩
 ·rw [h] at q1 q2
  refine ⟨([],false,(j:Int),b.2.2.1),?_,rfl,rfl,fun l h=>by cases h⟩
  simp only [kdj,hb,qa,q1,q2,Option.isSome_none,qap,qd]
 ·have hcols:=(k2r hI h).2
  rw [h] at q1 q2 q3 hle
  obtain ⟨r1,r2⟩:=q3 v rfl
  have hc':=k58 hcols r1
  have ha:=kho (b:=56) (xs:=acc) (ys:=[v]) (by simp;omega)
  refine ⟨fun z => .inr (acc++[v],true,z,(kmk (acc++[v]):Int)),fun z => .inr ([],false,z,(kmk (acc++[v]):Int)),fun z => .inl (z,(kmk (acc++[v]):Int),acc++[v]),Eq.trans ?_ (kyd hs hle.2 62 (by decide) 8 (acc++[v]) _ _ _),fun z=>⟨_,rfl,rfl,rfl,fun l h=>by cases h;rfl⟩,fun z=>⟨_,rfl,rfl,rfl,fun l h=>by cases h⟩,fun z=>rfl⟩
  simp only [kdj,hb,qa,q1,q2,hc',Option.isSome_some,q9,qb,← r2,ha]
  rfl
theorem k9u {s:BA} (hs:s.size≤4000000) {i:Nat} (hi:i≤s.size) (h91:atI s i=60):∃ b,kfp ⟨s,(i:Int)⟩ 60 62 8 0=some b∧rvQ ((kcv 62 0 rowE 8 []).ev s (i+1)) b:=by
 have hi':i+1≤s.size:=kji (by omega)
 have ho:=kuz hs hi 60 (by decide)
 rw [if_pos (by rw [h91];rfl)] at ho
 have ho':kan ⟨s,(i:Int)⟩ (Utf8.encode 60)=some (true,((i+1:Nat):Int)):=ho
 unfold kfp kcv
 simp only [ho',qa,q9,qb,kge,Pr.ev]
 by_cases hc:atI s (i+1)=62
 ·rw [if_pos ⟨hc,qt _⟩,show (atI s (i+1) == 62)=true by rw [hc];rfl]
  exact ⟨_,rfl,rfl,w64s (i+1) (by omega),fun l h=>by cases h;rfl⟩
 ·rw [if_neg (fun h=>hc h.1),show (atI s (i+1) == 62)=false by simpa using hc,qb]
  obtain ⟨b,hb,hq⟩:=k8z hs i 7 [] (i+1) fuel rfl ⟨fun r h=>(by cases h),fun r h=>(by cases h)⟩ hi' (kec (by omega))
  have hb':kaa (kdj ⟨s,(i:Int)⟩ 62 8) fuel (((i+1:Nat):Int),0,[])=some b:=hb
  rw [hb']
  refine ⟨b,rfl,?_⟩
  simpa [Pr.bind] using hq
theorem kpd {α β:Type} (s:BA) (f:α→β) (p:Pr α) (i:Nat):(p.bind fun a => .done (f a)).ev s i=((p.ev s i).1.map f,(p.ev s i).2):=by
 rw [khl]
 rcases p.ev s i with ⟨_ | a,j⟩ <;> rfl
def vQ (x:Option Va×Nat) (b:Bool×Int×Int×Int×BA×List Va):Prop:=b.1=x.1.isSome∧b.2.1=(x.2:Int)∧∀ u,x.1=some u→Va.mk b.2.2.1 b.2.2.2.1 b.2.2.2.2.1 b.2.2.2.2.2=u
theorem kaea (c:UInt8):((⟨#[48,c]⟩:BA).toList == (⟨#[48,120]⟩:BA).toList)=decide ((c.toNat:Int)=120):=by
 by_cases h:c=120
 ·subst h;rw [qe (by rfl)];simp
 ·rw [qc,qw]
  ·intro h'
   have h2:=kik h'
   injection h2 with h3
   have h4:=congrArg Array.toList h3
   simp at h4
   exact h h4
  ·intro h'
   apply h
   apply UInt8.toNat.inj
   show c.toNat=120
   omega
theorem k72 {s:BA} (hs:s.size≤4000000) {i:Nat} (hi:i<s.size) (h48:atI s i=48):∃ r,cutS s (i:Int) (s.size:Int)=some r∧kfn r (⟨#[48,120]⟩:BA)=some (decide (atI s (i+1)=120)):=by
 have hd:(s.extract i s.size).data.toList=s.data.toList.drop i:=by
  rw [ko3,List.take_of_length_le (by rw [← kar];exact qt _)]
 generalize hr:s.extract i s.size=r at hd
 refine ⟨r,by unfold cutS;rw [if_pos ⟨by omega,by omega,by omega⟩,← hr];rfl,?_⟩
 have hsz:r.size=s.size - i:=by rw [kar,hd,qas,← kar]
 have h2sz:(⟨#[48,120]⟩:BA).size=2:=rfl
 unfold kfn ke2
 rw [h2sz]
 by_cases h2:i+2≤s.size
 ·have d1:decide (((2:Nat):Int)≤(r.size:Int))=true:=qe (by omega)
  obtain ⟨b1,b2,b3⟩:=khu hi
  obtain ⟨c1,c2,c3⟩:=khu (s:=s) (i:=i+1) (by omega)
  generalize s.data.toList[i]'(by rw [← kar];exact hi)=x at b2 b3
  generalize s.data.toList[i+1]'(by rw [← kar];omega)=y at c2 c3
  have hx:x=48:=UInt8.toNat.inj (by show x.toNat=48;omega)
  have hc:cutS r 0 ((2:Nat):Int)=some ⟨#[48,y]⟩:=by
   unfold cutS
   rw [if_pos ⟨by omega,by omega,by omega⟩]
   congr 1
   apply kw0
   rw [show ((0:Int).toNat)=0 from rfl,show (((2:Nat):Int).toNat)=2 from rfl,ko3,hd,b2,c2,hx]
   rfl
  rw [d1,qd,hc,qa,kaea,qa,qa,c3]
 ·have d1:decide (((2:Nat):Int)≤(r.size:Int))=false:=qc (by omega)
  rw [d1,qb,qa,qa,qc]
  rw [kqq (by omega)]
  decide
theorem kabo {s:BA} (hs:s.size≤4000000) {i:Nat} (hi:i≤s.size):∃ b,keo ⟨s,(i:Int)⟩=some b∧vQ (oneP.ev s i) b:=by
 unfold oneP keo
 rw [kge,qa]
 simp only [Pr.ev]
 by_cases h1:atI s i=116
 ·rw [if_pos h1,show (atI s i == 116)=true by rw [h1];rfl,qd,kpd,kq3 hs (w:=⟨#[116,114,117,101]⟩) (by decide) (by decide) hi,show wl (⟨#[116,114,117,101]⟩:BA)=[116,114,117,101] from rfl]
  exact ⟨_,rfl,by cases ((kcb [116,114,117,101]).ev s i).1 <;> rfl,rfl,fun u h=>by obtain ⟨a,_,rfl⟩:=qj.1 h;rfl⟩
 rw [if_neg h1,show (atI s i == 116)=false by simpa using h1,qb]
 by_cases h1:atI s i=102
 ·rw [if_pos h1,show (atI s i == 102)=true by rw [h1];rfl,qd,kpd,kq3 hs (w:=⟨#[102,97,108,115,101]⟩) (by decide) (by decide) hi,show wl (⟨#[102,97,108,115,101]⟩:BA)=[102,97,108,115,101] from rfl]
  exact ⟨_,rfl,by cases ((kcb [102,97,108,115,101]).ev s i).1 <;> rfl,rfl,fun u h=>by obtain ⟨a,_,rfl⟩:=qj.1 h;rfl⟩
 rw [if_neg h1,show (atI s i == 102)=false by simpa using h1,qb]
 by_cases h1:atI s i=34
 ·have hq:kbq ⟨s,(i:Int)⟩ 0 64=some (tOut ((kgk 0 64).ev s i)):=kup (least:=0) (most:=64) hs (by decide) hi
  rw [if_pos h1,show (atI s i == 34)=true by rw [h1];rfl,qd,hq,kvw]
  refine ⟨_,rfl,by show ((kgk 0 64).ev s i).1.isSome=_;cases ((kgk 0 64).ev s i).1 <;> rfl,rfl,fun u h=>?_⟩
  obtain ⟨m,hm,rfl⟩:=qj.1 h
  simp only [tOut,hm,Option.elim_some]
 rw [if_neg h1,show (atI s i == 34)=false by simpa using h1,qb]
 by_cases h1:atI s i=114
 ·have hi':i+1≤s.size:=kji (by omega)
  have hq:kbq ⟨s,((i+1:Nat):Int)⟩ 1 40=some (tOut ((kgk 1 40).ev s (i+1))):=kup (least:=1) (most:=40) hs (by decide) hi'
  rw [if_pos h1,show (atI s i == 114)=true by rw [h1];rfl,qd,w64s i (by omega),hq]
  simp only [Pr.ev,kpd]
  refine ⟨_,rfl,by show ((kgk 1 40).ev s (i+1)).1.isSome=_;cases ((kgk 1 40).ev s (i+1)).1 <;> rfl,rfl,fun u h=>?_⟩
  obtain ⟨m,hm,rfl⟩:=qj.1 h
  simp only [tOut,hm,Option.elim_some]
 rw [if_neg h1,show (atI s i == 114)=false by simpa using h1,qb]
 by_cases h1:atI s i=91
 ·obtain ⟨r,hr,q1,q2,q3⟩:=kafv hs hi h1
  rw [if_pos h1,show (atI s i == 91)=true by rw [h1];rfl,qd,hr]
  simp only [Pr.ev,kpd]
  refine ⟨_,rfl,?_,q2,fun u h=>?_⟩
  ·show r.2.1=_
   rw [q1]
   cases ((kcv 93 0 (fun _=>intE) 16 []).ev s (i+1)).1 <;> rfl
  ·obtain ⟨m,hm,rfl⟩:=qj.1 h
   show Va.mk 5 0 ⟨#[]⟩ r.1=_
   rw [q3 m hm]
 rw [if_neg h1,show (atI s i == 91)=false by simpa using h1,qb]
 by_cases h1:atI s i=123
 ·obtain ⟨r,hr,q1,q2,q3⟩:=kabt hs hi h1
  rw [if_pos h1,show (atI s i == 123)=true by rw [h1];rfl,qd,hr]
  simp only [Pr.ev,kpd]
  refine ⟨_,rfl,?_,q2,fun u h=>?_⟩
  ·show r.2.1=_
   rw [q1]
   cases ((kcv 125 0 (fun _=>textE) 16 []).ev s (i+1)).1 <;> rfl
  ·obtain ⟨m,hm,rfl⟩:=qj.1 h
   show Va.mk 6 0 ⟨#[]⟩ r.1=_
   rw [q3 m hm]
 rw [if_neg h1,show (atI s i == 123)=false by simpa using h1,qb]
 by_cases h1:atI s i=60
 ·obtain ⟨r,hr,q1,q2,q3⟩:=k9u hs hi h1
  rw [if_pos h1,show (atI s i == 60)=true by rw [h1];rfl,qd,khc,qa,hr]
  simp only [Pr.ev,kpd]
  refine ⟨_,rfl,?_,q2,fun u h=>?_⟩
  ·show r.2.1=_
   rw [q1]
   cases ((kcv 62 0 rowE 8 []).ev s (i+1)).1 <;> rfl
  ·obtain ⟨m,hm,rfl⟩:=qj.1 h
   show Va.mk 7 0 ⟨#[]⟩ r.1=_
   rw [q3 m hm]
 rw [if_neg h1,show (atI s i == 60)=false by simpa using h1,qb]
 have hv:=kzm hs hi
 by_cases h2:atI s i=48
 ·have hi':i+1≤s.size:=kji (by omega)
  obtain ⟨r,hr,hp⟩:=k72 hs hi' h2
  rw [if_pos h2,show (atI s i == 48)=true by rw [h2];rfl,qd,hr,qa,hp,qa]
  simp only [Pr.ev]
  by_cases h3:atI s (i+1)=120
  ·have hi2:i+2≤s.size:=kji (i:=i+1) (by omega)
   rw [if_pos h3,qe h3,kafj hs hi2]
   simp only [Pr.ev,kpd,show i+1+1=i+2 from rfl]
   refine ⟨_,rfl,by show (bitsP.ev s (i+2)).1.isSome=_;cases (bitsP.ev s (i+2)).1 <;> rfl,rfl,fun u h=>?_⟩
   obtain ⟨m,hm,rfl⟩:=qj.1 h
   simp only [hm,Option.elim_some,qao]
  ·rw [if_neg h3,qc h3,qb,qa,qf,hv]
   have hx:numP.ev s i=(some 0,i+1):=by
    unfold numP unsP
    simp only [Pr.ev,h2]
    rw [if_neg (by decide)]
    simp only [Pr.ev,h2]
    rw [if_neg (by simp)]
    simp only [Pr.ev,khl,show (48:Int) - 48=0 from rfl,k4e]
    rfl
   rw [hx]
   exact ⟨_,rfl,rfl,rfl,fun u h=>by cases h;rfl⟩
 ·rw [if_neg h2,show (atI s i == 48)=false by simpa using h2,qb,qa,qf,hv,k36]
  refine ⟨_,rfl,by show (numP.ev s i).1.isSome=_;cases (numP.ev s i).1 <;> rfl,rfl,fun u h=>?_⟩
  obtain ⟨m,hm',rfl⟩:=qj.1 h
  simp only [nOut,hm',qao]
def prV (s:BA):Va×Int×Int:=match oneP.ev s 0 with
 | (some v,j)=>if j<s.size then (Va.mk 0 0 ⟨#[]⟩ [],(j:Int),8) else (v,0,0)
 | (none,j)=>(Va.mk 0 0 ⟨#[]⟩ [],(j:Int),8)
theorem kace {s:BA} (hs:s.size≤4000000):kgf s=some (prV s):=by
 obtain ⟨b,hb,q1,q2,q3⟩:=kabo hs (qaa s.size)
 have hb':keo ⟨s,0⟩=some b:=hb
 unfold kgf prV
 rw [hb',qa,q1,q2]
 generalize oneP.ev s 0=x at q1 q2 q3 ⊢
 obtain ⟨_ | v,j⟩:=x
 ·rfl
 ·simp only [Option.isSome_some,q9,qb,qa]
  by_cases h:j<s.size
  ·rw [if_pos h,kbk h];rfl
  ·rw [if_neg h,qc (show ¬ ((j:Int)<(s.size:Int)) by omega),qb,q3 v rfl]
theorem kuw {v:Va} (h:kjz v):depV v≤1∧khv 9223372036854775807 v:=by
 obtain ⟨t,n,s,l⟩:=v
 obtain rfl:l=[]:=h.1
 exact ⟨klp fun y hy=>(by cases hy),by simp [khv,kq8]⟩
theorem k3k {v:Va} (h1:v.items.length≤9223372036854775807) (h2:∀ x∈v.items,khv 9223372036854775807 x):khv 9223372036854775807 v:=by
 obtain ⟨t,n,s,l⟩:=v
 have gen:∀ l:List Va,(∀ x∈l,khv 9223372036854775807 x)→kq8 9223372036854775807 l:=fun l=>by
  induction l with
  | nil=>exact fun _=>trivial
  | cons y l ih=>exact fun h=>⟨h y (qu ..),ih fun z hz=>h z (ql _ hz)⟩
 exact ⟨h1,gen l h2⟩
theorem kwz {v:Va} (h:lstV v):depV v≤2∧khv 9223372036854775807 v:=⟨klp fun y hy=>(kuw (h.2.2 y hy)).1,k3k (by have:=h.1;omega) fun x hx=>(kuw (h.2.2 x hx)).2⟩
theorem kad2:oneP.all okV:=by
 have lf:∀ v,kjz v→okV v:=fun v h=>⟨by have:=(kuw h).1;omega,(kuw h).2⟩
 have ls:∀ v,lstV v→okV v:=fun v h=>⟨by have:=(kwz h).1;omega,(kwz h).2⟩
 have leaf0:∀ t n,okV (Va.mk t n ⟨#[]⟩ []):=fun t n=>lf _ ⟨rfl,qaa _⟩
 have lists:∀ (t e:Int) (elem:List Va→Pr Va),(∀ acc,(elem acc).all kjz)→((kcv e 0 elem 16 []).bind fun l => .done (Va.mk t 0 ⟨#[]⟩ l)).all okV:=fun t e elem hel=>by
  refine kga (fun l hl=>?_) _ (ko8 (P:=kjz) (I:=fun l=>∀ x∈l,kjz x) (fun acc v ha hv x hx=>?_) (fun _ _=>hel _) 16 [] (by simp))
  ·show okV _
   exact ls _ ⟨by have:=hl.2.2;simp at this;show l.length≤16;omega,qaa _,hl.1⟩
  ·rcases qah.1 hx with hx | hx
   ·exact ha x hx
   ·rw [qaq.1 hx];exact hv
 unfold oneP
 intro c
 dsimp only
 repeat' split
 ·exact kga (P:=fun _=>True) (Q:=okV) (fun _ _=>by show okV _;exact leaf0 _ _) _ (kkk _)
 ·exact kga (P:=fun _=>True) (Q:=okV) (fun _ _=>by show okV _;exact leaf0 _ _) _ (kkk _)
 ·exact kjl lf _ ktw
 ·exact kga (P:=fun l=>1≤l.length∧l.length≤40) (Q:=okV) (fun l hl=>by show okV _;exact lf _ ⟨rfl,by rw [show (Va.mk 8 0 (toBA l) []).text=toBA l from rfl,ky3];omega⟩) _ (k1y 1 40)
 ·exact lists 5 93 _ fun _=>k2x
 ·exact lists 6 125 _ fun _=>ktw
 ·refine kga (fun l hl=>?_) _ (ko8 (P:=fun v=>lstV v∧1≤v.items.length∧v.items.length≤8) (I:=fun l=>InvR l∧∀ x∈l,lstV x) (fun acc v ha hv=>⟨k13 ha.1 hv.2,fun x hx=>?_⟩) (fun acc h=>k2e h.1) 8 [] ⟨fun r h=>(by cases h),fun r h=>(by cases h)⟩)
  ·show okV _
   refine ⟨by have:=klp (x:=Va.mk 7 0 ⟨#[]⟩ l) (k:=2) fun y hy=>(kwz (hl.1.2 y hy)).1;omega,k3k (by have:=hl.2.2;simp at this;show l.length≤_;omega) fun x hx=>(kwz (hl.1.2 x hx)).2⟩
  ·rcases qah.1 hx with hx | hx
   ·exact ha.2 x hx
   ·rw [qaq.1 hx];exact hv.1
 ·intro d
  dsimp only
  split
  ·exact kga (P:=fun _=>True) (Q:=okV) (fun _ _=>by show okV _;exact leaf0 _ _) _ (kkk _)
  ·exact leaf0 _ _
 ·exact kjl lf _ k2x
theorem kagt (s:BA):okV (prV s).1:=by
 have z:okV (Va.mk 0 0 ⟨#[]⟩ []):=⟨by have:=klp (x:=Va.mk 0 0 ⟨#[]⟩ []) (k:=0) fun y hy=>(by cases hy);omega,by simp [khv,kq8]⟩
 have:=kua (s:=s) (a:=(prV s).1) oneP 0 kad2
 unfold prV at this ⊢
 rcases hx:oneP.ev s 0 with ⟨_ | v,j⟩
 ·exact z
 ·rw [hx] at this
  simp only
  split
  ·exact z
  ·simp only at this
   rename_i h
   rw [if_neg h] at this
   exact this rfl
theorem kafx (s:BA):(oneP.ev s 0).2≤s.size:=(kpp k7c (qaa _)).2
theorem kagu (s:BA):(∃ v,oneP.ev s 0=(some v,s.size)∧prV s=(v,0,0))∨(prV s=(Va.mk 0 0 ⟨#[]⟩ [],((oneP.ev s 0).2:Int),8)∧((oneP.ev s 0).1=none∨(oneP.ev s 0).2<s.size)):=by
 have hle:=kafx s
 unfold prV
 rcases hx:oneP.ev s 0 with ⟨_ | v,j⟩
 ·exact .inr ⟨rfl, .inl rfl⟩
 ·rw [hx] at hle
  simp only at hle ⊢
  by_cases h:j<s.size
  ·rw [if_pos h];exact .inr ⟨rfl, .inr h⟩
  ·rw [if_neg h]
   obtain rfl:j=s.size:=by omega
   exact .inl ⟨v,rfl,rfl⟩
end Go.Proofs.YtaimpcnpifoidaaGreatDoor
