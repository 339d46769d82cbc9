import Derived.Test.YtaimpcnpifoidaaGreatDoorNb
set_option linter.unusedVariables false
set_option linter.unusedSimpArgs false
set_option maxRecDepth 100000
namespace Go.Proofs.YtaimpcnpifoidaaGreatDoor
open Go Go.RowKit
inductive Pr (α:Type) where
 | done (a:α)
 | fail
 | peek (k:Int→Pr α)
 | adv (p:Pr α)
def Pr.run {α:Type}:Pr α→List UInt8→Option α×List UInt8
 | .done a,l=>(some a,l)
 | .fail,l=>(none,l)
 | .peek k,l=>(k (hd l)).run l
 | .adv p,l=>p.run l.tail
def Pr.bind {α β:Type}:Pr α→(α→Pr β)→Pr β
 | .done a,f=>f a
 | .fail,_ => .fail
 | .peek k,f => .peek fun c=>(k c).bind f
 | .adv p,f => .adv (p.bind f)
theorem run_bind {α β:Type} (f:α→Pr β):∀ (p:Pr α) (l:List UInt8),(p.bind f).run l=match p.run l with
  | (some a,m)=>(f a).run m
  | (none,m)=>(none,m)
 | .done a,l=>rfl
 | .fail,l=>rfl
 | .peek k,l=>run_bind f (k (hd l)) l
 | .adv p,l=>run_bind f p l.tail
def Pr.good {α:Type}:Bool→Pr α→Prop
 | _, .done _=>True
 | _, .fail=>True
 | _, .peek k=>(k 0).good false∧∀ c,c≠0→(k c).good true
 | b, .adv p=>b=true∧p.good false
theorem kaa6 {α:Type}:∀ (p:Pr α),p.good false→p.good true
 | .done a,_=>trivial
 | .fail,_=>trivial
 | .peek k,h=>h
 | .adv p,h=>by cases h.1
theorem kmx {α:Type} {p:Pr α} (h:p.good false) (b:Bool):p.good b:=by
 cases b
 ·exact h
 ·exact kaa6 p h
theorem ksc {α β:Type} {f:α→Pr β} (hf:∀ a,(f a).good false):∀ (p:Pr α) (b:Bool),p.good b→(p.bind f).good b
 | .done a,b,_=>kmx (hf a) b
 | .fail,_,_=>trivial
 | .peek k,_,h=>⟨ksc hf (k 0) false h.1,fun c hc=>ksc hf (k c) true (h.2 c hc)⟩
 | .adv p,_,h=>⟨h.1,ksc hf p false h.2⟩
theorem kga {α β:Type} {f:α→Pr β} (hf:∀ a,(f a).good false) {p:Pr α} (h:p.good false):(p.bind f).good false:=ksc hf p false h
def kbp:List Int→Pr Unit
 | [] => .done ()
 | x::w => .peek fun c=>if c=x then .adv (kbp w) else .fail
theorem kl1:∀ {w:List Int},(∀ x∈w,x≠0)→(kbp w).good false
 | [],_=>trivial
 | x::w,h=>by
  have hx:=h x (qr ..)
  refine ⟨?_,fun c hc=>?_⟩
  ·simp only [if_neg (show ¬ ((0:Int)=x) from fun h=>hx h.symm)];trivial
  ·dsimp only
   split
   ·exact ⟨rfl,kl1 fun y hy=>h y (ql _ hy)⟩
   ·trivial
def kiq (least:Nat):Nat→List Int→Pr (List Int)
 | 0,acc => .peek fun c=>if c=34∧least≤acc.length then .adv (.done acc) else .fail
 | k+1,acc => .peek fun c=>if c=34∧least≤acc.length then .adv (.done acc) else if c=34∨c<32∨126<c then .fail else
   if c=92 then .adv (.peek fun d=>if d=34∨d=92 then .adv (kiq least k (acc++[d])) else .fail) else .adv (kiq least k (acc++[c]))
theorem kuu (least:Nat):∀ (k:Nat) (acc:List Int),(kiq least k acc).good false
 | 0,acc=>by
  refine ⟨?_,fun c hc=>?_⟩
  ·simp only [show ¬ ((0:Int)=34) by decide,false_and,if_false];trivial
  ·dsimp only
   split
   ·exact ⟨rfl,trivial⟩
   ·trivial
 | k+1,acc=>by
  refine ⟨?_,fun c hc=>?_⟩
  ·simp only [show ¬ ((0:Int)=34) by decide,false_and,if_false,show ((0:Int)<32) by decide,true_or,or_true,if_true];trivial
  ·dsimp only
   split
   ·exact ⟨rfl,trivial⟩
   split
   ·trivial
   split
   ·refine ⟨rfl,?_,fun d hd=>?_⟩
    ·simp only [show ¬ ((0:Int)=34∨(0:Int)=92) by decide,if_false];trivial
    ·dsimp only
     split
     ·exact ⟨rfl,kuu least k _⟩
     ·trivial
   ·exact ⟨rfl,kuu least k _⟩
def keq (least most:Nat):Pr (List Int) := .peek fun c=>if c=34 then .adv (kiq least most []) else .fail
theorem kpw (least most:Nat):(keq least most).good false:=by
 refine ⟨?_,fun c hc=>?_⟩
 ·simp only [show ¬ ((0:Int)=34) by decide,if_false];trivial
 ·dsimp only
  split
  ·exact ⟨rfl,kuu ..⟩
  ·trivial
def kfe:Nat→Int→Pr Int
 | 0,n => .done n
 | f+1,n=>if n≤0 then .done n else .peek fun b=>if 48≤b∧b≤57∧n*10+(b - 48)≤1000000 then .adv (kfe f (n*10+(b - 48))) else .done n
theorem kvs:∀ (f:Nat) (n:Int),(kfe f n).good false
 | 0,n=>trivial
 | f+1,n=>by
  unfold kfe
  split
  ·trivial
  refine ⟨?_,fun c hc=>?_⟩
  ·simp only [show ¬ ((48:Int)≤0) by decide,false_and,if_false];trivial
  ·dsimp only
   split
   ·exact ⟨rfl,kvs f _⟩
   ·trivial
def unsP (neg:Bool):Pr Int := .peek fun b=>if b<48∨57<b∨(neg=true∧b=48) then .fail else .adv ((kfe 7 (b - 48)).bind fun n => .done (if neg=true then -n else n))
def numP:Pr Int := .peek fun c=>if c=45 then .adv (unsP true) else unsP false
theorem kvg (neg:Bool):(unsP neg).good false:=by
 refine ⟨?_,fun c hc=>?_⟩
 ·simp only [show (0:Int)<48 by decide,true_or,if_true];trivial
 ·dsimp only
  split
  ·trivial
  ·refine ⟨rfl,kga (fun _=>?_) (kvs 7 _)⟩
   trivial
theorem k1a:numP.good false:=by
 refine ⟨?_,fun c hc=>?_⟩
 ·simp only [show ¬ ((0:Int)=45) by decide,if_false];exact kvg _
 ·dsimp only
  split
  ·exact ⟨rfl,kvg _⟩
  ·exact kmx (kvg _) true
def kb4 {α:Type} (e:Int) (least:Nat) (elem:List α→Pr α):Nat→List α→Pr (List α)
 | 0,acc => .peek fun c=>if c=e∧least≤acc.length then .adv (.done acc) else .fail
 | k+1,acc => .peek fun c=>if c=e∧least≤acc.length then .adv (.done acc) else
   (if acc.length=0 then .done () else kbp [44,32]).bind fun _=>(elem acc).bind fun v=>kb4 e least elem k (acc++[v])
theorem knn {α:Type} {e:Int} (he:e≠0) (least:Nat) {elem:List α→Pr α} (hel:∀ l,(elem l).good false):∀ (k:Nat) (acc:List α),(kb4 e least elem k acc).good false
 | 0,acc=>by
  refine ⟨?_,fun c hc=>?_⟩
  ·simp only [show ¬ ((0:Int)=e) from fun h=>he h.symm,false_and,if_false];trivial
  ·dsimp only
   split
   ·exact ⟨rfl,trivial⟩
   ·trivial
 | k+1,acc=>by
  have hr:((if acc.length=0 then .done () else kbp [44,32]).bind fun _=>(elem acc).bind fun v=>kb4 e least elem k (acc++[v])).good false:=by
   refine kga (fun _=>kga (fun v=>knn he least hel k _) (hel _)) ?_
   split
   ·trivial
   ·exact kl1 (by decide)
  refine ⟨?_,fun c hc=>?_⟩
  ·simp only [show ¬ ((0:Int)=e) from fun h=>he h.symm,false_and,if_false];exact hr
  ·dsimp only
   split
   ·exact ⟨rfl,trivial⟩
   ·exact kmx hr true
def hexV (c:Int):Int:=if 48≤c∧c≤57 then c - 48 else if 97≤c∧c≤102 then c - 87 else -1
def bitsP:Pr Int := .peek fun a=>if hexV a<0 then .fail else .adv (.peek fun b=>if hexV b<0 then .fail else .adv (.done (hexV a*16+hexV b)))
theorem k6w:bitsP.good false:=by
 refine ⟨?_,fun c hc=>?_⟩
 ·simp only [show hexV 0<0 by decide,if_true];trivial
 ·dsimp only
  split
  ·trivial
  ·refine ⟨rfl,?_,fun d hd=>?_⟩
   ·simp only [show hexV 0<0 by decide,if_true];trivial
   ·dsimp only
    split
    ·trivial
    ·exact ⟨rfl,trivial⟩
def intE:Pr Va:=numP.bind fun n => .done (Va.mk 2 n ⟨#[]⟩ [])
def textE:Pr Va:=(keq 0 64).bind fun s => .done (Va.mk 3 0 (toBA s) [])
def rowE (acc:List Va):Pr Va := .peek fun c=>if c=123 then
  .adv ((kb4 125 (match acc with | []=>1 | r::_=>r.items.length) (fun _=>textE) (match acc with | []=>8 | r::_=>r.items.length) []).bind fun l => .done (Va.mk 6 0 ⟨#[]⟩ l)) else .fail
def oneP:Pr Va := .peek fun c=>
 if c=116 then (kbp [116,114,117,101]).bind fun _ => .done (Va.mk 1 1 ⟨#[]⟩ [])
 else if c=102 then (kbp [102,97,108,115,101]).bind fun _ => .done (Va.mk 1 0 ⟨#[]⟩ [])
 else if c=34 then textE
 else if c=114 then .adv ((keq 1 40).bind fun s => .done (Va.mk 8 0 (toBA s) []))
 else if c=91 then .adv ((kb4 93 0 (fun _=>intE) 16 []).bind fun l => .done (Va.mk 5 0 ⟨#[]⟩ l))
 else if c=123 then .adv ((kb4 125 0 (fun _=>textE) 16 []).bind fun l => .done (Va.mk 6 0 ⟨#[]⟩ l))
 else if c=60 then .adv ((kb4 62 0 rowE 8 []).bind fun l => .done (Va.mk 7 0 ⟨#[]⟩ l))
 else if c=48 then .adv (.peek fun d=>if d=120 then .adv (bitsP.bind fun n => .done (Va.mk 4 n ⟨#[]⟩ [])) else .done (Va.mk 2 0 ⟨#[]⟩ []))
 else intE
theorem knb:intE.good false:=kga (fun _=>by exact True.intro) k1a
theorem kkk:textE.good false:=kga (fun _=>by exact True.intro) (kpw ..)
theorem kpf (acc:List Va):(rowE acc).good false:=by
 refine ⟨?_,fun c hc=>?_⟩
 ·simp only [show ¬ ((0:Int)=123) by decide,if_false];trivial
 ·dsimp only
  split
  ·exact ⟨rfl,kga (fun _=>by exact True.intro) (knn (by decide) _ (fun _=>kkk) _ _)⟩
  ·trivial
theorem k9l:oneP.good false:=by
 refine ⟨?_,fun c hc=>?_⟩
 ·exact knb
 ·dsimp only
  repeat' split
  ·exact kmx (kga (fun _=>by exact True.intro) (kl1 (by decide))) true
  ·exact kmx (kga (fun _=>by exact True.intro) (kl1 (by decide))) true
  ·exact kmx kkk true
  ·exact ⟨rfl,kga (fun _=>by exact True.intro) (kpw ..)⟩
  ·exact ⟨rfl,kga (fun _=>by exact True.intro) (knn (by decide) _ (fun _=>knb) _ _)⟩
  ·exact ⟨rfl,kga (fun _=>by exact True.intro) (knn (by decide) _ (fun _=>kkk) _ _)⟩
  ·exact ⟨rfl,kga (fun _=>by exact True.intro) (knn (by decide) _ kpf _ _)⟩
  ·refine ⟨rfl,?_,fun d hd=>?_⟩
   ·simp only [show ¬ ((0:Int)=120) by decide,if_false];trivial
   ·dsimp only
    split
    ·exact ⟨rfl,kga (fun _=>by exact True.intro) k6w⟩
    ·trivial
  ·exact kmx knb true
theorem k3g {n:Nat} (h:n<16):((hexD n).toNat:Int)=if n<10 then 48+(n:Int) else 87+n:=by
 unfold hexD
 split
 ·rw [ofNat_toNat (by omega)];omega
 ·rw [ofNat_toNat (by omega)];omega
section
variable {α:Type} {e:UInt8} {least:Nat} {elem:List α→Pr α} {sh:α→List UInt8} {vs:List α}
end
theorem k1k (l:List Va):kal (Va.mk 6 0 ⟨#[]⟩ l)=123::(kdh (kng l)++[125]):=by simp [kal]
theorem krp {s:BA} {i:Nat} (h:s.size≤i):atI s i=0:=by rw [atI,qaf (by rw [← kar];exact h)];rfl
theorem kql (s:BA) (i:Nat):0≤atI s i∧atI s i≤255:=by
 by_cases h:i<s.size
 ·rw [(khh h).2.2]
  have:=(s.data.toList[i]'(by rw [← kar];exact h)).toNat_lt
  omega
 ·rw [krp (by omega)];decide
theorem kfv {s:BA} {i:Nat} (h:atI s i≠0):i<s.size:=by
 by_cases h':i<s.size
 ·exact h'
 ·exact absurd (krp (by omega)) h
def Pr.ev {α:Type} (s:BA):Pr α→Nat→Option α×Nat
 | .done a,i=>(some a,i)
 | .fail,i=>(none,i)
 | .peek k,i=>(k (atI s i)).ev s i
 | .adv p,i=>p.ev s (i+1)
theorem k4f {α:Type} (s:BA):∀ (p:Pr α) (i:Nat),p.run (s.data.toList.drop i)=((p.ev s i).1,s.data.toList.drop (p.ev s i).2)
 | .done a,i=>rfl
 | .fail,i=>rfl
 | .peek k,i=>k4f s (k (atI s i)) i
 | .adv p,i=>by
  have:=k4f s p (i+1)
  rw [Pr.run,Pr.ev,← this,List.tail_drop]
theorem kf4 {α β:Type} (s:BA) (f:α→Pr β):∀ (p:Pr α) (i:Nat),(p.bind f).ev s i=match p.ev s i with
  | (some a,j)=>(f a).ev s j
  | (none,j)=>(none,j)
 | .done a,i=>rfl
 | .fail,i=>rfl
 | .peek k,i=>kf4 s f (k (atI s i)) i
 | .adv p,i=>kf4 s f p (i+1)
theorem k2f {α:Type} {s:BA}:∀ (p:Pr α) (b:Bool) (i:Nat),p.good b→(b=true→i<s.size)→i≤s.size→i≤(p.ev s i).2∧(p.ev s i).2≤s.size
 | .done a,b,i,_,_,h=>⟨qw _,h⟩
 | .fail,b,i,_,_,h=>⟨qw _,h⟩
 | .peek k,b,i,hg,hb,h=>by
  show i≤((k (atI s i)).ev s i).2∧((k (atI s i)).ev s i).2≤s.size
  by_cases h0:atI s i=0
  ·rw [h0];exact k2f (k 0) false i hg.1 (fun h=>by cases h) h
  ·exact k2f (k _) true i (hg.2 _ h0) (fun _=>kfv h0) h
 | .adv p,b,i,hg,hb,h=>by
  have:=k2f p false (i+1) hg.2 (fun h=>by cases h) (hb hg.1)
  exact ⟨by show i≤(p.ev s (i+1)).2;omega,this.2⟩
theorem knx {α:Type} {s:BA} {p:Pr α} {i:Nat} (hg:p.good false) (h:i≤s.size):i≤(p.ev s i).2∧(p.ev s i).2≤s.size:=k2f p false i hg (fun h=>by cases h) h
def Pr.all {α:Type} (P:α→Prop):Pr α→Prop
 | .done a=>P a
 | .fail=>True
 | .peek k=>∀ c,(k c).all P
 | .adv p=>p.all P
theorem kg2 {α β:Type} {P:α→Prop} {Q:β→Prop} {f:α→Pr β} (hf:∀ a,P a→(f a).all Q):∀ p:Pr α,p.all P→(p.bind f).all Q
 | .done a,h=>hf a h
 | .fail,_=>trivial
 | .peek k,h=>fun c=>kg2 hf (k c) (h c)
 | .adv p,h=>kg2 hf p h
theorem kki {α:Type} {P Q:α→Prop} (hf:∀ a,P a→Q a):∀ p:Pr α,p.all P→p.all Q
 | .done a,h=>hf a h
 | .fail,_=>trivial
 | .peek k,h=>fun c=>kki hf (k c) (h c)
 | .adv p,h=>kki hf p h
theorem klu {α:Type}:∀ p:Pr α,p.all fun _=>True
 | .done a=>trivial
 | .fail=>trivial
 | .peek k=>fun c=>klu (k c)
 | .adv p=>klu p
theorem kvx {α:Type} {P:α→Prop} {s:BA} {a:α}:∀ (p:Pr α) (i:Nat),p.all P→(p.ev s i).1=some a→P a
 | .done b,i,h,e=>by cases e;exact h
 | .fail,i,h,e=>by cases e
 | .peek k,i,h,e=>kvx (k (atI s i)) i (h _) e
 | .adv p,i,h,e=>kvx p (i+1) h e
theorem kg9 (s:BA) (i:Nat):kat ⟨s,(i:Int)⟩=some (atI s i):=by
 unfold kat
 by_cases h:i<s.size
 ·simp only [kb6 h,qd,(khh h).1,qa]
 ·have:decide ((i:Int)<(s.size:Int))=false:=qc (by omega)
  simp only [this,qb,krp (Nat.le_of_not_lt h)]
theorem kfu (s:BA) (i:Nat):kaw s (i:Int)=some (atI s i):=by
 unfold kaw
 by_cases h:i<s.size
 ·simp only [kb6 h,qd,(khh h).1,qa]
 ·have:decide ((i:Int)<(s.size:Int))=false:=qc (by omega)
  simp only [this,qb,krp (Nat.le_of_not_lt h)]
theorem ksx (w:BA):(wl w).length=w.size:=by unfold wl;rw [q8,kar]
theorem k6o {w:BA} {m:Nat} {c:Int} {l:List Int} (h:(wl w).drop m=c::l):m<w.size∧atI w m=c∧(wl w).drop (m+1)=l:=by
 have hm:m<w.size:=by
  rw [← ksx]
  by_cases h':m<(wl w).length
  ·exact h'
  ·rw [qaf (by omega)] at h;cases h
 obtain ⟨b1,b2,b3⟩:=khh hm
 have:(wl w).drop m=atI w m::(wl w).drop (m+1):=by
  unfold wl
  rw [← List.map_drop,b2,qai,List.map_drop,b3]
 rw [this] at h
 exact ⟨hm,(List.cons.inj h).1,(List.cons.inj h).2⟩
theorem k4c (s:BA):∀ (l:List Int) (i:Nat),((kbp l).ev s i).1≠none→((kbp l).ev s i).2=i+l.length
 | [],i,_=>rfl
 | c::l,i,h=>by
  simp only [kbp,Pr.ev] at h ⊢
  by_cases he:atI s i=c
  ·rw [if_pos he] at h ⊢
   simp only [Pr.ev] at h ⊢
   rw [k4c s l (i+1) h,qk];omega
  ·rw [if_neg he] at h
   exact absurd rfl h
theorem k0x (s w:BA) (i0:Int) (hs:s.size≤4000000) (hw:w.size≤1000000):∀ (l:List Int) (m i n:Nat),(wl w).drop m=l→(∀ x∈l,x≠0)→i≤s.size→l.length<n →
  kab (kdk ⟨s,i0⟩ w) n ((m:Int),(i:Int))=some (((kbp l).ev s i).1.elim (.inr (((kbp l).ev s i).2:Int)) fun _ => .inl (((kbp l).ev s i).2:Int))
 | [],m,i,n+1,hl,h0,hi,_=>by
  have hm:w.size≤m:=by rw [← ksx];exact List.drop_eq_nil_iff.1 hl
  refine kbv ?_
  have:decide ((m:Int)<(w.size:Int))=false:=qc (by omega)
  simp only [kdk,this,qb]
  rfl
 | c::l,m,i,n+1,hl,h0,hi,hn=>by
  obtain ⟨hm,hc,hl'⟩:=k6o hl
  have b1:=(khh hm).1
  have hc0:c≠0:=h0 _ (qr ..)
  simp only [kbp,Pr.ev]
  by_cases h:i<s.size
  ·have e1:decide ((s.size:Int)≤(i:Int))=false:=qc (by omega)
   by_cases he:atI s i=c
   ·rw [if_pos he]
    simp only [Pr.ev]
    rw [← k0x s w i0 hs hw l (m+1) (i+1) n hl' (fun x hx=>h0 x (ql _ hx)) (by omega) (by simpa using hn)]
    refine kgw ?_
    have e2:(atI s i != c)=false:=by rw [he];simp
    simp only [kdk,kb6 hm,qd,e1,qb,(khh h).1,b1,hc,qa,e2,w64s m (by omega),w64s i (by omega)]
   ·rw [if_neg he]
    refine kbv ?_
    have e2:(atI s i != c)=true:=by simpa using he
    simp only [kdk,kb6 hm,qd,e1,qb,(khh h).1,b1,hc,qa,e2]
    rfl
  ·have e1:decide ((s.size:Int)≤(i:Int))=true:=qe (by omega)
   rw [if_neg (by rw [krp (by omega)];exact fun h=>hc0 h.symm)]
   refine kbv ?_
   simp only [kdk,kb6 hm,qd,e1,qa]
   rfl
theorem ks5 {s w:BA} (hs:s.size≤4000000) (hw:w.size≤1000000) (h0:∀ x∈wl w,x≠0) {i:Nat} (hi:i≤s.size):
  kan ⟨s,(i:Int)⟩ w=some (((kbp (wl w)).ev s i).1.isSome,(((kbp (wl w)).ev s i).2:Int)):=by
 unfold kan
 have:=k0x s w i hs hw _ 0 i fuel rfl (by simpa using h0) hi (by rw [qav,ksx];exact kdf (by omega))
 rw [qav] at this
 rw [show ((0:Int),(⟨s,(i:Int)⟩:S_literal_reader).f_at)=(((0:Nat):Int),(i:Int)) from rfl,this,qa]
 cases ((kbp (wl w)).ev s i).1 <;> rfl
theorem kyx (s w:BA) (i:Nat) (hs:s.size≤4000000) (hw:w.size≤1000000):∀ (l:List Int) (m n:Nat),(wl w).drop m=l→(∀ x∈l,x≠0)→i+m≤s.size→l.length<n →
  kab (ke9 s (i:Int) w) n (m:Int)=some (((kbp l).ev s (i+m)).1.elim (.inr ((((kbp l).ev s (i+m)).2:Int),false)) fun _ => .inl ())
 | [],m,n+1,hl,h0,hi,_=>by
  have hm:w.size≤m:=by rw [← ksx];exact List.drop_eq_nil_iff.1 hl
  have:decide ((m:Int)<(w.size:Int))=false:=qc (by omega)
  exact kbv (by simp only [ke9,this,qb];rfl)
 | c::l,m,n+1,hl,h0,hi,hn=>by
  obtain ⟨hm,hc,hl'⟩:=k6o hl
  have b1:=(khh hm).1
  have hc0:c≠0:=h0 _ (qr ..)
  have ew:w64 ((i:Int)+(m:Int))=((i+m:Nat):Int):=by rw [← w64n (i+m) (by omega)];congr 1
  simp only [kbp,Pr.ev]
  by_cases he:atI s (i+m)=c
  ·rw [if_pos he]
   simp only [Pr.ev]
   have hi':i+m<s.size:=kfv (by rw [he];exact hc0)
   rw [show i+m+1=i+(m+1) by omega,← kyx s w i hs hw l (m+1) n hl' (fun x hx=>h0 x (ql _ hx)) (by omega) (by simpa using hn)]
   refine kgw ?_
   have e2:(atI s (i+m) != c)=false:=by rw [he];simp
   simp only [ke9,kb6 hm,qd,ew,kfu,b1,hc,qa,e2,qb,w64s m (by omega)]
  ·rw [if_neg he]
   refine kbv ?_
   have e2:(atI s (i+m) != c)=true:=by simpa using he
   simp only [ke9,kb6 hm,qd,ew,kfu,b1,hc,qa,e2]
   rfl
theorem kxr {s w:BA} (hs:s.size≤4000000) (hw:w.size≤1000000) (h0:∀ x∈wl w,x≠0) {i:Nat} (hi:i≤s.size):
  keb s (i:Int) w=some ((((kbp (wl w)).ev s i).2:Int),((kbp (wl w)).ev s i).1.isSome):=by
 unfold keb
 have:=kyx s w i hs hw _ 0 fuel rfl (by simpa using h0) hi (by rw [qav,ksx];exact kdf (by omega))
 rw [qav] at this
 rw [show (0:Int)=((0:Nat):Int) from rfl,this,qa]
 cases h:((kbp (wl w)).ev s i).1 with
 | none=>simp only [Nat.add_zero,h];rfl
 | some a=>
  have hp:=k4c s (wl w) i (by rw [h];exact fun h=>by cases h)
  simp only [Nat.add_zero,h,hp,ksx]
  have ew:w64 ((i:Int)+(w.size:Int))=((i+w.size:Nat):Int):=by rw [← w64n (i+w.size) (by omega)];congr 1
  show some (w64 ((i:Int)+(w.size:Int)),true)=_
  rw [ew];rfl
theorem kpc (xs:List Int):(toBA xs).data.toList=xs.map fun n=>UInt8.ofNat n.toNat:=by
 have key:∀ (xs:List Int) (r:BA),(xs.foldl (fun r n=>r.push (UInt8.ofNat n.toNat)) r).data.toList=r.data.toList++xs.map fun n=>UInt8.ofNat n.toNat:=by
  intro xs
  induction xs with
  | nil=>intro r;simp
  | cons x xs ih=>intro r;rw [List.foldl_cons,ih];simp [ByteArray.push]
 unfold toBA
 rw [key]
 rfl
theorem kgt (xs:List Int):(toBA xs).size=xs.length:=by rw [kar,kpc,q8]
theorem kxl (xs ys:List Int):toBA xs++toBA ys=toBA (xs++ys):=by
 apply ks2
 rw [kpc,List.map_append,← kpc,← kpc]
 simp [ByteArray.data_append]
theorem k5g {s:BA} {i:Nat} (h:i<s.size):cutS s (i:Int) ((i+1:Nat):Int)=some (toBA [atI s i]):=by
 unfold cutS
 rw [if_pos ⟨by omega,by omega,by omega⟩]
 congr 1
 apply ks2
 rw [kpc,(khh h).2.2]
 have e:(s.extract (i:Int).toNat ((i+1:Nat):Int).toNat).data.toList=(s.data.toList.take (i+1)).drop i:=by
  simp [ByteArray.data_extract,Array.toList_extract,List.drop_take]
 rw [e,List.drop_take,(khh h).2.1]
 simp
theorem ktn (s:BA) (i:Nat):IntKind.i32.wrap (atI s i)=atI s i:=by
 have:=kql s i
 simp [IntKind.wrap,IntKind.signed,IntKind.bits,IntKind.min,IntKind.max]
 omega
def tOut (x:Option (List Int)×Nat):BA×Bool×Int:=(x.1.elim ⟨#[]⟩ toBA,x.1.isSome,(x.2:Int))
theorem k9x (s:BA) (i0:Int) (least most:Nat) (hs:s.size≤4000000) (hm:most≤4000000):∀ (k:Nat) (acc:List Int) (i n:Nat),acc.length+k=most→i≤s.size→k<n →
  ∃ b,kab (ka1 ⟨s,i0⟩ (least:Int) (most:Int)) n ((i:Int),acc)=some b∧Sum.elim (fun j=>((⟨#[]⟩:BA),false,j)) id b=tOut ((kiq least k acc).ev s i):=by
 intro k
 induction k with
 | zero=>
  intro acc i n hk hi hn
  obtain ⟨n,rfl⟩:∃ m,n=m+1:=⟨n - 1,by omega⟩
  by_cases h:i<s.size
  ·have e3:((acc.length:Int) == (most:Int))=true:=by simp;omega
   unfold kiq
   simp only [Pr.ev]
   by_cases hq:atI s i=34∧least≤acc.length
   ·rw [if_pos hq]
    refine ⟨_,kbv (b := .inr (toBA acc,true,((i+1:Nat):Int))) ?_,rfl⟩
    have e1:(atI s i == 34)=true:=by rw [hq.1];rfl
    have e2:decide ((least:Int)≤(acc.length:Int))=true:=qe (by omega)
    simp only [ka1,kb6 h,qd,(khh h).1,qa,e1,kbh,ka5,e2,w64s i (by omega),qh]
   ·rw [if_neg hq]
    refine ⟨_,kbv (b := .inr (⟨#[]⟩,false,(i:Int))) ?_,rfl⟩
    by_cases h34:atI s i=34
    ·have e1:(atI s i == 34)=true:=by rw [h34];rfl
     have e2:decide ((least:Int)≤(acc.length:Int))=false:=qc (by omega)
     simp only [ka1,kb6 h,qd,(khh h).1,qa,e1,kbh,ka5,e2,qb,qh]
    ·have e1:(atI s i == 34)=false:=by simpa using h34
     simp only [ka1,kb6 h,qd,(khh h).1,qa,e1,kbh,ka5,e3,qb,qh]
  ·have e1:decide ((i:Int)<(s.size:Int))=false:=qc (by omega)
   refine ⟨_,kbv (b := .inl (i:Int)) (by simp only [ka1,e1,qb]),?_⟩
   unfold kiq
   simp only [Pr.ev,krp (Nat.le_of_not_lt h)]
   rw [if_neg (by omega)]
   rfl
 | succ k ih=>
  intro acc i n hk hi hn
  obtain ⟨n,rfl⟩:∃ m,n=m+1:=⟨n - 1,by omega⟩
  by_cases h:i<s.size
  ·have e3:((acc.length:Int) == (most:Int))=false:=by simp;omega
   unfold kiq
   simp only [Pr.ev]
   by_cases hq:atI s i=34∧least≤acc.length
   ·rw [if_pos hq]
    refine ⟨_,kbv (b := .inr (toBA acc,true,((i+1:Nat):Int))) ?_,rfl⟩
    have e1:(atI s i == 34)=true:=by rw [hq.1];rfl
    have e2:decide ((least:Int)≤(acc.length:Int))=true:=qe (by omega)
    simp only [ka1,kb6 h,qd,(khh h).1,qa,e1,kbh,ka5,e2,w64s i (by omega),qh]
   ·rw [if_neg hq]
    by_cases hb:atI s i=34∨atI s i<32∨126<atI s i
    ·rw [if_pos hb]
     refine ⟨_,kbv (b := .inr (⟨#[]⟩,false,(i:Int))) ?_,rfl⟩
     by_cases h34:atI s i=34
     ·have e1:(atI s i == 34)=true:=by rw [h34];rfl
      have e2:decide ((least:Int)≤(acc.length:Int))=false:=qc (by omega)
      simp only [ka1,kb6 h,qd,(khh h).1,qa,e1,kbh,ka5,e2,qb,qh]
     ·have e1:(atI s i == 34)=false:=by simpa using h34
      have e4:klq (atI s i)=false:=by
       unfold klq
       rw [Bool.and_eq_false_iff,decide_eq_false_iff_not,decide_eq_false_iff_not]
       omega
      simp only [ka1,kb6 h,qd,(khh h).1,qa,e1,kbh,ka5,e3,qb,qh,ktn,koo,e4,qam]
    ·rw [if_neg hb]
     have e1:(atI s i == 34)=false:=by simp;omega
     have e4:klq (atI s i)=true:=by
      unfold klq
      rw [qy,decide_eq_true_eq,decide_eq_true_eq]
      omega
     by_cases h92:atI s i=92
     ·rw [if_pos h92]
      have e5:(atI s i == 92)=true:=by rw [h92];rfl
      simp only [Pr.ev]
      by_cases hd:atI s (i+1)=34∨atI s (i+1)=92
      ·rw [if_pos hd]
       have e6:(bif (atI s (i+1) != 34) then (some (atI s (i+1) != 92)) else (some false):Option Bool)=some false:=by rcases hd with hd | hd <;> rw [hd] <;> rfl
       have hi':i+1<s.size:=kfv (by omega)
       simp only [Pr.ev]
       obtain ⟨b,hb1,hb2⟩:=ih (acc++[atI s (i+1)]) (i+1+1) n (by simp;omega) (by omega) (by omega)
       refine ⟨b,?_,hb2⟩
       rw [← hb1]
       refine kgw ?_
       simp only [ka1,kb6 h,qd,(khh h).1,qa,e1,kbh,e3,qb,ktn,koo,e4,qv,e5,w64s i (by omega),kg9,e6,qf,kam,kb5,
        kfx (b:=1) (xs:=acc) (ys:=[atI s (i+1)]) (by simp;omega),w64s (i+1) (by omega)]
      ·rw [if_neg hd]
       refine ⟨_,kbv (b := .inr (⟨#[]⟩,false,((i+1:Nat):Int))) ?_,rfl⟩
       have e6:(bif (atI s (i+1) != 34) then (some (atI s (i+1) != 92)) else (some false):Option Bool)=some true:=by
        have a1:(atI s (i+1) != 34)=true:=by simp;omega
        have a2:(atI s (i+1) != 92)=true:=by simp;omega
        rw [a1,a2];rfl
       simp only [ka1,kb6 h,qd,(khh h).1,qa,e1,kbh,e3,qb,ktn,koo,e4,qv,e5,w64s i (by omega),kg9,e6,qh]
     ·rw [if_neg h92]
      have e5:(atI s i == 92)=false:=by simpa using h92
      simp only [Pr.ev]
      obtain ⟨b,hb1,hb2⟩:=ih (acc++[atI s i]) (i+1) n (by simp;omega) (by omega) (by omega)
      refine ⟨b,?_,hb2⟩
      rw [← hb1]
      refine kgw ?_
      simp only [ka1,kb6 h,qd,(khh h).1,qa,e1,kbh,e3,qb,ktn,koo,e4,qv,e5,qf,kam,kb5,
       kfx (b:=1) (xs:=acc) (ys:=[atI s i]) (by simp;omega),w64s i (by omega)]
  ·have e1:decide ((i:Int)<(s.size:Int))=false:=qc (by omega)
   refine ⟨_,kbv (b := .inl (i:Int)) (by simp only [ka1,e1,qb]),?_⟩
   unfold kiq
   simp only [Pr.ev,krp (Nat.le_of_not_lt h)]
   rw [if_neg (by omega),if_pos (by omega)]
   rfl
theorem kwq {s:BA} {least most:Nat} (hs:s.size≤4000000) (hm:most≤4000000) {i:Nat} (hi:i≤s.size):
  kb2 ⟨s,(i:Int)⟩ (least:Int) (most:Int)=some (tOut ((keq least most).ev s i)):=by
 unfold kb2
 rw [ks5 hs (by decide) (by decide) hi]
 rw [show wl (⟨#[34]⟩:BA)=[34] from rfl]
 simp only [kbp,keq,Pr.ev,qa]
 by_cases h:atI s i=34
 ·rw [if_pos h,if_pos h]
  simp only [Pr.ev]
  obtain ⟨b,hb1,hb2⟩:=k9x s i least most hs hm most [] (i+1) fuel (by simp) (kfv (by omega)) (kdf (by omega))
  have hb1':kab (ka1 ⟨s,(i:Int)⟩ (least:Int) (most:Int)) fuel (((i+1:Nat):Int),([]:List Int))=some b:=hb1
  simp only [Option.isSome_some,qv,qb,hb1',qa,← hb2]
  cases b <;> rfl
 ·rw [if_neg h,if_neg h]
  rfl
def qOut (x:Option (List Int)×Nat):BA×Int×Bool:=(x.1.elim ⟨#[]⟩ toBA,(x.2:Int),x.1.isSome)
theorem k44 (s:BA) (least most:Nat) (hs:s.size≤4000000) (hm:most≤4000000):∀ (k:Nat) (acc:List Int) (i n:Nat),acc.length+k=most→i≤s.size→k<n →
  kab (kbl s (least:Int) (most:Int) false) n ((i:Int),toBA acc)=some (qOut ((kiq least k acc).ev s i)):=by
 intro k
 induction k with
 | zero=>
  intro acc i n hk hi hn
  obtain ⟨n,rfl⟩:∃ m,n=m+1:=⟨n - 1,by omega⟩
  have e3:((acc.length:Int) == (most:Int))=true:=by simp;omega
  unfold kiq
  simp only [Pr.ev]
  by_cases hq:atI s i=34∧least≤acc.length
  ·rw [if_pos hq]
   refine kbv ?_
   have e1:(atI s i == 34)=true:=by rw [hq.1];rfl
   have e2:decide ((least:Int)≤(acc.length:Int))=true:=qe (by omega)
   simp only [kbl,kfu,kgt,qd,qa,e1,e2,w64s i (by omega),qh]
   rfl
  ·rw [if_neg hq]
   refine kbv ?_
   have e0:(bif (atI s i == 34) then (some (decide ((least:Int)≤(acc.length:Int)))) else (some false):Option Bool)=some false:=by
    by_cases h34:atI s i=34
    ·rw [h34,qc (by omega)];rfl
    ·have e1:(atI s i == 34)=false:=by simpa using h34
     rw [e1];rfl
   simp only [kbl,kfu,kgt,qd,qb,qa,e0,e3,qh]
   rfl
 | succ k ih=>
  intro acc i n hk hi hn
  obtain ⟨n,rfl⟩:∃ m,n=m+1:=⟨n - 1,by omega⟩
  have e3:((acc.length:Int) == (most:Int))=false:=by simp;omega
  unfold kiq
  simp only [Pr.ev]
  by_cases hq:atI s i=34∧least≤acc.length
  ·rw [if_pos hq]
   refine kbv ?_
   have e1:(atI s i == 34)=true:=by rw [hq.1];rfl
   have e2:decide ((least:Int)≤(acc.length:Int))=true:=qe (by omega)
   simp only [kbl,kfu,kgt,qd,qa,e1,e2,w64s i (by omega),qh]
   rfl
  ·rw [if_neg hq]
   have e0:(bif (atI s i == 34) then (some (decide ((least:Int)≤(acc.length:Int)))) else (some false):Option Bool)=some false:=by
    by_cases h34:atI s i=34
    ·rw [h34,qc (by omega)];rfl
    ·have e1:(atI s i == 34)=false:=by simpa using h34
     rw [e1];rfl
   by_cases hb:atI s i=34∨atI s i<32∨126<atI s i
   ·rw [if_pos hb]
    refine kbv ?_
    have e4:(bif (decide (atI s i<32)) then (some true) else (bif (decide (126<atI s i)) then (some true) else (some (atI s i == 34))):Option Bool)=some true:=by
     rcases hb with hb | hb | hb
     ·rw [hb];rfl
     ·rw [qe hb];rfl
     ·rw [qe hb,qc (show ¬ atI s i<32 by omega)];rfl
    simp only [kbl,kfu,kgt,qd,qb,qa,e0,e3,e4,qh]
    rfl
   ·rw [if_neg hb]
    have hi':i<s.size:=kfv (by omega)
    have e4:(bif (decide (atI s i<32)) then (some true) else (bif (decide (126<atI s i)) then (some true) else (some (atI s i == 34))):Option Bool)=some false:=by
     rw [qc (show ¬ atI s i<32 by omega),qc (show ¬ 126<atI s i by omega)]
     have:(atI s i == 34)=false:=by simp;omega
     rw [this];rfl
    by_cases h92:atI s i=92
    ·rw [if_pos h92]
     have e5:(atI s i != 92)=false:=by rw [h92];rfl
     simp only [Pr.ev]
     by_cases hd:atI s (i+1)=34∨atI s (i+1)=92
     ·rw [if_pos hd]
      have e6:(bif (atI s (i+1) == 34) then (some true) else (some (atI s (i+1) == 92)):Option Bool)=some true:=by rcases hd with hd | hd <;> rw [hd] <;> rfl
      have hi2:i+1<s.size:=kfv (by omega)
      simp only [Pr.ev]
      rw [← ih (acc++[atI s (i+1)]) (i+1+1) n (by simp;omega) (by omega) (by omega)]
      refine kgw ?_
      simp only [kbl,kfu,kgt,qd,qb,qa,e0,e3,e4,e5,w64s i (by omega),w64s (i+1) (by omega),e6,k5g hi2,k4g (s:=toBA acc) (u:=toBA [atI s (i+1)]) (by rw [kgt,kgt];simp;omega),kxl,qh,qf]
     ·rw [if_neg hd]
      have e6:(bif (atI s (i+1) == 34) then (some true) else (some (atI s (i+1) == 92)):Option Bool)=some false:=by
       have a1:(atI s (i+1) == 34)=false:=by simp;omega
       have a2:(atI s (i+1) == 92)=false:=by simp;omega
       rw [a1,a2];rfl
      refine kbv ?_
      simp only [kbl,kfu,kgt,qd,qb,qa,e0,e3,e4,e5,w64s i (by omega),e6,qam,qh,qf]
      rfl
    ·rw [if_neg h92]
     have e5:(atI s i != 92)=true:=by simpa using h92
     simp only [Pr.ev]
     rw [← ih (acc++[atI s i]) (i+1) n (by simp;omega) (by omega) (by omega)]
     refine kgw ?_
     simp only [kbl,kfu,kgt,qd,qb,qa,e0,e3,e4,e5,w64s i (by omega),k5g hi',k4g (s:=toBA acc) (u:=toBA [atI s i]) (by rw [kgt,kgt];simp;omega),kxl,qh,qf]
theorem k04 {s:BA} {least most:Nat} (hs:s.size≤4000000) (hm:most≤4000000) {i:Nat} (hi:i≤s.size):
  kdn s (i:Int) (least:Int) (most:Int) false=some (qOut ((keq least most).ev s i)):=by
 unfold kdn
 simp only [keq,Pr.ev,kfu,qa]
 by_cases h:atI s i=34
 ·rw [if_pos h]
  have e1:(atI s i != 34)=false:=by rw [h];rfl
  simp only [Pr.ev]
  have:=k44 s least most hs hm most [] (i+1) fuel (by simp) (kfv (by omega)) (kdf (by omega))
  have hb1':kab (kbl s (least:Int) (most:Int) false) fuel (((i+1:Nat):Int),(⟨#[]⟩:BA))=some (qOut ((kiq least most []).ev s (i+1))):=this
  simp only [e1,qb,w64s i (by omega),hb1',qa]
 ·rw [if_neg h]
  have e1:(atI s i != 34)=true:=by simpa using h
  simp only [e1,qd]
  rfl
theorem kud {n:Int} (h0:0≤n) (h1:n≤255):w64 (wu8 n)=n:=by
 have e:wu8 n=n:=by
  simp [wu8,IntKind.wrap,IntKind.signed,IntKind.bits,IntKind.min,IntKind.max]
  omega
 rw [e];exact kcd (by omega) (by omega)
theorem kxd (s:BA) (i0:Int) (hs:s.size≤4000000):∀ (f:Nat) (m:Int) (i n:Nat),f≤7→0<m→m≤1000000→(10:Int) ^ (7 - f)≤m→i≤s.size→f<n →
  kab (ka0 ⟨s,i0⟩) n (m,atI s i,(i:Int))=some (((kfe f m).ev s i).1.getD 0,(((kfe f m).ev s i).2:Int))∧0<((kfe f m).ev s i).1.getD 0∧((kfe f m).ev s i).1.isSome=true∧((kfe f m).ev s i).1.getD 0≤1000000 ∧
  kab (kbq s) n ((i:Int),m)=some ((((kfe f m).ev s i).2:Int),((kfe f m).ev s i).1.getD 0):=by
 intro f
 induction f with
 | zero=>intro m i n _ h0 h1 h2;exact absurd h2 (by simp;omega)
 | succ f ih=>
  intro m i n hf h0 h1 h2 hi hn
  obtain ⟨n,rfl⟩:∃ m,n=m+1:=⟨n - 1,by omega⟩
  have hr:=kql s i
  unfold kfe
  rw [if_neg (by omega)]
  simp only [Pr.ev]
  have ew:atI s i - 48≤255:=by omega
  by_cases hc:48≤atI s i∧atI s i≤57∧m*10+(atI s i - 48)≤1000000
  ·rw [if_pos hc]
   simp only [Pr.ev]
   have hf1:1≤f:=by
    rcases Nat.eq_zero_or_pos f with rfl | h
    ·exfalso
     have:(10:Int) ^ (7 - (0+1))=1000000:=by decide
     omega
    ·exact h
   have hp:(10:Int) ^ (7 - f)=10 ^ (7 - (f+1))*10:=by rw [← Int.pow_succ];congr 1;omega
   obtain ⟨k1,k2,k3,k4,k5⟩:=ih (m*10+(atI s i - 48)) (i+1) n (by omega) (by omega) (by omega) (by rw [hp];omega) (kfv (by omega)) (by omega)
   have w1:=kud (n:=atI s i - 48) (by omega) (by omega)
   have w2:w64 (10*m)=10*m:=kcd (by omega) (by omega)
   have w2':w64 (m*10)=m*10:=kcd (by omega) (by omega)
   have w3:w64 (10*m+(atI s i - 48))=m*10+(atI s i - 48):=by rw [Int.mul_comm 10 m];exact kcd (by omega) (by omega)
   have w3':w64 (m*10+(atI s i - 48))=m*10+(atI s i - 48):=kcd (by omega) (by omega)
   have d1:decide (48≤atI s i)=true:=qe hc.1
   have d2:decide (atI s i≤57)=true:=qe hc.2.1
   have d3:decide (m*10+(atI s i - 48)≤1000000)=true:=qe hc.2.2
   have d4:decide (0<m)=true:=qe h0
   refine ⟨?_,k2,k3,k4,?_⟩
   ·rw [← k1]
    refine kgw ?_
    simp only [ka0,d1,d2,d3,d4,w1,w2,w3,qd,qa,w64s i (by omega),kg9]
   ·rw [← k5]
    refine kgw ?_
    simp only [kbq,kfu,d1,d2,d3,d4,w1,w2',w3',qd,qa,w64s i (by omega)]
  ·rw [if_neg hc]
   refine ⟨kbv ?_,h0,rfl,h1,kbv ?_⟩
   all_goals
    have d4:decide (0<m)=true:=qe h0
    by_cases c1:48≤atI s i
    ·by_cases c2:atI s i≤57
     ·have w1:=kud (n:=atI s i - 48) (by omega) (by omega)
      have w2:w64 (10*m)=10*m:=kcd (by omega) (by omega)
      have w2':w64 (m*10)=m*10:=kcd (by omega) (by omega)
      have w3:w64 (10*m+(atI s i - 48))=m*10+(atI s i - 48):=by rw [Int.mul_comm 10 m];exact kcd (by omega) (by omega)
      have w3':w64 (m*10+(atI s i - 48))=m*10+(atI s i - 48):=kcd (by omega) (by omega)
      have d1:decide (48≤atI s i)=true:=qe c1
      have d2:decide (atI s i≤57)=true:=qe c2
      have d3:decide (m*10+(atI s i - 48)≤1000000)=false:=qc (by omega)
      simp only [ka0,kbq,kfu,d1,d2,d3,d4,w1,w2,w2',w3,w3',qd,qb,qa]
      rfl
     ·have d1:decide (48≤atI s i)=true:=qe c1
      have d2:decide (atI s i≤57)=false:=qc c2
      simp only [ka0,kbq,kfu,d1,d2,d4,qd,qb,qa]
      rfl
    ·have d1:decide (48≤atI s i)=false:=qc c1
     simp only [ka0,kbq,kfu,d1,d4,qd,qb,qa]
     rfl
def nOut (x:Option Int×Nat):Bool×Int×Int:=(x.1.isSome,(x.2:Int),x.1.getD 0)
theorem kwb (s:BA) (f i:Nat):(kfe f 0).ev s i=(some 0,i):=by
 cases f with
 | zero=>rfl
 | succ f=>unfold kfe;rw [if_pos (by omega)];rfl
theorem k1q {s:BA} (hs:s.size≤4000000) {i:Nat} (hi:i≤s.size):kew ⟨s,(i:Int)⟩=some (nOut (numP.ev s i)):=by
 have key:∀ (neg:Bool) (sg:Int) (j:Nat),j≤s.size→sg=(if neg=true then -1 else 1)→¬ (neg=false∧atI s j=48) →
   (Option.bind (kab (ka0 ⟨s,(i:Int)⟩) fuel (0,atI s j,(j:Int))) fun (v13:Int×Int)=>(some ((decide (0<v13.1)),v13.2,(w64 (sg*v13.1))):Option (Bool×Int×Int)))=some (nOut ((unsP neg).ev s j)):=by
  intro neg sg j hj hsg hne
  have hr:=kql s j
  obtain ⟨n,hn⟩:∃ n,fuel=n+1:=⟨_,klr⟩
  have hn9:9<n:=by have:=kdf (n:=10) (by omega);omega
  unfold unsP
  simp only [Pr.ev]
  by_cases hb:atI s j<48∨57<atI s j∨(neg=true∧atI s j=48)
  ·rw [if_pos hb]
   have:kab (ka0 ⟨s,(i:Int)⟩) fuel (0,atI s j,(j:Int))=some (0,(j:Int)):=by
    rw [hn]
    refine kbv ?_
    rcases hb with hb | hb | hb
    ·have d1:decide (48≤atI s j)=false:=qc (by omega)
     simp only [ka0,d1,qb,qa]
    ·have d1:decide (48≤atI s j)=true:=qe (by omega)
     have d2:decide (atI s j≤57)=false:=qc (by omega)
     simp only [ka0,d1,d2,qd,qb,qa]
    ·have d1:decide (48≤atI s j)=true:=qe (by omega)
     have d2:decide (atI s j≤57)=true:=qe (by omega)
     have d3:decide (48<atI s j)=false:=qc (by omega)
     simp only [ka0,d1,d2,d3,show decide ((0:Int)<0)=false from rfl,qd,qb,qa]
   rw [this,qa,show w64 (sg*0)=0 by rw [Int.mul_zero];rfl]
   rfl
  ·rw [if_neg hb]
   have g1:48≤atI s j:=Int.not_lt.1 fun h=>hb (.inl h)
   have g2:atI s j≤57:=Int.not_lt.1 fun h=>hb (.inr (.inl h))
   have g3:atI s j≠48:=fun h=>by
    cases hn:neg with
    | true=>exact hb (.inr (.inr ⟨hn,h⟩))
    | false=>exact hne ⟨hn,h⟩
   have h48:48<atI s j:=by omega
   simp only [Pr.ev,kf4]
   obtain ⟨k1,k2,k3,k4,k5⟩:=kxd s i hs 7 (atI s j - 48) (j+1) n (by omega) (by omega) (by omega) (by simp;omega) (kfv (by omega)) (by omega)
   have w1:=kud (n:=atI s j - 48) (by omega) (by omega)
   have:kab (ka0 ⟨s,(i:Int)⟩) fuel (0,atI s j,(j:Int))=some (((kfe 7 (atI s j - 48)).ev s (j+1)).1.getD 0,(((kfe 7 (atI s j - 48)).ev s (j+1)).2:Int)):=by
    rw [hn,← k1]
    refine kgw ?_
    have d1:decide (48≤atI s j)=true:=qe (by omega)
    have d2:decide (atI s j≤57)=true:=qe (by omega)
    have d3:decide (48<atI s j)=true:=qe (by omega)
    have d5:decide (atI s j - 48≤1000000)=true:=qe (by omega)
    have w2:w64 (10*0)=0:=rfl
    have w3:w64 (0+(atI s j - 48))=atI s j - 48:=by rw [Int.zero_add];exact kcd (by omega) (by omega)
    simp only [ka0,d1,d2,d3,d5,w1,w2,w3,show decide ((0:Int)<0)=false from rfl,qd,qb,qa,w64s j (by omega),kg9]
   rw [this,qa]
   generalize (kfe 7 (atI s j - 48)).ev s (j+1)=x at k2 k3 k4 ⊢
   obtain ⟨_ | m,j'⟩:=x
   ·cases k3
   ·simp only [qap] at k2 k4 ⊢
    rw [qe k2]
    have:w64 (sg*m)=if neg=true then -m else m:=by
     rw [hsg]
     cases neg with
     | true=>simp only [if_true];rw [show (-1:Int)*m = -m by omega];exact kcd (by omega) (by omega)
     | false=>simp only [qat,if_false];rw [Int.one_mul];exact kcd (by omega) (by omega)
    rw [this]
    rfl
 unfold kew numP
 simp only [Pr.ev,kg9,qa]
 by_cases h45:atI s i=45
 ·have e1:(atI s i == 45)=true:=by rw [h45];rfl
  rw [if_pos h45]
  simp only [Pr.ev]
  rw [← key true (-1) (i+1) (kfv (by omega)) rfl (fun h=>by cases h.1)]
  simp only [e1,qd,qa,w64s i (by omega),show ((-1:Int) == 1)=false from rfl,qb,kg9]
 ·have e1:(atI s i == 45)=false:=by simpa using h45
  rw [if_neg h45]
  by_cases h48:atI s i=48
  ·have e2:(atI s i == 48)=true:=by rw [h48];rfl
   simp only [e1,e2,qd,qb,qa,show ((1:Int) == 1)=true from rfl,kg9,w64s i (by omega)]
   unfold unsP
   simp only [Pr.ev,h48]
   rw [if_neg (by simp)]
   simp only [Pr.ev,kf4,show (48:Int) - 48=0 from rfl,kwb]
   rfl
  ·have e2:(atI s i == 48)=false:=by simpa using h48
   rw [← key false 1 i hi rfl (fun h=>h48 h.2)]
   simp only [e1,e2,qd,qb,qa,show ((1:Int) == 1)=true from rfl,kg9]
theorem kzw {s:BA} (hs:s.size≤4000000) {i:Nat} (hi:i≤s.size):∃ v,kff s (i:Int)=some (v,((numP.ev s i).2:Int),(numP.ev s i).1.isSome)∧∀ m,(numP.ev s i).1=some m→v=Va.mk 2 m ⟨#[]⟩ []:=by
 have key:∀ (neg:Bool) (j:Nat),j≤s.size→neg=(atI s i == 45) →
   ∃ v,(Option.bind ((bif (decide (atI s j<48)) then (some (true)) else (bif (decide (57<atI s j)) then (some (true)) else (bif (atI s i == 45) then (some ((atI s j == 48))) else (some (false))))):Option ((Bool))) fun (v6:(Bool))=>(bif v6 then (some ((Va.mk (0) (0) ((⟨#[]⟩:BA)) (([]:List Va))),(j:Int),false)) else (Option.bind (kab (kbq s) fuel ((w64 ((j:Int)+1)),(w64 (wu8 (atI s j - 48))))) fun (v15:(Int)×(Int))=>(Option.bind ((bif (atI s i == 45) then (some ((w64 (0 - v15.2)))) else (some (v15.2))):Option ((Int))) fun (v17:(Int))=>(some ((Va.mk (2) (v17) ((⟨#[]⟩:BA)) (([]:List Va))),v15.1,true))))))=some (v,(((unsP neg).ev s j).2:Int),((unsP neg).ev s j).1.isSome)∧∀ m,((unsP neg).ev s j).1=some m→v=Va.mk 2 m ⟨#[]⟩ []:=by
  intro neg j hj hng
  have hr:=kql s j
  rw [← hng]
  unfold unsP
  simp only [Pr.ev]
  by_cases hb:atI s j<48∨57<atI s j∨(neg=true∧atI s j=48)
  ·rw [if_pos hb]
   have:(bif (decide (atI s j<48)) then (some (true)) else (bif (decide (57<atI s j)) then (some (true)) else (bif neg then (some ((atI s j == 48))) else (some (false)))):Option Bool)=some true:=by
    rcases hb with hb | hb | hb
    ·rw [qe hb];rfl
    ·rw [qc (show ¬ atI s j<48 by omega),qe hb];rfl
    ·rw [hb.1,hb.2];rfl
   rw [this]
   exact ⟨_,rfl,fun m h=>by cases h⟩
  ·rw [if_neg hb]
   have g1:48≤atI s j:=Int.not_lt.1 fun h=>hb (.inl h)
   have g2:atI s j≤57:=Int.not_lt.1 fun h=>hb (.inr (.inl h))
   have:(bif (decide (atI s j<48)) then (some (true)) else (bif (decide (57<atI s j)) then (some (true)) else (bif neg then (some ((atI s j == 48))) else (some (false)))):Option Bool)=some false:=by
    rw [qc (show ¬ atI s j<48 by omega),qc (show ¬ 57<atI s j by omega)]
    cases neg with
    | false=>rfl
    | true=>
     have:(atI s j == 48)=false:=by
      rw [qq]
      exact fun h=>hb (.inr (.inr ⟨rfl,h⟩))
     rw [this];rfl
   rw [this]
   have w1:=kud (n:=atI s j - 48) (by omega) (by omega)
   simp only [qa,qb,w1,w64s j (by omega),Pr.ev,kf4]
   by_cases h0:atI s j=48
   ·have:kab (kbq s) fuel (((j+1:Nat):Int),(0:Int))=some (((j+1:Nat):Int),0):=by
     rw [klr]
     exact kbv (by simp only [kbq,show decide ((0:Int)<0)=false from rfl,qb,qa])
    rw [show atI s j - 48=0 by omega,this,kwb]
    have hn0:neg=false:=by
     cases neg with
     | false=>rfl
     | true=>exact absurd (.inr (.inr ⟨rfl,h0⟩)) hb
    rw [hn0]
    refine ⟨_,rfl,fun m h=>?_⟩
    simp only [Pr.ev,qat,if_false,qj] at h
    rw [← h]
   ·obtain ⟨k1,k2,k3,k4,k5⟩:=kxd s i hs 7 (atI s j - 48) (j+1) fuel (by omega) (by omega) (by omega) (by simp;omega) (kfv (by omega)) (kdf (by omega))
    rw [k5]
    generalize (kfe 7 (atI s j - 48)).ev s (j+1)=x at k2 k3 k4 ⊢
    obtain ⟨_ | m,j'⟩:=x
    ·cases k3
    ·simp only [qap] at k2 k4 ⊢
     simp only [qa,Pr.ev]
     cases neg with
     | true=>
      rw [show w64 (0 - m) = -m by rw [Int.zero_sub];exact kcd (by omega) (by omega)]
      exact ⟨_,rfl,fun q h=>by simp only [if_true,qj] at h;rw [← h]⟩
     | false=>exact ⟨_,rfl,fun q h=>by simp only [qat,if_false,qj] at h;rw [← h]⟩
 unfold kff numP
 simp only [Pr.ev,kfu,qa]
 by_cases h45:atI s i=45
 ·have e1:(atI s i == 45)=true:=by rw [h45];rfl
  rw [if_pos h45]
  simp only [Pr.ev]
  obtain ⟨v,hv,hm⟩:=key true (i+1) (kfv (by omega)) e1.symm
  refine ⟨v,?_,hm⟩
  rw [← hv]
  simp only [e1,qd,qa,w64s i (by omega),kfu]
 ·have e1:(atI s i == 45)=false:=by simpa using h45
  rw [if_neg h45]
  obtain ⟨v,hv,hm⟩:=key false i hi e1.symm
  refine ⟨v,?_,hm⟩
  rw [← hv]
  simp only [e1,qb,qa,kfu]
theorem kzr (s:BA) (i:Nat):kmi (atI s i)=some (hexV (atI s i))∧kd0 (atI s i)=some (hexV (atI s i)):=by
 have hr:=kql s i
 have key:∀ n:Fin 256,kmi ((n.val:Nat):Int)=some (hexV ((n.val:Nat):Int))∧kd0 ((n.val:Nat):Int)=some (hexV ((n.val:Nat):Int)):=by decide
 have:=key ⟨(atI s i).toNat,by omega⟩
 rwa [show (((atI s i).toNat:Nat):Int)=atI s i by omega] at this
theorem k1f {s:BA} (hs:s.size≤4000000) (i0:Int) {m:Int} {j k:Nat} (hm:0≤m∧m≤255) (hj:j<2) (hk:k≤s.size):
  kef ⟨s,i0⟩ (m,(j:Int),(k:Int))=some (if hexV (atI s k)<0 then .inr (.inr (k:Int)) else .inl (16*m+hexV (atI s k),((j+1:Nat):Int),((k+1:Nat):Int))):=by
 have e0:decide ((j:Int)<2)=true:=qe (by omega)
 have hx:hexV (atI s k)≤15:=by unfold hexV;split <;> (try split) <;> omega
 by_cases h:hexV (atI s k)<0
 ·rw [if_pos h]
  have d1:decide (hexV (atI s k)<0)=true:=qe h
  cases hd:decide ((s.size:Int)≤(k:Int)) <;>
   simp only [kef,e0,qd,qb,kg9,qa,(kzr s k).1,hd,d1]
 ·rw [if_neg h]
  have d1:decide (hexV (atI s k)<0)=false:=qc h
  have hk':k<s.size:=kfv fun h0=>h (by rw [h0];decide)
  have hd:decide ((s.size:Int)≤(k:Int))=false:=qc (by omega)
  have w1:w64 (16*m)=16*m:=kcd (by omega) (by omega)
  have w2:w64 (16*m+hexV (atI s k))=16*m+hexV (atI s k):=kcd (by omega) (by omega)
  simp only [kef,e0,qd,qb,kg9,qa,(kzr s k).1,hd,d1,w1,w2,w64s j (by omega),w64s k (by omega)]
theorem kagj {s:BA} (hs:s.size≤4000000) {i:Nat} (hi:i+2≤s.size):kgs ⟨s,(i:Int)⟩=some ((bitsP.ev s (i+2)).1.isSome,((bitsP.ev s (i+2)).2:Int),(bitsP.ev s (i+2)).1.elim 0 (fun _=>4),(bitsP.ev s (i+2)).1.getD 0):=by
 obtain ⟨n,hn⟩:∃ n,fuel=n+3:=⟨18446744073709551613,rfl⟩
 have ew:w64 ((i:Int)+2)=((i+2:Nat):Int):=kcd (by omega) (by omega)
 have h1:kef ⟨s,(i:Int)⟩ (0,0,((i+2:Nat):Int))=_:=k1f hs (i:Int) (m:=0) (j:=0) (k:=i+2) (by omega) (by omega) hi
 unfold kgs
 rw [show (⟨s,(i:Int)⟩:S_literal_reader).f_at=(i:Int) from rfl,ew,hn]
 unfold bitsP
 simp only [Pr.ev]
 by_cases h:hexV (atI s (i+2))<0
 ·rw [if_pos h] at h1 ⊢
  rw [kbv (n:=n+2) h1]
  rfl
 ·rw [if_neg h] at h1 ⊢
  have hx:hexV (atI s (i+2))≤15:=by unfold hexV;split <;> (try split) <;> omega
  have hk':i+2<s.size:=kfv fun h0=>h (by rw [h0];decide)
  have h2:=k1f hs (i:Int) (m:=16*0+hexV (atI s (i+2))) (j:=1) (k:=i+2+1) (by omega) (by omega) hk'
  rw [kgw (n:=n+2) h1]
  simp only [Pr.ev]
  by_cases h':hexV (atI s (i+2+1))<0
  ·rw [if_pos h'] at h2 ⊢
   rw [kbv (n:=n+1) h2]
   rfl
  ·rw [if_neg h'] at h2 ⊢
   rw [kgw (n:=n+1) h2]
   rw [kbv (n:=n) (b := .inl (16*(16*0+hexV (atI s (i+2)))+hexV (atI s (i+2+1)),((i+2+1+1:Nat):Int))) rfl]
   simp only [qa,qf,Pr.ev,Option.isSome_some,Option.elim_some,qap]
   rw [show 16*(16*0+hexV (atI s (i+2)))+hexV (atI s (i+2+1))=hexV (atI s (i+2))*16+hexV (atI s (i+2+1)) by omega]
theorem ksf {τ β:Type} {step:τ→Option (τ ⊕ β)} {s:BA} {e:Int} {least most:Nat} {elem:List Va→Pr Va} (hg:∀ l,(elem l).good false) (mk:Nat→List Va→τ) (Q:Option (List Va)×Nat→β→Prop) (Inv:List Va→Prop)
  (hi:∀ acc i v j,Inv acc→(elem acc).ev s i=(some v,j)→Inv (acc++[v]))
  (hstep:∀ i acc x,i≤s.size→acc.length<most→Inv acc→(elem acc).ev s i=x →
   (x.1=none→∃ b,step (mk i acc)=some (.inr b)∧Q (none,x.2) b) ∧
   ∀ v,x.1=some v →
    ((atI s x.2=e∧least≤acc.length+1)→∃ b,step (mk i acc)=some (.inr b)∧Q (some (acc++[v]),x.2+1) b) ∧
    (¬ (atI s x.2=e∧least≤acc.length+1)→acc.length+1=most→∃ b,step (mk i acc)=some (.inr b)∧Q (none,x.2) b) ∧
    (¬ (atI s x.2=e∧least≤acc.length+1)→acc.length+1≠most→((kbp [44,32]).ev s x.2).1=none→∃ b,step (mk i acc)=some (.inr b)∧Q (none,((kbp [44,32]).ev s x.2).2) b) ∧
    (¬ (atI s x.2=e∧least≤acc.length+1)→acc.length+1≠most→((kbp [44,32]).ev s x.2).1≠none→step (mk i acc)=some (.inl (mk ((kbp [44,32]).ev s x.2).2 (acc++[v]))))):
  ∀ k acc i n,acc.length+1+k=most→Inv acc→i≤s.size→k<n→∃ b,kab step n (mk i acc)=some b∧Q (((elem acc).bind fun v=>kb4 e least elem k (acc++[v])).ev s i) b:=by
 intro k
 induction k with
 | zero=>
  intro acc i n hk hI hi' hn
  obtain ⟨n,rfl⟩:∃ m,n=m+1:=⟨n - 1,by omega⟩
  obtain ⟨h1,h2⟩:=hstep i acc _ hi' (by omega) hI rfl
  rw [kf4]
  rcases hx:(elem acc).ev s i with ⟨_ | v,j⟩
  ·rw [hx] at h1
   obtain ⟨b,hb,hq⟩:=h1 rfl
   exact ⟨b,kbv hb,hq⟩
  ·rw [hx] at h2
   obtain ⟨q1,q2,_⟩:=h2 v rfl
   show ∃ b,_∧Q ((kb4 e least elem 0 (acc++[v])).ev s j) b
   unfold kb4
   simp only [Pr.ev,qn,qa1]
   by_cases hc:atI s j=e∧least≤acc.length+1
   ·obtain ⟨b,hb,hq⟩:=q1 hc
    rw [if_pos hc]
    exact ⟨b,kbv hb,hq⟩
   ·obtain ⟨b,hb,hq⟩:=q2 hc (by omega)
    rw [if_neg hc]
    exact ⟨b,kbv hb,hq⟩
 | succ k ih=>
  intro acc i n hk hI hi' hn
  obtain ⟨n,rfl⟩:∃ m,n=m+1:=⟨n - 1,by omega⟩
  obtain ⟨h1,h2⟩:=hstep i acc _ hi' (by omega) hI rfl
  rw [kf4]
  have hle:=knx (s:=s) (hg acc) hi'
  rcases hx:(elem acc).ev s i with ⟨_ | v,j⟩
  ·rw [hx] at h1
   obtain ⟨b,hb,hq⟩:=h1 rfl
   exact ⟨b,kbv hb,hq⟩
  ·rw [hx] at h2 hle
   obtain ⟨q1,q2,q3,q4⟩:=h2 v rfl
   show ∃ b,_∧Q ((kb4 e least elem (k+1) (acc++[v])).ev s j) b
   unfold kb4
   simp only [Pr.ev,qn,qa1]
   by_cases hc:atI s j=e∧least≤acc.length+1
   ·obtain ⟨b,hb,hq⟩:=q1 hc
    rw [if_pos hc]
    exact ⟨b,kbv hb,hq⟩
   ·rw [if_neg hc,if_neg (by omega),kf4]
    have hle2:=knx (s:=s) (kl1 (w:=[44,32]) (by decide)) hle.2
    rcases hw:(kbp [44,32]).ev s j with ⟨_ | u,j'⟩
    ·rw [hw] at q3
     obtain ⟨b,hb,hq⟩:=q3 hc (by omega) rfl
     exact ⟨b,kbv hb,hq⟩
    ·rw [hw] at q4 hle2
     have hb:=q4 hc (by omega) (by exact fun h=>by cases h)
     rw [kgw hb]
     exact ih (acc++[v]) j' n (by simp;omega) (hi acc i v j hI hx) hle2.2 (by omega)
def lQ (x:Option (List Va)×Nat) (b:List Va×Bool×Int):Prop:=b.2.1=x.1.isSome∧b.2.2=(x.2:Int)∧∀ l,x.1=some l→b.1=l
theorem kaak {s:BA} (hs:s.size≤4000000) {j:Nat} (hj:j≤s.size):kan ⟨s,(j:Int)⟩ (⟨#[44,32]⟩:BA)=some (((kbp [44,32]).ev s j).1.isSome,(((kbp [44,32]).ev s j).2:Int)):=ks5 hs (by decide) (by decide) hj
theorem kws {s:BA} (hs:s.size≤4000000) {i:Nat} (hi:i≤s.size) (c:UInt8) (hc:c≠0):kan ⟨s,(i:Int)⟩ (⟨#[c]⟩:BA)=some (if atI s i=(c.toNat:Int) then (true,((i+1:Nat):Int)) else (false,(i:Int))):=by
 have hc0:(c.toNat:Int)≠0:=by
  intro h
  apply hc
  have:c.toNat=0:=by omega
  exact UInt8.toNat.inj this
 rw [ks5 hs (by show 1≤1000000;omega) (by intro x hx;simp [wl] at hx;rw [hx];exact hc0) hi,show wl (⟨#[c]⟩:BA)=[(c.toNat:Int)] from rfl]
 simp only [kbp,Pr.ev]
 by_cases h:atI s i=(c.toNat:Int)
 ·rw [if_pos h,if_pos h];rfl
 ·rw [if_neg h,if_neg h];rfl
def k2i {γ:Type} (s:BA) (j:Nat) (c:Int) (most len:Nat) (A B C:Int→γ):Option γ:=
 some (if atI s j=c then A ((j+1:Nat):Int) else if len=most then B (j:Int) else if ((kbp [44,32]).ev s j).1=none then B (((kbp [44,32]).ev s j).2:Int) else C (((kbp [44,32]).ev s j).2:Int))
theorem k0a {γ:Type} {s:BA} (hs:s.size≤4000000) {j:Nat} (hj:j≤s.size) (c:Int) (hc:c≠0) (most:Nat) (acc:List Va) (A B C:Int→γ):
  (Option.bind (kat ⟨s,(j:Int)⟩) fun v6=>(bif (v6 == c) then some (A (w64 ((j:Int)+1))) else (Option.bind ((bif ((List.length acc:Int) == (most:Int)) then (some (true,(j:Int))) else (Option.bind (kan ⟨s,(j:Int)⟩ (⟨#[44,32]⟩:BA)) fun v7=>(some ((!v7.1),v7.2)))):Option ((Bool)×(Int))) fun (v9:(Bool)×(Int))=>(bif v9.1 then some (B v9.2) else some (C v9.2))))) =
   k2i s j c most acc.length A B C:=by
 unfold k2i
 rw [kg9,qa]
 by_cases h:atI s j=c
 ·rw [if_pos h,show (atI s j == c)=true by rw [h];simp,w64s j (by omega)];rfl
 ·rw [if_neg h,show (atI s j == c)=false by simpa using h,qb]
  by_cases hl:acc.length=most
  ·rw [if_pos hl,show ((acc.length:Int) == (most:Int))=true by simp;omega];rfl
  ·rw [if_neg hl,show ((acc.length:Int) == (most:Int))=false by simp;omega,qb,kaak hs hj]
   cases ((kbp [44,32]).ev s j).1 <;> rfl
theorem kwu (s:BA) (i:Nat):intE.ev s i=((numP.ev s i).1.map fun a=>Va.mk 2 a ⟨#[]⟩ [],(numP.ev s i).2):=by
 unfold intE;rw [kf4]
 rcases numP.ev s i with ⟨_ | a,j⟩ <;> rfl
theorem kt2 (s:BA) (i:Nat):textE.ev s i=(((keq 0 64).ev s i).1.map fun a=>Va.mk 3 0 (toBA a) [],((keq 0 64).ev s i).2):=by
 unfold textE;rw [kf4]
 rcases (keq 0 64).ev s i with ⟨_ | a,j⟩ <;> rfl
theorem kt7 {τ β:Type} {step:τ→Option (τ ⊕ β)} {s:BA} {c:Int} {most:Nat} {elem:List Va→Pr Va} (hg:∀ l,(elem l).good false) {mk:Nat→List Va→τ} {Q:Option (List Va)×Nat→β→Prop} {Inv:List Va→Prop}
  (h:∀ i acc,i≤s.size→acc.length<most→Inv acc→(∀ j,(elem acc).ev s i=(none,j)→∃ b,step (mk i acc)=some (.inr b)∧Q (none,j) b) ∧
   ∀ v j,(elem acc).ev s i=(some v,j)→∃ A B C:Int→τ ⊕ β,step (mk i acc)=k2i s j c most (acc++[v]).length A B C ∧
    (∀ z:Nat,∃ b,A (z:Int) = .inr b∧Q (some (acc++[v]),z) b)∧(∀ z:Nat,∃ b,B (z:Int) = .inr b∧Q (none,z) b)∧∀ z:Nat,C (z:Int) = .inl (mk z (acc++[v]))):
  ∀ i acc x,i≤s.size→acc.length<most→Inv acc→(elem acc).ev s i=x →
   (x.1=none→∃ b,step (mk i acc)=some (.inr b)∧Q (none,x.2) b) ∧
   ∀ v,x.1=some v →
    ((atI s x.2=c∧0≤acc.length+1)→∃ b,step (mk i acc)=some (.inr b)∧Q (some (acc++[v]),x.2+1) b) ∧
    (¬ (atI s x.2=c∧0≤acc.length+1)→acc.length+1=most→∃ b,step (mk i acc)=some (.inr b)∧Q (none,x.2) b) ∧
    (¬ (atI s x.2=c∧0≤acc.length+1)→acc.length+1≠most→((kbp [44,32]).ev s x.2).1=none→∃ b,step (mk i acc)=some (.inr b)∧Q (none,((kbp [44,32]).ev s x.2).2) b) ∧
    (¬ (atI s x.2=c∧0≤acc.length+1)→acc.length+1≠most→((kbp [44,32]).ev s x.2).1≠none→step (mk i acc)=some (.inl (mk ((kbp [44,32]).ev s x.2).2 (acc++[v])))):=by
 intro i acc x hi hl hI hx
 obtain ⟨h1,h2⟩:=h i acc hi hl hI
 obtain ⟨_ | v,j⟩:=x
 ·exact ⟨fun _=>h1 j hx,fun v h=>by cases h⟩
 ·refine ⟨fun h=>(by cases h),fun v' hv=>?_⟩
  obtain rfl:=qm hv
  obtain ⟨A,B,C,e,a1,a2,a3⟩:=h2 v j hx
  unfold k2i at e
  rw [qn,qa1] at e
  refine ⟨fun hc=>?_,fun hc hl=>?_,fun hc hl hw=>?_,fun hc hl hw=>?_⟩
  ·rw [if_pos hc.1] at e
   obtain ⟨b,hb,hq⟩:=a1 (j+1)
   exact ⟨b,by rw [e,hb],hq⟩
  ·rw [if_neg (fun h=>hc ⟨h,qad _⟩),if_pos hl] at e
   obtain ⟨b,hb,hq⟩:=a2 j
   exact ⟨b,by rw [e,hb],hq⟩
  ·rw [if_neg (fun h=>hc ⟨h,qad _⟩),if_neg hl,if_pos hw] at e
   obtain ⟨b,hb,hq⟩:=a2 ((kbp [44,32]).ev s j).2
   exact ⟨b,by rw [e,hb],hq⟩
  ·rw [if_neg (fun h=>hc ⟨h,qad _⟩),if_neg hl,if_neg hw] at e
   rw [e,a3]
theorem kaal {s:BA} (hs:s.size≤4000000) (i0:Int):∀ k (acc:List Va) (i n:Nat),acc.length+1+k=16→True→i≤s.size→k<n →
  ∃ b,kab (kf3 ⟨s,i0⟩ 93 16) n ((i:Int),acc)=some b∧lQ ((intE.bind fun v=>kb4 93 0 (fun _=>intE) k (acc++[v])).ev s i) b:=by
 refine ksf (least:=0) (elem:=fun _=>intE) (fun _=>knb) (fun i acc=>((i:Int),acc)) lQ (fun _=>True) (fun _ _ _ _ _ _=>trivial) (kt7 (fun _=>knb) ?_)
 intro i acc hi hl _
 have hn:=k1q hs hi
 have hle:=knx (s:=s) k1a hi
 simp only [kwu]
 generalize numP.ev s i=y at hn hle
 obtain ⟨_ | m,j⟩:=y
 ·refine ⟨fun j' h=>?_,fun v j' h=>by cases h⟩
  cases h
  exact ⟨([],false,(j:Int)),by simp only [kf3,hn,nOut,qa,Option.isSome_none,qam,qd],rfl,rfl,fun l h=>by cases h⟩
 ·refine ⟨fun j' h=>(by cases h),fun v j' h=>?_⟩
  cases h
  have ha:=kfx (b:=56) (xs:=acc) (ys:=[Va.mk 2 m ⟨#[]⟩ []]) (by simp;omega)
  refine ⟨fun z => .inr (acc++[Va.mk 2 m ⟨#[]⟩ []],true,z),fun z => .inr ([],false,z),fun z => .inl (z,acc++[Va.mk 2 m ⟨#[]⟩ []]),Eq.trans ?_ (k0a hs hle.2 93 (by decide) 16 (acc++[Va.mk 2 m ⟨#[]⟩ []]) _ _ _),fun z=>⟨_,rfl,rfl,rfl,fun l h=>by cases h;rfl⟩,fun z=>⟨_,rfl,rfl,rfl,fun l h=>by cases h⟩,fun z=>rfl⟩
  simp only [kf3,hn,nOut,qa,Option.isSome_some,qv,qb,qap,ha]
  rfl
theorem k7z {s:BA} (hs:s.size≤4000000) (i0:Int):∀ k (acc:List Va) (i n:Nat),acc.length+1+k=16→True→i≤s.size→k<n →
  ∃ b,kab (kfo ⟨s,i0⟩ 125 16) n ((i:Int),acc)=some b∧lQ ((textE.bind fun v=>kb4 125 0 (fun _=>textE) k (acc++[v])).ev s i) b:=by
 refine ksf (least:=0) (elem:=fun _=>textE) (fun _=>kkk) (fun i acc=>((i:Int),acc)) lQ (fun _=>True) (fun _ _ _ _ _ _=>trivial) (kt7 (fun _=>kkk) ?_)
 intro i acc hi hl _
 have hn:=kwq (least:=0) (most:=64) hs (by decide) hi
 have hle:=knx (s:=s) (kpw 0 64) hi
 simp only [kt2]
 have hn':kb2 ⟨s,(i:Int)⟩ 0 64=some (tOut ((keq 0 64).ev s i)):=hn
 generalize (keq 0 64).ev s i=y at hn' hle
 obtain ⟨_ | m,j⟩:=y
 ·refine ⟨fun j' h=>?_,fun v j' h=>by cases h⟩
  cases h
  exact ⟨([],false,(j:Int)),by simp only [kfo,kco,hn',tOut,qa,Option.isSome_none,qam,qd],rfl,rfl,fun l h=>by cases h⟩
 ·refine ⟨fun j' h=>(by cases h),fun v j' h=>?_⟩
  cases h
  have ha:=kfx (b:=56) (xs:=acc) (ys:=[Va.mk 3 0 (toBA m) []]) (by simp;omega)
  refine ⟨fun z => .inr (acc++[Va.mk 3 0 (toBA m) []],true,z),fun z => .inr ([],false,z),fun z => .inl (z,acc++[Va.mk 3 0 (toBA m) []]),Eq.trans ?_ (k0a hs hle.2 125 (by decide) 16 (acc++[Va.mk 3 0 (toBA m) []]) _ _ _),fun z=>⟨_,rfl,rfl,rfl,fun l h=>by cases h;rfl⟩,fun z=>⟨_,rfl,rfl,rfl,fun l h=>by cases h⟩,fun z=>rfl⟩
  simp only [kfo,kco,hn',tOut,qa,Option.isSome_some,qv,qb,Option.elim_some,ha]
  rfl
theorem kagd {s:BA} (hs:s.size≤4000000) {i:Nat} (hi:i≤s.size) (h91:atI s i=91):∃ b,kgu ⟨s,(i:Int)⟩ 91 93 16=some b∧lQ ((kb4 93 0 (fun _=>intE) 16 []).ev s (i+1)) b:=by
 have hi':i+1≤s.size:=kfv (by omega)
 have ho:=kws hs hi 91 (by decide)
 rw [if_pos (by rw [h91];rfl)] at ho
 have ho':kan ⟨s,(i:Int)⟩ (Utf8.encode 91)=some (true,((i+1:Nat):Int)):=ho
 unfold kgu kb4
 simp only [ho',qa,qv,qb,kg9,Pr.ev]
 by_cases hc:atI s (i+1)=93
 ·rw [if_pos ⟨hc,qw _⟩,show (atI s (i+1) == 93)=true by rw [hc];rfl]
  exact ⟨_,rfl,rfl,w64s (i+1) (by omega),fun l h=>by cases h;rfl⟩
 ·rw [if_neg (fun h=>hc h.1),show (atI s (i+1) == 93)=false by simpa using hc,qb]
  obtain ⟨b,hb,hq⟩:=kaal hs i 15 [] (i+1) fuel rfl trivial hi' (kdf (by omega))
  rw [hb]
  refine ⟨b,rfl,?_⟩
  simpa [Pr.bind] using hq
theorem kac1 {s:BA} (hs:s.size≤4000000) {i:Nat} (hi:i≤s.size) (h91:atI s i=123):∃ b,kgg ⟨s,(i:Int)⟩ 123 125 16=some b∧lQ ((kb4 125 0 (fun _=>textE) 16 []).ev s (i+1)) b:=by
 have hi':i+1≤s.size:=kfv (by omega)
 have ho:=kws hs hi 123 (by decide)
 rw [if_pos (by rw [h91];rfl)] at ho
 have ho':kan ⟨s,(i:Int)⟩ (Utf8.encode 123)=some (true,((i+1:Nat):Int)):=ho
 unfold kgg kb4
 simp only [ho',qa,qv,qb,kg9,Pr.ev]
 by_cases hc:atI s (i+1)=125
 ·rw [if_pos ⟨hc,qw _⟩,show (atI s (i+1) == 125)=true by rw [hc];rfl]
  exact ⟨_,rfl,rfl,w64s (i+1) (by omega),fun l h=>by cases h;rfl⟩
 ·rw [if_neg (fun h=>hc h.1),show (atI s (i+1) == 125)=false by simpa using hc,qb]
  obtain ⟨b,hb,hq⟩:=k7z hs i 15 [] (i+1) fuel rfl trivial hi' (kdf (by omega))
  rw [hb]
  refine ⟨b,rfl,?_⟩
  simpa [Pr.bind] using hq
def kj5:List Va→Nat
 | []=>0
 | r::_=>r.items.length
def InvR (acc:List Va):Prop:=∀ r∈acc,1≤r.items.length∧r.items.length≤8
def rQ (cols:Nat) (x:Option (List Va)×Nat) (b:Bool×Int×Int×Int×List Va):Prop:=b.1=x.1.isSome∧b.2.1=(x.2:Int)∧∀ l,x.1=some l→b.2.2.1=(l.length:Int)∧b.2.2.2.1=6∧b.2.2.2.2=l
def rowG (least most:Nat):Pr Va := .peek fun c=>if c=123 then .adv ((kb4 125 least (fun _=>textE) most []).bind fun l => .done (Va.mk 6 0 ⟨#[]⟩ l)) else .fail
theorem kadm {s:BA} (hs:s.size≤4000000) (i0:Int) (cols least most:Nat) (hcl:(cols=0∧least=1∧most=8)∨(1≤cols∧cols≤8∧least=cols∧most=cols)):∀ k (acc:List Va) (i n:Nat),acc.length+1+k=most→True→i≤s.size→k<n →
  ∃ b,kab (kdt ⟨s,i0⟩ (cols:Int)) n ((i:Int),acc)=some b∧rQ cols ((textE.bind fun v=>kb4 125 least (fun _=>textE) k (acc++[v])).ev s i) b:=by
 refine ksf (least:=least) (elem:=fun _=>textE) (fun _=>kkk) (fun i acc=>((i:Int),acc)) (rQ cols) (fun _=>True) (fun _ _ _ _ _ _=>trivial) ?_
 intro i acc x hi hl _ hx
 have hn:=kwq (least:=0) (most:=64) hs (by decide) hi
 have hle:=knx (s:=s) (kpw 0 64) hi
 simp only [kt2] at hx
 have hn':kb2 ⟨s,(i:Int)⟩ 0 64=some (tOut ((keq 0 64).ev s i)):=hn
 generalize (keq 0 64).ev s i=y at hn' hle hx
 have hm8:most≤8:=by omega
 obtain ⟨_ | m,j⟩:=y
 ·subst hx
  refine ⟨fun _=>?_,fun v h=>by cases h⟩
  exact ⟨(false,(j:Int),(cols:Int),0,[]),by simp only [kdt,kco,hn',tOut,qa,Option.isSome_none,qam,qd],rfl,rfl,fun l h=>by cases h⟩
 ·subst hx
  refine ⟨fun h=>(by cases h),fun v hv=>?_⟩
  obtain rfl:=qm hv
  simp only
  have hj:=hle.2
  simp only at hj
  have ha:=kfx (b:=56) (xs:=acc) (ys:=[Va.mk 3 0 (toBA m) []]) (by simp;omega)
  have hlen:((List.length (acc++[Va.mk 3 0 (toBA m) []]):Nat):Int)=((acc.length+1:Nat):Int):=by rw [qn];rfl
  have e7:(bif (atI s j == 125) then (bif ((cols:Int) == 0) then (some (true)) else (some (((acc.length+1:Nat):Int) == (cols:Int)))) else (some (false)):Option Bool)=some (decide (atI s j=125∧least≤acc.length+1)):=by
   by_cases h:atI s j=125
   ·rw [show (atI s j == 125)=true by rw [h];rfl,qd]
    rcases hcl with ⟨h1,h2,h3⟩ | ⟨h1,h2,h3,h4⟩
    ·rw [show ((cols:Int) == 0)=true by simp;omega,qe ⟨h,by omega⟩];rfl
    ·rw [show ((cols:Int) == 0)=false by simp;omega,qb]
     congr 1
     by_cases hc:acc.length+1=cols
     ·rw [qe ⟨h,by omega⟩,hc];simp
     ·rw [qc (by omega)];simp;omega
   ·rw [show (atI s j == 125)=false by simpa using h,qb,qc (fun h'=>h h'.1)]
  have e8:(bif (((acc.length+1:Nat):Int) == 8) then (some (true,(j:Int))) else (bif (((acc.length+1:Nat):Int) == (cols:Int)) then (some (true,(j:Int))) else (Option.bind (kan ⟨s,(j:Int)⟩ (⟨#[44,32]⟩:BA)) fun v8=>(some ((!v8.1),v8.2)))):Option (Bool×Int)) =
    if acc.length+1=most then some (true,(j:Int)) else some (!((kbp [44,32]).ev s j).1.isSome,(((kbp [44,32]).ev s j).2:Int)):=by
   by_cases hc:acc.length+1=most
   ·rw [if_pos hc]
    rcases hcl with ⟨h1,h2,h3⟩ | ⟨h1,h2,h3,h4⟩
    ·rw [show (((acc.length+1:Nat):Int) == 8)=true by rw [hc,h3];rfl];rfl
    ·rw [show (((acc.length+1:Nat):Int) == (cols:Int))=true by simp;omega]
     cases (((acc.length+1:Nat):Int) == 8) <;> rfl
   ·rw [if_neg hc,show (((acc.length+1:Nat):Int) == 8)=false by rw [qq];omega,show (((acc.length+1:Nat):Int) == (cols:Int))=false by rw [qq];omega,kaak hs hj]
    rfl
  have base:kdt ⟨s,i0⟩ (cols:Int) ((i:Int),acc)=(bif decide (atI s j=125∧least≤acc.length+1) then some (.inr (true,((j+1:Nat):Int),((acc.length+1:Nat):Int),6,acc++[Va.mk 3 0 (toBA m) []])) else Option.bind (if acc.length+1=most then some (true,(j:Int)) else some (!((kbp [44,32]).ev s j).1.isSome,(((kbp [44,32]).ev s j).2:Int))) fun v10=>bif v10.1 then some (.inr (false,v10.2,(cols:Int),0,[])) else some (.inl (v10.2,acc++[Va.mk 3 0 (toBA m) []]))):=by
   simp only [kdt,kco,hn',tOut,qa,Option.isSome_some,qv,qb,Option.elim_some,ha,kg9,hlen,e7,e8,w64s j (by omega)]
  refine ⟨fun hc=>?_,fun hc hl=>?_,fun hc hl hw=>?_,fun hc hl hw=>?_⟩
  ·rw [base,qe hc]
   exact ⟨_,rfl,rfl,rfl,fun l h=>by cases h;exact ⟨hlen.symm,rfl,rfl⟩⟩
  ·rw [base,qc hc,if_pos hl]
   exact ⟨_,rfl,rfl,rfl,fun l h=>by cases h⟩
  ·rw [base,qc hc,if_neg hl,hw]
   exact ⟨_,rfl,rfl,rfl,fun l h=>by cases h⟩
  ·rw [base,qc hc,if_neg hl]
   cases hw':((kbp [44,32]).ev s j).1 with
   | none=>exact absurd hw' hw
   | some u=>rfl
theorem k6j {s:BA} (hs:s.size≤4000000) {cols least most:Nat} (hcl:(cols=0∧least=1∧most=8)∨(1≤cols∧cols≤8∧least=cols∧most=cols)) {i:Nat} (hi:i≤s.size):
  ∃ b,kex ⟨s,(i:Int)⟩ (cols:Int)=some b∧b.1=((rowG least most).ev s i).1.isSome∧b.2.1=(((rowG least most).ev s i).2:Int) ∧
  ∀ v,((rowG least most).ev s i).1=some v→b.2.2.1=(v.items.length:Int)∧v=Va.mk b.2.2.2.1 0 ⟨#[]⟩ b.2.2.2.2:=by
 unfold kex rowG
 rw [kws hs hi 123 (by decide)]
 simp only [Pr.ev]
 by_cases h:atI s i=123
 ·rw [if_pos (by rw [h];rfl),if_pos h]
  have hi':i+1≤s.size:=kfv (by omega)
  simp only [qa,qv,qb,Pr.ev,kf4]
  obtain ⟨k,hk⟩:∃ k,most=k+1:=⟨most - 1,by omega⟩
  obtain ⟨b,hb,hq⟩:=kadm hs i cols least most hcl k [] (i+1) fuel (by rw [hk];simp;omega) trivial hi' (kdf (by omega))
  have hq':rQ cols ((kb4 125 least (fun _=>textE) most []).ev s (i+1)) b:=by
   rw [hk]
   unfold kb4
   simp only [Pr.ev]
   rw [if_neg (by simp;omega)]
   simpa [Pr.bind] using hq
  obtain ⟨q1,q2,q3⟩:=hq'
  rw [hb]
  refine ⟨b,rfl,?_⟩
  generalize (kb4 125 least (fun _=>textE) most []).ev s (i+1)=y at q1 q2 q3 ⊢
  obtain ⟨_ | l,j⟩:=y
  ·exact ⟨q1,q2,fun v h=>by cases h⟩
  ·refine ⟨q1,q2,fun v h=>?_⟩
   obtain ⟨r1,r2,r3⟩:=q3 l rfl
   cases h
   exact ⟨r1,by rw [r2,r3]⟩
 ·rw [if_neg (by exact h),if_neg h]
  exact ⟨_,rfl,rfl,rfl,fun v h=>by cases h⟩
theorem kain {s:BA} (hs:s.size≤4000000) {acc:List Va} (hI:InvR acc) {i:Nat} (hi:i≤s.size):∃ b,kex ⟨s,(i:Int)⟩ (kj5 acc:Int)=some b∧b.1=((rowE acc).ev s i).1.isSome∧b.2.1=(((rowE acc).ev s i).2:Int) ∧
  ∀ v,((rowE acc).ev s i).1=some v→b.2.2.1=(v.items.length:Int)∧v=Va.mk b.2.2.2.1 0 ⟨#[]⟩ b.2.2.2.2:=by
 cases acc with
 | nil=>exact k6j hs (.inl ⟨rfl,rfl,rfl⟩) hi
 | cons r l=>
  have:=hI r (qr ..)
  exact k6j hs (cols:=r.items.length) (.inr ⟨this.1,this.2,rfl,rfl⟩) hi
theorem kqq {P:Va→Prop} {e:Int} {least:Nat} {elem:List Va→Pr Va} {I:List Va→Prop} (hI:∀ acc v,I acc→P v→I (acc++[v])) (hel:∀ acc,I acc→(elem acc).all P):∀ (k:Nat) (acc:List Va),I acc→(kb4 e least elem k acc).all fun l=>I l∧least≤l.length∧l.length≤acc.length+k
 | 0,acc,h=>by
  unfold kb4
  intro c
  dsimp only
  split
  ·rename_i hc;exact ⟨h,hc.2,by omega⟩
  ·trivial
 | k+1,acc,h=>by
  unfold kb4
  intro c
  dsimp only
  split
  ·rename_i hc;exact ⟨h,hc.2,by omega⟩
  ·refine kg2 (P:=fun _=>True) (fun _ _=>kg2 (P:=P) (fun v hv=>?_) _ (hel acc h)) _ (klu _)
   exact kki (fun l hl=>⟨hl.1,hl.2.1,by have:=hl.2.2;simp at this;omega⟩) _ (kqq hI hel k (acc++[v]) (hI acc v h hv))
def klb (v:Va):Prop:=v.items=[]∧v.text.size≤64
theorem k4i (least:Nat):∀ (k:Nat) (acc:List Int),(kiq least k acc).all fun l=>least≤l.length∧l.length≤acc.length+k
 | 0,acc=>by
  unfold kiq;intro c;dsimp only
  split
  ·rename_i hc;exact ⟨hc.2,by omega⟩
  ·trivial
 | k+1,acc=>by
  unfold kiq;intro c;dsimp only
  have ih:=fun d=>kki (Q:=fun l=>least≤l.length∧l.length≤acc.length+(k+1)) (fun l hl=>⟨hl.1,by have:=hl.2;simp at this;omega⟩) _ (k4i least k (acc++[d]))
  split
  ·rename_i hc;exact ⟨hc.2,by omega⟩
  split
  ·trivial
  split
  ·intro d;dsimp only
   split
   ·exact ih d
   ·trivial
  ·exact ih c
theorem k38 (least most:Nat):(keq least most).all fun l=>least≤l.length∧l.length≤most:=by
 unfold keq;intro c;dsimp only
 split
 ·exact kki (fun l hl=>⟨hl.1,by simpa using hl.2⟩) _ (k4i least most [])
 ·trivial
theorem kvl:textE.all klb:=kg2 (P:=fun l=>0≤l.length∧l.length≤64) (Q:=klb) (fun l hl=>by show klb _;exact ⟨rfl,by rw [show (Va.mk 3 0 (toBA l) []).text=toBA l from rfl,kgt];exact hl.2⟩) _ (k38 0 64)
theorem k3y:intE.all klb:=kg2 (P:=fun _=>True) (Q:=klb) (fun l hl=>by show klb _;exact ⟨rfl,qad _⟩) _ (klu _)
def lstV (v:Va):Prop:=v.items.length≤16∧v.text.size≤64∧∀ x∈v.items,klb x
theorem k4t {acc:List Va} (hI:InvR acc):(rowE acc).all fun v=>lstV v∧1≤v.items.length∧v.items.length≤8:=by
 have key:∀ least most:Nat,1≤least→most≤8→(rowG least most).all fun v=>lstV v∧1≤v.items.length∧v.items.length≤8:=fun least most h1 h2=>by
  unfold rowG;intro c;dsimp only
  split
  ·refine kg2 (fun l hl=>?_) _ (kqq (P:=klb) (I:=fun l=>∀ x∈l,klb x) (fun acc v ha hv x hx=>?_) (fun _ _=>kvl) most [] (by simp))
   ·obtain ⟨a1,a2,a3⟩:=hl
    simp only [qt,Nat.zero_add] at a3
    exact ⟨⟨by show l.length≤16;omega,qad _,a1⟩,by show 1≤l.length;omega,by show l.length≤8;omega⟩
   ·rcases qab.1 hx with hx | hx
    ·exact ha x hx
    ·rw [qak.1 hx];exact hv
  ·trivial
 cases acc with
 | nil=>exact key 1 8 (by omega) (by omega)
 | cons r l=>
  have:=hI r (qr ..)
  exact key _ _ this.1 this.2
def rvQ (x:Option (List Va)×Nat) (b:List Va×Bool×Int×Int):Prop:=b.2.1=x.1.isSome∧b.2.2.1=(x.2:Int)∧∀ l,x.1=some l→b.1=l
theorem k3m {acc:List Va} {v:Va} (h:InvR acc) (hv:1≤v.items.length∧v.items.length≤8):InvR (acc++[v]):=fun r hr=>by
 rcases qab.1 hr with hr | hr
 ·exact h r hr
 ·rw [qak.1 hr];exact hv
theorem k9a {acc:List Va} {v:Va} {b:Int} (h:∀ r∈acc,r.items.length=v.items.length) (hb:b=(v.items.length:Int)):b=(kj5 (acc++[v]):Int):=by
 cases acc with
 | nil=>rw [hb];rfl
 | cons r l=>rw [hb,← h r (qr ..)];rfl
def InvS (acc:List Va):Prop:=InvR acc∧∀ r∈acc,r.items.length=kj5 acc
theorem k9z {acc:List Va}:(rowE acc).all fun v=>acc≠[]→v.items.length=kj5 acc:=by
 have key:∀ least most:Nat,(rowG least most).all fun v=>least≤v.items.length∧v.items.length≤most:=fun least most=>by
  unfold rowG;intro c;dsimp only
  split
  ·refine kg2 (fun l hl=>?_) _ (kqq (P:=fun _=>True) (I:=fun _=>True) (fun _ _ _ _=>trivial) (fun _ _=>klu _) most [] trivial)
   exact ⟨hl.2.1,by have:=hl.2.2;rw [qt,Nat.zero_add] at this;exact this⟩
  ·trivial
 cases acc with
 | nil=>exact kki (fun v _ h=>absurd rfl h) _ (key 1 8)
 | cons r l=>exact kki (fun v hv _=>by show v.items.length=r.items.length;omega) _ (key r.items.length r.items.length)
theorem kyn {s:BA} {acc:List Va} {i j:Nat} {v:Va} (h:InvS acc) (he:(rowE acc).ev s i=(some v,j)):InvS (acc++[v])∧∀ r∈acc,r.items.length=v.items.length:=by
 have h1:=(kvx _ i (k4t h.1) (by rw [he])).2
 have h2:=kvx _ i (k9z (acc:=acc)) (by rw [he])
 refine ⟨⟨k3m h.1 h1,fun r hr=>?_⟩,fun r hr=>?_⟩
 ·cases acc with
  | nil=>simp at hr;rw [hr];rfl
  | cons q l=>
   show r.items.length=q.items.length
   rcases qab.1 hr with hr | hr
   ·exact h.2 r hr
   ·rw [qak.1 hr];exact h2 (by simp)
 ·rw [h.2 r hr,h2 (by rintro rfl;cases hr)]
theorem k9n {s:BA} (hs:s.size≤4000000) (i0:Int):∀ k (acc:List Va) (i n:Nat),acc.length+1+k=8→InvS acc→i≤s.size→k<n →
  ∃ b,kab (kd5 ⟨s,i0⟩ 62 8) n ((i:Int),(kj5 acc:Int),acc)=some b∧rvQ (((rowE acc).bind fun v=>kb4 62 0 rowE k (acc++[v])).ev s i) b:=by
 refine ksf (least:=0) (elem:=rowE) kpf (fun i acc=>((i:Int),(kj5 acc:Int),acc)) rvQ InvS (fun acc i v j h he=>(kyn h he).1) (kt7 kpf ?_)
 intro i acc hi hl hI
 obtain ⟨b,hb,q1,q2,q3⟩:=kain hs hI.1 hi
 have hle:=knx (s:=s) (kpf acc) hi
 refine ⟨fun j h=>?_,fun v j h=>?_⟩
 ·rw [h] at q1 q2
  refine ⟨([],false,(j:Int),b.2.2.1),?_,rfl,rfl,fun l h=>by cases h⟩
  simp only [kd5,hb,qa,q1,q2,Option.isSome_none,qam,qd]
 ·have hcols:=(kyn hI h).2
  rw [h] at q1 q2 q3 hle
  obtain ⟨r1,r2⟩:=q3 v rfl
  have hc':=k9a hcols r1
  have ha:=kfx (b:=56) (xs:=acc) (ys:=[v]) (by simp;omega)
  refine ⟨fun z => .inr (acc++[v],true,z,(kj5 (acc++[v]):Int)),fun z => .inr ([],false,z,(kj5 (acc++[v]):Int)),fun z => .inl (z,(kj5 (acc++[v]):Int),acc++[v]),Eq.trans ?_ (k0a hs hle.2 62 (by decide) 8 (acc++[v]) _ _ _),fun z=>⟨_,rfl,rfl,rfl,fun l h=>by cases h;rfl⟩,fun z=>⟨_,rfl,rfl,rfl,fun l h=>by cases h⟩,fun z=>rfl⟩
  simp only [kd5,hb,qa,q1,q2,hc',Option.isSome_some,qv,qb,← r2,ha]
  rfl
theorem kaee {s:BA} (hs:s.size≤4000000) {i:Nat} (hi:i≤s.size) (h91:atI s i=60):∃ b,kgj ⟨s,(i:Int)⟩ 60 62 8 0=some b∧rvQ ((kb4 62 0 rowE 8 []).ev s (i+1)) b:=by
 have hi':i+1≤s.size:=kfv (by omega)
 have ho:=kws hs hi 60 (by decide)
 rw [if_pos (by rw [h91];rfl)] at ho
 have ho':kan ⟨s,(i:Int)⟩ (Utf8.encode 60)=some (true,((i+1:Nat):Int)):=ho
 unfold kgj kb4
 simp only [ho',qa,qv,qb,kg9,Pr.ev]
 by_cases hc:atI s (i+1)=62
 ·rw [if_pos ⟨hc,qw _⟩,show (atI s (i+1) == 62)=true by rw [hc];rfl]
  exact ⟨_,rfl,rfl,w64s (i+1) (by omega),fun l h=>by cases h;rfl⟩
 ·rw [if_neg (fun h=>hc h.1),show (atI s (i+1) == 62)=false by simpa using hc,qb]
  obtain ⟨b,hb,hq⟩:=k9n hs i 7 [] (i+1) fuel rfl ⟨fun r h=>(by cases h),fun r h=>(by cases h)⟩ hi' (kdf (by omega))
  have hb':kab (kd5 ⟨s,(i:Int)⟩ 62 8) fuel (((i+1:Nat):Int),0,[])=some b:=hb
  rw [hb']
  refine ⟨b,rfl,?_⟩
  simpa [Pr.bind] using hq
def qQ {α:Type} (x:Option α×Nat) (r:α×Int×Bool):Prop:=r.2.1=(x.2:Int)∧r.2.2=x.1.isSome∧∀ u,x.1=some u→r.1=u
theorem kag0 {s:BA} (hs:s.size≤4000000) {j:Nat} (hj:j≤s.size):keb s (j:Int) (⟨#[44,32]⟩:BA)=some ((((kbp [44,32]).ev s j).2:Int),((kbp [44,32]).ev s j).1.isSome):=kxr hs (by decide) (by decide) hj
theorem kt3 {s:BA} (hs:s.size≤4000000) {r61:BA→Int→Int→Int→Option (Va×Int×Bool)} {a2 e:Int} {least most:Nat} (hm:most≤16) {elem:List Va→Pr Va} (hg:∀ l,(elem l).good false) (Inv:List Va→Prop)
  (hi:∀ acc i v j,Inv acc→(elem acc).ev s i=(some v,j)→Inv (acc++[v]))
  (hel:∀ i acc,i≤s.size→Inv acc→∃ r,r61 s (i:Int) a2 (kj5 acc:Int)=some r∧qQ ((elem acc).ev s i) r):
  ∀ k acc i n,acc.length+k=most→Inv acc→i≤s.size→k<n→∃ r,kab (kbe s a2 (least:Int) (most:Int) e r61) n ((i:Int),acc)=some r∧qQ ((kb4 e least elem k acc).ev s i) r:=by
 intro k
 induction k with
 | zero=>
  intro acc i n hk hI hi' hn
  obtain ⟨n,rfl⟩:∃ m,n=m+1:=⟨n - 1,by omega⟩
  have e4:(bif (atI s i == e) then (some (decide ((least:Int)≤(List.length acc:Int)))) else (some (false)):Option Bool)=some (decide (atI s i=e∧least≤acc.length)):=by
   by_cases h:atI s i=e
   ·rw [show (atI s i == e)=true by simpa using h,qd];congr 1;simp [h]
   ·rw [show (atI s i == e)=false by simpa using h,qb,qc (fun h'=>h h'.1)]
  have e3:((acc.length:Int) == (most:Int))=true:=by simp;omega
  unfold kb4
  simp only [Pr.ev]
  by_cases hc:atI s i=e∧least≤acc.length
  ·rw [if_pos hc]
   refine ⟨(acc,((i+1:Nat):Int),true),kbv ?_,rfl,rfl,fun u h=>by cases h;rfl⟩
   simp only [kbe,kfu,qa,e4,qe hc,qd,w64s i (by omega)]
  ·rw [if_neg hc]
   refine ⟨([],(i:Int),false),kbv ?_,rfl,rfl,fun u h=>by cases h⟩
   simp only [kbe,kfu,qa,e4,qc hc,qb,e3,qd]
 | succ k ih=>
  intro acc i n hk hI hi' hn
  obtain ⟨n,rfl⟩:∃ m,n=m+1:=⟨n - 1,by omega⟩
  have e4:(bif (atI s i == e) then (some (decide ((least:Int)≤(List.length acc:Int)))) else (some (false)):Option Bool)=some (decide (atI s i=e∧least≤acc.length)):=by
   by_cases h:atI s i=e
   ·rw [show (atI s i == e)=true by simpa using h,qd];congr 1;simp [h]
   ·rw [show (atI s i == e)=false by simpa using h,qb,qc (fun h'=>h h'.1)]
  have e3:((acc.length:Int) == (most:Int))=false:=by simp;omega
  unfold kb4
  simp only [Pr.ev]
  by_cases hc:atI s i=e∧least≤acc.length
  ·rw [if_pos hc]
   refine ⟨(acc,((i+1:Nat):Int),true),kbv ?_,rfl,rfl,fun u h=>by cases h;rfl⟩
   simp only [kbe,kfu,qa,e4,qe hc,qd,w64s i (by omega)]
  ·rw [if_neg hc]
   -- behind the separator
   have key:∀ j:Nat,j≤s.size→(Option.bind ((bif (decide (0<(List.length acc:Int))) then (Option.bind (idx acc 0) fun v8=>(some ((List.length v8.items:Int)))) else (some (0))):Option ((Int))) fun (v10:(Int))=>(Option.bind (r61 s (j:Int) a2 v10) fun v11=>(bif (!v11.2.2) then (some (.inr (([]:List Va),v11.2.1,false))) else (Option.bind (app 56 acc ([v11.1]:List (Va))) fun v12=>(some (.inl (v11.2.1,v12))))))) =
     kbe s a2 (least:Int) (most:Int) e r61 ((i:Int),acc)→∃ r,kab (kbe s a2 (least:Int) (most:Int) e r61) (n+1) ((i:Int),acc)=some r∧qQ (((elem acc).bind fun v=>kb4 e least elem k (acc++[v])).ev s j) r:=by
    intro j hj hst
    obtain ⟨r,hr,q1,q2,q3⟩:=hel j acc hj hI
    have hcols:(bif (decide (0<(List.length acc:Int))) then (Option.bind (idx acc 0) fun v8=>(some ((List.length v8.items:Int)))) else (some (0)):Option Int)=some (kj5 acc:Int):=by
     cases acc with
     | nil=>rfl
     | cons r l=>rw [show decide (0<((r::l).length:Int))=true from qe (by simp)];rfl
    rw [hcols,qa,hr,qa,q1,q2] at hst
    rw [kf4]
    have hle:=knx (s:=s) (hg acc) hj
    rcases hx:(elem acc).ev s j with ⟨_ | v,j'⟩
    ·rw [hx] at hst
     exact ⟨([],(j':Int),false),kbv (by rw [← hst];rfl),rfl,rfl,fun u h=>by cases h⟩
    ·rw [hx] at hst q3 hle
     rw [q3 v rfl,kfx (b:=56) (xs:=acc) (ys:=[v]) (by simp;omega)] at hst
     rw [kgw hst.symm]
     exact ih (acc++[v]) j' n (by simp;omega) (hi acc j v j' hI hx) hle.2 (by omega)
   cases acc with
   | nil=>
    rw [if_pos (show ([]:List Va).length=0 from rfl)]
    refine key i hi' ?_
    simp only [kbe,kfu,qa,e4,qc hc,qb,e3]
    rfl
   | cons r l=>
    rw [if_neg (by simp),kf4]
    have d0:decide (0<((r::l).length:Int))=true:=qe (by simp)
    have hle2:=knx (s:=s) (kl1 (w:=[44,32]) (by decide)) hi'
    have hw:=kag0 hs hi'
    rcases hy:(kbp [44,32]).ev s i with ⟨_ | u,j⟩
    ·rw [hy] at hw
     refine ⟨([],(j:Int),false),kbv ?_,rfl,rfl,fun u h=>by cases h⟩
     simp only [kbe,kfu,qa,e4,qc hc,qb,e3,d0,qd,hw,Option.isSome_none,qam,qh]
    ·rw [hy] at hw hle2
     refine key j hle2.2 ?_
     simp only [kbe,kfu,qa,e4,qc hc,qb,e3,d0,qd,hw,Option.isSome_some,qv,qf]
theorem kajh {s:BA} (hs:s.size≤4000000) (n:Nat) (c:Int) {i:Nat} (hi:i≤s.size):∃ r,kap (n+1) s (i:Int) 2 c=some r∧qQ (intE.ev s i) r:=by
 obtain ⟨v,h1,h2⟩:=kzw hs hi
 refine ⟨(v,((numP.ev s i).2:Int),(numP.ev s i).1.isSome),?_,?_⟩
 ·show kbw (kap n) (kbu n) s (i:Int) 2 c=_
  simp only [kbw,h1,show ((2:Int) == 2)=true from rfl,qd,qa]
 ·rw [kwu]
  refine ⟨rfl,by cases (numP.ev s i).1 <;> rfl,fun u h=>?_⟩
  obtain ⟨m,hm,rfl⟩:=qi.1 h
  exact h2 m hm
theorem kaaw {s:BA} (hs:s.size≤4000000) (n:Nat) (c:Int) {i:Nat} (hi:i≤s.size):∃ r,kap (n+1) s (i:Int) 3 c=some r∧qQ (textE.ev s i) r:=by
 have h1:kdn s (i:Int) 0 64 false=some (qOut ((keq 0 64).ev s i)):=k04 (least:=0) (most:=64) hs (by decide) hi
 refine ⟨(Va.mk 3 0 (qOut ((keq 0 64).ev s i)).1 [],(((keq 0 64).ev s i).2:Int),((keq 0 64).ev s i).1.isSome),?_,?_⟩
 ·show kbw (kap n) (kbu n) s (i:Int) 3 c=_
  simp only [kbw,h1,show ((3:Int) == 2)=false from rfl,show ((3:Int) == 3)=true from rfl,qd,qb,qa,qOut]
 ·rw [kt2]
  refine ⟨rfl,by cases ((keq 0 64).ev s i).1 <;> rfl,fun u h=>?_⟩
  obtain ⟨m,hm,rfl⟩:=qi.1 h
  simp only [qOut,hm,Option.elim_some]
theorem kai3 {s:BA} (hs:s.size≤4000000) (n:Nat) {i:Nat} (hi:i≤s.size):∃ r,kbu (n+2) s (i:Int) 2 0 16 93=some r∧qQ ((kb4 93 0 (fun _=>intE) 16 []).ev s i) r:=by
 obtain ⟨r,h1,h2⟩:=kt3 hs (r61:=kap (n+1)) (a2:=2) (e:=93) (least:=0) (most:=16) (by omega) (elem:=fun _=>intE) (fun _=>knb) (fun _=>True) (fun _ _ _ _ _ _=>trivial) (fun i acc hi _=>kajh hs n _ hi) 16 [] i fuel rfl trivial hi (kdf (by omega))
 have h1':kab (kbe s 2 0 16 93 (kap (n+1))) fuel ((i:Int),[])=some r:=h1
 refine ⟨r,?_,h2⟩
 show kcr (kap (n+1)) (kbu (n+1)) s (i:Int) 2 0 16 93=_
 simp only [kcr,h1',qa]
theorem kah9 {s:BA} (hs:s.size≤4000000) (n least most:Nat) (hm:most≤16) {i:Nat} (hi:i≤s.size):∃ r,kbu (n+2) s (i:Int) 3 (least:Int) (most:Int) 125=some r∧qQ ((kb4 125 least (fun _=>textE) most []).ev s i) r:=by
 obtain ⟨r,h1,h2⟩:=kt3 hs (r61:=kap (n+1)) (a2:=3) (e:=125) (least:=least) (most:=most) hm (elem:=fun _=>textE) (fun _=>kkk) (fun _=>True) (fun _ _ _ _ _ _=>trivial) (fun i acc hi _=>kaaw hs n _ hi) most [] i fuel (by simp) trivial hi (kdf (by omega))
 refine ⟨r,?_,h2⟩
 show kcr (kap (n+1)) (kbu (n+1)) s (i:Int) 3 (least:Int) (most:Int) 125=_
 simp only [kcr,h1,qa]
theorem k0m {s:BA} (hs:s.size≤4000000) (n:Nat) (c:Int) (least most:Nat) (hm:most≤16) {i:Nat} (hi:i≤s.size)
  (hc:(Option.bind ((bif (c == 0) then (some (1,8)) else (some (0,16))):Option ((Int)×(Int))) fun (v5:(Int)×(Int))=>((bif (decide (0<c)) then (some (c,c)) else (some (v5.1,v5.2))):Option ((Int)×(Int))))=some ((least:Int),(most:Int))):
  ∃ r,kap (n+3) s (i:Int) 6 c=some r∧qQ ((rowG least most).ev s i) r:=by
 have hdef:kap (n+3) s (i:Int) 6 c=kbw (kap (n+2)) (kbu (n+2)) s (i:Int) 6 c:=rfl
 rw [hdef]
 unfold rowG
 simp only [Pr.ev]
 by_cases h:atI s i=123
 ·rw [if_pos h]
  have hi':i+1≤s.size:=kfv (by omega)
  obtain ⟨r,h1,q1,q2,q3⟩:=kah9 hs n least most hm hi'
  simp only [Pr.ev,kf4]
  refine ⟨(Va.mk 6 0 ⟨#[]⟩ r.1,r.2.1,r.2.2),?_,?_⟩
  ·obtain ⟨p,hp1,hp2⟩:∃ p,(bif (c == 0) then (some (1,8)) else (some (0,16)):Option ((Int)×(Int)))=some p∧(bif (decide (0<c)) then (some (c,c)) else (some (p.1,p.2)):Option ((Int)×(Int)))=some ((least:Int),(most:Int)):=by
    cases hz:(c == 0) with
    | true=>rw [hz] at hc;exact ⟨_,rfl,hc⟩
    | false=>rw [hz] at hc;exact ⟨_,rfl,hc⟩
   have e1:(atI s i != 123)=false:=by rw [h];rfl
   simp only [kbw,kfu,show ((6:Int) == 2)=false from rfl,show ((6:Int) == 3)=false from rfl,qb,qa,e1,hp1,hp2,w64s i (by omega),h1]
  ·generalize (kb4 125 least (fun _=>textE) most []).ev s (i+1)=y at q1 q2 q3 ⊢
   obtain ⟨_ | l,j⟩:=y
   ·exact ⟨q1,q2,fun u h=>by cases h⟩
   ·exact ⟨q1,q2,fun u h=>by cases h;show Va.mk 6 0 ⟨#[]⟩ r.1=_;rw [q3 l rfl]⟩
 ·rw [if_neg h]
  have e1:(atI s i != 123)=true:=by simpa using h
  refine ⟨(Va.mk 0 0 ⟨#[]⟩ [],(i:Int),false),?_,rfl,rfl,fun u h=>by cases h⟩
  ·simp only [kbw,kfu,show ((6:Int) == 2)=false from rfl,show ((6:Int) == 3)=false from rfl,qb,qa,e1,qd]
theorem kai4 {s:BA} (hs:s.size≤4000000) (n:Nat) {acc:List Va} (hI:InvR acc) {i:Nat} (hi:i≤s.size):∃ r,kap (n+3) s (i:Int) 6 (kj5 acc:Int)=some r∧qQ ((rowE acc).ev s i) r:=by
 cases acc with
 | nil=>exact k0m hs n _ 1 8 (by omega) hi rfl
 | cons r l=>
  have:=hI r (qr ..)
  refine k0m hs n _ r.items.length r.items.length (by omega) hi ?_
  rw [show kj5 (r::l)=r.items.length from rfl,show ((r.items.length:Int) == 0)=false by simp;intro h;rw [h] at this;simp at this,show decide (0<(r.items.length:Int))=true from qe (by omega)]
  rfl
theorem kaja {s:BA} (hs:s.size≤4000000) (n:Nat) {i:Nat} (hi:i≤s.size):∃ r,kbu (n+4) s (i:Int) 6 0 8 62=some r∧qQ ((kb4 62 0 rowE 8 []).ev s i) r:=by
 obtain ⟨r,h1,h2⟩:=kt3 hs (r61:=kap (n+3)) (a2:=6) (e:=62) (least:=0) (most:=8) (by omega) (elem:=rowE) kpf InvS (fun acc i v j h he=>(kyn h he).1) (fun i acc hi hI=>kai4 hs n hI.1 hi) 8 [] i fuel rfl ⟨fun r h=>(by cases h),fun r h=>(by cases h)⟩ hi (kdf (by omega))
 have h1':kab (kbe s 6 0 8 62 (kap (n+3))) fuel ((i:Int),[])=some r:=h1
 refine ⟨r,?_,h2⟩
 show kcr (kap (n+3)) (kbu (n+3)) s (i:Int) 6 0 8 62=_
 simp only [kcr,h1',qa]
theorem fuel4:∃ n,fuel=n+4:=⟨18446744073709551612,rfl⟩
theorem kj9 {α β:Type} (s:BA) (f:α→β) (p:Pr α) (i:Nat):(p.bind fun a => .done (f a)).ev s i=((p.ev s i).1.map f,(p.ev s i).2):=by
 rw [kf4]
 rcases p.ev s i with ⟨_ | a,j⟩ <;> rfl
theorem kaib {s:BA} (hs:s.size≤4000000) {i:Nat} (hi:i≤s.size):∃ r,kgq s (i:Int)=some r∧qQ (oneP.ev s i) r:=by
 obtain ⟨n,hn⟩:=fuel4
 unfold oneP kgq
 rw [hn,kfu,qa]
 simp only [Pr.ev]
 by_cases h1:atI s i=116
 ·rw [if_pos h1,show (atI s i == 116)=true by rw [h1];rfl,qd,kj9,kxr hs (w:=⟨#[116,114,117,101]⟩) (by decide) (by decide) hi,show wl (⟨#[116,114,117,101]⟩:BA)=[116,114,117,101] from rfl]
  exact ⟨_,rfl,rfl,by cases ((kbp [116,114,117,101]).ev s i).1 <;> rfl,fun u h=>by obtain ⟨a,_,rfl⟩:=qi.1 h;rfl⟩
 rw [if_neg h1,show (atI s i == 116)=false by simpa using h1,qb]
 by_cases h1:atI s i=102
 ·rw [if_pos h1,show (atI s i == 102)=true by rw [h1];rfl,qd,kj9,kxr hs (w:=⟨#[102,97,108,115,101]⟩) (by decide) (by decide) hi,show wl (⟨#[102,97,108,115,101]⟩:BA)=[102,97,108,115,101] from rfl]
  exact ⟨_,rfl,rfl,by cases ((kbp [102,97,108,115,101]).ev s i).1 <;> rfl,fun u h=>by obtain ⟨a,_,rfl⟩:=qi.1 h;rfl⟩
 rw [if_neg h1,show (atI s i == 102)=false by simpa using h1,qb]
 by_cases h1:atI s i=34
 ·rw [if_pos h1,show (atI s i == 34)=true by rw [h1];rfl,qd]
  obtain ⟨r,hr,hq⟩:=kaaw hs (n+3) 0 hi
  exact ⟨r,by rw [hr];rfl,hq⟩
 rw [if_neg h1,show (atI s i == 34)=false by simpa using h1,qb]
 by_cases h1:atI s i=114
 ·have hi':i+1≤s.size:=kfv (by omega)
  have hq:kdn s ((i+1:Nat):Int) 1 40 false=some (qOut ((keq 1 40).ev s (i+1))):=k04 (least:=1) (most:=40) hs (by decide) hi'
  rw [if_pos h1,show (atI s i == 114)=true by rw [h1];rfl,qd,w64s i (by omega),hq]
  simp only [Pr.ev,kj9]
  refine ⟨_,rfl,rfl,?_,fun u h=>?_⟩
  ·show ((keq 1 40).ev s (i+1)).1.isSome=_
   cases ((keq 1 40).ev s (i+1)).1 <;> rfl
  ·obtain ⟨m,hm,rfl⟩:=qi.1 h
   simp only [qOut,hm,Option.elim_some]
 rw [if_neg h1,show (atI s i == 114)=false by simpa using h1,qb]
 by_cases h1:atI s i=91
 ·have hi':i+1≤s.size:=kfv (by omega)
  obtain ⟨r,hr,q1,q2,q3⟩:=kai3 hs (n+2) hi'
  rw [if_pos h1,show (atI s i == 91)=true by rw [h1];rfl,qd,w64s i (by omega),hr]
  simp only [Pr.ev,kj9]
  refine ⟨_,rfl,q1,?_,fun u h=>?_⟩
  ·show r.2.2=_
   rw [q2]
   cases ((kb4 93 0 (fun _=>intE) 16 []).ev s (i+1)).1 <;> rfl
  ·obtain ⟨m,hm,rfl⟩:=qi.1 h
   show Va.mk 5 0 ⟨#[]⟩ r.1=_
   rw [q3 m hm]
 rw [if_neg h1,show (atI s i == 91)=false by simpa using h1,qb]
 by_cases h1:atI s i=123
 ·have hi':i+1≤s.size:=kfv (by omega)
  obtain ⟨r,hr,hq⟩:=k0m hs (n+1) (-1) 0 16 (by omega) hi rfl
  rw [if_pos h1,show (atI s i == 123)=true by rw [h1];rfl,qd,hr]
  refine ⟨r,rfl,?_⟩
  unfold rowG at hq
  simp only [Pr.ev] at hq ⊢
  rw [if_pos h1] at hq
  exact hq
 rw [if_neg h1,show (atI s i == 123)=false by simpa using h1,qb]
 by_cases h1:atI s i=60
 ·have hi':i+1≤s.size:=kfv (by omega)
  obtain ⟨r,hr,q1,q2,q3⟩:=kaja hs n hi'
  rw [if_pos h1,show (atI s i == 60)=true by rw [h1];rfl,qd,w64s i (by omega),hr]
  simp only [Pr.ev,kj9]
  refine ⟨_,rfl,q1,?_,fun u h=>?_⟩
  ·show r.2.2=_
   rw [q2]
   cases ((kb4 62 0 rowE 8 []).ev s (i+1)).1 <;> rfl
  ·obtain ⟨m,hm,rfl⟩:=qi.1 h
   show Va.mk 7 0 ⟨#[]⟩ r.1=_
   rw [q3 m hm]
 rw [if_neg h1,show (atI s i == 60)=false by simpa using h1,qb,qa]
 obtain ⟨v,hv,hm⟩:=kzw hs hi
 by_cases h2:atI s i=48
 ·have hi':i+1≤s.size:=kfv (by omega)
  rw [if_pos h2,show (atI s i != 48)=false by rw [h2];rfl,qb,w64s i (by omega),kfu,qa]
  simp only [Pr.ev]
  by_cases h3:atI s (i+1)=120
  ·have hi2:i+2≤s.size:=kfv (i:=i+1) (by omega)
   have ew2:w64 ((i:Int)+2)=((i+2:Nat):Int):=kcd (by omega) (by omega)
   have ew3:w64 ((i:Int)+3)=((i+3:Nat):Int):=kcd (by omega) (by omega)
   have ew4:w64 ((i:Int)+4)=((i+4:Nat):Int):=kcd (by omega) (by omega)
   rw [if_pos h3,show (atI s (i+1) != 120)=false by rw [h3];rfl]
   simp only [qa,qb,ew2,ew3,ew4,kfu,(kzr s (i+2)).2,(kzr s (i+3)).2,Pr.ev,kj9]
   unfold bitsP
   simp only [Pr.ev,show i+1+1=i+2 from rfl]
   by_cases h4:hexV (atI s (i+2))<0
   ·rw [if_pos h4,qe h4]
    exact ⟨_,rfl,rfl,rfl,fun u h=>by cases h⟩
   ·rw [if_neg h4,qc h4]
    simp only [Pr.ev,qb,show i+2+1=i+3 from rfl]
    by_cases h5:hexV (atI s (i+3))<0
    ·rw [if_pos h5,qe h5]
     exact ⟨_,rfl,rfl,rfl,fun u h=>by cases h⟩
    ·rw [if_neg h5,qc h5]
     have x2:hexV (atI s (i+2))≤15:=by unfold hexV;split <;> (try split) <;> omega
     have x3:hexV (atI s (i+3))≤15:=by unfold hexV;split <;> (try split) <;> omega
     have w1:w64 (hexV (atI s (i+2))*16)=hexV (atI s (i+2))*16:=kcd (by omega) (by omega)
     have w2:w64 (hexV (atI s (i+2))*16+hexV (atI s (i+3)))=hexV (atI s (i+2))*16+hexV (atI s (i+3)):=kcd (by omega) (by omega)
     rw [w1,w2]
     exact ⟨_,rfl,rfl,rfl,fun u h=>by cases h;rfl⟩
  ·rw [if_neg h3,show (atI s (i+1) != 120)=true by simpa using h3,qa,qd,hv]
   have hx:numP.ev s i=(some 0,i+1):=by
    unfold numP unsP
    simp only [Pr.ev,h2]
    rw [if_neg (by decide)]
    simp only [Pr.ev,h2]
    rw [if_neg (by simp)]
    simp only [Pr.ev,kf4,show (48:Int) - 48=0 from rfl,kwb]
    rfl
   rw [hx] at hm ⊢
   exact ⟨_,rfl,rfl,rfl,fun u h=>by cases h;exact hm 0 rfl⟩
 ·rw [if_neg h2,show (atI s i != 48)=true by simpa using h2,qd,qa,qd,hv]
  rw [kwu]
  refine ⟨_,rfl,rfl,?_,fun u h=>?_⟩
  ·show (numP.ev s i).1.isSome=_
   cases (numP.ev s i).1 <;> rfl
  ·obtain ⟨m,hm',rfl⟩:=qi.1 h
   exact hm m hm'
def vQ (x:Option Va×Nat) (b:Bool×Int×Int×Int×BA×List Va):Prop:=b.1=x.1.isSome∧b.2.1=(x.2:Int)∧∀ u,x.1=some u→Va.mk b.2.2.1 b.2.2.2.1 b.2.2.2.2.1 b.2.2.2.2.2=u
theorem kagr (c:UInt8):((⟨#[48,c]⟩:BA).toList == (⟨#[48,120]⟩:BA).toList)=decide ((c.toNat:Int)=120):=by
 by_cases h:c=120
 ·subst h;rw [qe (by rfl)];simp
 ·rw [qc,qq]
  ·intro h'
   have h2:=kkp h'
   injection h2 with h3
   have h4:=congrArg Array.toList h3
   simp at h4
   exact h h4
  ·intro h'
   apply h
   apply UInt8.toNat.inj
   show c.toNat=120
   omega
theorem kaa2 {s:BA} (hs:s.size≤4000000) {i:Nat} (hi:i<s.size) (h48:atI s i=48):∃ r,cutS s (i:Int) (s.size:Int)=some r∧kge r (⟨#[48,120]⟩:BA)=some (decide (atI s (i+1)=120)):=by
 have hd:(s.extract i s.size).data.toList=s.data.toList.drop i:=by
  rw [kqr,List.take_of_length_le (by rw [← kar];exact qw _)]
 generalize hr:s.extract i s.size=r at hd
 refine ⟨r,by unfold cutS;rw [if_pos ⟨by omega,by omega,by omega⟩,← hr];rfl,?_⟩
 have hsz:r.size=s.size - i:=by rw [kar,hd,qar,← kar]
 have h2sz:(⟨#[48,120]⟩:BA).size=2:=rfl
 unfold kge kfn
 rw [h2sz]
 by_cases h2:i+2≤s.size
 ·have d1:decide (((2:Nat):Int)≤(r.size:Int))=true:=qe (by omega)
  obtain ⟨b1,b2,b3⟩:=khh hi
  obtain ⟨c1,c2,c3⟩:=khh (s:=s) (i:=i+1) (by omega)
  generalize s.data.toList[i]'(by rw [← kar];exact hi)=x at b2 b3
  generalize s.data.toList[i+1]'(by rw [← kar];omega)=y at c2 c3
  have hx:x=48:=UInt8.toNat.inj (by show x.toNat=48;omega)
  have hc:cutS r 0 ((2:Nat):Int)=some ⟨#[48,y]⟩:=by
   unfold cutS
   rw [if_pos ⟨by omega,by omega,by omega⟩]
   congr 1
   apply ks2
   rw [show ((0:Int).toNat)=0 from rfl,show (((2:Nat):Int).toNat)=2 from rfl,kqr,hd,b2,c2,hx]
   rfl
  rw [d1,qd,hc,qa,kagr,qa,qa,c3]
 ·have d1:decide (((2:Nat):Int)≤(r.size:Int))=false:=qc (by omega)
  rw [d1,qb,qa,qa,qc]
  rw [krp (by omega)]
  decide
theorem kad7 {s:BA} (hs:s.size≤4000000) {i:Nat} (hi:i≤s.size):∃ b,kfb ⟨s,(i:Int)⟩=some b∧vQ (oneP.ev s i) b:=by
 unfold oneP kfb
 rw [kg9,qa]
 simp only [Pr.ev]
 by_cases h1:atI s i=116
 ·rw [if_pos h1,show (atI s i == 116)=true by rw [h1];rfl,qd,kj9,ks5 hs (w:=⟨#[116,114,117,101]⟩) (by decide) (by decide) hi,show wl (⟨#[116,114,117,101]⟩:BA)=[116,114,117,101] from rfl]
  exact ⟨_,rfl,by cases ((kbp [116,114,117,101]).ev s i).1 <;> rfl,rfl,fun u h=>by obtain ⟨a,_,rfl⟩:=qi.1 h;rfl⟩
 rw [if_neg h1,show (atI s i == 116)=false by simpa using h1,qb]
 by_cases h1:atI s i=102
 ·rw [if_pos h1,show (atI s i == 102)=true by rw [h1];rfl,qd,kj9,ks5 hs (w:=⟨#[102,97,108,115,101]⟩) (by decide) (by decide) hi,show wl (⟨#[102,97,108,115,101]⟩:BA)=[102,97,108,115,101] from rfl]
  exact ⟨_,rfl,by cases ((kbp [102,97,108,115,101]).ev s i).1 <;> rfl,rfl,fun u h=>by obtain ⟨a,_,rfl⟩:=qi.1 h;rfl⟩
 rw [if_neg h1,show (atI s i == 102)=false by simpa using h1,qb]
 by_cases h1:atI s i=34
 ·have hq:kb2 ⟨s,(i:Int)⟩ 0 64=some (tOut ((keq 0 64).ev s i)):=kwq (least:=0) (most:=64) hs (by decide) hi
  rw [if_pos h1,show (atI s i == 34)=true by rw [h1];rfl,qd,hq,kt2]
  refine ⟨_,rfl,by show ((keq 0 64).ev s i).1.isSome=_;cases ((keq 0 64).ev s i).1 <;> rfl,rfl,fun u h=>?_⟩
  obtain ⟨m,hm,rfl⟩:=qi.1 h
  simp only [tOut,hm,Option.elim_some]
 rw [if_neg h1,show (atI s i == 34)=false by simpa using h1,qb]
 by_cases h1:atI s i=114
 ·have hi':i+1≤s.size:=kfv (by omega)
  have hq:kb2 ⟨s,((i+1:Nat):Int)⟩ 1 40=some (tOut ((keq 1 40).ev s (i+1))):=kwq (least:=1) (most:=40) hs (by decide) hi'
  rw [if_pos h1,show (atI s i == 114)=true by rw [h1];rfl,qd,w64s i (by omega),hq]
  simp only [Pr.ev,kj9]
  refine ⟨_,rfl,by show ((keq 1 40).ev s (i+1)).1.isSome=_;cases ((keq 1 40).ev s (i+1)).1 <;> rfl,rfl,fun u h=>?_⟩
  obtain ⟨m,hm,rfl⟩:=qi.1 h
  simp only [tOut,hm,Option.elim_some]
 rw [if_neg h1,show (atI s i == 114)=false by simpa using h1,qb]
 by_cases h1:atI s i=91
 ·obtain ⟨r,hr,q1,q2,q3⟩:=kagd hs hi h1
  rw [if_pos h1,show (atI s i == 91)=true by rw [h1];rfl,qd,hr]
  simp only [Pr.ev,kj9]
  refine ⟨_,rfl,?_,q2,fun u h=>?_⟩
  ·show r.2.1=_
   rw [q1]
   cases ((kb4 93 0 (fun _=>intE) 16 []).ev s (i+1)).1 <;> rfl
  ·obtain ⟨m,hm,rfl⟩:=qi.1 h
   show Va.mk 5 0 ⟨#[]⟩ r.1=_
   rw [q3 m hm]
 rw [if_neg h1,show (atI s i == 91)=false by simpa using h1,qb]
 by_cases h1:atI s i=123
 ·obtain ⟨r,hr,q1,q2,q3⟩:=kac1 hs hi h1
  rw [if_pos h1,show (atI s i == 123)=true by rw [h1];rfl,qd,hr]
  simp only [Pr.ev,kj9]
  refine ⟨_,rfl,?_,q2,fun u h=>?_⟩
  ·show r.2.1=_
   rw [q1]
   cases ((kb4 125 0 (fun _=>textE) 16 []).ev s (i+1)).1 <;> rfl
  ·obtain ⟨m,hm,rfl⟩:=qi.1 h
   show Va.mk 6 0 ⟨#[]⟩ r.1=_
   rw [q3 m hm]
 rw [if_neg h1,show (atI s i == 123)=false by simpa using h1,qb]
 by_cases h1:atI s i=60
 ·obtain ⟨r,hr,q1,q2,q3⟩:=kaee hs hi h1
  rw [if_pos h1,show (atI s i == 60)=true by rw [h1];rfl,qd,kih,qa,hr]
  simp only [Pr.ev,kj9]
  refine ⟨_,rfl,?_,q2,fun u h=>?_⟩
  ·show r.2.1=_
   rw [q1]
   cases ((kb4 62 0 rowE 8 []).ev s (i+1)).1 <;> rfl
  ·obtain ⟨m,hm,rfl⟩:=qi.1 h
   show Va.mk 7 0 ⟨#[]⟩ r.1=_
   rw [q3 m hm]
 rw [if_neg h1,show (atI s i == 60)=false by simpa using h1,qb]
 have hv:=k1q hs hi
 by_cases h2:atI s i=48
 ·have hi':i+1≤s.size:=kfv (by omega)
  obtain ⟨r,hr,hp⟩:=kaa2 hs hi' h2
  rw [if_pos h2,show (atI s i == 48)=true by rw [h2];rfl,qd,hr,qa,hp,qa]
  simp only [Pr.ev]
  by_cases h3:atI s (i+1)=120
  ·have hi2:i+2≤s.size:=kfv (i:=i+1) (by omega)
   rw [if_pos h3,qe h3,kagj hs hi2]
   simp only [Pr.ev,kj9,show i+1+1=i+2 from rfl]
   refine ⟨_,rfl,by show (bitsP.ev s (i+2)).1.isSome=_;cases (bitsP.ev s (i+2)).1 <;> rfl,rfl,fun u h=>?_⟩
   obtain ⟨m,hm,rfl⟩:=qi.1 h
   simp only [hm,Option.elim_some,qap]
  ·rw [if_neg h3,qc h3,qb,qa,qf,hv]
   have hx:numP.ev s i=(some 0,i+1):=by
    unfold numP unsP
    simp only [Pr.ev,h2]
    rw [if_neg (by decide)]
    simp only [Pr.ev,h2]
    rw [if_neg (by simp)]
    simp only [Pr.ev,kf4,show (48:Int) - 48=0 from rfl,kwb]
    rfl
   rw [hx]
   exact ⟨_,rfl,rfl,rfl,fun u h=>by cases h;rfl⟩
 ·rw [if_neg h2,show (atI s i == 48)=false by simpa using h2,qb,qa,qf,hv,kwu]
  refine ⟨_,rfl,by show (numP.ev s i).1.isSome=_;cases (numP.ev s i).1 <;> rfl,rfl,fun u h=>?_⟩
  obtain ⟨m,hm',rfl⟩:=qi.1 h
  simp only [nOut,hm',qap]
def prV (s:BA):Va×Int×Int:=match oneP.ev s 0 with
 | (some v,j)=>if j<s.size then (Va.mk 0 0 ⟨#[]⟩ [],(j:Int),8) else (v,0,0)
 | (none,j)=>(Va.mk 0 0 ⟨#[]⟩ [],(j:Int),8)
theorem kacg {s:BA} (hs:s.size≤4000000):kha s=some (prV s):=by
 obtain ⟨b,hb,q1,q2,q3⟩:=kad7 hs (qad s.size)
 have hb':kfb ⟨s,0⟩=some b:=hb
 unfold kha prV
 rw [hb',qa,q1,q2]
 generalize oneP.ev s 0=x at q1 q2 q3 ⊢
 obtain ⟨_ | v,j⟩:=x
 ·rfl
 ·simp only [Option.isSome_some,qv,qb,qa]
  by_cases h:j<s.size
  ·rw [if_pos h,kb6 h];rfl
  ·rw [if_neg h,qc (show ¬ ((j:Int)<(s.size:Int)) by omega),qb,q3 v rfl]
theorem kabp {s:BA} (hs:s.size≤4000000):kg3 s=some (prV s):=by
 obtain ⟨b,hb,q1,q2,q3⟩:=kaib hs (qad s.size)
 have hb':kgq s 0=some b:=hb
 unfold kg3 prV
 rw [hb',qa,q1,q2]
 generalize oneP.ev s 0=x at q1 q2 q3 ⊢
 obtain ⟨_ | v,j⟩:=x
 ·rfl
 ·simp only [Option.isSome_some,qv,qb,qa]
  by_cases h:j<s.size
  ·rw [if_pos h,kb6 h];rfl
  ·rw [if_neg h,qc (show ¬ ((j:Int)<(s.size:Int)) by omega),qb,q3 v rfl]
theorem kww {v:Va} (h:klb v):depV v≤1∧kip 9223372036854775807 v:=by
 obtain ⟨t,n,s,l⟩:=v
 obtain rfl:l=[]:=h.1
 exact ⟨km4 fun y hy=>(by cases hy),by simp [kip,kte]⟩
theorem k5x {v:Va} (h1:v.items.length≤9223372036854775807) (h2:∀ x∈v.items,kip 9223372036854775807 x):kip 9223372036854775807 v:=by
 obtain ⟨t,n,s,l⟩:=v
 have gen:∀ l:List Va,(∀ x∈l,kip 9223372036854775807 x)→kte 9223372036854775807 l:=fun l=>by
  induction l with
  | nil=>exact fun _=>trivial
  | cons y l ih=>exact fun h=>⟨h y (qr ..),ih fun z hz=>h z (ql _ hz)⟩
 exact ⟨h1,gen l h2⟩
theorem kz7 {v:Va} (h:lstV v):depV v≤2∧kip 9223372036854775807 v:=⟨km4 fun y hy=>(kww (h.2.2 y hy)).1,k5x (by have:=h.1;omega) fun x hx=>(kww (h.2.2 x hx)).2⟩
theorem kagg:oneP.all okV:=by
 have lf:∀ v,klb v→okV v:=fun v h=>⟨by have:=(kww h).1;omega,(kww h).2⟩
 have ls:∀ v,lstV v→okV v:=fun v h=>⟨by have:=(kz7 h).1;omega,(kz7 h).2⟩
 have leaf0:∀ t n,okV (Va.mk t n ⟨#[]⟩ []):=fun t n=>lf _ ⟨rfl,qad _⟩
 have lists:∀ (t e:Int) (elem:List Va→Pr Va),(∀ acc,(elem acc).all klb)→((kb4 e 0 elem 16 []).bind fun l => .done (Va.mk t 0 ⟨#[]⟩ l)).all okV:=fun t e elem hel=>by
  refine kg2 (fun l hl=>?_) _ (kqq (P:=klb) (I:=fun l=>∀ x∈l,klb x) (fun acc v ha hv x hx=>?_) (fun _ _=>hel _) 16 [] (by simp))
  ·show okV _
   exact ls _ ⟨by have:=hl.2.2;simp at this;show l.length≤16;omega,qad _,hl.1⟩
  ·rcases qab.1 hx with hx | hx
   ·exact ha x hx
   ·rw [qak.1 hx];exact hv
 unfold oneP
 intro c
 dsimp only
 repeat' split
 ·exact kg2 (P:=fun _=>True) (Q:=okV) (fun _ _=>by show okV _;exact leaf0 _ _) _ (klu _)
 ·exact kg2 (P:=fun _=>True) (Q:=okV) (fun _ _=>by show okV _;exact leaf0 _ _) _ (klu _)
 ·exact kki lf _ kvl
 ·exact kg2 (P:=fun l=>1≤l.length∧l.length≤40) (Q:=okV) (fun l hl=>by show okV _;exact lf _ ⟨rfl,by rw [show (Va.mk 8 0 (toBA l) []).text=toBA l from rfl,kgt];omega⟩) _ (k38 1 40)
 ·exact lists 5 93 _ fun _=>k3y
 ·exact lists 6 125 _ fun _=>kvl
 ·refine kg2 (fun l hl=>?_) _ (kqq (P:=fun v=>lstV v∧1≤v.items.length∧v.items.length≤8) (I:=fun l=>InvR l∧∀ x∈l,lstV x) (fun acc v ha hv=>⟨k3m ha.1 hv.2,fun x hx=>?_⟩) (fun acc h=>k4t h.1) 8 [] ⟨fun r h=>(by cases h),fun r h=>(by cases h)⟩)
  ·show okV _
   refine ⟨by have:=km4 (x:=Va.mk 7 0 ⟨#[]⟩ l) (k:=2) fun y hy=>(kz7 (hl.1.2 y hy)).1;omega,k5x (by have:=hl.2.2;simp at this;show l.length≤_;omega) fun x hx=>(kz7 (hl.1.2 x hx)).2⟩
  ·rcases qab.1 hx with hx | hx
   ·exact ha.2 x hx
   ·rw [qak.1 hx];exact hv.1
 ·intro d
  dsimp only
  split
  ·exact kg2 (P:=fun _=>True) (Q:=okV) (fun _ _=>by show okV _;exact leaf0 _ _) _ (klu _)
  ·exact leaf0 _ _
 ·exact kki lf _ k3y
theorem kaiz (s:BA):okV (prV s).1:=by
 have z:okV (Va.mk 0 0 ⟨#[]⟩ []):=⟨by have:=km4 (x:=Va.mk 0 0 ⟨#[]⟩ []) (k:=0) fun y hy=>(by cases hy);omega,by simp [kip,kte]⟩
 have:=kvx (s:=s) (a:=(prV s).1) oneP 0 kagg
 unfold prV at this ⊢
 rcases hx:oneP.ev s 0 with ⟨_ | v,j⟩
 ·exact z
 ·rw [hx] at this
  simp only
  split
  ·exact z
  ·simp only at this
   rename_i h
   rw [if_neg h] at this
   exact this rfl
theorem kajc (s:BA):(oneP.ev s 0).2≤s.size:=(knx k9l (qad _)).2
theorem kais (s:BA):(∃ v,oneP.ev s 0=(some v,s.size)∧prV s=(v,0,0))∨(prV s=(Va.mk 0 0 ⟨#[]⟩ [],((oneP.ev s 0).2:Int),8)∧((oneP.ev s 0).1=none∨(oneP.ev s 0).2<s.size)):=by
 have hle:=kajc s
 unfold prV
 rcases hx:oneP.ev s 0 with ⟨_ | v,j⟩
 ·exact .inr ⟨rfl, .inl rfl⟩
 ·rw [hx] at hle
  simp only at hle ⊢
  by_cases h:j<s.size
  ·rw [if_pos h];exact .inr ⟨rfl, .inr h⟩
  ·rw [if_neg h]
   obtain rfl:j=s.size:=by omega
   exact .inl ⟨v,rfl,rfl⟩
end Go.Proofs.YtaimpcnpifoidaaGreatDoor
