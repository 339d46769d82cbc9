import Derived.Test.YtaimpcnpifoidaaGreatDoorNb
set_option linter.unusedVariables false
set_option linter.unusedSimpArgs false
set_option maxRecDepth 100000
namespace Go.Proofs.YtaimpcnpifoidaaGreatDoor
open Go Go.RowKit
inductive Pr (α:Type) where
 | done (a:α)
 | fail
 | peek (k:Int→Pr α)
 | adv (p:Pr α)
def Pr.run {α:Type}:Pr α→List UInt8→Option α×List UInt8
 | .done a,l=>(some a,l)
 | .fail,l=>(none,l)
 | .peek k,l=>(k (hd l)).run l
 | .adv p,l=>p.run l.tail
def Pr.bind {α β:Type}:Pr α→(α→Pr β)→Pr β
 | .done a,f=>f a
 | .fail,_ => .fail
 | .peek k,f => .peek fun c=>(k c).bind f
 | .adv p,f => .adv (p.bind f)
theorem run_bind {α β:Type} (f:α→Pr β):∀ (p:Pr α) (l:List UInt8),(p.bind f).run l=match p.run l with
  | (some a,m)=>(f a).run m
  | (none,m)=>(none,m)
 | .done a,l=>rfl
 | .fail,l=>rfl
 | .peek k,l=>run_bind f (k (hd l)) l
 | .adv p,l=>run_bind f p l.tail
def Pr.good {α:Type}:Bool→Pr α→Prop
 | _, .done _=>True
 | _, .fail=>True
 | _, .peek k=>(k 0).good false∧∀ c,c≠0→(k c).good true
 | b, .adv p=>b=true∧p.good false
theorem kaci {α:Type}:∀ (p:Pr α),p.good false→p.good true
 | .done a,_=>trivial
 | .fail,_=>trivial
 | .peek k,h=>h
 | .adv p,h=>by cases h.1
theorem km2 {α:Type} {p:Pr α} (h:p.good false) (b:Bool):p.good b:=by
 cases b
 ·exact h
 ·exact kaci p h
theorem kr6 {α β:Type} {f:α→Pr β} (hf:∀ a,(f a).good false):∀ (p:Pr α) (b:Bool),p.good b→(p.bind f).good b
 | .done a,b,_=>km2 (hf a) b
 | .fail,_,_=>trivial
 | .peek k,_,h=>⟨kr6 hf (k 0) false h.1,fun c hc=>kr6 hf (k c) true (h.2 c hc)⟩
 | .adv p,_,h=>⟨h.1,kr6 hf p false h.2⟩
theorem kfz {α β:Type} {f:α→Pr β} (hf:∀ a,(f a).good false) {p:Pr α} (h:p.good false):(p.bind f).good false:=kr6 hf p false h
def kbp:List Int→Pr Unit
 | [] => .done ()
 | x::w => .peek fun c=>if c=x then .adv (kbp w) else .fail
theorem knh:∀ {w:List Int},(∀ x∈w,x≠0)→(kbp w).good false
 | [],_=>trivial
 | x::w,h=>by
  have hx:=h x (qo ..)
  refine ⟨?_,fun c hc=>?_⟩
  ·simp only [if_neg (show ¬ ((0:Int)=x) from fun h=>hx h.symm)];trivial
  ·dsimp only
   split
   ·exact ⟨rfl,knh fun y hy=>h y (qk _ hy)⟩
   ·trivial
def kiy (least:Nat):Nat→List Int→Pr (List Int)
 | 0,acc => .peek fun c=>if c=34∧least≤acc.length then .adv (.done acc) else .fail
 | k+1,acc => .peek fun c=>if c=34∧least≤acc.length then .adv (.done acc) else if c=34∨c<32∨126<c then .fail else
   if c=92 then .adv (.peek fun d=>if d=34∨d=92 then .adv (kiy least k (acc++[d])) else .fail) else .adv (kiy least k (acc++[c]))
theorem ktx (least:Nat):∀ (k:Nat) (acc:List Int),(kiy least k acc).good false
 | 0,acc=>by
  refine ⟨?_,fun c hc=>?_⟩
  ·simp only [show ¬ ((0:Int)=34) by decide,false_and,if_false];trivial
  ·dsimp only
   split
   ·exact ⟨rfl,trivial⟩
   ·trivial
 | k+1,acc=>by
  refine ⟨?_,fun c hc=>?_⟩
  ·simp only [show ¬ ((0:Int)=34) by decide,false_and,if_false,show ((0:Int)<32) by decide,true_or,or_true,if_true];trivial
  ·dsimp only
   split
   ·exact ⟨rfl,trivial⟩
   split
   ·trivial
   split
   ·refine ⟨rfl,?_,fun d hd=>?_⟩
    ·simp only [show ¬ ((0:Int)=34∨(0:Int)=92) by decide,if_false];trivial
    ·dsimp only
     split
     ·exact ⟨rfl,ktx least k _⟩
     ·trivial
   ·exact ⟨rfl,ktx least k _⟩
def kf2 (least most:Nat):Pr (List Int) := .peek fun c=>if c=34 then .adv (kiy least most []) else .fail
theorem kqe (least most:Nat):(kf2 least most).good false:=by
 refine ⟨?_,fun c hc=>?_⟩
 ·simp only [show ¬ ((0:Int)=34) by decide,if_false];trivial
 ·dsimp only
  split
  ·exact ⟨rfl,ktx ..⟩
  ·trivial
def kcy:Nat→Int→Pr Int
 | 0,n => .done n
 | f+1,n=>if n≤0 then .done n else .peek fun b=>if 48≤b∧b≤57∧n*10+(b - 48)≤1000000 then .adv (kcy f (n*10+(b - 48))) else .done n
theorem kwa:∀ (f:Nat) (n:Int),(kcy f n).good false
 | 0,n=>trivial
 | f+1,n=>by
  unfold kcy
  split
  ·trivial
  refine ⟨?_,fun c hc=>?_⟩
  ·simp only [show ¬ ((48:Int)≤0) by decide,false_and,if_false];trivial
  ·dsimp only
   split
   ·exact ⟨rfl,kwa f _⟩
   ·trivial
def unsP (neg:Bool):Pr Int := .peek fun b=>if b<48∨57<b∨(neg=true∧b=48) then .fail else .adv ((kcy 7 (b - 48)).bind fun n => .done (if neg=true then -n else n))
def numP:Pr Int := .peek fun c=>if c=45 then .adv (unsP true) else unsP false
theorem kvv (neg:Bool):(unsP neg).good false:=by
 refine ⟨?_,fun c hc=>?_⟩
 ·simp only [show (0:Int)<48 by decide,true_or,if_true];trivial
 ·dsimp only
  split
  ·trivial
  ·refine ⟨rfl,kfz (fun _=>?_) (kwa 7 _)⟩
   trivial
theorem k18:numP.good false:=by
 refine ⟨?_,fun c hc=>?_⟩
 ·simp only [show ¬ ((0:Int)=45) by decide,if_false];exact kvv _
 ·dsimp only
  split
  ·exact ⟨rfl,kvv _⟩
  ·exact km2 (kvv _) true
def kbo {α:Type} (e:Int) (least:Nat) (elem:List α→Pr α):Nat→List α→Pr (List α)
 | 0,acc => .peek fun c=>if c=e∧least≤acc.length then .adv (.done acc) else .fail
 | k+1,acc => .peek fun c=>if c=e∧least≤acc.length then .adv (.done acc) else
   (if acc.length=0 then .done () else kbp [44,32]).bind fun _=>(elem acc).bind fun v=>kbo e least elem k (acc++[v])
theorem kny {α:Type} {e:Int} (he:e≠0) (least:Nat) {elem:List α→Pr α} (hel:∀ l,(elem l).good false):∀ (k:Nat) (acc:List α),(kbo e least elem k acc).good false
 | 0,acc=>by
  refine ⟨?_,fun c hc=>?_⟩
  ·simp only [show ¬ ((0:Int)=e) from fun h=>he h.symm,false_and,if_false];trivial
  ·dsimp only
   split
   ·exact ⟨rfl,trivial⟩
   ·trivial
 | k+1,acc=>by
  have hr:((if acc.length=0 then .done () else kbp [44,32]).bind fun _=>(elem acc).bind fun v=>kbo e least elem k (acc++[v])).good false:=by
   refine kfz (fun _=>kfz (fun v=>kny he least hel k _) (hel _)) ?_
   split
   ·trivial
   ·exact knh (by decide)
  refine ⟨?_,fun c hc=>?_⟩
  ·simp only [show ¬ ((0:Int)=e) from fun h=>he h.symm,false_and,if_false];exact hr
  ·dsimp only
   split
   ·exact ⟨rfl,trivial⟩
   ·exact km2 hr true
def hexV (c:Int):Int:=if 48≤c∧c≤57 then c - 48 else if 97≤c∧c≤102 then c - 87 else -1
def bitsP:Pr Int := .peek fun a=>if hexV a<0 then .fail else .adv (.peek fun b=>if hexV b<0 then .fail else .adv (.done (hexV a*16+hexV b)))
theorem k8p:bitsP.good false:=by
 refine ⟨?_,fun c hc=>?_⟩
 ·simp only [show hexV 0<0 by decide,if_true];trivial
 ·dsimp only
  split
  ·trivial
  ·refine ⟨rfl,?_,fun d hd=>?_⟩
   ·simp only [show hexV 0<0 by decide,if_true];trivial
   ·dsimp only
    split
    ·trivial
    ·exact ⟨rfl,trivial⟩
def intE:Pr Va:=numP.bind fun n => .done (Va.mk 2 n ⟨#[]⟩ [])
def textE:Pr Va:=(kf2 0 64).bind fun s => .done (Va.mk 3 0 (toBA s) [])
def rowE (acc:List Va):Pr Va := .peek fun c=>if c=123 then
  .adv ((kbo 125 (match acc with | []=>1 | r::_=>r.items.length) (fun _=>textE) (match acc with | []=>8 | r::_=>r.items.length) []).bind fun l => .done (Va.mk 6 0 ⟨#[]⟩ l)) else .fail
def oneP:Pr Va := .peek fun c=>
 if c=116 then (kbp [116,114,117,101]).bind fun _ => .done (Va.mk 1 1 ⟨#[]⟩ [])
 else if c=102 then (kbp [102,97,108,115,101]).bind fun _ => .done (Va.mk 1 0 ⟨#[]⟩ [])
 else if c=34 then textE
 else if c=114 then .adv ((kf2 1 40).bind fun s => .done (Va.mk 8 0 (toBA s) []))
 else if c=91 then .adv ((kbo 93 0 (fun _=>intE) 16 []).bind fun l => .done (Va.mk 5 0 ⟨#[]⟩ l))
 else if c=123 then .adv ((kbo 125 0 (fun _=>textE) 16 []).bind fun l => .done (Va.mk 6 0 ⟨#[]⟩ l))
 else if c=60 then .adv ((kbo 62 0 rowE 8 []).bind fun l => .done (Va.mk 7 0 ⟨#[]⟩ l))
 else if c=48 then .adv (.peek fun d=>if d=120 then .adv (bitsP.bind fun n => .done (Va.mk 4 n ⟨#[]⟩ [])) else .done (Va.mk 2 0 ⟨#[]⟩ []))
 else intE
theorem kpq:intE.good false:=kfz (fun _=>by exact True.intro) k18
theorem kl7:textE.good false:=kfz (fun _=>by exact True.intro) (kqe ..)
theorem kr2 (acc:List Va):(rowE acc).good false:=by
 refine ⟨?_,fun c hc=>?_⟩
 ·simp only [show ¬ ((0:Int)=123) by decide,if_false];trivial
 ·dsimp only
  split
  ·exact ⟨rfl,kfz (fun _=>by exact True.intro) (kny (by decide) _ (fun _=>kl7) _ _)⟩
  ·trivial
theorem kaa8:oneP.good false:=by
 refine ⟨?_,fun c hc=>?_⟩
 ·exact kpq
 ·dsimp only
  repeat' split
  ·exact km2 (kfz (fun _=>by exact True.intro) (knh (by decide))) true
  ·exact km2 (kfz (fun _=>by exact True.intro) (knh (by decide))) true
  ·exact km2 kl7 true
  ·exact ⟨rfl,kfz (fun _=>by exact True.intro) (kqe ..)⟩
  ·exact ⟨rfl,kfz (fun _=>by exact True.intro) (kny (by decide) _ (fun _=>kpq) _ _)⟩
  ·exact ⟨rfl,kfz (fun _=>by exact True.intro) (kny (by decide) _ (fun _=>kl7) _ _)⟩
  ·exact ⟨rfl,kfz (fun _=>by exact True.intro) (kny (by decide) _ kr2 _ _)⟩
  ·refine ⟨rfl,?_,fun d hd=>?_⟩
   ·simp only [show ¬ ((0:Int)=120) by decide,if_false];trivial
   ·dsimp only
    split
    ·exact ⟨rfl,kfz (fun _=>by exact True.intro) k8p⟩
    ·trivial
  ·exact km2 kpq true
theorem kft {α:Type} (k:Int→Pr α) (c:UInt8) (l:List UInt8):(Pr.peek k).run (c::l)=(k (c.toNat:Int)).run (c::l):=rfl
theorem kgo {α:Type} (p:Pr α) (c:UInt8) (l:List UInt8):(Pr.adv p).run (c::l)=p.run l:=rfl
def stop (l:List UInt8):Prop:=(hd l<48∨57<hd l)∧hd l≠120
theorem k04 (ds:List UInt8):∀ (n:Int),0≤n→(∀ c∈ds,dig c)→n≤valD n ds:=by
 induction ds with
 | nil=>intro n _ _;exact Int.le_refl _
 | cons c ds ih=>
  intro n hn h
  have hc:=h c (qo ..)
  unfold dig at hc
  have:=ih (n*10+((c.toNat:Int) - 48)) (by omega) fun x hx=>h x (qk _ hx)
  show n≤valD (n*10+((c.toNat:Int) - 48)) ds
  omega
theorem kyz (rest:List UInt8) (hs:stop rest):∀ (ds:List UInt8) (f:Nat) (n:Int),0<n→ds.length≤f→(∀ c∈ds,dig c)→valD n ds≤1000000→(kcy f n).run (ds++rest)=(some (valD n ds),rest)
 | [],0,n,_,_,_,_=>rfl
 | [],f+1,n,h0,_,_,_=>by
  unfold kcy
  rw [if_neg (by omega)]
  show Pr.run (if 48≤hd rest∧hd rest≤57∧n*10+(hd rest - 48)≤1000000 then _ else _) _=_
  rw [if_neg (by have:=hs.1;omega)]
  rfl
 | c::ds,0,n,_,h,_,_=>by simp at h
 | c::ds,f+1,n,h0,hf,hd',hv=>by
  have hc:=hd' c (qo ..)
  unfold dig at hc
  have hm:=k04 ds (n*10+((c.toNat:Int) - 48)) (by omega) fun x hx=>hd' x (qk _ hx)
  have hv':valD (n*10+((c.toNat:Int) - 48)) ds≤1000000:=hv
  unfold kcy
  rw [if_neg (by omega),qag,kft,if_pos (by omega),kgo]
  exact kyz rest hs ds f _ (by omega) (by simpa using hf) (fun x hx=>hd' x (qk _ hx)) hv'
theorem k6u {rest:List UInt8} (hs:stop rest) {n:Nat} (hn:n≤1000000) (neg:Bool) (h0:neg=true→0<n):(unsP neg).run (decN n++rest)=(some (if neg=true then -(n:Int) else n),rest):=by
 obtain ⟨d,ds,h1,h2,h3,h4,h5⟩:=kst n
 have hd:=h2 d (qo ..)
 unfold dig at hd
 rw [h1]
 unfold unsP
 rw [qag,kft,if_neg (by
  rintro (h | h | ⟨h,h'⟩)
  ·omega
  ·omega
  ·have:=h4 (h0 h);omega),kgo,run_bind]
 have hlen:=h5 7 (by decide) (by omega)
 by_cases hz:n=0
 ·subst hz
  have hd0:(d.toNat:Int) - 48≤0:=by
   have:=k04 ds ((d.toNat:Int) - 48) (by omega) fun x hx=>h2 x (qk _ hx)
   omega
  have hds:ds=[]:=by
   have:=h5 1 (by decide) (by decide)
   exact qz (by omega)
  subst hds
  unfold kcy
  rw [if_pos hd0]
  have hd1:(d.toNat:Int) - 48=0:=by omega
  rw [hd1]
  cases neg <;> rfl
 ·have:=h4 (by omega)
  rw [kyz rest hs ds 7 _ (by omega) (by omega) (fun x hx=>h2 x (qk _ hx)) (by rw [h3];omega),h3]
  rfl
theorem k0c (n:Nat) (rest:List UInt8):48≤hd (decN n++rest)∧hd (decN n++rest)≤57∧(0<n→48<hd (decN n++rest)):=by
 obtain ⟨d,ds,h1,h2,h3,h4,h5⟩:=kst n
 have hd:=h2 d (qo ..)
 unfold dig at hd
 rw [h1]
 show 48≤(d.toNat:Int)∧(d.toNat:Int)≤57∧_
 exact ⟨hd.1,hd.2,fun h=>by have:=h4 h;show (48:Int)<(d.toNat:Int);omega⟩
theorem kaik {rest:List UInt8} (hs:stop rest) {n:Int} (h1 : -1000000≤n) (h2:n≤1000000):numP.run (kb7 n++rest)=(some n,rest):=by
 unfold numP kb7
 by_cases h:n<0
 ·rw [if_pos h]
  rw [qag,kft,if_pos (show ((45:UInt8).toNat:Int)=45 from rfl),kgo,k6u hs (by omega) true fun _=>by omega,if_pos rfl]
  congr 2
  omega
 ·rw [if_neg h]
  have:=k0c n.natAbs rest
  rw [show (Pr.peek fun c=>if c=45 then (unsP true).adv else unsP false).run (decN n.natAbs++rest)=(if hd (decN n.natAbs++rest)=45 then (unsP true).adv else unsP false).run (decN n.natAbs++rest) from rfl,if_neg (by omega),k6u hs (by omega) false fun h=>by cases h]
  simp
  omega
theorem k49 {c d:UInt8} (h:c≠d):(c.toNat:Int)≠(d.toNat:Int):=fun e=>h (qa1.1 (by omega))
theorem k5b (least:Nat) (rest:List UInt8):∀ (l:List UInt8) (k:Nat) (acc:List Int),l.length≤k→least≤acc.length+l.length→(∀ c∈l,klb c=true) →
  (kiy least k acc).run (l.flatMap escB++(34::rest))=(some (acc++l.map fun c=>(c.toNat:Int)),rest)
 | [],0,acc,_,hl,_=>by
  unfold kiy
  rw [show ([]:List UInt8).flatMap escB++34::rest=34::rest from rfl,kft,if_pos ⟨rfl,by simpa using hl⟩]
  simp [Pr.run]
 | [],k+1,acc,_,hl,_=>by
  unfold kiy
  rw [show ([]:List UInt8).flatMap escB++34::rest=34::rest from rfl,kft,if_pos ⟨rfl,by simpa using hl⟩]
  simp [Pr.run]
 | c::l,0,acc,h,_,_=>by simp at h
 | c::l,k+1,acc,h,hl,hp=>by
  have hc:=hp c (qo ..)
  unfold klb at hc
  simp only [qu,decide_eq_true_eq] at hc
  have ih:=k5b least rest l k (acc++[(c.toNat:Int)]) (by simpa using h) (by simp at hl ⊢; omega) fun x hx=>hp x (qk _ hx)
  have hres:(acc++[(c.toNat:Int)])++l.map (fun c=>(c.toNat:Int))=acc++(c::l).map fun c=>(c.toNat:Int):=by simp
  rw [hres] at ih
  unfold kiy
  rw [qal]
  by_cases hq:c=34∨c=92
  ·have he:escB c=[92,c]:=by unfold escB;rw [if_pos hq]
   rw [he]
   have e92:((92:UInt8).toNat:Int)=92:=rfl
   rw [show ([92,c]++l.flatMap escB)++34::rest=92::c::(l.flatMap escB++34::rest) from rfl,kft,e92,if_neg (by omega),if_neg (by omega),if_pos rfl,kgo,kft,if_pos (by rcases hq with rfl | rfl;exact .inl rfl;exact .inr rfl),kgo]
   exact ih
  ·have he:escB c=[c]:=by
    unfold escB
    rw [if_neg hq,if_pos (by unfold klb;simp [hc])]
   rw [he]
   have n1:(c.toNat:Int)≠34:=k49 (d:=34) fun h=>hq (.inl h)
   have n2:(c.toNat:Int)≠92:=k49 (d:=92) fun h=>hq (.inr h)
   rw [show ([c]++l.flatMap escB)++34::rest=c::(l.flatMap escB++34::rest) from rfl,kft,if_neg (fun h=>n1 h.1),if_neg (by omega),if_neg n2,kgo]
   exact ih
theorem k3a {least most:Nat} {l:List UInt8} (rest:List UInt8) (h1:least≤l.length) (h2:l.length≤most) (hp:∀ c∈l,klb c=true):(kf2 least most).run (kex l++rest)=(some (l.map fun c=>(c.toNat:Int)),rest):=by
 unfold kf2 kex
 rw [qag,kft,if_pos (show ((34:UInt8).toNat:Int)=34 from rfl),kgo,qaa]
 have:=k5b least rest l most [] h2 (by simpa using h1) hp
 simpa using this
theorem kxw {n:Nat} (h:n<16):((hexD n).toNat:Int)=if n<10 then 48+(n:Int) else 87+n:=by
 unfold hexD
 split
 ·rw [kj1 (by omega)];omega
 ·rw [kj1 (by omega)];omega
theorem kaco {n:Nat} (h:n<16):hexV ((hexD n).toNat:Int)=n:=by
 rw [kxw h]
 unfold hexV
 repeat' split
 all_goals omega
theorem kadv {rest:List UInt8} {n:Int} (h0:0≤n) (h1:n≤255):bitsP.run (hexD (n.toNat / 16)::hexD (n.toNat % 16)::rest)=(some n,rest):=by
 unfold bitsP
 have e1:=kaco (n:=n.toNat / 16) (by omega)
 have e2:=kaco (n:=n.toNat % 16) (by omega)
 rw [kft,e1,if_neg (by omega),kgo,kft,e2,if_neg (by omega),kgo]
 show (some _,rest)=_
 congr 2
 omega
theorem kuf (rest:List UInt8):∀ w:List UInt8,(kbp (w.map fun c=>(c.toNat:Int))).run (w++rest)=(some (),rest)
 | []=>rfl
 | c::w=>by
  rw [qah,kbp,qag,kft,if_pos rfl,kgo]
  exact kuf rest w
section
variable {α:Type} {e:UInt8} {least:Nat} {elem:List α→Pr α} {sh:α→List UInt8} {vs:List α}
theorem k26 (rest:List UInt8) {acc:List α} (k:Nat) (hle:least≤acc.length):(kbo (e.toNat:Int) least elem k acc).run (e::rest)=(some acc,rest):=by
 cases k with
 | zero=>unfold kbo;rw [kft,if_pos ⟨rfl,hle⟩];rfl
 | succ k=>unfold kbo;rw [kft,if_pos ⟨rfl,hle⟩];rfl
theorem kvp {c:UInt8} (m:List UInt8) (h:((c.toNat:Int)<48∨57<(c.toNat:Int))∧(c.toNat:Int)≠120):stop (c::m):=h
theorem k4i (m:List UInt8):stop (44::m):=kvp m (by decide)
theorem k1f (rest:List UInt8) (hel:∀ acc v post m,acc++v::post=vs→stop m→(elem acc).run (sh v++m)=(some v,m)) (hst:∀ m,stop (e::m)) (he:e≠44) (hle:least≤vs.length):
  ∀ (post acc:List α) (k:Nat),acc++post=vs→0<acc.length→post.length≤k→(kbo (e.toNat:Int) least elem k acc).run (kff sh post++(e::rest))=(some vs,rest)
 | [],acc,k,ha,_,_=>by
  rw [List.append_nil] at ha
  subst ha
  exact k26 rest k hle
 | v::post,acc,0,_,_,h=>by simp at h
 | v::post,acc,k+1,ha,h0,h=>by
  have ih:=k1f rest hel hst he hle post (acc++[v]) k (by rw [← ha];simp) (by simp) (by simpa using h)
  have hm:stop (kff sh post++(e::rest)):=by
   cases post with
   | nil=>exact hst rest
   | cons w post=>exact k4i _
  unfold kbo
  rw [show kff sh (v::post)++e::rest=44::(32::(sh v++(kff sh post++e::rest))) by simp [kff],kft,if_neg (fun h=>he (qa1.1 (by have:=h.1;omega))),if_neg (by omega),run_bind,
   show (44::(32::(sh v++(kff sh post++e::rest))))=[44,32]++(sh v++(kff sh post++e::rest)) from rfl]
  have hw:=kuf (sh v++(kff sh post++e::rest)) [44,32]
  rw [show kbp [44,32]=kbp (([44,32]:List UInt8).map fun c=>(c.toNat:Int)) from rfl,hw]
  simp only
  rw [run_bind,hel acc v post _ ha hm]
  exact ih
theorem kxx (rest:List UInt8) (hel:∀ acc v post m,acc++v::post=vs→stop m→(elem acc).run (sh v++m)=(some v,m)) (hst:∀ m,stop (e::m)) (he:e≠44) (hle:least≤vs.length)
  {k:Nat} (hk:vs.length≤k) (hne:∀ v m,v∈vs→hd (sh v++m)≠(e.toNat:Int)):(kbo (e.toNat:Int) least elem k []).run (kba (vs.map sh)++(e::rest))=(some vs,rest):=by
 cases vs with
 | nil=>exact k26 rest k hle
 | cons v post=>
  obtain ⟨k,rfl⟩:∃ j,k=j+1:=⟨k - 1,by simp at hk;omega⟩
  have hm:stop (kff sh post++(e::rest)):=by
   cases post with
   | nil=>exact hst rest
   | cons w post=>exact k4i _
  have h1:=k1f rest hel hst he hle post [v] k rfl (by simp) (by simpa using hk)
  have hne':=hne v (kff sh post++(e::rest)) (qo ..)
  rw [kky,qaa]
  unfold kbo
  show Pr.run ((fun c=>if c=(e.toNat:Int)∧least≤([]:List α).length then .adv (.done []) else (if ([]:List α).length=0 then .done () else kbp [44,32]).bind fun _=>(elem []).bind fun v=>kbo (e.toNat:Int) least elem k ([]++[v])) (hd (sh v++(kff sh post++e::rest)))) _=_
  simp only
  rw [if_neg (fun h=>hne' h.1),if_pos (show ([]:List α).length=0 from rfl)]
  show Pr.run ((elem []).bind fun v=>kbo (e.toNat:Int) least elem k ([]++[v])) _=_
  rw [run_bind,hel [] v post _ rfl hm]
  exact h1
end
theorem krk (s:BA):s.data.toList.length=s.size:=by cases s;rfl
theorem kagw {v:Va} (h:kns v) {m:List UInt8} (hs:stop m):intE.run (kac v++m)=(some v,m):=by
 obtain ⟨n,rfl,h1,h2⟩:=h
 have e:kac (Va.mk 2 n ⟨#[]⟩ [])=kb7 n:=by simp [kac]
 unfold intE
 rw [e,run_bind,kaik hs h1 h2]
 rfl
theorem kag7 {v:Va} (h:ko0 v) (m:List UInt8):textE.run (kac v++m)=(some v,m):=by
 obtain ⟨s,rfl,h1,h2,h3⟩:=h
 have e:kac (Va.mk 3 0 s [])=kex s.data.toList:=by simp [kac]
 unfold textE
 rw [e,run_bind,k3a m (by rw [krk];exact h1) (by rw [krk];exact h2) h3]
 show (some (Va.mk 3 0 (toBA _) []),m)=_
 rw [kup]
theorem kaa2 {v:Va} (h:ko0 v) (m:List UInt8):hd (kac v++m)=34:=by
 obtain ⟨s,rfl,_⟩:=h
 simp [kac,kex,hd]
theorem kab8 {v:Va} (h:kns v) (m:List UInt8):hd (kac v++m)=45∨48≤hd (kac v++m)∧hd (kac v++m)≤57:=by
 obtain ⟨n,rfl,_⟩:=h
 have e:kac (Va.mk 2 n ⟨#[]⟩ [])=kb7 n:=by simp [kac]
 rw [e]
 unfold kb7
 split
 ·exact .inl rfl
 ·have:=k0c n.natAbs m
  exact .inr ⟨this.1,this.2.1⟩
theorem kxu {l:List Va} {lo hi:Nat} (h1:lo≤l.length) (h2:l.length≤hi) (h3:∀ x∈l,ko0 x) (m:List UInt8):(kbo 125 lo (fun _=>textE) hi []).run (kba (kju l)++(125::m))=(some l,m):=by
 rw [kjy]
 exact kxx (e:=125) m (fun acc v post m' ha _=>kag7 (h3 v (by rw [← ha];simp)) m') (fun m'=>kvp m' (by decide)) (by decide) h1 h2 fun v m' hv=>by rw [kaa2 (h3 v hv)];decide
theorem kpv (l:List Va):kac (Va.mk 6 0 ⟨#[]⟩ l)=123::(kba (kju l)++[125]):=by simp [kac]
theorem row_e {acc:List Va} {v:Va} {m:Nat} (h1:1≤m) (h2:m≤8) (hv:kty m m v) (ha:∀ r∈acc,kty m m r) (rest:List UInt8):(rowE acc).run (kac v++rest)=(some v,rest):=by
 obtain ⟨l,rfl,l1,l2,l3⟩:=hv
 rw [kpv]
 unfold rowE
 rw [qag,kft,if_pos (show ((123:UInt8).toNat:Int)=123 from rfl),kgo,run_bind,qaa]
 cases acc with
 | nil=>
  have:=kxu (lo:=1) (hi:=8) (by omega) (by omega) l3 rest
  simp only [List.singleton_append]
  rw [this]
  rfl
 | cons r acc=>
  obtain ⟨k,hk,k1,k2,_⟩:=ha r (qo ..)
  have e:r.items.length=l.length:=by rw [hk];show k.length=_;omega
  have:=kxu (lo:=r.items.length) (hi:=r.items.length) (by omega) (by omega) l3 rest
  simp only [List.singleton_append]
  rw [this]
  rfl
theorem kyi {v:Va} (h:kgh v) {m:List UInt8} (hs:kns v→stop m):oneP.run (kac v++m)=(some v,m):=by
 have pk:∀ (l:List UInt8),oneP.run l=((fun c:Int=>(if c=116 then (kbp [116,114,117,101]).bind fun _ => .done (Va.mk 1 1 ⟨#[]⟩ [])
 else if c=102 then (kbp [102,97,108,115,101]).bind fun _ => .done (Va.mk 1 0 ⟨#[]⟩ [])
 else if c=34 then textE
 else if c=114 then .adv ((kf2 1 40).bind fun s => .done (Va.mk 8 0 (toBA s) []))
 else if c=91 then .adv ((kbo 93 0 (fun _=>intE) 16 []).bind fun l => .done (Va.mk 5 0 ⟨#[]⟩ l))
 else if c=123 then .adv ((kbo 125 0 (fun _=>textE) 16 []).bind fun l => .done (Va.mk 6 0 ⟨#[]⟩ l))
 else if c=60 then .adv ((kbo 62 0 rowE 8 []).bind fun l => .done (Va.mk 7 0 ⟨#[]⟩ l))
 else if c=48 then .adv (.peek fun d=>if d=120 then .adv (bitsP.bind fun n => .done (Va.mk 4 n ⟨#[]⟩ [])) else .done (Va.mk 2 0 ⟨#[]⟩ []))
 else intE:Pr Va)) (hd l)).run l:=fun l=>rfl
 rw [pk]
 dsimp only
 rcases h with (rfl | rfl) | h | ⟨n,rfl,h1,h2⟩ | h | ⟨s,rfl,h1,h2,h3⟩ | ⟨l,rfl,h1,h2⟩ | ⟨l,rfl,h1,h2,h3⟩ | ⟨l,rfl,h1,r,r1,r2,h2⟩
 ·have e:kac (Va.mk 1 0 ⟨#[]⟩ [])=[102,97,108,115,101]:=by simp [kac]
  rw [e,show hd ([102,97,108,115,101]++m)=102 from rfl]
  simp only [show ¬ ((102:Int)=116) by decide,if_false,if_true]
  rw [run_bind,show kbp [102,97,108,115,101]=kbp (([102,97,108,115,101]:List UInt8).map fun c=>(c.toNat:Int)) from rfl,kuf]
  rfl
 ·have e:kac (Va.mk 1 1 ⟨#[]⟩ [])=[116,114,117,101]:=by simp [kac]
  rw [e,show hd ([116,114,117,101]++m)=116 from rfl]
  simp only [if_true]
  rw [run_bind,show kbp [116,114,117,101]=kbp (([116,114,117,101]:List UInt8).map fun c=>(c.toNat:Int)) from rfl,kuf]
  rfl
 ·replace hs:=hs h
  have hh:=kab8 h m
  have hi:=kagw h hs
  rw [if_neg (by omega),if_neg (by omega),if_neg (by omega),if_neg (by omega),if_neg (by omega),if_neg (by omega),if_neg (by omega)]
  by_cases h48:hd (kac v++m)=48
  ·rw [if_pos h48]
   obtain ⟨n,rfl,n1,n2⟩:=h
   have e:kac (Va.mk 2 n ⟨#[]⟩ [])=kb7 n:=by simp [kac]
   rw [e] at h48 hi ⊢
   have hn:n=0:=by
    unfold kb7 at h48
    split at h48
    ·exact absurd (show (45:Int)=48 from h48) (by decide)
    ·have:=(k0c n.natAbs m).2.2
     omega
   subst hn
   have e0:kb7 0=[48]:=by unfold kb7;rw [if_neg (by decide)];show decN 0=_;rw [decN];rfl
   rw [e0]
   show Pr.run ((fun d:Int=>if d=120 then .adv (bitsP.bind fun n => .done (Va.mk 4 n ⟨#[]⟩ [])) else .done (Va.mk 2 0 ⟨#[]⟩ [])) (hd m)) m=_
   simp only
   rw [if_neg hs.2]
   rfl
  ·rw [if_neg h48]
   exact hi
 ·have e:kac (Va.mk 4 n ⟨#[]⟩ [])=[48,120,hexD (n.toNat / 16),hexD (n.toNat % 16)]:=by simp [kac]
  rw [e,show hd ([48,120,hexD (n.toNat / 16),hexD (n.toNat % 16)]++m)=48 from rfl]
  simp only [show ¬ ((48:Int)=116) by decide,show ¬ ((48:Int)=102) by decide,show ¬ ((48:Int)=34) by decide,show ¬ ((48:Int)=114) by decide,show ¬ ((48:Int)=91) by decide,show ¬ ((48:Int)=123) by decide,show ¬ ((48:Int)=60) by decide,if_false,if_true]
  rw [show [48,120,hexD (n.toNat / 16),hexD (n.toNat % 16)]++m=48::120::hexD (n.toNat / 16)::hexD (n.toNat % 16)::m from rfl,kgo,kft,if_pos (show ((120:UInt8).toNat:Int)=120 from rfl),kgo,run_bind,kadv h1 h2]
  rfl
 ·rw [kaa2 h]
  simp only [show ¬ ((34:Int)=116) by decide,show ¬ ((34:Int)=102) by decide,if_false,if_true]
  exact kag7 h m
 ·have e:kac (Va.mk 8 0 s [])=114::kex s.data.toList:=by simp [kac]
  rw [e,show hd (114::kex s.data.toList++m)=114 from rfl]
  simp only [show ¬ ((114:Int)=116) by decide,show ¬ ((114:Int)=102) by decide,show ¬ ((114:Int)=34) by decide,if_false,if_true]
  rw [qag,kgo,run_bind,k3a m (by rw [krk];exact h1) (by rw [krk];exact h2) h3]
  show (some (Va.mk 8 0 (toBA _) []),m)=_
  rw [kup]
 ·have e:kac (Va.mk 5 0 ⟨#[]⟩ l)=91::(kba (kju l)++[93]):=by simp [kac]
  rw [e,show hd (91::(kba (kju l)++[93])++m)=91 from rfl]
  simp only [show ¬ ((91:Int)=116) by decide,show ¬ ((91:Int)=102) by decide,show ¬ ((91:Int)=34) by decide,show ¬ ((91:Int)=114) by decide,if_false,if_true]
  have:=kxx (e:=93) (least:=0) (elem:=fun _=>intE) (sh:=kac) (vs:=l) (k:=16) m (fun acc v post m' ha hm=>kagw (h2 v (by rw [← ha];simp)) hm) (fun m'=>kvp m' (by decide)) (by decide) (qx _) h1 fun v m' hv=>by have:=kab8 (h2 v hv) m'; show _≠(93:Int);omega
  rw [show ((93:UInt8).toNat:Int)=93 from rfl] at this
  rw [qag,kgo,run_bind,qaa,kjy,List.singleton_append,this]
  rfl
 ·rw [kpv,show hd (123::(kba (kju l)++[125])++m)=123 from rfl]
  simp only [show ¬ ((123:Int)=116) by decide,show ¬ ((123:Int)=102) by decide,show ¬ ((123:Int)=34) by decide,show ¬ ((123:Int)=114) by decide,show ¬ ((123:Int)=91) by decide,if_false,if_true]
  rw [qag,kgo,run_bind,qaa,List.singleton_append,kxu (qx _) h2 h3 m]
  rfl
 ·have e:kac (Va.mk 7 0 ⟨#[]⟩ l)=60::(kba (kju l)++[62]):=by simp [kac]
  rw [e,show hd (60::(kba (kju l)++[62])++m)=60 from rfl]
  simp only [show ¬ ((60:Int)=116) by decide,show ¬ ((60:Int)=102) by decide,show ¬ ((60:Int)=34) by decide,show ¬ ((60:Int)=114) by decide,show ¬ ((60:Int)=91) by decide,show ¬ ((60:Int)=123) by decide,if_false,if_true]
  have:=kxx (e:=62) (least:=0) (elem:=rowE) (sh:=kac) (vs:=l) (k:=8) m (fun acc v post m' ha hm=>row_e r1 r2 (h2 v (by rw [← ha];simp)) (fun x hx=>h2 x (by rw [← ha];simp [hx])) m') (fun m'=>kvp m' (by decide)) (by decide) (qx _) h1 fun v m' hv=>by
   obtain ⟨k,rfl,_⟩:=h2 v hv
   rw [kpv]
   show (123:Int)≠62
   decide
  rw [show ((62:UInt8).toNat:Int)=62 from rfl] at this
  rw [qag,kgo,run_bind,qaa,kjy,List.singleton_append,this]
  rfl
theorem k0b {v:Va} (h:kgh v) {m:List UInt8} (hs:stop m):oneP.run (kac v++m)=(some v,m):=kyi h fun _=>hs
theorem krm {s:BA} {i:Nat} (h:s.size≤i):atI s i=0:=by rw [atI,qaf (by rw [← ka4];exact h)];rfl
theorem kt4 (s:BA) (i:Nat):0≤atI s i∧atI s i≤255:=by
 by_cases h:i<s.size
 ·rw [(kix h).2.2]
  have:=(s.data.toList[i]'(by rw [← ka4];exact h)).toNat_lt
  omega
 ·rw [krm (by omega)];decide
theorem kk3 {s:BA} {i:Nat} (h:atI s i≠0):i<s.size:=by
 by_cases h':i<s.size
 ·exact h'
 ·exact absurd (krm (by omega)) h
def Pr.ev {α:Type} (s:BA):Pr α→Nat→Option α×Nat
 | .done a,i=>(some a,i)
 | .fail,i=>(none,i)
 | .peek k,i=>(k (atI s i)).ev s i
 | .adv p,i=>p.ev s (i+1)
theorem ksk {α:Type} (s:BA):∀ (p:Pr α) (i:Nat),p.run (s.data.toList.drop i)=((p.ev s i).1,s.data.toList.drop (p.ev s i).2)
 | .done a,i=>rfl
 | .fail,i=>rfl
 | .peek k,i=>ksk s (k (atI s i)) i
 | .adv p,i=>by
  have:=ksk s p (i+1)
  rw [Pr.run,Pr.ev,← this,List.tail_drop]
theorem kik {α β:Type} (s:BA) (f:α→Pr β):∀ (p:Pr α) (i:Nat),(p.bind f).ev s i=match p.ev s i with
  | (some a,j)=>(f a).ev s j
  | (none,j)=>(none,j)
 | .done a,i=>rfl
 | .fail,i=>rfl
 | .peek k,i=>kik s f (k (atI s i)) i
 | .adv p,i=>kik s f p (i+1)
theorem k2t {α:Type} {s:BA}:∀ (p:Pr α) (b:Bool) (i:Nat),p.good b→(b=true→i<s.size)→i≤s.size→i≤(p.ev s i).2∧(p.ev s i).2≤s.size
 | .done a,b,i,_,_,h=>⟨qw _,h⟩
 | .fail,b,i,_,_,h=>⟨qw _,h⟩
 | .peek k,b,i,hg,hb,h=>by
  show i≤((k (atI s i)).ev s i).2∧((k (atI s i)).ev s i).2≤s.size
  by_cases h0:atI s i=0
  ·rw [h0];exact k2t (k 0) false i hg.1 (fun h=>by cases h) h
  ·exact k2t (k _) true i (hg.2 _ h0) (fun _=>kk3 h0) h
 | .adv p,b,i,hg,hb,h=>by
  have:=k2t p false (i+1) hg.2 (fun h=>by cases h) (hb hg.1)
  exact ⟨by show i≤(p.ev s (i+1)).2;omega,this.2⟩
theorem kq7 {α:Type} {s:BA} {p:Pr α} {i:Nat} (hg:p.good false) (h:i≤s.size):i≤(p.ev s i).2∧(p.ev s i).2≤s.size:=k2t p false i hg (fun h=>by cases h) h
def Pr.all {α:Type} (P:α→Prop):Pr α→Prop
 | .done a=>P a
 | .fail=>True
 | .peek k=>∀ c,(k c).all P
 | .adv p=>p.all P
theorem kg0 {α β:Type} {P:α→Prop} {Q:β→Prop} {f:α→Pr β} (hf:∀ a,P a→(f a).all Q):∀ p:Pr α,p.all P→(p.bind f).all Q
 | .done a,h=>hf a h
 | .fail,_=>trivial
 | .peek k,h=>fun c=>kg0 hf (k c) (h c)
 | .adv p,h=>kg0 hf p h
theorem kkw {α:Type} {P Q:α→Prop} (hf:∀ a,P a→Q a):∀ p:Pr α,p.all P→p.all Q
 | .done a,h=>hf a h
 | .fail,_=>trivial
 | .peek k,h=>fun c=>kkw hf (k c) (h c)
 | .adv p,h=>kkw hf p h
theorem kly {α:Type}:∀ p:Pr α,p.all fun _=>True
 | .done a=>trivial
 | .fail=>trivial
 | .peek k=>fun c=>kly (k c)
 | .adv p=>kly p
theorem kvl {α:Type} {P:α→Prop} {s:BA} {a:α}:∀ (p:Pr α) (i:Nat),p.all P→(p.ev s i).1=some a→P a
 | .done b,i,h,e=>by cases e;exact h
 | .fail,i,h,e=>by cases e
 | .peek k,i,h,e=>kvl (k (atI s i)) i (h _) e
 | .adv p,i,h,e=>kvl p (i+1) h e
theorem kg6 (s:BA) (i:Nat):kau ⟨s,(i:Int)⟩=some (atI s i):=by
 unfold kau
 by_cases h:i<s.size
 ·simp only [kbb h,qd,(kix h).1,qa]
 ·have:decide ((i:Int)<(s.size:Int))=false:=qc (by omega)
  simp only [this,qb,krm (Nat.le_of_not_lt h)]
theorem k2n (s:BA) (i:Nat):kg7 s (i:Int)=some (atI s i):=by
 unfold kg7
 by_cases h:i<s.size
 ·simp only [kbb h,qd,(kix h).1,qa]
 ·have:decide ((i:Int)<(s.size:Int))=false:=qc (by omega)
  simp only [this,qb,krm (Nat.le_of_not_lt h)]
theorem k38 (w:BA):(wl w).length=w.size:=by unfold wl;rw [qan,ka4]
theorem kahf {w:BA} {m:Nat} {c:Int} {l:List Int} (h:(wl w).drop m=c::l):m<w.size∧atI w m=c∧(wl w).drop (m+1)=l:=by
 have hm:m<w.size:=by
  rw [← k38]
  by_cases h':m<(wl w).length
  ·exact h'
  ·rw [qaf (by omega)] at h;cases h
 obtain ⟨b1,b2,b3⟩:=kix hm
 have:(wl w).drop m=atI w m::(wl w).drop (m+1):=by
  unfold wl
  rw [← List.map_drop,b2,qah,List.map_drop,b3]
 rw [this] at h
 exact ⟨hm,(List.cons.inj h).1,(List.cons.inj h).2⟩
theorem k2a (s w:BA) (i0:Int) (hs:s.size≤4000000) (hw:w.size≤1000000):∀ (l:List Int) (m i n:Nat),(wl w).drop m=l→(∀ x∈l,x≠0)→i≤s.size→l.length<n →
  kaa (kdb ⟨s,i0⟩ w) n ((m:Int),(i:Int))=some (((kbp l).ev s i).1.elim (.inr (((kbp l).ev s i).2:Int)) fun _ => .inl (((kbp l).ev s i).2:Int))
 | [],m,i,n+1,hl,h0,hi,_=>by
  have hm:w.size≤m:=by rw [← k38];exact List.drop_eq_nil_iff.1 hl
  refine kdi ?_
  have:decide ((m:Int)<(w.size:Int))=false:=qc (by omega)
  simp only [kdb,this,qb]
  rfl
 | c::l,m,i,n+1,hl,h0,hi,hn=>by
  obtain ⟨hm,hc,hl'⟩:=kahf hl
  have b1:=(kix hm).1
  have hc0:c≠0:=h0 _ (qo ..)
  simp only [kbp,Pr.ev]
  by_cases h:i<s.size
  ·have e1:decide ((s.size:Int)≤(i:Int))=false:=qc (by omega)
   by_cases he:atI s i=c
   ·rw [if_pos he]
    simp only [Pr.ev]
    rw [← k2a s w i0 hs hw l (m+1) (i+1) n hl' (fun x hx=>h0 x (qk _ hx)) (by omega) (by simpa using hn)]
    refine kih ?_
    have e2:(atI s i != c)=false:=by rw [he];simp
    simp only [kdb,kbb hm,qd,e1,qb,(kix h).1,b1,hc,qa,e2,w64s m (by omega),w64s i (by omega)]
   ·rw [if_neg he]
    refine kdi ?_
    have e2:(atI s i != c)=true:=by simpa using he
    simp only [kdb,kbb hm,qd,e1,qb,(kix h).1,b1,hc,qa,e2]
    rfl
  ·have e1:decide ((s.size:Int)≤(i:Int))=true:=qe (by omega)
   rw [if_neg (by rw [krm (by omega)];exact fun h=>hc0 h.symm)]
   refine kdi ?_
   simp only [kdb,kbb hm,qd,e1,qa]
   rfl
theorem ktg {s w:BA} (hs:s.size≤4000000) (hw:w.size≤1000000) (h0:∀ x∈wl w,x≠0) {i:Nat} (hi:i≤s.size):
  kaq ⟨s,(i:Int)⟩ w=some (((kbp (wl w)).ev s i).1.isSome,(((kbp (wl w)).ev s i).2:Int)):=by
 unfold kaq
 have:=k2a s w i hs hw _ 0 i fuel rfl (by simpa using h0) hi (by rw [qar,k38];exact kbg (by omega))
 rw [qar] at this
 rw [show ((0:Int),(⟨s,(i:Int)⟩:S_literal_reader).f_at)=(((0:Nat):Int),(i:Int)) from rfl,this,qa]
 cases ((kbp (wl w)).ev s i).1 <;> rfl
theorem kaau (xs:List Int):(toBA xs).data.toList=xs.map fun n=>UInt8.ofNat n.toNat:=by
 have key:∀ (xs:List Int) (r:BA),(xs.foldl (fun r n=>r.push (UInt8.ofNat n.toNat)) r).data.toList=r.data.toList++xs.map fun n=>UInt8.ofNat n.toNat:=by
  intro xs
  induction xs with
  | nil=>intro r;simp
  | cons x xs ih=>intro r;rw [List.foldl_cons,ih];simp [ByteArray.push]
 unfold toBA
 rw [key]
 rfl
theorem k1e (xs:List Int):(toBA xs).size=xs.length:=by rw [ka4,kaau,qan]
theorem kt6 (s:BA) (i:Nat):IntKind.i32.wrap (atI s i)=atI s i:=by
 have:=kt4 s i
 simp [IntKind.wrap,IntKind.signed,IntKind.bits,IntKind.min,IntKind.max]
 omega
def tOut (x:Option (List Int)×Nat):BA×Bool×Int:=(x.1.elim ⟨#[]⟩ toBA,x.1.isSome,(x.2:Int))
theorem kacj (s:BA) (i0:Int) (least most:Nat) (hs:s.size≤4000000) (hm:most≤4000000):∀ (k:Nat) (acc:List Int) (i n:Nat),acc.length+k=most→i≤s.size→k<n →
  ∃ b,kaa (kaz ⟨s,i0⟩ (least:Int) (most:Int)) n ((i:Int),acc)=some b∧Sum.elim (fun j=>((⟨#[]⟩:BA),false,j)) id b=tOut ((kiy least k acc).ev s i):=by
 intro k
 induction k with
 | zero=>
  intro acc i n hk hi hn
  obtain ⟨n,rfl⟩:∃ m,n=m+1:=⟨n - 1,by omega⟩
  by_cases h:i<s.size
  ·have e3:((acc.length:Int) == (most:Int))=true:=by simp;omega
   unfold kiy
   simp only [Pr.ev]
   by_cases hq:atI s i=34∧least≤acc.length
   ·rw [if_pos hq]
    refine ⟨_,kdi (b := .inr (toBA acc,true,((i+1:Nat):Int))) ?_,rfl⟩
    have e1:(atI s i == 34)=true:=by rw [hq.1];rfl
    have e2:decide ((least:Int)≤(acc.length:Int))=true:=qe (by omega)
    simp only [kaz,kbb h,qd,(kix h).1,qa,e1,kbj,kaw,e2,w64s i (by omega),qg]
   ·rw [if_neg hq]
    refine ⟨_,kdi (b := .inr (⟨#[]⟩,false,(i:Int))) ?_,rfl⟩
    by_cases h34:atI s i=34
    ·have e1:(atI s i == 34)=true:=by rw [h34];rfl
     have e2:decide ((least:Int)≤(acc.length:Int))=false:=qc (by omega)
     simp only [kaz,kbb h,qd,(kix h).1,qa,e1,kbj,kaw,e2,qb,qg]
    ·have e1:(atI s i == 34)=false:=by simpa using h34
     simp only [kaz,kbb h,qd,(kix h).1,qa,e1,kbj,kaw,e3,qb,qg]
  ·have e1:decide ((i:Int)<(s.size:Int))=false:=qc (by omega)
   refine ⟨_,kdi (b := .inl (i:Int)) (by simp only [kaz,e1,qb]),?_⟩
   unfold kiy
   simp only [Pr.ev,krm (Nat.le_of_not_lt h)]
   rw [if_neg (by omega)]
   rfl
 | succ k ih=>
  intro acc i n hk hi hn
  obtain ⟨n,rfl⟩:∃ m,n=m+1:=⟨n - 1,by omega⟩
  by_cases h:i<s.size
  ·have e3:((acc.length:Int) == (most:Int))=false:=by simp;omega
   unfold kiy
   simp only [Pr.ev]
   by_cases hq:atI s i=34∧least≤acc.length
   ·rw [if_pos hq]
    refine ⟨_,kdi (b := .inr (toBA acc,true,((i+1:Nat):Int))) ?_,rfl⟩
    have e1:(atI s i == 34)=true:=by rw [hq.1];rfl
    have e2:decide ((least:Int)≤(acc.length:Int))=true:=qe (by omega)
    simp only [kaz,kbb h,qd,(kix h).1,qa,e1,kbj,kaw,e2,w64s i (by omega),qg]
   ·rw [if_neg hq]
    by_cases hb:atI s i=34∨atI s i<32∨126<atI s i
    ·rw [if_pos hb]
     refine ⟨_,kdi (b := .inr (⟨#[]⟩,false,(i:Int))) ?_,rfl⟩
     by_cases h34:atI s i=34
     ·have e1:(atI s i == 34)=true:=by rw [h34];rfl
      have e2:decide ((least:Int)≤(acc.length:Int))=false:=qc (by omega)
      simp only [kaz,kbb h,qd,(kix h).1,qa,e1,kbj,kaw,e2,qb,qg]
     ·have e1:(atI s i == 34)=false:=by simpa using h34
      have e4:klt (atI s i)=false:=by
       unfold klt
       rw [Bool.and_eq_false_iff,decide_eq_false_iff_not,decide_eq_false_iff_not]
       omega
      simp only [kaz,kbb h,qd,(kix h).1,qa,e1,kbj,kaw,e3,qb,qg,kt6,kos,e4,qat]
    ·rw [if_neg hb]
     have e1:(atI s i == 34)=false:=by simp;omega
     have e4:klt (atI s i)=true:=by
      unfold klt
      rw [qu,decide_eq_true_eq,decide_eq_true_eq]
      omega
     by_cases h92:atI s i=92
     ·rw [if_pos h92]
      have e5:(atI s i == 92)=true:=by rw [h92];rfl
      simp only [Pr.ev]
      by_cases hd:atI s (i+1)=34∨atI s (i+1)=92
      ·rw [if_pos hd]
       have e6:(bif (atI s (i+1) != 34) then (some (atI s (i+1) != 92)) else (some false):Option Bool)=some false:=by rcases hd with hd | hd <;> rw [hd] <;> rfl
       have hi':i+1<s.size:=kk3 (by omega)
       simp only [Pr.ev]
       obtain ⟨b,hb1,hb2⟩:=ih (acc++[atI s (i+1)]) (i+1+1) n (by simp;omega) (by omega) (by omega)
       refine ⟨b,?_,hb2⟩
       rw [← hb1]
       refine kih ?_
       simp only [kaz,kbb h,qd,(kix h).1,qa,e1,kbj,e3,qb,kt6,kos,e4,qae,e5,w64s i (by omega),kg6,e6,qf,kao,kb3,
        kk9 (b:=1) (xs:=acc) (ys:=[atI s (i+1)]) (by simp;omega),w64s (i+1) (by omega)]
      ·rw [if_neg hd]
       refine ⟨_,kdi (b := .inr (⟨#[]⟩,false,((i+1:Nat):Int))) ?_,rfl⟩
       have e6:(bif (atI s (i+1) != 34) then (some (atI s (i+1) != 92)) else (some false):Option Bool)=some true:=by
        have a1:(atI s (i+1) != 34)=true:=by simp;omega
        have a2:(atI s (i+1) != 92)=true:=by simp;omega
        rw [a1,a2];rfl
       simp only [kaz,kbb h,qd,(kix h).1,qa,e1,kbj,e3,qb,kt6,kos,e4,qae,e5,w64s i (by omega),kg6,e6,qg]
     ·rw [if_neg h92]
      have e5:(atI s i == 92)=false:=by simpa using h92
      simp only [Pr.ev]
      obtain ⟨b,hb1,hb2⟩:=ih (acc++[atI s i]) (i+1) n (by simp;omega) (by omega) (by omega)
      refine ⟨b,?_,hb2⟩
      rw [← hb1]
      refine kih ?_
      simp only [kaz,kbb h,qd,(kix h).1,qa,e1,kbj,e3,qb,kt6,kos,e4,qae,e5,qf,kao,kb3,
       kk9 (b:=1) (xs:=acc) (ys:=[atI s i]) (by simp;omega),w64s i (by omega)]
  ·have e1:decide ((i:Int)<(s.size:Int))=false:=qc (by omega)
   refine ⟨_,kdi (b := .inl (i:Int)) (by simp only [kaz,e1,qb]),?_⟩
   unfold kiy
   simp only [Pr.ev,krm (Nat.le_of_not_lt h)]
   rw [if_neg (by omega),if_pos (by omega)]
   rfl
theorem kwt {s:BA} {least most:Nat} (hs:s.size≤4000000) (hm:most≤4000000) {i:Nat} (hi:i≤s.size):
  kby ⟨s,(i:Int)⟩ (least:Int) (most:Int)=some (tOut ((kf2 least most).ev s i)):=by
 unfold kby
 rw [ktg hs (by decide) (by decide) hi]
 rw [show wl (⟨#[34]⟩:BA)=[34] from rfl]
 simp only [kbp,kf2,Pr.ev,qa]
 by_cases h:atI s i=34
 ·rw [if_pos h,if_pos h]
  simp only [Pr.ev]
  obtain ⟨b,hb1,hb2⟩:=kacj s i least most hs hm most [] (i+1) fuel (by simp) (kk3 (by omega)) (kbg (by omega))
  have hb1':kaa (kaz ⟨s,(i:Int)⟩ (least:Int) (most:Int)) fuel (((i+1:Nat):Int),([]:List Int))=some b:=hb1
  simp only [Option.isSome_some,qae,qb,hb1',qa,← hb2]
  cases b <;> rfl
 ·rw [if_neg h,if_neg h]
  rfl
theorem kyn {n:Int} (h0:0≤n) (h1:n≤255):w64 (wu8 n)=n:=by
 have e:wu8 n=n:=by
  simp [wu8,IntKind.wrap,IntKind.signed,IntKind.bits,IntKind.min,IntKind.max]
  omega
 rw [e];exact kei (by omega) (by omega)
theorem k5y (s:BA) (i0:Int) (hs:s.size≤4000000):∀ (f:Nat) (m:Int) (i n:Nat),f≤7→0<m→m≤1000000→(10:Int) ^ (7 - f)≤m→i≤s.size→f<n →
  kaa (kay ⟨s,i0⟩) n (m,atI s i,(i:Int))=some (((kcy f m).ev s i).1.getD 0,(((kcy f m).ev s i).2:Int))∧0<((kcy f m).ev s i).1.getD 0∧((kcy f m).ev s i).1.isSome=true∧((kcy f m).ev s i).1.getD 0≤1000000 ∧
  kaa (kfb s) n ((i:Int),m)=some ((((kcy f m).ev s i).2:Int),((kcy f m).ev s i).1.getD 0):=by
 intro f
 induction f with
 | zero=>intro m i n _ h0 h1 h2;exact absurd h2 (by simp;omega)
 | succ f ih=>
  intro m i n hf h0 h1 h2 hi hn
  obtain ⟨n,rfl⟩:∃ m,n=m+1:=⟨n - 1,by omega⟩
  have hr:=kt4 s i
  unfold kcy
  rw [if_neg (by omega)]
  simp only [Pr.ev]
  have ew:atI s i - 48≤255:=by omega
  by_cases hc:48≤atI s i∧atI s i≤57∧m*10+(atI s i - 48)≤1000000
  ·rw [if_pos hc]
   simp only [Pr.ev]
   have hf1:1≤f:=by
    rcases Nat.eq_zero_or_pos f with rfl | h
    ·exfalso
     have:(10:Int) ^ (7 - (0+1))=1000000:=by decide
     omega
    ·exact h
   have hp:(10:Int) ^ (7 - f)=10 ^ (7 - (f+1))*10:=by rw [← Int.pow_succ];congr 1;omega
   obtain ⟨k1,k2,k3,k4,k5⟩:=ih (m*10+(atI s i - 48)) (i+1) n (by omega) (by omega) (by omega) (by rw [hp];omega) (kk3 (by omega)) (by omega)
   have w1:=kyn (n:=atI s i - 48) (by omega) (by omega)
   have w2:w64 (10*m)=10*m:=kei (by omega) (by omega)
   have w2':w64 (m*10)=m*10:=kei (by omega) (by omega)
   have w3:w64 (10*m+(atI s i - 48))=m*10+(atI s i - 48):=by rw [Int.mul_comm 10 m];exact kei (by omega) (by omega)
   have w3':w64 (m*10+(atI s i - 48))=m*10+(atI s i - 48):=kei (by omega) (by omega)
   have d1:decide (48≤atI s i)=true:=qe hc.1
   have d2:decide (atI s i≤57)=true:=qe hc.2.1
   have d3:decide (m*10+(atI s i - 48)≤1000000)=true:=qe hc.2.2
   have d4:decide (0<m)=true:=qe h0
   refine ⟨?_,k2,k3,k4,?_⟩
   ·rw [← k1]
    refine kih ?_
    simp only [kay,d1,d2,d3,d4,w1,w2,w3,qd,qa,w64s i (by omega),kg6]
   ·rw [← k5]
    refine kih ?_
    simp only [kfb,k2n,d1,d2,d3,d4,w1,w2',w3',qd,qa,w64s i (by omega)]
  ·rw [if_neg hc]
   refine ⟨kdi ?_,h0,rfl,h1,kdi ?_⟩
   all_goals
    have d4:decide (0<m)=true:=qe h0
    by_cases c1:48≤atI s i
    ·by_cases c2:atI s i≤57
     ·have w1:=kyn (n:=atI s i - 48) (by omega) (by omega)
      have w2:w64 (10*m)=10*m:=kei (by omega) (by omega)
      have w2':w64 (m*10)=m*10:=kei (by omega) (by omega)
      have w3:w64 (10*m+(atI s i - 48))=m*10+(atI s i - 48):=by rw [Int.mul_comm 10 m];exact kei (by omega) (by omega)
      have w3':w64 (m*10+(atI s i - 48))=m*10+(atI s i - 48):=kei (by omega) (by omega)
      have d1:decide (48≤atI s i)=true:=qe c1
      have d2:decide (atI s i≤57)=true:=qe c2
      have d3:decide (m*10+(atI s i - 48)≤1000000)=false:=qc (by omega)
      simp only [kay,kfb,k2n,d1,d2,d3,d4,w1,w2,w2',w3,w3',qd,qb,qa]
      rfl
     ·have d1:decide (48≤atI s i)=true:=qe c1
      have d2:decide (atI s i≤57)=false:=qc c2
      simp only [kay,kfb,k2n,d1,d2,d4,qd,qb,qa]
      rfl
    ·have d1:decide (48≤atI s i)=false:=qc c1
     simp only [kay,kfb,k2n,d1,d4,qd,qb,qa]
     rfl
def nOut (x:Option Int×Nat):Bool×Int×Int:=(x.1.isSome,(x.2:Int),x.1.getD 0)
theorem k67 (s:BA) (f i:Nat):(kcy f 0).ev s i=(some 0,i):=by
 cases f with
 | zero=>rfl
 | succ f=>unfold kcy;rw [if_pos (by omega)];rfl
theorem k17 {s:BA} (hs:s.size≤4000000) {i:Nat} (hi:i≤s.size):kek ⟨s,(i:Int)⟩=some (nOut (numP.ev s i)):=by
 have key:∀ (neg:Bool) (sg:Int) (j:Nat),j≤s.size→sg=(if neg=true then -1 else 1)→¬ (neg=false∧atI s j=48) →
   (Option.bind (kaa (kay ⟨s,(i:Int)⟩) fuel (0,atI s j,(j:Int))) fun (v13:Int×Int)=>(some ((decide (0<v13.1)),v13.2,(w64 (sg*v13.1))):Option (Bool×Int×Int)))=some (nOut ((unsP neg).ev s j)):=by
  intro neg sg j hj hsg hne
  have hr:=kt4 s j
  obtain ⟨n,hn⟩:∃ n,fuel=n+1:=⟨_,kne⟩
  have hn9:9<n:=by have:=kbg (n:=10) (by omega);omega
  unfold unsP
  simp only [Pr.ev]
  by_cases hb:atI s j<48∨57<atI s j∨(neg=true∧atI s j=48)
  ·rw [if_pos hb]
   have:kaa (kay ⟨s,(i:Int)⟩) fuel (0,atI s j,(j:Int))=some (0,(j:Int)):=by
    rw [hn]
    refine kdi ?_
    rcases hb with hb | hb | hb
    ·have d1:decide (48≤atI s j)=false:=qc (by omega)
     simp only [kay,d1,qb,qa]
    ·have d1:decide (48≤atI s j)=true:=qe (by omega)
     have d2:decide (atI s j≤57)=false:=qc (by omega)
     simp only [kay,d1,d2,qd,qb,qa]
    ·have d1:decide (48≤atI s j)=true:=qe (by omega)
     have d2:decide (atI s j≤57)=true:=qe (by omega)
     have d3:decide (48<atI s j)=false:=qc (by omega)
     simp only [kay,d1,d2,d3,show decide ((0:Int)<0)=false from rfl,qd,qb,qa]
   rw [this,qa,show w64 (sg*0)=0 by rw [Int.mul_zero];rfl]
   rfl
  ·rw [if_neg hb]
   have g1:48≤atI s j:=Int.not_lt.1 fun h=>hb (.inl h)
   have g2:atI s j≤57:=Int.not_lt.1 fun h=>hb (.inr (.inl h))
   have g3:atI s j≠48:=fun h=>by
    cases hn:neg with
    | true=>exact hb (.inr (.inr ⟨hn,h⟩))
    | false=>exact hne ⟨hn,h⟩
   have h48:48<atI s j:=by omega
   simp only [Pr.ev,kik]
   obtain ⟨k1,k2,k3,k4,k5⟩:=k5y s i hs 7 (atI s j - 48) (j+1) n (by omega) (by omega) (by omega) (by simp;omega) (kk3 (by omega)) (by omega)
   have w1:=kyn (n:=atI s j - 48) (by omega) (by omega)
   have:kaa (kay ⟨s,(i:Int)⟩) fuel (0,atI s j,(j:Int))=some (((kcy 7 (atI s j - 48)).ev s (j+1)).1.getD 0,(((kcy 7 (atI s j - 48)).ev s (j+1)).2:Int)):=by
    rw [hn,← k1]
    refine kih ?_
    have d1:decide (48≤atI s j)=true:=qe (by omega)
    have d2:decide (atI s j≤57)=true:=qe (by omega)
    have d3:decide (48<atI s j)=true:=qe (by omega)
    have d5:decide (atI s j - 48≤1000000)=true:=qe (by omega)
    have w2:w64 (10*0)=0:=rfl
    have w3:w64 (0+(atI s j - 48))=atI s j - 48:=by rw [Int.zero_add];exact kei (by omega) (by omega)
    simp only [kay,d1,d2,d3,d5,w1,w2,w3,show decide ((0:Int)<0)=false from rfl,qd,qb,qa,w64s j (by omega),kg6]
   rw [this,qa]
   generalize (kcy 7 (atI s j - 48)).ev s (j+1)=x at k2 k3 k4 ⊢
   obtain ⟨_ | m,j'⟩:=x
   ·cases k3
   ·simp only [qap] at k2 k4 ⊢
    rw [qe k2]
    have:w64 (sg*m)=if neg=true then -m else m:=by
     rw [hsg]
     cases neg with
     | true=>simp only [if_true];rw [show (-1:Int)*m = -m by omega];exact kei (by omega) (by omega)
     | false=>simp only [qax,if_false];rw [Int.one_mul];exact kei (by omega) (by omega)
    rw [this]
    rfl
 unfold kek numP
 simp only [Pr.ev,kg6,qa]
 by_cases h45:atI s i=45
 ·have e1:(atI s i == 45)=true:=by rw [h45];rfl
  rw [if_pos h45]
  simp only [Pr.ev]
  rw [← key true (-1) (i+1) (kk3 (by omega)) rfl (fun h=>by cases h.1)]
  simp only [e1,qd,qa,w64s i (by omega),show ((-1:Int) == 1)=false from rfl,qb,kg6]
 ·have e1:(atI s i == 45)=false:=by simpa using h45
  rw [if_neg h45]
  by_cases h48:atI s i=48
  ·have e2:(atI s i == 48)=true:=by rw [h48];rfl
   simp only [e1,e2,qd,qb,qa,show ((1:Int) == 1)=true from rfl,kg6,w64s i (by omega)]
   unfold unsP
   simp only [Pr.ev,h48]
   rw [if_neg (by simp)]
   simp only [Pr.ev,kik,show (48:Int) - 48=0 from rfl,k67]
   rfl
  ·have e2:(atI s i == 48)=false:=by simpa using h48
   rw [← key false 1 i hi rfl (fun h=>h48 h.2)]
   simp only [e1,e2,qd,qb,qa,show ((1:Int) == 1)=true from rfl,kg6]
theorem kab5 (s:BA) (i:Nat):kmw (atI s i)=some (hexV (atI s i))∧knz (atI s i)=some (hexV (atI s i)):=by
 have hr:=kt4 s i
 have key:∀ n:Fin 256,kmw ((n.val:Nat):Int)=some (hexV ((n.val:Nat):Int))∧knz ((n.val:Nat):Int)=some (hexV ((n.val:Nat):Int)):=by decide
 have:=key ⟨(atI s i).toNat,by omega⟩
 rwa [show (((atI s i).toNat:Nat):Int)=atI s i by omega] at this
theorem k16 {s:BA} (hs:s.size≤4000000) (i0:Int) {m:Int} {j k:Nat} (hm:0≤m∧m≤255) (hj:j<2) (hk:k≤s.size):
  ked ⟨s,i0⟩ (m,(j:Int),(k:Int))=some (if hexV (atI s k)<0 then .inr (.inr (k:Int)) else .inl (16*m+hexV (atI s k),((j+1:Nat):Int),((k+1:Nat):Int))):=by
 have e0:decide ((j:Int)<2)=true:=qe (by omega)
 have hx:hexV (atI s k)≤15:=by unfold hexV;split <;> (try split) <;> omega
 by_cases h:hexV (atI s k)<0
 ·rw [if_pos h]
  have d1:decide (hexV (atI s k)<0)=true:=qe h
  cases hd:decide ((s.size:Int)≤(k:Int)) <;>
   simp only [ked,e0,qd,qb,kg6,qa,(kab5 s k).1,hd,d1]
 ·rw [if_neg h]
  have d1:decide (hexV (atI s k)<0)=false:=qc h
  have hk':k<s.size:=kk3 fun h0=>h (by rw [h0];decide)
  have hd:decide ((s.size:Int)≤(k:Int))=false:=qc (by omega)
  have w1:w64 (16*m)=16*m:=kei (by omega) (by omega)
  have w2:w64 (16*m+hexV (atI s k))=16*m+hexV (atI s k):=kei (by omega) (by omega)
  simp only [ked,e0,qd,qb,kg6,qa,(kab5 s k).1,hd,d1,w1,w2,w64s j (by omega),w64s k (by omega)]
theorem kaiu {s:BA} (hs:s.size≤4000000) {i:Nat} (hi:i+2≤s.size):kgq ⟨s,(i:Int)⟩=some ((bitsP.ev s (i+2)).1.isSome,((bitsP.ev s (i+2)).2:Int),(bitsP.ev s (i+2)).1.elim 0 (fun _=>4),(bitsP.ev s (i+2)).1.getD 0):=by
 obtain ⟨n,hn⟩:∃ n,fuel=n+3:=⟨18446744073709551613,rfl⟩
 have ew:w64 ((i:Int)+2)=((i+2:Nat):Int):=kei (by omega) (by omega)
 have h1:ked ⟨s,(i:Int)⟩ (0,0,((i+2:Nat):Int))=_:=k16 hs (i:Int) (m:=0) (j:=0) (k:=i+2) (by omega) (by omega) hi
 unfold kgq
 rw [show (⟨s,(i:Int)⟩:S_literal_reader).f_at=(i:Int) from rfl,ew,hn]
 unfold bitsP
 simp only [Pr.ev]
 by_cases h:hexV (atI s (i+2))<0
 ·rw [if_pos h] at h1 ⊢
  rw [kdi (n:=n+2) h1]
  rfl
 ·rw [if_neg h] at h1 ⊢
  have hx:hexV (atI s (i+2))≤15:=by unfold hexV;split <;> (try split) <;> omega
  have hk':i+2<s.size:=kk3 fun h0=>h (by rw [h0];decide)
  have h2:=k16 hs (i:Int) (m:=16*0+hexV (atI s (i+2))) (j:=1) (k:=i+2+1) (by omega) (by omega) hk'
  rw [kih (n:=n+2) h1]
  simp only [Pr.ev]
  by_cases h':hexV (atI s (i+2+1))<0
  ·rw [if_pos h'] at h2 ⊢
   rw [kdi (n:=n+1) h2]
   rfl
  ·rw [if_neg h'] at h2 ⊢
   rw [kih (n:=n+1) h2]
   rw [kdi (n:=n) (b := .inl (16*(16*0+hexV (atI s (i+2)))+hexV (atI s (i+2+1)),((i+2+1+1:Nat):Int))) rfl]
   simp only [qa,qf,Pr.ev,Option.isSome_some,Option.elim_some,qap]
   rw [show 16*(16*0+hexV (atI s (i+2)))+hexV (atI s (i+2+1))=hexV (atI s (i+2))*16+hexV (atI s (i+2+1)) by omega]
theorem kr1 {τ β:Type} {step:τ→Option (τ ⊕ β)} {s:BA} {e:Int} {least most:Nat} {elem:List Va→Pr Va} (hg:∀ l,(elem l).good false) (mk:Nat→List Va→τ) (Q:Option (List Va)×Nat→β→Prop) (Inv:List Va→Prop)
  (hi:∀ acc i v j,Inv acc→(elem acc).ev s i=(some v,j)→Inv (acc++[v]))
  (hstep:∀ i acc x,i≤s.size→acc.length<most→Inv acc→(elem acc).ev s i=x →
   (x.1=none→∃ b,step (mk i acc)=some (.inr b)∧Q (none,x.2) b) ∧
   ∀ v,x.1=some v →
    ((atI s x.2=e∧least≤acc.length+1)→∃ b,step (mk i acc)=some (.inr b)∧Q (some (acc++[v]),x.2+1) b) ∧
    (¬ (atI s x.2=e∧least≤acc.length+1)→acc.length+1=most→∃ b,step (mk i acc)=some (.inr b)∧Q (none,x.2) b) ∧
    (¬ (atI s x.2=e∧least≤acc.length+1)→acc.length+1≠most→((kbp [44,32]).ev s x.2).1=none→∃ b,step (mk i acc)=some (.inr b)∧Q (none,((kbp [44,32]).ev s x.2).2) b) ∧
    (¬ (atI s x.2=e∧least≤acc.length+1)→acc.length+1≠most→((kbp [44,32]).ev s x.2).1≠none→step (mk i acc)=some (.inl (mk ((kbp [44,32]).ev s x.2).2 (acc++[v]))))):
  ∀ k acc i n,acc.length+1+k=most→Inv acc→i≤s.size→k<n→∃ b,kaa step n (mk i acc)=some b∧Q (((elem acc).bind fun v=>kbo e least elem k (acc++[v])).ev s i) b:=by
 intro k
 induction k with
 | zero=>
  intro acc i n hk hI hi' hn
  obtain ⟨n,rfl⟩:∃ m,n=m+1:=⟨n - 1,by omega⟩
  obtain ⟨h1,h2⟩:=hstep i acc _ hi' (by omega) hI rfl
  rw [kik]
  rcases hx:(elem acc).ev s i with ⟨_ | v,j⟩
  ·rw [hx] at h1
   obtain ⟨b,hb,hq⟩:=h1 rfl
   exact ⟨b,kdi hb,hq⟩
  ·rw [hx] at h2
   obtain ⟨q1,q2,_⟩:=h2 v rfl
   show ∃ b,_∧Q ((kbo e least elem 0 (acc++[v])).ev s j) b
   unfold kbo
   simp only [Pr.ev,ql,qau]
   by_cases hc:atI s j=e∧least≤acc.length+1
   ·obtain ⟨b,hb,hq⟩:=q1 hc
    rw [if_pos hc]
    exact ⟨b,kdi hb,hq⟩
   ·obtain ⟨b,hb,hq⟩:=q2 hc (by omega)
    rw [if_neg hc]
    exact ⟨b,kdi hb,hq⟩
 | succ k ih=>
  intro acc i n hk hI hi' hn
  obtain ⟨n,rfl⟩:∃ m,n=m+1:=⟨n - 1,by omega⟩
  obtain ⟨h1,h2⟩:=hstep i acc _ hi' (by omega) hI rfl
  rw [kik]
  have hle:=kq7 (s:=s) (hg acc) hi'
  rcases hx:(elem acc).ev s i with ⟨_ | v,j⟩
  ·rw [hx] at h1
   obtain ⟨b,hb,hq⟩:=h1 rfl
   exact ⟨b,kdi hb,hq⟩
  ·rw [hx] at h2 hle
   obtain ⟨q1,q2,q3,q4⟩:=h2 v rfl
   show ∃ b,_∧Q ((kbo e least elem (k+1) (acc++[v])).ev s j) b
   unfold kbo
   simp only [Pr.ev,ql,qau]
   by_cases hc:atI s j=e∧least≤acc.length+1
   ·obtain ⟨b,hb,hq⟩:=q1 hc
    rw [if_pos hc]
    exact ⟨b,kdi hb,hq⟩
   ·rw [if_neg hc,if_neg (by omega),kik]
    have hle2:=kq7 (s:=s) (knh (w:=[44,32]) (by decide)) hle.2
    rcases hw:(kbp [44,32]).ev s j with ⟨_ | u,j'⟩
    ·rw [hw] at q3
     obtain ⟨b,hb,hq⟩:=q3 hc (by omega) rfl
     exact ⟨b,kdi hb,hq⟩
    ·rw [hw] at q4 hle2
     have hb:=q4 hc (by omega) (by exact fun h=>by cases h)
     rw [kih hb]
     exact ih (acc++[v]) j' n (by simp;omega) (hi acc i v j hI hx) hle2.2 (by omega)
def lQ (x:Option (List Va)×Nat) (b:List Va×Bool×Int):Prop:=b.2.1=x.1.isSome∧b.2.2=(x.2:Int)∧∀ l,x.1=some l→b.1=l
theorem kacs {s:BA} (hs:s.size≤4000000) {j:Nat} (hj:j≤s.size):kaq ⟨s,(j:Int)⟩ (⟨#[44,32]⟩:BA)=some (((kbp [44,32]).ev s j).1.isSome,(((kbp [44,32]).ev s j).2:Int)):=ktg hs (by decide) (by decide) hj
theorem kwv {s:BA} (hs:s.size≤4000000) {i:Nat} (hi:i≤s.size) (c:UInt8) (hc:c≠0):kaq ⟨s,(i:Int)⟩ (⟨#[c]⟩:BA)=some (if atI s i=(c.toNat:Int) then (true,((i+1:Nat):Int)) else (false,(i:Int))):=by
 have hc0:(c.toNat:Int)≠0:=by
  intro h
  apply hc
  have:c.toNat=0:=by omega
  exact UInt8.toNat.inj this
 rw [ktg hs (by show 1≤1000000;omega) (by intro x hx;simp [wl] at hx;rw [hx];exact hc0) hi,show wl (⟨#[c]⟩:BA)=[(c.toNat:Int)] from rfl]
 simp only [kbp,Pr.ev]
 by_cases h:atI s i=(c.toNat:Int)
 ·rw [if_pos h,if_pos h];rfl
 ·rw [if_neg h,if_neg h];rfl
def k20 {γ:Type} (s:BA) (j:Nat) (c:Int) (most len:Nat) (A B C:Int→γ):Option γ:=
 some (if atI s j=c then A ((j+1:Nat):Int) else if len=most then B (j:Int) else if ((kbp [44,32]).ev s j).1=none then B (((kbp [44,32]).ev s j).2:Int) else C (((kbp [44,32]).ev s j).2:Int))
theorem k0i {γ:Type} {s:BA} (hs:s.size≤4000000) {j:Nat} (hj:j≤s.size) (c:Int) (hc:c≠0) (most:Nat) (acc:List Va) (A B C:Int→γ):
  (Option.bind (kau ⟨s,(j:Int)⟩) fun v6=>(bif (v6 == c) then some (A (w64 ((j:Int)+1))) else (Option.bind ((bif ((List.length acc:Int) == (most:Int)) then (some (true,(j:Int))) else (Option.bind (kaq ⟨s,(j:Int)⟩ (⟨#[44,32]⟩:BA)) fun v7=>(some ((!v7.1),v7.2)))):Option ((Bool)×(Int))) fun (v9:(Bool)×(Int))=>(bif v9.1 then some (B v9.2) else some (C v9.2))))) =
   k20 s j c most acc.length A B C:=by
 unfold k20
 rw [kg6,qa]
 by_cases h:atI s j=c
 ·rw [if_pos h,show (atI s j == c)=true by rw [h];simp,w64s j (by omega)];rfl
 ·rw [if_neg h,show (atI s j == c)=false by simpa using h,qb]
  by_cases hl:acc.length=most
  ·rw [if_pos hl,show ((acc.length:Int) == (most:Int))=true by simp;omega];rfl
  ·rw [if_neg hl,show ((acc.length:Int) == (most:Int))=false by simp;omega,qb,kacs hs hj]
   cases ((kbp [44,32]).ev s j).1 <;> rfl
theorem k6w (s:BA) (i:Nat):intE.ev s i=((numP.ev s i).1.map fun a=>Va.mk 2 a ⟨#[]⟩ [],(numP.ev s i).2):=by
 unfold intE;rw [kik]
 rcases numP.ev s i with ⟨_ | a,j⟩ <;> rfl
theorem kyp (s:BA) (i:Nat):textE.ev s i=(((kf2 0 64).ev s i).1.map fun a=>Va.mk 3 0 (toBA a) [],((kf2 0 64).ev s i).2):=by
 unfold textE;rw [kik]
 rcases (kf2 0 64).ev s i with ⟨_ | a,j⟩ <;> rfl
theorem kt2 {τ β:Type} {step:τ→Option (τ ⊕ β)} {s:BA} {c:Int} {most:Nat} {elem:List Va→Pr Va} (hg:∀ l,(elem l).good false) {mk:Nat→List Va→τ} {Q:Option (List Va)×Nat→β→Prop} {Inv:List Va→Prop}
  (h:∀ i acc,i≤s.size→acc.length<most→Inv acc→(∀ j,(elem acc).ev s i=(none,j)→∃ b,step (mk i acc)=some (.inr b)∧Q (none,j) b) ∧
   ∀ v j,(elem acc).ev s i=(some v,j)→∃ A B C:Int→τ ⊕ β,step (mk i acc)=k20 s j c most (acc++[v]).length A B C ∧
    (∀ z:Nat,∃ b,A (z:Int) = .inr b∧Q (some (acc++[v]),z) b)∧(∀ z:Nat,∃ b,B (z:Int) = .inr b∧Q (none,z) b)∧∀ z:Nat,C (z:Int) = .inl (mk z (acc++[v]))):
  ∀ i acc x,i≤s.size→acc.length<most→Inv acc→(elem acc).ev s i=x →
   (x.1=none→∃ b,step (mk i acc)=some (.inr b)∧Q (none,x.2) b) ∧
   ∀ v,x.1=some v →
    ((atI s x.2=c∧0≤acc.length+1)→∃ b,step (mk i acc)=some (.inr b)∧Q (some (acc++[v]),x.2+1) b) ∧
    (¬ (atI s x.2=c∧0≤acc.length+1)→acc.length+1=most→∃ b,step (mk i acc)=some (.inr b)∧Q (none,x.2) b) ∧
    (¬ (atI s x.2=c∧0≤acc.length+1)→acc.length+1≠most→((kbp [44,32]).ev s x.2).1=none→∃ b,step (mk i acc)=some (.inr b)∧Q (none,((kbp [44,32]).ev s x.2).2) b) ∧
    (¬ (atI s x.2=c∧0≤acc.length+1)→acc.length+1≠most→((kbp [44,32]).ev s x.2).1≠none→step (mk i acc)=some (.inl (mk ((kbp [44,32]).ev s x.2).2 (acc++[v])))):=by
 intro i acc x hi hl hI hx
 obtain ⟨h1,h2⟩:=h i acc hi hl hI
 obtain ⟨_ | v,j⟩:=x
 ·exact ⟨fun _=>h1 j hx,fun v h=>by cases h⟩
 ·refine ⟨fun h=>(by cases h),fun v' hv=>?_⟩
  obtain rfl:=qp hv
  obtain ⟨A,B,C,e,a1,a2,a3⟩:=h2 v j hx
  unfold k20 at e
  rw [ql,qau] at e
  refine ⟨fun hc=>?_,fun hc hl=>?_,fun hc hl hw=>?_,fun hc hl hw=>?_⟩
  ·rw [if_pos hc.1] at e
   obtain ⟨b,hb,hq⟩:=a1 (j+1)
   exact ⟨b,by rw [e,hb],hq⟩
  ·rw [if_neg (fun h=>hc ⟨h,qx _⟩),if_pos hl] at e
   obtain ⟨b,hb,hq⟩:=a2 j
   exact ⟨b,by rw [e,hb],hq⟩
  ·rw [if_neg (fun h=>hc ⟨h,qx _⟩),if_neg hl,if_pos hw] at e
   obtain ⟨b,hb,hq⟩:=a2 ((kbp [44,32]).ev s j).2
   exact ⟨b,by rw [e,hb],hq⟩
  ·rw [if_neg (fun h=>hc ⟨h,qx _⟩),if_neg hl,if_neg hw] at e
   rw [e,a3]
theorem kaat {s:BA} (hs:s.size≤4000000) (i0:Int):∀ k (acc:List Va) (i n:Nat),acc.length+1+k=16→True→i≤s.size→k<n →
  ∃ b,kaa (kfp ⟨s,i0⟩ 93 16) n ((i:Int),acc)=some b∧lQ ((intE.bind fun v=>kbo 93 0 (fun _=>intE) k (acc++[v])).ev s i) b:=by
 refine kr1 (least:=0) (elem:=fun _=>intE) (fun _=>kpq) (fun i acc=>((i:Int),acc)) lQ (fun _=>True) (fun _ _ _ _ _ _=>trivial) (kt2 (fun _=>kpq) ?_)
 intro i acc hi hl _
 have hn:=k17 hs hi
 have hle:=kq7 (s:=s) k18 hi
 simp only [k6w]
 generalize numP.ev s i=y at hn hle
 obtain ⟨_ | m,j⟩:=y
 ·refine ⟨fun j' h=>?_,fun v j' h=>by cases h⟩
  cases h
  exact ⟨([],false,(j:Int)),by simp only [kfp,hn,nOut,qa,Option.isSome_none,qat,qd],rfl,rfl,fun l h=>by cases h⟩
 ·refine ⟨fun j' h=>(by cases h),fun v j' h=>?_⟩
  cases h
  have ha:=kk9 (b:=56) (xs:=acc) (ys:=[Va.mk 2 m ⟨#[]⟩ []]) (by simp;omega)
  refine ⟨fun z => .inr (acc++[Va.mk 2 m ⟨#[]⟩ []],true,z),fun z => .inr ([],false,z),fun z => .inl (z,acc++[Va.mk 2 m ⟨#[]⟩ []]),Eq.trans ?_ (k0i hs hle.2 93 (by decide) 16 (acc++[Va.mk 2 m ⟨#[]⟩ []]) _ _ _),fun z=>⟨_,rfl,rfl,rfl,fun l h=>by cases h;rfl⟩,fun z=>⟨_,rfl,rfl,rfl,fun l h=>by cases h⟩,fun z=>rfl⟩
  simp only [kfp,hn,nOut,qa,Option.isSome_some,qae,qb,qap,ha]
  rfl
theorem k7u {s:BA} (hs:s.size≤4000000) (i0:Int):∀ k (acc:List Va) (i n:Nat),acc.length+1+k=16→True→i≤s.size→k<n →
  ∃ b,kaa (kfj ⟨s,i0⟩ 125 16) n ((i:Int),acc)=some b∧lQ ((textE.bind fun v=>kbo 125 0 (fun _=>textE) k (acc++[v])).ev s i) b:=by
 refine kr1 (least:=0) (elem:=fun _=>textE) (fun _=>kl7) (fun i acc=>((i:Int),acc)) lQ (fun _=>True) (fun _ _ _ _ _ _=>trivial) (kt2 (fun _=>kl7) ?_)
 intro i acc hi hl _
 have hn:=kwt (least:=0) (most:=64) hs (by decide) hi
 have hle:=kq7 (s:=s) (kqe 0 64) hi
 simp only [kyp]
 have hn':kby ⟨s,(i:Int)⟩ 0 64=some (tOut ((kf2 0 64).ev s i)):=hn
 generalize (kf2 0 64).ev s i=y at hn' hle
 obtain ⟨_ | m,j⟩:=y
 ·refine ⟨fun j' h=>?_,fun v j' h=>by cases h⟩
  cases h
  exact ⟨([],false,(j:Int)),by simp only [kfj,kcn,hn',tOut,qa,Option.isSome_none,qat,qd],rfl,rfl,fun l h=>by cases h⟩
 ·refine ⟨fun j' h=>(by cases h),fun v j' h=>?_⟩
  cases h
  have ha:=kk9 (b:=56) (xs:=acc) (ys:=[Va.mk 3 0 (toBA m) []]) (by simp;omega)
  refine ⟨fun z => .inr (acc++[Va.mk 3 0 (toBA m) []],true,z),fun z => .inr ([],false,z),fun z => .inl (z,acc++[Va.mk 3 0 (toBA m) []]),Eq.trans ?_ (k0i hs hle.2 125 (by decide) 16 (acc++[Va.mk 3 0 (toBA m) []]) _ _ _),fun z=>⟨_,rfl,rfl,rfl,fun l h=>by cases h;rfl⟩,fun z=>⟨_,rfl,rfl,rfl,fun l h=>by cases h⟩,fun z=>rfl⟩
  simp only [kfj,kcn,hn',tOut,qa,Option.isSome_some,qae,qb,Option.elim_some,ha]
  rfl
theorem kajc {s:BA} (hs:s.size≤4000000) {i:Nat} (hi:i≤s.size) (h91:atI s i=91):∃ b,kgr ⟨s,(i:Int)⟩ 91 93 16=some b∧lQ ((kbo 93 0 (fun _=>intE) 16 []).ev s (i+1)) b:=by
 have hi':i+1≤s.size:=kk3 (by omega)
 have ho:=kwv hs hi 91 (by decide)
 rw [if_pos (by rw [h91];rfl)] at ho
 have ho':kaq ⟨s,(i:Int)⟩ (Utf8.encode 91)=some (true,((i+1:Nat):Int)):=ho
 unfold kgr kbo
 simp only [ho',qa,qae,qb,kg6,Pr.ev]
 by_cases hc:atI s (i+1)=93
 ·rw [if_pos ⟨hc,qw _⟩,show (atI s (i+1) == 93)=true by rw [hc];rfl]
  exact ⟨_,rfl,rfl,w64s (i+1) (by omega),fun l h=>by cases h;rfl⟩
 ·rw [if_neg (fun h=>hc h.1),show (atI s (i+1) == 93)=false by simpa using hc,qb]
  obtain ⟨b,hb,hq⟩:=kaat hs i 15 [] (i+1) fuel rfl trivial hi' (kbg (by omega))
  rw [hb]
  refine ⟨b,rfl,?_⟩
  simpa [Pr.bind] using hq
theorem kada {s:BA} (hs:s.size≤4000000) {i:Nat} (hi:i≤s.size) (h91:atI s i=123):∃ b,kf7 ⟨s,(i:Int)⟩ 123 125 16=some b∧lQ ((kbo 125 0 (fun _=>textE) 16 []).ev s (i+1)) b:=by
 have hi':i+1≤s.size:=kk3 (by omega)
 have ho:=kwv hs hi 123 (by decide)
 rw [if_pos (by rw [h91];rfl)] at ho
 have ho':kaq ⟨s,(i:Int)⟩ (Utf8.encode 123)=some (true,((i+1:Nat):Int)):=ho
 unfold kf7 kbo
 simp only [ho',qa,qae,qb,kg6,Pr.ev]
 by_cases hc:atI s (i+1)=125
 ·rw [if_pos ⟨hc,qw _⟩,show (atI s (i+1) == 125)=true by rw [hc];rfl]
  exact ⟨_,rfl,rfl,w64s (i+1) (by omega),fun l h=>by cases h;rfl⟩
 ·rw [if_neg (fun h=>hc h.1),show (atI s (i+1) == 125)=false by simpa using hc,qb]
  obtain ⟨b,hb,hq⟩:=k7u hs i 15 [] (i+1) fuel rfl trivial hi' (kbg (by omega))
  rw [hb]
  refine ⟨b,rfl,?_⟩
  simpa [Pr.bind] using hq
def knu:List Va→Nat
 | []=>0
 | r::_=>r.items.length
def InvR (acc:List Va):Prop:=∀ r∈acc,1≤r.items.length∧r.items.length≤8
def rQ (cols:Nat) (x:Option (List Va)×Nat) (b:Bool×Int×Int×Int×List Va):Prop:=b.1=x.1.isSome∧b.2.1=(x.2:Int)∧∀ l,x.1=some l→b.2.2.1=(l.length:Int)∧b.2.2.2.1=6∧b.2.2.2.2=l
def rowG (least most:Nat):Pr Va := .peek fun c=>if c=123 then .adv ((kbo 125 least (fun _=>textE) most []).bind fun l => .done (Va.mk 6 0 ⟨#[]⟩ l)) else .fail
theorem kae7 {s:BA} (hs:s.size≤4000000) (i0:Int) (cols least most:Nat) (hcl:(cols=0∧least=1∧most=8)∨(1≤cols∧cols≤8∧least=cols∧most=cols)):∀ k (acc:List Va) (i n:Nat),acc.length+1+k=most→True→i≤s.size→k<n →
  ∃ b,kaa (kdt ⟨s,i0⟩ (cols:Int)) n ((i:Int),acc)=some b∧rQ cols ((textE.bind fun v=>kbo 125 least (fun _=>textE) k (acc++[v])).ev s i) b:=by
 refine kr1 (least:=least) (elem:=fun _=>textE) (fun _=>kl7) (fun i acc=>((i:Int),acc)) (rQ cols) (fun _=>True) (fun _ _ _ _ _ _=>trivial) ?_
 intro i acc x hi hl _ hx
 have hn:=kwt (least:=0) (most:=64) hs (by decide) hi
 have hle:=kq7 (s:=s) (kqe 0 64) hi
 simp only [kyp] at hx
 have hn':kby ⟨s,(i:Int)⟩ 0 64=some (tOut ((kf2 0 64).ev s i)):=hn
 generalize (kf2 0 64).ev s i=y at hn' hle hx
 have hm8:most≤8:=by omega
 obtain ⟨_ | m,j⟩:=y
 ·subst hx
  refine ⟨fun _=>?_,fun v h=>by cases h⟩
  exact ⟨(false,(j:Int),(cols:Int),0,[]),by simp only [kdt,kcn,hn',tOut,qa,Option.isSome_none,qat,qd],rfl,rfl,fun l h=>by cases h⟩
 ·subst hx
  refine ⟨fun h=>(by cases h),fun v hv=>?_⟩
  obtain rfl:=qp hv
  simp only
  have hj:=hle.2
  simp only at hj
  have ha:=kk9 (b:=56) (xs:=acc) (ys:=[Va.mk 3 0 (toBA m) []]) (by simp;omega)
  have hlen:((List.length (acc++[Va.mk 3 0 (toBA m) []]):Nat):Int)=((acc.length+1:Nat):Int):=by rw [ql];rfl
  have e7:(bif (atI s j == 125) then (bif ((cols:Int) == 0) then (some (true)) else (some (((acc.length+1:Nat):Int) == (cols:Int)))) else (some (false)):Option Bool)=some (decide (atI s j=125∧least≤acc.length+1)):=by
   by_cases h:atI s j=125
   ·rw [show (atI s j == 125)=true by rw [h];rfl,qd]
    rcases hcl with ⟨h1,h2,h3⟩ | ⟨h1,h2,h3,h4⟩
    ·rw [show ((cols:Int) == 0)=true by simp;omega,qe ⟨h,by omega⟩];rfl
    ·rw [show ((cols:Int) == 0)=false by simp;omega,qb]
     congr 1
     by_cases hc:acc.length+1=cols
     ·rw [qe ⟨h,by omega⟩,hc];simp
     ·rw [qc (by omega)];simp;omega
   ·rw [show (atI s j == 125)=false by simpa using h,qb,qc (fun h'=>h h'.1)]
  have e8:(bif (((acc.length+1:Nat):Int) == 8) then (some (true,(j:Int))) else (bif (((acc.length+1:Nat):Int) == (cols:Int)) then (some (true,(j:Int))) else (Option.bind (kaq ⟨s,(j:Int)⟩ (⟨#[44,32]⟩:BA)) fun v8=>(some ((!v8.1),v8.2)))):Option (Bool×Int)) =
    if acc.length+1=most then some (true,(j:Int)) else some (!((kbp [44,32]).ev s j).1.isSome,(((kbp [44,32]).ev s j).2:Int)):=by
   by_cases hc:acc.length+1=most
   ·rw [if_pos hc]
    rcases hcl with ⟨h1,h2,h3⟩ | ⟨h1,h2,h3,h4⟩
    ·rw [show (((acc.length+1:Nat):Int) == 8)=true by rw [hc,h3];rfl];rfl
    ·rw [show (((acc.length+1:Nat):Int) == (cols:Int))=true by simp;omega]
     cases (((acc.length+1:Nat):Int) == 8) <;> rfl
   ·rw [if_neg hc,show (((acc.length+1:Nat):Int) == 8)=false by rw [qy];omega,show (((acc.length+1:Nat):Int) == (cols:Int))=false by rw [qy];omega,kacs hs hj]
    rfl
  have base:kdt ⟨s,i0⟩ (cols:Int) ((i:Int),acc)=(bif decide (atI s j=125∧least≤acc.length+1) then some (.inr (true,((j+1:Nat):Int),((acc.length+1:Nat):Int),6,acc++[Va.mk 3 0 (toBA m) []])) else Option.bind (if acc.length+1=most then some (true,(j:Int)) else some (!((kbp [44,32]).ev s j).1.isSome,(((kbp [44,32]).ev s j).2:Int))) fun v10=>bif v10.1 then some (.inr (false,v10.2,(cols:Int),0,[])) else some (.inl (v10.2,acc++[Va.mk 3 0 (toBA m) []]))):=by
   simp only [kdt,kcn,hn',tOut,qa,Option.isSome_some,qae,qb,Option.elim_some,ha,kg6,hlen,e7,e8,w64s j (by omega)]
  refine ⟨fun hc=>?_,fun hc hl=>?_,fun hc hl hw=>?_,fun hc hl hw=>?_⟩
  ·rw [base,qe hc]
   exact ⟨_,rfl,rfl,rfl,fun l h=>by cases h;exact ⟨hlen.symm,rfl,rfl⟩⟩
  ·rw [base,qc hc,if_pos hl]
   exact ⟨_,rfl,rfl,rfl,fun l h=>by cases h⟩
  ·rw [base,qc hc,if_neg hl,hw]
   exact ⟨_,rfl,rfl,rfl,fun l h=>by cases h⟩
  ·rw [base,qc hc,if_neg hl]
   cases hw':((kbp [44,32]).ev s j).1 with
   | none=>exact absurd hw' hw
   | some u=>rfl
theorem k62 {s:BA} (hs:s.size≤4000000) {cols least most:Nat} (hcl:(cols=0∧least=1∧most=8)∨(1≤cols∧cols≤8∧least=cols∧most=cols)) {i:Nat} (hi:i≤s.size):
  ∃ b,kel ⟨s,(i:Int)⟩ (cols:Int)=some b∧b.1=((rowG least most).ev s i).1.isSome∧b.2.1=(((rowG least most).ev s i).2:Int) ∧
  ∀ v,((rowG least most).ev s i).1=some v→b.2.2.1=(v.items.length:Int)∧v=Va.mk b.2.2.2.1 0 ⟨#[]⟩ b.2.2.2.2:=by
 unfold kel rowG
 rw [kwv hs hi 123 (by decide)]
 simp only [Pr.ev]
 by_cases h:atI s i=123
 ·rw [if_pos (by rw [h];rfl),if_pos h]
  have hi':i+1≤s.size:=kk3 (by omega)
  simp only [qa,qae,qb,Pr.ev,kik]
  obtain ⟨k,hk⟩:∃ k,most=k+1:=⟨most - 1,by omega⟩
  obtain ⟨b,hb,hq⟩:=kae7 hs i cols least most hcl k [] (i+1) fuel (by rw [hk];simp;omega) trivial hi' (kbg (by omega))
  have hq':rQ cols ((kbo 125 least (fun _=>textE) most []).ev s (i+1)) b:=by
   rw [hk]
   unfold kbo
   simp only [Pr.ev]
   rw [if_neg (by simp;omega)]
   simpa [Pr.bind] using hq
  obtain ⟨q1,q2,q3⟩:=hq'
  rw [hb]
  refine ⟨b,rfl,?_⟩
  generalize (kbo 125 least (fun _=>textE) most []).ev s (i+1)=y at q1 q2 q3 ⊢
  obtain ⟨_ | l,j⟩:=y
  ·exact ⟨q1,q2,fun v h=>by cases h⟩
  ·refine ⟨q1,q2,fun v h=>?_⟩
   obtain ⟨r1,r2,r3⟩:=q3 l rfl
   cases h
   exact ⟨r1,by rw [r2,r3]⟩
 ·rw [if_neg (by exact h),if_neg h]
  exact ⟨_,rfl,rfl,rfl,fun v h=>by cases h⟩
theorem kaj3 {s:BA} (hs:s.size≤4000000) {acc:List Va} (hI:InvR acc) {i:Nat} (hi:i≤s.size):∃ b,kel ⟨s,(i:Int)⟩ (knu acc:Int)=some b∧b.1=((rowE acc).ev s i).1.isSome∧b.2.1=(((rowE acc).ev s i).2:Int) ∧
  ∀ v,((rowE acc).ev s i).1=some v→b.2.2.1=(v.items.length:Int)∧v=Va.mk b.2.2.2.1 0 ⟨#[]⟩ b.2.2.2.2:=by
 cases acc with
 | nil=>exact k62 hs (.inl ⟨rfl,rfl,rfl⟩) hi
 | cons r l=>
  have:=hI r (qo ..)
  exact k62 hs (cols:=r.items.length) (.inr ⟨this.1,this.2,rfl,rfl⟩) hi
theorem kqs {P:Va→Prop} {e:Int} {least:Nat} {elem:List Va→Pr Va} {I:List Va→Prop} (hI:∀ acc v,I acc→P v→I (acc++[v])) (hel:∀ acc,I acc→(elem acc).all P):∀ (k:Nat) (acc:List Va),I acc→(kbo e least elem k acc).all fun l=>I l∧least≤l.length∧l.length≤acc.length+k
 | 0,acc,h=>by
  unfold kbo
  intro c
  dsimp only
  split
  ·rename_i hc;exact ⟨h,hc.2,by omega⟩
  ·trivial
 | k+1,acc,h=>by
  unfold kbo
  intro c
  dsimp only
  split
  ·rename_i hc;exact ⟨h,hc.2,by omega⟩
  ·refine kg0 (P:=fun _=>True) (fun _ _=>kg0 (P:=P) (fun v hv=>?_) _ (hel acc h)) _ (kly _)
   exact kkw (fun l hl=>⟨hl.1,hl.2.1,by have:=hl.2.2;simp at this;omega⟩) _ (kqs hI hel k (acc++[v]) (hI acc v h hv))
def klk (v:Va):Prop:=v.items=[]∧v.text.size≤64
theorem k4l (least:Nat):∀ (k:Nat) (acc:List Int),(kiy least k acc).all fun l=>least≤l.length∧l.length≤acc.length+k
 | 0,acc=>by
  unfold kiy;intro c;dsimp only
  split
  ·rename_i hc;exact ⟨hc.2,by omega⟩
  ·trivial
 | k+1,acc=>by
  unfold kiy;intro c;dsimp only
  have ih:=fun d=>kkw (Q:=fun l=>least≤l.length∧l.length≤acc.length+(k+1)) (fun l hl=>⟨hl.1,by have:=hl.2;simp at this;omega⟩) _ (k4l least k (acc++[d]))
  split
  ·rename_i hc;exact ⟨hc.2,by omega⟩
  split
  ·trivial
  split
  ·intro d;dsimp only
   split
   ·exact ih d
   ·trivial
  ·exact ih c
theorem k3h (least most:Nat):(kf2 least most).all fun l=>least≤l.length∧l.length≤most:=by
 unfold kf2;intro c;dsimp only
 split
 ·exact kkw (fun l hl=>⟨hl.1,by simpa using hl.2⟩) _ (k4l least most [])
 ·trivial
theorem kvt:textE.all klk:=kg0 (P:=fun l=>0≤l.length∧l.length≤64) (Q:=klk) (fun l hl=>by show klk _;exact ⟨rfl,by rw [show (Va.mk 3 0 (toBA l) []).text=toBA l from rfl,k1e];exact hl.2⟩) _ (k3h 0 64)
theorem k4r:intE.all klk:=kg0 (P:=fun _=>True) (Q:=klk) (fun l hl=>by show klk _;exact ⟨rfl,qx _⟩) _ (kly _)
def lstV (v:Va):Prop:=v.items.length≤16∧v.text.size≤64∧∀ x∈v.items,klk x
theorem k42 {acc:List Va} (hI:InvR acc):(rowE acc).all fun v=>lstV v∧1≤v.items.length∧v.items.length≤8:=by
 have key:∀ least most:Nat,1≤least→most≤8→(rowG least most).all fun v=>lstV v∧1≤v.items.length∧v.items.length≤8:=fun least most h1 h2=>by
  unfold rowG;intro c;dsimp only
  split
  ·refine kg0 (fun l hl=>?_) _ (kqs (P:=klk) (I:=fun l=>∀ x∈l,klk x) (fun acc v ha hv x hx=>?_) (fun _ _=>kvt) most [] (by simp))
   ·obtain ⟨a1,a2,a3⟩:=hl
    simp only [qab,Nat.zero_add] at a3
    exact ⟨⟨by show l.length≤16;omega,qx _,a1⟩,by show 1≤l.length;omega,by show l.length≤8;omega⟩
   ·rcases qam.1 hx with hx | hx
    ·exact ha x hx
    ·rw [qay.1 hx];exact hv
  ·trivial
 cases acc with
 | nil=>exact key 1 8 (by omega) (by omega)
 | cons r l=>
  have:=hI r (qo ..)
  exact key _ _ this.1 this.2
def rvQ (x:Option (List Va)×Nat) (b:List Va×Bool×Int×Int):Prop:=b.2.1=x.1.isSome∧b.2.2.1=(x.2:Int)∧∀ l,x.1=some l→b.1=l
theorem k44 {acc:List Va} {v:Va} (h:InvR acc) (hv:1≤v.items.length∧v.items.length≤8):InvR (acc++[v]):=fun r hr=>by
 rcases qam.1 hr with hr | hr
 ·exact h r hr
 ·rw [qay.1 hr];exact hv
theorem k90 {acc:List Va} {v:Va} {b:Int} (h:∀ r∈acc,r.items.length=v.items.length) (hb:b=(v.items.length:Int)):b=(knu (acc++[v]):Int):=by
 cases acc with
 | nil=>rw [hb];rfl
 | cons r l=>rw [hb,← h r (qo ..)];rfl
def InvS (acc:List Va):Prop:=InvR acc∧∀ r∈acc,r.items.length=knu acc
theorem kaa7 {acc:List Va}:(rowE acc).all fun v=>acc≠[]→v.items.length=knu acc:=by
 have key:∀ least most:Nat,(rowG least most).all fun v=>least≤v.items.length∧v.items.length≤most:=fun least most=>by
  unfold rowG;intro c;dsimp only
  split
  ·refine kg0 (fun l hl=>?_) _ (kqs (P:=fun _=>True) (I:=fun _=>True) (fun _ _ _ _=>trivial) (fun _ _=>kly _) most [] trivial)
   exact ⟨hl.2.1,by have:=hl.2.2;rw [qab,Nat.zero_add] at this;exact this⟩
  ·trivial
 cases acc with
 | nil=>exact kkw (fun v _ h=>absurd rfl h) _ (key 1 8)
 | cons r l=>exact kkw (fun v hv _=>by show v.items.length=r.items.length;omega) _ (key r.items.length r.items.length)
theorem k4q {s:BA} {acc:List Va} {i j:Nat} {v:Va} (h:InvS acc) (he:(rowE acc).ev s i=(some v,j)):InvS (acc++[v])∧∀ r∈acc,r.items.length=v.items.length:=by
 have h1:=(kvl _ i (k42 h.1) (by rw [he])).2
 have h2:=kvl _ i (kaa7 (acc:=acc)) (by rw [he])
 refine ⟨⟨k44 h.1 h1,fun r hr=>?_⟩,fun r hr=>?_⟩
 ·cases acc with
  | nil=>simp at hr;rw [hr];rfl
  | cons q l=>
   show r.items.length=q.items.length
   rcases qam.1 hr with hr | hr
   ·exact h.2 r hr
   ·rw [qay.1 hr];exact h2 (by simp)
 ·rw [h.2 r hr,h2 (by rintro rfl;cases hr)]
theorem kaag {s:BA} (hs:s.size≤4000000) (i0:Int):∀ k (acc:List Va) (i n:Nat),acc.length+1+k=8→InvS acc→i≤s.size→k<n →
  ∃ b,kaa (kd0 ⟨s,i0⟩ 62 8) n ((i:Int),(knu acc:Int),acc)=some b∧rvQ (((rowE acc).bind fun v=>kbo 62 0 rowE k (acc++[v])).ev s i) b:=by
 refine kr1 (least:=0) (elem:=rowE) kr2 (fun i acc=>((i:Int),(knu acc:Int),acc)) rvQ InvS (fun acc i v j h he=>(k4q h he).1) (kt2 kr2 ?_)
 intro i acc hi hl hI
 obtain ⟨b,hb,q1,q2,q3⟩:=kaj3 hs hI.1 hi
 have hle:=kq7 (s:=s) (kr2 acc) hi
 refine ⟨fun j h=>?_,fun v j h=>?_⟩
 ·rw [h] at q1 q2
  refine ⟨([],false,(j:Int),b.2.2.1),?_,rfl,rfl,fun l h=>by cases h⟩
  simp only [kd0,hb,qa,q1,q2,Option.isSome_none,qat,qd]
 ·have hcols:=(k4q hI h).2
  rw [h] at q1 q2 q3 hle
  obtain ⟨r1,r2⟩:=q3 v rfl
  have hc':=k90 hcols r1
  have ha:=kk9 (b:=56) (xs:=acc) (ys:=[v]) (by simp;omega)
  refine ⟨fun z => .inr (acc++[v],true,z,(knu (acc++[v]):Int)),fun z => .inr ([],false,z,(knu (acc++[v]):Int)),fun z => .inl (z,(knu (acc++[v]):Int),acc++[v]),Eq.trans ?_ (k0i hs hle.2 62 (by decide) 8 (acc++[v]) _ _ _),fun z=>⟨_,rfl,rfl,rfl,fun l h=>by cases h;rfl⟩,fun z=>⟨_,rfl,rfl,rfl,fun l h=>by cases h⟩,fun z=>rfl⟩
  simp only [kd0,hb,qa,q1,q2,hc',Option.isSome_some,qae,qb,← r2,ha]
  rfl
theorem kadq {s:BA} (hs:s.size≤4000000) {i:Nat} (hi:i≤s.size) (h91:atI s i=60):∃ b,kf8 ⟨s,(i:Int)⟩ 60 62 8 0=some b∧rvQ ((kbo 62 0 rowE 8 []).ev s (i+1)) b:=by
 have hi':i+1≤s.size:=kk3 (by omega)
 have ho:=kwv hs hi 60 (by decide)
 rw [if_pos (by rw [h91];rfl)] at ho
 have ho':kaq ⟨s,(i:Int)⟩ (Utf8.encode 60)=some (true,((i+1:Nat):Int)):=ho
 unfold kf8 kbo
 simp only [ho',qa,qae,qb,kg6,Pr.ev]
 by_cases hc:atI s (i+1)=62
 ·rw [if_pos ⟨hc,qw _⟩,show (atI s (i+1) == 62)=true by rw [hc];rfl]
  exact ⟨_,rfl,rfl,w64s (i+1) (by omega),fun l h=>by cases h;rfl⟩
 ·rw [if_neg (fun h=>hc h.1),show (atI s (i+1) == 62)=false by simpa using hc,qb]
  obtain ⟨b,hb,hq⟩:=kaag hs i 7 [] (i+1) fuel rfl ⟨fun r h=>(by cases h),fun r h=>(by cases h)⟩ hi' (kbg (by omega))
  have hb':kaa (kd0 ⟨s,(i:Int)⟩ 62 8) fuel (((i+1:Nat):Int),0,[])=some b:=hb
  rw [hb']
  refine ⟨b,rfl,?_⟩
  simpa [Pr.bind] using hq
theorem kqw {α β:Type} (s:BA) (f:α→β) (p:Pr α) (i:Nat):(p.bind fun a => .done (f a)).ev s i=((p.ev s i).1.map f,(p.ev s i).2):=by
 rw [kik]
 rcases p.ev s i with ⟨_ | a,j⟩ <;> rfl
def vQ (x:Option Va×Nat) (b:Bool×Int×Int×Int×BA×List Va):Prop:=b.1=x.1.isSome∧b.2.1=(x.2:Int)∧∀ u,x.1=some u→Va.mk b.2.2.1 b.2.2.2.1 b.2.2.2.2.1 b.2.2.2.2.2=u
theorem kahk (c:UInt8):((⟨#[48,c]⟩:BA).toList == (⟨#[48,120]⟩:BA).toList)=decide ((c.toNat:Int)=120):=by
 by_cases h:c=120
 ·subst h;rw [qe (by rfl)];simp
 ·rw [qc,qy]
  ·intro h'
   have h2:=kjp h'
   injection h2 with h3
   have h4:=congrArg Array.toList h3
   simp at h4
   exact h h4
  ·intro h'
   apply h
   apply UInt8.toNat.inj
   show c.toNat=120
   omega
theorem kaah {s:BA} (hs:s.size≤4000000) {i:Nat} (hi:i<s.size) (h48:atI s i=48):∃ r,cutS s (i:Int) (s.size:Int)=some r∧kcg r (⟨#[48,120]⟩:BA)=some (decide (atI s (i+1)=120)):=by
 have hd:(s.extract i s.size).data.toList=s.data.toList.drop i:=by
  rw [kt5,List.take_of_length_le (by rw [← ka4];exact qw _)]
 generalize hr:s.extract i s.size=r at hd
 refine ⟨r,by unfold cutS;rw [if_pos ⟨by omega,by omega,by omega⟩,← hr];rfl,?_⟩
 have hsz:r.size=s.size - i:=by rw [ka4,hd,qaq,← ka4]
 have h2sz:(⟨#[48,120]⟩:BA).size=2:=rfl
 unfold kcg kco
 rw [h2sz]
 by_cases h2:i+2≤s.size
 ·have d1:decide (((2:Nat):Int)≤(r.size:Int))=true:=qe (by omega)
  obtain ⟨b1,b2,b3⟩:=kix hi
  obtain ⟨c1,c2,c3⟩:=kix (s:=s) (i:=i+1) (by omega)
  generalize s.data.toList[i]'(by rw [← ka4];exact hi)=x at b2 b3
  generalize s.data.toList[i+1]'(by rw [← ka4];omega)=y at c2 c3
  have hx:x=48:=UInt8.toNat.inj (by show x.toNat=48;omega)
  have hc:cutS r 0 ((2:Nat):Int)=some ⟨#[48,y]⟩:=by
   unfold cutS
   rw [if_pos ⟨by omega,by omega,by omega⟩]
   congr 1
   apply k5h
   rw [show ((0:Int).toNat)=0 from rfl,show (((2:Nat):Int).toNat)=2 from rfl,kt5,hd,b2,c2,hx]
   rfl
  rw [d1,qd,hc,qa,kahk,qa,qa,c3]
 ·have d1:decide (((2:Nat):Int)≤(r.size:Int))=false:=qc (by omega)
  rw [d1,qb,qa,qa,qc]
  rw [krm (by omega)]
  decide
theorem kaf6 {s:BA} (hs:s.size≤4000000) {i:Nat} (hi:i≤s.size):∃ b,ke2 ⟨s,(i:Int)⟩=some b∧vQ (oneP.ev s i) b:=by
 unfold oneP ke2
 rw [kg6,qa]
 simp only [Pr.ev]
 by_cases h1:atI s i=116
 ·rw [if_pos h1,show (atI s i == 116)=true by rw [h1];rfl,qd,kqw,ktg hs (w:=⟨#[116,114,117,101]⟩) (by decide) (by decide) hi,show wl (⟨#[116,114,117,101]⟩:BA)=[116,114,117,101] from rfl]
  exact ⟨_,rfl,by cases ((kbp [116,114,117,101]).ev s i).1 <;> rfl,rfl,fun u h=>by obtain ⟨a,_,rfl⟩:=qj.1 h;rfl⟩
 rw [if_neg h1,show (atI s i == 116)=false by simpa using h1,qb]
 by_cases h1:atI s i=102
 ·rw [if_pos h1,show (atI s i == 102)=true by rw [h1];rfl,qd,kqw,ktg hs (w:=⟨#[102,97,108,115,101]⟩) (by decide) (by decide) hi,show wl (⟨#[102,97,108,115,101]⟩:BA)=[102,97,108,115,101] from rfl]
  exact ⟨_,rfl,by cases ((kbp [102,97,108,115,101]).ev s i).1 <;> rfl,rfl,fun u h=>by obtain ⟨a,_,rfl⟩:=qj.1 h;rfl⟩
 rw [if_neg h1,show (atI s i == 102)=false by simpa using h1,qb]
 by_cases h1:atI s i=34
 ·have hq:kby ⟨s,(i:Int)⟩ 0 64=some (tOut ((kf2 0 64).ev s i)):=kwt (least:=0) (most:=64) hs (by decide) hi
  rw [if_pos h1,show (atI s i == 34)=true by rw [h1];rfl,qd,hq,kyp]
  refine ⟨_,rfl,by show ((kf2 0 64).ev s i).1.isSome=_;cases ((kf2 0 64).ev s i).1 <;> rfl,rfl,fun u h=>?_⟩
  obtain ⟨m,hm,rfl⟩:=qj.1 h
  simp only [tOut,hm,Option.elim_some]
 rw [if_neg h1,show (atI s i == 34)=false by simpa using h1,qb]
 by_cases h1:atI s i=114
 ·have hi':i+1≤s.size:=kk3 (by omega)
  have hq:kby ⟨s,((i+1:Nat):Int)⟩ 1 40=some (tOut ((kf2 1 40).ev s (i+1))):=kwt (least:=1) (most:=40) hs (by decide) hi'
  rw [if_pos h1,show (atI s i == 114)=true by rw [h1];rfl,qd,w64s i (by omega),hq]
  simp only [Pr.ev,kqw]
  refine ⟨_,rfl,by show ((kf2 1 40).ev s (i+1)).1.isSome=_;cases ((kf2 1 40).ev s (i+1)).1 <;> rfl,rfl,fun u h=>?_⟩
  obtain ⟨m,hm,rfl⟩:=qj.1 h
  simp only [tOut,hm,Option.elim_some]
 rw [if_neg h1,show (atI s i == 114)=false by simpa using h1,qb]
 by_cases h1:atI s i=91
 ·obtain ⟨r,hr,q1,q2,q3⟩:=kajc hs hi h1
  rw [if_pos h1,show (atI s i == 91)=true by rw [h1];rfl,qd,hr]
  simp only [Pr.ev,kqw]
  refine ⟨_,rfl,?_,q2,fun u h=>?_⟩
  ·show r.2.1=_
   rw [q1]
   cases ((kbo 93 0 (fun _=>intE) 16 []).ev s (i+1)).1 <;> rfl
  ·obtain ⟨m,hm,rfl⟩:=qj.1 h
   show Va.mk 5 0 ⟨#[]⟩ r.1=_
   rw [q3 m hm]
 rw [if_neg h1,show (atI s i == 91)=false by simpa using h1,qb]
 by_cases h1:atI s i=123
 ·obtain ⟨r,hr,q1,q2,q3⟩:=kada hs hi h1
  rw [if_pos h1,show (atI s i == 123)=true by rw [h1];rfl,qd,hr]
  simp only [Pr.ev,kqw]
  refine ⟨_,rfl,?_,q2,fun u h=>?_⟩
  ·show r.2.1=_
   rw [q1]
   cases ((kbo 125 0 (fun _=>textE) 16 []).ev s (i+1)).1 <;> rfl
  ·obtain ⟨m,hm,rfl⟩:=qj.1 h
   show Va.mk 6 0 ⟨#[]⟩ r.1=_
   rw [q3 m hm]
 rw [if_neg h1,show (atI s i == 123)=false by simpa using h1,qb]
 by_cases h1:atI s i=60
 ·obtain ⟨r,hr,q1,q2,q3⟩:=kadq hs hi h1
  rw [if_pos h1,show (atI s i == 60)=true by rw [h1];rfl,qd,kia,qa,hr]
  simp only [Pr.ev,kqw]
  refine ⟨_,rfl,?_,q2,fun u h=>?_⟩
  ·show r.2.1=_
   rw [q1]
   cases ((kbo 62 0 rowE 8 []).ev s (i+1)).1 <;> rfl
  ·obtain ⟨m,hm,rfl⟩:=qj.1 h
   show Va.mk 7 0 ⟨#[]⟩ r.1=_
   rw [q3 m hm]
 rw [if_neg h1,show (atI s i == 60)=false by simpa using h1,qb]
 have hv:=k17 hs hi
 by_cases h2:atI s i=48
 ·have hi':i+1≤s.size:=kk3 (by omega)
  obtain ⟨r,hr,hp⟩:=kaah hs hi' h2
  rw [if_pos h2,show (atI s i == 48)=true by rw [h2];rfl,qd,hr,qa,hp,qa]
  simp only [Pr.ev]
  by_cases h3:atI s (i+1)=120
  ·have hi2:i+2≤s.size:=kk3 (i:=i+1) (by omega)
   rw [if_pos h3,qe h3,kaiu hs hi2]
   simp only [Pr.ev,kqw,show i+1+1=i+2 from rfl]
   refine ⟨_,rfl,by show (bitsP.ev s (i+2)).1.isSome=_;cases (bitsP.ev s (i+2)).1 <;> rfl,rfl,fun u h=>?_⟩
   obtain ⟨m,hm,rfl⟩:=qj.1 h
   simp only [hm,Option.elim_some,qap]
  ·rw [if_neg h3,qc h3,qb,qa,qf,hv]
   have hx:numP.ev s i=(some 0,i+1):=by
    unfold numP unsP
    simp only [Pr.ev,h2]
    rw [if_neg (by decide)]
    simp only [Pr.ev,h2]
    rw [if_neg (by simp)]
    simp only [Pr.ev,kik,show (48:Int) - 48=0 from rfl,k67]
    rfl
   rw [hx]
   exact ⟨_,rfl,rfl,rfl,fun u h=>by cases h;rfl⟩
 ·rw [if_neg h2,show (atI s i == 48)=false by simpa using h2,qb,qa,qf,hv,k6w]
  refine ⟨_,rfl,by show (numP.ev s i).1.isSome=_;cases (numP.ev s i).1 <;> rfl,rfl,fun u h=>?_⟩
  obtain ⟨m,hm',rfl⟩:=qj.1 h
  simp only [nOut,hm',qap]
def prV (s:BA):Va×Int×Int:=match oneP.ev s 0 with
 | (some v,j)=>if j<s.size then (Va.mk 0 0 ⟨#[]⟩ [],(j:Int),8) else (v,0,0)
 | (none,j)=>(Va.mk 0 0 ⟨#[]⟩ [],(j:Int),8)
theorem kol {s:BA} (hs:s.size≤4000000):kgi s=some (prV s):=by
 obtain ⟨b,hb,q1,q2,q3⟩:=kaf6 hs (qx s.size)
 have hb':ke2 ⟨s,0⟩=some b:=hb
 unfold kgi prV
 rw [hb',qa,q1,q2]
 generalize oneP.ev s 0=x at q1 q2 q3 ⊢
 obtain ⟨_ | v,j⟩:=x
 ·rfl
 ·simp only [Option.isSome_some,qae,qb,qa]
  by_cases h:j<s.size
  ·rw [if_pos h,kbb h];rfl
  ·rw [if_neg h,qc (show ¬ ((j:Int)<(s.size:Int)) by omega),qb,q3 v rfl]
theorem kw0 {v:Va} (h:klk v):depV v≤1∧kiq 9223372036854775807 v:=by
 obtain ⟨t,n,s,l⟩:=v
 obtain rfl:l=[]:=h.1
 exact ⟨kor fun y hy=>(by cases hy),by simp [kiq,kqy]⟩
theorem k7j {v:Va} (h1:v.items.length≤9223372036854775807) (h2:∀ x∈v.items,kiq 9223372036854775807 x):kiq 9223372036854775807 v:=by
 obtain ⟨t,n,s,l⟩:=v
 have gen:∀ l:List Va,(∀ x∈l,kiq 9223372036854775807 x)→kqy 9223372036854775807 l:=fun l=>by
  induction l with
  | nil=>exact fun _=>trivial
  | cons y l ih=>exact fun h=>⟨h y (qo ..),ih fun z hz=>h z (qk _ hz)⟩
 exact ⟨h1,gen l h2⟩
theorem kyx {v:Va} (h:lstV v):depV v≤2∧kiq 9223372036854775807 v:=⟨kor fun y hy=>(kw0 (h.2.2 y hy)).1,k7j (by have:=h.1;omega) fun x hx=>(kw0 (h.2.2 x hx)).2⟩
theorem kahb:oneP.all okV:=by
 have lf:∀ v,klk v→okV v:=fun v h=>⟨by have:=(kw0 h).1;omega,(kw0 h).2⟩
 have ls:∀ v,lstV v→okV v:=fun v h=>⟨by have:=(kyx h).1;omega,(kyx h).2⟩
 have leaf0:∀ t n,okV (Va.mk t n ⟨#[]⟩ []):=fun t n=>lf _ ⟨rfl,qx _⟩
 have lists:∀ (t e:Int) (elem:List Va→Pr Va),(∀ acc,(elem acc).all klk)→((kbo e 0 elem 16 []).bind fun l => .done (Va.mk t 0 ⟨#[]⟩ l)).all okV:=fun t e elem hel=>by
  refine kg0 (fun l hl=>?_) _ (kqs (P:=klk) (I:=fun l=>∀ x∈l,klk x) (fun acc v ha hv x hx=>?_) (fun _ _=>hel _) 16 [] (by simp))
  ·show okV _
   exact ls _ ⟨by have:=hl.2.2;simp at this;show l.length≤16;omega,qx _,hl.1⟩
  ·rcases qam.1 hx with hx | hx
   ·exact ha x hx
   ·rw [qay.1 hx];exact hv
 unfold oneP
 intro c
 dsimp only
 repeat' split
 ·exact kg0 (P:=fun _=>True) (Q:=okV) (fun _ _=>by show okV _;exact leaf0 _ _) _ (kly _)
 ·exact kg0 (P:=fun _=>True) (Q:=okV) (fun _ _=>by show okV _;exact leaf0 _ _) _ (kly _)
 ·exact kkw lf _ kvt
 ·exact kg0 (P:=fun l=>1≤l.length∧l.length≤40) (Q:=okV) (fun l hl=>by show okV _;exact lf _ ⟨rfl,by rw [show (Va.mk 8 0 (toBA l) []).text=toBA l from rfl,k1e];omega⟩) _ (k3h 1 40)
 ·exact lists 5 93 _ fun _=>k4r
 ·exact lists 6 125 _ fun _=>kvt
 ·refine kg0 (fun l hl=>?_) _ (kqs (P:=fun v=>lstV v∧1≤v.items.length∧v.items.length≤8) (I:=fun l=>InvR l∧∀ x∈l,lstV x) (fun acc v ha hv=>⟨k44 ha.1 hv.2,fun x hx=>?_⟩) (fun acc h=>k42 h.1) 8 [] ⟨fun r h=>(by cases h),fun r h=>(by cases h)⟩)
  ·show okV _
   refine ⟨by have:=kor (x:=Va.mk 7 0 ⟨#[]⟩ l) (k:=2) fun y hy=>(kyx (hl.1.2 y hy)).1;omega,k7j (by have:=hl.2.2;simp at this;show l.length≤_;omega) fun x hx=>(kyx (hl.1.2 x hx)).2⟩
  ·rcases qam.1 hx with hx | hx
   ·exact ha.2 x hx
   ·rw [qay.1 hx];exact hv.1
 ·intro d
  dsimp only
  split
  ·exact kg0 (P:=fun _=>True) (Q:=okV) (fun _ _=>by show okV _;exact leaf0 _ _) _ (kly _)
  ·exact leaf0 _ _
 ·exact kkw lf _ k4r
theorem kaj6 (s:BA):okV (prV s).1:=by
 have z:okV (Va.mk 0 0 ⟨#[]⟩ []):=⟨by have:=kor (x:=Va.mk 0 0 ⟨#[]⟩ []) (k:=0) fun y hy=>(by cases hy);omega,by simp [kiq,kqy]⟩
 have:=kvl (s:=s) (a:=(prV s).1) oneP 0 kahb
 unfold prV at this ⊢
 rcases hx:oneP.ev s 0 with ⟨_ | v,j⟩
 ·exact z
 ·rw [hx] at this
  simp only
  split
  ·exact z
  ·simp only at this
   rename_i h
   rw [if_neg h] at this
   exact this rfl
theorem k37 (s:BA):(oneP.ev s 0).2≤s.size:=(kq7 kaa8 (qx _)).2
theorem kacc (s:BA):(∃ v,oneP.ev s 0=(some v,s.size)∧prV s=(v,0,0))∨(prV s=(Va.mk 0 0 ⟨#[]⟩ [],((oneP.ev s 0).2:Int),8)∧((oneP.ev s 0).1=none∨(oneP.ev s 0).2<s.size)):=by
 have hle:=k37 s
 unfold prV
 rcases hx:oneP.ev s 0 with ⟨_ | v,j⟩
 ·exact .inr ⟨rfl, .inl rfl⟩
 ·rw [hx] at hle
  simp only at hle ⊢
  by_cases h:j<s.size
  ·rw [if_pos h];exact .inr ⟨rfl, .inr h⟩
  ·rw [if_neg h]
   obtain rfl:j=s.size:=by omega
   exact .inl ⟨v,rfl,rfl⟩
theorem kahr {x:Va} (h:kgh x):oneP.ev (mkB (kac x)) 0=(some x,(mkB (kac x)).size):=by
 have e1:=ksk (mkB (kac x)) oneP 0
 have e2:=k0b h (m:=[]) ⟨.inl (by decide),by decide⟩
 rw [qar,kct] at e1
 rw [List.append_nil] at e2
 rw [e2] at e1
 have h1:=congrArg Prod.fst e1
 have h2:=congrArg Prod.snd e1
 simp only at h1 h2
 have hle:=k37 (mkB (kac x))
 have h3:=congrArg List.length h2
 rw [qaq,qab] at h3
 rw [kcr] at hle ⊢
 exact Prod.ext h1.symm (by show _=(kac x).length;omega)
theorem k74 {x:Va} (h:kgh x):kgi (mkB (kac x))=some (x,0,0)∧okV x:=by
 have hl:=(ks6 h 0 0).2.2
 have he:=kahr h
 have hp:prV (mkB (kac x))=(x,0,0):=by
  rcases kacc (mkB (kac x)) with ⟨v,hv,hp⟩ | ⟨hp,hv⟩
  ·rw [he] at hv
   cases hv
   exact hp
  ·rw [he] at hv
   rcases hv with hv | hv
   ·cases hv
   ·exact absurd hv (Nat.lt_irrefl _)
 refine ⟨by rw [kol (by rw [kcr];omega),hp],?_⟩
 have:=kaj6 (mkB (kac x))
 rw [hp] at this
 exact this
end Go.Proofs.YtaimpcnpifoidaaGreatDoor
