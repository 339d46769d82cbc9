import Derived.Test.YtjnjipmjkkhdpaaGreatDoorZE
import Derived.Test.YtjnjipmjkkhdpaaGreatDoorSk
set_option linter.all false
set_option maxRecDepth 100000
namespace Go.Proofs.YtjnjipmjkkhdpaaGreatDoor
open Go Go.RowKit
mutual
def k12 (B:Nat):Va->Prop
 | .mk _ _ _ l=>l.length<=B/\kt5 B l
def kt5 (B:Nat):List Va->Prop
 | []=>True
 | x::l=>k12 B x/\kt5 B l
end
mutual
def kyi:Va->Prop
 | .mk _ _ s l=>s.size<=9223372036854775807/\krl l
def krl:List Va->Prop
 | []=>True
 | x::l=>kyi x/\krl l
end
def inV (x:Va):Prop:=k12 9223372036854775807 x/\kyi x
def kxk (r:Ru):Prop:=r.args.length<=9223372036854775807/\inV r.const
structure kul (l:La):Prop where
 name:l.name.size<=9223372036854775807
 inputs:l.inputs.length<=9223372036854775807
 symbols:l.symbols.length<=9223372036854775807
 rules:l.rules.length<=9223372036854775807
 names:∀ x∈l.symbols,x.name.size<=9223372036854775807
 wide:∀ r∈l.rules,kxk r
theorem ktv {B:Nat}:∀ {l:List Va} {x:Va},kt5 B l->x∈l->k12 B x
 | y::l,x,a,h=>by
  rcases qaa.1 h with rfl | h;exact a.1
  ·exact ktv a.2 h
theorem ksj:∀ {l:List Va} {x:Va},krl l->x∈l->kyi x
 | y::l,x,a,h=>by
  rcases qaa.1 h with rfl | h;exact a.1
  ·exact ksj a.2 h
theorem kv6 {x:Va} (h:inV x):x.items.length<=9223372036854775807/\x.text.size<=9223372036854775807/\∀ y∈x.items,inV y:=by
 cases x with
 | mk t n s l=>exact ⟨h.1.1,h.2.1,fun y hy=>⟨ktv h.1.2 hy,ksj h.2.2 hy⟩⟩
theorem kv4:∀ {l:List Va} {x:Va},x∈l->depV x<=kmp l
 | y::l,x,h=>by
  simp only [kmp];rcases qaa.1 h with rfl | h;exact Nat.le_max_left _ _
  ·exact qar (kv4 h) (Nat.le_max_right _ _)
theorem kx4 {k:Nat}:∀ {l:List Va},(∀ y∈l,depV y<=k)->kmp l<=k
 | [],_=>qaq _
 | y::l,h=>by simp only [kmp];exact Nat.max_le.2 ⟨h y (qt ..),kx4 fun z a=>h z (qf _ a)⟩
theorem ku3 {x:Va} {k:Nat} (h:∀ y∈x.items,depV y<=k):depV x<=k+1:=by
 cases x with
 | mk t n s l=>simp only [depV];exact Nat.succ_le_succ (kx4 h)
theorem kkt {x:Va} (h:x.items=[]):depV x<=1:=ku3 fun y hy=>by rw [h] at hy;cases hy
theorem len0 {α:Type} {xs:List α} (h:((xs.length:Int) == 0)=true):xs=[]:=qav (by have:=eq_of_beq h;omega)
theorem kat {α β:Type} {x:Option α} {k:α->Option β} {P:β->Prop} (h:Ev x fun _=>True) (a:∀ v,x=some v->Ev (k v) P):Ev (Option.bind x k) P:=by obtain ⟨v,e,_⟩:=h;rw [e];exact a v e
theorem khi {β:Type} {step:Int->Option (Int ⊕ β)} {Q:β->Prop} (n:Nat) (hn:n<=9223372036854775807) (hs:∀ i:Nat,i<n->Ev (step (i:Int)) (Sum.elim (fun s=>s=w64 ((i:Int)+1)) Q)) (a:Ev (step (n:Int)) fun r=>∃ b,r = .inr b/\Q b):Ev (kah step fuel 0) Q:=
 keu n (fun i s=>s=(i:Int)) (by omega) rfl (fun i s hi e=>by
  subst e;refine Ev.mono (hs i hi) fun r h=>?_;cases r with
  | inl s=>exact (show s=w64 ((i:Int)+1) from h).trans (kbk)
  | inr b=>exact h) fun s e=>by subst e;exact a
theorem kxm {α:Type} {v:α}:Ev (some v) fun _=>True:=⟨v,rfl,trivial⟩
theorem k76 {σ β:Type} {s:σ} {Q:β->Prop}:Ev (some (.inl s)) (Sum.elim (fun t=>t=s) Q):=⟨_,rfl,rfl⟩
theorem k7h {σ β:Type} {b:β} {P:σ->Prop}:Ev (some (.inr b)) (Sum.elim P fun _=>True):=⟨_,rfl,trivial⟩
theorem kjr {σ β:Type} {b:β}:Ev (some (.inr b:σ ⊕ β)) fun r=>∃ b,r = .inr b/\True:=⟨_,rfl,_,rfl,trivial⟩
theorem kf7 {β:Type} {step:Int->Option (Int ⊕ (Unit ⊕ β))} {P:Nat->Prop} {B:β->Prop} (n:Nat) (hn:n<=9223372036854775807) (hs:∀ i:Nat,i<n->(∀ k,k<i->P k)->Ev (step (i:Int)) (Sum.elim (fun s=>s=w64 ((i:Int)+1)/\P i) (Sum.elim (fun _=>False) B))) (d:step (n:Int)=some (.inr (.inl ()))):Ev (kah step fuel 0) (Sum.elim (fun _=>∀ i,i<n->P i) B):=
 keu n (fun i s=>s=(i:Int)/\∀ k,k<i->P k) (by omega) ⟨rfl,fun k h=>by omega⟩ (fun i s hi a=>by
  obtain ⟨rfl,a⟩:=a;refine Ev.mono (hs i hi a) fun r h=>?_;cases r with
  | inl s=>exact ⟨(show s=w64 ((i:Int)+1) from h.1).trans (kbk),fun k hk=>by
    by_cases c:k=i;subst c;exact h.2
    ·exact a k (by omega)⟩
  | inr b=>
   cases b with
   | inl u=>exact h.elim
   | inr b=>exact h) fun s a=>by
  obtain ⟨rfl,a⟩:=a;exact ⟨_,d, .inl (),rfl,a⟩
theorem km2 {s:BA} {i:Nat} (h:i<s.size):∃ c,byt s (i:Int)=some c:=⟨_,by rw [k8f,getElem?_pos s i h];rfl⟩
theorem ky5 (s:BA) (hs:s.size<=9223372036854775807):Ev (kdc s) fun _=>True:=by
 unfold kdc;refine kat (khi s.size hs (fun i hi=>?_) (by simp only [ke0,kar,qo];exact kjr)) fun r _=>kb2 (fun _ _=>?_) fun _ _=>?_
 ·obtain ⟨c,hc⟩:=km2 hi;simp only [ke0,ka1 hi,qg,hc,qb]
  repeat' with_reducible first | exact k76 | exact k7h | exact kxm | refine kag (fun _=>?_) fun _=>?_ | refine kat ?_ fun _ _=>?_
 ·repeat' with_reducible first | exact kxm | refine kag (fun _=>?_) fun _=>?_ | refine kat ?_ fun _ _=>?_
 ·exact ⟨_,rfl,trivial⟩
theorem kwk (t:Int):Ev (kcw t) fun _=>True:=by
 unfold kcw
 repeat' with_reducible first | exact kxm | refine kag (fun _=>?_) fun _=>?_ | refine kat ?_ fun _ _=>?_
theorem ku5 (b:Bool):Ev (kbj b) fun c=>c≠0:=by
 cases b;exact ⟨1,rfl,by decide⟩
 ·exact ⟨-1,rfl,by decide⟩
theorem kxy (b:Bool):Ev (kbj b) fun _=>True:=(ku5 b).mono fun _ _=>trivial
theorem k1p (n:Nat) (l:List Va):Ev (ka9 (n+1) l []) fun c=>c=0->l=[]:=by
 show Ev (kbh (kax n) (ka9 n) l []) _;have:kah (kbp l [] (kax n)) fuel 0=some (.inl ()):=by rw [k4r,kah];cases l <;> simp [kbp]
 unfold kbh;rw [this];simp only [qb,Sum.elim_inl];refine kag (fun h=>⟨_,rfl,fun _=>len0 h⟩) fun _=>?_;obtain ⟨c,h1,a⟩:=ku5 (decide ((l.length:Int)<(([]:List Va).length:Int)));rw [h1];exact ⟨c,rfl,fun h=>absurd h a⟩
theorem k21 (x:Va):Ev (kbx x (Va.mk 0 0 ⟨#[]⟩ [])) fun b=>b=true->x.items=[]:=by
 unfold kbx;have h:Ev (kax fuel x (Va.mk 0 0 ⟨#[]⟩ [])) fun c=>c=0->x.items=[]:=by
  show Ev (kax (18446744073709551614+2) x (Va.mk 0 0 ⟨#[]⟩ [])) _;show Ev (kbr (kax (18446744073709551614+1)) (ka9 (18446744073709551614+1)) x (Va.mk 0 0 ⟨#[]⟩ [])) _;unfold kbr;have hs:∀ b,Ev (Option.bind (kbj b) fun v1=>some v1) fun c=>c=0->x.items=[]:=fun b=>by obtain ⟨c,h1,a⟩:=ku5 b;rw [h1];exact ⟨c,rfl,fun h=>absurd h a⟩
  refine kag (fun _=>hs _) fun _=>kag (fun _=>hs _) fun _=>kag (fun _=>hs _) fun _=>?_;obtain ⟨c,h1,a⟩:=k1p 18446744073709551614 x.items;show Ev (Option.bind (ka9 (18446744073709551614+1) x.items []) fun v4=>some v4) _;rw [h1];exact ⟨c,rfl,a⟩
 obtain ⟨c,h1,a⟩:=h;rw [h1];exact ⟨_,rfl,fun h=>a (eq_of_beq h)⟩
theorem k0r:∀ n:Nat,(∀ x y:Va,2*depV x<=n->inV x->Ev (kax n x y) fun _=>True)/\(∀ l m:List Va,2*kmp l+1<=n->l.length<=9223372036854775807->(∀ x∈l,inV x)->Ev (ka9 n l m) fun _=>True)
 | 0=>⟨fun x y h=>by cases x;simp only [depV] at h;omega,fun l m h=>by omega⟩
 | n+1=>by
  obtain ⟨ih1,ih2⟩:=k0r n;refine ⟨fun x y h hx=>?_,fun l m h hl hx=>?_⟩
  ·show Ev (kbr (kax n) (ka9 n) x y) _;unfold kbr;obtain ⟨i1,_,i3⟩:=kv6 hx;have hd:2*kmp x.items+1<=n:=by
    cases x with
    | mk t k s l=>simp only [depV] at h;show 2*kmp l+1<=n;omega
   have hs:∀ b,Ev (Option.bind (kbj b) fun v1=>some v1) fun _=>True:=fun b=>kat (kxy b) fun _ _=>⟨_,rfl,trivial⟩;exact kag (fun _=>hs _) fun _=>kag (fun _=>hs _) fun _=>kag (fun _=>hs _) fun _=>kat (ih2 _ _ hd i1 i3) fun _ _=>⟨_,rfl,trivial⟩
  ·show Ev (kbh (kax n) (ka9 n) l m) _;unfold kbh;refine kat (khi l.length hl (fun i hi=>?_) (by simp only [kbp,kar,qo,qb];exact kjr)) fun r _=>kb2 (fun _ _=>?_) fun _ _=>⟨_,rfl,trivial⟩;have e1:l[i]?=some l[i]:=qa hi;simp only [kbp,ka1 hi,qg,kai,e1,qb];refine kag (fun hm=>?_) fun _=>⟨_,rfl,trivial⟩;have hm:i<m.length:=(by have:=qa9 hm;omega);simp only [qa hm,qb];have a:=qx hi;refine kat (ih1 _ _ (by have:=kv4 a;omega) (hx _ a)) fun _ _=>?_;exact kag (fun _=>⟨_,rfl,trivial⟩) fun _=>⟨_,rfl,rfl⟩
   ·exact kag (fun _=>⟨_,rfl,trivial⟩) fun _=>kat (kxy _) fun _ _=>⟨_,rfl,trivial⟩
theorem k40 {x y:Va} (hd:depV x<=1000000) (hx:inV x):Ev (kbx x y) fun _=>True:=by unfold kbx;exact kat ((k0r fuel).1 x y (qar (show 2*depV x<=2000000 by omega) (by decide)) hx) fun _ _=>⟨_,rfl,trivial⟩
def rkT (t:Int):Nat:=if t=7 then 3 else if t=5\/t=6 then 2 else 1
theorem koy (a b c:Int):∃ r,kb3 a b c=some r:=by unfold kb3;cases decide (a<b) <;> cases decide (c<a) <;> exact ⟨_,rfl⟩
theorem kwr (s:BA) (a b:Int) (hs:s.size<=9223372036854775807):∃ r,kcc s a b=some r:=by
 have h:Ev (kcc s a b) fun _=>True:=by
  unfold kcc;refine kat (kag (fun _=>⟨_,rfl,trivial⟩) fun _=>⟨_,rfl,trivial⟩) fun _ _=>kag (fun _=>⟨_,rfl,trivial⟩) fun _=>?_;refine kat (khi s.size hs (fun i hi=>?_) (by simp only [ken,kar,qo];exact kjr)) fun r _=>kb2 (fun _ _=>⟨_,rfl,trivial⟩) fun _ _=>⟨_,rfl,trivial⟩;obtain ⟨c,hc⟩:=km2 hi;simp only [ken,ka1 hi,qg,hc,qb]
  repeat' with_reducible first | exact k76 | exact k7h | exact kxm | refine kag (fun _=>?_) fun _=>?_ | refine kat ?_ fun _ _=>?_
 obtain ⟨r,h,_⟩:=h;exact ⟨r,h⟩
theorem k95 (l:List Va):decide (0<(l.length:Int))=!((l.length:Int) == 0):=by
 cases l with
 | nil=>rfl
 | cons y l=>
  rw [qaj (show (0:Int)<((y::l).length:Int) by rw [qbl];omega)];have:(((y::l).length:Int) == 0)=false:=by rw [qa0,qbl];omega
  rw [this];rfl
theorem kwe:∀ n:Nat,(∀ x:Va,2*rkT x.type<=n->inV x->Ev (kbc n x) fun c=>c=0->depV x<=rkT x.type) /\
  (∀ (l:List Va) (t:Int),(t=2\/t=3)->3<=n->l.length<=9223372036854775807->(∀ x∈l,inV x)->Ev (kb6 n l t) fun c=>c=0->∀ x∈l,depV x<=1) /\
  (∀ l:List Va,5<=n->l.length<=9223372036854775807->(∀ x∈l,inV x)->Ev (kc9 n l) fun c=>c=0->∀ x∈l,depV x<=2)
 | 0=>⟨fun x h=>by unfold rkT at h;split at h <;> (try split at h) <;> omega,fun l t _ h=>by omega,fun l h=>by omega⟩
 | n+1=>by
  obtain ⟨ih1,ih2,ih3⟩:=kwe n;have all:∀ (l:List Va) (k:Nat),(∀ i,i<l.length->∀ x,l[i]?=some x->depV x<=k)->∀ x∈l,depV x<=k:=fun l k h x hx=>by obtain ⟨i,hi,rfl⟩:=qah.1 hx;exact h i hi _ (qa hi)
  refine ⟨fun x hd hx=>?_,fun l t ht hd hl wl=>?_,fun l hd hl wl=>?_⟩
  ·show Ev (kal (kbc n) (kb6 n) (kc9 n) x) _;obtain ⟨lx,sx,wx⟩:=kv6 hx;by_cases h0:x.type<1;exact ⟨3,by simp [kal,h0],fun h=>absurd h (by decide)⟩;by_cases p:8<x.type;exact ⟨3,by simp [kal,h0,p],fun h=>absurd h (by decide)⟩;have ht:x.type=1\/x.type=2\/x.type=3\/x.type=4\/x.type=5\/x.type=6\/x.type=7\/x.type=8:=(by omega);have o:∀ t,(t=2\/t=3)->rkT x.type=2->Ev (kb6 n x.items t) fun c=>c=0->depV x<=2:=fun t h1 q=>
    (ih2 x.items t h1 (by omega) lx wx).mono fun c h e=>ku3 (h e)
   have u:rkT x.type=3->Ev (kc9 n x.items) fun c=>c=0->depV x<=3:=fun q=>
    (ih3 x.items (by omega) lx wx).mono fun c h e=>ku3 (h e)
   have hp:=k95 x.items;cases f:(x.text.toList == (⟨#[]⟩:BA).toList) <;> cases hm:(x.num == 0) <;> cases hl:((x.items.length:Int) == 0) <;> rw [hl] at hp <;>
    rcases ht with ht | ht | ht | ht | ht | ht | ht | ht <;>
    first
     | (refine ⟨4,?_,fun h=>absurd h (by decide)⟩;simp only [kal,ht,f,hm,hp,bne];simp;done)
     | (obtain ⟨c,e2⟩:=koy x.num 0 1;refine ⟨c,?_,fun _=>by rw [ht];exact kkt (len0 hl)⟩;simp only [kal,ht,f,hm,hp,bne];simp [e2];done)
     | (obtain ⟨c,e2⟩:=koy x.num (-1000000) 1000000;refine ⟨c,?_,fun _=>by rw [ht];exact kkt (len0 hl)⟩;simp only [kal,ht,f,hm,hp,bne];simp [e2];done)
     | (obtain ⟨c,e2⟩:=koy x.num 0 255;refine ⟨c,?_,fun _=>by rw [ht];exact kkt (len0 hl)⟩;simp only [kal,ht,f,hm,hp,bne];simp [e2];done)
     | (obtain ⟨c,e1⟩:=kwr x.text 0 64 sx;refine ⟨c,?_,fun _=>by rw [ht];exact kkt (len0 hl)⟩;simp only [kal,ht,f,hm,hp,bne];simp [e1];done)
     | (obtain ⟨c,e1⟩:=kwr x.text 1 40 sx;refine ⟨c,?_,fun _=>by rw [ht];exact kkt (len0 hl)⟩;simp only [kal,ht,f,hm,hp,bne];simp [e1];done)
     | (obtain ⟨c,e2,e3⟩:=o 2 (.inl rfl) (by rw [ht];rfl);refine ⟨c,?_,fun h=>by rw [ht];exact e3 h⟩;simp only [kal,ht,f,hm,hp,bne];simp [e2];done)
     | (obtain ⟨c,e2,e3⟩:=o 3 (.inr rfl) (by rw [ht];rfl);refine ⟨c,?_,fun h=>by rw [ht];exact e3 h⟩;simp only [kal,ht,f,hm,hp,bne];simp [e2];done)
     | (obtain ⟨c,e2,e3⟩:=u (by rw [ht];rfl);refine ⟨c,?_,fun h=>by rw [ht];exact e3 h⟩;simp only [kal,ht,f,hm,hp,bne];simp [e2];done)
  ·show Ev (kck (kbc n) (kb6 n) (kc9 n) l t) _;unfold kck;refine kag (fun _=>⟨_,rfl,fun h=>absurd h (by decide)⟩) fun _=>?_;refine kbe (Ev.mono (keu (step:=kcd l t (kbc n)) (Q:=fun r=>∀ c,Sum.elim (fun _=>0) id r=c->c=0->∀ x∈l,depV x<=1) l.length (fun i s=>s=(i:Int)/\∀ k,k<i->∀ x,l[k]?=some x->depV x<=1) (by omega) ⟨rfl,fun k h=>by omega⟩ (fun i s hi a=>?_) fun s a=>?_) fun r hr=>kb2 (fun _ e=>?_) fun _ e=>?_)
   ·obtain ⟨rfl,a⟩:=a;have e1:l[i]?=some l[i]:=qa hi;simp only [kcd,ka1 hi,qg,kai,e1,qb];refine kag (fun _=>⟨_,rfl,fun c hc h=>by subst hc;exact absurd h (by decide)⟩) fun d=>?_;have d:l[i].type=t:=qao.1 d;have m:rkT l[i].type=1:=(by rw [d];rcases ht with rfl | rfl <;> rfl);obtain ⟨c,k2,k3⟩:=ih1 l[i] (by omega) (wl _ (qx hi));simp only [k2,qb];refine kag (fun hc=>⟨_,rfl,fun c' g h=>by subst g;exact absurd h (bne_iff_ne.1 hc)⟩) fun hc=>⟨_,rfl,kbk,fun k hk x hx=>?_⟩;by_cases j:k=i;subst j;rw [e1] at hx;cases hx;have:=k3 (qao.1 hc);omega
    ·exact a k (by omega) x hx
   obtain ⟨rfl,a⟩:=a;exact kfr (.inl ()) (by simp only [kcd,kar,qo]) (fun c _ _=>all l 1 a);subst e;exact ⟨_,rfl,hr 0 rfl⟩
   ·subst e;exact ⟨_,rfl,hr _ rfl⟩
  ·show Ev (kdo (kbc n) (kb6 n) (kc9 n) l) _;unfold kdo;refine kag (fun _=>⟨_,rfl,fun h=>absurd h (by decide)⟩) fun _=>?_;refine kbe (Ev.mono (keu (step:=kdj l (kbc n)) (Q:=fun r=>∀ c,Sum.elim (fun _=>0) id r=c->c=0->∀ x∈l,depV x<=2) l.length (fun i s=>s=(i:Int)/\∀ k,k<i->∀ x,l[k]?=some x->depV x<=2) (by omega) ⟨rfl,fun k h=>by omega⟩ (fun i s hi a=>?_) fun s a=>?_) fun r hr=>kb2 (fun _ e=>?_) fun _ e=>?_)
   ·obtain ⟨rfl,a⟩:=a;have e1:l[i]?=some l[i]:=qa hi;have e0:idx l 0=some (l[0]'(by omega)):=(by rw [show (0:Int)=((0:Nat):Int) from rfl,kai,qa]);simp only [kdj,ka1 hi,qg,kai,e1,e0,qb];refine kag (fun _=>⟨_,rfl,fun c hc h=>by subst hc;exact absurd h (by decide)⟩) fun d=>?_;have d:l[i].type=6:=qao.1 d;have m:rkT l[i].type=2:=(by rw [d];rfl);refine kat (kag (fun _=>⟨_,rfl,trivial⟩) fun _=>kag (fun _=>⟨_,rfl,trivial⟩) fun _=>⟨_,rfl,trivial⟩) fun _ _=>kag (fun _=>⟨_,rfl,fun c hc h=>by subst hc;exact absurd h (by decide)⟩) fun _=>?_;obtain ⟨c,k2,k3⟩:=ih1 l[i] (by omega) (wl _ (qx hi));simp only [k2,qb];refine kag (fun hc=>⟨_,rfl,fun c' g h=>by subst g;exact absurd h (bne_iff_ne.1 hc)⟩) fun hc=>⟨_,rfl,kbk,fun k hk x hx=>?_⟩;by_cases j:k=i;subst j;rw [e1] at hx;cases hx;have:=k3 (qao.1 hc);omega
    ·exact a k (by omega) x hx
   obtain ⟨rfl,a⟩:=a;exact kfr (.inl ()) (by simp only [kdj,kar,qo]) (fun c _ _=>all l 2 a);subst e;exact ⟨_,rfl,hr 0 rfl⟩
   ·subst e;exact ⟨_,rfl,hr _ rfl⟩
theorem k4x (t:Int):rkT t<=3:=by unfold rkT;split <;> (try split) <;> omega
theorem k39 {x:Va} (hx:inV x):Ev (kbc fuel x) fun c=>c=0->depV x<=3:=
 ((kwe fuel).1 x (qar (Nat.mul_le_mul_left 2 (k4x x.type)) (by decide)) hx).mono fun c h e=>qar (h e) (k4x _)
def krc (l:List Sad):Bool:=Nat.blt l.length 1000 && l.all fun e=>Nat.blt 0 e.f_2.size && Nat.blt e.f_1.size 1000
theorem k42 (s:BA):Ev (kcf s) fun l=>krc l=true:=by
 unfold kcf
 repeat' first | with_reducible refine kag (fun _=>?_) fun _=>?_ | exact ⟨_,rfl,by show krc _=true;kernel_rfl⟩
theorem k1b {l:List Sad} (h:krc l=true):l.length<1000:=by unfold krc at h;rw [qk] at h;exact Nat.blt_eq.mp h.1
theorem k81 {l:List Sad} (h:krc l=true) {e:Sad} (a:e∈l):0<e.f_2.size/\e.f_1.size<1000:=by unfold krc at h;rw [qk] at h;have:=qq.1 h.2 e a;rw [qk] at this;exact ⟨Nat.blt_eq.mp this.1,Nat.blt_eq.mp this.2⟩
theorem kud (c:Int):Ev (kcm c) fun _=>True:=by unfold kcm;refine kat (khi (⟨#[66,73,84,86,76,83,77,80]⟩:BA).size (by decide) (fun i hi=>?_) (by simp only [kd3,kar,qo];exact kjr)) fun r _=>kb2 (fun _ _=>⟨_,rfl,trivial⟩) fun _ _=>⟨_,rfl,trivial⟩;obtain ⟨c,hc⟩:=km2 hi;simp only [kd3,ka1 hi,qg,hc,qb];exact kag (fun _=>⟨_,rfl,trivial⟩) fun _=>⟨_,rfl,rfl⟩
theorem k1u (s:BA):Ev (kds s) fun _=>True:=by unfold kds;refine kat ⟨_,rfl,trivial⟩ fun fs a=>kat (khi fs.length (by cases a;decide) (fun i hi=>?_) (by simp only [kd8,kar,qo];exact kjr)) fun r _=>kb2 (fun _ _=>⟨_,rfl,trivial⟩) fun _ _=>⟨_,rfl,trivial⟩;have e1:fs[i]?=some fs[i]:=qa hi;obtain ⟨l,hl,b⟩:=k42 fs[i];simp only [kd8,ka1 hi,qg,kai,e1,hl,qb];refine kat (khi l.length (by have:=k1b b;omega) (fun k hk=>?_) (by simp only [kd4,kar,qo];exact kjr)) fun r _=>kb2 (fun _ _=>⟨_,rfl,rfl⟩) fun _ _=>⟨_,rfl,trivial⟩;simp only [kd4,ka1 hk,qg,kai,qa hk,qb];exact kag (fun _=>⟨_,rfl,trivial⟩) fun _=>⟨_,rfl,rfl⟩
theorem k57 (s:BA):Ev (keq s) fun _=>True:=by
 unfold keq;refine kat (k1u s) fun f _=>kag (fun _=>⟨_,rfl,trivial⟩) fun _=>?_;obtain ⟨l,hl,e⟩:=k42 f;rw [hl,qb];refine kat (khi l.length (by have:=k1b e;omega) (fun k hk=>?_) (by simp only [ke3,kar,qo];exact kjr)) fun r _=>kb2 (fun _ _=>⟨_,rfl,trivial⟩) fun _ _=>⟨_,rfl,trivial⟩;obtain ⟨h1,g⟩:=k81 e (qx hk);obtain ⟨c,hc⟩:=km2 h1;simp only [ke3,ka1 hk,qg,kai,qa hk,qb];refine kag (fun _=>?_) fun _=>⟨_,rfl,rfl⟩;rw [show byt l[k].f_2 0=some c from hc,qb];refine kat (kud c) fun v _=>kat (keu (Q:=fun _=>True) l[k].f_1.size (fun i s=>s.1=(i:Int)/\s.2.length=i) (by omega) ⟨rfl,rfl⟩ (fun i s hi a=>?_) fun s a=>?_) fun _ _=>⟨_,rfl,trivial⟩;obtain ⟨j,xs⟩:=s;obtain ⟨rfl,a⟩:=a;simp only at a;obtain ⟨c,hc⟩:=km2 hi;obtain ⟨d,hd,_⟩:=kud c;simp only [ke7,ka1 hi,qg,hc,hd,qb];rw [km6 (by rw [qas];omega),qb];exact ⟨_,rfl,kbk,by rw [qy,qas,a]⟩
 ·obtain ⟨j,xs⟩:=s;obtain ⟨rfl,a⟩:=a;exact kfr xs (by simp only [ke7,kar,qo]) trivial
theorem krn {α:Type} {xs:List α} {i:Int} (h0:0<=i) (h1:i<(xs.length:Int)):∃ x,idx xs i=some x:=by obtain ⟨n,rfl⟩:=Int.eq_ofNat_of_zero_le h0;exact ⟨xs[n]'(by omega),by rw [kai,qa]⟩
theorem k5r (l:La) (r:Ru) (hs:0<=r.symbol) (f:r.symbol<(l.symbols.length:Int)) (ha:r.args.length<=9223372036854775807):Ev (kcr l r) fun c=>c=0->∀ a∈r.args,0<=a:=by
 unfold kcr;obtain ⟨sy,g⟩:=krn hs f;refine kat (k57 _) fun o _=>kag (fun _=>⟨_,rfl,fun h=>absurd h (by decide)⟩) fun _=>kag (fun _=>⟨_,rfl,fun h=>absurd h (by decide)⟩) fun b=>?_;have b:r.args.length=o.1.yg.length:=by have:=qao.1 b;omega
 refine kbe (Ev.mono (kf7 (P:=fun i=>∀ x,r.args[i]?=some x->0<=x) (B:=fun e=>e≠0) r.args.length ha (fun i hi _=>?_) (by simp only [kc7,kar,qo])) fun q j=>kb2 (fun _ e=>?_) fun e k=>?_)
 ·simp only [kc7,ka1 hi,qg,kai,qa hi,qa (show i<o.1.yg.length by omega),qb];refine kat (kag (fun _=>⟨_,rfl,trivial⟩) fun _=>⟨_,rfl,trivial⟩) fun v hv=>kag (fun _=>⟨_,rfl,(by decide:(1:Int)≠0)⟩) fun m=>?_;subst m;have d:0<=r.args[i]/\r.args[i]<(l.symbols.length:Int):=by
   cases hd:decide (r.args[i]<0) with
   | true=>rw [hd] at hv;cases hv
   | false=>
    rw [hd] at hv;have h1:=qak hd;have n:=qak (qu hv);omega
  obtain ⟨x,hx⟩:=krn d.1 d.2;rw [hx,qb];exact kag (fun _=>⟨_,rfl,(by decide:(3:Int)≠0)⟩) fun _=>⟨_,rfl,rfl,fun x hx=>by cases hx;exact d.1⟩
 ·subst e;rw [g,qb];have all:∀ a∈r.args,0<=a:=fun a h=>by obtain ⟨i,hi,rfl⟩:=qah.1 h;exact j i hi _ (qa hi)
  exact kag (fun _=>⟨_,rfl,fun _=>all⟩) fun _=>⟨_,rfl,fun _=>all⟩
 ·subst k;exact ⟨_,rfl,fun h=>absurd h j⟩
structure kji (l:La) (r:Ru):Prop where
 sym0:0<=r.symbol
 sym1:r.symbol<(l.symbols.length:Int)
 noargs:r.kind≠3->r.args=[]
 args:∀ a∈r.args,0<=a
 deep:depV r.const<=1000000
theorem k5i (r:Ru):Ev (kes r) fun b=>b=true->(r.kind=1\/r.kind=2->r.args=[])/\(r.kind≠2->r.const.items=[]):=by
 unfold kes;obtain ⟨z,h1,c⟩:=k21 r.const;rw [h1,qb];refine kag (fun k1=>?_) fun k1=>kag (fun k2=>?_) fun k2=>?_;have k1:=eq_of_beq k1;refine kbe (kag (fun a=>kag (fun b=>⟨_,rfl,⟨_,rfl,fun h=>⟨fun _=>len0 h,fun _=>c a⟩⟩⟩) fun _=>⟨_,rfl,⟨_,rfl,fun h=>by cases h⟩⟩) fun _=>⟨_,rfl,⟨_,rfl,fun h=>by cases h⟩⟩);have k2:=eq_of_beq k2;refine kbe (kag (fun a=>kag (fun b=>⟨_,rfl,⟨_,rfl,fun h=>⟨fun _=>len0 h,fun h=>absurd k2 h⟩⟩⟩) fun _=>⟨_,rfl,⟨_,rfl,fun h=>by cases h⟩⟩) fun _=>⟨_,rfl,⟨_,rfl,fun h=>by cases h⟩⟩)
 ·have k1:=qa0.1 k1;have k2:=qa0.1 k2;refine kbe (kag (fun a=>⟨_,rfl,⟨_,rfl,fun h=>⟨fun k=>by rcases k with k | k <;> contradiction,fun _=>c h⟩⟩⟩) fun _=>⟨_,rfl,⟨_,rfl,fun h=>by cases h⟩⟩)
theorem k5k (l:La) (r:Ru) (hr:kxk r):Ev (keo l r) fun c=>c=0->kji l r:=by
 unfold keo;have no:∀ {c:Int},c≠0->c=0->kji l r:=fun h i=>absurd i h;refine kat (kag (fun _=>⟨_,rfl,trivial⟩) fun _=>⟨_,rfl,trivial⟩) fun v hv=>kag (fun _=>⟨_,rfl,no (by decide)⟩) fun f=>?_;subst f;have b:0<=r.symbol/\r.symbol<(l.symbols.length:Int):=by
  cases hd:decide (r.symbol<0) with
  | true=>rw [hd] at hv;cases hv
  | false=>
   rw [hd] at hv;have h1:=qak hd;have e:=qak (qu hv);omega
 obtain ⟨x,hx⟩:=krn b.1 b.2;obtain ⟨z,k,j⟩:=k5i r;rw [k,qb];refine kat (kag (fun _=>⟨_,rfl,trivial⟩) fun _=>kag (fun _=>⟨_,rfl,trivial⟩) fun _=>⟨_,rfl,trivial⟩) fun v hv=>kag (fun _=>⟨_,rfl,no (by decide)⟩) fun f=>?_;subst f;have hk:(r.kind=1\/r.kind=2\/r.kind=3)/\z=true:=by
  cases hd:decide (r.kind<1) with
  | true=>rw [hd] at hv;cases hv
  | false=>
   rw [hd,qo] at hv;cases d:decide (3<r.kind) with
   | true=>rw [d] at hv;cases hv
   | false=>
    rw [d,qo] at hv;have h1:=qak hd;have e:=qak d;exact ⟨by omega,by cases z with
     | true=>rfl
     | false=>cases hv⟩
 obtain ⟨hk,rfl⟩:=hk;obtain ⟨z1,z2⟩:=j rfl;rw [hx,qb];have dp:r.kind≠2->depV r.const<=1000000:=fun h=>qar (kkt (z2 h)) (by decide);have na:r.kind=1\/r.kind=2\/r.kind=3->r.kind≠3->r.args=[]:=fun h m=>z1 (by omega);refine kag (fun k1=>?_) fun k1=>kag (fun k2=>?_) fun k2=>?_
 ·have k1:=eq_of_beq k1;have g:kji l r:=⟨b.1,b.2,na hk,(by rw [na hk (by omega)];intro a h;cases h),dp (by omega)⟩;refine kat (kag (fun _=>⟨_,rfl,trivial⟩) fun _=>⟨_,rfl,trivial⟩) fun v hv=>kag (fun _=>⟨_,rfl,no (by decide)⟩) fun f=>?_;subst f;have b:0<=r.input/\r.input<(l.inputs.length:Int):=by
   cases hd:decide (r.input<0) with
   | true=>rw [hd] at hv;cases hv
   | false=>
    rw [hd] at hv;have h1:=qak hd;have e:=qak (qu hv);omega
  obtain ⟨y,hy⟩:=krn b.1 b.2;rw [hy,qb];exact kag (fun _=>⟨_,rfl,fun _=>g⟩) fun _=>⟨_,rfl,fun _=>g⟩
 obtain ⟨c,h1,e⟩:=k39 hr.2;rw [h1,qb];have g:c=0->kji l r:=fun h=>⟨b.1,b.2,na hk,(by rw [na hk (by have:=eq_of_beq k2;omega)];intro a h;cases h),qar (e h) (by decide)⟩;exact kag (fun h=>⟨_,rfl,fun i=>absurd i (bne_iff_ne.1 h)⟩) fun h=>kag (fun _=>⟨_,rfl,fun _=>g (qao.1 h)⟩) fun _=>⟨_,rfl,fun _=>g (qao.1 h)⟩
 ·obtain ⟨c,h1,e⟩:=k5r l r b.1 b.2 hr.1;rw [h1,qb];exact ⟨c,rfl,fun h=>⟨b.1,b.2,na hk,e h,dp (qa0.1 k2)⟩⟩
theorem k60 (x y:List Int) (hx:x.length<=9223372036854775807):Ev (kc3 x y) fun _=>True:=by
 unfold kc3;refine kag (fun _=>⟨_,rfl,trivial⟩) fun a=>?_;have a:x.length=y.length:=by have:=qao.1 a;omega
 refine kat (khi x.length hx (fun i hi=>?_) (by simp only [kdl,kar,qo];exact kjr)) fun r _=>kb2 (fun _ _=>⟨_,rfl,trivial⟩) fun _ _=>⟨_,rfl,trivial⟩;simp only [kdl,ka1 hi,qg,kai,qa hi,qa (show i<y.length by omega),qb];exact kag (fun _=>⟨_,rfl,trivial⟩) fun _=>⟨_,rfl,rfl⟩
theorem k51 {a b:Ru} (ha:kxk a) (hd:depV a.const<=1000000):Ev (kc2 a b) fun _=>True:=by unfold kc2;refine kat ?_ fun _ _=>⟨_,rfl,trivial⟩;refine kag (fun _=>kag (fun _=>kag (fun _=>kag (fun _=>kat (k60 _ _ ha.1) fun _ _=>kag (fun _=>kat (k40 hd ha.2) fun _ _=>⟨_,rfl,trivial⟩) fun _=>?_) fun _=>?_) fun _=>?_) fun _=>?_) fun _=>?_ <;> exact ⟨_,rfl,trivial⟩
theorem k6q (l:La) (h:kul l):Ev (kbn l) fun c=>c=0->l.symbols.length<=16/\∀ r∈l.rules,kji l r:=by
 unfold kbn;have no:∀ {c:Int},c≠0->c=0->l.symbols.length<=16/\∀ r∈l.rules,kji l r:=fun h o=>absurd o h;refine kat (ky5 _ h.name) fun _ _=>kag (fun _=>⟨_,rfl,no (by decide)⟩) fun _=>kag (fun _=>⟨_,rfl,no (by decide)⟩) fun _=>?_;refine kbe (Ev.mono (khi (Q:=fun r=>∀ e,r = .inr e->e≠0) l.inputs.length h.inputs (fun i hi=>?_) (kfr (.inl ()) (by simp only [kei,kar,qo]) (fun e a=>by cases a))) fun r hr=>kb2 (fun _ _=>?_) fun e a=>⟨_,rfl,no (hr e a)⟩);simp only [kei,ka1 hi,qg,kai,qa hi,qb];exact kat (kwk _) fun _ _=>kag (fun _=>⟨_,rfl,fun e a=>by cases a;decide⟩) fun _=>⟨_,rfl,rfl⟩;refine kat (kag (fun _=>⟨_,rfl,trivial⟩) fun _=>⟨_,rfl,trivial⟩) fun v hv=>kag (fun _=>⟨_,rfl,no (by decide)⟩) fun p=>?_;subst p;have g:l.symbols.length<=16:=by
  cases hd:decide ((l.symbols.length:Int)<1) with
  | true=>rw [hd] at hv;cases hv
  | false=>
   rw [hd] at hv;have n:=qak (qu hv);omega
 refine kbe (Ev.mono (khi (Q:=fun r=>∀ e,r = .inr e->e≠0) l.symbols.length h.symbols (fun i hi=>?_) (kfr (.inl ()) (by simp only [kej,kar,qo]) (fun e a=>by cases a))) fun r hr=>kb2 (fun _ _=>?_) fun e a=>⟨_,rfl,no (hr e a)⟩)
 ·have e1:l.symbols[i]?=some l.symbols[i]:=qa hi;simp only [kej,ka1 hi,qg,kai,e1,qb];refine kat (ky5 _ (h.names _ (qx hi))) fun _ _=>kag (fun _=>⟨_,rfl,fun e a=>by cases a;decide⟩) fun _=>?_;refine kbe (Ev.mono (khi (Q:=fun r=>∀ e,r = .inr e->e≠0) i (by omega) (fun k hk=>?_) (kfr (.inl ()) (by simp only [kea,kar,qo]) (fun e a=>by cases a))) fun r hr=>kb2 (fun _ _=>?_) fun e a=>⟨_,rfl,fun e' j=>by cases j;exact hr e a⟩);simp only [kea,ka1 hk,qg,kai,e1,qa (show k<l.symbols.length by omega),qb];exact kag (fun _=>⟨_,rfl,fun e a=>by cases a;decide⟩) fun _=>⟨_,rfl,rfl⟩
  ·exact kat (kwk _) fun _ _=>kag (fun _=>⟨_,rfl,fun e a=>by cases a;decide⟩) fun _=>⟨_,rfl,rfl⟩
 refine kag (fun _=>⟨_,rfl,no (by decide)⟩) fun _=>?_;refine kbe (Ev.mono (keu (step:=kc5 l) (Q:=fun r=>Sum.elim (fun _=>∀ x∈l.rules,kji l x) (fun e=>e≠0) r) l.rules.length (fun i s=>s=(i:Int)/\∀ k,k<i->∀ x,l.rules[k]?=some x->kji l x) (by have:=h.rules;omega) ⟨rfl,fun k h=>by omega⟩ (fun i s hi d=>?_) fun s d=>?_) fun r hr=>kb2 (fun _ e=>?_) fun e a=>?_)
 ·obtain ⟨rfl,d⟩:=d;have e1:l.rules[i]?=some l.rules[i]:=qa hi;simp only [kc5,ka1 hi,qg,kai,e1,qb];obtain ⟨c,h1,n⟩:=k5k l l.rules[i] (h.wide _ (qx hi));rw [h1,qb];refine kag (fun hc=>⟨_,rfl,bne_iff_ne.1 hc⟩) fun hc=>?_;have q:=n (qao.1 hc);refine kbe (Ev.mono (khi (Q:=fun r=>∀ e,r = .inr e->e≠0) i (by have:=h.rules;omega) (fun k hk=>?_) (kfr (.inl ()) (by simp only [ked,kar,qo]) (fun e a=>by cases a))) fun r hr=>kb2 (fun _ _=>?_) fun e a=>⟨_,rfl,hr e a⟩);have f:k<l.rules.length:=(by omega);have e2:l.rules[k]?=some l.rules[k]:=qa f;simp only [ked,ka1 hk,qg,kai,e1,e2,qb];exact kat (k51 (h.wide _ (qx f)) (d k hk _ e2).deep) fun _ _=>kag (fun _=>⟨_,rfl,fun e a=>by cases a;decide⟩) fun _=>⟨_,rfl,rfl⟩
  ·refine ⟨_,rfl,kbk (h:=(by have:=h.rules;omega)),fun k hk x hx=>?_⟩;by_cases m:k=i;subst m;rw [e1] at hx;cases hx;exact q
   ·exact d k (by omega) x hx
 obtain ⟨rfl,d⟩:=d;refine kfr (.inl ()) (by simp only [kc5,kar,qo]) ?_;show ∀ x∈l.rules,kji l x;intro x hx;obtain ⟨i,hi,rfl⟩:=qah.1 hx;exact d i hi _ (qa hi);subst e;exact ⟨_,rfl,fun _=>⟨g,hr⟩⟩
 ·subst a;exact ⟨_,rfl,no hr⟩
open Go Go.RowKit TV
def kdy (m s:Nat):Int:=if s<=m then (m:Int) - (s:Int) else -1
theorem kvw:∀ (n:Nat) (t:Tm) (m:Nat),m<=10000->m<n->ka2 n t (m:Int)=some (kdy m t.size)/\ka2 n t (m:Int)=some (kdy m t.size)
 | 0,t,m,_,h=>by omega
 | n+1,t,m,hm,hn=>by
  show kcl (ka2 n) t (m:Int)=_/\kcl (ka2 n) t (m:Int)=_;obtain ⟨r0,l⟩:=t;have g:(Tm.mk r0 l).size=Tm.sizeL l+1:=rfl;have a:w64 ((m:Int) - 1)=kdy m (1+Tm.sizeL (l.take 0)):=by rw [ket];simp only [qbp,Tm.sizeL,kdy];split <;> omega
  obtain ⟨r,r',h1,k,s,o⟩:=k58 (step:=kau (Tm.mk r0 l) (ka2 n)) (step':=kau (Tm.mk r0 l) (ka2 n)) (min l.length m) (by omega)
   (fun i=>(kdy m (1+Tm.sizeL (l.take i)),(i:Int))) (fun i=>(kdy m (1+Tm.sizeL (l.take i)),(i:Int))) (fun r r'=>r=kdy m (Tm.sizeL l+1)/\r'=kdy m (Tm.sizeL l+1)) (fun i hi=>by
   have c:i<l.length:=(by omega);have e1:(Tm.mk r0 l).args[i]?=some l[i]:=qa c;have b1:decide ((i:Int)<((Tm.mk r0 l).args.length:Int))=true:=qaj (by show (i:Int)<(l.length:Int);omega);have e:=kl7 l i (by omega);simp only [kau,kau,b1,qg,qb,kai,e1];by_cases hp:1+Tm.sizeL (l.take i)<=m
   ·have hv:kdy m (1+Tm.sizeL (l.take i))=((m - (1+Tm.sizeL (l.take i)):Nat):Int):=(by unfold kdy;rw [qr hp];omega);obtain ⟨q1,q2⟩:=kvw n l[i] (m - (1+Tm.sizeL (l.take i))) (by omega) (by omega);have d:kdy (m - (1+Tm.sizeL (l.take i))) l[i].size=kdy m (1+Tm.sizeL (l.take (i+1))):=(by rw [kt6 c];unfold kdy;split <;> split <;> omega);rw [hv,qaj (show (0:Int)<=((m - (1+Tm.sizeL (l.take i)):Nat):Int) by omega)];simp only [qg,qo,q1,q2,qb,d,kbk (n:=i)]
    first | exact .inl ⟨rfl,rfl⟩ | exact .inl ⟨trivial,trivial⟩
   ·have hv:kdy m (1+Tm.sizeL (l.take i)) = -1:=(by unfold kdy;rw [qj hp]);have f:kdy m (Tm.sizeL l+1) = -1:=(by unfold kdy;rw [qj (by omega)]);rw [hv,f];exact .inr ⟨_,_,rfl,rfl,rfl,rfl⟩) (by
   have e:=kl7 l (min l.length m) (by omega);by_cases p:l.length<=m;have b:min l.length m=l.length:=(by omega);have b1:decide ((l.length:Int)<((Tm.mk r0 l).args.length:Int))=false:=qae (by show ¬ (l.length:Int)<(l.length:Int);omega);have f:kdy m (1+Tm.sizeL l)=kdy m (Tm.sizeL l+1):=(by rw [Nat.add_comm]);simp only [b,kau,kau,b1,qo,qb,qa8,f];exact ⟨_,_,rfl,rfl,rfl,rfl⟩
   ·have b:min l.length m=m:=(by omega);rw [b] at e;have b1:decide ((m:Int)<((Tm.mk r0 l).args.length:Int))=true:=qaj (by show (m:Int)<(l.length:Int);omega);have c:m<l.length:=(by omega);have e1:(Tm.mk r0 l).args[m]?=some l[m]:=qa c;have hv:kdy m (1+Tm.sizeL (l.take m)) = -1:=(by unfold kdy;rw [qj (by omega)]);have f:kdy m (Tm.sizeL l+1) = -1:=(by unfold kdy;rw [qj (by omega)]);simp only [b,kau,kau,b1,qg,qb,kai,e1,hv,f];exact ⟨_,_,rfl,rfl,rfl,rfl⟩)
  have q:kah (kau (Tm.mk r0 l) (ka2 n)) fuel (w64 ((m:Int) - 1),0)=some r:=by rw [a];simpa using h1
  have j:kah (kau (Tm.mk r0 l) (ka2 n)) fuel (w64 ((m:Int) - 1),0)=some r':=by rw [a];simpa using k
  unfold kcl;rw [j,g,<- o];exact ⟨rfl,rfl⟩
theorem kvv (t:Tm) (m:Nat) (hm:m<=10000:=by decide):kcn t (m:Int)=some (decide (t.size<=m)):=by unfold kcn;rw [(kvw fuel t m hm (kbv (by omega))).1,qb];refine qa2 some (decide_eq_decide.2 ?_);unfold kdy;split <;> omega
theorem krb (g:Tm->Int) (r:Tm->Option (List Int)):∀ (xs:List Tm) (acc:List Int),acc.length+Tm.sizeL xs<=1000000->(∀ x∈xs,r x=some (x.pre g))->xs.foldlM (fun s x=>Option.bind (r x) fun v=>app 8 s v) acc=some (acc++Tm.preL g xs)
 | [],acc,_,_=>by simp [Tm.preL]
 | x::xs,acc,hl,h=>by have hs:Tm.sizeL (x::xs)=x.size+Tm.sizeL xs:=rfl;rw [List.foldlM_cons,h x (qt ..),qb,km6 (by rw [Tm.pre_length];omega)];have:=krb g r xs (acc++x.pre g) (by rw [qy,Tm.pre_length];omega) fun y hy=>h y (qf _ hy);show List.foldlM _ (acc++x.pre g) xs=_;rw [this,qbi];rfl
theorem kqm:∀ (n:Nat) (t:Tm),t.size<=n->t.size<=1000->kbd n t=some t.rules
 | 0,t,h,_=>by have:=Tm.size_pos t;omega
 | n+1,t,h,hl=>by
  show kdh (kbd n) t=_;have a:=args_len t;have b:=kd7 t;unfold kdh;rw [khd (step:=kc4 t (kbd n)) t.args (fun s x=>Option.bind (kbd n x) fun v=>app 8 s v) (fun i s=>(i,s)) (by omega) (fun i x s hx=>by
   have hi:=kb1 hx;simp only [kc4,khf hi,qg,kai,hx,qb,kfe hi (show t.args.length<=9223372036854775807 by omega)];cases kbd n x with
   | none=>rfl
   | some v=>simp only [qb];cases app 8 s v <;> rfl) (fun s=>by simp only [kc4,kg2,qo])]
  rw [krb Tm.rule _ t.args _ (by rw [qas];omega) fun x hx=>kqm n x (by have:=kdq hx;omega) (by have:=kdq hx;omega)];show some _=some (t.pre Tm.rule);rw [knn];rfl
theorem kog:∀ (n:Nat) (t:Tm),t.size<=n->t.size<=1000->ka4 n t=some t.arities
 | 0,t,h,_=>by have:=Tm.size_pos t;omega
 | n+1,t,h,hl=>by
  show kcq (ka4 n) t=_;have a:=args_len t;have b:=kd7 t;unfold kcq;rw [khd (step:=kch t (ka4 n)) t.args (fun s x=>Option.bind (ka4 n x) fun v=>app 8 s v) (fun i s=>(i,s)) (by omega) (fun i x s hx=>by
   have hi:=kb1 hx;simp only [kch,khf hi,qg,kai,hx,qb,kfe hi (show t.args.length<=9223372036854775807 by omega)];cases ka4 n x with
   | none=>rfl
   | some v=>simp only [qb];cases app 8 s v <;> rfl) (fun s=>by simp only [kch,kg2,qo])]
  rw [krb Tm.nargs _ t.args _ (by rw [qas];omega) fun x hx=>kog n x (by have:=kdq hx;omega) (by have:=kdq hx;omega)];show some _=some (t.pre Tm.nargs);rw [knn];rfl
theorem ksp:∀ (n:Nat) (t:Tm),t.size<=n->t.size<=1000->ka8 n t=some (t.size:Int)
 | 0,t,h,_=>by have:=Tm.size_pos t;omega
 | n+1,t,h,hl=>by show kdr (ka8 n) t=_;have a:=args_len t;have b:=kd7 t;unfold kdr;rw [khd (step:=kdg t (ka8 n)) t.args (fun s x=>Option.bind (ka8 n x) fun v=>some (w64 (s+v))) (fun i s=>(s,i)) (by omega) (fun i x s hx=>by have hi:=kb1 hx;simp only [kdg,khf hi,qg,kai,hx,qb,kfe hi (show t.args.length<=9223372036854775807 by omega)];cases ka8 n x <;> rfl) (fun s=>by simp only [kdg,kg2,qo])];have:=kqp (ka8 n) t.args 1 (by omega) fun x hx=>ksp n x (by have:=kdq hx;omega) (by have:=kdq hx;omega);rw [show (1:Int)=((1:Nat):Int) from rfl,this,qb];congr 2;omega
theorem k0f (x y:List Int) (hl:x.length=y.length) (hx:x.length<=1000000):kbt x y=some (lexC x y):=by
 unfold kbt;have h:=kqb (step:=kbl x y) x.length (by omega) (fun i=>(i:Int)) (fun i=>lexO (x.drop i) (y.drop i)) (fun i hi=>by
  have hy:i<y.length:=by omega
  simp only [kbl,khf hi,khf hy,qg,kai,qa hi,qa hy,qb,kfe hi (show x.length<=9223372036854775807 by omega),qa7 hi,qa7 hy,lexO];by_cases h1:x[i]<y[i];rw [qaj h1,qr h1];exact .inr rfl
  ·rw [qae h1,qj h1];by_cases a:y[i]<x[i];rw [qaj a,qr a];exact .inr rfl
   ·rw [qae a,qj a];exact .inl ⟨rfl,rfl⟩) (by
  simp only [kbl,kg2,qo,List.drop_length,lexO,qb])
 have b:kah (kbl x y) fuel 0=some (lexO x y):=by simpa using h
 rw [b,qb,<- kvm];cases lexO x y with
 | inr c=>rfl
 | inl u=>
  simp only [Sum.elim_inl];unfold kcx;have e1:decide ((x.length:Int)<(y.length:Int))=false:=qae (by omega);have e2:decide ((y.length:Int)<(x.length:Int))=false:=qae (by omega);simp [e1,e2,hl]
theorem kvf (a b:Tm) (ha:a.size<=1000) (d:b.size<=1000):kbb a b=some (cmpT a b):=by
 unfold kbb cmpT;rw [ksp fuel a (qa3 (kbv (by omega))) ha,ksp fuel b (qa3 (kbv (by omega))) d];simp only [qb,kcx];by_cases h1:a.size<b.size;rw [qr h1,qaj (show (a.size:Int)<(b.size:Int) by omega)];rfl;rw [qj h1,qae (show ¬ (a.size:Int)<(b.size:Int) by omega)];by_cases e:b.size<a.size;rw [qr e,qaj (show (b.size:Int)<(a.size:Int) by omega)];rfl;rw [qj e,qae (show ¬ (b.size:Int)<(a.size:Int) by omega)];simp only [qo,qb,show ((0:Int) != 0)=false from rfl];rw [kqm fuel a (qa3 (kbv (by omega))) ha,kqm fuel b (qa3 (kbv (by omega))) d];simp only [qb];rw [k0f a.rules b.rules (by rw [Tm.rules_length,Tm.rules_length];omega) (by rw [Tm.rules_length];omega),qb];by_cases c:lexC a.rules b.rules=0;rw [qj (by simpa using c),c,show ((0:Int) != 0)=false from rfl,qo];rw [kog fuel a (qa3 (kbv (by omega))) ha,kog fuel b (qa3 (kbv (by omega))) d];simp only [qb];rw [k0f a.arities b.arities (by rw [Tm.arities_length,Tm.arities_length];omega) (by rw [Tm.arities_length];omega)];rfl
 ·rw [qr c,show (lexC a.rules b.rules != 0)=true by rw [bne_iff_ne];exact c];rfl
namespace Dk
mutual
def nodes:Dk->Nat
 | .mk _ _ l=>nodesL l+1
def nodesL:List Dk->Nat
 | []=>0
 | x::l=>x.nodes+nodesL l
end
theorem nodes_pos (x:Dk):1<=x.nodes:=by cases x;simp only [nodes];omega
theorem nodes_eq (x:Dk):x.nodes=nodesL x.args+1:=by cases x;rfl
theorem nodesL_take {l:List Dk} {i:Nat} (h:i<l.length):nodesL (l.take (i+1))=nodesL (l.take i)+l[i].nodes:=by
 induction l generalizing i with
 | nil=>cases h
 | cons x l ih=>
  cases i with
  | zero=>simp [nodesL]
  | succ i=>simp only [List.take_succ_cons,nodesL,List.getElem_cons_succ];rw [ih (by simpa using h)];omega
theorem nodesL_take_le (l:List Dk) (i:Nat):nodesL (l.take i)<=nodesL l:=by
 induction l generalizing i with
 | nil=>simp [nodesL]
 | cons x l ih=>
  cases i with
  | zero=>simp [nodesL]
  | succ i=>simp only [List.take_succ_cons,nodesL];have:=ih i;omega
theorem k2e {l:List Dk} {x:Dk} (h:x∈l):x.nodes<=nodesL l:=by
 induction l with
 | nil=>cases h
 | cons y l ih=>
  simp only [nodesL];rcases qaa.1 h with rfl | h;omega
  ·have:=ih h;omega
theorem ktg (l:List Dk):l.length<=nodesL l:=by
 induction l with
 | nil=>simp [nodesL]
 | cons x l ih=>simp only [qbl,nodesL];have:=x.nodes_pos;omega
theorem take_nodesL {l:List Dk} {i:Nat} (h:i<=l.length):i<=nodesL (l.take i):=by have:=ktg (l.take i);rw [q9] at this;omega
theorem args_nodes {x y:Dk} (h:y∈x.args):y.nodes<x.nodes:=by have:=k2e h;rw [nodes_eq x];omega
theorem args_len (x:Dk):x.args.length<x.nodes:=by have:=ktg x.args;rw [nodes_eq x];omega
end Dk
theorem kv5:∀ (N m:Nat) (x:Dk),m<N->m<=1000->kca N x (m:Int)=some ((min x.nodes (m+1):Nat):Int)
 | 0,_,_,h,_=>by omega
 | N+1,m,x,h,hm=>by
  refine Ev.eq ?_;show Ev (kdd (kca N) x (m:Int)) _;unfold kdd;refine kbe (Ev.mono (k52 (keb x (m:Int) (kca N)) (fun v=>v=((min x.nodes (m+1):Nat):Int)) (fun s=>∃ i:Nat,s.2=(i:Int)/\i<=x.args.length/\s.1=((min (1+Dk.nodesL (x.args.take i)) (m+1):Nat):Int)) (fun s=>m+1 - s.1.toNat) (by show m+1 - _<_;omega) ⟨0,rfl,qaq _,by show (1:Int)=_;rw [qbp];simp only [Dk.nodesL];omega⟩ fun s d=>?_) fun v hv=>⟨_,rfl,hv⟩);obtain ⟨n,j⟩:=s;obtain ⟨i,rfl,hi,hn⟩:=d;simp only at hn;subst hn;have hx:=Dk.nodes_eq x;unfold keb;by_cases a:i<x.args.length
  ·have b:=Dk.nodesL_take a;have f:=Dk.nodesL_take_le x.args (i+1);have c:=Dk.nodes_pos x.args[i];have g:=Dk.take_nodesL (qa3 a);simp only [ka1 a,qg,qb,kai,qa a];refine kag (fun hc=>?_) fun hc=>?_
   ·have hc:=qa9 hc;have k:1+Dk.nodesL (x.args.take i)<=m:=(by omega);have e:w64 ((m:Int) - ((min (1+Dk.nodesL (x.args.take i)) (m+1):Nat):Int))=((m - (1+Dk.nodesL (x.args.take i)):Nat):Int):=(by rw [ket];omega);rw [e,kv5 N _ _ (by omega) (by omega),qb];refine ⟨_,rfl,⟨i+1,kbk,a,?_⟩,?_⟩;show w64 _=_;rw [ket,b];omega
    ·show m+1 - (w64 _).toNat<_;rw [ket];omega
   ·have hc:=qak hc;exact ⟨_,rfl,by show ((_:Nat):Int)=_;omega⟩
  ·have a:i=x.args.length:=(by omega);subst a;rw [qa8];simp only [kar,qo,qb];exact ⟨_,rfl,by show ((_:Nat):Int)=_;omega⟩
structure kzf (d:Saa):Prop where
 holes:d.ya.length<=8
 nodes:d.yc.nodes<=40
 terms:∀ h∈d.ya,h.yb.length<=70
 sizes:∀ h∈d.ya,∀ t∈h.yb,t.size<=20
theorem k41 (d:Saa):Ev (kcz d) fun b=>b=true->kzf d:=by
 unfold kcz;by_cases j:8<d.ya.length;rw [qaj (show (8:Int)<(d.ya.length:Int) by omega)];exact ⟨false,rfl,fun h=>by cases h⟩;rw [qae (show ¬ (8:Int)<(d.ya.length:Int) by omega),qo,show (40:Int)=((40:Nat):Int) from rfl,kv5 fuel 40 _ (by decide) (by decide),qb,qb];refine kag (fun _=>⟨false,rfl,fun h=>by cases h⟩) fun hn=>?_;have hn:d.yc.nodes<=40:=by have:=qak hn;omega
 refine kbe (Ev.mono (kf7 (P:=fun i=>∀ h,d.ya[i]?=some h->h.yb.length<=70/\∀ t∈h.yb,t.size<=20) (B:=fun b=>b=false) d.ya.length (by omega) (fun i hi _=>?_) (by simp only [kec,kar,qo])) fun q f=>kb2 (fun _ e=>?_) fun b e=>?_)
 ·have e1:d.ya[i]?=some d.ya[i]:=qa hi;simp only [kec,ka1 hi,qg,kai,e1,qb];refine kag (fun _=>⟨_,rfl,rfl⟩) fun a=>?_;have a:d.ya[i].yb.length<=70:=by have:=qak a;omega
  refine kbe (Ev.mono (kf7 (P:=fun k=>∀ t,d.ya[i].yb[k]?=some t->t.size<=20) (B:=fun b=>b=false) d.ya[i].yb.length (by omega) (fun k hk _=>?_) (by simp only [kek,kai,e1,qb,kar,qo])) fun q f=>kb2 (fun _ e=>?_) fun b e=>?_);simp only [kek,kai,e1,qb,ka1 hk,qg,qa hk];rw [show (20:Int)=((20:Nat):Int) from rfl,kvv _ 20,qb];refine kag (fun _=>⟨_,rfl,rfl⟩) fun g=>⟨_,rfl,rfl,fun t ht=>?_⟩;cases ht;exact qa9 (by simpa using g);subst e;refine ⟨_,rfl,rfl,fun h c=>?_⟩;cases c;exact ⟨a,fun t ht=>by obtain ⟨k,hk,rfl⟩:=qah.1 ht;exact f k hk _ (qa hk)⟩
  ·subst e;exact ⟨_,rfl,f⟩
 ·subst e;have all:∀ h∈d.ya,h.yb.length<=70/\∀ t∈h.yb,t.size<=20:=fun h c=>by obtain ⟨k,hk,rfl⟩:=qah.1 c;exact f k hk _ (qa hk)
  exact ⟨_,rfl,fun _=>⟨by omega,hn,fun h c=>(all h c).1,fun h c=>(all h c).2⟩⟩
 ·subst e;exact ⟨_,rfl,fun h=>by rw [show b=false from f] at h;cases h⟩
def kki (r:Ru):Nat:=bif r.kind != 3 then 0 else r.args.length
theorem k5z (r:Ru):kd5 r=some (kki r:Int):=by unfold kd5 kki;cases r.kind != 3 <;> rfl
theorem k56 (r:Ru):kki r<=r.args.length:=by unfold kki;cases r.kind != 3 <;> simp
theorem k2r {l:La} {r:Ru} (h:kji l r):kki r=r.args.length:=by
 unfold kki;cases hk:r.kind != 3 with
 | true=>rw [h.noargs (bne_iff_ne.1 hk)];rfl
 | false=>rfl
inductive Fits (l:La):Int->Tm->Prop
 | mk {s:Int} {t:Tm} {k:Nat} {r:Ru} (hk:t.rule=(k:Int)) (h:l.rules[k]?=some r) (hs:r.symbol=s) (hl:t.args.length=kki r) (ha:∀ (i:Nat) (a:Tm) (b:Int),t.args[i]?=some a->r.args[i]?=some b->Fits l b a):Fits l s t
theorem kx7 (l:La):∀ (n:Nat) (t:Tm) (s:Int),t.size<=n->t.size<=1000->Ev (kdb n l s t) fun c=>c=0↔Fits l s t
 | 0,t,_,h,_=>by have:=t.size_pos;omega
 | n+1,t,s,h,E=>by
  show Ev (kdu (kdb n) l s t) _;unfold kdu;have w:=args_len t;have no:∀ {c:Int},c≠0->¬ Fits l s t->(c=0↔Fits l s t):=fun h1 d=>⟨fun h=>absurd h h1,fun h=>absurd h d⟩;by_cases f:0<=t.rule/\t.rule<(l.rules.length:Int)
  ·obtain ⟨g,v⟩:=f;obtain ⟨k,j⟩:=Int.eq_ofNat_of_zero_le g;have hk:k<l.rules.length:=(by omega);have e1:l.rules[k]?=some l.rules[k]:=qa hk;have inv:Fits l s t->l.rules[k].symbol=s/\t.args.length=kki l.rules[k]/\∀ (i:Nat) (a:Tm) (b:Int),t.args[i]?=some a->l.rules[k].args[i]?=some b->Fits l b a:=fun h=>by
    cases h with
    | mk h1 d x y z=>
     rename_i k' r;obtain rfl:k'=k:=(by omega);rw [e1] at d;cases d;exact ⟨x,y,z⟩
   rw [j,qae (show ¬ ((k:Nat):Int)<0 by omega),qo,qae (show ¬ (l.rules.length:Int)<=((k:Nat):Int) by omega),qb,qo,kai,e1,qb];refine kag (fun hs=>⟨_,rfl,no (by decide) fun h=>bne_iff_ne.1 hs (inv h).1⟩) fun hs=>?_;have hs:=qao.1 hs;rw [k5z,qb];refine kag (fun hl=>⟨_,rfl,no (by decide) fun h=>by have:=bne_iff_ne.1 hl;have:=(inv h).2.1;omega⟩) fun hl=>?_;have hl:t.args.length=kki l.rules[k]:=(by have:=qao.1 hl;omega);have A:=k56 l.rules[k];refine kbe (Ev.mono (kf7 (P:=fun i=>∀ a b,t.args[i]?=some a->l.rules[k].args[i]?=some b->Fits l b a) (B:=fun e=>e≠0/\¬ Fits l s t) t.args.length (by omega) (fun i hi _=>?_) (by simp only [ke1,kar,qo])) fun q m=>kb2 (fun _ e=>?_) fun e C=>?_);have o:i<l.rules[k].args.length:=(by omega);have e2:l.rules[k].args[i]?=some l.rules[k].args[i]:=qa o;have e3:t.args[i]?=some t.args[i]:=qa hi;simp only [ke1,ka1 hi,qg,kai,e2,e3,qb];have D:=kdq (qx hi);obtain ⟨c,h1,d⟩:=kx7 l n t.args[i] l.rules[k].args[i] (by omega) (by omega);rw [h1,qb];refine kag (fun hc=>⟨_,rfl,bne_iff_ne.1 hc,fun h=>bne_iff_ne.1 hc (d.2 ((inv h).2.2 i _ _ e3 e2))⟩) fun hc=>⟨_,rfl,rfl,fun a b ha p=>?_⟩;cases ha;cases p;exact d.1 (qao.1 hc);subst e;exact ⟨_,rfl,fun _ => .mk j e1 hs hl fun i a b ha p=>m i (kb1 ha) a b ha p,fun _=>rfl⟩
   ·subst C;exact ⟨_,rfl,no m.1 m.2⟩
  ·have u:¬ Fits l s t:=fun h=>by
    cases h with
    | mk h1 d _ _ _=>have:=kb1 d;exact f ⟨by omega,by omega⟩
   have e:(bif decide (t.rule<0) then some true else some (decide ((l.rules.length:Int)<=t.rule)):Option Bool)=some true:=by
    by_cases h0:t.rule<0;rw [qaj h0];rfl
    ·rw [qae h0,qaj (show (l.rules.length:Int)<=t.rule by omega)];rfl
   rw [e,qb];exact ⟨_,rfl,no (by decide) u⟩
theorem ktd (a b:Nat):imax (a:Int) (b:Int)=((max a b:Nat):Int):=by unfold imax;split <;> omega
theorem kzb (t:Tm):t.depth=Tm.depthL t.args+1:=by cases t;rfl
theorem kqz:∀ (n:Nat) (t:Tm),t.size<=n->t.size<=1000->kb9 n t=some (t.depth:Int)
 | 0,t,h,_=>by have:=t.size_pos;omega
 | n+1,t,h,f=>by
  refine Ev.eq ?_;show Ev (kdf (kb9 n) t) _;unfold kdf;have c:=args_len t;have a:=t.depth_le_size;rw [kzb t] at a ⊢;refine kbe (Ev.mono (keu (Q:=fun v=>v=(Tm.depthL t.args:Int)) t.args.length (fun i s=>s=((Tm.depthL (t.args.take i):Int),(i:Int))) (by omega) rfl (fun i s hi e=>?_) fun s e=>?_) fun v hv=>?_);subst e;have d:=kdq (qx hi);simp only [kef,ka1 hi,qg,kai,qa hi,qb];rw [kqz n t.args[i] (by omega) (by omega),qb,ktd,kbk,<- Tm.depthL_take_succ hi];exact ⟨_,rfl,rfl⟩;subst e;exact kfr (Tm.depthL t.args:Int) (by simp only [kef,kar,qo];rw [qa8]) rfl
  ·subst hv;exact ⟨_,rfl,by rw [ket];omega⟩
structure OkT (l:La) (s:Int) (t:Tm):Prop where
 sym0:0<=s
 sym1:s<(l.symbols.length:Int)
 depth:t.depth<=32
 fits:Fits l s t
theorem kwh {l:La} (hc:kbn l=some 0) (s:Int) (t:Tm) (b:t.size<=1000):Ev (kb7 l s t) fun c=>c=0↔OkT l s t:=by
 unfold kb7;rw [hc,qb,show ((0:Int) != 0)=false from rfl,qo];by_cases a:0<=s/\s<(l.symbols.length:Int);obtain ⟨h0,h1⟩:=a;rw [qae (show ¬ s<0 by omega),qo,qae (show ¬ (l.symbols.length:Int)<=s by omega),qb,qo];rw [show (4096:Int)=((4096:Nat):Int) from rfl,kvv t 4096,qb,qaj (show t.size<=4096 by omega),Bool.not_true,qo,kqz fuel t (qa3 (kbv (by omega))) b,qb,qb];refine kag (fun hd=>⟨_,rfl,fun h=>absurd h (by decide),fun h=>absurd h.depth (by have:=qa9 hd;omega)⟩) fun hd=>?_;obtain ⟨c,k1,k2⟩:=kx7 l fuel t s (qa3 (kbv (by omega))) b;rw [k1];exact ⟨c,rfl,fun h=>⟨h0,h1,by have:=qak hd;omega,k2.1 h⟩,fun h=>k2.2 h.fits⟩
 ·have e:(bif decide (s<0) then some true else some (decide ((l.symbols.length:Int)<=s)):Option Bool)=some true:=by
   by_cases h0:s<0;rw [qaj h0];rfl
   ·rw [qae h0,qaj (show (l.symbols.length:Int)<=s by omega)];rfl
  rw [e,qb];exact ⟨_,rfl,fun h=>absurd h (by decide),fun h=>absurd ⟨h.sym0,h.sym1⟩ a⟩
structure kpi (l:La) (h:Sab):Prop where
 pos:1<=h.yb.length
 few:h.yb.length<=64
 ok:∀ t∈h.yb,OkT l h.ye t
theorem k6y {l:La} (hc:kbn l=some 0) (h:Sab) (b:∀ t∈h.yb,t.size<=20):Ev (kep l h) fun c=>c=0->kpi l h:=by
 unfold kep;have no:∀ {c:Int},c≠0->c=0->kpi l h:=fun h1 m=>absurd m h1;refine kat (kag (fun _=>⟨_,rfl,trivial⟩) fun _=>⟨_,rfl,trivial⟩) fun _ _=>kag (fun _=>⟨_,rfl,no (by decide)⟩) fun _=>?_;by_cases d:1<=h.yb.length/\h.yb.length<=64
 ·obtain ⟨h1,f⟩:=d;rw [qae (show ¬ (h.yb.length:Int)<1 by omega),qo,qae (show ¬ (64:Int)<(h.yb.length:Int) by omega),qb,qo];refine kbe (Ev.mono (kf7 (P:=fun i=>∀ t,h.yb[i]?=some t->OkT l h.ye t) (B:=fun e=>e≠0) h.yb.length (by omega) (fun i hi _=>?_) (by simp only [kfa,kar,qo])) fun q j=>kb2 (fun _ e=>?_) fun e n=>?_);simp only [kfa,ka1 hi,qg,kai,qa hi,qb];obtain ⟨c,k1,k2⟩:=kwh hc h.ye h.yb[i] (by have:=b _ (qx hi);omega);rw [k1,qb];exact kag (fun hc=>⟨_,rfl,bne_iff_ne.1 hc⟩) fun hc=>⟨_,rfl,rfl,fun t ht=>by cases ht;exact k2.1 (qao.1 hc)⟩;subst e;have g:kpi l h:=⟨h1,f,fun t ht=>by obtain ⟨k,hk,rfl⟩:=qah.1 ht;exact j k hk _ (qa hk)⟩;refine kat (Ev.mono (kf7 (P:=fun _=>True) (B:=fun _:Int=>True) h.yb.length (by omega) (fun i hi _=>?_) (by simp only [ke8,kar,qo])) fun _ _=>trivial) fun q _=>kb2 (fun _ _=>⟨_,rfl,fun _=>g⟩) fun _ _=>⟨_,rfl,fun _=>g⟩;simp only [ke8,ka1 hi,qg,qb];refine kbe (Ev.mono (kf7 (P:=fun _=>True) (B:=fun _:Int=>True) i (by omega) (fun k hk _=>?_) (by simp only [kew,kar,qo])) fun q _=>kb2 (fun _ _=>⟨_,rfl,rfl,trivial⟩) fun _ _=>⟨_,rfl,trivial⟩);have a:k<h.yb.length:=(by omega);simp only [kew,ka1 hk,qg,kai,qa hi,qa a,qb];rw [kvf _ _ (by have:=b _ (qx hi);omega) (by have:=b _ (qx a);omega),qb];exact kag (fun _=>⟨_,rfl,trivial⟩) fun _=>⟨_,rfl,rfl,trivial⟩
  ·subst n;exact ⟨_,rfl,no j⟩
 ·have e:(bif decide ((h.yb.length:Int)<1) then some true else some (decide ((64:Int)<(h.yb.length:Int))):Option Bool)=some true:=by
   by_cases h0:h.yb.length<1;rw [qaj (show (h.yb.length:Int)<1 by omega)];rfl
   ·rw [qae (show ¬ (h.yb.length:Int)<1 by omega),qaj (show (64:Int)<(h.yb.length:Int) by omega)];rfl
  rw [e,qb];exact ⟨_,rfl,no (by decide)⟩
inductive kkd (l:La) (hs:List Sab):Int->Dk->Prop
 | hole {s:Int} {x:Dk} {k:Nat} {h:Sab} (hx:x.hole=(k:Int)+1) (hk:hs[k]?=some h) (ht:0<=s->h.ye=s):kkd l hs s x
 | node {s:Int} {x:Dk} {k:Nat} {r:Ru} (hx:x.hole=0) (hr:x.rule=(k:Int)) (hk:l.rules[k]?=some r) (ht:0<=s->r.symbol=s) (hl:x.args.length=r.args.length) (ha:∀ (i:Nat) (a:Dk) (b:Int),x.args[i]?=some a->r.args[i]?=some b->kkd l hs b a):kkd l hs s x
theorem kyl (l:La) (d:Saa) (hd:d.ya.length<=1000):∀ (n:Nat) (x:Dk) (s:Int),x.nodes<=n->x.nodes<=1000->Ev (kda n l d x s) fun c=>c=0->kkd l d.ya s x
 | 0,x,_,h,_=>by have:=x.nodes_pos;omega
 | n+1,x,s,h,u=>by
  show Ev (kdv (kda n) l d x s) _;unfold kdv;have p:=Dk.args_len x;have no:∀ {c:Int},c≠0->c=0->kkd l d.ya s x:=fun h1 j=>absurd j h1;refine kag (fun hp=>kag (fun _=>⟨_,rfl,no (by decide)⟩) fun hm=>?_) fun hp=>?_;have hp:=qa9 hp;have hm:=qak hm;obtain ⟨k,g⟩:∃ k:Nat,x.hole=(k:Int)+1:=⟨(x.hole - 1).toNat,by omega⟩;have hk:k<d.ya.length:=(by omega);have e1:d.ya[k]?=some d.ya[k]:=qa hk;rw [show w64 (x.hole - 1)=(k:Int) by rw [ket];omega];refine kat (kag (fun _=>⟨_,rfl,trivial⟩) fun _=>⟨_,rfl,trivial⟩) fun v hv=>kag (fun _=>⟨_,rfl,no (by decide)⟩) fun f=>?_;rw [kai,e1];refine kat (kag (fun _=>⟨_,rfl,trivial⟩) fun _=>⟨_,rfl,trivial⟩) fun v hv=>kag (fun _=>⟨_,rfl,no (by decide)⟩) fun f=>⟨_,rfl,fun _ => .hole g e1 fun h0=>?_⟩;subst f;rw [qaj h0] at hv;exact qao.1 (qu hv)
  ·have hp:=qak hp;refine kat (kag (fun _=>⟨_,rfl,trivial⟩) fun _=>kag (fun _=>⟨_,rfl,trivial⟩) fun _=>⟨_,rfl,trivial⟩) fun v hv=>kag (fun _=>⟨_,rfl,no (by decide)⟩) fun f=>?_;subst f;have m:x.hole=0/\0<=x.rule/\x.rule<(l.rules.length:Int):=by
    cases h1:decide (x.hole<0) with
    | true=>rw [h1] at hv;cases hv
    | false=>
     rw [h1,qo] at hv;cases j:decide (x.rule<0) with
     | true=>rw [j] at hv;cases hv
     | false=>
      rw [j,qo] at hv;have h1:=qak h1;have j:=qak j;have w:=qak (qu hv);omega
   obtain ⟨hx,h0,h1⟩:=m;obtain ⟨k,g⟩:=Int.eq_ofNat_of_zero_le h0;have hk:k<l.rules.length:=(by omega);have e1:l.rules[k]?=some l.rules[k]:=qa hk;rw [g,kai,e1,qb];refine kat (kag (fun _=>⟨_,rfl,trivial⟩) fun _=>⟨_,rfl,trivial⟩) fun v hv=>kag (fun _=>⟨_,rfl,no (by decide)⟩) fun f=>kag (fun _=>⟨_,rfl,no (by decide)⟩) fun hl=>?_;subst f;have hs:0<=s->l.rules[k].symbol=s:=fun h0=>(by rw [qaj h0] at hv;exact qao.1 (qu hv));have hl:x.args.length=l.rules[k].args.length:=(by have:=qao.1 hl;omega);refine kbe (Ev.mono (kf7 (P:=fun i=>∀ a b,x.args[i]?=some a->l.rules[k].args[i]?=some b->kkd l d.ya b a) (B:=fun e=>e≠0) x.args.length (by omega) (fun i hi _=>?_) (by simp only [ke6,kar,qo])) fun q m=>kb2 (fun _ e=>?_) fun e r=>?_);have o:i<l.rules[k].args.length:=(by omega);have e2:l.rules[k].args[i]?=some l.rules[k].args[i]:=qa o;have e3:x.args[i]?=some x.args[i]:=qa hi;simp only [ke6,ka1 hi,qg,kai,e2,e3,qb];have t:=Dk.args_nodes (qx hi);obtain ⟨c,h1,j⟩:=kyl l d hd n x.args[i] l.rules[k].args[i] (by omega) (by omega);rw [h1,qb];refine kag (fun hc=>⟨_,rfl,bne_iff_ne.1 hc⟩) fun hc=>⟨_,rfl,rfl,fun a b ha f=>?_⟩;cases ha;cases f;exact j (qao.1 hc);subst e;exact ⟨_,rfl,fun _ => .node hx g e1 hs hl fun i a b ha f=>m i (kb1 ha) a b ha f⟩
   ·subst r;exact ⟨_,rfl,no m⟩
def kpu (hs:List Sab) (c:List Int) (h:Int):Tm:=match hs[(h - 1).toNat]?,c[(h - 1).toNat]? with
 | some x,some n=>x.yb[n.toNat]?.getD (Tm.mk 0 [])
 | _,_=>Tm.mk 0 []
mutual
def kcj (hs:List Sab) (c:List Int):Dk->Tm
 | .mk r h l=>if 0<h then kpu hs c h else Tm.mk r (kq7 hs c l)
def kq7 (hs:List Sab) (c:List Int):List Dk->List Tm
 | []=>[]
 | x::l=>kcj hs c x::kq7 hs c l
end
theorem kwm (hs:List Sab) (c:List Int):∀ l:List Dk,kq7 hs c l=l.map (kcj hs c)
 | []=>by simp [kq7]
 | x::l=>by simp [kq7,kwm hs c l]
theorem kjm (hs:List Sab) (c:List Int) (x:Dk):kcj hs c x=if 0<x.hole then kpu hs c x.hole else Tm.mk x.rule (x.args.map (kcj hs c)):=by cases x;simp only [kcj,kwm,Dk.hole,Dk.rule,Dk.args];rfl
structure ChP (hs:List Sab) (c:List Int):Prop where
 len:c.length=hs.length
 ok:∀ (i:Nat) (h:Sab) (n:Int),hs[i]?=some h->c[i]?=some n->0<=n/\n<(h.yb.length:Int)
theorem ktc {hs:List Sab} {c:List Int} (hc:ChP hs c) {k:Nat} {h:Sab} (hk:hs[k]?=some h):∃ (n:Int) (t:Tm),c[k]?=some n/\0<=n/\h.yb[n.toNat]?=some t/\kpu hs c ((k:Int)+1)=t:=by
 have hl:=kb1 hk;have a:k<c.length:=by have:=hc.len;omega
 have e1:c[k]?=some c[k]:=qa a;obtain ⟨h0,h1⟩:=hc.ok k h _ hk e1;have e2:h.yb[c[k].toNat]?=some (h.yb[c[k].toNat]'(by omega)):=qa (by omega);refine ⟨_,_,e1,h0,e2,?_⟩;unfold kpu;rw [show ((k:Int)+1 - 1).toNat=k by omega,hk,e1];simp only [e2,qbh]
variable {l:La} {hs:List Sab} {c:List Int}
theorem k3r (f:∀ r∈l.rules,kji l r) (g:∀ h∈hs,kpi l h) (hc:ChP hs c) {s:Int} {x:Dk} (j:kkd l hs s x):0<=s->Fits l s (kcj hs c x):=by
 induction j with
 | hole hx hk ht=>
  intro h0;rename_i s x k h;obtain ⟨n,t,_,_,e3,e4⟩:=ktc hc hk;rw [kjm,qr (by omega),hx,e4,<- ht h0];exact ((g h (qm hk)).ok t (qm e3)).fits
 | node hx hr hk ht hl ha ih=>
  intro h0;rename_i s x k r;have d:=f r (qm hk);rw [kjm,qj (by omega)];refine .mk (k:=k) (r:=r) hr hk (ht h0) ?_ fun i a b h1 e=>?_;show (x.args.map _).length=_;rw [qs,k2r d,hl]
  ·have h1:(x.args.map (kcj hs c))[i]?=some a:=h1;rw [ql,qn] at h1;obtain ⟨y,m,rfl⟩:=h1;exact ih i y b m e (d.args b (qm e))
theorem kwg {f:Dk->Tm}:∀ (m:List Dk),(∀ y∈m,(f y).size<=20*y.nodes)->Tm.sizeL (m.map f)<=20*Dk.nodesL m
 | [],_=>by simp [Tm.sizeL,Dk.nodesL]
 | y::m,h=>by simp only [qba,Tm.sizeL,Dk.nodesL];have h1:=h y (qt ..);have b:=kwg m fun z a=>h z (qf _ a);omega
theorem k4w (a:∀ h∈hs,∀ t∈h.yb,t.size<=20) (k:Int):(kpu hs c k).size<=20:=by
 have h1:(Tm.mk 0 []).size<=20:=by decide
 unfold kpu;split
 ·rename_i x n hx hn;cases b:x.yb[n.toNat]? with
  | none=>exact h1
  | some t=>exact a x (qm hx) t (qm b)
 ·exact h1
theorem k3c (a:∀ h∈hs,∀ t∈h.yb,t.size<=20) (x:Dk):(kcj hs c x).size<=20*x.nodes:=by
 induction x using Dk.ind with
 | h r k m ih=>
  rw [kjm];split;have:=k4w (c:=c) a (Dk.mk r k m).hole;have:=(Dk.mk r k m).nodes_pos;omega
  ·show Tm.sizeL (m.map _)+1<=20*(Dk.nodesL m+1);have:=kwg m ih;omega
theorem k4c (m:List Tm) (k:Nat) (h:∀ t∈m,t.depth<=k):Tm.depthL m<=k:=by
 induction m with
 | nil=>simp [Tm.depthL]
 | cons x m ih=>
  simp only [Tm.depthL];exact Nat.max_le.2 ⟨h x (qt ..),ih fun t ht=>h t (qf _ ht)⟩
variable {d:Saa}
theorem ktu (p:d.ya.length<=1000) (e:∀ h∈d.ya,h.yb.length<=1000) (g:∀ h∈d.ya,∀ t∈h.yb,t.size<=20):∀ (n:Nat) (x:Dk),x.nodes<=n->x.nodes<=1000->Ev (kcb n d x) fun v=>∃ k:Nat,v=(k:Int)/\k<=x.nodes+20/\∀ c,ChP d.ya c->(kcj d.ya c x).depth<=k
 | 0,x,h,_=>by have:=x.nodes_pos;omega
 | n+1,x,h,hx=>by
  show Ev (kdi (kcb n) d x) _;unfold kdi;have q:=Dk.args_len x;have rest:(¬ 0<x.hole\/(d.ya.length:Int)<x.hole)->Ev (Option.bind (kah (kc1 d x (kcb n)) fuel (0,0)) fun (v13:Int)=>some (w64 (v13+1))) fun v=>∃ k:Nat,v=(k:Int)/\k<=x.nodes+20/\∀ c,ChP d.ya c->(kcj d.ya c x).depth<=k:=fun r=>by
   refine kbe (Ev.mono (keu (Q:=fun v=>∃ k:Nat,v=(k:Int)/\k<=x.nodes+19/\∀ y∈x.args,∀ c,ChP d.ya c->(kcj d.ya c y).depth<=k) x.args.length (fun i s=>s.2=(i:Int)/\∃ k:Nat,s.1=(k:Int)/\k<=x.nodes+19/\∀ y∈x.args.take i,∀ c,ChP d.ya c->(kcj d.ya c y).depth<=k) (by omega) ⟨rfl,0,rfl,by omega,fun y hy=>by rw [qbp] at hy;cases hy⟩ (fun i s hi a=>?_) fun s a=>?_) fun v hv=>?_)
   ·obtain ⟨m,j⟩:=s;obtain ⟨rfl,k,rfl,hk,a⟩:=a;have u:=Dk.args_nodes (qx hi);simp only [kc1,ka1 hi,qg,kai,qa hi,qb];obtain ⟨v,h1,k2,rfl,B,w⟩:=ktu p e g n x.args[i] (by omega) (by omega);rw [h1,qb,ktd];refine ⟨_,rfl,kbk,max k k2,rfl,by omega,fun y hy c hc=>?_⟩;rw [qaf hi,qaz,qat] at hy;rcases hy with hy | rfl;have:=a y hy c hc;omega
    ·have:=w c hc;omega
   obtain ⟨m,j⟩:=s;obtain ⟨rfl,k,rfl,hk,a⟩:=a;rw [qa8] at a;exact kfr (k:Int) (by simp only [kc1,kar,qo]) ⟨k,rfl,hk,a⟩
   ·obtain ⟨k,rfl,hk,a⟩:=hv;refine ⟨_,rfl,k+1,by rw [ket];omega,by omega,fun c hc=>?_⟩;rw [kjm];split;rename_i h0;have h1:d.ya[(x.hole - 1).toNat]?=none:=qa5 (by omega);unfold kpu;rw [h1];show 0+1<=_;omega
    ·rw [kzb];have:=k4c (x.args.map (kcj d.ya c)) k fun t ht=>(by obtain ⟨y,hy,rfl⟩:=qap.1 ht;exact a y hy c hc);show Tm.depthL (x.args.map _)+1<=_;omega
  by_cases h0:0<x.hole
  ·rw [qaj h0,qg,qb];refine kag (fun hm=>?_) fun hm=>rest (.inr (by have:=qak hm;omega));have hm:=qa9 hm;obtain ⟨k,f⟩:∃ k:Nat,x.hole=(k:Int)+1:=⟨(x.hole - 1).toNat,by omega⟩;have hk:k<d.ya.length:=(by omega);have e1:d.ya[k]?=some d.ya[k]:=qa hk;have l:=qx hk;have o:=e _ l;rw [show w64 (x.hole - 1)=(k:Int) by rw [ket];omega,kai,e1,qb];refine kbe (Ev.mono (keu (Q:=fun v=>∃ m:Nat,v=(m:Int)/\m<=20/\∀ t∈d.ya[k].yb,t.depth<=m) d.ya[k].yb.length (fun i s=>s.2=(i:Int)/\∃ m:Nat,s.1=(m:Int)/\m<=20/\∀ t∈d.ya[k].yb.take i,t.depth<=m) (by omega) ⟨rfl,0,rfl,by omega,fun y hy=>by rw [qbp] at hy;cases hy⟩ (fun i s hi a=>?_) fun s a=>?_) fun v hv=>?_)
   ·obtain ⟨m,j⟩:=s;obtain ⟨rfl,m,rfl,hm,a⟩:=a;have z:=g _ l _ (qx hi);have A:=d.ya[k].yb[i].depth_le_size;simp only [keg,ka1 hi,qg,kai,qa hi,qb];rw [kqz fuel _ (qa3 (kbv (by omega))) (by omega),qb,ktd];refine ⟨_,rfl,kbk,_,rfl,by omega,fun y hy=>?_⟩;rw [qaf hi,qaz,qat] at hy;rcases hy with hy | rfl;have:=a y hy;omega
    ·omega
   obtain ⟨m,j⟩:=s;obtain ⟨rfl,m,rfl,hm,a⟩:=a;rw [qa8] at a;exact kfr (m:Int) (by simp only [keg,kar,qo]) ⟨m,rfl,hm,a⟩
   ·obtain ⟨m,rfl,hm,a⟩:=hv;refine ⟨_,rfl,m,rfl,by omega,fun c hc=>?_⟩;obtain ⟨_,t,_,_,e3,e4⟩:=ktc hc e1;rw [kjm,qr h0,f,e4];exact a t (qm e3)
  ·rw [qae h0,qo,qb,qo];exact rest (.inl h0)
theorem k1d (r:Int) (ts:List Tm) (h:ts.length<=1000000):kgh r ts=some (Tm.mk r ts):=by
 unfold kgh;by_cases h0:ts.length=0;rw [qav h0];rfl
 ·rw [qaj (show (ts.length:Int) > 0 by omega),qg,k4l 32 _ _];rfl
theorem kwl:∀ (n:Nat) (t:Tm),t.size<=n->t.size<=1000->kfo n t=some t
 | 0,t,h,_=>by have:=t.size_pos;omega
 | n+1,t,h,d=>by show kgf (kfo n) t=_;unfold kgf;have a:=args_len t;have hl:=kpf (kfw t (kfo n)) t.args id [] (fun i x hx=>by have hi:=kb1 hx;have b:=kdq (qm hx);have c:=List.length_take_le i t.args;simp only [kfw,ka1 hi,qg,kai,hx,qb];rw [kwl n x (by omega) (by omega),qb,km6 (by simp only [qy,qs,List.length_nil,qas];omega),qb,kbk];rfl) (by simp only [kfw,kar,qo]);rw [show ((0:Int),([]:List Tm))=(0,[]) from rfl,hl,qb,List.map_id,List.nil_append,k1d _ _ (by omega)];cases t;rfl
theorem kvy {l:La} (j:d.ya.length<=1000) (g:∀ h∈d.ya,∀ t∈h.yb,t.size<=20) (hc:ChP d.ya c):∀ (n:Nat) (x:Dk) (s:Int),x.nodes<=n->x.nodes<=1000->kkd l d.ya s x->ke2 n d x c=some (kcj d.ya c x)
 | 0,x,_,h,_,_=>by have:=x.nodes_pos;omega
 | n+1,x,s,h,hx,o=>by
  show khh (ke2 n) d x c=_;unfold khh;have p:=Dk.args_len x;cases o with
  | hole a hk ht=>
   rename_i k q;obtain ⟨m,t,e1,e2,e3,e4⟩:=ktc hc hk;have u:=kb1 hk;obtain ⟨m,rfl⟩:=Int.eq_ofNat_of_zero_le e2;have b:=g _ (qm hk) t (qm e3);rw [qaj (show (0:Int)<x.hole by omega),qg,show w64 (x.hole - 1)=(k:Int) by rw [ket];omega,kai,hk,qb,kai,e1,qb,kai,show q.yb[m]?=some t from e3,qb,kwl fuel t (qa3 (kbv (by omega))) (by omega),kjm,qr (by omega),a,e4];rfl
  | node a hr hk ht hl ha=>
   rename_i k r;rw [qae (show ¬ (0:Int)<x.hole by omega),qo];have e:=kpf (kgx d x c (ke2 n)) x.args (kcj d.ya c) [] (fun i y hy=>by have hi:=kb1 hy;have b:=Dk.args_nodes (qm hy);have v:=List.length_take_le i x.args;have f:i<r.args.length:=(by omega);simp only [kgx,ka1 hi,qg,kai,hy,qb];rw [kvy j g hc n y _ (by omega) (by omega) (ha i y _ hy (qa f)),qb,km6 (by simp only [qy,qs,List.length_nil,qas];omega),qb,kbk]) (by simp only [kgx,kar,qo]);rw [e,qb,List.nil_append,k1d _ _ (by rw [qs];omega),qb,kjm,qj (by omega)]
theorem k1g {l:La} {hs:List Sab}:∀ (n:Nat) (x:Dk) (s:Int),x.nodes<=n->x.nodes<=1000->kkd l hs s x->numB n x (hs.length:Int)=some true
 | 0,x,_,h,_,_=>by have:=x.nodes_pos;omega
 | n+1,x,s,h,hx,e=>by
  show nbB (numB n) x (hs.length:Int)=_;unfold nbB;have f:=Dk.args_len x;cases e with
  | hole a hk ht=>
   rename_i k j;have:=kb1 hk;rw [qae (show ¬ x.hole<0 by omega),qo,qae (show ¬ (hs.length:Int)<x.hole by omega),qaj (show 0<x.hole by omega)];rfl
  | node a hr hk ht hl ha=>
   rename_i k r;rw [qae (show ¬ x.hole<0 by omega),qo,qae (show ¬ (hs.length:Int)<x.hole by omega),qae (show ¬ 0<x.hole by omega)];have c:kah (nbL (numB n) x.args (hs.length:Int)) fuel 0=some (.inl ()):=by
    refine Ev.eq (Ev.mono (kf7 (P:=fun _=>True) (B:=fun _:Int=>False) x.args.length (by omega) (fun i hi _=>?_) (by simp only [nbL,kar,qo])) fun r hr=>?_);have e1:=qa hi;have g:=Dk.args_nodes (qx hi);have d:i<r.args.length:=(by omega);simp only [nbL,nb1,ka1 hi,qg,kai,e1,qb];rw [k1g n x.args[i] _ (by omega) (by omega) (ha i _ _ e1 (qa d))];exact ⟨_,rfl,rfl,trivial⟩
    ·cases r with
     | inl u=>rfl
     | inr b=>exact hr.elim
   unfold nbC nbI;rw [c];rfl
def kdn:List Sab->Nat
 | []=>1
 | h::hs=>h.yb.length*kdn hs
theorem ko3 (h:Sab):∀ hs:List Sab,kdn (hs++[h])=kdn hs*h.yb.length
 | []=>by simp [kdn]
 | g::hs=>by simp only [List.cons_append,kdn,ko3 h hs,Nat.mul_assoc]
theorem kyy:∀ {hs:List Sab},(∀ h∈hs,h.yb.length<=64)->kdn hs<=64 ^ hs.length
 | [],_=>by simp [kdn]
 | h::hs,k=>by simp only [kdn,qbl,Nat.pow_succ];rw [Nat.mul_comm];exact Nat.mul_le_mul (kyy fun g a=>k g (qf _ a)) (k h (qt ..))
theorem kqd:∀ {hs:List Sab},(∀ h∈hs,1<=h.yb.length)->1<=kdn hs
 | [],_=>qv _
 | h::hs,k=>Nat.mul_le_mul (k h (qt ..)) (kqd fun g a=>k g (qf _ a))
theorem k6z (d:Saa) (hp:∀ h∈d.ya,1<=h.yb.length/\h.yb.length<=64) (k:d.ya.length<=1000):Ev (kf0 d) fun r=>r.2=0->r=((kdn d.ya:Int),0):=by
 unfold kf0;refine kbe (Ev.mono (kf7 (P:=fun _=>True) (B:=fun _:Int×Int=>False) d.ya.length (by omega) (fun i hi _=>?_) (by simp only [kho,kar,qo])) fun q a=>kb2 (fun _ e=>?_) fun e g=>?_);simp only [kho,ka1 hi,qg,kai,qa hi,qb];have:=(hp _ (qx hi)).1;rw [show ((d.ya[i].yb.length:Int) == 0)=false by rw [qa0];omega];exact ⟨_,rfl,rfl,trivial⟩
 ·refine kbe (Ev.mono (keu (Q:=fun r=>Sum.elim (fun v=>v=(kdn d.ya:Int)) (fun p=>p=(0,11)) r) d.ya.length (fun i s=>s=((kdn (d.ya.take i):Int),(i:Int))/\kdn (d.ya.take i)<=1152921504606846976) (by omega) ⟨rfl,by rw [qbp];decide⟩ (fun i s hi c=>?_) fun s c=>?_) fun q a=>kb2 (fun v e=>?_) fun p e=>?_);obtain ⟨rfl,c⟩:=c;obtain ⟨h1,j⟩:=hp _ (qx hi);have a:quo .i64 1152921504606846976 (d.ya[i].yb.length:Int)=some ((1152921504606846976 / d.ya[i].yb.length:Nat):Int):=(by unfold quo;rw [qj (by omega),show ((1152921504606846976:Int).tdiv (d.ya[i].yb.length:Int))=((1152921504606846976 / d.ya[i].yb.length:Nat):Int) from rfl];have f:=Nat.div_le_self 1152921504606846976 d.ya[i].yb.length;generalize 1152921504606846976 / d.ya[i].yb.length=m at f ⊢;exact qa2 some (ket));simp only [kht,ka1 hi,qg,kai,qa hi,qb,a];refine kag (fun _=>⟨_,rfl,rfl⟩) fun hm=>?_;have hm:=qak hm;have hm:kdn (d.ya.take i)*d.ya[i].yb.length<=1152921504606846976:=(Nat.le_div_iff_mul_le (by omega)).1 (by omega);have e:kdn (d.ya.take (i+1))=kdn (d.ya.take i)*d.ya[i].yb.length:=(by rw [qaf hi,ko3]);refine ⟨_,rfl,?_,by rw [e];exact hm⟩;rw [kbk,<- Int.natCast_mul,ket,e];obtain ⟨rfl,c⟩:=c;refine kfr (.inl (kdn d.ya:Int)) (by simp only [kht,kar,qo];rw [qa8]) ?_;exact rfl;subst e;exact ⟨_,rfl,fun _=>by rw [show v=_ from a]⟩
  ·subst e;exact ⟨_,rfl,fun h=>by rw [show p=(0,11) from a] at h;cases h⟩
 ·subst g;exact a.elim
def gT (h:Sab) (c:List Int):List (List Int):=(List.range h.yb.length).map fun (n:Nat)=>c++[(n:Int)]
def chF (hs:List Sab):List (List Int):=hs.foldl (fun out h=>out.flatMap (gT h)) [[]]
theorem kpy (hs:List Sab) (h:Sab):chF (hs++[h])=(chF hs).flatMap (gT h):=by unfold chF;rw [List.foldl_append];rfl
theorem ks9 (h:Sab) (out:List (List Int)):(out.flatMap (gT h)).length=out.length*h.yb.length:=by
 induction out with
 | nil=>simp
 | cons c out ih=>rw [List.flatMap_cons,qy,ih,qbl,qaw,Nat.one_mul];unfold gT;rw [qs,List.length_range];omega
theorem kaam (c:List Int):cpL (List.replicate (c.length+1) (0:Int)) c=c++[0]:=by unfold cpL;rw [qbp,List.nil_append,qbf,Nat.min_eq_left (by omega),qa8,Nat.zero_add,List.drop_replicate];simp
theorem k9f (c:List Int) (n:Int):(c++[0]).set c.length n=c++[n]:=by rw [List.set_append_right _ _ (qv _),Nat.sub_self];rfl
theorem kt8 {hs:List Sab} (y:hs.length<=6) (g:∀ h∈hs,h.yb.length<=64):kgw hs=some (chF hs)/\(chF hs).length=kdn hs/\∀ c,c∈chF hs↔ChP hs c:=by
 have len:∀ i,i<=hs.length->(chF (hs.take i)).length=kdn (hs.take i):=fun i=>by
  induction i with
  | zero=>intro _;rw [qbp];rfl
  | succ i ih=>intro hi;rw [qaf (show i<hs.length by omega),kpy,ks9,ih (by omega),ko3]
 have few:∀ i,i<=hs.length->(chF (hs.take i)).length<=1073741824*64:=fun i hi=>by rw [len i hi];have h1:=kyy (hs:=hs.take i) fun h r=>g h (qa4 r);rw [q9,Nat.min_eq_left hi] at h1;exact qar h1 (qar (Nat.pow_le_pow_right (by decide) (show i<=6 by omega)) (by decide))
 have fewL:∀ i,i<=hs.length->∀ c∈chF (hs.take i),c.length=i:=fun i=>by
  induction i with
  | zero=>intro _ c hc;rw [qbp] at hc;rw [qat.1 hc];rfl
  | succ i ih=>
   intro hi c hc;rw [qaf (show i<hs.length by omega),kpy,qbc] at hc;obtain ⟨c0,h0,h1⟩:=hc;obtain ⟨n,_,rfl⟩:=qap.1 h1;rw [qy,ih (by omega) c0 h0,qas]
 have memL:∀ i,i<=hs.length->∀ c,c∈chF (hs.take i)↔ChP (hs.take i) c:=fun i=>by
  induction i with
  | zero=>
   intro _ c;rw [qbp];constructor;intro hc;rw [qat.1 hc];exact ⟨rfl,fun i h n e=>by cases e⟩
   ·intro hc;exact qat.2 (qav hc.len)
  | succ i ih=>
   intro hi c;have o:i<hs.length:=(by omega);have f:(hs.take i).length=i:=(by rw [q9];omega);rw [qaf o,kpy,qbc];constructor
   ·rintro ⟨c0,h0,h1⟩;obtain ⟨n,hn,rfl⟩:=qap.1 h1;have t:=(ih (by omega) c0).1 h0;have hl:=t.len;refine ⟨by rw [qy,qy,hl];rfl,fun j h m e1 e2=>?_⟩;by_cases z:j<i;rw [qab (by omega)] at e1;rw [qab (by omega)] at e2;exact t.ok j h m e1 e2
    ·have p:=kb1 e1;rw [qy,qas] at p;obtain rfl:j=i:=(by omega);rw [qad (by omega),f,Nat.sub_self] at e1;rw [qad (by omega),hl,f,Nat.sub_self] at e2;cases e1;cases e2;have:=List.mem_range.1 hn;omega
   ·intro hc;have hl:=hc.len;rw [qy,f,qas] at hl;obtain ⟨c0,m,rfl⟩:∃ c0 m,c=c0++[m]:=by
     rcases List.eq_nil_or_concat c with rfl | ⟨a,b,rfl⟩;cases hl
     ·exact ⟨a,b,by simp⟩
    rw [qy,qas] at hl;have hm:=hc.ok i hs[i] m (by rw [qad (by omega),f,Nat.sub_self];rfl) (by rw [qad (by omega),show i - c0.length=0 by omega];rfl);refine ⟨c0,(ih (by omega) c0).2 ⟨by omega,fun j h n e1 e2=>?_⟩,qap.2 ⟨m.toNat,List.mem_range.2 (by omega),by rw [show ((m.toNat:Nat):Int)=m by omega]⟩⟩;exact hc.ok j h n (by rw [qab (kb1 e1)];exact e1) (by rw [qab (kb1 e2)];exact e2)
 refine ⟨?_,by rw [<- qa8 (l:=hs)];exact len _ (qv _),fun c=>by have:=memL hs.length (qv _) c;rwa [qa8] at this⟩;unfold kgw;refine Ev.eq (kbe (Ev.mono (keu (Q:=fun v=>v=chF hs) hs.length (fun i s=>s=((i:Int),chF (hs.take i))) (by omega) (by rw [qbp];rfl) (fun i s hi e=>?_) fun s e=>?_) fun v hv=>⟨_,rfl,hv⟩))
 ·subst e;have r:=g _ (qx hi);have u:=few i (by omega);simp only [kgn,ka1 hi,qg,kai,qa hi,qb];have e2:chF (hs.take (i+1))=(chF (hs.take i)).flatMap (gT hs[i]):=by rw [qaf hi,kpy]
  have d:=few (i+1) (by omega);rw [e2,ks9] at d;refine kbe (Ev.mono (keu (Q:=fun v=>v=chF (hs.take (i+1))) (chF (hs.take i)).length (fun k s=>s=((k:Int),((chF (hs.take i)).take k).flatMap (gT hs[i]))) (by omega) (by rw [qbp];rfl) (fun k s hk e=>?_) fun s e=>?_) fun v hv=>?_);subst e;have e3:=qa hk;have hcl:=fewL i (by omega) _ (qx hk);simp only [kgq,ka1 hk,qg,kai,e3,qb];have w:(((chF (hs.take i)).take k).flatMap (gT hs[i])).length+hs[i].yb.length<=1073741824*64:=(by rw [ks9,q9,Nat.min_eq_left (qa3 hk),<- Nat.succ_mul];exact qar (qan _ hk) d);have q:=kpf (kfq hs[i] (chF (hs.take i))[k]) (List.range hs[i].yb.length) (fun n=>(chF (hs.take i))[k]++[(n:Int)]) (((chF (hs.take i)).take k).flatMap (gT hs[i])) (fun n x hx=>by have hn:=kb1 hx;rw [List.length_range] at hn;obtain rfl:x=n:=(by rw [List.getElem?_range hn] at hx;cases hx;rfl);simp only [kfq,ka1 hn,qg];rw [kbk,k4l 8 _ _,qb,kaam];have:kxl (List.replicate ((chF (hs.take i))[k].length+1) (0:Int)) ((chF (hs.take i))[k]++[0])=some ():=qr (by rw [qbf,qy];rfl);rw [this,qb,kai,qad (qv _),Nat.sub_self,show ([(0:Int)])[0]?=some 0 from rfl,qb,qbq,k9f];rw [km6 (by rw [qy,qs,q9,List.length_range,qas];omega),qb,kbk]) (by rw [List.length_range];simp only [kfq,kar,qo]) (hn:=(by rw [List.length_range];omega));rw [q,qb,kbk];refine ⟨_,rfl,?_⟩;show _=_;rw [qaf hk,List.flatMap_append,List.flatMap_cons,List.flatMap_nil,List.append_nil];rfl;subst e;exact kfr (chF (hs.take (i+1))) (by simp only [kgq,kar,qo];rw [qa8,<- e2]) rfl
  ·subst hv;rw [kbk];exact ⟨_,rfl,rfl⟩
 ·subst e;exact kfr (chF hs) (by simp only [kgn,kar,qo];rw [qa8]) rfl
def SLt (xs:List Tm):Prop:=xs.Pairwise fun a b=>cmpT a b<0
def SLe (xs:List Tm):Prop:=∀ (i j:Nat) (a b:Tm),i<j->xs[i]?=some a->xs[j]?=some b->0<=cmpT b a
theorem k3u {xs:List Tm} (h:SLe xs) {m n:Nat} {u a b:Tm} (hm:m<=n) (d:xs[m]?=some u) (c:xs[n]?=some b) (ha:xs[n+1]?=some a) (f:cmpT a b≠0):cmpT u a<0:=by
 have an:=fun x y=>cmpT_ord.anti x y trivial;have h1:=h n (n+1) b a (by omega) c ha;have g:=h m (n+1) u a (by omega) d ha;have i:cmpT a u≠0:=fun e=>by
  have e:=cmpT_eq0.1 e;subst e;by_cases hmn:m=n;subst hmn;rw [d] at c;cases c;exact f (cmpT_eq0.2 rfl)
  ·have j:=h m n a b (by omega) d c;have:=an a b;omega
 have:=an a u;omega
theorem kyt {P:List Tm} {a:Tm} (c:SLt P) (ha:∀ u∈P,cmpT u a<0):SLt (P++[a]):=List.pairwise_append.2 ⟨c,List.pairwise_singleton _ _,fun u d b e=>by rw [qat.1 e];exact ha u d⟩
theorem k17 (eq:Tm->Tm->Option Bool) (xs:List Tm) (w:∀ a∈xs,∀ b∈xs,eq a b=some (cmpT a b == 0)) (D:SLe xs) (hl:xs.length<=1000000):Ev (knb eq xs) fun r=>SLt r/\(∀ t,t∈r↔t∈xs)/\r.length<=xs.length:=by
 unfold knb;refine kag (fun k=>?_) fun k=>?_
 ·have k:=qa9 k;refine ⟨xs,rfl,?_,fun _=>Iff.rfl,qv _⟩
  match xs,k with
  | [],_=>exact List.Pairwise.nil
  | [a],_=>exact List.pairwise_singleton _ _
  | a::b::l,h=>simp only [qbl] at h;omega
 have k:=qak k;have take_mem:∀ {i:Nat} {u:Tm},u∈xs.take (i+1)->∃ m,m<=i/\xs[m]?=some u:=fun {i u} h=>by obtain ⟨m,hm,rfl⟩:=qah.1 h;rw [q9] at hm;exact ⟨m,by omega,by rw [List.getElem_take,qa]⟩
 refine kbe (Ev.mono (keu (Q:=fun r=>Sum.elim (fun _=>False) (fun q=>SLt (q.getD xs)/\(∀ t,t∈q.getD xs↔t∈xs)/\(q.getD xs).length<=xs.length) (.inr r:Unit ⊕ Option (List Tm))) (xs.length - 1) (fun i s=>s=((i+1:Nat):Int)/\SLt (xs.take (i+1))) (by omega) ⟨rfl,?_⟩ (fun i s hi d=>?_) fun s d=>?_) fun r hr=>⟨_,rfl,hr⟩)
 ·match xs,k with
  | [],_=>exact List.Pairwise.nil
  | a::l,_=>exact List.pairwise_singleton _ _
 ·obtain ⟨rfl,d⟩:=d;have hk:i+1<xs.length:=by omega
  have n:i<xs.length:=by omega
  have e1:=qa hk;have e0:=qa n;unfold kw7;rw [ka1 hk,qg,kai,e1,qb,show w64 (((i+1:Nat):Int) - 1)=(i:Int) by rw [ket];omega,kai,e0,qb,w _ (qx hk) _ (qx n),qb];refine kag (fun hv=>?_) fun hv=>?_
  ·have hv:=cmpT_eq0.1 (eq_of_beq hv);rw [show kpq ((i+1:Nat):Int) (xs.length:Int) (xs.length:Int)=some () from qr (by omega),qb];refine kbe (Ev.mono (keu (Q:=fun p=>∃ kk:Nat,p.1=(kk:Int)/\kk<xs.length/\p.2.length=xs.length/\SLt (p.2.take kk)/\∀ t,t∈p.2.take kk↔t∈xs) (xs.length - (i+1) - 1) (fun j s=>s.1=((j+1:Nat):Int)/\∃ kk:Nat,s.2.1=(kk:Int)/\s.2.2.length=xs.length/\kk<=i+1+j/\SLt (s.2.2.take kk)/\(∀ t,t∈s.2.2.take kk↔t∈xs.take (i+1+j+1))/\s.2.2.drop (i+1+j)=xs.drop (i+1+j)) (by omega) ⟨rfl,i+1,rfl,rfl,by omega,d,fun t=>?_,rfl⟩ (fun j s E B=>?_) fun s B=>?_) fun p hp=>?_);rw [show i+1+0+1=(i+1)+1 from rfl,qaf hk,qaz,qat];refine ⟨.inl,fun h=>h.elim id fun h=>?_⟩;rw [h,hv,qaf n];exact List.mem_append_right _ (List.mem_singleton_self _)
   ·obtain ⟨k2,q,cur⟩:=s;obtain ⟨rfl,kk,rfl,hcl,x,hS,e,v⟩:=B;simp only at hcl hS e v;have f:i+1+j+1<xs.length:=(by omega);have g:i+1+j<xs.length:=(by omega);have g1:cur[i+1+j+1]?=some xs[i+1+j+1]:=(by have:=qa2 (fun l:List Tm=>l[1]?) v;simp only [qag] at this;rw [this,qa f]);have g0:cur[i+1+j]?=some xs[i+1+j]:=(by have:=qa2 (fun l:List Tm=>l[0]?) v;simp only [qag,Nat.add_zero] at this;rw [this,qa g]);have a1:cfAt cur ((i+1:Nat):Int) ((j+1:Nat):Int)=some xs[i+1+j+1]:=(by unfold cfAt;rw [qaj (by rw [qbq];omega),qg,qbq,show ((i+1:Nat):Int)+((j+1:Nat):Int)=((i+1+j+1:Nat):Int) by omega,kai,g1]);have a0:cfAt cur ((i+1:Nat):Int) (w64 (((j+1:Nat):Int) - 1))=some xs[i+1+j]:=(by unfold cfAt;rw [show w64 (((j+1:Nat):Int) - 1)=(j:Int) by rw [ket];omega,qaj (by rw [qbq];omega),qg,qbq,show ((i+1:Nat):Int)+(j:Int)=((i+1+j:Nat):Int) by omega,kai,g0]);have c:cur.drop (i+1+(j+1))=xs.drop (i+1+(j+1)):=(by have:=qa2 (List.drop 1) v;rw [List.drop_drop,List.drop_drop] at this;exact this);have y:xs.take (i+1+(j+1)+1)=xs.take (i+1+j+1)++[xs[i+1+j+1]]:=qaf f;unfold cfIn;simp only;rw [qaj (show ((j+1:Nat):Int)<((cur.length - (((i+1:Nat):Int)).toNat:Nat):Int) by rw [qbq];omega),qg,a1,qb,a0,qb,w _ (qx f) _ (qx g),qb];refine kag (fun hv=>?_) fun hv=>?_
    ·have hv:cmpT xs[i+1+j+1] xs[i+1+j]≠0:=(by simpa using hv);have z:kk<cur.length:=(by omega);rw [kai,qa z,qb,kbk,kbk,qbq];have e5:(cur.set kk xs[i+1+j+1]).take (kk+1)=cur.take kk++[xs[i+1+j+1]]:=(by rw [qaf (by rw [List.length_set];exact z),List.take_set_of_le (qv _),List.getElem_set_self]);refine ⟨_,rfl,rfl,kk+1,rfl,by rw [List.length_set];exact hcl,by omega,?_,fun t=>?_,?_⟩;show SLt ((cur.set kk xs[i+1+j+1]).take (kk+1));rw [e5];refine kyt hS fun u C=>?_;obtain ⟨m,hm,o⟩:=take_mem ((e u).1 C);exact k3u D hm o (qa g) (qa f) hv;show t∈(cur.set kk xs[i+1+j+1]).take (kk+1)↔_;rw [e5,y,qaz,qaz,e]
     ·show (cur.set kk xs[i+1+j+1]).drop (i+1+(j+1))=_;rw [List.drop_set_of_lt (by omega),c]
    ·have hv:xs[i+1+j+1]=xs[i+1+j]:=cmpT_eq0.1 (by simpa using hv);rw [kbk];refine ⟨_,rfl,rfl,kk,rfl,hcl,by omega,hS,fun t=>?_,c⟩;rw [e,y,qaz,qat];refine ⟨.inl,fun h=>h.elim id fun h=>?_⟩;rw [h,hv,qaf g];exact List.mem_append_right _ (List.mem_singleton_self _)
   ·obtain ⟨k2,q,cur⟩:=s;obtain ⟨rfl,kk,rfl,hcl,x,hS,e,v⟩:=B;simp only at hcl hS e v;refine kfr ((kk:Int),cur) ?_ ⟨kk,rfl,by omega,hcl,hS,fun t=>?_⟩;unfold cfIn;simp only;rw [qae (by rw [qbq];omega)];rfl
    ·rw [e,List.take_of_length_le (by omega)]
   ·obtain ⟨q,cur⟩:=p;obtain ⟨kk,rfl,x,hcl,hS,e⟩:=hp;simp only at hcl hS e ⊢;rw [show kpq (kk:Int) (cur.length:Int) (cur.length:Int)=some () from qr (by omega),qb,qbq,qaj (by omega),qg];have A:cutL (cur.take kk++List.replicate (cur.length - kk) (Tm.mk 0 [])) 0 (kk:Int)=some (cur.take kk):=(by unfold cutL;rw [qr ⟨by omega,by omega,by rw [qy,q9,qbf];omega⟩,qbq];rw [List.take_append_of_le_length (by rw [q9];omega),List.take_take,Nat.min_self];rfl);rw [A,qb];exact ⟨_,rfl,hS,e,by show (cur.take kk).length<=_;rw [q9];omega⟩
  ·have hv:cmpT xs[i+1] xs[i]≠0:=(by simpa using hv);rw [kbk];refine ⟨_,rfl,rfl,?_⟩;rw [qaf hk];refine kyt d fun u C=>?_;obtain ⟨m,hm,o⟩:=take_mem C;exact k3u D hm o e0 e1 hv
 ·obtain ⟨rfl,d⟩:=d;rw [show xs.length - 1+1=xs.length by omega] at d ⊢;rw [qa8] at d;exact ⟨_,by unfold kw7;rw [kar];rfl,none,rfl,d,fun _=>Iff.rfl,qv _⟩
theorem k3e (xs:List Tm):SLe (kfm xs):=by
 have an:=fun x y=>cmpT_ord.anti x y trivial;have tr:=fun x y z=>cmpT_ord.trans x y z trivial trivial trivial;have h:=List.pairwise_mergeSort (le:=fun x y=>decide (cmpT x y<=0)) (fun a b c h1 g=>by
  simp only [qbd] at h1 g ⊢;exact tr a b c h1 g) (fun a b=>by
  have:=an a b;simp only [qbt,qbd];omega) xs
 intro i j a b d ha f;have hi:=kb1 ha;have k:=kb1 f;rw [qa hi] at ha;rw [qa k] at f;cases ha;cases f;have:=List.pairwise_iff_getElem.1 h i j hi k d;have:=qa9 this;have:=an (kfm xs)[i] (kfm xs)[j];have e:(cmpT (kfm xs)[i] (kfm xs)[j])<=0:=by assumption
 omega
theorem sorted_mem {xs:List Tm} {t:Tm}:t∈kfm xs↔t∈xs:=(List.mergeSort_perm _ _).mem_iff
end Go.Proofs.YtjnjipmjkkhdpaaGreatDoor
