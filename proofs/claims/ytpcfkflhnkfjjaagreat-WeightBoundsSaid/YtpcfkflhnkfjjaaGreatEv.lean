import Derived.Test.YtpcfkflhnkfjjaaGreatLo
set_option linter.all false
set_option maxRecDepth 100000
namespace Go.Proofs.YtpcfkflhnkfjjaaGreat
open Go Go.RowKit
def Ev {α:Type} (x:Option α) (P:α->Prop):Prop:=∃ v,x=some v/\P v
theorem Ev.mono {α:Type} {x:Option α} {P Q:α->Prop} (h:Ev x P) (hp:∀ v,P v->Q v):Ev x Q:=by obtain ⟨v,h1,a⟩:=h;exact ⟨v,h1,hp v a⟩
theorem kds {α β:Type} {x:Option α} {k:α->Option β} {P:β->Prop} (h:Ev x fun v=>Ev (k v) P):Ev (Option.bind x k) P:=by obtain ⟨v,rfl,u,h1,a⟩:=h;exact ⟨u,h1,a⟩
theorem kv6 {σ β:Type} {step:σ->Option (σ ⊕ β)} {s0:σ} {Q:β->Prop} (n:Nat) (I:Nat->σ->Prop) (hn:n<18446744073709551616) (h0:I 0 s0)
  (hs:∀ i s,i<n->I i s->Ev (step s) (Sum.elim (I (i+1)) Q)) (d:∀ s,I n s->Ev (step s) fun r=>∃ b,r = .inr b/\Q b):Ev (kab step fuel s0) Q:=by
 have key:∀ (k m N:Nat) (s:σ),m+k=n->k<N->I m s->Ev (kab step N s) Q:=by
  intro k
  induction k with
  | zero=>
   intro m N s hm e c;obtain ⟨N,rfl⟩:∃ j,N=j+1:=⟨N - 1,by omega⟩;obtain rfl:m=n:=(by omega);obtain ⟨r,h1,b,rfl,a⟩:=d s c;exact ⟨b,by rw [kab,h1],a⟩
  | succ k ih=>
   intro m N s hm e c;obtain ⟨N,rfl⟩:∃ j,N=j+1:=⟨N - 1,by omega⟩;obtain ⟨r,h1,a⟩:=hs m s (by omega) c;cases r with
   | inl s'=>
    obtain ⟨b,f,g⟩:=ih (m+1) N s' (by omega) (by omega) a;exact ⟨b,by rw [kab,h1];exact f,g⟩
   | inr b=>exact ⟨b,by rw [kab,h1],a⟩
 exact key n 0 fuel s0 (by omega) (ke5 hn) h0
theorem kt9 {σ β:Type} {step:σ->Option (σ ⊕ β)} {s0:σ} {Q:β->Prop} (I:σ->Prop) (μ:σ->Nat) (hn:μ s0<18446744073709551616) (h0:I s0)
  (hs:∀ s,I s->Ev (step s) (Sum.elim (fun s'=>I s'/\μ s'<μ s) Q)):Ev (kab step fuel s0) Q:=by
 have key:∀ (N:Nat) (s:σ),μ s<N->I s->Ev (kab step N s) Q:=by
  intro N
  induction N with
  | zero=>intro s h;omega
  | succ N ih=>
   intro s h c;obtain ⟨r,h1,a⟩:=hs s c;cases r with
   | inl s'=>
    obtain ⟨b,d,e⟩:=ih s' (by have:=a.2;omega) a.1;exact ⟨b,by rw [kab,h1];exact d,e⟩
   | inr b=>exact ⟨b,by rw [kab,h1],a⟩
 exact key fuel s0 (ke5 hn) h0
theorem kb9 {α σ τ β:Type} {xs:List α} {step:σ->Option (σ ⊕ β)} {Q:β->Prop} (mk:Nat->τ->σ) (I:Nat->τ->Prop) {t0:τ} (hn:xs.length<=9223372036854775807) (h0:I 0 t0)
  (hs:∀ i t (hi:i<xs.length),I i t->Ev (step (mk i t)) (Sum.elim (fun s=>∃ t',s=mk (i+1) t'/\I (i+1) t') Q)) (a:∀ t,I xs.length t->Ev (step (mk xs.length t)) fun r=>∃ b,r = .inr b/\Q b):Ev (kab step fuel (mk 0 t0)) Q:=by
 refine kv6 xs.length (fun i s=>∃ t,s=mk i t/\I i t) (by omega) ⟨t0,rfl,h0⟩ (fun i s hi ⟨t,e,h⟩=>?_) (fun s ⟨t,e,h⟩=>?_);subst e;exact hs i t hi h
 ·subst e;exact a t h
end Go.Proofs.YtpcfkflhnkfjjaaGreat
