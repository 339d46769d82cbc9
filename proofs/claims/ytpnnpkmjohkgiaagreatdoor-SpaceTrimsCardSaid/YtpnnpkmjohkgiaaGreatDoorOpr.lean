import Derived.Test.YtpnnpkmjohkgiaaGreatDoorOpo
import Derived.Laws.CopyRow
import Derived.Laws.IdiomCopy
set_option linter.all false
namespace Go.Proofs.YtpnnpkmjohkgiaaGreatDoor
open Go Go.RowKit
section
variable {P:Program} {F S0:Nat->Prop} {N0:Nat} {w w':World} {S S':Nat->Prop} {ψ:Env} {K:Nat->Prop} {T:List (TypeId×TD)} {o:Oper} {a:Act} {st:St} {t:TypeId} {d:TD} {id:Nat}
end
def tabF (rows:List (List Value)):FV := .lst 1 rows.length (rows.map fun r => .lst 1 r.length (r.map .atom))
def kw9:FV->Bool
 | .atom _=>true
 | .tup vs=>vs.all fun x=>match x with
  | .atom _=>true
  | _=>false
 | _=>false
section
variable {P:Program} {F S0:Nat->Prop} {N0:Nat} {w w':World} {S S':Nat->Prop} {ψ ψ':Env} {K:Nat->Prop} {T:List (TypeId×TD)} {o:Oper} {a:Act} {st:St} {t:TypeId} {d:TD} {id:Nat} {ids:List Nat} {heap:List (Nat×AObj)}
end
section
variable {P:Program} {F S0:Nat->Prop} {N0:Nat} {w w':World} {S S':Nat->Prop} {ψ ψ':Env} {K:Nat->Prop} {T:List (TypeId×TD)} {o:Oper} {a:Act} {st:St} {t:TypeId} {d:TD} {id:Nat} {ids:List Nat} {heap:List (Nat×AObj)}
end
section
variable {P:Program} {F S0:Nat->Prop} {N0:Nat} {w w':World} {S S':Nat->Prop} {ψ ψ':Env} {K:Nat->Prop} {T:List (TypeId×TD)} {o:Oper} {a:Act} {st:St} {t:TypeId} {d:TD} {id:Nat} {ids:List Nat} {heap:List (Nat×AObj)}
theorem kua {ob:AObj} (h:Core F S0 N0 heap ids ψ S w) (ho:kab heap id=some ob):Core F S0 N0 (kb6 id heap) ids ψ (fun b=>S b\/Blk (ψ.val id) b) w:=by
 obtain ⟨j,e,f⟩:=h.obj id _ ho;refine ⟨fun k ob hk=>?_,fun k k' o o' b hk c d a g=>?_,fun b a=>?_,fun b a=>?_,h.n0,h.fr⟩
 ·obtain ⟨d,hk⟩:=kda id hk;obtain ⟨h1,l,i⟩:=h.obj k ob hk;refine ⟨h1,l.keep Ext.refl (fun _ h=>h) (fun b a => .inl a) (fun _ _ _=>rfl) ⟨rfl,rfl⟩ (fun _ _=>rfl),fun b a=>⟨fun hs=>?_,(i b a).2⟩⟩;rcases hs with hs | hs;exact (i b a).1 hs
  ·exact h.inj k id ob _ b hk ho d a hs
 obtain ⟨_,hk⟩:=kda id hk;obtain ⟨_,c⟩:=kda id c;exact h.inj k k' o o' b hk c d a g
 ·rcases a with a | a;exact h.lt b a
  ·exact e.lt a
 ·rcases a with a | a;exact h.s0 b a
  ·exact (f b a).2.2
theorem kos (r:List Value) (h:∀ u∈r,u.oneCell'=true):ElR 1 (r.map .atom):=fun x a=>by obtain ⟨u,b,rfl⟩:=qaf.1 a;exact ⟨rfl,fun y hy=>by simp [FV.cells] at hy;subst hy;exact h u b⟩
theorem kng (r:List Value) (h:∀ u∈r,u.oneCell'=true):RowR S w 1 (r.map .atom) r:=fun i x j v y a hv hy=>by
 rw [qr,qp] at a;obtain ⟨u,b,rfl⟩:=a;have c:j=0:=by have:=(qd.1 hy).1;simp [FV.cells] at this;exact this
 subst c;simp [FV.cells] at hy;subst hy;rw [Nat.mul_one,Nat.add_zero,b] at hv;cases hv;exact .atom (h _ (qm b))
theorem kw7 {g:Nat} {ov:Value} {eo ei:TypeId} {rows:List (List Value)} (h:ObR ψ K S w id (.tab g ov eo ei rows)):RF (fun b=>S b\/Blk (ψ.val id) b) w ov (tabF rows):=by
 obtain ⟨t,vs,d,p,e,l,n⟩:=h;have o:∀ u b,u∈ov::vs->kav u=some b->Blk (ψ.val id) b:=fun u b q f=>by rw [d];exact .inr ⟨u,by simpa [kfh] using q,f⟩
 have c:rows.length=(rows.map fun r:List Value=>FV.lst 1 r.length (r.map .atom)).length:=by simp
 have a:∀ (j:Nat) (v:Value) (r:List Value),vs[j]?=some v->rows[j]?=some r->RF (fun b=>S b\/Blk (ψ.val id) b) w v (.lst 1 r.length (r.map .atom)):=fun j v r hv hr=>by obtain ⟨k1,k2⟩:=l j v r hv hr;have:=kkk (S:=S) (xs:=r.map .atom) (by omega) (by simpa using k1) (kos r k2) (kng r k2);rw [qaj] at this;exact this.mono fun b f=>f.imp _root_.id fun h=>o v b (qs _ (qm hv)) h
 have m:ElR 1 (rows.map fun r:List Value=>FV.lst 1 r.length (r.map .atom)):=fun x k=>by obtain ⟨r,hr,rfl⟩:=qaf.1 k;exact ⟨rfl,fun y hy=>by simp [FV.cells] at hy;subst hy;rfl⟩
 have:=kkk (S:=fun b=>S b\/Blk (ψ.val id) b) (xs:=rows.map fun r:List Value=>FV.lst 1 r.length (r.map .atom)) (by omega) (by rw [<- c];exact e) m (fun i x j v y k hv hy=>by
  rw [qr,qp] at k;obtain ⟨r,hr,rfl⟩:=k;have s:j=0:=by have:=(qd.1 hy).1;simp [FV.cells] at this;exact this
  subst s;simp [FV.cells] at hy;subst hy;rw [Nat.mul_one,Nat.add_zero] at hv;exact a i v r hv hr)
 rw [<- c] at this;exact this.mono fun b f=>f.elim _root_.id fun h => .inr (o ov b (qv ..) h)
inductive LendI where
 | row (t id n:Nat) (e:TypeId) (size:Nat) (xs:List FV)
 | tab (t id g:Nat) (ov:Value) (eo ei:TypeId) (rows:List (List Value)) (x:FV)
 | inn (t id g:Nat) (ov:Value) (eo ei:TypeId) (rows:List (List Value)) (i:Nat) (x:FV)
def LendI.ok (st:St):LendI->Prop
 | .row t id n e size xs=>st.get t = .row id n/\kab st.heap id=some (.frow e size xs)/\n=xs.length
 | .tab t id g ov eo ei rows x=>st.get t = .fz (.atom ov)/\kab st.heap id=some (.tab g ov eo ei rows)/\x=tabF rows
 | .inn t id g ov eo ei rows i x=>st.get t = .irow id g (i+1)/\kab st.heap id=some (.tab g ov eo ei rows)/\∃ r,rows[i]?=some r/\x = .lst 1 r.length (r.map .atom)
def LendI.slot:LendI->Nat×AV
 | .row t _ n _ size xs=>(t, .fz (.lst size n xs))
 | .tab t _ _ _ _ _ _ x=>(t, .fz x)
 | .inn t _ _ _ _ _ _ _ x=>(t, .fz x)
def kxt (ls:List LendI) (st:St):St:={ st with tmps:=ls.map LendI.slot++st.tmps }
theorem kpr {e:TypeId} {size:Nat} {xs:List FV} (h:ObR ψ K S w id (.frow e size xs)):RF (fun b=>S b\/Blk (ψ.val id) b) w (ψ.val id) (.lst size xs.length xs):=by obtain ⟨h0,c,cs,a,d,hr⟩:=h;exact (kkk c a d hr).mono fun b f=>f.imp _root_.id .of
theorem koj {SB:Nat->Prop}:∀ (ls:List LendI),(∀ l∈ls,l.ok st)->(∀ t,RV ψ (·∈st.ids) S w (a.tmps.getD t undef) (st.get t))->(∀ id ob,kab st.heap id=some ob->ObR ψ (·∈st.ids) S w id ob)->(∀ id ob,kab st.heap id=some ob->∀ b,(S b\/Blk (ψ.val id) b)->SB b)->(∀ b,S b->SB b) ->
  ∀ t,RV ψ (·∈st.ids) SB w (a.tmps.getD t undef) (look .any (ls.map LendI.slot++st.tmps) t)
 | [],_,ht,_,_,hS,t=>(ht t).mono (fun _ h=>h) hS
 | l::ls,hl,ht,q,c,hS,t=>by
  have f:=hl l (qv ..);have j:=koj ls (fun k hk=>hl k (qs _ hk)) ht q c hS t;cases l with
  | row t' id n e size xs=>
   obtain ⟨q1,q2,rfl⟩:=f;show RV ψ (·∈st.ids) SB w _ (look .any ((t',AV.fz (.lst size xs.length xs))::(ls.map LendI.slot++st.tmps)) t);rw [ka5];split
   ·rename_i o;subst o;have hv:=ht t';rw [q1] at hv;have p:=q id _ q2;refine .fz ?_;generalize a.tmps.getD t' undef=u at hv;cases hv with
    | row hK v h1 hv=>
     rw [hv p.1.symm];exact (kpr p).mono (c id _ q2)
   ·exact j
  | tab t' id g ov eo ei rows x=>
   obtain ⟨q1,q2,rfl⟩:=f;show RV ψ (·∈st.ids) SB w _ (look .any ((t',AV.fz (tabF rows))::(ls.map LendI.slot++st.tmps)) t);rw [ka5];split;rename_i o;subst o;have hv:=ht t';rw [q1] at hv;rw [hv.atom];exact .fz ((kw7 (q id _ q2)).mono (c id _ q2))
   ·exact j
  | inn t' id g ov eo ei rows i x=>
   obtain ⟨q1,q2,r,q3,rfl⟩:=f;show RV ψ (·∈st.ids) SB w _ (look .any ((t',AV.fz (.lst 1 r.length (r.map .atom)))::(ls.map LendI.slot++st.tmps)) t);rw [ka5];split
   ·rename_i o;subst o;have hv:=ht t';rw [q1] at hv;obtain ⟨D,vs,d,y,B,z,C⟩:=q id _ q2;have m:i<vs.length:=(by rw [y];exact (qd.1 q3).1);obtain ⟨k1,k2⟩:=z i vs[i] r (qa m) q3;refine .fz ?_;have s:=kkk (S:=S) (xs:=r.map .atom) (by omega) (by simpa using k1) (kos r k2) (kng r k2);rw [qaj] at s;have s:=s.mono fun b A=>c id _ q2 b (A.imp _root_.id fun A=>by rw [d];exact .inr ⟨vs[i],by simp only [kfh];exact qs _ (qo m),A⟩);generalize a.tmps.getD t' undef=u at hv;cases hv with
    | irow hK v h1 hv=>
     have:=hv D.symm;rw [d] at this;simp only [kfh,List.getElem?_cons_succ] at this;rw [qa m] at this;cases this;exact s
   ·exact j
theorem k09 (ls:List LendI) {c:FV} (hl:∀ l∈ls,l.ok st) (hn:NStep P o (kxt ls st) (.fz c)) (hc:kw9 c=true):NStep P o st (.fz c):=by
 intro ψ S a w ht g
 let SB:Nat->Prop:=fun b=>S b\/∃ id ob,kab st.heap id=some ob/\Blk (ψ.val id) b
 have d:∀ id ob,kab st.heap id=some ob->∀ b,(S b\/Blk (ψ.val id) b)->SB b:=fun id ob h b e=>e.imp _root_.id fun e=>⟨id,ob,h,e⟩;refine kgr ?_ (hn ψ SB a w (fun t=>?_) fun id ob ho=>?_)
 ·rintro v w' ⟨k,hv⟩;refine ⟨k, .fz ?_⟩;have hv:=hv.inv;cases c with
  | atom u=>cases hv with | atom h=>exact .atom h
  | tup vs=>
   cases hv with
   | tup h hr=>
    refine .tup h fun i v x hv j=>?_;have f:=ql.1 hc x (qm j);have:=hr i v x hv j;cases x with
    | atom u=>cases this with | atom h=>exact .atom h
    | _=>cases f
  | _=>cases hc
 exact koj ls hl (fun t=>ht t) g d (fun b h => .inl h) t
 ·exact (g id ob ho).keep Ext.refl (fun _ h=>h) (fun b e => .inl e) (fun _ _ _=>rfl) ⟨rfl,rfl⟩ fun _ _=>rfl
theorem kot {t id n:Nat} {e:TypeId} {size:Nat} {xs:List FV} (h1:st.get t = .row id n) (a:kab st.heap id=some (.frow e size xs)) (b:n=xs.length):LendI.ok st (.row t id n e size xs):=⟨h1,a,b⟩
theorem kpv:∀ l∈([]:List LendI),l.ok st:=fun l h=>by cases h
theorem kny {l:LendI} {ls:List LendI} (h:l.ok st) (hs:∀ k∈ls,k.ok st):∀ k∈l::ls,k.ok st:=fun k hk=>by
 rcases qaw.1 hk with rfl | hk;exact h
 ·exact hs k hk
end
end Go.Proofs.YtpnnpkmjohkgiaaGreatDoor
