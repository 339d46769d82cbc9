import Derived.Test.YtpcfkflhnkfjjaaGreatMop
set_option linter.all false
namespace Go.Proofs.YtpcfkflhnkfjjaaGreat
open Go Go.RowKit
section
variable {P:Program} {F S0:Nat->Prop} {N0:Nat} {w w':World} {S S':Nat->Prop} {ψ:Env} {K:Nat->Prop} {T:List (TypeId×TD)} {o:Oper} {a:Act} {st:St} {t:TypeId} {d:TD} {id:Nat}
theorem kqh {v:Value} {e:TypeId} {size n:Nat} {cs:List Value} (h:w.ownsRow 0 e size v n cs) (hn:0<n):∃ g cap,v = .slice (some ⟨g,0,none⟩) n cap:=by
 rcases h.2 with ⟨_,h0⟩ | ⟨g,cap,cur,hv,_⟩;omega
 ·exact ⟨g,cap,hv⟩
theorem kh0 {α:Type} (E:En α) {xs:List α} {x:α} {i:Int} {X Y:Operand} {e:TypeId} {de:TD} {k:IntKind} {n:Nat} (h:idx xs i=some x) (s:TOk P T) (ho:o.op = .indexAddr t X Y) (q:kak T t=some d) (hk:d.kind = .slice e) (l:kak T e=some de) (y:de.size=E.n)
  (z:st.eval X = .row id n) (r:kae st.heap id=some (.frow e E.n (xs.map E.f))) (hn:n=xs.length) (A:st.eval Y = .fz (.atom (.int k i)):=by kernel_rfl):NStep P o st (.ref id n (i.toNat*E.n+0)):=by
 intro ψ S a w ht B;subst hn;have q:=s.get q;have l:=s.get l;obtain ⟨h0,hi⟩:=kq3 h;have C:i.toNat<xs.length:=(qj.1 hi).1;have m:=Sim.eval_tmps ht X;rw [z] at m;have b:=Sim.eval_tmps ht Y;rw [A] at b;have b:=b.atom;obtain ⟨hl,_,cs,c,_,_⟩:=B id _ r;rw [qu] at hl c;obtain ⟨g,cap,j⟩:=kqh c (by omega);have hK:id∈st.ids/\a.eval X=ψ.val id:=by
  generalize a.eval X=u at m;cases m with
  | row hK D h1 hv=>exact ⟨hK,hv hl.symm⟩
 refine kai (w':=w) (v := .pointer (some ⟨g,i.toNat*E.n+0,none⟩)) ?_ ⟨kaj _, .ref hK.1 (by omega) rfl fun _=>⟨g,by rw [j];rfl,rfl⟩⟩;have p:i<(xs.length:Int):=by omega
 simp [execOp,ho,hK.2,j,b,Instr.indexAt,asIntOf,run_underlying (q.slice hk),h0,p,l.size,y,kfj]
theorem kit {s:TypeId} {x:Operand} {f:Nat} {fs:List (TypeId×Nat)} {ft:TypeId} {off n p q:Nat} {e:TypeId} {size:Nat} {xs:List FV} {df:TD} (y:TOk P T) (ho:o.op = .fieldAddr s x f) (k:kak T s=some d) (hk:d.kind = .st fs) (hf:fs[f]?=some (ft,off)) (c:kak T ft=some df) (z:Nat.beq df.size 0=false)
  (A:st.eval x = .ref id n (p+q)) (l:kae st.heap id=some (.frow e size xs)) (hn:n=xs.length):NStep P o st (.ref id n (p+(q+off))):=by
 intro ψ S a w ht B;have k:=y.get k;have c:=y.get c;have i:=Sim.eval_tmps ht x;rw [A] at i;obtain ⟨hl,_⟩:=B id _ l;obtain ⟨gs,C,m⟩:=k.strct hk;have j:∃ g:Field,gs[f]?=some g/\g.type=ft/\g.offset=off:=by rw [<- m,qp,qt] at hf;obtain ⟨g,j,r⟩:=hf;simp only [qad] at r;exact ⟨g,by simpa using j,r.1,r.2⟩
 obtain ⟨g,j,rfl,rfl⟩:=j;have t:df.size≠0:=fun h=>by rw [h] at z;cases z
 obtain ⟨b,hv,hr⟩:∃ b,a.eval x = .pointer (some ⟨b,p+q,none⟩)/\RV ψ (·∈st.ids) S w (.pointer (some ⟨b,p+q+g.offset,none⟩)) (.ref id n (p+(q+g.offset))):=by
  generalize a.eval x=u at i;cases i with
  | ref hK v h1 hv=>
   obtain ⟨b,D,rfl⟩:=hv (by rw [hl,hn]);exact ⟨b,rfl, .ref hK v rfl fun _=>⟨b,D,by rw [Nat.add_assoc]⟩⟩
 refine kai (w':=w) ?_ ⟨kaj _,hr.here⟩;simp [execOp,ho,hv,Instr.fieldAt,C,j,Instr.sureAddr,fieldPlace,c.size,t,kfj]
theorem kix {α:Type} (E:En α) {xs:List α} {x:α} {i:Int} {X:Operand} {n q:Nat} {e:TypeId} {y:FV} (h:idx xs i=some x) (D:TOk P T) (ho:o.op = .load t X) (r:kak T t=some d) (hk:d.kind.agg=false) (F:st.eval X = .ref id n (i.toNat*E.n+q)) (s:kae st.heap id=some (.frow e E.n (xs.map E.f))) (hn:n=xs.length) (C:Nat.blt q E.n=true:=by kernel_rfl) (G:(E.cl x)[q]?=some y:=by kernel_rfl):NStep P o st (.fz y):=by
 intro ψ S a w ht H;subst hn;have r:=D.get r;obtain ⟨h0,hi⟩:=kq3 h;have C:q<E.n:=by simpa [Nat.blt_eq] using C
 have z:i.toNat<xs.length:=(qj.1 hi).1;have l:=Sim.eval_tmps ht X;rw [F] at l;obtain ⟨hl,_,cs,c,_,hr⟩:=H id _ s;rw [qu] at hl c;obtain ⟨g,cap,j⟩:=kqh c (by omega);have hp:a.eval X = .pointer (some ⟨g,i.toNat*E.n+q,none⟩):=by
  generalize a.eval X=u at l;cases l with
  | ref hK I h1 hv=>
   obtain ⟨b,A,rfl⟩:=hv hl.symm;rw [j] at A;simp only [ka1,ql] at A;rw [A]
 have k:i.toNat*E.n+q<xs.length*E.n:=by have:(i.toNat+1)*E.n<=xs.length*E.n:=Nat.mul_le_mul_right _ z;rw [Nat.add_mul,Nat.one_mul] at this;omega
 have B:i.toNat*E.n+q<cs.length:=by rw [c.1];exact k
 have p:cs[i.toNat*E.n+q]?=some cs[i.toNat*E.n+q]:=qb B;have m:w.cell? ⟨g,i.toNat*E.n+q,none⟩=some cs[i.toNat*E.n+q]:=by rw [j] at c;rw [World.ownsRow.cellAt c _ k,p]
 refine kai (w':=w) (v:=cs[i.toNat*E.n+q]) ?_ ⟨kaj _, .fz ((hr i.toNat (E.f x) q _ y (by rw [qp,hi];rfl) p (by rw [E.hcl];exact G)).mono fun _ h => .inl h)⟩;simp [execOp,ho,hp,Instr.loadAt,Instr.sureAddr,loadVar,r.isAgg,hk,m]
end
end Go.Proofs.YtpcfkflhnkfjjaaGreat
