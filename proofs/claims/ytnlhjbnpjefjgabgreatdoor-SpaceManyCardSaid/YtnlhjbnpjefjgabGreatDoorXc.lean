import Derived.Test.YtnlhjbnpjefjgabGreatDoorDra
import Derived.Deep.AppendSrc
set_option linter.all false
namespace Go.Proofs.YtnlhjbnpjefjgabGreatDoor
open Go Go.RowKit
def objH (H:Nat->Option AObj) (id:Nat):Option (Nat×List AV):=match H id with
 | some (.box _ cells)=>some (0,cells)
 | some (.xo (.blk g _ _ cells))=>some (g,cells)
 | _=>none
abbrev objC (st:St) (id:Nat):Option (Nat×List AV):=objH (kaa st.heap) id
def putC (st:St) (id:Nat) (cells:List AV):List (Nat×AObj):=match kaa st.heap id with
 | some (.box e _)=>(id, .box e cells)::st.heap
 | some (.xo (.blk g e sz _))=>(id, .xo (.blk g e sz cells))::st.heap
 | _=>st.heap
def kwx (H:Nat->Option AObj):AV->Option (List AV)
 | .fz (.fp cs)=>some (cs.map .fz)
 | .ref id n off=>match objH H id with
  | some (g,cells)=>bif Nat.beq n g then some (cells.drop off) else none
  | none=>none
 | _=>none
abbrev k0d (st:St):AV->Option (List AV):=kwx (kaa st.heap)
def ksq (H:Nat->Option AObj) (off:Nat) (x:AV):Option AV:=match x with
 | .fz (.fp cs)=>match cs.drop off with
  | []=>none
  | y::ys=>some (.fz (.fp (y::ys)))
 | .ref id n o=>match objH H id with
  | some (g,_)=>bif Nat.beq n g then some (.ref id n (o+off)) else none
  | none=>none
 | _=>none
abbrev ktj (st:St) (off:Nat) (x:AV):Option AV:=ksq (kaa st.heap) off x
def krk:List FV->List AV
 | []=>[]
 | x::l=>x.cells.map .fz++krk l
def rdH (H:Nat->Option AObj) (sz:Nat):AV->Option (Nat×Option Nat×List AV)
 | .fz (.lst size n xs)=>bif Nat.beq size sz && Nat.beq n xs.length then some (n,none,krk xs) else none
 | .lim size n xs=>bif Nat.beq size sz && Nat.beq n xs.length then some (n,some n,krk xs) else none
 | .fz (.atom (.slice none 0 0))=>some (0,some 0,[])
 | .bsl id g off len cap=>match objH H id with
  | some (g',cells)=>bif Nat.beq g g' && Nat.ble (off+len*sz) cells.length then some (len,cap,(cells.drop off).take (len*sz)) else none
  | none=>none
 | _=>none
abbrev rdSl (sz:Nat) (st:St):AV->Option (Nat×Option Nat×List AV):=rdH (kaa st.heap) sz
variable {P:Program} {F S0:Nat->Prop} {N0:Nat} {w w':World} {S S':Nat->Prop} {ψ ψ':Env} {K:Nat->Prop} {T:List (TypeId×TD)} {o:Oper} {a:Act} {st:St} {t:TypeId} {d:TD} {id:Nat}
theorem kel {g:Nat} {cells:List AV} (d:∀ id o,kaa st.heap id=some o->ObR ψ (·∈st.ids) S w id o) (h:objC st id=some (g,cells)):
  ψ.len id=g/\∃ b cs e,kak (ψ.val id)=some b/\w.heap[b]?=some (.cells cs e (0,0))/\cells.length<=cs.size/\(∀ x∈cells,x.single=true)/\∀ (i:Nat) (v:Value) (x:AV),cs[i]?=some v->cells[i]?=some x->RV ψ (·∈st.ids) S w v x:=by
 unfold objC objH at h;split at h;rename_i e cells' ho;simp only [qb,qp] at h;obtain ⟨rfl,rfl⟩:=h;obtain ⟨h0,b,cs,h1,a,j,f,c⟩:=d id _ ho;exact ⟨h0,b,cs,e,by rw [h1];rfl,a,by omega,f,c⟩;rename_i g' e sz cells' ho;simp only [qb,qp] at h;obtain ⟨rfl,rfl⟩:=h;obtain ⟨h0,m,b,cs,n,cap,h1,a,j,f,c,k,l⟩:=d id _ ho;exact ⟨h0,b,cs,e,by rw [h1];rfl,a,c,k,l⟩
 ·cases h
theorem ktz {b k:Nat} {cs:Array Value} {e:TypeId} {u:Value} (h:w.heap[b]?=some (.cells cs e (0,0))) (hu:cs[k]?=some u):w.cell? ⟨b,k,none⟩=some u:=by simp only [World.cell?,h];simpa using hu
theorem kyc {v:Value} {x:AV} {xs:List AV} (hv:RV ψ (·∈st.ids) S w v x) (f:∀ id o,kaa st.heap id=some o->ObR ψ (·∈st.ids) S w id o) (h:k0d st x=some xs):
  ∃ b o,v = .pointer (some ⟨b,o,none⟩)/\k4b ψ (·∈st.ids) S w b o xs:=by
 unfold k0d kwx at h;split at h;rename_i cs;exact krf hv f h
 ·rename_i id n off;split at h
  ·rename_i g cells ho;cases hn:Nat.beq n g with
   | false=>rw [hn] at h;cases h
   | true=>
    rw [hn] at h;simp only [qr,qb] at h;subst h;obtain rfl:=qf hn;obtain ⟨h0,b,cs,e,h1,k,r,l,m⟩:=kel f ho;cases hv with
    | ref hK p q d=>
     obtain ⟨b',a,rfl⟩:=d h0.symm;rw [h1] at a;simp only [qb] at a;subst a;refine ⟨b,off,rfl,(cs.toList.take cells.length).drop off,fun j u hu=>?_,by simp;omega,fun x c=>l x (qbi c),fun i v x hv c=>?_⟩
     ·rw [qae,qv] at hu;split at hu;exact ktz k (by simpa using hu)
      ·cases hu
     ·rw [qae,qv] at hv;rw [qae] at c;split at hv;exact m _ v x (by simpa using hv) c
      ·cases hv
  ·cases h
 ·cases h
theorem kw7 {b off:Nat} {xs:List AV} {c:AV} (n:TdOk P t d) (e:k4b ψ K S w b off xs) (hc:kj6 d xs=some c):∃ u,(loadVar t ⟨b,off,none⟩).run P w = .ok u w/\RV ψ K S w u c:=by
 obtain ⟨cs,h,hl,h1,hr⟩:=e;unfold kj6 at hc;cases hk:d.kind.agg with
 | false=>
  rw [hk] at hc;simp only [qw] at hc;cases xs with
  | nil=>cases hc
  | cons y ys=>
   simp only [List.head?_cons,qb] at hc;subst hc;have k:cs[0]?=some (cs[0]'(by simp at hl;omega)):=qa _;have f:w.cell? ⟨b,off,none⟩=some (cs[0]'(by simp at hl;omega)):=(by simpa using h 0 _ k);exact ⟨cs[0]'(by simp at hl;omega),by simp [loadVar,n.isAgg,hk,f],hr 0 _ y k rfl⟩
 | true=>
  rw [hk] at hc;simp only [qr] at hc;cases g:Nat.ble d.size xs.length with
  | false=>rw [g] at hc;cases hc
  | true=>
   rw [g] at hc;simp only [qr,qb] at hc;subst hc;have o:=qi g;have l:(cs.take d.size).length=d.size:=(by rw [qak];omega);have a:=run_loadCells_list (P:=P) w ⟨b,off,none⟩ (cs.take d.size) fun j v m=>by
    rw [qv] at m;split at m;rw [ka3];exact h j v m
    ·cases m
   rw [l] at a;refine ⟨.agg (cs.take d.size).toArray,by simp [loadVar,n.isAgg,hk,n.size,a],RV.aggA (by simp [hl]) (fun x e=>h1 x (qa6 e)) fun i v x hv e=>?_⟩;simp only [qbu] at hv;rw [qv] at hv e;split at hv;rename_i hi;rw [qt hi] at e;exact hr i v x hv e
   ·cases hv
theorem k9s {x:Operand} {xs:List AV} {c:AV} (ho:o.op = .load t x) (e:TdOk P t d) (f:k0d st (st.eval x)=some xs) (hc:kj6 d xs=some c):NStep P o st c:=by intro ψ S a w ht g;obtain ⟨b,off,hv,hcl⟩:=kyc (Sim.eval_tmps ht x) g f;obtain ⟨u,h1,h⟩:=kw7 (P:=P) e hcl hc;refine kad w u ?_ ⟨kaf _,h.here⟩;simp [execOp,ho,hv,Instr.loadAt,Instr.sureAddr,h1]
theorem ksn {off:Nat} {v:Value} {x c:AV} (hv:RV ψ (·∈st.ids) S w v x) (i:∀ id o,kaa st.heap id=some o->ObR ψ (·∈st.ids) S w id o) (h:ktj st off x=some c):
  ∃ b o,v = .pointer (some ⟨b,o,none⟩)/\RV ψ (·∈st.ids) S w (.pointer (some ⟨b,o+off,none⟩)) c:=by
 unfold ktj ksq at h;split at h;exact kpn (off:=off) hv i h
 ·rename_i id n off';split at h
  ·rename_i g cells ho;cases hn:Nat.beq n g with
   | false=>rw [hn] at h;cases h
   | true=>
    rw [hn] at h;simp only [qr,qb] at h;subst h;obtain rfl:=qf hn;obtain ⟨h0,b,cs,e,h1,_⟩:=kel i ho;cases hv with
    | ref hK a j d=>
     obtain ⟨b',f,rfl⟩:=d h0.symm;exact ⟨b',off',rfl, .ref hK a rfl fun _=>⟨b',f,rfl⟩⟩
  ·cases h
 ·cases h
theorem k7w {s:TypeId} {x:Operand} {f:Nat} {fs:List (TypeId×Nat)} {ft:TypeId} {off:Nat} {df:TD} {c:AV} (ho:o.op = .fieldAddr s x f) (k:TdOk P s d) (hk:d.kind = .st fs) (hf:fs[f]?=some (ft,off)) (h:TdOk P ft df) (l:df.size≠0)
  (hc:ktj st off (st.eval x)=some c):NStep P o st c:=by
 intro ψ S a w ht m;obtain ⟨b,off',hv,hr⟩:=ksn (Sim.eval_tmps ht x) m hc;obtain ⟨gs,hu,i⟩:=k.strct hk;have e:∃ g:Field,gs[f]?=some g/\g.type=ft/\g.offset=off:=by rw [<- i,qg,qs] at hf;obtain ⟨g,e,j⟩:=hf;simp only [qp] at j;exact ⟨g,by simpa using e,j.1,j.2⟩
 obtain ⟨g,e,rfl,rfl⟩:=e;refine kad w _ ?_ ⟨kaf _,hr.here⟩;simp [execOp,ho,hv,Instr.fieldAt,hu,e,Instr.sureAddr,fieldPlace,h.size,l,ka3]
theorem kacl {x:Operand} {c:AV} (ho:o.op = .nilCheck x) (hc:ktj st 0 (st.eval x)=some c):NStep P o st c:=by intro ψ S a w ht d;obtain ⟨b,off',hv,hr⟩:=ksn (Sim.eval_tmps ht x) d hc;refine kad w _ ?_ ⟨kaf _,hr.here⟩;simp [execOp,ho,hv]
theorem kac0 {x y:Operand} {n e:Nat} {de:TD} {k:IntKind} {i:Int} {c:AV} (ho:o.op = .indexAddr t x y) (j:TdOk P t d) (hk:d.kind = .arr n e) (g:TdOk P e de) (hy:st.eval y = .fz (.atom (.int k i))) (h0:0<=i) (hi:i<n)
  (hc:ktj st (i.toNat*de.size) (st.eval x)=some c):NStep P o st c:=by
 intro ψ S a w ht l;obtain ⟨b,off',hv,hr⟩:=ksn (Sim.eval_tmps ht x) l hc;have f:=Sim.eval_tmps ht y;rw [hy] at f;have h:=f.atom;refine kad w _ ?_ ⟨kaf _,hr.here⟩;simp [execOp,ho,hv,h,Instr.indexAt,asIntOf,run_underlying (j.arr hk),Instr.sureAddr,h0,hi,g.size,ka3]
theorem kgg {v:Value} {g off len:Nat} {cap:Option Nat} (h:RV ψ K S w v (.bsl id g off len cap)) (a:ψ.len id=g):K id/\∃ b c,kak (ψ.val id)=some b/\v = .slice (some ⟨b,off,none⟩) len c/\len<=c/\c<=9223372036854775807/\CapR (ψ.val id) off c cap:=by
 cases h with
 | bsl hK hn h1 hv=>exact ⟨hK,hv a.symm⟩
theorem kacm {x y:Operand} {e:TypeId} {de:TD} {k:IntKind} {i:Int} {g off len:Nat} {cap:Option Nat} {cells:List AV} (ho:o.op = .indexAddr t x y) (j:TdOk P t d) (hk:d.kind = .slice e) (f:TdOk P e de) (l:st.eval x = .bsl id g off len cap)
  (h:objC st id=some (g,cells)) (hy:st.eval y = .fz (.atom (.int k i))) (h0:0<=i) (hi:i<len):NStep P o st (.ref id g (off+i.toNat*de.size)):=by
 intro ψ S a w ht m;have h1:=Sim.eval_tmps ht y;rw [hy] at h1;have hv:=Sim.eval_tmps ht x;rw [l] at hv;obtain ⟨n,_⟩:=kel m h;obtain ⟨hK,b,c,p,hu,_⟩:=kgg hv n;refine kad w (.pointer (some ⟨b,off+i.toNat*de.size,none⟩)) ?_ ⟨kaf _, .ref hK (by omega) rfl fun _=>⟨b,p,rfl⟩⟩;simp [execOp,ho,Instr.indexAt,h1.atom,asIntOf,run_underlying (j.slice hk),hu,h0,hi,f.size,ka3]
def k1o (w:World) (n:Nat) (cs:List Value):Option Addr->Prop
 | none=>n=0/\cs=[]
 | some ad=>∀ (j:Nat) (u:Value),cs[j]?=some u->w.cell? (ad.add j)=some u
def CR (ψ:Env) (K S:Nat->Prop) (w:World) (cs:List Value) (xs:List AV):Prop:=
 cs.length=xs.length/\(∀ x∈xs,x.single=true)/\∀ (i:Nat) (v:Value) (x:AV),cs[i]?=some v->xs[i]?=some x->RV ψ K S w v x
theorem CR.nil:CR ψ K S w [] []:=⟨rfl,(fun x h=>by cases h),fun i v x h=>by simp at h⟩
theorem CR.append {cs ds:List Value} {xs ys:List AV} (h:CR ψ K S w cs xs) (k:CR ψ K S w ds ys):CR ψ K S w (cs++ds) (xs++ys):=by
 obtain ⟨h1,b,c⟩:=h;obtain ⟨k1,k2,k3⟩:=k;refine ⟨by simp [h1,k1],fun x a=>(qab.1 a).elim (b x) (k2 x),fun i v x hv a=>?_⟩;by_cases hi:i<cs.length;rw [q9 hi] at hv;rw [q9 (by omega)] at a;exact c i v x hv a
 ·rw [qam (by omega)] at hv a;rw [h1] at hv;exact k3 _ v x hv a
theorem CR.one {cs:List Value} {xs:List AV} (h:CR ψ K S w cs xs):∀ v∈cs,v.oneCell'=true:=fun v hv=>by
 obtain ⟨i,hi,rfl⟩:=qap.1 hv;have a:i<xs.length:=by rw [<- h.1];exact hi
 exact (h.2.2 i _ _ (qa hi) (qa a)).one (h.2.1 _ (qaq a))
theorem CR.sub {cs:List Value} {xs:List AV} (h:CR ψ K S w cs xs) (i n:Nat):CR ψ K S w ((cs.drop i).take n) ((xs.drop i).take n):=by
 refine ⟨by simp [h.1],fun x a=>h.2.1 x (qbi (qa6 a)),fun j v x hv a=>?_⟩;rw [qv] at hv a;split at hv;rename_i b;rw [qt b] at a;rw [qae] at hv a;exact h.2.2 _ v x hv a
 ·cases hv
theorem CR.cells {v:Value} {x:AV} (h:RV ψ K S w v x) (h1:x.cells.all AV.single=true):CR ψ K S w v.cells.toList x.cells:=by have hs:∀ y∈x.cells,y.single=true:=qk.1 h1;obtain ⟨e1,e2,e3⟩:=RV.cells h hs;exact ⟨by simpa using e1,hs,fun i v x hv a=>e2 i v x (by simpa using hv) a⟩
theorem k0q {b size:Nat}:∀ (xs:List FV) (o:Nat),(∀ (i:Nat) (x:FV),xs[i]?=some x->∃ cs,At w b (o+i*size) cs/\cs.length=size/\x.cells.length=size/\(∀ y∈x.cells,y.single=true)/\∀ (j:Nat) (v:Value) (y:FV),cs[j]?=some v->x.cells[j]?=some y->RF S w v y) ->
  ∃ cs,At w b o cs/\CR ψ K S w cs (krk xs)/\cs.length=xs.length*size
 | [],o,_=>⟨[],fun j u h=>by simp at h,CR.nil,by simp⟩
 | x::xs,o,h=>by
  obtain ⟨cs,h1,a,d,e,f⟩:=h 0 x rfl;obtain ⟨ds,k1,k2,k3⟩:=k0q xs (o+size) fun i y hy=>by
   have:=h (i+1) y (by simpa using hy)
   rwa [show o+(i+1)*size=o+size+i*size by rw [qbd];omega] at this
  refine ⟨cs++ds,fun j u hu=>?_,CR.append ⟨by simp [a,d],fun y hy=>?_,fun j v y hv hy=>?_⟩ k2,by simp [a,k3,qbd];omega⟩
  ·by_cases g:j<size;rw [q9 (by omega)] at hu;have:=h1 j u hu;simpa using this
   ·rw [qam (by omega),a] at hu;have:=k1 _ u hu
    rwa [show o+size+(j - size)=o+j by omega] at this
  obtain ⟨z,c,rfl⟩:=qx.1 hy;exact e z c
  ·rw [qg,qs] at hy;obtain ⟨z,c,rfl⟩:=hy;exact .fz (f j v z hv c)
theorem k3r {A:Option Addr} {size n cap:Nat} {xs:List FV} (h:RF S w (.slice A n cap) (.lst size n xs)):n=xs.length/\n<=cap/\cap<=9223372036854775807/\∃ cs,CR ψ K S w cs (krk xs)/\(krk xs).length=n*size/\k1o w n cs A:=by
 obtain ⟨A0,cap0,css,hv,hn,hc,hm,hs,ha,hl,hr⟩:=h.lst_inv;injection hv with e1 _ e3;subst e1 e3 hn;refine ⟨rfl,hc,hm,?_⟩;cases xs with
 | nil=>
  refine ⟨[],CR.nil,by simp [krk],?_⟩;cases A with
  | none=>exact ⟨rfl,rfl⟩
  | some ad=>exact fun j u h=>by simp at h
 | cons x xs=>
  obtain ⟨b,o,rfl,_,_⟩:=ha 0 x rfl;obtain ⟨cs,h1,c,d⟩:=k0q (ψ:=ψ) (K:=K) (S:=S) (w:=w) (b:=b) (size:=size) (x::xs) o fun i y hy=>by obtain ⟨b',o',hA,_,a⟩:=ha i y hy;injection hA with hA;injection hA with e1 e2;subst e1 e2;obtain ⟨l1,l2,l3⟩:=hl i y hy;exact ⟨css i,a,l1,l2,l3,fun j v z hv e=>hr i y j v z hy hv e⟩
  exact ⟨cs,c,by rw [<- c.1,d],fun j u hu=>by rw [ka3];exact h1 j u hu⟩
theorem knw {sz n:Nat} {c:Option Nat} {v:Value} {x:AV} {ys:List AV} (hv:RV ψ (·∈st.ids) S w v x) (t:∀ id o,kaa st.heap id=some o->ObR ψ (·∈st.ids) S w id o) (h:rdSl sz st x=some (n,c,ys)):
  ∃ A cap,v = .slice A n cap/\n<=cap/\cap<=9223372036854775807/\(∀ k,c=some k->cap=k)/\∃ cs,CR ψ (·∈st.ids) S w cs ys/\ys.length=n*sz/\k1o w n cs A:=by
 unfold rdSl rdH at h;split at h
 ·rename_i size m xs;cases a:(Nat.beq size sz && Nat.beq m xs.length) with
  | false=>rw [a] at h;cases h
  | true=>
   rw [a] at h;simp only [qr,qb,qp] at h;obtain ⟨rfl,rfl,rfl⟩:=h;simp only [qo] at a;obtain rfl:=qf a.1;have hv:=hv.inv;obtain ⟨A,cap,css,rfl,_⟩:=hv.lst_inv;obtain ⟨_,l,p,q⟩:=k3r (ψ:=ψ) (K:=(·∈st.ids)) hv;exact ⟨A,cap,rfl,l,p,(fun k hk=>by cases hk),q⟩
 ·rename_i size m xs;cases a:(Nat.beq size sz && Nat.beq m xs.length) with
  | false=>rw [a] at h;cases h
  | true=>
   rw [a] at h;simp only [qr,qb,qp] at h;obtain ⟨rfl,rfl,rfl⟩:=h;simp only [qo] at a;obtain rfl:=qf a.1;cases hv with
   | lim hv=>
    obtain ⟨_,l,p,q⟩:=k3r (ψ:=ψ) (K:=(·∈st.ids)) hv;exact ⟨_,_,rfl,l,p,(fun k hk=>by injection hk),q⟩
 simp only [qb,qp] at h;obtain ⟨rfl,rfl,rfl⟩:=h;rw [hv.atom];exact ⟨none,0,rfl,qu _,by omega,(fun k hk=>by injection hk),[],CR.nil,by simp,rfl,rfl⟩
 ·rename_i id g off len cap;split at h
  ·rename_i g' cells ho;cases a:(Nat.beq g g' && Nat.ble (off+len*sz) cells.length) with
   | false=>rw [a] at h;cases h
   | true=>
    rw [a] at h;simp only [qr,qb,qp] at h;obtain ⟨rfl,rfl,rfl⟩:=h;simp only [qo] at a;obtain rfl:=qf a.1;have y:=qi a.2;obtain ⟨z,b,cs,e,q1,q2,q3,q4,q5⟩:=kel t ho;obtain ⟨hK,b',c',f,rfl,r,hm,d⟩:=kgg hv z;rw [q1] at f;simp only [qb] at f;subst f;have s:CR ψ (·∈st.ids) S w (cs.toList.take cells.length) cells:=⟨by simp;omega,q4,fun i v x hv B=>by
     rw [qv] at hv;split at hv;exact q5 i v x (by simpa using hv) B
     ·cases hv⟩
    refine ⟨some ⟨b,off,none⟩,c',rfl,r,hm,(fun k hk=>by rw [hk] at d;exact d),_,s.sub off (len*sz),by simp;omega,fun j u hu=>?_⟩;rw [ka3];rw [qv] at hu;split at hu
    ·rw [qae,qv] at hu;split at hu;exact ktz q2 (by simpa using hu)
     ·cases hu
    ·cases hu
  ·cases h
 ·cases h
theorem kvg:ψ.set id (ψ.len id) (ψ.val id)=ψ:=by
 unfold Env.set;congr 1
 ·funext i;split;rename_i h;rw [h]
  ·rfl
 ·funext i;split;rename_i h;rw [h]
  ·rfl
theorem setC {g b:Nat} {cells:List AV} (cells':List AV) {cs new:Array Value} {e:TypeId} (a:Core F S0 N0 st.heap st.ids ψ S w) (h:objC st id=some (g,cells)) (c:kak (ψ.val id)=some b) (d:w.heap[b]?=some (.cells cs e (0,0))) (q:new.size=cs.size) (hl:cells'.length=cells.length) (h1:∀ x∈cells',x.single=true) (hr:∀ (i:Nat) (v:Value) (x:AV),new[i]?=some v->cells'[i]?=some x->RV ψ (·∈st.ids) S w v x):
  Core F S0 N0 (putC st id cells') st.ids ψ S (w.setRow b new)/\Fr F w (w.setRow b new)/\Same S w (w.setRow b new):=by
 have p:(w.setRow b new).heap.size=w.heap.size:=by simp [World.setRow]
 have f:∀ k,k<w.heap.size->¬ Blk (ψ.val id) k->(w.setRow b new).heap[k]?=w.heap[k]?:=fun k _ hk=>kfv b new k fun e=>hk (.of (by rw [c,e]));have key:∀ ob ob',kaa st.heap id=some ob->(∀ hk:Same S w (w.setRow b new),ObR ψ (·∈st.ids) S (w.setRow b new) id ob')->Core F S0 N0 ((id,ob')::st.heap) st.ids ψ S (w.setRow b new)/\Fr F w (w.setRow b new)/\Same S w (w.setRow b new):=fun ob ob' ho j=>by obtain ⟨r,_,l⟩:=a.obj id _ ho;have hk:Same S w (w.setRow b new):=fun k hk hl=>f k hl fun e=>(l k e).1 hk;obtain ⟨c1,c2,c3⟩:=a.upd (n:=ψ.len id) (v:=ψ.val id) (w':=w.setRow b new) (ob':=ob') ho (by omega) f (.inr ⟨rfl,rfl⟩) (fun b c => .inl c) (by rw [kvg];exact j hk);rw [kvg] at c1;exact ⟨c1,⟨rfl,rfl,rfl,by omega,c3,fun _=>qu _⟩,c2⟩
 have j:=fun id o ho=>(a.obj id o ho).2.1;unfold objC objH at h;unfold putC;split at h;rename_i e' cells0 ho;simp only [qb,qp] at h;obtain ⟨rfl,rfl⟩:=h;obtain ⟨q0,b',cs',q1,q2,q3,q4,q5⟩:=j id _ ho;rw [q1] at c;simp only [kak,qb] at c;subst c;rw [d] at q2;injection q2 with q2;injection q2 with e1 e2;subst e1 e2;exact key _ _ ho fun hk=>⟨q0,b',new,q1,kf1 b' d,by omega,h1,fun i v x hv m=>(hr i v x hv m).keep Ext.refl (fun _ h=>h) (fun _ h=>h) hk⟩;rename_i g' e' sz cells0 ho;simp only [qb,qp] at h;obtain ⟨rfl,rfl⟩:=h;obtain ⟨q0,qz,b',cs',n,cap,q1,q2,q3,q4,q5,q6,q7⟩:=j id _ ho;rw [q1] at c;simp only [kak,qb] at c;subst c;rw [d] at q2;injection q2 with q2;injection q2 with e1 e2;subst e1 e2;exact key _ _ ho fun hk=>⟨q0,qz,b',new,n,cap,q1,kf1 b' d,by omega,q4,by omega,h1,fun i v x hv m=>(hr i v x hv m).keep Ext.refl (fun _ h=>h) (fun _ h=>h) hk⟩
 ·cases h
theorem kxu {g off:Nat} {cells ys:List AV} {vs:List Value} (c:Core F S0 N0 st.heap st.ids ψ S w) (h:objC st id=some (g,cells)) (j:off+ys.length<=cells.length) (hr:CR ψ (·∈st.ids) S w vs ys):
  ∃ b w1,kak (ψ.val id)=some b/\(storeCells ⟨b,off,none⟩ vs).run P w = .ok () w1/\Core F S0 N0 (putC st id (kbm cells off ys)) st.ids ψ S w1/\Fr F w w1/\Same S w w1:=by
 obtain ⟨m,b,cs,e,q1,q2,q3,q4,q5⟩:=kel (fun id o ho=>(c.obj id o ho).2.1) h;have hst:=run_storeCells_at (P:=P) b off e vs 0 cs w q2 (by rw [hr.1];omega) hr.one;simp only [Nat.add_zero] at hst;obtain ⟨new,d⟩:∃ new:Array Value,new=(cs.toList.take off++vs++cs.toList.drop (off+vs.length)).toArray:=⟨_,rfl⟩;rw [<- d] at hst;have k:new.toList=kbm cs.toList off vs:=by rw [d];simp [kbm,qa0]
 have f:off+vs.length<=cs.toList.length:=by simp [hr.1];omega
 have l:new.size=cs.size:=by rw [<- qav,k,kgn _ _ _ f];simp
 obtain ⟨c1,c2,c3⟩:=setC (kbm cells off ys) c h q1 q2 l (kgn _ _ _ j) (fun z a=>by
   unfold kbm at a;simp only [qab] at a;rcases a with a | a | a;exact q4 z (qa6 a);exact hr.2.1 z a
   ·exact q4 z (qbi a)) fun i v z hv a=>by
  rw [<- qal,k,kjm _ _ _ f] at hv;rw [kjm _ _ _ j] at a;rw [hr.1] at hv;split at hv;rename_i hi;rw [qt hi] at a;exact hr.2.2 _ v z hv a
  ·rename_i hi;rw [qq hi] at a;exact q5 _ v z (by simpa using hv) a
 exact ⟨b,w.setRow b new,q1,hst,c1,c2,c3⟩
theorem k7y {x y:Operand} {g off:Nat} {cells ys:List AV} (ho:o.op = .store t x y) (m:TdOk P t d) (n:st.eval x = .ref id g off) (i:objC st id=some (g,cells)) (hy:(st.eval y).cells=ys) (hl:ys.length=d.size) (h1:ys.all AV.single=true)
  (k:off+ys.length<=cells.length):StepA P o st .any (putC st id (kbm cells off ys)) st.ids:=by
 subst hy;intro F S0 N0 ψ S a w e;have c:=e.core;have j:=CR.cells (e.eval y) h1;obtain ⟨b,w1,q1,q2,q3,q4,q5⟩:=kxu (P:=P) c i k j;obtain ⟨p,_⟩:=kel (fun id o ho=>(c.obj id o ho).2.1) i;have hv:=e.eval x;rw [n] at hv;have l:a.eval x = .pointer (some ⟨b,off,none⟩):=by
  generalize a.eval x=u at hv;cases hv with
  | ref hK hn h1 hv=>
   obtain ⟨b',f,rfl⟩:=hv p.symm;rw [q1] at f;simp only [qb] at f;rw [f]
 refine ke0 w1 ?_ ⟨ψ,S,q3, .any,q4,Ext.refl,fun _ h=>h,fun _ h=>h,q5⟩;have hcl:(a.eval y).cells.size=d.size:=by have:=j.1;simp at this;omega
 simp only [execOp,ho,Instr.storeAt,l,Instr.sureAddr,storeVar,m.size,Sem.run_bind,Sem.run_pure,Result.andThen_ok];rw [qq (by rw [hcl];simp)];simp only [q2];rfl
def srcH (T:List (TypeId×TD)) (H:Nat->Option AObj) (sz:Nat) (tx:TypeId) (y:AV):Option (Nat×List AV):=match kac T tx with
 | some d=>match d.kind,y with
  | .slice _,y=>match rdH H sz y with
   | some (n,_,ys)=>some (n,ys)
   | none=>none
  | .str, .fz (.atom (.string s))=>bif Nat.beq sz 1 then some (s.size,(byteCells s).map fun v => .fz (.atom v)) else none
  | _,_=>none
 | none=>none
abbrev srcE (T:List (TypeId×TD)) (sz:Nat) (st:St) (tx:TypeId) (y:AV):Option (Nat×List AV):=srcH T (kaa st.heap) sz tx y
variable {tx:TypeId}
theorem kty (g:TOk P T) {sz n:Nat} {v:Value} {y:AV} {ys:List AV} (hv:RV ψ (·∈st.ids) S w v y) (l:∀ id o,kaa st.heap id=some o->ObR ψ (·∈st.ids) S w id o) (h:srcE T sz st tx y=some (n,ys)):
  ∃ news,Src P sz tx v n news w/\CR ψ (·∈st.ids) S w news ys:=by
 unfold srcE srcH at h;split at h
 ·rename_i d j;split at h
  ·rename_i e hk;split at h
   ·rename_i m c zs hr;simp only [qb,qp] at h;obtain ⟨rfl,rfl⟩:=h;obtain ⟨A,cap,rfl,h1,q,_,cs,a,p,k⟩:=knw hv l hr;have hu:=(g.get j).slice hk;cases A with
    | none=>
     obtain ⟨rfl,rfl⟩:=k;exact ⟨[],Src.ofNil w hu cap,a⟩
    | some ad=>exact ⟨cs,Src.ofSlice w hu ad _ cap cs (by rw [a.1,p]) k a.one,a⟩
   ·cases h
  ·rename_i s hk;cases f:Nat.beq sz 1 with
   | false=>rw [f] at h;cases h
   | true=>
    rw [f] at h;simp only [qr,qb,qp] at h;obtain ⟨rfl,rfl⟩:=h;obtain rfl:=qf f;rw [hv.atom];refine ⟨byteCells s,Src.ofString w ((g.get j).str hk) s,by simp,fun x b=>?_,fun i v x hv b=>?_⟩;obtain ⟨u,hu,rfl⟩:=qx.1 b;unfold byteCells at hu;obtain ⟨c,_,rfl⟩:=qx.1 hu;rfl
    ·rw [qg,qs] at b;obtain ⟨u,hu,rfl⟩:=b;rw [hv] at hu;injection hu with hu;subst hu;have:=ql hv;unfold byteCells at this;obtain ⟨c,_,rfl⟩:=qx.1 this;exact .fz (.atom rfl)
  ·cases h
 ·cases h
theorem kus {t ty e:TypeId} {i:TypeInfo} (ht:P.underlying t=some (.slice e)) (hi:P.info? e=some i) {b off sLen:Nat} (sCap:Nat) {x:Value} {n:Nat} {news:List Value} (hs:Src P i.size tx x n news w) (a:sLen+n<=sCap) {w1:World} (hst:(storeCells ⟨b,off+sLen*i.size,none⟩ news).run P w = .ok () w1):
  (Builtin.append_ #[t,tx] ty #[.slice (some ⟨b,off,none⟩) sLen sCap,x]).run P w = .ok (.slice (some ⟨b,off,none⟩) (sLen+n) sCap) w1:=by
 rcases hs.kind with ⟨e',hk⟩ | hk <;> simp [Builtin.append_,run_underlying ht,run_underlying hk,sizeOf,typeInfo,hi,hs.len,a,hs.cells,ka3,hst]
theorem kuz {t:TypeId} (ty:TypeId) {e:TypeId} {de:TD} (ht:P.underlying t=some (.slice e)) (k:TdOk P e de) (l:de.zero.length=de.size) {A:Option Addr} {m:Nat} (cap:Nat) {n:Nat} {olds news:List Value} {xs ys:List AV} {x:Value} (hc:CR ψ K S w olds xs) (hl:xs.length=m*de.size) (hA:k1o w m olds A) (hs:Src P de.size tx x n news w) (hy:CR ψ K S w news ys) (C:cap<m+n) (D:(m+n)*(de.bytes+1)<=140737488355328):
  ∃ gc cur,(Builtin.append_ #[t,tx] ty #[.slice A m cap,x]).run P w = .ok (.slice (some ⟨w.heap.size,0,none⟩) (m+n) gc) (w.drew.alloc (.cells cur e))/\cur.size=gc*de.size/\m+n<=gc/\gc<=9223372036854775807/\(xs++ys).length=(m+n)*de.size /\
   (∀ x∈xs++ys,x.single=true)/\∀ (i:Nat) (v:Value) (x:AV),cur[i]?=some v->(xs++ys)[i]?=some x->RV ψ K S w v x:=by
 obtain ⟨⟨i,z,hi,c,d,o,p⟩,_⟩:=k;have q:z.cells.size=i.size:=by rw [<- qav,p,l,c]
 rw [<- c] at hs hl ⊢;rw [Nat.mul_add,qa1] at D;have f:(Builtin.firstCells i.size m (.slice A m cap)).run P w.drew = .ok olds.toArray w.drew:=by
  cases A with
  | none=>
   obtain ⟨rfl,rfl⟩:=hA;exact run_firstCells_none w.drew i.size 0 0 cap
  | some ad=>exact run_firstCells_some w.drew i.size m ad m cap olds (by rw [hc.1,hl]) fun j v r=>by simpa using hA j v r
 have s:=nextslicecap_le C;have g:Builtin.nextslicecap (m+n) cap*i.bytes<=281474976710656:=by have:=qbg i.bytes s;rw [Nat.mul_assoc,d] at this;rw [d];omega
 have h:=run_append_grow_src (P:=P) w t tx ty e i z ht hi o A m cap olds f x n news hs C (by omega) g;have u:=grownCap_ge w (m+n) cap e;have B:=grownCap_le_maxLen w (m+n) cap e (by unfold maxLen;omega);have a:=hc.append hy;have b:(xs++ys).length=(m+n)*i.size:=by rw [qaf,hl,<- hy.1,hs.newsLen,qbd]
 refine ⟨grownCap w (m+n) cap e,_,h,?_,u,by unfold maxLen at B;omega,b,a.2.1,fun j v y hv hy=>?_⟩;simp only [Array.size_append,List.size_toArray,size_zeroCells,q];rw [a.1,b,<- qbd];congr 1;omega
 ·have r:j<(olds++news).length:=by rw [a.1];exact (qd.1 hy).1
  rw [qa4 (by simpa using r)] at hv;exact a.2.2 j v y (by simpa using hv) hy
theorem kro {x y:Operand} {ts:Array TypeId} {v:Value} {w1:World} (ho:o.op = .call { callee := .builtin .append,args:=#[x,y],argTypes:=ts }) (h:(Builtin.append_ ts o.type #[a.eval x,a.eval y]).run P w = .ok v w1):(execOp a.eval o).run P w = .ok (.value v) w1:=by simp only [execOp,ho,resolve,invoke,builtin,Sem.run_bind,Sem.run_pure,Result.andThen_ok,List.map_toArray,qao,List.map_nil,h]
theorem grow_grow {cur:Array Value} {e:TypeId}:Grow w (w.drew.alloc (.cells cur e)):=Below.step (kyd w) (kap _ _)
theorem k6g {x y:Operand} {e:TypeId} {de:TD} {m n k:Nat} {xs ys:List AV} (ho:o.op = .call { callee := .builtin .append,args:=#[x,y],argTypes:=#[t,tx] }) (q:TOk P T) (G:kac T t=some d) (hk:d.kind = .slice e) (r:kac T e=some de) (s:0<de.size) (u:de.zero.length=de.size)
  (H:rdSl de.size st (st.eval x)=some (m,some k,xs)) (hy:srcE T de.size st tx (st.eval y)=some (n,ys)) (I:k<m+n) (B:(m+n)*(de.bytes+1)<=140737488355328) (f:st.ids.contains id=false):
  StepA P o st (.bsl id 0 0 (m+n) none) ((id, .xo (.blk 0 e de.size (xs++ys)))::st.heap) (id::st.ids):=by
 have f:id∉st.ids:=by simpa using f
 intro F S0 N0 ψ S a w g;have c:=g.core;have E:=fun id o ho=>(c.obj id o ho).2.1;obtain ⟨A,cap,C,_,_,j,cs,J,K,L⟩:=knw (g.eval x) E H;obtain rfl:=j k rfl;obtain ⟨news,l,D⟩:=kty q (g.eval y) E hy;obtain ⟨gc,cur,p,g1,g2,g3,g4,g5,g6⟩:=kuz o.type ((q.get G).slice hk) (q.get r) u _ J K L l D I B;refine kad _ _ (kro ho (by rw [C];exact p)) ⟨ψ.set id 0 (.slice (some ⟨w.heap.size,0,none⟩) (m+n) gc),S,?_,?_,Fr.of_grow c.fr grow_grow,kay f _ _,fun _ h=>qe _ h,fun _ h=>h,Same.of_grow grow_grow⟩;have M:(m+n)*de.size<=gc*de.size:=qbg _ g2;refine c.add grow_grow f (fun b B=>by simp [kak] at B;omega) ⟨ka2 _ _,s,w.heap.size,cur,m+n,gc,kaj _ _,by simpa using heap_alloc_new w.drew (.cells cur e),g1,g3,by omega,g5,fun i v z hv s=>(g6 i v z hv s).keep (kay f _ _) (fun _ h=>qe _ h) (fun _ h=>h) (Same.of_grow grow_grow)⟩
 ·exact .bsl (qn ..) (qas _) rfl fun _=>⟨w.heap.size,gc,by rw [kaj];rfl,rfl,g2,g3,rfl,by rw [kaj];rfl⟩
theorem k5u {x y:Operand} {e:TypeId} {de:TD} {g off m n k:Nat} {cells ys:List AV} (ho:o.op = .call { callee := .builtin .append,args:=#[x,y],argTypes:=#[t,tx] }) (s:TOk P T) (G:kac T t=some d) (hk:d.kind = .slice e) (u:kac T e=some de)
  (H:st.eval x = .bsl id g off m (some k)) (q:objC st id=some (g,cells)) (hy:srcE T de.size st tx (st.eval y)=some (n,ys)) (hr:m+n<=k) (v:off+m*de.size+ys.length<=cells.length):
  StepA P o st (.bsl id g off (m+n) (some k)) (putC st id (kbm cells (off+m*de.size) ys)) st.ids:=by
 intro F S0 N0 ψ S a w p;have f:=p.core;have D:=fun id o ho=>(f.obj id o ho).2.1;obtain ⟨I,_⟩:=kel D q;have hv:=p.eval x;rw [H] at hv;obtain ⟨hK,b,c,E,A,J,r,j⟩:=kgg hv I;simp only [CapR] at j;subst j;obtain ⟨news,l,B⟩:=kty s (p.eval y) D hy;obtain ⟨b',w1,q1,q2,q3,q4,q5⟩:=kxu (P:=P) f q v B;rw [E] at q1;simp only [qb] at q1;subst q1;obtain ⟨⟨i,z,hi,C,K,L,M⟩,_⟩:=s.get u;rw [<- C] at l q2;refine kad _ _ (kro ho (by rw [A];exact kus ((s.get G).slice hk) hi _ l hr q2)) ⟨ψ,S,q3,?_,q4,Ext.refl,fun _ h=>h,fun _ h=>h,q5⟩;exact .bsl hK (by omega) rfl fun _=>⟨b,c,E,rfl,hr,r,rfl⟩
theorem kabk {x y:Operand} {e:TypeId} {de:TD} {g m n:Nat} {cells ys:List AV} (ho:o.op = .call { callee := .builtin .append,args:=#[x,y],argTypes:=#[t,tx] }) (M:TOk P T) (hd:kac T t=some d) (hk:d.kind = .slice e) (N:kac T e=some de) (ab:de.zero.length=de.size)
  (hx:st.eval x = .bsl id g 0 m none) (O:kaa st.heap id=some (.xo (.blk g e de.size cells))) (hl:cells.length=m*de.size) (hy:srcE T de.size st tx (st.eval y)=some (n,ys)) (hb:(m+n)*(de.bytes+1)<=140737488355328):
  StepA P o st (.bsl id (g+1) 0 (m+n) none) ((id, .xo (.blk (g+1) e de.size (cells++ys)))::st.heap) st.ids:=by
 intro F S0 N0 ψ S a w I;have l:=I.core;have hO:=fun id o ho=>(l.obj id o ho).2.1;obtain ⟨ac,⟨hg,D,b,cs,n0,cap,h1,h2,h3,h4,h5,h6,h7⟩,ad⟩:=l.obj id _ O;have hv:=I.eval x;rw [hx] at hv;obtain ⟨hK,b',c,J,Q,ae,R,E⟩:=kgg hv hg;rw [h1] at J E;simp only [kak,qb] at J;subst J;have af:c=cap:=E.2;rw [af] at Q ae R;obtain ⟨news,q,r⟩:=kty M (I.eval y) hO hy;have U:CR ψ (·∈st.ids) S w (cs.toList.take cells.length) cells:=⟨by simp;omega,h6,fun i v x hv hx=>by
  rw [qv] at hv;split at hv;exact h7 i v x (by simpa using hv) hx
  ·cases hv⟩
 have fin:∀ (v':Value) (w1:World) (b1 gc:Nat) (new:Array Value),(Builtin.append_ #[t,tx] o.type #[.slice (some ⟨b,0,none⟩) m cap,a.eval y]).run P w = .ok v' w1->v' = .slice (some ⟨b1,0,none⟩) (m+n) gc->w1.heap[b1]?=some (.cells new e (0,0))->new.size=gc*de.size->m+n<=gc->gc<=9223372036854775807 ->
   (cells++ys).length<=new.size->(∀ (i:Nat) (v:Value) (x:AV),new[i]?=some v->(cells++ys)[i]?=some x->RV ψ (·∈st.ids) S w v x)->w.heap.size<=w1.heap.size->(∀ k,k<w.heap.size->k≠b->w1.heap[k]?=w.heap[k]?)->(b1=b\/w.heap.size<=b1)->w1.os=w.os/\w1.tape=w.tape/\w1.output=w.output ->
   kbx P o a w fun v w'=>∃ ψ' S',Core F S0 N0 ((id, .xo (.blk (g+1) e de.size (cells++ys)))::st.heap) st.ids ψ' S' w'/\RV ψ' (·∈st.ids) S' w' v (.bsl id (g+1) 0 (m+n) none)/\Fr F w w'/\Ext (·∈st.ids) ψ ψ'/\(∀ id,id∈st.ids->id∈st.ids)/\(∀ b,S b->S' b)/\Same S w w':=by
  intro v' w1 b1 gc new f K hh ag V X Y hr s Z ah hw;have B:∀ k,k<w.heap.size->¬ Blk (ψ.val id) k->w1.heap[k]?=w.heap[k]?:=fun k hk ai=>Z k hk fun e=>ai (.of (by rw [h1,e];rfl));have L:Same S w w1:=fun k hk hl=>B k hl fun e=>(ad k e).1 hk;have G:Ext (·∈st.ids) ψ (ψ.set id (g+1) v'):=knz (.inl (by omega));obtain ⟨c1,c2,c3⟩:=l.upd (n:=g+1) (v:=v') (w':=w1) (ob' := .xo (.blk (g+1) e de.size (cells++ys))) O s B (.inl (by omega)) (fun k hk=>by
    rw [K] at hk;have hk:=hk.sl;simp only [kak,qb] at hk;subst hk;rcases ah with rfl | h;exact .inl (.of (by rw [h1];rfl))
    ·exact .inr h)
   ⟨ka2 _ _,D,b1,new,m+n,gc,by rw [kaj,K],hh,ag,X,Y,fun z D=>(qab.1 D).elim (h6 z) (r.2.1 z),fun i v z hv D=>(hr i v z hv D).keep G (fun _ h=>h) (fun _ h=>h) L⟩
  refine kad _ _ (kro ho (by rw [Q];exact f)) ⟨_,S,c1,?_,⟨hw.1,hw.2.1,hw.2.2,s,c3,no0⟩,G,fun _ h=>h,fun _ h=>h,c2⟩;subst K;exact .bsl ac (by rw [ka2];exact qu _) rfl fun _=>⟨b1,gc,by rw [kaj];rfl,rfl,V,X,rfl,by rw [kaj];rfl⟩
 by_cases p:m+n<=cap
 ·obtain ⟨⟨i,z,hi,H,aj,ak,al⟩,_⟩:=M.get N;have aa:0+m*de.size+news.length<=cs.size:=by rw [q.newsLen,h3,Nat.zero_add,<- qbd];exact qbg _ p
  have hst:=run_storeCells_at (P:=P) b (0+m*de.size) e news 0 cs w h2 (by simpa using aa) r.one;simp only [Nat.add_zero] at hst;have f:=kus (ty:=o.type) ((M.get hd).slice hk) hi cap (by rw [H];exact q) p (by rw [H];exact hst);have C:cells.length=0+m*de.size:=by omega
  refine fin _ _ b cap _ f rfl (kf1 b h2) ?_ p h4 ?_ (fun j v z hv D=>?_) (by simp [World.setRow]) (fun k _ hk=>kfv b _ k hk) (.inl rfl) ⟨rfl,rfl,rfl⟩;simp;omega;simp [<- r.1];omega
  ·have hc2:=U.append r;rw [C] at hc2;refine hc2.2.2 j v z ?_ D;have hj:j<(List.take (0+m*de.size) cs.toList++news).length:=(by rw [hc2.1];exact (qd.1 D).1);simp only [qbu] at hv;rw [q9 hj] at hv;exact hv
 ·obtain ⟨gc,cur,f,g1,g2,g3,g4,g5,g6⟩:=kuz (m:=m) (A:=some ⟨b,0,none⟩) o.type ((M.get hd).slice hk) (M.get N) ab cap U hl (fun j u hu=>by
   rw [ka3];rw [qv] at hu;split at hu;exact ktz h2 (by simpa using hu)
   ·cases hu) q r (by omega) hb
  have V:(m+n)*de.size<=gc*de.size:=qbg _ g2;exact fin _ _ w.heap.size gc cur f rfl (by simpa using heap_alloc_new w.drew (.cells cur e)) g1 g2 g3 (by omega) g6 grow_grow.size (fun k hk _=>grow_grow.block k hk) (.inr (qu _)) ⟨rfl,rfl,rfl⟩
theorem kac5 {x y:Operand} {e:TypeId} {de:TD} {m:Nat} {c:Option Nat} {xs ys:List AV} (ho:o.op = .call { callee := .builtin .append,args:=#[x,y],argTypes:=#[t,tx] }) (k:TOk P T) (r:kac T t=some d) (hk:d.kind = .slice e) (l:kac T e=some de)
  (s:rdSl de.size st (st.eval x)=some (m,c,xs)) (hy:srcE T de.size st tx (st.eval y)=some (0,ys)):NStep P o st (st.eval x):=by
 intro ψ S a w ht q;obtain ⟨A,cap,f,n,_⟩:=knw (Sim.eval_tmps ht x) q s;obtain ⟨news,b,u⟩:=kty k (Sim.eval_tmps ht y) q hy;obtain rfl:news=[]:=qa2 (by rw [b.newsLen,Nat.zero_mul]);obtain ⟨⟨i,z,hi,p,v,B,C⟩,_⟩:=k.get l;rw [<- p] at b;have g:=Sim.eval_tmps ht x;rw [f] at g;have hu:=(k.get r).slice hk;have h:(Builtin.append_ #[t,tx] o.type #[.slice A m cap,a.eval y]).run P w = .ok (.slice A m cap) w:=by rcases b.kind with ⟨e',j⟩ | j <;> cases A <;> simp [Builtin.append_,run_underlying hu,run_underlying j,sizeOf,typeInfo,hi,b.len,n,b.cells,storeCells]
 exact kad _ _ (kro ho (by rw [f];exact h)) ⟨kaf _,g.here⟩
def kqk (size:Nat):Nat->List (Nat×AV)->Option (List AV)
 | _,[]=>some []
 | i,(j,x)::l=>bif Nat.beq j i && (Nat.beq x.cells.length size && x.cells.all AV.single) then (match kqk size (i+1) l with
  | some ys=>some (x.cells++ys)
  | none=>none) else none
def kc9 (E:Operand->AV) (d:Nat):Option Operand->Option Nat
 | none=>some d
 | some y=>match E y with
  | .fz (.atom (.int _ n))=>bif decide (0<=n) then some n.toNat else none
  | _=>none
abbrev kcn (st:St) (d:Nat):Option Operand->Option Nat:=kc9 st.eval d
def kqq:List AV->Option (List Int)
 | []=>some []
 | .fz (.atom (.int .u8 n))::l=>match kqq l with
  | some r=>some (n::r)
  | none=>none
 | _=>none
def lstX:AV->Option (Nat×Nat×List FV)
 | .fz (.lst s n xs)=>some (s,n,xs)
 | .lim s n xs=>some (s,n,xs)
 | _=>none
theorem e_mkE {X Y:Operand} {e:TypeId} {de:TD} {k k':IntKind} {zv:Value} {n c:Int} (ho:o.op = .makeSlice t X Y) (J:TOk P T) (z:kac T t=some d) (hk:d.kind = .slice e) (m:kac T e=some de)
  (A:de.size=1) (B:de.zero=[zv]) (r:zv.oneCell'=true) (q:st.eval X = .fz (.atom (.int k n))) (hy:st.eval Y = .fz (.atom (.int k' c))) (h0:0<=n) (C:n<=c) (D:(de.bytes:Int)*c<=281474976710656) (E:c<=9223372036854775807) (g:st.ids.contains id=false):
  StepA P o st (.bsl id 0 0 n.toNat (some c.toNat)) ((id, .xo (.blk 0 e 1 (List.replicate c.toNat (.fz (.atom zv)))))::st.heap) (id::st.ids):=by
 have g:id∉st.ids:=by simpa using g
 have z:=J.get z;have m:=J.get m;intro F S0 N0 ψ S a w p;have j:=p.eval X;rw [q] at j;have j:=j.atom;have l:=p.eval Y;rw [hy] at l;have l:=l.atom;obtain ⟨⟨i,z',hi,G,H,K,I⟩,_⟩:=m;have f:=p.core;have hcl:z'.cells=#[zv]:=by apply qbh;rw [I,B]
 have hr:=run_make (P:=P) w t e i z' (z.slice hk) hi K k k' n c h0 C (by rw [H];exact D) E;rw [G,A,hcl,qa1] at hr;have s:Grow w (w.alloc (.cells (madeCells #[zv] c.toNat) e)):=kap _ _;refine kad (w.alloc (.cells (madeCells #[zv] c.toNat) e)) (.slice (some ⟨w.heap.size,0,none⟩) n.toNat c.toNat) ?_ ⟨ψ.set id 0 (.slice (some ⟨w.heap.size,0,none⟩) n.toNat c.toNat),S,?_,?_,kes _ f.fr,kay g _ _,fun _ h=>qe _ h,fun _ h=>h,Same.of_grow s⟩;simp [execOp,ho,j,l,hr]
 ·refine f.add s g (fun b D=>by simp [kak] at D;omega) ⟨ka2 _ _,by omega,w.heap.size,madeCells #[zv] c.toNat,n.toNat,c.toNat,kaj _ _,heap_alloc_new w _,by rw [size_madeCells,qa1],by omega,by rw [size_madeCells];simp,fun x q=>?_,fun i v x hv q=>?_⟩;rw [qbn] at q;rw [q.2];exact r
  ·have u:=ql q;rw [qbn] at u;rw [u.2];rw [<- qal,toList_madeCells_one] at hv;have y:=ql hv;rw [qbn] at y;rw [y.2];exact .fz (.atom r)
 ·exact .bsl (qn ..) (qas _) rfl fun _=>⟨w.heap.size,c.toNat,by rw [kaj];rfl,rfl,by omega,by omega,rfl⟩
theorem kx8 {ids:List Nat} (ht:∀ t,RV ψ (·∈ids) S w (a.tmps.getD t undef) (st.get t)) {size:Nat}:∀ {i:Nat} {l:List (Nat×Operand)} {ys:List AV},kqk size i (l.map fun p=>(p.1,st.eval p.2))=some ys ->
  (l.map fun p=>(p.1,a.eval p.2))=((l.map fun p=>a.eval p.2).zipIdx i).map (fun x=>(x.2,x.1))/\(∀ v∈l.map (fun p=>a.eval p.2),v.cells.size=size)/\CR ψ (·∈ids) S w ((l.map fun p=>a.eval p.2).flatMap fun v=>v.cells.toList) ys/\ys.length=l.length*size
 | i,[],ys,h=>by simp only [List.map_nil,kqk,qb] at h;subst h;exact ⟨rfl,(fun v hv=>by cases hv),CR.nil,by simp⟩
 | i,(j,x)::l,ys,h=>by
  simp only [qao,kqk] at h;cases c:(Nat.beq j i && (Nat.beq (st.eval x).cells.length size && (st.eval x).cells.all AV.single)) with
  | false=>rw [c] at h;cases h
  | true=>
   rw [c] at h;simp only [qr] at h;split at h
   ·rename_i zs f;injection h with h;subst h;simp only [qo] at c;obtain ⟨d,b,e⟩:=c;obtain rfl:=qf d;have b:=qf b;obtain ⟨e1,e2,e3,e4⟩:=kx8 ht f;have hc:=CR.cells (Sim.eval_tmps ht x) e;refine ⟨by simp only [qao,List.zipIdx_cons,e1],fun v hv=>?_,?_,by simp [b,e4,qbd];omega⟩
    ·simp only [qao] at hv;rcases qan.1 hv with rfl | hv;have:=hc.1;simp at this;omega
     ·exact e2 v hv
    ·simp only [qao,qbk];exact hc.append e3
   ·cases h
theorem kac2 {n:Nat} {parts:Array (Nat×Operand)} {e:TypeId} {de:TD} {ys:List AV} (ho:o.op = .buildSlice t n parts) (H:TdOk P t d) (hk:d.kind = .slice e) (q:TdOk P e de) (l:0<de.size) (hn:parts.toList.length=n) (E:n*de.size<=16777216)
  (hp:kqk de.size 0 (kb3 st parts)=some ys) (c:st.ids.contains id=false):StepA P o st (.bsl id 0 0 n (some n)) ((id, .xo (.blk 0 e de.size ys))::st.heap) (id::st.ids):=by
 have c:id∉st.ids:=by simpa using c
 subst hn;intro F S0 N0 ψ S a w r;have f:=r.core;obtain ⟨e1,e2,e3,e4⟩:=kx8 r.tmps hp;obtain ⟨vs,s⟩:∃ vs:List Value,vs=parts.toList.map (fun p=>a.eval p.2):=⟨_,rfl⟩;rw [<- s] at e1 e2 e3;have y:vs.length=parts.toList.length:=by rw [s];simp
 obtain ⟨z,A,I⟩:=q.zero (P:=P) (w:=w);obtain ⟨cells,hcl⟩:∃ cells:Array Value,cells=(vs.flatMap fun v=>v.cells.toList).toArray:=⟨_,rfl⟩;have B:(parts.map fun (i,x)=>(i,a.eval x)).toList=(vs.zipIdx 0).map (fun x=>(x.2,x.1)):=by rw [<- e1];simp
 have u:(Instr.buildSlice t parts.toList.length (parts.map fun (i,x)=>(i,a.eval x))).run P w = .ok (.slice (some ⟨w.heap.size,0,none⟩) parts.toList.length parts.toList.length) (w.alloc (.cells cells e)):=by
  have C:¬ parts.toList.length*de.size > 2 ^ 24:=by omega
  have g:∀ c0:Array Value,parts.toList.length*de.size=c0.size->Instr.fill (fun i=>some (i*de.size,de.size)) c0 (parts.map fun (i,x)=>(i,a.eval x)).toList=some cells:=fun c0 D=>by rw [B,Great.fill_whole l vs c0 e2 (by rw [y];exact D),hcl]
  unfold Instr.buildSlice;rw [Sem.run_bind,run_underlying (H.slice hk),Result.andThen_ok];simp only [Sem.run_bind,q.size,Result.andThen_ok,qq C];by_cases h0:parts.toList.length*de.size=0
  ·simp only [qt h0,Sem.run_bind,Sem.run_pure,Result.andThen_ok];rw [g];rfl
   ·simp
  ·simp only [qq h0,Sem.run_bind,A,Result.andThen_ok,Sem.run_pure];rw [g];rfl
   ·simp
 have m:Grow w (w.alloc (.cells cells e)):=kap _ _;have k:cells.size=parts.toList.length*de.size:=by rw [hcl,List.size_toArray,e3.1,e4]
 have G:parts.toList.length*1<=parts.toList.length*de.size:=Nat.mul_le_mul_left _ l;refine kad (w.alloc (.cells cells e)) (.slice (some ⟨w.heap.size,0,none⟩) parts.toList.length parts.toList.length) ?_ ⟨ψ.set id 0 (.slice (some ⟨w.heap.size,0,none⟩) parts.toList.length parts.toList.length),S,?_,?_,kes _ f.fr,kay c _ _,fun _ h=>qe _ h,fun _ h=>h,Same.of_grow m⟩;have j:=u;simp only [execOp,ho,Sem.run_bind];rw [show (parts.map fun (i,x)=>(i,a.eval x))=parts.map (fun x=>(x.1,a.eval x.2)) from rfl] at j;simp only [j];rfl;refine f.add m c (fun b E=>by simp [kak] at E;omega) ⟨ka2 _ _,l,w.heap.size,cells,_,_,kaj _ _,heap_alloc_new w _,k,by omega,by rw [k,e4];exact qu _,e3.2.1,fun i v x hv J=>?_⟩;exact (e3.2.2 i v x (by rw [hcl] at hv;simpa using hv) J).keep (kay c _ _) (fun _ h=>qe _ h) (fun _ h=>h) (Same.of_grow m)
 ·exact .bsl (qn ..) (qas _) rfl fun _=>⟨w.heap.size,_,by rw [kaj];rfl,rfl,qu _,by omega,rfl⟩
theorem ka9 {ids:List Nat} (ht:∀ t,RV ψ (·∈ids) S w (a.tmps.getD t undef) (st.get t)) {x:Option Operand} {D r:Nat} (h:kcn st D x=some r):(x=none/\r=D)\/∃ y k,x=some y/\a.eval y = .int k (r:Int):=by
 unfold kcn kc9 at h;split at h;injection h with h;exact .inl ⟨rfl,h.symm⟩
 ·rename_i y;split at h
  ·rename_i k n hk;cases h0:decide (0<=n) with
   | false=>rw [h0] at h;cases h
   | true=>
    rw [h0] at h;simp only [qr,qb] at h;have h1:=Sim.eval_tmps ht y;rw [hk] at h1;have hn:(r:Int)=n:=(by rw [<- h];exact Int.toNat_of_nonneg (by simpa using h0));exact .inr ⟨y,k,rfl,by rw [hn];exact h1.atom⟩
  ·cases h
theorem kh2 (P:Program) (w:World) {lo hi:Option Operand} (mx:Option Operand) (isS:Bool) {len:Nat} (cap:Nat) {L H:Nat} (M:Nat) (d:(lo=none/\L=0)\/∃ y k,lo=some y/\a.eval y = .int k (L:Int)) (e:(hi=none/\H=len)\/∃ y k,hi=some y/\a.eval y = .int k (H:Int)) (g:(mx=none/\M=cap)\/∃ y k,mx=some y/\a.eval y = .int k (M:Int)) (h1:L<=H) (c:H<=M) (f:M<=cap) (h:mx.isSome=true->hi.isSome=true):(Instr.sliceBounds isS len cap (lo.map a.eval) (hi.map a.eval) (mx.map a.eval)).run P w = .ok (L,H,M) w:=by
 have q1:(L:Int)<=(H:Int):=by omega
 have q2:(H:Int)<=(M:Int):=by omega
 have q3:(M:Int)<=(cap:Int):=by omega
 have q4:(H:Int)<=(cap:Int):=by omega
 have p1:(0:Int)<=(L:Int):=by omega
 have p2:(0:Int)<=(H:Int):=by omega
 have p3:(0:Int)<=(M:Int):=by omega
 have sb:∀ {u:Value} {k:IntKind} {n y:Nat} {code:BoundsCode},u = .int k (n:Int)->n<=y->(Instr.sliceBound u y code).run P w = .ok n w:=fun {u k n y code} hu i=>by
  subst hu;have e1:(0:Int)<=(n:Int):=by omega
  have e2:(n:Int)<=(y:Int):=by omega
  simp only [Instr.sliceBound,asIntOf,Sem.run_bind,Sem.run_pure,Result.andThen_ok];rw [qt ⟨e1,e2⟩];simp
 unfold Instr.sliceBounds;rcases g with ⟨rfl,rfl⟩ | ⟨ym,km,rfl,hm⟩
 ·rcases e with ⟨rfl,rfl⟩ | ⟨yh,kh,rfl,b⟩
  ·rcases d with ⟨rfl,rfl⟩ | ⟨yl,kl,rfl,hl⟩;simp
   ·simp [sb hl h1]
  ·rcases d with ⟨rfl,rfl⟩ | ⟨yl,kl,rfl,hl⟩;simp [sb b c]
   ·simp [sb b c,sb hl h1]
 ·rcases e with ⟨rfl,rfl⟩ | ⟨yh,kh,rfl,b⟩;exact absurd (h rfl) (by simp)
  ·rcases d with ⟨rfl,rfl⟩ | ⟨yl,kl,rfl,hl⟩;simp [sb hm f,sb b c]
   ·simp [sb hm f,sb b c,sb hl h1]
def offE (off L M size:Nat):Nat:=bif Nat.beq M L then off else off+L*size
theorem ks7 {b off L M size:Nat}:(if M=L then (⟨b,off,none⟩:Addr) else (⟨b,off,none⟩:Addr).add (L*size))=⟨b,offE off L M size,none⟩:=by
 unfold offE;by_cases h:M=L;subst h;simp
 ·rw [qq h,Nat.beq_eq_false h,ka3];rfl
theorem n_slB {x:Operand} {lo hi mx:Option Operand} {e:TypeId} {de:TD} {g off len k L H M:Nat} {cells:List AV} (ho:o.op = .slice t x lo hi mx) (m:TOk P T) (p:kac T t=some d) (hk:d.kind = .slice e) (h:kac T e=some de) (q:st.eval x = .bsl id g off len (some k)) (i:objC st id=some (g,cells))
  (hl:kcn st 0 lo=some L) (r:kcn st len hi=some H) (hm:kcn st k mx=some M) (h1:L<=H) (s:H<=M) (u:M<=k) (y:mx.isSome=true->hi.isSome=true):NStep P o st (.bsl id g (offE off L M de.size) (H - L) (some (M - L))):=by
 intro ψ S a w ht z;obtain ⟨A,_⟩:=kel z i;have hv:=Sim.eval_tmps ht x;rw [q] at hv;obtain ⟨hK,b,c,B,j,C,n,f⟩:=kgg hv A;have f:c=k:=f;subst f;have e1:=kh2 P w _ true _ _ (ka9 ht hl) (ka9 ht r) (ka9 ht hm) h1 s u y;refine kad w (.slice (some ⟨b,offE off L M de.size,none⟩) (H - L) (M - L)) ?_ ⟨kaf _, .bsl hK (by omega) rfl fun _=>⟨b,M - L,B,rfl,by omega,by omega,rfl⟩⟩;have l:=(m.get h).size (P:=P) (w:=w);rw [<- ks7];simp [execOp,ho,Instr.sliceAt,Instr.slice,run_underlying ((m.get p).slice hk),j,e1,l];split <;> rfl
theorem n_slU {x:Operand} {lo hi:Option Operand} {e:TypeId} {de:TD} {g len H:Nat} {cells:List AV} (ho:o.op = .slice t x lo hi none) (n:TOk P T) (p:kac T t=some d) (hk:d.kind = .slice e) (j:kac T e=some de) (q:st.eval x = .bsl id g 0 len none) (k:objC st id=some (g,cells))
  (hl:kcn st 0 lo=some 0) (r:kcn st len hi=some H) (A:H<=len):NStep P o st (.bsl id g 0 H none):=by
 intro ψ S a w ht s;obtain ⟨u,_⟩:=kel s k;have hv:=Sim.eval_tmps ht x;rw [q] at hv;obtain ⟨hK,b,c,y,l,z,f,i⟩:=kgg hv u;have e1:=kh2 P w none true c c (ka9 ht hl) (ka9 ht r) (.inl ⟨rfl,rfl⟩) (qas _) (by omega) (qu _) (fun h=>by cases h);refine kad w (.slice (some ⟨b,0,none⟩) H c) ?_ ⟨kaf _, .bsl hK (by omega) rfl fun _=>⟨b,c,y,rfl,by omega,f,i⟩⟩;have m:=(n.get j).size (P:=P) (w:=w);simp only [Option.map_none] at e1;simp [execOp,ho,Instr.sliceAt,Instr.slice,run_underlying ((n.get p).slice hk),l,e1,m,ka3]
theorem n_slM {x:Operand} {lo hi:Option Operand} {y:Operand} {e:TypeId} {de:TD} {g len L H M:Nat} {cells:List AV} (ho:o.op = .slice t x lo hi (some y)) (l:TOk P T) (p:kac T t=some d) (hk:d.kind = .slice e) (f:kac T e=some de) (q:st.eval x = .bsl id g 0 len none) (i:objC st id=some (g,cells))
  (hl:kcn st 0 lo=some L) (r:kcn st len hi=some H) (hm:kcn st 0 (some y)=some M) (h1:L<=H) (s:H<=M) (E:M<=len) (u:hi.isSome=true):NStep P o st (.bsl id g (offE 0 L M de.size) (H - L) (some (M - L))):=by
 intro ψ S a w ht z;obtain ⟨A,_⟩:=kel z i;have hv:=Sim.eval_tmps ht x;rw [q] at hv;obtain ⟨hK,b,c,B,j,C,m,n⟩:=kgg hv A;have D:=(ka9 ht hm).resolve_left (fun h=>by cases h.1);have e1:=kh2 P w (some y) true c M (ka9 ht hl) (ka9 ht r) (.inr D) h1 s (by omega) (fun _=>u);refine kad w (.slice (some ⟨b,offE 0 L M de.size,none⟩) (H - L) (M - L)) ?_ ⟨kaf _, .bsl hK (by omega) rfl fun _=>⟨b,M - L,B,rfl,by omega,by omega,rfl⟩⟩;have k:=(l.get f).size (P:=P) (w:=w);rw [<- ks7];simp only [qai] at e1;simp [execOp,ho,Instr.sliceAt,Instr.slice,run_underlying ((l.get p).slice hk),j,e1,k];split <;> rfl
theorem kaag {x:Operand} {lo hi mx:Option Operand} {n e:Nat} {de:TD} {g off L H M:Nat} {cells:List AV} (ho:o.op = .slice t x lo hi mx) (l:TOk P T) (m:kac T t=some d) (hk:d.kind = .arr n e) (h:kac T e=some de) (p:st.eval x = .ref id g off) (i:objC st id=some (g,cells))
  (hl:kcn st 0 lo=some L) (q:kcn st n hi=some H) (hm:kcn st n mx=some M) (h1:L<=H) (r:H<=M) (s:M<=n) (y:mx.isSome=true->hi.isSome=true) (hn:n<=9223372036854775807):NStep P o st (.bsl id g (offE off L M de.size) (H - L) (some (M - L))):=by
 intro ψ S a w ht z;obtain ⟨A,b0,_,_,f,_⟩:=kel z i;have hv:=Sim.eval_tmps ht x;rw [p] at hv;have b:g<=ψ.len id/\id∈st.ids/\a.eval x = .pointer (some ⟨b0,off,none⟩):=by
  generalize a.eval x=u at hv;cases hv with
  | ref hK hn h1 hv=>
   obtain ⟨b',c,rfl⟩:=hv A.symm;rw [f] at c;simp only [qb] at c;rw [c];exact ⟨hn,hK,rfl⟩
 obtain ⟨j,hK,b⟩:=b;have e1:=kh2 P w _ false _ _ (ka9 ht hl) (ka9 ht q) (ka9 ht hm) h1 r s y;refine kad w (.slice (some ⟨b0,offE off L M de.size,none⟩) (H - L) (M - L)) ?_ ⟨kaf _, .bsl hK j rfl fun _=>⟨b0,M - L,f,rfl,by omega,by omega,rfl⟩⟩;have k:=(l.get h).size (P:=P) (w:=w);rw [<- ks7];simp [execOp,ho,Instr.sliceAt,run_underlying ((l.get m).arr hk),Instr.sureAddr,b,e1,k]
theorem kxk {v:Value} {x:AV} {s n:Nat} {xs:List FV} (h:RV ψ K S w v x) (a:lstX x=some (s,n,xs)):∃ A cap,v = .slice A n cap/\RF S w (.slice A n cap) (.lst s n xs):=by
 unfold lstX at a;split at a;simp only [qb,qp] at a;obtain ⟨rfl,rfl,rfl⟩:=a;have h:=h.inv;obtain ⟨A,cap,css,rfl,_⟩:=h.lst_inv;exact ⟨A,cap,rfl,h⟩
 ·simp only [qb,qp] at a;obtain ⟨rfl,rfl,rfl⟩:=a;cases h with
  | lim h=>exact ⟨_,_,rfl,h⟩
 ·cases a
theorem n_slF {x:Operand} {lo hi:Option Operand} {e:TypeId} {de:TD} {n L H:Nat} {xs:List FV} (ho:o.op = .slice t x lo hi none) (l:TOk P T) (p:kac T t=some d) (hk:d.kind = .slice e) (b:kac T e=some de) (q:lstX (st.eval x)=some (de.size,n,xs))
  (hl:kcn st 0 lo=some L) (r:kcn st n hi=some H) (h1:L<=H) (s:H<=n):NStep P o st (.fz (.lst de.size (H - L) ((xs.take H).drop L))):=by
 intro ψ S a w ht y;obtain ⟨A,cap,c,m⟩:=kxk (Sim.eval_tmps ht x) q;obtain ⟨_,_,css,f,hn,u,hm,_⟩:=m.lst_inv;injection f with q1 q2 q3;subst q1 q3;have e1:=kh2 P w none true cap cap (ka9 ht hl) (ka9 ht r) (.inl ⟨rfl,rfl⟩) h1 (by omega) (qu _) (fun h=>by cases h);obtain ⟨A',g,i⟩:=m.take (v := .nilFunc) (k:=0) L H h1 s;refine kad w (.slice A' (H - L) (cap - L)) ?_ ⟨kaf _,(RV.fz i).here⟩;have j:=(l.get b).size (P:=P) (w:=w);simp only [Option.map_none] at e1;simp [execOp,ho,Instr.sliceAt,Instr.slice,run_underlying ((l.get p).slice hk),c,e1,j,g]
theorem RF.takeE {A:Option Addr} {cap n size:Nat} {xs:List FV} (h:RF S w (.slice A n cap) (.lst size n xs)) (lo hi:Nat) (h1:lo<=hi) (f:hi<=n):RF S w (.slice (if hi=lo then A else A.map (·.add (lo*size))) (hi - lo) (hi - lo)) (.lst size (hi - lo) ((xs.take hi).drop lo)):=by
 obtain ⟨A0,cap0,css,hv,hn,hc,hm,hs,ha,hl,hr⟩:=h.lst_inv;injection hv with e1 _ e3;subst e1 e3;have c:(xs.take hi).length=hi:=by rw [qak];omega
 have get:∀ (i:Nat) (x:FV),((xs.take hi).drop lo)[i]?=some x->xs[lo+i]?=some x:=fun i x a=>by
  rw [qae,qv] at a;split at a;exact a
  ·cases a
 refine .lst (fun i=>css (lo+i)) (by rw [qaw,c]) (by omega) (by omega) hs (fun i x a=>?_) (fun i x a=>hl _ x (get i x a)) fun i x j v y a hv hy=>hr _ x j v y (get i x a) hv hy;obtain ⟨b,o,hA,hS,d⟩:=ha _ x (get i x a);have e:=(qd.1 a).1;rw [qaw,c] at e;refine ⟨b,o+lo*size,?_,hS,by rw [Nat.add_assoc,<- qbd];exact d⟩;rw [qq (by omega),hA];simp only [qai,ka3]
theorem kacf {x y:Operand} {lo hi:Option Operand} {e:TypeId} {de:TD} {n L H:Nat} {xs:List FV} (ho:o.op = .slice t x lo hi (some y)) (j:TOk P T) (l:kac T t=some d) (hk:d.kind = .slice e) (b:kac T e=some de) (m:lstX (st.eval x)=some (de.size,n,xs))
  (hl:kcn st 0 lo=some L) (p:kcn st n hi=some H) (hm:kcn st 0 (some y)=some H) (h1:L<=H) (q:H<=n) (r:hi.isSome=true):NStep P o st (.lim de.size (H - L) ((xs.take H).drop L)):=by
 intro ψ S a w ht B;obtain ⟨A,cap,c,k⟩:=kxk (Sim.eval_tmps ht x) m;obtain ⟨_,_,css,f,hn,s,u,_⟩:=k.lst_inv;injection f with q1 q2 q3;subst q1 q3;have z:=(ka9 ht hm).resolve_left (fun h=>by cases h.1);have e1:=kh2 P w (some y) true cap H (ka9 ht hl) (ka9 ht p) (.inr z) h1 (qu _) (by omega) (fun _=>r);have g:=k.takeE L H h1 q;refine kad w (.slice (if H=L then A else A.map (·.add (L*de.size))) (H - L) (H - L)) ?_ ⟨kaf _,(RV.lim g).here⟩;have i:=(j.get b).size (P:=P) (w:=w);simp only [qai] at e1;simp [execOp,ho,Instr.sliceAt,Instr.slice,run_underlying ((j.get l).slice hk),c,e1,i]
theorem n_sl0 {x:Operand} {lo hi mx:Option Operand} {e:TypeId} {de:TD} (ho:o.op = .slice t x lo hi mx) (f:TOk P T) (g:kac T t=some d) (hk:d.kind = .slice e) (b:kac T e=some de) (h:st.eval x = .fz (.atom nilV))
  (hl:kcn st 0 lo=some 0) (i:kcn st 0 hi=some 0) (hm:kcn st 0 mx=some 0) (j:mx.isSome=true->hi.isSome=true):NStep P o st (.fz (.atom nilV)):=by
 intro ψ S a w ht k;have hv:=Sim.eval_tmps ht x;rw [h] at hv;have hv:=hv.atom;have e1:=kh2 P w _ true _ _ (ka9 ht hl) (ka9 ht i) (ka9 ht hm) (qu _) (qu _) (qu _) j;refine kad w nilV ?_ ⟨kaf _, .fz (.atom rfl)⟩;have c:=(f.get b).size (P:=P) (w:=w);simp [execOp,ho,Instr.sliceAt,Instr.slice,run_underlying ((f.get g).slice hk),hv,nilV,e1,c]
theorem kacr {x:Operand} {e:TypeId} {g off len:Nat} {cap:Option Nat} {cells:List AV} (ho:o.op = .call { callee := .builtin .len,args:=#[x],argTypes:=#[t] }) (i:TdOk P t d) (hk:d.kind = .slice e) (j:st.eval x = .bsl id g off len cap) (f:objC st id=some (g,cells)):NStep P o st (.fz (.atom (.int .i64 len))):=by intro ψ S a w ht k;obtain ⟨l,_⟩:=kel k f;have hv:=Sim.eval_tmps ht x;rw [j] at hv;obtain ⟨hK,b,c,m,h,_⟩:=kgg hv l;refine kad w (.int .i64 len) ?_ ⟨kaf _, .fz (.atom rfl)⟩;simp [execOp,ho,resolve,invoke,builtin,Builtin.len_,run_underlying (i.slice hk),h,goInt]
theorem kac7 {x:Operand} {e:TypeId} {sz m k:Nat} {ys:List AV} (ho:o.op = .call { callee := .builtin .cap,args:=#[x],argTypes:=#[t] }) (f:TdOk P t d) (hk:d.kind = .slice e) (g:rdSl sz st (st.eval x)=some (m,some k,ys)):NStep P o st (.fz (.atom (.int .i64 k))):=by intro ψ S a w ht h;obtain ⟨A,cap,c,_,_,b,_⟩:=knw (Sim.eval_tmps ht x) h g;obtain rfl:=b k rfl;refine kad w (.int .i64 cap) ?_ ⟨kaf _, .fz (.atom rfl)⟩;simp [execOp,ho,resolve,invoke,builtin,Builtin.cap_,run_underlying (f.slice hk),c,goInt]
theorem kuy {op:BinOp} {x y:Operand} {u v:Option Addr} {n m c d:Nat}:(eqGuard op t x y (.slice u n c) (.slice v m d)).run P w = .ok () w:=by unfold eqGuard;cases op <;> simp
theorem k5b (u v:Option Addr) (n m c e:Nat) (r:Bool) (h:∀ d:Nat,(Op.equalIn (d+1) t (.slice u n c) (.slice v m e)).run P w = .ok r w):(binOp .eql t (.slice u n c) (.slice v m e)).run P w = .ok (.bool r) w/\(binOp .neq t (.slice u n c) (.slice v m e)).run P w = .ok (.bool !r) w:=by constructor <;> (simp only [binOp];simp [Op.equal,Op.maxDepth,h 9999])
theorem k52 {x y:Operand} {yt te:TypeId} (neg r:Bool) (ho:o.op = .binOp (if neg then .neq else .eql) t x y yt) (ht:P.underlying t=some (.slice te)) (h:(r=true/\st.eval x = .fz (.atom nilV))\/(r=false/\((∃ id g off len cap cells,st.eval x = .bsl id g off len cap/\objC st id=some (g,cells))\/∃ s n z zs,lstX (st.eval x)=some (s,n,z::zs)))) (hy:st.eval y = .fz (.atom nilV)):
  NStep P o st (.fz (.atom (.bool (bif neg then !r else r)))):=by
 intro ψ S a w i p;have h1:=Sim.eval_tmps i x;have j:=Sim.eval_tmps i y;rw [hy] at j;have j:=j.atom;have key:∃ A n c,a.eval x = .slice A n c/\A.isNone=r:=by
  rcases h with ⟨rfl,h⟩ | ⟨rfl,⟨id,g,off,len,cap,cells,h,k⟩ | ⟨s,n,z,zs,h⟩⟩;rw [h] at h1;exact ⟨none,0,0,h1.atom,rfl⟩;rw [h] at h1;obtain ⟨q,_⟩:=kel p k;obtain ⟨hK,b,c,D,f,_⟩:=kgg h1 q;exact ⟨_,_,_,f,rfl⟩
  ·obtain ⟨A,cap,f,B⟩:=kxk h1 h;obtain ⟨_,_,css,l,hn,C,hm,hs,ha,_⟩:=B.lst_inv;injection l with q1 q2 q3;subst q1 q3;obtain ⟨b,o,rfl,_⟩:=ha 0 z rfl;exact ⟨_,_,_,f,rfl⟩
 obtain ⟨A,n,c,f,hA⟩:=key;refine kad w (.bool (bif neg then !r else r)) ?_ ⟨kaf _, .fz (.atom rfl)⟩;obtain ⟨q1,q2⟩:=k5b (t:=t) (w:=w) (P:=P) A none n 0 c 0 r fun d=>by cases A <;> simp at hA <;> subst hA <;> simp [Op.equalIn,run_underlying ht]
 cases neg;simp [execOp,ho,f,j,nilV,kuy] at q1 ⊢;simp [q1]
 ·simp [execOp,ho,f,j,nilV,kuy] at q2 ⊢;simp [q2]
theorem kaaf {x y:Operand} {t1 t2 e:TypeId} {d1 de:TD} {g off len n:Nat} {cap c2:Option Nat} {cells ys:List AV} (ho:o.op = .call { callee := .builtin .copy,args:=#[x,y],argTypes:=#[t1,t2] }) (z:TOk P T) (E:kac T t1=some d1) (hk:d1.kind = .slice e) (m:kac T e=some de)
  (G:st.eval x = .bsl id g off len cap) (i:objC st id=some (g,cells)) (hy:rdSl de.size st (st.eval y)=some (n,c2,ys)) (p:off+(ys.take (min n len*de.size)).length<=cells.length):
  StepA P o st (.fz (.atom (.int .i64 ((min n len:Nat):Int)))) (putC st id (kbm cells off (ys.take (min n len*de.size)))) st.ids:=by
 intro F S0 N0 ψ S a w f;have d:=f.core;have B:=fun id o ho=>(d.obj id o ho).2.1;obtain ⟨H,_⟩:=kel B i;have hv:=f.eval x;rw [G] at hv;obtain ⟨hK,b,c,I,q,_⟩:=kgg hv H;obtain ⟨A,cap',r,_,_,_,cs,C,J,D⟩:=knw (f.eval y) B hy;have s:CR ψ (·∈st.ids) S w (cs.take (min n len*de.size)) (ys.take (min n len*de.size)):=by simpa using C.sub 0 (min n len*de.size)
 obtain ⟨b',w1,q1,q2,q3,q4,q5⟩:=kxu (P:=P) d i p s;rw [I] at q1;simp only [qb] at q1;subst q1;have K:(min n len)*de.size<=n*de.size:=qbg _ (Nat.min_le_left n len);have t:(Builtin.firstCells de.size (min n len) (.slice A n cap')).run P w = .ok (cs.take (min n len*de.size)).toArray w:=by
  cases A with
  | none=>
   obtain ⟨rfl,rfl⟩:=D;simpa using run_firstCells_none (P:=P) w de.size (min 0 len) 0 cap'
  | some ad=>
   refine run_firstCells_some w de.size (min n len) ad n cap' _ (by rw [qak,C.1,J];omega) fun j v l=>?_;rw [qv] at l;split at l;exact D j v l
   ·cases l
 refine kad w1 (.int .i64 ((min n len:Nat):Int)) ?_ ⟨ψ,S,q3, .fz (.atom rfl),q4,Ext.refl,fun _ h=>h,fun _ h=>h,q5⟩;have u:=(z.get m).size (P:=P) (w:=w);have k:Nat.min n len=min n len:=rfl;simp [execOp,ho,resolve,invoke,builtin,Builtin.copy_,run_underlying ((z.get E).slice hk),q,r,Builtin.lenOf,u,k,t,q2,goInt]
theorem kyx:∀ {l:List AV} {r:List Int},kqq l=some r->l=r.map fun n => .fz (.atom (.int .u8 n))
 | [],r,h=>by simp only [kqq,qb] at h;subst h;rfl
 | x::l,r,h=>by
  unfold kqq at h;split at h;rename_i h0;cases h0
  ·rename_i n l' h0;injection h0 with h1 a;subst h1 a;split at h;rename_i r' hr;injection h with h;subst h;rw [kyx hr];rfl
   ·cases h
  ·cases h
theorem kaca {sr e:TypeId} {x:Operand} {n:Nat} {c:Option Nat} {ys:List AV} {xs:List Int} {ds de:TD} (g:TOk P T) (ho:o.op = .convert sr t x) (hs:kac T sr=some ds) (h:ds.kind = .slice e) (s:kac T e=some de) (i:de.kind = .int .u8) (u:kac T t=some d) (hk:d.kind = .str)
  (y:rdSl 1 st (st.eval x)=some (n,c,ys)) (hi:kqq ys=some xs):NStep P o st (.fz (.atom (.string (toBA xs)))):=by
 intro ψ S a w ht z;obtain ⟨A,cap,k,_,_,_,cs,l,B,q⟩:=knw (Sim.eval_tmps ht x) z y;obtain rfl:=kyx hi;obtain ⟨_,e',h1,m⟩:=g.get s;rw [i] at m;cases e' <;> simp only [kdd] at m;subst m;have p:cs=xs.map (Value.int .u8):=by
  apply List.ext_getElem?;intro j;by_cases r:j<cs.length;have b:j<xs.length:=(by have:=l.1;simp at this;omega);have:=l.2.2 j cs[j] _ (qa r) (by rw [qg,qa b];rfl);rw [qa r,this.atom];simp [b]
  ·have:=l.1;simp at this;rw [qaz (by omega),qaz (by simp;omega)]
 refine kad w (.string (toBA xs)) ?_ ⟨kaf _, .fz (.atom rfl)⟩;have hn:xs.length=n:=by simpa using B
 have f:(Conv.bytesToString (.slice A n cap)).run P w = .ok (.string (toBA xs)) w:=by
  cases A with
  | none=>
   obtain ⟨rfl,h0⟩:=q;have:xs=[]:=qa2 hn;subst this;rfl
  | some ad=>
   refine run_bytesToString w ad n cap xs ?_;have:=run_loadCells_list (P:=P) w ad cs q;rw [p] at this
   rwa [qj,hn] at this
 simp only [execOp,ho,k,Sem.run_bind];rw [run_convert_bytes_string w sr t e A n cap ((g.get hs).slice h) h1 ((g.get u).str hk),f];rfl
end Go.Proofs.YtnlhjbnpjefjgabGreatDoor
