import Derived.Test.YtpnnpkmjohkgiaaGreatDoorDra
import Derived.Deep.AppendSrc
set_option linter.all false
namespace Go.Proofs.YtpnnpkmjohkgiaaGreatDoor
open Go Go.RowKit
def objH (H:Nat->Option AObj) (id:Nat):Option (Nat×List AV):=match H id with
 | some (.box _ cells)=>some (0,cells)
 | some (.xo (.blk g _ _ cells))=>some (g,cells)
 | _=>none
abbrev objC (st:St) (id:Nat):Option (Nat×List AV):=objH (kab st.heap) id
def putC (st:St) (id:Nat) (cells:List AV):List (Nat×AObj):=match kab st.heap id with
 | some (.box e _)=>(id, .box e cells)::st.heap
 | some (.xo (.blk g e sz _))=>(id, .xo (.blk g e sz cells))::st.heap
 | _=>st.heap
def kmc (H:Nat->Option AObj):AV->Option (List AV)
 | .fz (.fp cs)=>some (cs.map .fz)
 | .ref id n off=>match objH H id with
  | some (g,cells)=>bif Nat.beq n g then some (cells.drop off) else none
  | none=>none
 | _=>none
abbrev ko0 (st:St):AV->Option (List AV):=kmc (kab st.heap)
def kjh (H:Nat->Option AObj) (off:Nat) (x:AV):Option AV:=match x with
 | .fz (.fp cs)=>match cs.drop off with
  | []=>none
  | y::ys=>some (.fz (.fp (y::ys)))
 | .ref id n o=>match objH H id with
  | some (g,_)=>bif Nat.beq n g then some (.ref id n (o+off)) else none
  | none=>none
 | _=>none
abbrev kjv (st:St) (off:Nat) (x:AV):Option AV:=kjh (kab st.heap) off x
def kiz:List FV->List AV
 | []=>[]
 | x::l=>x.cells.map .fz++kiz l
def rdH (H:Nat->Option AObj) (sz:Nat):AV->Option (Nat×Option Nat×List AV)
 | .fz (.lst size n xs)=>bif Nat.beq size sz && Nat.beq n xs.length then some (n,none,kiz xs) else none
 | .lim size n xs=>bif Nat.beq size sz && Nat.beq n xs.length then some (n,some n,kiz xs) else none
 | .fz (.atom (.slice none 0 0))=>some (0,some 0,[])
 | .bsl id g off len cap=>match objH H id with
  | some (g',cells)=>bif Nat.beq g g' && Nat.ble (off+len*sz) cells.length then some (len,cap,(cells.drop off).take (len*sz)) else none
  | none=>none
 | _=>none
abbrev rdSl (sz:Nat) (st:St):AV->Option (Nat×Option Nat×List AV):=rdH (kab st.heap) sz
section
variable {P:Program} {F S0:Nat->Prop} {N0:Nat} {w w':World} {S S':Nat->Prop} {ψ ψ':Env} {K:Nat->Prop} {T:List (TypeId×TD)} {o:Oper} {a:Act} {st:St} {t:TypeId} {d:TD} {id:Nat}
theorem kde {g:Nat} {cells:List AV} (d:∀ id o,kab st.heap id=some o->ObR ψ (·∈st.ids) S w id o) (h:objC st id=some (g,cells)):
  ψ.len id=g/\∃ b cs e,kav (ψ.val id)=some b/\w.heap[b]?=some (.cells cs e (0,0))/\cells.length<=cs.size/\(∀ x∈cells,x.single=true)/\∀ (i:Nat) (v:Value) (x:AV),cs[i]?=some v->cells[i]?=some x->RV ψ (·∈st.ids) S w v x:=by
 unfold objC objH at h;split at h;rename_i e cells' ho;simp only [qb,qj] at h;obtain ⟨rfl,rfl⟩:=h;obtain ⟨h0,b,cs,h1,a,j,f,c⟩:=d id _ ho;exact ⟨h0,b,cs,e,by rw [h1];rfl,a,by omega,f,c⟩;rename_i g' e sz cells' ho;simp only [qb,qj] at h;obtain ⟨rfl,rfl⟩:=h;obtain ⟨h0,m,b,cs,n,cap,h1,a,j,f,c,k,l⟩:=d id _ ho;exact ⟨h0,b,cs,e,by rw [h1];rfl,a,c,k,l⟩
 ·cases h
theorem kke {b k:Nat} {cs:Array Value} {e:TypeId} {u:Value} (h:w.heap[b]?=some (.cells cs e (0,0))) (a:cs[k]?=some u):w.cell? ⟨b,k,none⟩=some u:=by simp only [World.cell?,h];simpa using a
theorem knd {v:Value} {x:AV} {xs:List AV} (hv:RV ψ (·∈st.ids) S w v x) (k:∀ id o,kab st.heap id=some o->ObR ψ (·∈st.ids) S w id o) (h:ko0 st x=some xs):
  ∃ b o,v = .pointer (some ⟨b,o,none⟩)/\krs ψ (·∈st.ids) S w b o xs:=by
 unfold ko0 kmc at h;split at h;rename_i cs;exact kiv hv k h
 ·rename_i id n off;split at h
  ·rename_i g cells ho;cases hn:Nat.beq n g with
   | false=>rw [hn] at h;cases h
   | true=>
    rw [hn] at h;simp only [qe,qb] at h;subst h;obtain rfl:=qf hn;obtain ⟨h0,b,cs,e,h1,l,s,m,p⟩:=kde k ho;cases hv with
    | ref hK q r f=>
     obtain ⟨b',a,rfl⟩:=f h0.symm;rw [h1] at a;simp only [qb] at a;subst a;refine ⟨b,off,rfl,(cs.toList.take cells.length).drop off,fun j u c=>?_,by simp;omega,fun x d=>m x (qaz d),fun i v x hv d=>?_⟩
     ·rw [qae,qw] at c;split at c;exact kke l (by simpa using c)
      ·cases c
     ·rw [qae,qw] at hv;rw [qae] at d;split at hv;exact p _ v x (by simpa using hv) d
      ·cases hv
  ·cases h
 ·cases h
theorem kmk {b off:Nat} {xs:List AV} {c:AV} (n:TdOk P t d) (e:krs ψ K S w b off xs) (hc:kfj d xs=some c):∃ u,(loadVar t ⟨b,off,none⟩).run P w = .ok u w/\RV ψ K S w u c:=by
 obtain ⟨cs,h,hl,h1,hr⟩:=e;unfold kfj at hc;cases hk:d.kind.agg with
 | false=>
  rw [hk] at hc;simp only [qg] at hc;cases xs with
  | nil=>cases hc
  | cons y ys=>
   simp only [List.head?_cons,qb] at hc;subst hc;have k:cs[0]?=some (cs[0]'(by simp at hl;omega)):=qa _;have f:w.cell? ⟨b,off,none⟩=some (cs[0]'(by simp at hl;omega)):=(by simpa using h 0 _ k);exact ⟨cs[0]'(by simp at hl;omega),by simp [loadVar,n.isAgg,hk,f],hr 0 _ y k rfl⟩
 | true=>
  rw [hk] at hc;simp only [qe] at hc;cases g:Nat.ble d.size xs.length with
  | false=>rw [g] at hc;cases hc
  | true=>
   rw [g] at hc;simp only [qe,qb] at hc;subst hc;have o:=qk g;have l:(cs.take d.size).length=d.size:=(by rw [qam];omega);have a:=run_loadCells_list (P:=P) w ⟨b,off,none⟩ (cs.take d.size) fun j v m=>by
    rw [qw] at m;split at m;rw [kbl];exact h j v m
    ·cases m
   rw [l] at a;refine ⟨.agg (cs.take d.size).toArray,by simp [loadVar,n.isAgg,hk,n.size,a],RV.aggA (by simp [hl]) (fun x e=>h1 x (qa5 e)) fun i v x hv e=>?_⟩;simp only [List.getElem?_toArray] at hv;rw [qw] at hv e;split at hv;rename_i hi;rw [qq hi] at e;exact hr i v x hv e
   ·cases hv
theorem kx5 {x:Operand} {xs:List AV} {c:AV} (ho:o.op = .load t x) (e:TdOk P t d) (f:ko0 st (st.eval x)=some xs) (hc:kfj d xs=some c):NStep P o st c:=by intro ψ S a w ht g;obtain ⟨b,off,hv,hcl⟩:=knd (Sim.eval_tmps ht x) g f;obtain ⟨u,h1,h⟩:=kmk (P:=P) e hcl hc;refine kaf (w':=w) (v:=u) ?_ ⟨kag _,h.here⟩;simp [execOp,ho,hv,Instr.loadAt,Instr.sureAddr,h1]
theorem kjf {off:Nat} {v:Value} {x c:AV} (hv:RV ψ (·∈st.ids) S w v x) (i:∀ id o,kab st.heap id=some o->ObR ψ (·∈st.ids) S w id o) (h:kjv st off x=some c):
  ∃ b o,v = .pointer (some ⟨b,o,none⟩)/\RV ψ (·∈st.ids) S w (.pointer (some ⟨b,o+off,none⟩)) c:=by
 unfold kjv kjh at h;split at h;exact khr (off:=off) hv i h
 ·rename_i id n off';split at h
  ·rename_i g cells ho;cases hn:Nat.beq n g with
   | false=>rw [hn] at h;cases h
   | true=>
    rw [hn] at h;simp only [qe,qb] at h;subst h;obtain rfl:=qf hn;obtain ⟨h0,b,cs,e,h1,_⟩:=kde i ho;cases hv with
    | ref hK a j d=>
     obtain ⟨b',f,rfl⟩:=d h0.symm;exact ⟨b',off',rfl, .ref hK a rfl fun _=>⟨b',f,rfl⟩⟩
  ·cases h
 ·cases h
theorem kvq {s:TypeId} {x:Operand} {f:Nat} {fs:List (TypeId×Nat)} {ft:TypeId} {off:Nat} {df:TD} {c:AV} (ho:o.op = .fieldAddr s x f) (k:TdOk P s d) (hk:d.kind = .st fs) (hf:fs[f]?=some (ft,off)) (h:TdOk P ft df) (l:df.size≠0)
  (hc:kjv st off (st.eval x)=some c):NStep P o st c:=by
 intro ψ S a w ht m;obtain ⟨b,off',hv,hr⟩:=kjf (Sim.eval_tmps ht x) m hc;obtain ⟨gs,n,i⟩:=k.strct hk;have e:∃ g:Field,gs[f]?=some g/\g.type=ft/\g.offset=off:=by rw [<- i,qr,qp] at hf;obtain ⟨g,e,j⟩:=hf;simp only [qj] at j;exact ⟨g,by simpa using e,j.1,j.2⟩
 obtain ⟨g,e,rfl,rfl⟩:=e;refine kaf (w':=w) ?_ ⟨kag _,hr.here⟩;simp [execOp,ho,hv,Instr.fieldAt,n,e,Instr.sureAddr,fieldPlace,h.size,l,kbl]
theorem k1d {x:Operand} {c:AV} (ho:o.op = .nilCheck x) (hc:kjv st 0 (st.eval x)=some c):NStep P o st c:=by intro ψ S a w ht d;obtain ⟨b,off',hv,hr⟩:=kjf (Sim.eval_tmps ht x) d hc;refine kaf (w':=w) ?_ ⟨kag _,hr.here⟩;simp [execOp,ho,hv]
theorem k1x {x y:Operand} {n e:Nat} {de:TD} {k:IntKind} {i:Int} {c:AV} (ho:o.op = .indexAddr t x y) (j:TdOk P t d) (hk:d.kind = .arr n e) (g:TdOk P e de) (hy:st.eval y = .fz (.atom (.int k i))) (h0:0<=i) (hi:i<n)
  (hc:kjv st (i.toNat*de.size) (st.eval x)=some c):NStep P o st c:=by
 intro ψ S a w ht l;obtain ⟨b,off',hv,hr⟩:=kjf (Sim.eval_tmps ht x) l hc;have f:=Sim.eval_tmps ht y;rw [hy] at f;have h:=f.atom;refine kaf (w':=w) ?_ ⟨kag _,hr.here⟩;simp [execOp,ho,hv,h,Instr.indexAt,asIntOf,run_underlying (j.arr hk),Instr.sureAddr,h0,hi,g.size,kbl]
theorem kef {v:Value} {g off len:Nat} {cap:Option Nat} (h:RV ψ K S w v (.bsl id g off len cap)) (a:ψ.len id=g):K id/\∃ b c,kav (ψ.val id)=some b/\v = .slice (some ⟨b,off,none⟩) len c/\len<=c/\c<=9223372036854775807/\CapR (ψ.val id) off c cap:=by
 cases h with
 | bsl hK hn h1 hv=>exact ⟨hK,hv a.symm⟩
theorem k1e {x y:Operand} {e:TypeId} {de:TD} {k:IntKind} {i:Int} {g off len:Nat} {cap:Option Nat} {cells:List AV} (ho:o.op = .indexAddr t x y) (j:TdOk P t d) (hk:d.kind = .slice e) (f:TdOk P e de) (l:st.eval x = .bsl id g off len cap)
  (h:objC st id=some (g,cells)) (hy:st.eval y = .fz (.atom (.int k i))) (h0:0<=i) (hi:i<len):NStep P o st (.ref id g (off+i.toNat*de.size)):=by
 intro ψ S a w ht m;have h1:=Sim.eval_tmps ht y;rw [hy] at h1;have hv:=Sim.eval_tmps ht x;rw [l] at hv;obtain ⟨n,_⟩:=kde m h;obtain ⟨hK,b,c,p,q,_⟩:=kef hv n;refine kaf (w':=w) (v := .pointer (some ⟨b,off+i.toNat*de.size,none⟩)) ?_ ⟨kag _, .ref hK (by omega) rfl fun _=>⟨b,p,rfl⟩⟩;simp [execOp,ho,Instr.indexAt,h1.atom,asIntOf,run_underlying (j.slice hk),q,h0,hi,f.size,kbl]
def kpp (w:World) (n:Nat) (cs:List Value):Option Addr->Prop
 | none=>n=0/\cs=[]
 | some ad=>∀ (j:Nat) (u:Value),cs[j]?=some u->w.cell? (ad.add j)=some u
def CR (ψ:Env) (K S:Nat->Prop) (w:World) (cs:List Value) (xs:List AV):Prop:=
 cs.length=xs.length/\(∀ x∈xs,x.single=true)/\∀ (i:Nat) (v:Value) (x:AV),cs[i]?=some v->xs[i]?=some x->RV ψ K S w v x
theorem CR.nil:CR ψ K S w [] []:=⟨rfl,(fun x h=>by cases h),fun i v x h=>by simp at h⟩
theorem CR.append {cs ds:List Value} {xs ys:List AV} (h:CR ψ K S w cs xs) (k:CR ψ K S w ds ys):CR ψ K S w (cs++ds) (xs++ys):=by
 obtain ⟨h1,b,c⟩:=h;obtain ⟨k1,k2,k3⟩:=k;refine ⟨by simp [h1,k1],fun x a=>(qad.1 a).elim (b x) (k2 x),fun i v x hv a=>?_⟩;by_cases hi:i<cs.length;rw [qy hi] at hv;rw [qy (by omega)] at a;exact c i v x hv a
 ·rw [qac (by omega)] at hv a;rw [h1] at hv;exact k3 _ v x hv a
theorem CR.one {cs:List Value} {xs:List AV} (h:CR ψ K S w cs xs):∀ v∈cs,v.oneCell'=true:=fun v hv=>by
 obtain ⟨i,hi,rfl⟩:=qak.1 hv;have a:i<xs.length:=by rw [<- h.1];exact hi
 exact (h.2.2 i _ _ (qa hi) (qa a)).one (h.2.1 _ (qo a))
theorem CR.sub {cs:List Value} {xs:List AV} (h:CR ψ K S w cs xs) (i n:Nat):CR ψ K S w ((cs.drop i).take n) ((xs.drop i).take n):=by
 refine ⟨by simp [h.1],fun x a=>h.2.1 x (qaz (qa5 a)),fun j v x hv a=>?_⟩;rw [qw] at hv a;split at hv;rename_i b;rw [qq b] at a;rw [qae] at hv a;exact h.2.2 _ v x hv a
 ·cases hv
theorem CR.cells {v:Value} {x:AV} (h:RV ψ K S w v x) (h1:x.cells.all AV.single=true):CR ψ K S w v.cells.toList x.cells:=by have hs:∀ y∈x.cells,y.single=true:=ql.1 h1;obtain ⟨e1,e2,e3⟩:=RV.cells h hs;exact ⟨by simpa using e1,hs,fun i v x hv a=>e2 i v x (by simpa using hv) a⟩
theorem ko8 {b size:Nat}:∀ (xs:List FV) (o:Nat),(∀ (i:Nat) (x:FV),xs[i]?=some x->∃ cs,At w b (o+i*size) cs/\cs.length=size/\x.cells.length=size/\(∀ y∈x.cells,y.single=true)/\∀ (j:Nat) (v:Value) (y:FV),cs[j]?=some v->x.cells[j]?=some y->RF S w v y) ->
  ∃ cs,At w b o cs/\CR ψ K S w cs (kiz xs)/\cs.length=xs.length*size
 | [],o,_=>⟨[],fun j u h=>by simp at h,CR.nil,by simp⟩
 | x::xs,o,h=>by
  obtain ⟨cs,h1,c,e,f,g⟩:=h 0 x rfl;obtain ⟨ds,k1,k2,k3⟩:=ko8 xs (o+size) fun i y hy=>by
   have:=h (i+1) y (by simpa using hy)
   rwa [show o+(i+1)*size=o+size+i*size by rw [qa4];omega] at this
  refine ⟨cs++ds,fun j u a=>?_,CR.append ⟨by simp [c,e],fun y hy=>?_,fun j v y hv hy=>?_⟩ k2,by simp [c,k3,qa4];omega⟩
  ·by_cases k:j<size;rw [qy (by omega)] at a;have:=h1 j u a;simpa using this
   ·rw [qac (by omega),c] at a;have:=k1 _ u a
    rwa [show o+size+(j - size)=o+j by omega] at this
  obtain ⟨z,d,rfl⟩:=qaf.1 hy;exact f z d
  ·rw [qr,qp] at hy;obtain ⟨z,d,rfl⟩:=hy;exact .fz (g j v z hv d)
theorem kq3 {A:Option Addr} {size n cap:Nat} {xs:List FV} (h:RF S w (.slice A n cap) (.lst size n xs)):n=xs.length/\n<=cap/\cap<=9223372036854775807/\∃ cs,CR ψ K S w cs (kiz xs)/\(kiz xs).length=n*size/\kpp w n cs A:=by
 obtain ⟨A0,cap0,css,hv,hn,hc,hm,hs,ha,hl,hr⟩:=h.lst_inv;injection hv with e1 _ e3;subst e1 e3 hn;refine ⟨rfl,hc,hm,?_⟩;cases xs with
 | nil=>
  refine ⟨[],CR.nil,by simp [kiz],?_⟩;cases A with
  | none=>exact ⟨rfl,rfl⟩
  | some ad=>exact fun j u h=>by simp at h
 | cons x xs=>
  obtain ⟨b,o,rfl,_,_⟩:=ha 0 x rfl;obtain ⟨cs,h1,c,d⟩:=ko8 (ψ:=ψ) (K:=K) (S:=S) (w:=w) (b:=b) (size:=size) (x::xs) o fun i y hy=>by obtain ⟨b',o',hA,_,a⟩:=ha i y hy;injection hA with hA;injection hA with e1 e2;subst e1 e2;obtain ⟨l1,l2,l3⟩:=hl i y hy;exact ⟨css i,a,l1,l2,l3,fun j v z hv e=>hr i y j v z hy hv e⟩
  exact ⟨cs,c,by rw [<- c.1,d],fun j u f=>by rw [kbl];exact h1 j u f⟩
theorem kg2 {sz n:Nat} {c:Option Nat} {v:Value} {x:AV} {ys:List AV} (hv:RV ψ (·∈st.ids) S w v x) (y:∀ id o,kab st.heap id=some o->ObR ψ (·∈st.ids) S w id o) (h:rdSl sz st x=some (n,c,ys)):
  ∃ A cap,v = .slice A n cap/\n<=cap/\cap<=9223372036854775807/\(∀ k,c=some k->cap=k)/\∃ cs,CR ψ (·∈st.ids) S w cs ys/\ys.length=n*sz/\kpp w n cs A:=by
 unfold rdSl rdH at h;split at h
 ·rename_i size m xs;cases a:(Nat.beq size sz && Nat.beq m xs.length) with
  | false=>rw [a] at h;cases h
  | true=>
   rw [a] at h;simp only [qe,qb,qj] at h;obtain ⟨rfl,rfl,rfl⟩:=h;simp only [qn] at a;obtain rfl:=qf a.1;have hv:=hv.inv;obtain ⟨A,cap,css,rfl,_⟩:=hv.lst_inv;obtain ⟨_,p,q,r⟩:=kq3 (ψ:=ψ) (K:=(·∈st.ids)) hv;exact ⟨A,cap,rfl,p,q,(fun k hk=>by cases hk),r⟩
 ·rename_i size m xs;cases a:(Nat.beq size sz && Nat.beq m xs.length) with
  | false=>rw [a] at h;cases h
  | true=>
   rw [a] at h;simp only [qe,qb,qj] at h;obtain ⟨rfl,rfl,rfl⟩:=h;simp only [qn] at a;obtain rfl:=qf a.1;cases hv with
   | lim hv=>
    obtain ⟨_,p,q,r⟩:=kq3 (ψ:=ψ) (K:=(·∈st.ids)) hv;exact ⟨_,_,rfl,p,q,(fun k hk=>by injection hk),r⟩
 simp only [qb,qj] at h;obtain ⟨rfl,rfl,rfl⟩:=h;rw [hv.atom];exact ⟨none,0,rfl,qt _,by omega,(fun k hk=>by injection hk),[],CR.nil,by simp,rfl,rfl⟩
 ·rename_i id g off len cap;split at h
  ·rename_i g' cells ho;cases a:(Nat.beq g g' && Nat.ble (off+len*sz) cells.length) with
   | false=>rw [a] at h;cases h
   | true=>
    rw [a] at h;simp only [qe,qb,qj] at h;obtain ⟨rfl,rfl,rfl⟩:=h;simp only [qn] at a;obtain rfl:=qf a.1;have z:=qk a.2;obtain ⟨B,b,cs,e,q1,q2,q3,q4,q5⟩:=kde y ho;obtain ⟨hK,b',c',f,rfl,s,hm,d⟩:=kef hv B;rw [q1] at f;simp only [qb] at f;subst f;have t:CR ψ (·∈st.ids) S w (cs.toList.take cells.length) cells:=⟨by simp;omega,q4,fun i v x hv C=>by
     rw [qw] at hv;split at hv;exact q5 i v x (by simpa using hv) C
     ·cases hv⟩
    refine ⟨some ⟨b,off,none⟩,c',rfl,s,hm,(fun k hk=>by rw [hk] at d;exact d),_,t.sub off (len*sz),by simp;omega,fun j u l=>?_⟩;rw [kbl];rw [qw] at l;split at l
    ·rw [qae,qw] at l;split at l;exact kke q2 (by simpa using l)
     ·cases l
    ·cases l
  ·cases h
 ·cases h
theorem klg:ψ.set id (ψ.len id) (ψ.val id)=ψ:=by
 unfold Env.set;congr 1
 ·funext i;split;rename_i h;rw [h]
  ·rfl
 ·funext i;split;rename_i h;rw [h]
  ·rfl
theorem setC {g b:Nat} {cells cells':List AV} {cs new:Array Value} {e:TypeId} (a:Core F S0 N0 st.heap st.ids ψ S w) (h:objC st id=some (g,cells)) (c:kav (ψ.val id)=some b) (d:w.heap[b]?=some (.cells cs e (0,0))) (q:new.size=cs.size) (hl:cells'.length=cells.length)
  (h1:∀ x∈cells',x.single=true) (hr:∀ (i:Nat) (v:Value) (x:AV),new[i]?=some v->cells'[i]?=some x->RV ψ (·∈st.ids) S w v x):
  Core F S0 N0 (putC st id cells') st.ids ψ S (w.setRow b new)/\Fr F w (w.setRow b new)/\Same S w (w.setRow b new):=by
 have p:(w.setRow b new).heap.size=w.heap.size:=by simp [World.setRow]
 have f:∀ k,k<w.heap.size->¬ Blk (ψ.val id) k->(w.setRow b new).heap[k]?=w.heap[k]?:=fun k _ hk=>kgy b new k fun e=>hk (.of (by rw [c,e]));have key:∀ ob ob',kab st.heap id=some ob->(∀ hk:Same S w (w.setRow b new),ObR ψ (·∈st.ids) S (w.setRow b new) id ob')->Core F S0 N0 ((id,ob')::st.heap) st.ids ψ S (w.setRow b new)/\Fr F w (w.setRow b new)/\Same S w (w.setRow b new):=fun ob ob' ho j=>by obtain ⟨r,_,l⟩:=a.obj id _ ho;have hk:Same S w (w.setRow b new):=fun k hk hl=>f k hl fun e=>(l k e).1 hk;obtain ⟨c1,c2,c3⟩:=a.upd (n:=ψ.len id) (v:=ψ.val id) (w':=w.setRow b new) (ob':=ob') ho (by omega) f (.inr ⟨rfl,rfl⟩) (fun b c => .inl c) (by rw [klg];exact j hk);rw [klg] at c1;exact ⟨c1,⟨rfl,rfl,rfl,by omega,c3⟩,c2⟩
 have j:=fun id o ho=>(a.obj id o ho).2.1;unfold objC objH at h;unfold putC;split at h;rename_i e' cells0 ho;simp only [qb,qj] at h;obtain ⟨rfl,rfl⟩:=h;obtain ⟨q0,b',cs',q1,q2,q3,q4,q5⟩:=j id _ ho;rw [q1] at c;simp only [kav,qb] at c;subst c;rw [d] at q2;injection q2 with q2;injection q2 with e1 e2;subst e1 e2;exact key _ _ ho fun hk=>⟨q0,b',new,q1,kfa b' d,by omega,h1,fun i v x hv m=>(hr i v x hv m).keep Ext.refl (fun _ h=>h) (fun _ h=>h) hk⟩;rename_i g' e' sz cells0 ho;simp only [qb,qj] at h;obtain ⟨rfl,rfl⟩:=h;obtain ⟨q0,qz,b',cs',n,cap,q1,q2,q3,q4,q5,q6,q7⟩:=j id _ ho;rw [q1] at c;simp only [kav,qb] at c;subst c;rw [d] at q2;injection q2 with q2;injection q2 with e1 e2;subst e1 e2;exact key _ _ ho fun hk=>⟨q0,qz,b',new,n,cap,q1,kfa b' d,by omega,q4,by omega,h1,fun i v x hv m=>(hr i v x hv m).keep Ext.refl (fun _ h=>h) (fun _ h=>h) hk⟩
 ·cases h
theorem km5 {g off:Nat} {cells ys:List AV} {vs:List Value} (c:Core F S0 N0 st.heap st.ids ψ S w) (h:objC st id=some (g,cells)) (j:off+ys.length<=cells.length) (hr:CR ψ (·∈st.ids) S w vs ys):
  ∃ b w1,kav (ψ.val id)=some b/\(storeCells ⟨b,off,none⟩ vs).run P w = .ok () w1/\Core F S0 N0 (putC st id (kbj cells off ys)) st.ids ψ S w1/\Fr F w w1/\Same S w w1:=by
 obtain ⟨m,b,cs,e,q1,q2,q3,q4,q5⟩:=kde (fun id o ho=>(c.obj id o ho).2.1) h;have hst:=run_storeCells_at (P:=P) b off e vs 0 cs w q2 (by rw [hr.1];omega) hr.one;simp only [Nat.add_zero] at hst;obtain ⟨new,d⟩:∃ new:Array Value,new=(cs.toList.take off++vs++cs.toList.drop (off+vs.length)).toArray:=⟨_,rfl⟩;rw [<- d] at hst;have k:new.toList=kbj cs.toList off vs:=by rw [d];simp [kbj,List.append_assoc]
 have f:off+vs.length<=cs.toList.length:=by simp [hr.1];omega
 have l:new.size=cs.size:=by rw [<- qas,k,keg _ _ _ f];simp
 obtain ⟨c1,c2,c3⟩:=setC (cells':=kbj cells off ys) c h q1 q2 l (keg _ _ _ j) (fun z a=>by
   unfold kbj at a;simp only [qad] at a;rcases a with a | a | a;exact q4 z (qa5 a);exact hr.2.1 z a
   ·exact q4 z (qaz a)) fun i v z hv a=>by
  rw [<- qav,k,ke9 _ _ _ f] at hv;rw [ke9 _ _ _ j] at a;rw [hr.1] at hv;split at hv;rename_i hi;rw [qq hi] at a;exact hr.2.2 _ v z hv a
  ·rename_i hi;rw [qh hi] at a;exact q5 _ v z (by simpa using hv) a
 exact ⟨b,w.setRow b new,q1,hst,c1,c2,c3⟩
theorem kvt {x y:Operand} {g off:Nat} {cells ys:List AV} (ho:o.op = .store t x y) (m:TdOk P t d) (n:st.eval x = .ref id g off) (i:objC st id=some (g,cells)) (hy:(st.eval y).cells=ys) (hl:ys.length=d.size) (h1:ys.all AV.single=true)
  (k:off+ys.length<=cells.length):StepA P o st .any (putC st id (kbj cells off ys)) st.ids:=by
 subst hy;intro F S0 N0 ψ S a w e;have c:=e.core;have j:=CR.cells (e.eval y) h1;obtain ⟨b,w1,q1,q2,q3,q4,q5⟩:=km5 (P:=P) c i k j;obtain ⟨p,_⟩:=kde (fun id o ho=>(c.obj id o ho).2.1) i;have hv:=e.eval x;rw [n] at hv;have l:a.eval x = .pointer (some ⟨b,off,none⟩):=by
  generalize a.eval x=u at hv;cases hv with
  | ref hK hn h1 hv=>
   obtain ⟨b',f,rfl⟩:=hv p.symm;rw [q1] at f;simp only [qb] at f;rw [f]
 refine kf4 (w':=w1) ?_ ⟨ψ,S,q3, .any,q4,Ext.refl,fun _ h=>h,fun _ h=>h,q5⟩;have hcl:(a.eval y).cells.size=d.size:=by have:=j.1;simp at this;omega
 simp only [execOp,ho,Instr.storeAt,l,Instr.sureAddr,storeVar,m.size,Sem.run_bind,Sem.run_pure,Result.andThen_ok];rw [qh (by rw [hcl];simp)];simp only [q2];rfl
end
end Go.Proofs.YtpnnpkmjohkgiaaGreatDoor
