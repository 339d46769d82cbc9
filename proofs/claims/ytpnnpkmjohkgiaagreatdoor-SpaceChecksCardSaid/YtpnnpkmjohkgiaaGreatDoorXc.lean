import Derived.Test.YtpnnpkmjohkgiaaGreatDoorXb
set_option linter.all false
namespace Go.Proofs.YtpnnpkmjohkgiaaGreatDoor
open Go Go.RowKit
def kls (size:Nat):Nat->List (Nat×AV)->Option (List AV)
 | _,[]=>some []
 | i,(j,x)::l=>bif Nat.beq j i && (Nat.beq x.cells.length size && x.cells.all AV.single) then (match kls size (i+1) l with
  | some ys=>some (x.cells++ys)
  | none=>none) else none
def kd1 (E:Operand->AV) (d:Nat):Option Operand->Option Nat
 | none=>some d
 | some y=>match E y with
  | .fz (.atom (.int _ n))=>bif decide (0<=n) then some n.toNat else none
  | _=>none
abbrev kda (st:St) (d:Nat):Option Operand->Option Nat:=kd1 st.eval d
def kl2:List AV->Option (List Int)
 | []=>some []
 | .fz (.atom (.int .u8 n))::l=>match kl2 l with
  | some r=>some (n::r)
  | none=>none
 | _=>none
def lstX:AV->Option (Nat×Nat×List FV)
 | .fz (.lst s n xs)=>some (s,n,xs)
 | .lim s n xs=>some (s,n,xs)
 | _=>none
section
variable {P:Program} {F S0:Nat->Prop} {N0:Nat} {w w':World} {S S':Nat->Prop} {ψ ψ':Env} {K:Nat->Prop} {T:List (TypeId×TD)} {o:Oper} {a:Act} {st:St} {t tx:TypeId} {d:TD} {id:Nat}
theorem e_mkE {X Y:Operand} {e:TypeId} {de:TD} {k k':IntKind} {zv:Value} {n c:Int} (K:o.op = .makeSlice t X Y) (J:TOk P T) (z:kab T t=some d) (hk:d.kind = .slice e) (m:kab T e=some de)
  (A:de.size=1) (B:de.zero=[zv]) (r:zv.oneCell'=true) (q:st.eval X = .fz (.atom (.int k n))) (hy:st.eval Y = .fz (.atom (.int k' c))) (h0:0<=n) (C:n<=c) (D:(de.bytes:Int)*c<=281474976710656) (E:c<=9223372036854775807) (g:st.ids.contains id=false):
  kaq P o st (.bsl id 0 0 n.toNat (some c.toNat)) ((id, .xo (.blk 0 e 1 (List.replicate c.toNat (.fz (.atom zv)))))::st.heap) (id::st.ids):=by
 have g:id∉st.ids:=by simpa using g
 have z:=J.get z;have m:=J.get m;intro F S0 N0 ψ S a w p;have j:=p.eval X;rw [q] at j;have j:=j.atom;have l:=p.eval Y;rw [hy] at l;have l:=l.atom;obtain ⟨⟨i,z',hi,G,H,L,I⟩,_⟩:=m;have f:=p.core;have hcl:z'.cells=#[zv]:=by apply qbd;rw [I,B]
 have hr:=run_make (P:=P) w t e i z' (z.slice hk) hi L k k' n c h0 C (by rw [H];exact D) E;rw [G,A,hcl,Nat.mul_one] at hr;have s:Grow w (w.alloc (.cells (madeCells #[zv] c.toNat) e)):=kbc _ _;refine kae (w':=w.alloc (.cells (madeCells #[zv] c.toNat) e)) (v := .slice (some ⟨w.heap.size,0,none⟩) n.toNat c.toNat) ?_ ⟨ψ.set id 0 (.slice (some ⟨w.heap.size,0,none⟩) n.toNat c.toNat),S,?_,?_,kgj _ f.fr,kcw g _ _,fun _ h=>qu _ h,fun _ h=>h,Same.of_grow s⟩;simp [execOp,K,j,l,hr]
 ·refine f.add s g (fun b D=>by simp [ka1] at D;omega) ⟨kcs _ _,by omega,w.heap.size,madeCells #[zv] c.toNat,n.toNat,c.toNat,kat _ _,heap_alloc_new w _,by rw [size_madeCells,Nat.mul_one],by omega,by rw [size_madeCells];simp,fun x q=>?_,fun i v x hv q=>?_⟩;rw [List.mem_replicate] at q;rw [q.2];exact r
  ·have u:=qt q;rw [List.mem_replicate] at u;rw [u.2];rw [<- qai,toList_madeCells_one] at hv;have y:=qt hv;rw [List.mem_replicate] at y;rw [y.2];exact .fz (.atom r)
 ·exact .bsl (q9 ..) (qag _) rfl fun _=>⟨w.heap.size,c.toNat,by rw [kat];rfl,rfl,by omega,by omega,rfl⟩
theorem kro {ids:List Nat} (ht:∀ t,RV ψ (·∈ids) S w (a.tmps.getD t undef) (st.get t)) {size:Nat}:∀ {i:Nat} {l:List (Nat×Operand)} {ys:List AV},kls size i (l.map fun p=>(p.1,st.eval p.2))=some ys ->
  (l.map fun p=>(p.1,a.eval p.2))=((l.map fun p=>a.eval p.2).zipIdx i).map (fun x=>(x.2,x.1))/\(∀ v∈l.map (fun p=>a.eval p.2),v.cells.size=size)/\CR ψ (·∈ids) S w ((l.map fun p=>a.eval p.2).flatMap fun v=>v.cells.toList) ys/\ys.length=l.length*size
 | i,[],ys,h=>by simp only [List.map_nil,kls,qc] at h;subst h;exact ⟨rfl,(fun v hv=>by cases hv),CR.nil,by simp⟩
 | i,(j,x)::l,ys,h=>by
  simp only [qa2,kls] at h;cases c:(Nat.beq j i && (Nat.beq (st.eval x).cells.length size && (st.eval x).cells.all AV.single)) with
  | false=>rw [c] at h;cases h
  | true=>
   rw [c] at h;simp only [qd] at h;split at h
   ·rename_i zs f;injection h with h;subst h;simp only [qp] at c;obtain ⟨d,b,e⟩:=c;obtain rfl:=qh d;have b:=qh b;obtain ⟨e1,e2,e3,e4⟩:=kro ht f;have hc:=CR.cells (Sim.eval_tmps ht x) e;refine ⟨by simp only [qa2,List.zipIdx_cons,e1],fun v hv=>?_,?_,by simp [b,e4,qa0];omega⟩
    ·simp only [qa2] at hv;rcases qaw.1 hv with rfl | hv;have:=hc.1;simp at this;omega
     ·exact e2 v hv
    ·simp only [qa2,List.flatMap_cons];exact hc.append e3
   ·cases h
theorem k7z {n:Nat} {parts:Array (Nat×Operand)} {e:TypeId} {de:TD} {ys:List AV} (H:o.op = .buildSlice t n parts) (I:TdOk P t d) (hk:d.kind = .slice e) (q:TdOk P e de) (l:0<de.size) (hn:parts.toList.length=n) (E:n*de.size<=16777216)
  (hp:kls de.size 0 (kcp st parts)=some ys) (c:st.ids.contains id=false):kaq P o st (.bsl id 0 0 n (some n)) ((id, .xo (.blk 0 e de.size ys))::st.heap) (id::st.ids):=by
 have c:id∉st.ids:=by simpa using c
 subst hn;intro F S0 N0 ψ S a w r;have f:=r.core;obtain ⟨e1,e2,e3,e4⟩:=kro r.tmps hp;obtain ⟨vs,s⟩:∃ vs:List Value,vs=parts.toList.map (fun p=>a.eval p.2):=⟨_,rfl⟩;rw [<- s] at e1 e2 e3;have y:vs.length=parts.toList.length:=by rw [s];simp
 obtain ⟨z,A,J⟩:=q.zero (P:=P) (w:=w);obtain ⟨cells,hcl⟩:∃ cells:Array Value,cells=(vs.flatMap fun v=>v.cells.toList).toArray:=⟨_,rfl⟩;have B:(parts.map fun (i,x)=>(i,a.eval x)).toList=(vs.zipIdx 0).map (fun x=>(x.2,x.1)):=by rw [<- e1];simp
 have u:(Instr.buildSlice t parts.toList.length (parts.map fun (i,x)=>(i,a.eval x))).run P w = .ok (.slice (some ⟨w.heap.size,0,none⟩) parts.toList.length parts.toList.length) (w.alloc (.cells cells e)):=by
  have C:¬ parts.toList.length*de.size > 2 ^ 24:=by omega
  have g:∀ c0:Array Value,parts.toList.length*de.size=c0.size->Instr.fill (fun i=>some (i*de.size,de.size)) c0 (parts.map fun (i,x)=>(i,a.eval x)).toList=some cells:=fun c0 D=>by rw [B,Great.fill_whole l vs c0 e2 (by rw [y];exact D),hcl]
  unfold Instr.buildSlice;rw [Sem.run_bind,run_underlying (I.slice hk),Result.andThen_ok];simp only [Sem.run_bind,q.size,Result.andThen_ok,ql C];by_cases h0:parts.toList.length*de.size=0
  ·simp only [qq h0,Sem.run_bind,Sem.run_pure,Result.andThen_ok];rw [g];rfl
   ·simp
  ·simp only [ql h0,Sem.run_bind,A,Result.andThen_ok,Sem.run_pure];rw [g];rfl
   ·simp
 have m:Grow w (w.alloc (.cells cells e)):=kbc _ _;have k:cells.size=parts.toList.length*de.size:=by rw [hcl,List.size_toArray,e3.1,e4]
 have G:parts.toList.length*1<=parts.toList.length*de.size:=Nat.mul_le_mul_left _ l;refine kae (w':=w.alloc (.cells cells e)) (v := .slice (some ⟨w.heap.size,0,none⟩) parts.toList.length parts.toList.length) ?_ ⟨ψ.set id 0 (.slice (some ⟨w.heap.size,0,none⟩) parts.toList.length parts.toList.length),S,?_,?_,kgj _ f.fr,kcw c _ _,fun _ h=>qu _ h,fun _ h=>h,Same.of_grow m⟩;have j:=u;simp only [execOp,H,Sem.run_bind];rw [show (parts.map fun (i,x)=>(i,a.eval x))=parts.map (fun x=>(x.1,a.eval x.2)) from rfl] at j;simp only [j];rfl;refine f.add m c (fun b E=>by simp [ka1] at E;omega) ⟨kcs _ _,l,w.heap.size,cells,_,_,kat _ _,heap_alloc_new w _,k,by omega,by rw [k,e4];exact qy _,e3.2.1,fun i v x hv K=>?_⟩;exact (e3.2.2 i v x (by rw [hcl] at hv;simpa using hv) K).keep (kcw c _ _) (fun _ h=>qu _ h) (fun _ h=>h) (Same.of_grow m)
 ·exact .bsl (q9 ..) (qag _) rfl fun _=>⟨w.heap.size,_,by rw [kat];rfl,rfl,qy _,by omega,rfl⟩
theorem kbq {ids:List Nat} (ht:∀ t,RV ψ (·∈ids) S w (a.tmps.getD t undef) (st.get t)) {x:Option Operand} {D r:Nat} (h:kda st D x=some r):(x=none/\r=D)\/∃ y k,x=some y/\a.eval y = .int k (r:Int):=by
 unfold kda kd1 at h;split at h;injection h with h;exact .inl ⟨rfl,h.symm⟩
 ·rename_i y;split at h
  ·rename_i k n hk;cases h0:decide (0<=n) with
   | false=>rw [h0] at h;cases h
   | true=>
    rw [h0] at h;simp only [qd,qc] at h;have h1:=Sim.eval_tmps ht y;rw [hk] at h1;have hn:(r:Int)=n:=(by rw [<- h];exact Int.toNat_of_nonneg (by simpa using h0));exact .inr ⟨y,k,rfl,by rw [hn];exact h1.atom⟩
  ·cases h
theorem kgu {lo hi mx:Option Operand} {isS:Bool} {len cap L H M:Nat} (d:(lo=none/\L=0)\/∃ y k,lo=some y/\a.eval y = .int k (L:Int)) (e:(hi=none/\H=len)\/∃ y k,hi=some y/\a.eval y = .int k (H:Int)) (g:(mx=none/\M=cap)\/∃ y k,mx=some y/\a.eval y = .int k (M:Int))
  (h1:L<=H) (c:H<=M) (f:M<=cap) (h:mx.isSome=true->hi.isSome=true):(Instr.sliceBounds isS len cap (lo.map a.eval) (hi.map a.eval) (mx.map a.eval)).run P w = .ok (L,H,M) w:=by
 have q1:(L:Int)<=(H:Int):=by omega
 have q2:(H:Int)<=(M:Int):=by omega
 have q3:(M:Int)<=(cap:Int):=by omega
 have q4:(H:Int)<=(cap:Int):=by omega
 have p1:(0:Int)<=(L:Int):=by omega
 have p2:(0:Int)<=(H:Int):=by omega
 have p3:(0:Int)<=(M:Int):=by omega
 have sb:∀ {u:Value} {k:IntKind} {n y:Nat} {code:BoundsCode},u = .int k (n:Int)->n<=y->(Instr.sliceBound u y code).run P w = .ok n w:=fun {u k n y code} i j=>by
  subst i;have e1:(0:Int)<=(n:Int):=by omega
  have e2:(n:Int)<=(y:Int):=by omega
  simp only [Instr.sliceBound,asIntOf,Sem.run_bind,Sem.run_pure,Result.andThen_ok];rw [qq ⟨e1,e2⟩];simp
 unfold Instr.sliceBounds;rcases g with ⟨rfl,rfl⟩ | ⟨ym,km,rfl,hm⟩
 ·rcases e with ⟨rfl,rfl⟩ | ⟨yh,kh,rfl,b⟩
  ·rcases d with ⟨rfl,rfl⟩ | ⟨yl,kl,rfl,hl⟩;simp
   ·simp [sb hl h1]
  ·rcases d with ⟨rfl,rfl⟩ | ⟨yl,kl,rfl,hl⟩;simp [sb b c]
   ·simp [sb b c,sb hl h1]
 ·rcases e with ⟨rfl,rfl⟩ | ⟨yh,kh,rfl,b⟩;exact absurd (h rfl) (by simp)
  ·rcases d with ⟨rfl,rfl⟩ | ⟨yl,kl,rfl,hl⟩;simp [sb hm f,sb b c]
   ·simp [sb hm f,sb b c,sb hl h1]
def offE (off L M size:Nat):Nat:=bif Nat.beq M L then off else off+L*size
theorem kno {b off L M size:Nat}:(if M=L then (⟨b,off,none⟩:Addr) else (⟨b,off,none⟩:Addr).add (L*size))=⟨b,offE off L M size,none⟩:=by
 unfold offE;by_cases h:M=L;subst h;simp
 ·rw [ql h,Nat.beq_eq_false h,kb2];rfl
theorem n_slB {x:Operand} {lo hi mx:Option Operand} {e:TypeId} {de:TD} {g off len k L H M:Nat} {cells:List AV} (p:o.op = .slice t x lo hi mx) (m:TOk P T) (q:kab T t=some d) (hk:d.kind = .slice e) (h:kab T e=some de) (r:st.eval x = .bsl id g off len (some k)) (i:objC st id=some (g,cells))
  (hl:kda st 0 lo=some L) (s:kda st len hi=some H) (hm:kda st k mx=some M) (h1:L<=H) (u:H<=M) (y:M<=k) (z:mx.isSome=true->hi.isSome=true):NStep P o st (.bsl id g (offE off L M de.size) (H - L) (some (M - L))):=by
 intro ψ S a w ht A;obtain ⟨B,_⟩:=kez A i;have hv:=Sim.eval_tmps ht x;rw [r] at hv;obtain ⟨hK,b,c,C,j,D,n,f⟩:=kf3 hv B;have f:c=k:=f;subst f;have e1:=kgu (P:=P) (w:=w) (isS:=true) (kbq ht hl) (kbq ht s) (kbq ht hm) h1 u y z;refine kae (w':=w) (v := .slice (some ⟨b,offE off L M de.size,none⟩) (H - L) (M - L)) ?_ ⟨kag _, .bsl hK (by omega) rfl fun _=>⟨b,M - L,C,rfl,by omega,by omega,rfl⟩⟩;have l:=(m.get h).size (P:=P) (w:=w);rw [<- kno];simp [execOp,p,Instr.sliceAt,Instr.slice,run_underlying ((m.get q).slice hk),j,e1,l];split <;> rfl
theorem n_slU {x:Operand} {lo hi:Option Operand} {e:TypeId} {de:TD} {g len H:Nat} {cells:List AV} (p:o.op = .slice t x lo hi none) (n:TOk P T) (q:kab T t=some d) (hk:d.kind = .slice e) (j:kab T e=some de) (r:st.eval x = .bsl id g 0 len none) (k:objC st id=some (g,cells))
  (hl:kda st 0 lo=some 0) (s:kda st len hi=some H) (B:H<=len):NStep P o st (.bsl id g 0 H none):=by
 intro ψ S a w ht u;obtain ⟨y,_⟩:=kez u k;have hv:=Sim.eval_tmps ht x;rw [r] at hv;obtain ⟨hK,b,c,z,l,A,f,i⟩:=kf3 hv y;have e1:=kgu (P:=P) (w:=w) (isS:=true) (mx:=none) (cap:=c) (M:=c) (kbq ht hl) (kbq ht s) (.inl ⟨rfl,rfl⟩) (qag _) (by omega) (qy _) (fun h=>by cases h);refine kae (w':=w) (v := .slice (some ⟨b,0,none⟩) H c) ?_ ⟨kag _, .bsl hK (by omega) rfl fun _=>⟨b,c,z,rfl,by omega,f,i⟩⟩;have m:=(n.get j).size (P:=P) (w:=w);simp only [Option.map_none] at e1;simp [execOp,p,Instr.sliceAt,Instr.slice,run_underlying ((n.get q).slice hk),l,e1,m,kb2]
theorem n_slM {x:Operand} {lo hi:Option Operand} {y:Operand} {e:TypeId} {de:TD} {g len L H M:Nat} {cells:List AV} (p:o.op = .slice t x lo hi (some y)) (l:TOk P T) (q:kab T t=some d) (hk:d.kind = .slice e) (f:kab T e=some de) (r:st.eval x = .bsl id g 0 len none) (i:objC st id=some (g,cells))
  (hl:kda st 0 lo=some L) (s:kda st len hi=some H) (hm:kda st 0 (some y)=some M) (h1:L<=H) (u:H<=M) (F:M<=len) (z:hi.isSome=true):NStep P o st (.bsl id g (offE 0 L M de.size) (H - L) (some (M - L))):=by
 intro ψ S a w ht A;obtain ⟨B,_⟩:=kez A i;have hv:=Sim.eval_tmps ht x;rw [r] at hv;obtain ⟨hK,b,c,C,j,D,m,n⟩:=kf3 hv B;have E:=(kbq ht hm).resolve_left (fun h=>by cases h.1);have e1:=kgu (P:=P) (w:=w) (isS:=true) (mx:=some y) (cap:=c) (M:=M) (kbq ht hl) (kbq ht s) (.inr E) h1 u (by omega) (fun _=>z);refine kae (w':=w) (v := .slice (some ⟨b,offE 0 L M de.size,none⟩) (H - L) (M - L)) ?_ ⟨kag _, .bsl hK (by omega) rfl fun _=>⟨b,M - L,C,rfl,by omega,by omega,rfl⟩⟩;have k:=(l.get f).size (P:=P) (w:=w);rw [<- kno];simp only [qa1] at e1;simp [execOp,p,Instr.sliceAt,Instr.slice,run_underlying ((l.get q).slice hk),j,e1,k];split <;> rfl
theorem k4z {x:Operand} {lo hi mx:Option Operand} {n e:Nat} {de:TD} {g off L H M:Nat} {cells:List AV} (m:o.op = .slice t x lo hi mx) (l:TOk P T) (p:kab T t=some d) (hk:d.kind = .arr n e) (h:kab T e=some de) (q:st.eval x = .ref id g off) (i:objC st id=some (g,cells))
  (hl:kda st 0 lo=some L) (r:kda st n hi=some H) (hm:kda st n mx=some M) (h1:L<=H) (s:H<=M) (y:M<=n) (z:mx.isSome=true->hi.isSome=true) (hn:n<=9223372036854775807):NStep P o st (.bsl id g (offE off L M de.size) (H - L) (some (M - L))):=by
 intro ψ S a w ht A;obtain ⟨B,b0,_,_,f,_⟩:=kez A i;have hv:=Sim.eval_tmps ht x;rw [q] at hv;have b:g<=ψ.len id/\id∈st.ids/\a.eval x = .pointer (some ⟨b0,off,none⟩):=by
  generalize a.eval x=u at hv;cases hv with
  | ref hK hn h1 hv=>
   obtain ⟨b',c,rfl⟩:=hv B.symm;rw [f] at c;simp only [qc] at c;rw [c];exact ⟨hn,hK,rfl⟩
 obtain ⟨j,hK,b⟩:=b;have e1:=kgu (P:=P) (w:=w) (isS:=false) (kbq ht hl) (kbq ht r) (kbq ht hm) h1 s y z;refine kae (w':=w) (v := .slice (some ⟨b0,offE off L M de.size,none⟩) (H - L) (M - L)) ?_ ⟨kag _, .bsl hK j rfl fun _=>⟨b0,M - L,f,rfl,by omega,by omega,rfl⟩⟩;have k:=(l.get h).size (P:=P) (w:=w);rw [<- kno];simp [execOp,m,Instr.sliceAt,run_underlying ((l.get p).arr hk),Instr.sureAddr,b,e1,k]
theorem kq5 {v:Value} {x:AV} {s n:Nat} {xs:List FV} (h:RV ψ K S w v x) (a:lstX x=some (s,n,xs)):∃ A cap,v = .slice A n cap/\RF S w (.slice A n cap) (.lst s n xs):=by
 unfold lstX at a;split at a;simp only [qc,qm] at a;obtain ⟨rfl,rfl,rfl⟩:=a;have h:=h.inv;obtain ⟨A,cap,css,rfl,_⟩:=h.lst_inv;exact ⟨A,cap,rfl,h⟩
 ·simp only [qc,qm] at a;obtain ⟨rfl,rfl,rfl⟩:=a;cases h with
  | lim h=>exact ⟨_,_,rfl,h⟩
 ·cases a
theorem n_slF {x:Operand} {lo hi:Option Operand} {e:TypeId} {de:TD} {n L H:Nat} {xs:List FV} (p:o.op = .slice t x lo hi none) (l:TOk P T) (q:kab T t=some d) (hk:d.kind = .slice e) (b:kab T e=some de) (r:lstX (st.eval x)=some (de.size,n,xs))
  (hl:kda st 0 lo=some L) (s:kda st n hi=some H) (h1:L<=H) (u:H<=n):NStep P o st (.fz (.lst de.size (H - L) ((xs.take H).drop L))):=by
 intro ψ S a w ht z;obtain ⟨A,cap,c,m⟩:=kq5 (Sim.eval_tmps ht x) r;obtain ⟨_,_,css,f,hn,y,hm,_⟩:=m.lst_inv;injection f with q1 q2 q3;subst q1 q3;have e1:=kgu (P:=P) (w:=w) (isS:=true) (mx:=none) (cap:=cap) (M:=cap) (kbq ht hl) (kbq ht s) (.inl ⟨rfl,rfl⟩) h1 (by omega) (qy _) (fun h=>by cases h);obtain ⟨A',g,i⟩:=m.take (v := .nilFunc) (k:=0) L H h1 u;refine kae (w':=w) (v := .slice A' (H - L) (cap - L)) ?_ ⟨kag _,(RV.fz i).here⟩;have j:=(l.get b).size (P:=P) (w:=w);simp only [Option.map_none] at e1;simp [execOp,p,Instr.sliceAt,Instr.slice,run_underlying ((l.get q).slice hk),c,e1,j,g]
theorem RF.takeE {A:Option Addr} {cap n size:Nat} {xs:List FV} (h:RF S w (.slice A n cap) (.lst size n xs)) (lo hi:Nat) (h1:lo<=hi) (f:hi<=n):RF S w (.slice (if hi=lo then A else A.map (·.add (lo*size))) (hi - lo) (hi - lo)) (.lst size (hi - lo) ((xs.take hi).drop lo)):=by
 obtain ⟨A0,cap0,css,hv,hn,hc,hm,hs,ha,hl,hr⟩:=h.lst_inv;injection hv with e1 _ e3;subst e1 e3;have c:(xs.take hi).length=hi:=by rw [qam];omega
 have get:∀ (i:Nat) (x:FV),((xs.take hi).drop lo)[i]?=some x->xs[lo+i]?=some x:=fun i x a=>by
  rw [qad,qw] at a;split at a;exact a
  ·cases a
 refine .lst (fun i=>css (lo+i)) (by rw [qa7,c]) (by omega) (by omega) hs (fun i x a=>?_) (fun i x a=>hl _ x (get i x a)) fun i x j v y a hv hy=>hr _ x j v y (get i x a) hv hy;obtain ⟨b,o,hA,hS,d⟩:=ha _ x (get i x a);have e:=(qg.1 a).1;rw [qa7,c] at e;refine ⟨b,o+lo*size,?_,hS,by rw [Nat.add_assoc,<- qa0];exact d⟩;rw [ql (by omega),hA];simp only [qa1,kb2]
theorem k64 {x y:Operand} {lo hi:Option Operand} {e:TypeId} {de:TD} {n L H:Nat} {xs:List FV} (l:o.op = .slice t x lo hi (some y)) (j:TOk P T) (m:kab T t=some d) (hk:d.kind = .slice e) (b:kab T e=some de) (p:lstX (st.eval x)=some (de.size,n,xs))
  (hl:kda st 0 lo=some L) (q:kda st n hi=some H) (hm:kda st 0 (some y)=some H) (h1:L<=H) (r:H<=n) (s:hi.isSome=true):NStep P o st (.lim de.size (H - L) ((xs.take H).drop L)):=by
 intro ψ S a w ht C;obtain ⟨A,cap,c,k⟩:=kq5 (Sim.eval_tmps ht x) p;obtain ⟨_,_,css,f,hn,u,z,_⟩:=k.lst_inv;injection f with q1 q2 q3;subst q1 q3;have B:=(kbq ht hm).resolve_left (fun h=>by cases h.1);have e1:=kgu (P:=P) (w:=w) (isS:=true) (mx:=some y) (cap:=cap) (M:=H) (kbq ht hl) (kbq ht q) (.inr B) h1 (qy _) (by omega) (fun _=>s);have g:=k.takeE L H h1 r;refine kae (w':=w) (v := .slice (if H=L then A else A.map (·.add (L*de.size))) (H - L) (H - L)) ?_ ⟨kag _,(RV.lim g).here⟩;have i:=(j.get b).size (P:=P) (w:=w);simp only [qa1] at e1;simp [execOp,l,Instr.sliceAt,Instr.slice,run_underlying ((j.get m).slice hk),c,e1,i]
theorem n_sl0 {x:Operand} {lo hi mx:Option Operand} {e:TypeId} {de:TD} (g:o.op = .slice t x lo hi mx) (f:TOk P T) (h:kab T t=some d) (hk:d.kind = .slice e) (b:kab T e=some de) (i:st.eval x = .fz (.atom nilV))
  (hl:kda st 0 lo=some 0) (j:kda st 0 hi=some 0) (hm:kda st 0 mx=some 0) (k:mx.isSome=true->hi.isSome=true):NStep P o st (.fz (.atom nilV)):=by
 intro ψ S a w ht l;have hv:=Sim.eval_tmps ht x;rw [i] at hv;have hv:=hv.atom;have e1:=kgu (P:=P) (w:=w) (isS:=true) (kbq ht hl) (kbq ht j) (kbq ht hm) (qy _) (qy _) (qy _) k;refine kae (w':=w) (v:=nilV) ?_ ⟨kag _, .fz (.atom rfl)⟩;have c:=(f.get b).size (P:=P) (w:=w);simp [execOp,g,Instr.sliceAt,Instr.slice,run_underlying ((f.get h).slice hk),hv,nilV,e1,c]
theorem k7h {x:Operand} {e:TypeId} {g off len:Nat} {cap:Option Nat} {cells:List AV} (i:o.op = .call { callee := .builtin .len,args:=#[x],argTypes:=#[t] }) (j:TdOk P t d) (hk:d.kind = .slice e) (k:st.eval x = .bsl id g off len cap) (f:objC st id=some (g,cells)):NStep P o st (.fz (.atom (.int .i64 len))):=by intro ψ S a w ht l;obtain ⟨m,_⟩:=kez l f;have hv:=Sim.eval_tmps ht x;rw [k] at hv;obtain ⟨hK,b,c,n,h,_⟩:=kf3 hv m;refine kae (w':=w) (v := .int .i64 len) ?_ ⟨kag _, .fz (.atom rfl)⟩;simp [execOp,i,resolve,invoke,builtin,Builtin.len_,run_underlying (j.slice hk),h,goInt]
theorem k73 {x:Operand} {e:TypeId} {sz m k:Nat} {ys:List AV} (f:o.op = .call { callee := .builtin .cap,args:=#[x],argTypes:=#[t] }) (g:TdOk P t d) (hk:d.kind = .slice e) (h:rdSl sz st (st.eval x)=some (m,some k,ys)):NStep P o st (.fz (.atom (.int .i64 k))):=by intro ψ S a w ht i;obtain ⟨A,cap,c,_,_,b,_⟩:=kjx (Sim.eval_tmps ht x) i h;obtain rfl:=b k rfl;refine kae (w':=w) (v := .int .i64 cap) ?_ ⟨kag _, .fz (.atom rfl)⟩;simp [execOp,f,resolve,invoke,builtin,Builtin.cap_,run_underlying (g.slice hk),c,goInt]
theorem ko3 {op:BinOp} {x y:Operand} {u v:Option Addr} {n m c d:Nat}:(eqGuard op t x y (.slice u n c) (.slice v m d)).run P w = .ok () w:=by unfold eqGuard;cases op <;> simp
theorem kyc {u v:Option Addr} {n m c e:Nat} {r:Bool} (h:∀ d:Nat,(Op.equalIn (d+1) t (.slice u n c) (.slice v m e)).run P w = .ok r w):(binOp .eql t (.slice u n c) (.slice v m e)).run P w = .ok (.bool r) w/\(binOp .neq t (.slice u n c) (.slice v m e)).run P w = .ok (.bool !r) w:=by constructor <;> (simp only [binOp];simp [Op.equal,Op.maxDepth,h 9999])
theorem ky2 {x y:Operand} {yt te:TypeId} (neg r:Bool) (p:o.op = .binOp (if neg then .neq else .eql) t x y yt) (ht:P.underlying t=some (.slice te)) (h:(r=true/\st.eval x = .fz (.atom nilV))\/(r=false/\((∃ id g off len cap cells,st.eval x = .bsl id g off len cap/\objC st id=some (g,cells))\/∃ s n z zs,lstX (st.eval x)=some (s,n,z::zs)))) (hy:st.eval y = .fz (.atom nilV)):
  NStep P o st (.fz (.atom (.bool (bif neg then !r else r)))):=by
 intro ψ S a w i q;have h1:=Sim.eval_tmps i x;have j:=Sim.eval_tmps i y;rw [hy] at j;have j:=j.atom;have key:∃ A n c,a.eval x = .slice A n c/\A.isNone=r:=by
  rcases h with ⟨rfl,h⟩ | ⟨rfl,⟨id,g,off,len,cap,cells,h,k⟩ | ⟨s,n,z,zs,h⟩⟩;rw [h] at h1;exact ⟨none,0,0,h1.atom,rfl⟩;rw [h] at h1;obtain ⟨B,_⟩:=kez q k;obtain ⟨hK,b,c,E,f,_⟩:=kf3 h1 B;exact ⟨_,_,_,f,rfl⟩
  ·obtain ⟨A,cap,f,C⟩:=kq5 h1 h;obtain ⟨_,_,css,l,hn,D,hm,hs,ha,_⟩:=C.lst_inv;injection l with q1 q2 q3;subst q1 q3;obtain ⟨b,o,rfl,_⟩:=ha 0 z rfl;exact ⟨_,_,_,f,rfl⟩
 obtain ⟨A,n,c,f,hA⟩:=key;refine kae (w':=w) (v := .bool (bif neg then !r else r)) ?_ ⟨kag _, .fz (.atom rfl)⟩;obtain ⟨q1,q2⟩:=kyc (P:=P) (w:=w) (t:=t) (r:=r) (u:=A) (v:=none) (n:=n) (c:=c) (m:=0) (e:=0) fun d=>by cases A <;> simp at hA <;> subst hA <;> simp [Op.equalIn,run_underlying ht]
 cases neg;simp [execOp,p,f,j,nilV,ko3] at q1 ⊢;simp [q1]
 ·simp [execOp,p,f,j,nilV,ko3] at q2 ⊢;simp [q2]
theorem k4y {x y:Operand} {t1 t2 e:TypeId} {d1 de:TD} {g off len n:Nat} {cap c2:Option Nat} {cells ys:List AV} (m:o.op = .call { callee := .builtin .copy,args:=#[x,y],argTypes:=#[t1,t2] }) (B:TOk P T) (G:kab T t1=some d1) (hk:d1.kind = .slice e) (p:kab T e=some de)
  (H:st.eval x = .bsl id g off len cap) (i:objC st id=some (g,cells)) (hy:rdSl de.size st (st.eval y)=some (n,c2,ys)) (q:off+(ys.take (min n len*de.size)).length<=cells.length):
  kaq P o st (.fz (.atom (.int .i64 ((min n len:Nat):Int)))) (putC st id (kb5 cells off (ys.take (min n len*de.size)))) st.ids:=by
 intro F S0 N0 ψ S a w f;have d:=f.core;have C:=fun id o m=>(d.obj id o m).2.1;obtain ⟨I,_⟩:=kez C i;have hv:=f.eval x;rw [H] at hv;obtain ⟨hK,b,c,J,r,_⟩:=kf3 hv I;obtain ⟨A,cap',s,_,_,_,cs,D,K,E⟩:=kjx (f.eval y) C hy;have t:CR ψ (·∈st.ids) S w (cs.take (min n len*de.size)) (ys.take (min n len*de.size)):=by simpa using D.sub 0 (min n len*de.size)
 obtain ⟨b',w1,q1,q2,q3,q4,q5⟩:=krf (P:=P) d i q t;rw [J] at q1;simp only [qc] at q1;subst q1;have L:(min n len)*de.size<=n*de.size:=qay _ (Nat.min_le_left n len);have u:(Builtin.firstCells de.size (min n len) (.slice A n cap')).run P w = .ok (cs.take (min n len*de.size)).toArray w:=by
  cases A with
  | none=>
   obtain ⟨rfl,rfl⟩:=E;simpa using run_firstCells_none (P:=P) w de.size (min 0 len) 0 cap'
  | some ad=>
   refine run_firstCells_some w de.size (min n len) ad n cap' _ (by rw [qam,D.1,K];omega) fun j v l=>?_;rw [qw] at l;split at l;exact E j v l
   ·cases l
 refine kae (w':=w1) (v := .int .i64 ((min n len:Nat):Int)) ?_ ⟨ψ,S,q3, .fz (.atom rfl),q4,Ext.refl,fun _ h=>h,fun _ h=>h,q5⟩;have z:=(B.get p).size (P:=P) (w:=w);have k:Nat.min n len=min n len:=rfl;simp [execOp,m,resolve,invoke,builtin,Builtin.copy_,run_underlying ((B.get G).slice hk),r,s,Builtin.lenOf,z,k,u,q2,goInt]
theorem ksg:∀ {l:List AV} {r:List Int},kl2 l=some r->l=r.map fun n => .fz (.atom (.int .u8 n))
 | [],r,h=>by simp only [kl2,qc] at h;subst h;rfl
 | x::l,r,h=>by
  unfold kl2 at h;split at h;rename_i h0;cases h0
  ·rename_i n l' h0;injection h0 with h1 a;subst h1 a;split at h;rename_i r' hr;injection h with h;subst h;rw [ksg hr];rfl
   ·cases h
  ·cases h
theorem k6y {sr e:TypeId} {x:Operand} {n:Nat} {c:Option Nat} {ys:List AV} {xs:List Int} {ds de:TD} (g:TOk P T) (s:o.op = .convert sr t x) (hs:kab T sr=some ds) (h:ds.kind = .slice e) (u:kab T e=some de) (i:de.kind = .int .u8) (y:kab T t=some d) (hk:d.kind = .str)
  (z:rdSl 1 st (st.eval x)=some (n,c,ys)) (hi:kl2 ys=some xs):NStep P o st (.fz (.atom (.string (toBA xs)))):=by
 intro ψ S a w ht B;obtain ⟨A,cap,k,_,_,_,cs,l,C,q⟩:=kjx (Sim.eval_tmps ht x) B z;obtain rfl:=ksg hi;obtain ⟨_,e',h1,m⟩:=g.get u;rw [i] at m;cases e' <;> simp only [kai] at m;subst m;have p:cs=xs.map (Value.int .u8):=by
  apply List.ext_getElem?;intro j;by_cases r:j<cs.length;have b:j<xs.length:=(by have:=l.1;simp at this;omega);have:=l.2.2 j cs[j] _ (qa r) (by rw [qv,qa b];rfl);rw [qa r,this.atom];simp [b]
  ·have:=l.1;simp at this;rw [qax (by omega),qax (by simp;omega)]
 refine kae (w':=w) (v := .string (toBA xs)) ?_ ⟨kag _, .fz (.atom rfl)⟩;have hn:xs.length=n:=by simpa using C
 have f:(Conv.bytesToString (.slice A n cap)).run P w = .ok (.string (toBA xs)) w:=by
  cases A with
  | none=>
   obtain ⟨rfl,h0⟩:=q;have:xs=[]:=qan hn;subst this;rfl
  | some ad=>
   refine run_bytesToString w ad n cap xs ?_;have:=run_loadCells_list (P:=P) w ad cs q;rw [p] at this
   rwa [qat,hn] at this
 simp only [execOp,s,k,Sem.run_bind];rw [run_convert_bytes_string w sr t e A n cap ((g.get hs).slice h) h1 ((g.get y).str hk),f];rfl
end
end Go.Proofs.YtpnnpkmjohkgiaaGreatDoor
