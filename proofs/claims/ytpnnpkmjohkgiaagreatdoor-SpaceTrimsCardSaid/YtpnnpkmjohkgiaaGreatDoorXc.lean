import Derived.Test.YtpnnpkmjohkgiaaGreatDoorXb
set_option linter.all false
namespace Go.Proofs.YtpnnpkmjohkgiaaGreatDoor
open Go Go.RowKit
def kh8 (size:Nat):Nat->List (Nat×AV)->Option (List AV)
 | _,[]=>some []
 | i,(j,x)::l=>bif Nat.beq j i && (Nat.beq x.cells.length size && x.cells.all AV.single) then (match kh8 size (i+1) l with
  | some ys=>some (x.cells++ys)
  | none=>none) else none
def kcp (E:Operand->AV) (d:Nat):Option Operand->Option Nat
 | none=>some d
 | some y=>match E y with
  | .fz (.atom (.int _ n))=>bif decide (0<=n) then some n.toNat else none
  | _=>none
abbrev kca (st:St) (d:Nat):Option Operand->Option Nat:=kcp st.eval d
def kif:List AV->Option (List Int)
 | []=>some []
 | .fz (.atom (.int .u8 n))::l=>match kif l with
  | some r=>some (n::r)
  | none=>none
 | _=>none
def lstX:AV->Option (Nat×Nat×List FV)
 | .fz (.lst s n xs)=>some (s,n,xs)
 | .lim s n xs=>some (s,n,xs)
 | _=>none
section
variable {P:Program} {F S0:Nat->Prop} {N0:Nat} {w w':World} {S S':Nat->Prop} {ψ ψ':Env} {K:Nat->Prop} {T:List (TypeId×TD)} {o:Oper} {a:Act} {st:St} {t tx:TypeId} {d:TD} {id:Nat}
theorem e_mkE {X Y:Operand} {e:TypeId} {de:TD} {k k':IntKind} {zv:Value} {n c:Int} (ho:o.op = .makeSlice t X Y) (J:TOk P T) (z:kad T t=some d) (hk:d.kind = .slice e) (m:kad T e=some de)
  (A:de.size=1) (B:de.zero=[zv]) (r:zv.oneCell'=true) (q:st.eval X = .fz (.atom (.int k n))) (hy:st.eval Y = .fz (.atom (.int k' c))) (h0:0<=n) (C:n<=c) (D:(de.bytes:Int)*c<=281474976710656) (E:c<=9223372036854775807) (g:st.ids.contains id=false):
  StepA P o st (.bsl id 0 0 n.toNat (some c.toNat)) ((id, .xo (.blk 0 e 1 (List.replicate c.toNat (.fz (.atom zv)))))::st.heap) (id::st.ids):=by
 have g:id∉st.ids:=by simpa using g
 have z:=J.get z;have m:=J.get m;intro F S0 N0 ψ S a w p;have j:=p.eval X;rw [q] at j;have j:=j.atom;have l:=p.eval Y;rw [hy] at l;have l:=l.atom;obtain ⟨⟨i,z',hi,G,H,K,I⟩,_⟩:=m;have f:=p.core;have hcl:z'.cells=#[zv]:=by apply qa8;rw [I,B]
 have hr:=run_make (P:=P) w t e i z' (z.slice hk) hi K k k' n c h0 C (by rw [H];exact D) E;rw [G,A,hcl,Nat.mul_one] at hr;have s:Grow w (w.alloc (.cells (madeCells #[zv] c.toNat) e)):=ka7 _ _;refine kaf (w':=w.alloc (.cells (madeCells #[zv] c.toNat) e)) (v := .slice (some ⟨w.heap.size,0,none⟩) n.toNat c.toNat) ?_ ⟨ψ.set id 0 (.slice (some ⟨w.heap.size,0,none⟩) n.toNat c.toNat),S,?_,?_,kel _ f.fr,kb2 g _ _,fun _ h=>qs _ h,fun _ h=>h,Same.of_grow s⟩;simp [execOp,ho,j,l,hr]
 ·refine f.add s g (fun b D=>by simp [kav] at D;omega) ⟨kbz _ _,by omega,w.heap.size,madeCells #[zv] c.toNat,n.toNat,c.toNat,kar _ _,heap_alloc_new w _,by rw [size_madeCells,Nat.mul_one],by omega,by rw [size_madeCells];simp,fun x q=>?_,fun i v x hv q=>?_⟩;rw [List.mem_replicate] at q;rw [q.2];exact r
  ·have u:=qm q;rw [List.mem_replicate] at u;rw [u.2];rw [<- qav,toList_madeCells_one] at hv;have y:=qm hv;rw [List.mem_replicate] at y;rw [y.2];exact .fz (.atom r)
 ·exact .bsl (qv ..) (qar _) rfl fun _=>⟨w.heap.size,c.toNat,by rw [kar];rfl,rfl,by omega,by omega,rfl⟩
theorem kna {ids:List Nat} (ht:∀ t,RV ψ (·∈ids) S w (a.tmps.getD t undef) (st.get t)) {size:Nat}:∀ {i:Nat} {l:List (Nat×Operand)} {ys:List AV},kh8 size i (l.map fun p=>(p.1,st.eval p.2))=some ys ->
  (l.map fun p=>(p.1,a.eval p.2))=((l.map fun p=>a.eval p.2).zipIdx i).map (fun x=>(x.2,x.1))/\(∀ v∈l.map (fun p=>a.eval p.2),v.cells.size=size)/\CR ψ (·∈ids) S w ((l.map fun p=>a.eval p.2).flatMap fun v=>v.cells.toList) ys/\ys.length=l.length*size
 | i,[],ys,h=>by simp only [List.map_nil,kh8,qb] at h;subst h;exact ⟨rfl,(fun v hv=>by cases hv),CR.nil,by simp⟩
 | i,(j,x)::l,ys,h=>by
  simp only [qa3,kh8] at h;cases c:(Nat.beq j i && (Nat.beq (st.eval x).cells.length size && (st.eval x).cells.all AV.single)) with
  | false=>rw [c] at h;cases h
  | true=>
   rw [c] at h;simp only [qe] at h;split at h
   ·rename_i zs f;injection h with h;subst h;simp only [qn] at c;obtain ⟨d,b,e⟩:=c;obtain rfl:=qf d;have b:=qf b;obtain ⟨e1,e2,e3,e4⟩:=kna ht f;have hc:=CR.cells (Sim.eval_tmps ht x) e;refine ⟨by simp only [qa3,List.zipIdx_cons,e1],fun v hv=>?_,?_,by simp [b,e4,qa4];omega⟩
    ·simp only [qa3] at hv;rcases qaw.1 hv with rfl | hv;have:=hc.1;simp at this;omega
     ·exact e2 v hv
    ·simp only [qa3,List.flatMap_cons];exact hc.append e3
   ·cases h
theorem k12 {n:Nat} {parts:Array (Nat×Operand)} {e:TypeId} {de:TD} {ys:List AV} (ho:o.op = .buildSlice t n parts) (H:TdOk P t d) (hk:d.kind = .slice e) (q:TdOk P e de) (l:0<de.size) (hn:parts.toList.length=n) (E:n*de.size<=16777216)
  (hp:kh8 de.size 0 (kbv st parts)=some ys) (c:st.ids.contains id=false):StepA P o st (.bsl id 0 0 n (some n)) ((id, .xo (.blk 0 e de.size ys))::st.heap) (id::st.ids):=by
 have c:id∉st.ids:=by simpa using c
 subst hn;intro F S0 N0 ψ S a w r;have f:=r.core;obtain ⟨e1,e2,e3,e4⟩:=kna r.tmps hp;obtain ⟨vs,s⟩:∃ vs:List Value,vs=parts.toList.map (fun p=>a.eval p.2):=⟨_,rfl⟩;rw [<- s] at e1 e2 e3;have y:vs.length=parts.toList.length:=by rw [s];simp
 obtain ⟨z,A,I⟩:=q.zero (P:=P) (w:=w);obtain ⟨cells,hcl⟩:∃ cells:Array Value,cells=(vs.flatMap fun v=>v.cells.toList).toArray:=⟨_,rfl⟩;have B:(parts.map fun (i,x)=>(i,a.eval x)).toList=(vs.zipIdx 0).map (fun x=>(x.2,x.1)):=by rw [<- e1];simp
 have u:(Instr.buildSlice t parts.toList.length (parts.map fun (i,x)=>(i,a.eval x))).run P w = .ok (.slice (some ⟨w.heap.size,0,none⟩) parts.toList.length parts.toList.length) (w.alloc (.cells cells e)):=by
  have C:¬ parts.toList.length*de.size > 2 ^ 24:=by omega
  have g:∀ c0:Array Value,parts.toList.length*de.size=c0.size->Instr.fill (fun i=>some (i*de.size,de.size)) c0 (parts.map fun (i,x)=>(i,a.eval x)).toList=some cells:=fun c0 D=>by rw [B,Great.fill_whole l vs c0 e2 (by rw [y];exact D),hcl]
  unfold Instr.buildSlice;rw [Sem.run_bind,run_underlying (H.slice hk),Result.andThen_ok];simp only [Sem.run_bind,q.size,Result.andThen_ok,qh C];by_cases h0:parts.toList.length*de.size=0
  ·simp only [qq h0,Sem.run_bind,Sem.run_pure,Result.andThen_ok];rw [g];rfl
   ·simp
  ·simp only [qh h0,Sem.run_bind,A,Result.andThen_ok,Sem.run_pure];rw [g];rfl
   ·simp
 have m:Grow w (w.alloc (.cells cells e)):=ka7 _ _;have k:cells.size=parts.toList.length*de.size:=by rw [hcl,List.size_toArray,e3.1,e4]
 have G:parts.toList.length*1<=parts.toList.length*de.size:=Nat.mul_le_mul_left _ l;refine kaf (w':=w.alloc (.cells cells e)) (v := .slice (some ⟨w.heap.size,0,none⟩) parts.toList.length parts.toList.length) ?_ ⟨ψ.set id 0 (.slice (some ⟨w.heap.size,0,none⟩) parts.toList.length parts.toList.length),S,?_,?_,kel _ f.fr,kb2 c _ _,fun _ h=>qs _ h,fun _ h=>h,Same.of_grow m⟩;have j:=u;simp only [execOp,ho,Sem.run_bind];rw [show (parts.map fun (i,x)=>(i,a.eval x))=parts.map (fun x=>(x.1,a.eval x.2)) from rfl] at j;simp only [j];rfl;refine f.add m c (fun b E=>by simp [kav] at E;omega) ⟨kbz _ _,l,w.heap.size,cells,_,_,kar _ _,heap_alloc_new w _,k,by omega,by rw [k,e4];exact qt _,e3.2.1,fun i v x hv J=>?_⟩;exact (e3.2.2 i v x (by rw [hcl] at hv;simpa using hv) J).keep (kb2 c _ _) (fun _ h=>qs _ h) (fun _ h=>h) (Same.of_grow m)
 ·exact .bsl (qv ..) (qar _) rfl fun _=>⟨w.heap.size,_,by rw [kar];rfl,rfl,qt _,by omega,rfl⟩
theorem kbd {ids:List Nat} (ht:∀ t,RV ψ (·∈ids) S w (a.tmps.getD t undef) (st.get t)) {x:Option Operand} {D r:Nat} (h:kca st D x=some r):(x=none/\r=D)\/∃ y k,x=some y/\a.eval y = .int k (r:Int):=by
 unfold kca kcp at h;split at h;injection h with h;exact .inl ⟨rfl,h.symm⟩
 ·rename_i y;split at h
  ·rename_i k n hk;cases h0:decide (0<=n) with
   | false=>rw [h0] at h;cases h
   | true=>
    rw [h0] at h;simp only [qe,qb] at h;have h1:=Sim.eval_tmps ht y;rw [hk] at h1;have hn:(r:Int)=n:=(by rw [<- h];exact Int.toNat_of_nonneg (by simpa using h0));exact .inr ⟨y,k,rfl,by rw [hn];exact h1.atom⟩
  ·cases h
theorem kev {lo hi mx:Option Operand} {isS:Bool} {len cap L H M:Nat} (d:(lo=none/\L=0)\/∃ y k,lo=some y/\a.eval y = .int k (L:Int)) (e:(hi=none/\H=len)\/∃ y k,hi=some y/\a.eval y = .int k (H:Int)) (g:(mx=none/\M=cap)\/∃ y k,mx=some y/\a.eval y = .int k (M:Int))
  (h1:L<=H) (c:H<=M) (f:M<=cap) (h:mx.isSome=true->hi.isSome=true):(Instr.sliceBounds isS len cap (lo.map a.eval) (hi.map a.eval) (mx.map a.eval)).run P w = .ok (L,H,M) w:=by
 have q1:(L:Int)<=(H:Int):=by omega
 have q2:(H:Int)<=(M:Int):=by omega
 have q3:(M:Int)<=(cap:Int):=by omega
 have q4:(H:Int)<=(cap:Int):=by omega
 have p1:(0:Int)<=(L:Int):=by omega
 have p2:(0:Int)<=(H:Int):=by omega
 have p3:(0:Int)<=(M:Int):=by omega
 have sb:∀ {u:Value} {k:IntKind} {n y:Nat} {code:BoundsCode},u = .int k (n:Int)->n<=y->(Instr.sliceBound u y code).run P w = .ok n w:=fun {u k n y code} i j=>by
  subst i;have e1:(0:Int)<=(n:Int):=by omega
  have e2:(n:Int)<=(y:Int):=by omega
  simp only [Instr.sliceBound,asIntOf,Sem.run_bind,Sem.run_pure,Result.andThen_ok];rw [qq ⟨e1,e2⟩];simp
 unfold Instr.sliceBounds;rcases g with ⟨rfl,rfl⟩ | ⟨ym,km,rfl,hm⟩
 ·rcases e with ⟨rfl,rfl⟩ | ⟨yh,kh,rfl,b⟩
  ·rcases d with ⟨rfl,rfl⟩ | ⟨yl,kl,rfl,hl⟩;simp
   ·simp [sb hl h1]
  ·rcases d with ⟨rfl,rfl⟩ | ⟨yl,kl,rfl,hl⟩;simp [sb b c]
   ·simp [sb b c,sb hl h1]
 ·rcases e with ⟨rfl,rfl⟩ | ⟨yh,kh,rfl,b⟩;exact absurd (h rfl) (by simp)
  ·rcases d with ⟨rfl,rfl⟩ | ⟨yl,kl,rfl,hl⟩;simp [sb hm f,sb b c]
   ·simp [sb hm f,sb b c,sb hl h1]
def offE (off L M size:Nat):Nat:=bif Nat.beq M L then off else off+L*size
theorem kjp {b off L M size:Nat}:(if M=L then (⟨b,off,none⟩:Addr) else (⟨b,off,none⟩:Addr).add (L*size))=⟨b,offE off L M size,none⟩:=by
 unfold offE;by_cases h:M=L;subst h;simp
 ·rw [qh h,Nat.beq_eq_false h,kbl];rfl
theorem n_slB {x:Operand} {lo hi mx:Option Operand} {e:TypeId} {de:TD} {g off len k L H M:Nat} {cells:List AV} (ho:o.op = .slice t x lo hi mx) (m:TOk P T) (p:kad T t=some d) (hk:d.kind = .slice e) (h:kad T e=some de) (q:st.eval x = .bsl id g off len (some k)) (i:objC st id=some (g,cells))
  (hl:kca st 0 lo=some L) (r:kca st len hi=some H) (hm:kca st k mx=some M) (h1:L<=H) (s:H<=M) (u:M<=k) (y:mx.isSome=true->hi.isSome=true):NStep P o st (.bsl id g (offE off L M de.size) (H - L) (some (M - L))):=by
 intro ψ S a w ht z;obtain ⟨A,_⟩:=kde z i;have hv:=Sim.eval_tmps ht x;rw [q] at hv;obtain ⟨hK,b,c,B,j,C,n,f⟩:=kef hv A;have f:c=k:=f;subst f;have e1:=kev (P:=P) (w:=w) (isS:=true) (kbd ht hl) (kbd ht r) (kbd ht hm) h1 s u y;refine kaf (w':=w) (v := .slice (some ⟨b,offE off L M de.size,none⟩) (H - L) (M - L)) ?_ ⟨kag _, .bsl hK (by omega) rfl fun _=>⟨b,M - L,B,rfl,by omega,by omega,rfl⟩⟩;have l:=(m.get h).size (P:=P) (w:=w);rw [<- kjp];simp [execOp,ho,Instr.sliceAt,Instr.slice,run_underlying ((m.get p).slice hk),j,e1,l];split <;> rfl
theorem n_slU {x:Operand} {lo hi:Option Operand} {e:TypeId} {de:TD} {g len H:Nat} {cells:List AV} (ho:o.op = .slice t x lo hi none) (n:TOk P T) (p:kad T t=some d) (hk:d.kind = .slice e) (j:kad T e=some de) (q:st.eval x = .bsl id g 0 len none) (k:objC st id=some (g,cells))
  (hl:kca st 0 lo=some 0) (r:kca st len hi=some H) (A:H<=len):NStep P o st (.bsl id g 0 H none):=by
 intro ψ S a w ht s;obtain ⟨u,_⟩:=kde s k;have hv:=Sim.eval_tmps ht x;rw [q] at hv;obtain ⟨hK,b,c,y,l,z,f,i⟩:=kef hv u;have e1:=kev (P:=P) (w:=w) (isS:=true) (mx:=none) (cap:=c) (M:=c) (kbd ht hl) (kbd ht r) (.inl ⟨rfl,rfl⟩) (qar _) (by omega) (qt _) (fun h=>by cases h);refine kaf (w':=w) (v := .slice (some ⟨b,0,none⟩) H c) ?_ ⟨kag _, .bsl hK (by omega) rfl fun _=>⟨b,c,y,rfl,by omega,f,i⟩⟩;have m:=(n.get j).size (P:=P) (w:=w);simp only [Option.map_none] at e1;simp [execOp,ho,Instr.sliceAt,Instr.slice,run_underlying ((n.get p).slice hk),l,e1,m,kbl]
theorem n_slM {x:Operand} {lo hi:Option Operand} {y:Operand} {e:TypeId} {de:TD} {g len L H M:Nat} {cells:List AV} (ho:o.op = .slice t x lo hi (some y)) (l:TOk P T) (p:kad T t=some d) (hk:d.kind = .slice e) (f:kad T e=some de) (q:st.eval x = .bsl id g 0 len none) (i:objC st id=some (g,cells))
  (hl:kca st 0 lo=some L) (r:kca st len hi=some H) (hm:kca st 0 (some y)=some M) (h1:L<=H) (s:H<=M) (E:M<=len) (u:hi.isSome=true):NStep P o st (.bsl id g (offE 0 L M de.size) (H - L) (some (M - L))):=by
 intro ψ S a w ht z;obtain ⟨A,_⟩:=kde z i;have hv:=Sim.eval_tmps ht x;rw [q] at hv;obtain ⟨hK,b,c,B,j,C,m,n⟩:=kef hv A;have D:=(kbd ht hm).resolve_left (fun h=>by cases h.1);have e1:=kev (P:=P) (w:=w) (isS:=true) (mx:=some y) (cap:=c) (M:=M) (kbd ht hl) (kbd ht r) (.inr D) h1 s (by omega) (fun _=>u);refine kaf (w':=w) (v := .slice (some ⟨b,offE 0 L M de.size,none⟩) (H - L) (M - L)) ?_ ⟨kag _, .bsl hK (by omega) rfl fun _=>⟨b,M - L,B,rfl,by omega,by omega,rfl⟩⟩;have k:=(l.get f).size (P:=P) (w:=w);rw [<- kjp];simp only [qa9] at e1;simp [execOp,ho,Instr.sliceAt,Instr.slice,run_underlying ((l.get p).slice hk),j,e1,k];split <;> rfl
theorem ky2 {x:Operand} {lo hi mx:Option Operand} {n e:Nat} {de:TD} {g off L H M:Nat} {cells:List AV} (ho:o.op = .slice t x lo hi mx) (l:TOk P T) (m:kad T t=some d) (hk:d.kind = .arr n e) (h:kad T e=some de) (p:st.eval x = .ref id g off) (i:objC st id=some (g,cells))
  (hl:kca st 0 lo=some L) (q:kca st n hi=some H) (hm:kca st n mx=some M) (h1:L<=H) (r:H<=M) (s:M<=n) (y:mx.isSome=true->hi.isSome=true) (hn:n<=9223372036854775807):NStep P o st (.bsl id g (offE off L M de.size) (H - L) (some (M - L))):=by
 intro ψ S a w ht z;obtain ⟨A,b0,_,_,f,_⟩:=kde z i;have hv:=Sim.eval_tmps ht x;rw [p] at hv;have b:g<=ψ.len id/\id∈st.ids/\a.eval x = .pointer (some ⟨b0,off,none⟩):=by
  generalize a.eval x=u at hv;cases hv with
  | ref hK hn h1 hv=>
   obtain ⟨b',c,rfl⟩:=hv A.symm;rw [f] at c;simp only [qb] at c;rw [c];exact ⟨hn,hK,rfl⟩
 obtain ⟨j,hK,b⟩:=b;have e1:=kev (P:=P) (w:=w) (isS:=false) (kbd ht hl) (kbd ht q) (kbd ht hm) h1 r s y;refine kaf (w':=w) (v := .slice (some ⟨b0,offE off L M de.size,none⟩) (H - L) (M - L)) ?_ ⟨kag _, .bsl hK j rfl fun _=>⟨b0,M - L,f,rfl,by omega,by omega,rfl⟩⟩;have k:=(l.get h).size (P:=P) (w:=w);rw [<- kjp];simp [execOp,ho,Instr.sliceAt,run_underlying ((l.get m).arr hk),Instr.sureAddr,b,e1,k]
theorem kmt {v:Value} {x:AV} {s n:Nat} {xs:List FV} (h:RV ψ K S w v x) (a:lstX x=some (s,n,xs)):∃ A cap,v = .slice A n cap/\RF S w (.slice A n cap) (.lst s n xs):=by
 unfold lstX at a;split at a;simp only [qb,qj] at a;obtain ⟨rfl,rfl,rfl⟩:=a;have h:=h.inv;obtain ⟨A,cap,css,rfl,_⟩:=h.lst_inv;exact ⟨A,cap,rfl,h⟩
 ·simp only [qb,qj] at a;obtain ⟨rfl,rfl,rfl⟩:=a;cases h with
  | lim h=>exact ⟨_,_,rfl,h⟩
 ·cases a
theorem n_slF {x:Operand} {lo hi:Option Operand} {e:TypeId} {de:TD} {n L H:Nat} {xs:List FV} (ho:o.op = .slice t x lo hi none) (l:TOk P T) (p:kad T t=some d) (hk:d.kind = .slice e) (b:kad T e=some de) (q:lstX (st.eval x)=some (de.size,n,xs))
  (hl:kca st 0 lo=some L) (r:kca st n hi=some H) (h1:L<=H) (s:H<=n):NStep P o st (.fz (.lst de.size (H - L) ((xs.take H).drop L))):=by
 intro ψ S a w ht y;obtain ⟨A,cap,c,m⟩:=kmt (Sim.eval_tmps ht x) q;obtain ⟨_,_,css,f,hn,u,hm,_⟩:=m.lst_inv;injection f with q1 q2 q3;subst q1 q3;have e1:=kev (P:=P) (w:=w) (isS:=true) (mx:=none) (cap:=cap) (M:=cap) (kbd ht hl) (kbd ht r) (.inl ⟨rfl,rfl⟩) h1 (by omega) (qt _) (fun h=>by cases h);obtain ⟨A',g,i⟩:=m.take (v := .nilFunc) (k:=0) L H h1 s;refine kaf (w':=w) (v := .slice A' (H - L) (cap - L)) ?_ ⟨kag _,(RV.fz i).here⟩;have j:=(l.get b).size (P:=P) (w:=w);simp only [Option.map_none] at e1;simp [execOp,ho,Instr.sliceAt,Instr.slice,run_underlying ((l.get p).slice hk),c,e1,j,g]
theorem RF.takeE {A:Option Addr} {cap n size:Nat} {xs:List FV} (h:RF S w (.slice A n cap) (.lst size n xs)) (lo hi:Nat) (h1:lo<=hi) (f:hi<=n):RF S w (.slice (if hi=lo then A else A.map (·.add (lo*size))) (hi - lo) (hi - lo)) (.lst size (hi - lo) ((xs.take hi).drop lo)):=by
 obtain ⟨A0,cap0,css,hv,hn,hc,hm,hs,ha,hl,hr⟩:=h.lst_inv;injection hv with e1 _ e3;subst e1 e3;have c:(xs.take hi).length=hi:=by rw [qam];omega
 have get:∀ (i:Nat) (x:FV),((xs.take hi).drop lo)[i]?=some x->xs[lo+i]?=some x:=fun i x a=>by
  rw [qae,qw] at a;split at a;exact a
  ·cases a
 refine .lst (fun i=>css (lo+i)) (by rw [qba,c]) (by omega) (by omega) hs (fun i x a=>?_) (fun i x a=>hl _ x (get i x a)) fun i x j v y a hv hy=>hr _ x j v y (get i x a) hv hy;obtain ⟨b,o,hA,hS,d⟩:=ha _ x (get i x a);have e:=(qd.1 a).1;rw [qba,c] at e;refine ⟨b,o+lo*size,?_,hS,by rw [Nat.add_assoc,<- qa4];exact d⟩;rw [qh (by omega),hA];simp only [qa9,kbl]
theorem k08 {x y:Operand} {lo hi:Option Operand} {e:TypeId} {de:TD} {n L H:Nat} {xs:List FV} (ho:o.op = .slice t x lo hi (some y)) (j:TOk P T) (l:kad T t=some d) (hk:d.kind = .slice e) (b:kad T e=some de) (m:lstX (st.eval x)=some (de.size,n,xs))
  (hl:kca st 0 lo=some L) (p:kca st n hi=some H) (hm:kca st 0 (some y)=some H) (h1:L<=H) (q:H<=n) (r:hi.isSome=true):NStep P o st (.lim de.size (H - L) ((xs.take H).drop L)):=by
 intro ψ S a w ht B;obtain ⟨A,cap,c,k⟩:=kmt (Sim.eval_tmps ht x) m;obtain ⟨_,_,css,f,hn,s,u,_⟩:=k.lst_inv;injection f with q1 q2 q3;subst q1 q3;have z:=(kbd ht hm).resolve_left (fun h=>by cases h.1);have e1:=kev (P:=P) (w:=w) (isS:=true) (mx:=some y) (cap:=cap) (M:=H) (kbd ht hl) (kbd ht p) (.inr z) h1 (qt _) (by omega) (fun _=>r);have g:=k.takeE L H h1 q;refine kaf (w':=w) (v := .slice (if H=L then A else A.map (·.add (L*de.size))) (H - L) (H - L)) ?_ ⟨kag _,(RV.lim g).here⟩;have i:=(j.get b).size (P:=P) (w:=w);simp only [qa9] at e1;simp [execOp,ho,Instr.sliceAt,Instr.slice,run_underlying ((j.get l).slice hk),c,e1,i]
theorem n_sl0 {x:Operand} {lo hi mx:Option Operand} {e:TypeId} {de:TD} (ho:o.op = .slice t x lo hi mx) (f:TOk P T) (g:kad T t=some d) (hk:d.kind = .slice e) (b:kad T e=some de) (h:st.eval x = .fz (.atom nilV))
  (hl:kca st 0 lo=some 0) (i:kca st 0 hi=some 0) (hm:kca st 0 mx=some 0) (j:mx.isSome=true->hi.isSome=true):NStep P o st (.fz (.atom nilV)):=by
 intro ψ S a w ht k;have hv:=Sim.eval_tmps ht x;rw [h] at hv;have hv:=hv.atom;have e1:=kev (P:=P) (w:=w) (isS:=true) (kbd ht hl) (kbd ht i) (kbd ht hm) (qt _) (qt _) (qt _) j;refine kaf (w':=w) (v:=nilV) ?_ ⟨kag _, .fz (.atom rfl)⟩;have c:=(f.get b).size (P:=P) (w:=w);simp [execOp,ho,Instr.sliceAt,Instr.slice,run_underlying ((f.get g).slice hk),hv,nilV,e1,c]
theorem k1k {x:Operand} {e:TypeId} {g off len:Nat} {cap:Option Nat} {cells:List AV} (ho:o.op = .call { callee := .builtin .len,args:=#[x],argTypes:=#[t] }) (i:TdOk P t d) (hk:d.kind = .slice e) (j:st.eval x = .bsl id g off len cap) (f:objC st id=some (g,cells)):NStep P o st (.fz (.atom (.int .i64 len))):=by intro ψ S a w ht k;obtain ⟨l,_⟩:=kde k f;have hv:=Sim.eval_tmps ht x;rw [j] at hv;obtain ⟨hK,b,c,m,h,_⟩:=kef hv l;refine kaf (w':=w) (v := .int .i64 len) ?_ ⟨kag _, .fz (.atom rfl)⟩;simp [execOp,ho,resolve,invoke,builtin,Builtin.len_,run_underlying (i.slice hk),h,goInt]
theorem k16 {x:Operand} {e:TypeId} {sz m k:Nat} {ys:List AV} (ho:o.op = .call { callee := .builtin .cap,args:=#[x],argTypes:=#[t] }) (f:TdOk P t d) (hk:d.kind = .slice e) (g:rdSl sz st (st.eval x)=some (m,some k,ys)):NStep P o st (.fz (.atom (.int .i64 k))):=by intro ψ S a w ht h;obtain ⟨A,cap,c,_,_,b,_⟩:=kg2 (Sim.eval_tmps ht x) h g;obtain rfl:=b k rfl;refine kaf (w':=w) (v := .int .i64 cap) ?_ ⟨kag _, .fz (.atom rfl)⟩;simp [execOp,ho,resolve,invoke,builtin,Builtin.cap_,run_underlying (f.slice hk),c,goInt]
theorem kk5 {op:BinOp} {x y:Operand} {u v:Option Addr} {n m c d:Nat}:(eqGuard op t x y (.slice u n c) (.slice v m d)).run P w = .ok () w:=by unfold eqGuard;cases op <;> simp
theorem ks9 {u v:Option Addr} {n m c e:Nat} {r:Bool} (h:∀ d:Nat,(Op.equalIn (d+1) t (.slice u n c) (.slice v m e)).run P w = .ok r w):(binOp .eql t (.slice u n c) (.slice v m e)).run P w = .ok (.bool r) w/\(binOp .neq t (.slice u n c) (.slice v m e)).run P w = .ok (.bool !r) w:=by constructor <;> (simp only [binOp];simp [Op.equal,Op.maxDepth,h 9999])
theorem ktt {x y:Operand} {yt te:TypeId} (neg r:Bool) (ho:o.op = .binOp (if neg then .neq else .eql) t x y yt) (ht:P.underlying t=some (.slice te)) (h:(r=true/\st.eval x = .fz (.atom nilV))\/(r=false/\((∃ id g off len cap cells,st.eval x = .bsl id g off len cap/\objC st id=some (g,cells))\/∃ s n z zs,lstX (st.eval x)=some (s,n,z::zs)))) (hy:st.eval y = .fz (.atom nilV)):
  NStep P o st (.fz (.atom (.bool (bif neg then !r else r)))):=by
 intro ψ S a w i p;have h1:=Sim.eval_tmps i x;have j:=Sim.eval_tmps i y;rw [hy] at j;have j:=j.atom;have key:∃ A n c,a.eval x = .slice A n c/\A.isNone=r:=by
  rcases h with ⟨rfl,h⟩ | ⟨rfl,⟨id,g,off,len,cap,cells,h,k⟩ | ⟨s,n,z,zs,h⟩⟩;rw [h] at h1;exact ⟨none,0,0,h1.atom,rfl⟩;rw [h] at h1;obtain ⟨q,_⟩:=kde p k;obtain ⟨hK,b,c,D,f,_⟩:=kef h1 q;exact ⟨_,_,_,f,rfl⟩
  ·obtain ⟨A,cap,f,B⟩:=kmt h1 h;obtain ⟨_,_,css,l,hn,C,hm,hs,ha,_⟩:=B.lst_inv;injection l with q1 q2 q3;subst q1 q3;obtain ⟨b,o,rfl,_⟩:=ha 0 z rfl;exact ⟨_,_,_,f,rfl⟩
 obtain ⟨A,n,c,f,hA⟩:=key;refine kaf (w':=w) (v := .bool (bif neg then !r else r)) ?_ ⟨kag _, .fz (.atom rfl)⟩;obtain ⟨q1,q2⟩:=ks9 (P:=P) (w:=w) (t:=t) (r:=r) (u:=A) (v:=none) (n:=n) (c:=c) (m:=0) (e:=0) fun d=>by cases A <;> simp at hA <;> subst hA <;> simp [Op.equalIn,run_underlying ht]
 cases neg;simp [execOp,ho,f,j,nilV,kk5] at q1 ⊢;simp [q1]
 ·simp [execOp,ho,f,j,nilV,kk5] at q2 ⊢;simp [q2]
theorem ky1 {x y:Operand} {t1 t2 e:TypeId} {d1 de:TD} {g off len n:Nat} {cap c2:Option Nat} {cells ys:List AV} (ho:o.op = .call { callee := .builtin .copy,args:=#[x,y],argTypes:=#[t1,t2] }) (z:TOk P T) (E:kad T t1=some d1) (hk:d1.kind = .slice e) (m:kad T e=some de)
  (G:st.eval x = .bsl id g off len cap) (i:objC st id=some (g,cells)) (hy:rdSl de.size st (st.eval y)=some (n,c2,ys)) (p:off+(ys.take (min n len*de.size)).length<=cells.length):
  StepA P o st (.fz (.atom (.int .i64 ((min n len:Nat):Int)))) (putC st id (kbj cells off (ys.take (min n len*de.size)))) st.ids:=by
 intro F S0 N0 ψ S a w f;have d:=f.core;have B:=fun id o ho=>(d.obj id o ho).2.1;obtain ⟨H,_⟩:=kde B i;have hv:=f.eval x;rw [G] at hv;obtain ⟨hK,b,c,I,q,_⟩:=kef hv H;obtain ⟨A,cap',r,_,_,_,cs,C,J,D⟩:=kg2 (f.eval y) B hy;have s:CR ψ (·∈st.ids) S w (cs.take (min n len*de.size)) (ys.take (min n len*de.size)):=by simpa using C.sub 0 (min n len*de.size)
 obtain ⟨b',w1,q1,q2,q3,q4,q5⟩:=km5 (P:=P) d i p s;rw [I] at q1;simp only [qb] at q1;subst q1;have K:(min n len)*de.size<=n*de.size:=qay _ (Nat.min_le_left n len);have t:(Builtin.firstCells de.size (min n len) (.slice A n cap')).run P w = .ok (cs.take (min n len*de.size)).toArray w:=by
  cases A with
  | none=>
   obtain ⟨rfl,rfl⟩:=D;simpa using run_firstCells_none (P:=P) w de.size (min 0 len) 0 cap'
  | some ad=>
   refine run_firstCells_some w de.size (min n len) ad n cap' _ (by rw [qam,C.1,J];omega) fun j v l=>?_;rw [qw] at l;split at l;exact D j v l
   ·cases l
 refine kaf (w':=w1) (v := .int .i64 ((min n len:Nat):Int)) ?_ ⟨ψ,S,q3, .fz (.atom rfl),q4,Ext.refl,fun _ h=>h,fun _ h=>h,q5⟩;have u:=(z.get m).size (P:=P) (w:=w);have k:Nat.min n len=min n len:=rfl;simp [execOp,ho,resolve,invoke,builtin,Builtin.copy_,run_underlying ((z.get E).slice hk),q,r,Builtin.lenOf,u,k,t,q2,goInt]
theorem knv:∀ {l:List AV} {r:List Int},kif l=some r->l=r.map fun n => .fz (.atom (.int .u8 n))
 | [],r,h=>by simp only [kif,qb] at h;subst h;rfl
 | x::l,r,h=>by
  unfold kif at h;split at h;rename_i h0;cases h0
  ·rename_i n l' h0;injection h0 with h1 a;subst h1 a;split at h;rename_i r' hr;injection h with h;subst h;rw [knv hr];rfl
   ·cases h
  ·cases h
theorem k03 {sr e:TypeId} {x:Operand} {n:Nat} {c:Option Nat} {ys:List AV} {xs:List Int} {ds de:TD} (g:TOk P T) (ho:o.op = .convert sr t x) (hs:kad T sr=some ds) (h:ds.kind = .slice e) (s:kad T e=some de) (i:de.kind = .int .u8) (u:kad T t=some d) (hk:d.kind = .str)
  (y:rdSl 1 st (st.eval x)=some (n,c,ys)) (hi:kif ys=some xs):NStep P o st (.fz (.atom (.string (toBA xs)))):=by
 intro ψ S a w ht z;obtain ⟨A,cap,k,_,_,_,cs,l,B,q⟩:=kg2 (Sim.eval_tmps ht x) z y;obtain rfl:=knv hi;obtain ⟨_,e',h1,m⟩:=g.get s;rw [i] at m;cases e' <;> simp only [kai] at m;subst m;have p:cs=xs.map (Value.int .u8):=by
  apply List.ext_getElem?;intro j;by_cases r:j<cs.length;have b:j<xs.length:=(by have:=l.1;simp at this;omega);have:=l.2.2 j cs[j] _ (qa r) (by rw [qr,qa b];rfl);rw [qa r,this.atom];simp [b]
  ·have:=l.1;simp at this;rw [qan (by omega),qan (by simp;omega)]
 refine kaf (w':=w) (v := .string (toBA xs)) ?_ ⟨kag _, .fz (.atom rfl)⟩;have hn:xs.length=n:=by simpa using B
 have f:(Conv.bytesToString (.slice A n cap)).run P w = .ok (.string (toBA xs)) w:=by
  cases A with
  | none=>
   obtain ⟨rfl,h0⟩:=q;have:xs=[]:=List.eq_nil_of_length_eq_zero hn;subst this;rfl
  | some ad=>
   refine run_bytesToString w ad n cap xs ?_;have:=run_loadCells_list (P:=P) w ad cs q;rw [p] at this
   rwa [qaj,hn] at this
 simp only [execOp,ho,k,Sem.run_bind];rw [run_convert_bytes_string w sr t e A n cap ((g.get hs).slice h) h1 ((g.get u).str hk),f];rfl
end
end Go.Proofs.YtpnnpkmjohkgiaaGreatDoor
