import Derived.Test.YtjnjipmjkkhdpaaGreatDoorXb
import Derived.Maps.RangeRun
set_option linter.all false
namespace Go.Proofs.YtjnjipmjkkhdpaaGreatDoor
open Go Go.RowKit
def koj (size:Nat):Nat->List (Nat×AV)->Option (List AV)
 | _,[]=>some []
 | i,(j,x)::l=>bif Nat.beq j i && (Nat.beq x.cells.length size && x.cells.all AV.single) then (match koj size (i+1) l with
  | some ys=>some (x.cells++ys)
  | none=>none) else none
def kd0 (E:Operand->AV) (d:Nat):Option Operand->Option Nat
 | none=>some d
 | some y=>match E y with
  | .fz (.atom (.int _ n))=>bif decide (0<=n) then some n.toNat else none
  | _=>none
abbrev kcs (st:St) (d:Nat):Option Operand->Option Nat:=kd0 st.eval d
def koo:List AV->Option (List Int)
 | []=>some []
 | .fz (.atom (.int .u8 n))::l=>match koo l with
  | some r=>some (n::r)
  | none=>none
 | _=>none
def lstX:AV->Option (Nat×Nat×List FV)
 | .fz (.lst s n xs)=>some (s,n,xs)
 | .lim s n xs=>some (s,n,xs)
 | _=>none
variable {P:Program} {F S0:Nat->Prop} {N0:Nat} {w w':World} {S S':Nat->Prop} {ψ ψ':Env} {K:Nat->Prop} {T:List (TypeId×TD)} {o:Oper} {a:Act} {st:St} {t tx:TypeId} {d:TD} {id:Nat}
def repC (c:Nat) (zs:List Value):List AV:=(List.replicate c (zs.map fun v=>AV.fz (.atom v))).flatten
theorem k1h {α:Type} (zs:List α) (a:0<zs.length):∀ (c k:Nat),k<c*zs.length->(List.replicate c zs).flatten[k]?=zs[k % zs.length]?
 | 0,k,h=>by simp at h
 | c+1,k,h=>by
  rw [List.replicate_succ,List.flatten_cons];by_cases hk:k<zs.length;rw [qab hk,Nat.mod_eq_of_lt hk]
  ·rw [qad (by omega),k1h zs a c _ (by rw [qaw,Nat.one_mul] at h;omega)];rw [Nat.mod_eq_sub_mod (by omega:zs.length<=k)]
theorem e_mkE {X Y:Operand} {e:TypeId} {de:TD} {k k':IntKind} {zs:List Value} {n c:Int} (O:o.op = .makeSlice t X Y) (N:TOk P T) (hd:kac T t=some d) (hk:d.kind = .slice e) (q:kac T e=some de)
  (r:0<de.size) (g:zs.length=de.size) (D:de.zero=zs) (y:∀ v∈zs,v.oneCell'=true) (hx:st.eval X = .fz (.atom (.int k n))) (hy:st.eval Y = .fz (.atom (.int k' c))) (h0:0<=n) (E:n<=c) (G:(de.bytes:Int)*c<=281474976710656) (H:c<=9223372036854775807) (j:st.ids.contains id=false):
  StepA P o st (.bsl id 0 0 n.toNat (some c.toNat)) ((id, .xo (.blk 0 e de.size (repC c.toNat zs)))::st.heap) (id::st.ids):=by
 have j:id∉st.ids:=by simpa using j
 have hd:=N.get hd;have q:=N.get q;intro F S0 N0 ψ S a w s;have m:=s.eval X;rw [hx] at m;have m:=m.atom;have p:=s.eval Y;rw [hy] at p;have p:=p.atom;obtain ⟨⟨i,z',hi,I,J,Q,K⟩,_⟩:=q;have f:=s.core;have hcl:z'.cells.toList=zs:=by rw [K,D]
 have u:z'.cells.size=de.size:=by rw [<- qac,hcl,g]
 have hr:=run_make (P:=P) w t e i z' (hd.slice hk) hi Q k k' n c h0 E (by rw [J];exact G) H;rw [I] at hr;have z:Grow w (w.alloc (.cells (madeCells z'.cells (c.toNat*de.size)) e)):=ka7 _ _;have A:∀ x∈repC c.toNat zs,x.single=true:=fun x hx=>by obtain ⟨l,hl,hx⟩:=List.mem_flatten.1 hx;rw [qbk] at hl;rw [hl.2] at hx;obtain ⟨v,hv,rfl⟩:=qap.1 hx;exact y v hv
 have B:(repC c.toNat zs).length=c.toNat*de.size:=by unfold repC;simp [g]
 refine kad (w.alloc (.cells (madeCells z'.cells (c.toNat*de.size)) e)) (.slice (some ⟨w.heap.size,0,none⟩) n.toNat c.toNat) ?_ ⟨ψ.set id 0 (.slice (some ⟨w.heap.size,0,none⟩) n.toNat c.toNat),S,?_,?_,kgj _ f.fr,ka3 j _ _,fun _ h=>qf _ h,fun _ h=>h,Same.of_grow z⟩;simp [execOp,O,m,p,hr]
 ·refine f.add z j (fun b G=>by simp [kap] at G;omega) ⟨kbf _ _,r,w.heap.size,madeCells z'.cells (c.toNat*de.size),n.toNat,c.toNat,kaj _ _,heap_alloc_new w _,by rw [size_madeCells],by omega,by rw [size_madeCells,B];omega,A,fun i v x hv hx=>?_⟩;have C:i<c.toNat*de.size:=by rw [<- B];exact (qd.1 hx).1
  have hm:i % de.size<z'.cells.size:=by rw [u];exact Nat.mod_lt _ r
  have L:(madeCells z'.cells (c.toNat*de.size))[i]?=z'.cells[i % z'.cells.size]?:=by have M:i % z'.cells.size<z'.cells.size:=(by rw [u];exact Nat.mod_lt _ r);simp [madeCells,C,M]
  rw [L,u,<- qal,hcl] at hv;unfold repC at hx;rw [k1h _ (by rw [qt];omega) _ _ (by rw [qt,g];exact C),qt,g,ql,hv] at hx;injection hx with hx;subst hx;exact .fz (.atom (y v (qm hv)))
 ·exact .bsl (qu ..) (qaq _) rfl fun _=>⟨w.heap.size,c.toNat,by rw [kaj];rfl,rfl,by omega,by omega,rfl⟩
theorem kvq {ids:List Nat} (ht:∀ t,RV ψ (·∈ids) S w (a.tmps.getD t undef) (st.get t)) {size:Nat}:∀ {i:Nat} {l:List (Nat×Operand)} {ys:List AV},koj size i (l.map fun p=>(p.1,st.eval p.2))=some ys ->
  (l.map fun p=>(p.1,a.eval p.2))=((l.map fun p=>a.eval p.2).zipIdx i).map (fun x=>(x.2,x.1))/\(∀ v∈l.map (fun p=>a.eval p.2),v.cells.size=size)/\CR ψ (·∈ids) S w ((l.map fun p=>a.eval p.2).flatMap fun v=>v.cells.toList) ys/\ys.length=l.length*size
 | i,[],ys,h=>by simp only [List.map_nil,koj,qc] at h;subst h;exact ⟨rfl,(fun v hv=>by cases hv),CR.nil,by simp⟩
 | i,(j,x)::l,ys,h=>by
  simp only [qba,koj] at h;cases c:(Nat.beq j i && (Nat.beq (st.eval x).cells.length size && (st.eval x).cells.all AV.single)) with
  | false=>rw [c] at h;cases h
  | true=>
   rw [c] at h;simp only [qg] at h;split at h
   ·rename_i zs f;injection h with h;subst h;simp only [qk] at c;obtain ⟨d,b,e⟩:=c;obtain rfl:=qe d;have b:=qe b;obtain ⟨e1,e2,e3,e4⟩:=kvq ht f;have hc:=CR.cells (Sim.eval_tmps ht x) e;refine ⟨by simp only [qba,List.zipIdx_cons,e1],fun v hv=>?_,?_,by simp [b,e4,qaw];omega⟩
    ·simp only [qba] at hv;rcases qaa.1 hv with rfl | hv;have:=hc.1;simp at this;omega
     ·exact e2 v hv
    ·simp only [qba,List.flatMap_cons];exact hc.append e3
   ·cases h
theorem kabk {n:Nat} {parts:Array (Nat×Operand)} {e:TypeId} {de:TD} {ys:List AV} (H:o.op = .buildSlice t n parts) (hd:TdOk P t d) (hk:d.kind = .slice e) (q:TdOk P e de) (l:0<de.size) (hn:parts.toList.length=n) (E:n*de.size<=16777216)
  (hp:koj de.size 0 (kb4 st parts)=some ys) (c:st.ids.contains id=false):StepA P o st (.bsl id 0 0 n (some n)) ((id, .xo (.blk 0 e de.size ys))::st.heap) (id::st.ids):=by
 have c:id∉st.ids:=by simpa using c
 subst hn;intro F S0 N0 ψ S a w r;have f:=r.core;obtain ⟨e1,e2,e3,e4⟩:=kvq r.tmps hp;obtain ⟨vs,s⟩:∃ vs:List Value,vs=parts.toList.map (fun p=>a.eval p.2):=⟨_,rfl⟩;rw [<- s] at e1 e2 e3;have y:vs.length=parts.toList.length:=by rw [s];simp
 obtain ⟨z,A,I⟩:=q.zero (P:=P) (w:=w);obtain ⟨cells,hcl⟩:∃ cells:Array Value,cells=(vs.flatMap fun v=>v.cells.toList).toArray:=⟨_,rfl⟩;have B:(parts.map fun (i,x)=>(i,a.eval x)).toList=(vs.zipIdx 0).map (fun x=>(x.2,x.1)):=by rw [<- e1];simp
 have u:(Instr.buildSlice t parts.toList.length (parts.map fun (i,x)=>(i,a.eval x))).run P w = .ok (.slice (some ⟨w.heap.size,0,none⟩) parts.toList.length parts.toList.length) (w.alloc (.cells cells e)):=by
  have C:¬ parts.toList.length*de.size > 2 ^ 24:=by omega
  have g:∀ c0:Array Value,parts.toList.length*de.size=c0.size->Instr.fill (fun i=>some (i*de.size,de.size)) c0 (parts.map fun (i,x)=>(i,a.eval x)).toList=some cells:=fun c0 D=>by rw [B,Great.fill_whole l vs c0 e2 (by rw [y];exact D),hcl]
  unfold Instr.buildSlice;rw [Sem.run_bind,run_underlying (hd.slice hk),Result.andThen_ok];simp only [Sem.run_bind,q.size,Result.andThen_ok,qj C];by_cases h0:parts.toList.length*de.size=0
  ·simp only [qs h0,Sem.run_bind,Sem.run_pure,Result.andThen_ok];rw [g];rfl
   ·simp
  ·simp only [qj h0,Sem.run_bind,A,Result.andThen_ok,Sem.run_pure];rw [g];rfl
   ·simp
 have m:Grow w (w.alloc (.cells cells e)):=ka7 _ _;have k:cells.size=parts.toList.length*de.size:=by rw [hcl,List.size_toArray,e3.1,e4]
 have G:parts.toList.length*1<=parts.toList.length*de.size:=Nat.mul_le_mul_left _ l;refine kad (w.alloc (.cells cells e)) (.slice (some ⟨w.heap.size,0,none⟩) parts.toList.length parts.toList.length) ?_ ⟨ψ.set id 0 (.slice (some ⟨w.heap.size,0,none⟩) parts.toList.length parts.toList.length),S,?_,?_,kgj _ f.fr,ka3 c _ _,fun _ h=>qf _ h,fun _ h=>h,Same.of_grow m⟩;have j:=u;simp only [execOp,H,Sem.run_bind];rw [show (parts.map fun (i,x)=>(i,a.eval x))=parts.map (fun x=>(x.1,a.eval x.2)) from rfl] at j;simp only [j];rfl;refine f.add m c (fun b E=>by simp [kap] at E;omega) ⟨kbf _ _,l,w.heap.size,cells,_,_,kaj _ _,heap_alloc_new w _,k,by omega,by rw [k,e4];exact qv _,e3.2.1,fun i v x hv hx=>?_⟩;exact (e3.2.2 i v x (by rw [hcl] at hv;simpa using hv) hx).keep (ka3 c _ _) (fun _ h=>qf _ h) (fun _ h=>h) (Same.of_grow m)
 ·exact .bsl (qu ..) (qaq _) rfl fun _=>⟨w.heap.size,_,by rw [kaj];rfl,rfl,qv _,by omega,rfl⟩
theorem kbo {ids:List Nat} (ht:∀ t,RV ψ (·∈ids) S w (a.tmps.getD t undef) (st.get t)) {x:Option Operand} {D r:Nat} (h:kcs st D x=some r):(x=none/\r=D)\/∃ y k,x=some y/\a.eval y = .int k (r:Int):=by
 unfold kcs kd0 at h;split at h;injection h with h;exact .inl ⟨rfl,h.symm⟩
 ·rename_i y;split at h
  ·rename_i k n hk;cases h0:decide (0<=n) with
   | false=>rw [h0] at h;cases h
   | true=>
    rw [h0] at h;simp only [qg,qc] at h;have h1:=Sim.eval_tmps ht y;rw [hk] at h1;have hn:(r:Int)=n:=(by rw [<- h];exact Int.toNat_of_nonneg (by simpa using h0));exact .inr ⟨y,k,rfl,by rw [hn];exact h1.atom⟩
  ·cases h
theorem kh2 (P:Program) (w:World) {lo hi:Option Operand} (mx:Option Operand) (isS:Bool) {len:Nat} (cap:Nat) {L H:Nat} (M:Nat) (d:(lo=none/\L=0)\/∃ y k,lo=some y/\a.eval y = .int k (L:Int)) (e:(hi=none/\H=len)\/∃ y k,hi=some y/\a.eval y = .int k (H:Int)) (g:(mx=none/\M=cap)\/∃ y k,mx=some y/\a.eval y = .int k (M:Int)) (h1:L<=H) (c:H<=M) (f:M<=cap) (h:mx.isSome=true->hi.isSome=true):(Instr.sliceBounds isS len cap (lo.map a.eval) (hi.map a.eval) (mx.map a.eval)).run P w = .ok (L,H,M) w:=by
 have q1:(L:Int)<=(H:Int):=by omega
 have q2:(H:Int)<=(M:Int):=by omega
 have q3:(M:Int)<=(cap:Int):=by omega
 have q4:(H:Int)<=(cap:Int):=by omega
 have p1:(0:Int)<=(L:Int):=by omega
 have p2:(0:Int)<=(H:Int):=by omega
 have p3:(0:Int)<=(M:Int):=by omega
 have sb:∀ {u:Value} {k:IntKind} {n y:Nat} {code:BoundsCode},u = .int k (n:Int)->n<=y->(Instr.sliceBound u y code).run P w = .ok n w:=fun {u k n y code} i j=>by
  subst i;have e1:(0:Int)<=(n:Int):=by omega
  have e2:(n:Int)<=(y:Int):=by omega
  simp only [Instr.sliceBound,asIntOf,Sem.run_bind,Sem.run_pure,Result.andThen_ok];rw [qs ⟨e1,e2⟩];simp
 unfold Instr.sliceBounds;rcases g with ⟨rfl,rfl⟩ | ⟨ym,km,rfl,hm⟩
 ·rcases e with ⟨rfl,rfl⟩ | ⟨yh,kh,rfl,b⟩
  ·rcases d with ⟨rfl,rfl⟩ | ⟨yl,kl,rfl,hl⟩;simp
   ·simp [sb hl h1]
  ·rcases d with ⟨rfl,rfl⟩ | ⟨yl,kl,rfl,hl⟩;simp [sb b c]
   ·simp [sb b c,sb hl h1]
 ·rcases e with ⟨rfl,rfl⟩ | ⟨yh,kh,rfl,b⟩;exact absurd (h rfl) (by simp)
  ·rcases d with ⟨rfl,rfl⟩ | ⟨yl,kl,rfl,hl⟩;simp [sb hm f,sb b c]
   ·simp [sb hm f,sb b c,sb hl h1]
def offE (off L M size:Nat):Nat:=bif Nat.beq M L then off else off+L*size
theorem kqu {b off L M size:Nat}:(if M=L then (⟨b,off,none⟩:Addr) else (⟨b,off,none⟩:Addr).add (L*size))=⟨b,offE off L M size,none⟩:=by
 unfold offE;by_cases h:M=L;subst h;simp
 ·rw [qj h,Nat.beq_eq_false h,kbg];rfl
theorem n_slB {x:Operand} {lo hi mx:Option Operand} {e:TypeId} {de:TD} {g off len k L H M:Nat} {cells:List AV} (p:o.op = .slice t x lo hi mx) (m:TOk P T) (hd:kac T t=some d) (hk:d.kind = .slice e) (h:kac T e=some de) (hx:st.eval x = .bsl id g off len (some k)) (i:objC st id=some (g,cells))
  (hl:kcs st 0 lo=some L) (q:kcs st len hi=some H) (hm:kcs st k mx=some M) (h1:L<=H) (r:H<=M) (s:M<=k) (u:mx.isSome=true->hi.isSome=true):NStep P o st (.bsl id g (offE off L M de.size) (H - L) (some (M - L))):=by
 intro ψ S a w ht y;obtain ⟨z,_⟩:=kfk y i;have hv:=Sim.eval_tmps ht x;rw [hx] at hv;obtain ⟨hK,b,c,A,j,B,n,f⟩:=kgv hv z;have f:c=k:=f;subst f;have e1:=kh2 P w _ true _ _ (kbo ht hl) (kbo ht q) (kbo ht hm) h1 r s u;refine kad w (.slice (some ⟨b,offE off L M de.size,none⟩) (H - L) (M - L)) ?_ ⟨kae _, .bsl hK (by omega) rfl fun _=>⟨b,M - L,A,rfl,by omega,by omega,rfl⟩⟩;have l:=(m.get h).size (P:=P) (w:=w);rw [<- kqu];simp [execOp,p,Instr.sliceAt,Instr.slice,run_underlying ((m.get hd).slice hk),j,e1,l];split <;> rfl
theorem n_slU {x:Operand} {lo hi:Option Operand} {e:TypeId} {de:TD} {g len H:Nat} {cells:List AV} (p:o.op = .slice t x lo hi none) (n:TOk P T) (hd:kac T t=some d) (hk:d.kind = .slice e) (j:kac T e=some de) (hx:st.eval x = .bsl id g 0 len none) (k:objC st id=some (g,cells))
  (hl:kcs st 0 lo=some 0) (q:kcs st len hi=some H) (z:H<=len):NStep P o st (.bsl id g 0 H none):=by
 intro ψ S a w ht r;obtain ⟨s,_⟩:=kfk r k;have hv:=Sim.eval_tmps ht x;rw [hx] at hv;obtain ⟨hK,b,c,u,l,y,f,i⟩:=kgv hv s;have e1:=kh2 P w none true c c (kbo ht hl) (kbo ht q) (.inl ⟨rfl,rfl⟩) (qaq _) (by omega) (qv _) (fun h=>by cases h);refine kad w (.slice (some ⟨b,0,none⟩) H c) ?_ ⟨kae _, .bsl hK (by omega) rfl fun _=>⟨b,c,u,rfl,by omega,f,i⟩⟩;have m:=(n.get j).size (P:=P) (w:=w);simp only [Option.map_none] at e1;simp [execOp,p,Instr.sliceAt,Instr.slice,run_underlying ((n.get hd).slice hk),l,e1,m,kbg]
theorem n_slM {x:Operand} {lo hi:Option Operand} {y:Operand} {e:TypeId} {de:TD} {g len L H M:Nat} {cells:List AV} (p:o.op = .slice t x lo hi (some y)) (l:TOk P T) (hd:kac T t=some d) (hk:d.kind = .slice e) (f:kac T e=some de) (hx:st.eval x = .bsl id g 0 len none) (i:objC st id=some (g,cells))
  (hl:kcs st 0 lo=some L) (q:kcs st len hi=some H) (hm:kcs st 0 (some y)=some M) (h1:L<=H) (r:H<=M) (D:M<=len) (s:hi.isSome=true):NStep P o st (.bsl id g (offE 0 L M de.size) (H - L) (some (M - L))):=by
 intro ψ S a w ht u;obtain ⟨z,_⟩:=kfk u i;have hv:=Sim.eval_tmps ht x;rw [hx] at hv;obtain ⟨hK,b,c,A,j,B,m,n⟩:=kgv hv z;have C:=(kbo ht hm).resolve_left (fun h=>by cases h.1);have e1:=kh2 P w (some y) true c M (kbo ht hl) (kbo ht q) (.inr C) h1 r (by omega) (fun _=>s);refine kad w (.slice (some ⟨b,offE 0 L M de.size,none⟩) (H - L) (M - L)) ?_ ⟨kae _, .bsl hK (by omega) rfl fun _=>⟨b,M - L,A,rfl,by omega,by omega,rfl⟩⟩;have k:=(l.get f).size (P:=P) (w:=w);rw [<- kqu];simp only [qa1] at e1;simp [execOp,p,Instr.sliceAt,Instr.slice,run_underlying ((l.get hd).slice hk),j,e1,k];split <;> rfl
theorem k84 {x:Operand} {lo hi mx:Option Operand} {n e:Nat} {de:TD} {g off L H M:Nat} {cells:List AV} (m:o.op = .slice t x lo hi mx) (l:TOk P T) (hd:kac T t=some d) (hk:d.kind = .arr n e) (h:kac T e=some de) (hx:st.eval x = .ref id g off) (i:objC st id=some (g,cells))
  (hl:kcs st 0 lo=some L) (p:kcs st n hi=some H) (hm:kcs st n mx=some M) (h1:L<=H) (q:H<=M) (r:M<=n) (s:mx.isSome=true->hi.isSome=true) (hn:n<=9223372036854775807):NStep P o st (.bsl id g (offE off L M de.size) (H - L) (some (M - L))):=by
 intro ψ S a w ht y;obtain ⟨z,b0,_,_,f,_⟩:=kfk y i;have hv:=Sim.eval_tmps ht x;rw [hx] at hv;have b:g<=ψ.len id/\id∈st.ids/\a.eval x = .pointer (some ⟨b0,off,none⟩):=by
  generalize a.eval x=u at hv;cases hv with
  | ref hK hn h1 hv=>
   obtain ⟨b',c,rfl⟩:=hv z.symm;rw [f] at c;simp only [qc] at c;rw [c];exact ⟨hn,hK,rfl⟩
 obtain ⟨j,hK,b⟩:=b;have e1:=kh2 P w _ false _ _ (kbo ht hl) (kbo ht p) (kbo ht hm) h1 q r s;refine kad w (.slice (some ⟨b0,offE off L M de.size,none⟩) (H - L) (M - L)) ?_ ⟨kae _, .bsl hK j rfl fun _=>⟨b0,M - L,f,rfl,by omega,by omega,rfl⟩⟩;have k:=(l.get h).size (P:=P) (w:=w);rw [<- kqu];simp [execOp,m,Instr.sliceAt,run_underlying ((l.get hd).arr hk),Instr.sureAddr,b,e1,k]
theorem ku0 {v:Value} {x:AV} {s n:Nat} {xs:List FV} (h:RV ψ K S w v x) (hx:lstX x=some (s,n,xs)):∃ A cap,v = .slice A n cap/\RF S w (.slice A n cap) (.lst s n xs):=by
 unfold lstX at hx;split at hx;simp only [qc,qq] at hx;obtain ⟨rfl,rfl,rfl⟩:=hx;have h:=h.inv;obtain ⟨A,cap,css,rfl,_⟩:=h.lst_inv;exact ⟨A,cap,rfl,h⟩
 ·simp only [qc,qq] at hx;obtain ⟨rfl,rfl,rfl⟩:=hx;cases h with
  | lim h=>exact ⟨_,_,rfl,h⟩
 ·cases hx
theorem n_slF {x:Operand} {lo hi:Option Operand} {e:TypeId} {de:TD} {n L H:Nat} {xs:List FV} (p:o.op = .slice t x lo hi none) (l:TOk P T) (hd:kac T t=some d) (hk:d.kind = .slice e) (b:kac T e=some de) (hx:lstX (st.eval x)=some (de.size,n,xs))
  (hl:kcs st 0 lo=some L) (q:kcs st n hi=some H) (h1:L<=H) (r:H<=n):NStep P o st (.fz (.lst de.size (H - L) ((xs.take H).drop L))):=by
 intro ψ S a w ht u;obtain ⟨A,cap,c,m⟩:=ku0 (Sim.eval_tmps ht x) hx;obtain ⟨_,_,css,f,hn,s,hm,_⟩:=m.lst_inv;injection f with q1 q2 q3;subst q1 q3;have e1:=kh2 P w none true cap cap (kbo ht hl) (kbo ht q) (.inl ⟨rfl,rfl⟩) h1 (by omega) (qv _) (fun h=>by cases h);obtain ⟨A',g,i⟩:=m.take (v := .nilFunc) (k:=0) L H h1 r;refine kad w (.slice A' (H - L) (cap - L)) ?_ ⟨kae _,(RV.fz i).here⟩;have j:=(l.get b).size (P:=P) (w:=w);simp only [Option.map_none] at e1;simp [execOp,p,Instr.sliceAt,Instr.slice,run_underlying ((l.get hd).slice hk),c,e1,j,g]
theorem RF.takeE {A:Option Addr} {cap n size:Nat} {xs:List FV} (h:RF S w (.slice A n cap) (.lst size n xs)) (lo hi:Nat) (h1:lo<=hi) (e:hi<=n):RF S w (.slice (if hi=lo then A else A.map (·.add (lo*size))) (hi - lo) (hi - lo)) (.lst size (hi - lo) ((xs.take hi).drop lo)):=by
 obtain ⟨A0,cap0,css,hv,hn,hc,hm,hs,ha,hl,hr⟩:=h.lst_inv;injection hv with e1 _ e3;subst e1 e3;have a:(xs.take hi).length=hi:=by rw [q9];omega
 have get:∀ (i:Nat) (x:FV),((xs.take hi).drop lo)[i]?=some x->xs[lo+i]?=some x:=fun i x hx=>by
  rw [qag,qw] at hx;split at hx;exact hx
  ·cases hx
 refine .lst (fun i=>css (lo+i)) (by rw [qau,a]) (by omega) (by omega) hs (fun i x hx=>?_) (fun i x hx=>hl _ x (get i x hx)) fun i x j v y hx hv hy=>hr _ x j v y (get i x hx) hv hy;obtain ⟨b,o,hA,hS,c⟩:=ha _ x (get i x hx);have d:=(qd.1 hx).1;rw [qau,a] at d;refine ⟨b,o+lo*size,?_,hS,by rw [Nat.add_assoc,<- qaw];exact c⟩;rw [qj (by omega),hA];simp only [qa1,kbg]
theorem kaay {x y:Operand} {lo hi:Option Operand} {e:TypeId} {de:TD} {n L H:Nat} {xs:List FV} (l:o.op = .slice t x lo hi (some y)) (j:TOk P T) (hd:kac T t=some d) (hk:d.kind = .slice e) (b:kac T e=some de) (hx:lstX (st.eval x)=some (de.size,n,xs))
  (hl:kcs st 0 lo=some L) (m:kcs st n hi=some H) (hm:kcs st 0 (some y)=some H) (h1:L<=H) (p:H<=n) (q:hi.isSome=true):NStep P o st (.lim de.size (H - L) ((xs.take H).drop L)):=by
 intro ψ S a w ht z;obtain ⟨A,cap,c,k⟩:=ku0 (Sim.eval_tmps ht x) hx;obtain ⟨_,_,css,f,hn,r,s,_⟩:=k.lst_inv;injection f with q1 q2 q3;subst q1 q3;have u:=(kbo ht hm).resolve_left (fun h=>by cases h.1);have e1:=kh2 P w (some y) true cap H (kbo ht hl) (kbo ht m) (.inr u) h1 (qv _) (by omega) (fun _=>q);have g:=k.takeE L H h1 p;refine kad w (.slice (if H=L then A else A.map (·.add (L*de.size))) (H - L) (H - L)) ?_ ⟨kae _,(RV.lim g).here⟩;have i:=(j.get b).size (P:=P) (w:=w);simp only [qa1] at e1;simp [execOp,l,Instr.sliceAt,Instr.slice,run_underlying ((j.get hd).slice hk),c,e1,i]
theorem n_sl0 {x:Operand} {lo hi mx:Option Operand} {e:TypeId} {de:TD} (g:o.op = .slice t x lo hi mx) (f:TOk P T) (hd:kac T t=some d) (hk:d.kind = .slice e) (b:kac T e=some de) (hx:st.eval x = .fz (.atom nilV))
  (hl:kcs st 0 lo=some 0) (h:kcs st 0 hi=some 0) (hm:kcs st 0 mx=some 0) (i:mx.isSome=true->hi.isSome=true):NStep P o st (.fz (.atom nilV)):=by
 intro ψ S a w ht j;have hv:=Sim.eval_tmps ht x;rw [hx] at hv;have hv:=hv.atom;have e1:=kh2 P w _ true _ _ (kbo ht hl) (kbo ht h) (kbo ht hm) (qv _) (qv _) (qv _) i;refine kad w nilV ?_ ⟨kae _, .fz (.atom rfl)⟩;have c:=(f.get b).size (P:=P) (w:=w);simp [execOp,g,Instr.sliceAt,Instr.slice,run_underlying ((f.get hd).slice hk),hv,nilV,e1,c]
theorem kaa9 {x:Operand} {e:TypeId} {g off len:Nat} {cap:Option Nat} {cells:List AV} (i:o.op = .call { callee := .builtin .len,args:=#[x],argTypes:=#[t] }) (hd:TdOk P t d) (hk:d.kind = .slice e) (hx:st.eval x = .bsl id g off len cap) (f:objC st id=some (g,cells)):NStep P o st (.fz (.atom (.int .i64 len))):=by intro ψ S a w ht j;obtain ⟨k,_⟩:=kfk j f;have hv:=Sim.eval_tmps ht x;rw [hx] at hv;obtain ⟨hK,b,c,l,h,_⟩:=kgv hv k;refine kad w (.int .i64 len) ?_ ⟨kae _, .fz (.atom rfl)⟩;simp [execOp,i,resolve,invoke,builtin,Builtin.len_,run_underlying (hd.slice hk),h,goInt]
theorem kabp {x:Operand} {e:TypeId} {sz m k:Nat} {ys:List AV} (f:o.op = .call { callee := .builtin .cap,args:=#[x],argTypes:=#[t] }) (hd:TdOk P t d) (hk:d.kind = .slice e) (hx:rdSl sz st (st.eval x)=some (m,some k,ys)):NStep P o st (.fz (.atom (.int .i64 k))):=by intro ψ S a w ht g;obtain ⟨A,cap,c,_,_,b,_⟩:=kmw (Sim.eval_tmps ht x) g hx;obtain rfl:=b k rfl;refine kad w (.int .i64 cap) ?_ ⟨kae _, .fz (.atom rfl)⟩;simp [execOp,f,resolve,invoke,builtin,Builtin.cap_,run_underlying (hd.slice hk),c,goInt]
theorem ksl {op:BinOp} {x y:Operand} {u v:Option Addr} {n m c d:Nat}:(eqGuard op t x y (.slice u n c) (.slice v m d)).run P w = .ok () w:=by unfold eqGuard;cases op <;> simp
theorem k26 (u v:Option Addr) (n m c e:Nat) (r:Bool) (h:∀ d:Nat,(Op.equalIn (d+1) t (.slice u n c) (.slice v m e)).run P w = .ok r w):(binOp .eql t (.slice u n c) (.slice v m e)).run P w = .ok (.bool r) w/\(binOp .neq t (.slice u n c) (.slice v m e)).run P w = .ok (.bool !r) w:=by constructor <;> (simp only [binOp];simp [Op.equal,Op.maxDepth,h 9999])
theorem k3y {x y:Operand} {yt te:TypeId} (neg r:Bool) (l:o.op = .binOp (if neg then .neq else .eql) t x y yt) (ht:P.underlying t=some (.slice te)) (hx:(r=true/\st.eval x = .fz (.atom nilV))\/(r=false/\((∃ id g off len cap cells,st.eval x = .bsl id g off len cap/\objC st id=some (g,cells))\/∃ s n z zs,lstX (st.eval x)=some (s,n,z::zs)))) (hy:st.eval y = .fz (.atom nilV)):
  NStep P o st (.fz (.atom (.bool (bif neg then !r else r)))):=by
 intro ψ S a w h p;have h1:=Sim.eval_tmps h x;have i:=Sim.eval_tmps h y;rw [hy] at i;have i:=i.atom;have key:∃ A n c,a.eval x = .slice A n c/\A.isNone=r:=by
  rcases hx with ⟨rfl,hx⟩ | ⟨rfl,⟨id,g,off,len,cap,cells,hx,j⟩ | ⟨s,n,z,zs,hx⟩⟩;rw [hx] at h1;exact ⟨none,0,0,h1.atom,rfl⟩;rw [hx] at h1;obtain ⟨q,_⟩:=kfk p j;obtain ⟨hK,b,c,D,f,_⟩:=kgv h1 q;exact ⟨_,_,_,f,rfl⟩
  ·obtain ⟨A,cap,f,B⟩:=ku0 h1 hx;obtain ⟨_,_,css,k,hn,C,hm,hs,ha,_⟩:=B.lst_inv;injection k with q1 q2 q3;subst q1 q3;obtain ⟨b,o,rfl,_⟩:=ha 0 z rfl;exact ⟨_,_,_,f,rfl⟩
 obtain ⟨A,n,c,f,hA⟩:=key;refine kad w (.bool (bif neg then !r else r)) ?_ ⟨kae _, .fz (.atom rfl)⟩;obtain ⟨q1,q2⟩:=k26 (t:=t) (w:=w) (P:=P) A none n 0 c 0 r fun d=>by cases A <;> simp at hA <;> subst hA <;> simp [Op.equalIn,run_underlying ht]
 cases neg;simp [execOp,l,f,i,nilV,ksl] at q1 ⊢;simp [q1]
 ·simp [execOp,l,f,i,nilV,ksl] at q2 ⊢;simp [q2]
theorem k83 {x y:Operand} {t1 t2 e:TypeId} {d1 de:TD} {g off len n:Nat} {cap c2:Option Nat} {cells ys:List AV} (m:o.op = .call { callee := .builtin .copy,args:=#[x,y],argTypes:=#[t1,t2] }) (B:TOk P T) (hd:kac T t1=some d1) (hk:d1.kind = .slice e) (p:kac T e=some de)
  (hx:st.eval x = .bsl id g off len cap) (i:objC st id=some (g,cells)) (hy:rdSl de.size st (st.eval y)=some (n,c2,ys)) (q:off+(ys.take (min n len*de.size)).length<=cells.length):
  StepA P o st (.fz (.atom (.int .i64 ((min n len:Nat):Int)))) (putC st id (kbw cells off (ys.take (min n len*de.size)))) st.ids:=by
 intro F S0 N0 ψ S a w f;have d:=f.core;have C:=fun id o m=>(d.obj id o m).2.1;obtain ⟨G,_⟩:=kfk C i;have hv:=f.eval x;rw [hx] at hv;obtain ⟨hK,b,c,H,r,_⟩:=kgv hv G;obtain ⟨A,cap',s,_,_,_,cs,D,I,E⟩:=kmw (f.eval y) C hy;have t:CR ψ (·∈st.ids) S w (cs.take (min n len*de.size)) (ys.take (min n len*de.size)):=by simpa using D.sub 0 (min n len*de.size)
 obtain ⟨b',w1,q1,q2,q3,q4,q5⟩:=kvh (P:=P) d i q t;rw [H] at q1;simp only [qc] at q1;subst q1;have J:(min n len)*de.size<=n*de.size:=qan _ (Nat.min_le_left n len);have u:(Builtin.firstCells de.size (min n len) (.slice A n cap')).run P w = .ok (cs.take (min n len*de.size)).toArray w:=by
  cases A with
  | none=>
   obtain ⟨rfl,rfl⟩:=E;simpa using run_firstCells_none (P:=P) w de.size (min 0 len) 0 cap'
  | some ad=>
   refine run_firstCells_some w de.size (min n len) ad n cap' _ (by rw [q9,D.1,I];omega) fun j v l=>?_;rw [qw] at l;split at l;exact E j v l
   ·cases l
 refine kad w1 (.int .i64 ((min n len:Nat):Int)) ?_ ⟨ψ,S,q3, .fz (.atom rfl),q4,Ext.refl,fun _ h=>h,fun _ h=>h,q5⟩;have z:=(B.get p).size (P:=P) (w:=w);have k:Nat.min n len=min n len:=rfl;simp [execOp,m,resolve,invoke,builtin,Builtin.copy_,run_underlying ((B.get hd).slice hk),r,s,Builtin.lenOf,z,k,u,q2,goInt]
theorem kwp:∀ {l:List AV} {r:List Int},koo l=some r->l=r.map fun n => .fz (.atom (.int .u8 n))
 | [],r,h=>by simp only [koo,qc] at h;subst h;rfl
 | x::l,r,h=>by
  unfold koo at h;split at h;rename_i h0;cases h0
  ·rename_i n l' h0;injection h0 with h1 a;subst h1 a;split at h;rename_i r' hr;injection h with h;subst h;rw [kwp hr];rfl
   ·cases h
  ·cases h
theorem kaau {sr e:TypeId} {x:Operand} {n:Nat} {c:Option Nat} {ys:List AV} {xs:List Int} {ds de:TD} (g:TOk P T) (s:o.op = .convert sr t x) (hs:kac T sr=some ds) (h:ds.kind = .slice e) (u:kac T e=some de) (i:de.kind = .int .u8) (hd:kac T t=some d) (hk:d.kind = .str)
  (hx:rdSl 1 st (st.eval x)=some (n,c,ys)) (hi:koo ys=some xs):NStep P o st (.fz (.atom (.string (toBA xs)))):=by
 intro ψ S a w ht y;obtain ⟨A,cap,k,_,_,_,cs,l,z,q⟩:=kmw (Sim.eval_tmps ht x) y hx;obtain rfl:=kwp hi;obtain ⟨_,e',h1,m⟩:=g.get u;rw [i] at m;cases e' <;> simp only [ker] at m;subst m;have p:cs=xs.map (Value.int .u8):=by
  apply List.ext_getElem?;intro j;by_cases r:j<cs.length;have b:j<xs.length:=(by have:=l.1;simp at this;omega);have:=l.2.2 j cs[j] _ (qa r) (by rw [ql,qa b];rfl);rw [qa r,this.atom];simp [b]
  ·have:=l.1;simp at this;rw [qa5 (by omega),qa5 (by simp;omega)]
 refine kad w (.string (toBA xs)) ?_ ⟨kae _, .fz (.atom rfl)⟩;have hn:xs.length=n:=by simpa using z
 have f:(Conv.bytesToString (.slice A n cap)).run P w = .ok (.string (toBA xs)) w:=by
  cases A with
  | none=>
   obtain ⟨rfl,h0⟩:=q;have:xs=[]:=qav hn;subst this;rfl
  | some ad=>
   refine run_bytesToString w ad n cap xs ?_;have:=run_loadCells_list (P:=P) w ad cs q;rw [p] at this
   rwa [qt,hn] at this
 simp only [execOp,s,k,Sem.run_bind];rw [run_convert_bytes_string w sr t e A n cap ((g.get hs).slice h) h1 ((g.get hd).str hk),f];rfl
open Go.ChangeMaps (setBlock)
def kxe:Value->Value->Option Bool
 | .int a m, .int b n=>if a=b then some (m == n) else none
 | .string s, .string u=>some (s.toList == u.toList)
 | _,_=>none
def ko9 (k:Value):List (Value×AV)->Nat->Option (Option (Nat×AV))
 | [],_=>some none
 | (k',x)::l,i=>match kxe k k' with
  | some true=>some (some (i,x))
  | some false=>ko9 k l (i+1)
  | none=>none
def keyK:TK->Value->Bool
 | .int k, .int n _=>decide (k=n)
 | .str, .string _=>true
 | _,_=>false
def vput (k:Value) (kv:List (Value×AV)) (z:AV):Option (List (Value×AV)):=match ko9 k kv 0 with
 | some (some (j,_))=>some (kv.set j (k,z))
 | some none=>some (kv++[(k,z)])
 | none=>none
def kn6 (seen:List Nat):Nat->List Nat
 | 0=>[]
 | n+1=>bif seen.contains n then kn6 seen n else n::kn6 seen n
def ZOk (P:Program) (Z:List (TypeId×Value)):Prop:=∀ p∈Z,∃ i,P.info? p.1=some i/\i.zero=some p.2
def ktk:List (TypeId×Value)->TypeId->Option Value
 | [],_=>none
 | (k,v)::l,t=>bif Nat.beq k t then some v else ktk l t
variable {kv:List (Value×AV)} {Z:List (TypeId×Value)}
theorem ZOk.get (h:ZOk P Z) {v:Value} (ht:ktk Z t=some v) (w:World):(zeroValue t).run P w = .ok v w:=by
 induction Z with
 | nil=>cases ht
 | cons p l ih=>
  obtain ⟨k,u⟩:=p;simp only [ktk] at ht;by_cases hk:k=t;subst hk;simp only [Nat.beq_refl,qg,qc] at ht;subst ht;obtain ⟨i,h1,a⟩:=h _ (qu ..);simp [zeroValue,typeInfo,h1,a]
  ·rw [Nat.beq_eq_false hk] at ht;exact ih (fun p hp=>h p (qf _ hp)) ht
theorem TdOk.mpX {k e:Nat} (h:TdOk P t d) (hk:d.kind = .map k e):P.underlying t=some (.map k e):=by obtain ⟨_,e',h1,a⟩:=h;rw [hk] at a;cases e' <;> simp [ker] at a;rw [h1,a.1,a.2]
theorem k0g {k:Value} (h:TdOk P t d) (hk:keyK d.kind k=true):∃ td,P.underlying t=some td/\MapKept.IsKey td k/\((∃ ik n m,td = .int ik/\k = .int n m)\/(td = .string/\∃ s,k = .string s))/\k.oneCell'=true:=by
 obtain ⟨_,e',h1,b⟩:=h;unfold keyK at hk;split at hk;rename_i ik n m a;rw [a] at b;cases e' <;> simp [ker] at b;exact ⟨_,h1,by simp only [qbd] at hk;rw [b];exact hk.symm, .inl ⟨_,_,_,rfl,rfl⟩,rfl⟩;rename_i s a;rw [a] at b;cases e' <;> simp [ker] at b;exact ⟨_,h1,trivial, .inr ⟨rfl,s,rfl⟩,rfl⟩
 ·cases hk
theorem kzc {k k':Value} {td:TypeDesc} {b:Bool} (hd:(∃ ik n m,td = .int ik/\k = .int n m)\/(td = .string/\∃ s,k = .string s)) (h:kxe k k'=some b):Instr.sameNow td k k'=some b/\(b=true->k'=k):=by
 rcases hd with ⟨ik,n,m,rfl,rfl⟩ | ⟨rfl,s,rfl⟩
 ·cases k' <;> simp only [kxe] at h <;> try cases h
  rename_i n' m';split at h;rename_i hn;subst hn;injection h with h;refine ⟨by simp [Instr.sameNow,h],fun a=>?_⟩;rw [a] at h;simp at h;rw [h]
  ·cases h
 ·cases k' <;> simp only [kxe] at h <;> try cases h
  rename_i s';rw [kmi];exact ⟨rfl,fun a=>by rw [MapKept.bytes_beq] at a;rw [a]⟩
theorem knw {k:Value} {td:TypeDesc} (hd:(∃ ik n m,td = .int ik/\k = .int n m)\/(td = .string/\∃ s,k = .string s)):∀ (es:List MapEntry) (kv:List (Value×AV)) (i:Nat) (r:Option (Nat×AV)),es.length=kv.length->(∀ (j:Nat) (e:MapEntry) (p:Value×AV),es[j]?=some e->kv[j]?=some p->e.key=p.1)->ko9 k kv i=some r ->
  (r=none/\Instr.findNow td k es i=some none)\/∃ j x e,r=some (i+j,x)/\kv[j]?=some (k,x)/\es[j]?=some e/\Instr.findNow td k es i=some (some (i+j,e.val))
 | [],[],i,r,_,_,h=>by simp only [ko9,qc] at h;exact .inl ⟨h.symm,rfl⟩
 | [],p::kv,i,r,h,_,_=>by cases h
 | e::es,[],i,r,h,_,_=>by cases h
 | e::es,(k',x)::kv,i,r,hl,hr,h=>by
  have hk:e.key=k':=hr 0 e (k',x) rfl rfl;simp only [ko9] at h;split at h;rename_i a;injection h with h;obtain ⟨q1,q2⟩:=kzc hd a;obtain rfl:=q2 rfl;exact .inr ⟨0,x,e,h.symm,rfl,rfl,by simp only [Instr.findNow,hk,q1];rfl⟩
  ·rename_i a;obtain ⟨q1,_⟩:=kzc hd a;rcases knw hd es kv (i+1) r (by simpa using hl) (fun j e p c hp=>hr (j+1) e p (by simpa using c) (by simpa using hp)) h with ⟨h1,b⟩ | ⟨j,y,e',h1,b,d,f⟩;exact .inl ⟨h1,by simp only [Instr.findNow,hk,q1];exact b⟩
   ·exact .inr ⟨j+1,y,e',by rw [h1];congr 2;omega,by simpa using b,by simpa using d,by simp only [Instr.findNow,hk,q1];rw [f];congr 3;omega⟩
  ·cases h
theorem kr2 {v:Value} (hs:XobR ψ K S w id (.amap kv)) (hv:RV ψ K S w v (.mp id)):v=ψ.val id:=by
 cases hv with
 | mp hK h1 hv=>exact hv hs.1.symm
theorem k2j (g:o.op = .makeMap t none) (d:st.ids.contains id=false):StepA P o st (.mp id) ((id, .xo (.amap []))::st.heap) (id::st.ids):=by
 have d:id∉st.ids:=by simpa using d
 intro F S0 N0 ψ S a w f;have c:=f.core;refine kad (w.alloc (.map #[] 0)) (.map (some w.heap.size)) ?_ ⟨ψ.set id 0 (.map (some w.heap.size)),S,?_,?_,kgj _ c.fr,ka3 d _ _,fun _ h=>qf _ h,fun _ h=>h,Same.of_grow (ka7 _ _)⟩;simp [execOp,g,Instr.makeMap];exact c.add (ka7 _ _) d (fun b j=>by simp [kap] at j;omega) ⟨kbf _ _,w.heap.size,_,kaj _ _,heap_alloc_new w _,rfl,fun i e p k hp=>by simp at k⟩
 ·exact .mp (qu ..) rfl fun _=>by rw [kaj]
theorem k27 {x y:Operand} {ok:Bool} {kt et:TypeId} {kd:TD} {k:Value} {r:Option (Nat×AV)} {c:AV} (F:o.op = .lookup t x y ok) (G:TOk P T) (J:ZOk P Z) (hd:kac T t=some d) (hk:d.kind = .map kt et) (h:kac T kt=some kd) (hx:st.eval x = .mp id) (C:kaa st.heap id=some (.xo (.amap kv)))
  (hy:st.eval y = .fz (.atom k)) (D:keyK kd.kind k=true) (n:ko9 k kv 0=some r) (hc:(match r with | some (_,z)=>some z | none=>(match ktk Z et with | some zv=>bif zv.oneCell' then some (AV.fz (.atom zv)) else none | none=>none))=some c):
  NStep P o st (bif ok then .tup [c, .fz (.atom (.bool r.isSome))] else c):=by
 intro ψ S a w ht K;have hd:=G.get hd;have h:=G.get h;have hv:=Sim.eval_tmps ht x;rw [hx] at hv;have q:XobR ψ (·∈st.ids) S w id (.amap kv):=K id _ C;have s:=kr2 q hv;obtain ⟨h0,b,es,g,H,E,hr⟩:=q;have f:=Sim.eval_tmps ht y;rw [hy] at f;have f:=f.atom;obtain ⟨td,g1,g2,g3,_⟩:=k0g h D;have A:=MapKept.run_checkKey (w:=w) g1 g2 es.isEmpty 9999;have fin:∀ u:Value,RV ψ (·∈st.ids) S w u c->(execOp a.eval o).run P w = .ok (.value (if ok then .tuple #[u, .bool r.isSome] else u)) w->kce P o a w fun v w'=>Grow w w'/\RV ψ (·∈st.ids) (fun b=>S b\/w.heap.size<=b) w' v (bif ok then .tup [c, .fz (.atom (.bool r.isSome))] else c):=fun u I B=>by
  refine kad _ _ B ⟨kae _,?_⟩;cases ok with
  | false=>exact I.here
  | true=>
   refine (RV.tup rfl fun i v z hv l=>?_).here
   match i with
   | 0=>simp at hv l;subst hv l;exact I
   | 1=>simp at hv l;subst hv l;exact .fz (.atom rfl)
   | i+2=>simp at l
 rcases knw g3 es.toList kv 0 r (by simpa using E) (fun j e p L hp=>(hr j e p (by simpa using L) hp).1) n with ⟨rfl,f1⟩ | ⟨j,z,e,rfl,f2,f3,f4⟩
 ·have n:=MapKept.run_findKey (w:=w) g1 f1;simp only at hc;split at hc
  ·rename_i zv l;cases m:zv.oneCell' with
   | false=>rw [m] at hc;cases hc
   | true=>
    rw [m] at hc;simp only [qg,qc] at hc;subst hc;refine fin zv (.fz (.atom m)) ?_;cases ok <;> simp [execOp,F,f,s,g,Instr.lookup,run_underlying (hd.mpX hk),MapKept.run_getObj_map H,A,n,J.get l w]
  ·cases hc
 ·have n:=MapKept.run_findKey (w:=w) g1 f4;simp only [qc] at hc;subst hc;refine fin e.val (hr j e _ (by simpa using f3) f2).2.2 ?_;cases ok <;> simp [execOp,F,f,s,g,Instr.lookup,run_underlying (hd.mpX hk),MapKept.run_getObj_map H,A,n]
theorem kwf (h0:ψ.len id=0):ψ.set id 0 (ψ.val id)=ψ:=by
 have:=ks3 (ψ:=ψ) (id:=id)
 rwa [h0] at this
theorem ky8 {x y v:Operand} {kt et:TypeId} {kd:TD} {k:Value} {kv':List (Value×AV)} (U:o.op = .mapUpdate t x y v) (V:TOk P T) (hd:kac T t=some d) (hk:d.kind = .map kt et) (D:kac T kt=some kd) (hx:st.eval x = .mp id) (E:kaa st.heap id=some (.xo (.amap kv)))
  (hy:st.eval y = .fz (.atom k)) (O:keyK kd.kind k=true) (hp:vput k kv (st.eval v)=some kv'):StepA P o st .any ((id, .xo (.amap kv'))::st.heap) st.ids:=by
 intro F S0 N0 ψ S a w q;have hd:=V.get hd;have D:=V.get D;have g:=q.core;obtain ⟨Y,r,Q⟩:=g.obj id _ E;have r:XobR ψ (·∈st.ids) S w id (.amap kv):=r;have G:=q.eval x;rw [hx] at G;have H:=kr2 r G;obtain ⟨h0,b,es,f,u,l,hr⟩:=r;have m:=q.eval y;rw [hy] at m;have m:=m.atom;have I:=q.eval v;obtain ⟨td,g1,g2,g3,g4⟩:=k0g D O;have J:=MapKept.run_checkKey (w:=w) g1 g2 false 9999;have A:=kwf h0;have main:∀ es':Array MapEntry,es'.size=kv'.length ->
   (∀ (i:Nat) (e:MapEntry) (p:Value×AV),es'[i]?=some e->kv'[i]?=some p->e.key=p.1/\e.born=i/\RV ψ (·∈st.ids) S w e.val p.2) ->
   (execOp a.eval o).run P w = .ok .skip { w with heap:=w.heap.setIfInBounds b (.map es' kv'.length) } ->
   kce P o a w fun v w'=>∃ ψ' S',Core F S0 N0 ((id, .xo (.amap kv'))::st.heap) st.ids ψ' S' w'/\RV ψ' (·∈st.ids) S' w' v .any/\Fr F w w'/\Ext (·∈st.ids) ψ ψ'/\(∀ id,id∈st.ids->id∈st.ids)/\(∀ b,S b->S' b)/\Same S w w':=by
  intro es' K R L;obtain ⟨q1,q2⟩:=MapKept.heap_set (o' := .map es' kv'.length) u;have X:({ w with heap:=w.heap.setIfInBounds b (.map es' kv'.length) }:World).heap.size=w.heap.size:=by simp
  have B:∀ k,k<w.heap.size->¬ Blk (ψ.val id) k->({ w with heap:=w.heap.setIfInBounds b (.map es' kv'.length) }:World).heap[k]?=w.heap[k]?:=fun k _ hk=>q2 k fun e=>hk (.of (by rw [f,e];rfl));have hk:Same S w { w with heap:=w.heap.setIfInBounds b (.map es' kv'.length) }:=fun k hk hl=>B k hl fun e=>(Q k e).1 hk;obtain ⟨c1,c2,c3⟩:=g.upd (n:=0) (v:=ψ.val id) (w':={ w with heap:=w.heap.setIfInBounds b (.map es' kv'.length) }) (ob' := .xo (.amap kv')) E (by omega) B (.inr ⟨h0,rfl⟩) (fun b u => .inl u) (by rw [A];refine ⟨h0,b,es',f,q1,K,fun i e p c hp=>?_⟩;obtain ⟨r1,r2,r3⟩:=R i e p c hp;exact ⟨r1,r2,r3.keep Ext.refl (fun _ h=>h) (fun _ h=>h) hk⟩);rw [A] at c1;exact kin _ L ⟨ψ,S,c1, .any,⟨rfl,rfl,rfl,by omega,c3,no0⟩,Ext.refl,fun _ h=>h,fun _ h=>h,c2⟩
 unfold vput at hp;split at hp
 ·rename_i j z0 C;injection hp with hp;subst hp;rcases knw g3 es.toList kv 0 _ (by simpa using l) (fun j e p c hp=>(hr j e p (by simpa using c) hp).1) C with ⟨h,_⟩ | ⟨j',z,e,f1,f2,f3,f4⟩;cases h
  ·simp only [Nat.zero_add,qc,qq] at f1;obtain ⟨rfl,rfl⟩:=f1;have C:=MapKept.run_findKey (w:=w) g1 f4;simp only [Nat.zero_add] at C;have Z:j<kv.length:=(qd.1 f2).1;have s:es[j]?=some e:=(by simpa using f3);have M:e.key=k:=(hr j e _ s f2).1;refine main (es.modify j fun e=>{ e with key:=k,val:=a.eval v }) (by simpa using l) (fun i e' p c hp=>?_) ?_
   ·rw [qbs] at c;by_cases hi:j=i;subst hi;rw [qs rfl,s] at c;simp only [qa1,qc] at c;subst c;rw [List.getElem?_set_self Z] at hp;injection hp with hp;subst hp;exact ⟨rfl,(hr j e _ s f2).2.1,I⟩
    ·rw [qj hi] at c;rw [List.getElem?_set_ne hi] at hp;exact hr i e' p c hp
   ·have N:(Instr.keyThatStays (((es[j]?).map (·.key)).getD k) k).run P w = .ok k w:=(by rw [s];simp only [qa1,qbh,M];exact MapKept.run_keyThatStays (d:=td) g2);simp [execOp,U,m,H,f,Instr.mapUpdate,run_underlying (hd.mpX hk),MapKept.run_getObj_map u,J,C,MapKept.run_setObj_map _ u];simp [N,MapKept.run_setObj_map _ u]
 ·rename_i C;injection hp with hp;subst hp;rcases knw g3 es.toList kv 0 _ (by simpa using l) (fun j e p c hp=>(hr j e p (by simpa using c) hp).1) C with ⟨_,f1⟩ | ⟨j',z,e,f1,_⟩
  ·have C:=MapKept.run_findKey (w:=w) g1 f1;refine main (es.push { key:=k,val:=a.eval v,born:=kv.length }) (by simpa using l) (fun i e p c hp=>?_) ?_
   ·rw [Array.getElem?_push] at c;by_cases hi:i=es.size;rw [qs hi] at c;injection c with c;subst c;rw [qad (by omega),hi,l,Nat.sub_self] at hp;simp only [List.getElem?_cons_zero,qc] at hp;subst hp;exact ⟨rfl,by show kv.length=i;omega,I⟩
    ·rw [qj hi] at c;have aa:i<es.size:=(qai.1 c).1;rw [qab (by omega)] at hp;exact hr i e p c hp
   ·simp [execOp,U,m,H,f,Instr.mapUpdate,run_underlying (hd.mpX hk),MapKept.run_getObj_map u,J,C,MapKept.run_setObj_map _ u]
  ·cases f1
 ·cases hp
theorem kaa1 {x:Operand} {kt et:TypeId} (i:o.op = .call { callee := .builtin .len,args:=#[x],argTypes:=#[t] }) (hd:TdOk P t d) (hk:d.kind = .map kt et) (hx:st.eval x = .mp id) (f:kaa st.heap id=some (.xo (.amap kv))):NStep P o st (.fz (.atom (.int .i64 kv.length))):=by intro ψ S a w ht j;have hv:=Sim.eval_tmps ht x;rw [hx] at hv;have c:XobR ψ (·∈st.ids) S w id (.amap kv):=j id _ f;have g:=kr2 c hv;obtain ⟨h0,b,es,e,k,h,hr⟩:=c;refine kad w (.int .i64 kv.length) ?_ ⟨kae _, .fz (.atom rfl)⟩;simp [execOp,i,resolve,invoke,builtin,Builtin.len_,run_underlying (hd.mpX hk),g,e,MapKept.run_getObj_map k,h,goInt]
theorem k5q {x:Operand} {m:Nat} {kt et:TypeId} (r:o.op = .range t x) (hd:TdOk P t d) (hk:d.kind = .map kt et) (hx:st.eval x = .mp m) (l:kaa st.heap m=some (.xo (.amap kv))) (f:st.ids.contains id=false):
  StepA P o st (.ref id 0 0) ((id, .xo (.mit m kv.length [] kv.length))::st.heap) (id::st.ids):=by
 have f:id∉st.ids:=by simpa using f
 intro F S0 N0 ψ S a w j;have c:=j.core;obtain ⟨k,g,_⟩:=c.obj m _ l;have g:XobR ψ (·∈st.ids) S w m (.amap kv):=g;have hv:=j.eval x;rw [hx] at hv;have n:=kr2 g hv;obtain ⟨h0,b,es,i,p,s,hr⟩:=g;have q:m≠id:=fun e=>f (e ▸ k);refine kad (w.alloc (.mapIter (some b) kv.length #[] kv.length)) (.pointer (some ⟨w.heap.size,0,none⟩)) ?_ ⟨ψ.set id 0 (.pointer (some ⟨w.heap.size,0,none⟩)),S,?_,?_,kgj _ c.fr,ka3 f _ _,fun _ h=>qf _ h,fun _ h=>h,Same.of_grow (ka7 _ _)⟩;simp [execOp,r,Instr.range,run_underlying (hd.mpX hk),n,i,MapKept.run_getObj_map p];refine c.add (ka7 _ _) f (fun b p=>by simp [kap] at p;omega) ⟨kbf _ _,qf _ k,w.heap.size,b,kaj _ _,heap_alloc_new w _,fun _=>?_⟩;rw [(kb5 ψ q _ _).2];exact i
 ·exact .ref (qu ..) (qaq _) rfl fun _=>⟨w.heap.size,by rw [kaj];rfl,rfl⟩
theorem klz (seen:List Nat):∀ {n i:Nat},i∈kn6 seen n↔i<n/\i∉seen
 | 0,i=>by simp [kn6]
 | n+1,i=>by
  simp only [kn6];cases h:seen.contains n with
  | true=>
   have h:n∈seen:=(by simpa using h);simp only [qg,klz _];constructor;rintro ⟨h1,a⟩;exact ⟨by omega,a⟩
   ·rintro ⟨h1,a⟩;refine ⟨?_,a⟩;rcases qa6 i n with b | b;exact b
    ·have:i=n:=(by omega);exact absurd (this ▸ h) a
  | false=>
   have h:n∉seen:=(by simpa using h);simp only [qp,qaa,klz _];constructor
   ·rintro (rfl | ⟨h1,a⟩);exact ⟨by omega,h⟩
    ·exact ⟨by omega,a⟩
   ·rintro ⟨h1,a⟩;rcases qa6 i n with b | b;exact .inr ⟨b,a⟩
    ·exact .inl (by omega)
theorem kuy {m since stepped:Nat} {seen:List Nat} {v:Value} (c:XobR ψ K S w m (.amap kv)) (d:XobR ψ K S w id (.mit m since seen stepped)) (hv:RV ψ K S w v (.ref id 0 0)):
  ∃ r bm es,ψ.val id = .pointer (some ⟨r,0,none⟩)/\v = .pointer (some ⟨r,0,none⟩)/\w.heap[r]?=some (.mapIter (some bm) since seen.toArray stepped)/\w.heap[bm]?=some (.map es kv.length)/\es.size=kv.length /\
   ∀ (i:Nat) (e:MapEntry) (p:Value×AV),es[i]?=some e->kv[i]?=some p->e.key=p.1/\e.born=i/\RV ψ K S w e.val p.2:=by
 obtain ⟨h0,b,es,h1,g,h,j⟩:=c;obtain ⟨k0,km,r,bm,k1,k2,k3⟩:=d;have:=k3 h0.symm;rw [h1] at this;simp only [Value.map.injEq,qc] at this;subst this;refine ⟨r,b,es,k1,?_,k2,g,h,j⟩;cases hv with
 | ref hK hn k f=>
  obtain ⟨b',a,rfl⟩:=f k0.symm;rw [k1] at a;simp only [kap,qc] at a;rw [a]
theorem k9l {x:Operand} {m stepped j:Nat} {seen:List Nat} {p:Value×AV} (ho:o.op = .next x false) (hx:st.eval x = .ref id 0 0) (B:kaa st.heap id=some (.xo (.mit m kv.length seen stepped))) (J:kaa st.heap m=some (.xo (.amap kv))) (K:kv.length<=stepped)
  (hl:kn6 seen kv.length=[j]) (hp:kv[j]?=some p) (L:p.1.oneCell'=true):
  StepA P o st (.tup [.fz (.atom (.bool true)), .fz (.atom p.1),p.2]) ((id, .xo (.mit m kv.length (seen++[j]) kv.length))::st.heap) st.ids:=by
 intro F S0 N0 ψ S a w C;have d:=C.core;obtain ⟨ac,g,M⟩:=d.obj id _ B;have g:XobR ψ (·∈st.ids) S w id (.mit m kv.length seen stepped):=g;obtain ⟨N,y,_⟩:=d.obj m _ J;have y:XobR ψ (·∈st.ids) S w m (.amap kv):=y;have hv:=C.eval x;rw [hx] at hv;obtain ⟨r,bm,es,l,O,hr,Q,ad,R⟩:=kuy y g hv;have born:∀ e,e∈es.toList->∃ i,i<kv.length/\es[i]?=some e/\e.born=i:=fun e hm=>by
  obtain ⟨i,hi,rfl⟩:=qah.1 hm;have D:i<es.size:=by simpa using hi
  have E:i<kv.length:=by omega
  exact ⟨i,E,by simp [D],(R i _ _ (by simp [D]) (qa E)).2.1⟩
 have hj:=(klz (i:=j) (n:=kv.length) seen).1 (by rw [hl];exact qat.2 rfl);rcases run_next_at (P:=P) w o.type r bm kv.length stepped seen.toArray es kv.length hr Q (fun e hm=>by obtain ⟨i,h1,_,h3⟩:=born e hm;omega) K with ⟨h0,_⟩ | ⟨e,f,w1,T,s⟩
 ·exfalso;have U:j<es.size:=by omega
  have V:es[j]∈(leftOf es seen.toArray).toList:=by unfold leftOf;simp only [Array.toList_filter,List.mem_filter];refine ⟨by simp,?_⟩;have:=(R j es[j] kv[j] (by simp [U]) (qa hj.1)).2.1;rw [this];simpa using hj.2
  have:=List.length_pos_of_mem V;simp at this;omega
 ·unfold leftOf at f;simp only [Array.toList_filter,List.mem_filter] at f;obtain ⟨i,X,Y,G⟩:=born e f.1;have Z:i=j:=by have aa:i∉seen:=(by have:=f.2;rw [G] at this;simpa using this);have:=(klz (i:=i) (n:=kv.length) seen).2 ⟨X,aa⟩;rw [hl] at this;exact qat.1 this
  subst Z;obtain ⟨q1,q2,q3⟩:=R i e p Y hp;obtain ⟨w',H⟩:∃ w',w'=setBlock w1 r (.mapIter (some bm) kv.length (seen.toArray.push e.born) kv.length):=⟨_,rfl⟩;rw [<- H] at s;have c:w'.heap=w.heap.setIfInBounds r (.mapIter (some bm) kv.length (seen.toArray.push e.born) kv.length)/\w'.os=w.os/\w'.tape=w.tape/\w'.output=w.output:=by rw [H];rcases T with rfl | rfl <;> exact ⟨rfl,rfl,rfl,rfl⟩
  have I:r<w.heap.size:=(qai.1 hr).1;have q:w'.heap[r]?=some (.mapIter (some bm) kv.length (seen++[i]).toArray kv.length):=by rw [c.1,Array.getElem?_setIfInBounds_self_of_lt I,G];simp
  have ab:w'.heap.size=w.heap.size:=by rw [c.1];simp
  have t:∀ k,k<w.heap.size->¬ Blk (ψ.val id) k->w'.heap[k]?=w.heap[k]?:=fun k _ hk=>by rw [c.1,Array.getElem?_setIfInBounds_ne];intro e;subst e;exact hk (.of (by rw [l];rfl))
  have hk:Same S w w':=fun k hk hl=>t k hl fun e=>(M k e).1 hk;have h0:=g.1;have u:=kwf h0;obtain ⟨c1,c2,c3⟩:=d.upd (n:=0) (v:=ψ.val id) (w':=w') (ob' := .xo (.mit m kv.length (seen++[i]) kv.length)) B (by omega) t (.inr ⟨h0,rfl⟩) (fun b Q => .inl Q) (by rw [u];obtain ⟨_,_,r',bm',z1,z2,z3⟩:=g;refine ⟨h0,N,r,bm,l,q,fun h=>?_⟩;have e1:=z3 h;rw [l] at z1;simp only [Value.pointer.injEq,qc,Addr.mk.injEq,and_true] at z1;subst z1;rw [hr] at z2;injection z2 with z2;injection z2 with z2;injection z2 with z2;rw [z2];exact e1);rw [u] at c1;refine kad w' (.tuple #[.bool true,e.key,e.val]) ?_ ⟨ψ,S,c1,?_,⟨c.2.1,c.2.2.1,c.2.2.2,by omega,c3,no0⟩,Ext.refl,fun _ h=>h,fun _ h=>h,c2⟩;simp [execOp,ho,O,s]
  ·refine .tup rfl fun i v z hv A=>?_
   match i with
   | 0=>simp at hv A;subst hv A;exact .fz (.atom rfl)
   | 1=>simp at hv A;subst hv A;rw [q1];exact .fz (.atom L)
   | 2=>simp at hv A;subst hv A;exact q3.keep Ext.refl (fun _ h=>h) (fun _ h=>h) hk
   | i+3=>simp at A
theorem k48 {x:Operand} {m stepped:Nat} {seen:List Nat} (B:o.op = .next x false) (hx:st.eval x = .ref id 0 0) (g:kaa st.heap id=some (.xo (.mit m kv.length seen stepped))) (h:kaa st.heap m=some (.xo (.amap kv))) (j:kv.length<=stepped)
  (hl:kn6 seen kv.length=[]):NStep P o st (.fz (.tup [.atom (.bool false)])):=by
 intro ψ S a w ht y;have k:XobR ψ (·∈st.ids) S w id (.mit m kv.length seen stepped):=y id _ g;have l:XobR ψ (·∈st.ids) S w m (.amap kv):=y m _ h;have hv:=Sim.eval_tmps ht x;rw [hx] at hv;obtain ⟨r,bm,es,A,p,hr,C,D,E⟩:=kuy l k hv;have born:∀ e,e∈es.toList->∃ i,i<kv.length/\es[i]?=some e/\e.born=i:=fun e hm=>by
  obtain ⟨i,hi,rfl⟩:=qah.1 hm;have c:i<es.size:=by simpa using hi
  have d:i<kv.length:=by omega
  exact ⟨i,d,by simp [c],(E i _ _ (by simp [c]) (qa d)).2.1⟩
 rcases run_next_at (P:=P) w o.type r bm kv.length stepped seen.toArray es kv.length hr C (fun e hm=>by obtain ⟨i,h1,_,G⟩:=born e hm;omega) j with ⟨_,f⟩ | ⟨e,b,_⟩
 ·refine kad w (.tuple #[.bool false]) ?_ ⟨kae _, .fz (.tup rfl fun i v z hv q=>?_)⟩;simp [execOp,B,p,f]
  ·match i with
   | 0=>simp at hv q;subst hv q;exact .atom rfl
   | i+1=>simp at q
 ·exfalso;unfold leftOf at b;simp only [Array.toList_filter,List.mem_filter] at b;obtain ⟨i,s,F,t⟩:=born e b.1;have u:i∉seen:=by have:=b.2;rw [t] at this;simpa using this
  have:=(klz (i:=i) (n:=kv.length) seen).2 ⟨s,u⟩;rw [hl] at this;cases this
theorem k64 {x:Operand} {m since j:Nat} {seen:List Nat} {p:Value×AV} (y:o.op = .entry x) (hx:st.eval x = .ref id 0 0) (e:kaa st.heap id=some (.xo (.mit m since (seen++[j]) kv.length))) (f:kaa st.heap m=some (.xo (.amap kv)))
  (hp:kv[j]?=some p) (g:p.1.oneCell'=true):NStep P o st (.tup [.fz (.atom p.1),p.2]):=by
 intro ψ S a w ht s;have h:XobR ψ (·∈st.ids) S w id (.mit m since (seen++[j]) kv.length):=s id _ e;have k:XobR ψ (·∈st.ids) S w m (.amap kv):=s m _ f;have hv:=Sim.eval_tmps ht x;rw [hx] at hv;obtain ⟨r,bm,es,t,l,hr,A,B,u⟩:=kuy k h hv;have C:j<kv.length:=(qd.1 hp).1;have n:j<es.size:=by omega
 obtain ⟨q1,q2,q3⟩:=u j es[j] p (by simp [n]) hp;have q:(es.toList.map (·.born)).Nodup:=by
  have:es.toList.map (·.born)=List.range kv.length:=by
   apply List.ext_getElem?;intro i;by_cases hi:i<kv.length;have b:i<es.size:=(by omega);have:=(u i es[i] kv[i] (by simp [b]) (qa hi)).2.1;simp [b,hi,this]
   ·rw [qa5 (by simp;omega),qa5 (by simp;omega)]
  rw [this];exact List.nodup_range
 have c:=run_entry_at (P:=P) w r bm since seen.toArray es kv.length es[j] (by rw [q2];simpa using hr) A (by simp) q;refine kad w (.tuple #[es[j].key,es[j].val]) ?_ ⟨kae _,(RV.tup rfl fun i v z hv d=>?_).here⟩;simp [execOp,y,l,c]
 ·match i with
  | 0=>simp at hv d;subst hv d;rw [q1];exact .fz (.atom g)
  | 1=>simp at hv d;subst hv d;exact q3
  | i+2=>simp at d
end Go.Proofs.YtjnjipmjkkhdpaaGreatDoor
