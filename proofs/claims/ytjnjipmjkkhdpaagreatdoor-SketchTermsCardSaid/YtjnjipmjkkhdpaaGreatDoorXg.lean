import Derived.Test.YtjnjipmjkkhdpaaGreatDoorXb
import Derived.Maps.RangeRun
set_option linter.all false
namespace Go.Proofs.YtjnjipmjkkhdpaaGreatDoor
open Go Go.RowKit
def koj (size:Nat):Nat->List (Nat×AV)->Option (List AV)
  | _,[]=>some []
  | i,(j,x)::l=>bif Nat.beq j i && (Nat.beq x.cells.length size && x.cells.all AV.single) then (match koj size (i+1) l with
    | some ys=>some (x.cells++ys)
    | none=>none) else none
def kd0 (E:Operand->AV) (d:Nat):Option Operand->Option Nat
  | none=>some d
  | some y=>match E y with
    | .fz (.atom (.int _ n))=>bif decide (0<=n) then some n.toNat else none
    | _=>none
abbrev kcs (st:St) (d:Nat):Option Operand->Option Nat:=kd0 st.eval d
def koo:List AV->Option (List Int)
  | []=>some []
  | .fz (.atom (.int .u8 n))::l=>match koo l with
    | some r=>some (n::r)
    | none=>none
  | _=>none
def lstX:AV->Option (Nat×Nat×List FV)
  | .fz (.lst s n xs)=>some (s,n,xs)
  | .lim s n xs=>some (s,n,xs)
  | _=>none
section
variable {P:Program} {F S0:Nat->Prop} {N0:Nat} {w w':World} {S S':Nat->Prop} {ψ ψ':Env} {K:Nat->Prop} {T:List (TypeId×TD)} {o:Oper} {a:Act} {st:St} {t tx:TypeId} {d:TD} {id:Nat}
def repC (c:Nat) (zs:List Value):List AV:=(List.replicate c (zs.map fun v=>AV.fz (.atom v))).flatten
theorem k1h {α:Type} (zs:List α) (a:0<zs.length):∀ (c k:Nat),k<c*zs.length->(List.replicate c zs).flatten[k]?=zs[k % zs.length]?
  | 0,k,h=>by simp at h
  | c+1,k,h=>by
    rw [List.replicate_succ,List.flatten_cons];by_cases hk:k<zs.length
    · rw [qab hk,Nat.mod_eq_of_lt hk]
    · rw [qad (by omega),k1h zs a c _ (by rw [qaw,Nat.one_mul] at h;omega)]
      rw [Nat.mod_eq_sub_mod (by omega:zs.length<=k)]
theorem e_mkE {X Y:Operand} {e:TypeId} {de:TD} {k k':IntKind} {zs:List Value} {n c:Int} (O:o.op = .makeSlice t X Y) (N:TOk P T) (hd:kac T t=some d) (hk:d.kind = .slice e) (q:kac T e=some de)
    (r:0<de.size) (g:zs.length=de.size) (D:de.zero=zs) (y:∀ v∈zs,v.oneCell'=true) (hx:st.eval X = .fz (.atom (.int k n))) (hy:st.eval Y = .fz (.atom (.int k' c))) (h0:0<=n) (E:n<=c) (G:(de.bytes:Int)*c<=281474976710656) (H:c<=9223372036854775807) (j:st.ids.contains id=false):
    StepA P o st (.bsl id 0 0 n.toNat (some c.toNat)) ((id, .xo (.blk 0 e de.size (repC c.toNat zs)))::st.heap) (id::st.ids):=by
  have j:id∉st.ids:=by simpa using j
  have hd:=N.get hd;have q:=N.get q;intro F S0 N0 ψ S a w s;have m:=s.eval X;rw [hx] at m;have m:=m.atom;have p:=s.eval Y;rw [hy] at p;have p:=p.atom;obtain ⟨⟨i,z',hi,I,J,Q,K⟩,_⟩:=q;have f:=s.core;have hcl:z'.cells.toList=zs:=by rw [K,D]
  have u:z'.cells.size=de.size:=by rw [<- qac,hcl,g]
  have hr:=run_make (P:=P) w t e i z' (hd.slice hk) hi Q k k' n c h0 E (by rw [J];exact G) H;rw [I] at hr;have z:Grow w (w.alloc (.cells (madeCells z'.cells (c.toNat*de.size)) e)):=ka7 _ _;have A:∀ x∈repC c.toNat zs,x.single=true:=fun x hx=>by obtain ⟨l,hl,hx⟩:=List.mem_flatten.1 hx;rw [qbk] at hl;rw [hl.2] at hx;obtain ⟨v,hv,rfl⟩:=qap.1 hx;exact y v hv
  have B:(repC c.toNat zs).length=c.toNat*de.size:=by unfold repC;simp [g]
  refine kad (w.alloc (.cells (madeCells z'.cells (c.toNat*de.size)) e)) (.slice (some ⟨w.heap.size,0,none⟩) n.toNat c.toNat) ?_ ⟨ψ.set id 0 (.slice (some ⟨w.heap.size,0,none⟩) n.toNat c.toNat),S,?_,?_,kgj _ f.fr,ka3 j _ _,fun _ h=>qf _ h,fun _ h=>h,Same.of_grow z⟩
  · simp [execOp,O,m,p,hr]
  · refine f.add z j (fun b G=>by simp [kap] at G;omega) ⟨kbf _ _,r,w.heap.size,madeCells z'.cells (c.toNat*de.size),n.toNat,c.toNat,kaj _ _,heap_alloc_new w _,by rw [size_madeCells],by omega,by rw [size_madeCells,B];omega,A,fun i v x hv hx=>?_⟩
    have C:i<c.toNat*de.size:=(by rw [<- B];exact (qd.1 hx).1);have hm:i % de.size<z'.cells.size:=(by rw [u];exact Nat.mod_lt _ r);have L:(madeCells z'.cells (c.toNat*de.size))[i]?=z'.cells[i % z'.cells.size]?:=(by have M:i % z'.cells.size<z'.cells.size:=(by rw [u];exact Nat.mod_lt _ r);simp [madeCells,C,M]);rw [L,u,<- qal,hcl] at hv;unfold repC at hx;rw [k1h _ (by rw [qs];omega) _ _ (by rw [qs,g];exact C),qs,g,ql,hv] at hx;injection hx with hx;subst hx;exact .fz (.atom (y v (qm hv)))
  · exact .bsl (qt ..) (qaq _) rfl fun _=>⟨w.heap.size,c.toNat,by rw [kaj];rfl,rfl,by omega,by omega,rfl⟩
theorem kvp {ids:List Nat} (ht:∀ t,RV ψ (·∈ids) S w (a.tmps.getD t undef) (st.get t)) {size:Nat}:∀ {i:Nat} {l:List (Nat×Operand)} {ys:List AV},koj size i (l.map fun p=>(p.1,st.eval p.2))=some ys ->
    (l.map fun p=>(p.1,a.eval p.2))=((l.map fun p=>a.eval p.2).zipIdx i).map (fun x=>(x.2,x.1))/\(∀ v∈l.map (fun p=>a.eval p.2),v.cells.size=size)/\CR ψ (·∈ids) S w ((l.map fun p=>a.eval p.2).flatMap fun v=>v.cells.toList) ys/\ys.length=l.length*size
  | i,[],ys,h=>by simp only [List.map_nil,koj,qc] at h;subst h;exact ⟨rfl,(fun v hv=>by cases hv),CR.nil,by simp⟩
  | i,(j,x)::l,ys,h=>by
    simp only [qba,koj] at h;cases c:(Nat.beq j i && (Nat.beq (st.eval x).cells.length size && (st.eval x).cells.all AV.single)) with
    | false=>rw [c] at h;cases h
    | true=>
      rw [c] at h;simp only [qg] at h;split at h
      · rename_i zs f
        injection h with h;subst h;simp only [qk] at c;obtain ⟨d,b,e⟩:=c;obtain rfl:=qe d;have b:=qe b;obtain ⟨e1,e2,e3,e4⟩:=kvp ht f;have hc:=CR.cells (Sim.eval_tmps ht x) e;refine ⟨by simp only [qba,List.zipIdx_cons,e1],fun v hv=>?_,?_,by simp [b,e4,qaw];omega⟩
        · simp only [qba] at hv
          rcases qaa.1 hv with rfl | hv
          · have:=hc.1;simp at this;omega
          · exact e2 v hv
        · simp only [qba,List.flatMap_cons]
          exact hc.append e3
      · cases h
theorem kabk {n:Nat} {parts:Array (Nat×Operand)} {e:TypeId} {de:TD} {ys:List AV} (H:o.op = .buildSlice t n parts) (hd:TdOk P t d) (hk:d.kind = .slice e) (q:TdOk P e de) (l:0<de.size) (hn:parts.toList.length=n) (E:n*de.size<=16777216)
    (hp:koj de.size 0 (kb4 st parts)=some ys) (c:st.ids.contains id=false):StepA P o st (.bsl id 0 0 n (some n)) ((id, .xo (.blk 0 e de.size ys))::st.heap) (id::st.ids):=by
  have c:id∉st.ids:=by simpa using c
  subst hn;intro F S0 N0 ψ S a w r;have f:=r.core;obtain ⟨e1,e2,e3,e4⟩:=kvp r.tmps hp;obtain ⟨vs,s⟩:∃ vs:List Value,vs=parts.toList.map (fun p=>a.eval p.2):=⟨_,rfl⟩;rw [<- s] at e1 e2 e3;have y:vs.length=parts.toList.length:=by rw [s];simp
  obtain ⟨z,A,I⟩:=q.zero (P:=P) (w:=w);obtain ⟨cells,hcl⟩:∃ cells:Array Value,cells=(vs.flatMap fun v=>v.cells.toList).toArray:=⟨_,rfl⟩;have B:(parts.map fun (i,x)=>(i,a.eval x)).toList=(vs.zipIdx 0).map (fun x=>(x.2,x.1)):=by rw [<- e1];simp
  have u:(Instr.buildSlice t parts.toList.length (parts.map fun (i,x)=>(i,a.eval x))).run P w = .ok (.slice (some ⟨w.heap.size,0,none⟩) parts.toList.length parts.toList.length) (w.alloc (.cells cells e)):=by
    have C:¬ parts.toList.length*de.size > 2 ^ 24:=(by omega);have g:∀ c0:Array Value,parts.toList.length*de.size=c0.size->Instr.fill (fun i=>some (i*de.size,de.size)) c0 (parts.map fun (i,x)=>(i,a.eval x)).toList=some cells:=fun c0 D=>(by rw [B,Great.fill_whole l vs c0 e2 (by rw [y];exact D),hcl]);unfold Instr.buildSlice;rw [Sem.run_bind,run_underlying (hd.slice hk),Result.andThen_ok];simp only [Sem.run_bind,q.size,Result.andThen_ok,qj C];by_cases h0:parts.toList.length*de.size=0
    · simp only [qr h0,Sem.run_bind,Sem.run_pure,Result.andThen_ok]
      rw [g]
      · rfl
      · simp
    · simp only [qj h0,Sem.run_bind,A,Result.andThen_ok,Sem.run_pure]
      rw [g]
      · rfl
      · simp
  have m:Grow w (w.alloc (.cells cells e)):=ka7 _ _;have k:cells.size=parts.toList.length*de.size:=by rw [hcl,List.size_toArray,e3.1,e4]
  have G:parts.toList.length*1<=parts.toList.length*de.size:=Nat.mul_le_mul_left _ l;refine kad (w.alloc (.cells cells e)) (.slice (some ⟨w.heap.size,0,none⟩) parts.toList.length parts.toList.length) ?_ ⟨ψ.set id 0 (.slice (some ⟨w.heap.size,0,none⟩) parts.toList.length parts.toList.length),S,?_,?_,kgj _ f.fr,ka3 c _ _,fun _ h=>qf _ h,fun _ h=>h,Same.of_grow m⟩
  · have j:=u
    simp only [execOp,H,Sem.run_bind];rw [show (parts.map fun (i,x)=>(i,a.eval x))=parts.map (fun x=>(x.1,a.eval x.2)) from rfl] at j;simp only [j];rfl
  · refine f.add m c (fun b E=>by simp [kap] at E;omega) ⟨kbf _ _,l,w.heap.size,cells,_,_,kaj _ _,heap_alloc_new w _,k,by omega,by rw [k,e4];exact qv _,e3.2.1,fun i v x hv hx=>?_⟩
    exact (e3.2.2 i v x (by rw [hcl] at hv;simpa using hv) hx).keep (ka3 c _ _) (fun _ h=>qf _ h) (fun _ h=>h) (Same.of_grow m)
  · exact .bsl (qt ..) (qaq _) rfl fun _=>⟨w.heap.size,_,by rw [kaj];rfl,rfl,qv _,by omega,rfl⟩
theorem kbo {ids:List Nat} (ht:∀ t,RV ψ (·∈ids) S w (a.tmps.getD t undef) (st.get t)) {x:Option Operand} {D r:Nat} (h:kcs st D x=some r):(x=none/\r=D)\/∃ y k,x=some y/\a.eval y = .int k (r:Int):=by
  unfold kcs kd0 at h;split at h
  · injection h with h;exact .inl ⟨rfl,h.symm⟩
  · rename_i y
    split at h
    · rename_i k n hk
      cases h0:decide (0<=n) with
      | false=>rw [h0] at h;cases h
      | true=>
        rw [h0] at h;simp only [qg,qc] at h;have h1:=Sim.eval_tmps ht y;rw [hk] at h1;have hn:(r:Int)=n:=(by rw [<- h];exact Int.toNat_of_nonneg (by simpa using h0));exact .inr ⟨y,k,rfl,by rw [hn];exact h1.atom⟩
    · cases h
theorem kh2 (P:Program) (w:World) {lo hi:Option Operand} (mx:Option Operand) (isS:Bool) {len:Nat} (cap:Nat) {L H:Nat} (M:Nat) (d:(lo=none/\L=0)\/∃ y k,lo=some y/\a.eval y = .int k (L:Int)) (e:(hi=none/\H=len)\/∃ y k,hi=some y/\a.eval y = .int k (H:Int)) (g:(mx=none/\M=cap)\/∃ y k,mx=some y/\a.eval y = .int k (M:Int)) (h1:L<=H) (c:H<=M) (f:M<=cap) (h:mx.isSome=true->hi.isSome=true):(Instr.sliceBounds isS len cap (lo.map a.eval) (hi.map a.eval) (mx.map a.eval)).run P w = .ok (L,H,M) w:=by
  have q1:(L:Int)<=(H:Int):=by omega
  have q2:(H:Int)<=(M:Int):=by omega
  have q3:(M:Int)<=(cap:Int):=by omega
  have q4:(H:Int)<=(cap:Int):=by omega
  have p1:(0:Int)<=(L:Int):=by omega
  have p2:(0:Int)<=(H:Int):=by omega
  have p3:(0:Int)<=(M:Int):=by omega
  have sb:∀ {u:Value} {k:IntKind} {n y:Nat} {code:BoundsCode},u = .int k (n:Int)->n<=y->(Instr.sliceBound u y code).run P w = .ok n w:=fun {u k n y code} i j=>by subst i;have e1:(0:Int)<=(n:Int):=(by omega);have e2:(n:Int)<=(y:Int):=(by omega);simp only [Instr.sliceBound,asIntOf,Sem.run_bind,Sem.run_pure,Result.andThen_ok];rw [qr ⟨e1,e2⟩];simp
  unfold Instr.sliceBounds;rcases g with ⟨rfl,rfl⟩ | ⟨ym,km,rfl,hm⟩
  · rcases e with ⟨rfl,rfl⟩ | ⟨yh,kh,rfl,b⟩
    · rcases d with ⟨rfl,rfl⟩ | ⟨yl,kl,rfl,hl⟩
      · simp
      · simp [sb hl h1]
    · rcases d with ⟨rfl,rfl⟩ | ⟨yl,kl,rfl,hl⟩
      · simp [sb b c]
      · simp [sb b c,sb hl h1]
  · rcases e with ⟨rfl,rfl⟩ | ⟨yh,kh,rfl,b⟩
    · exact absurd (h rfl) (by simp)
    · rcases d with ⟨rfl,rfl⟩ | ⟨yl,kl,rfl,hl⟩
      · simp [sb hm f,sb b c]
      · simp [sb hm f,sb b c,sb hl h1]
def offE (off L M size:Nat):Nat:=bif Nat.beq M L then off else off+L*size
theorem kqu {b off L M size:Nat}:(if M=L then (⟨b,off,none⟩:Addr) else (⟨b,off,none⟩:Addr).add (L*size))=⟨b,offE off L M size,none⟩:=by
  unfold offE;by_cases h:M=L
  · subst h;simp
  · rw [qj h,Nat.beq_eq_false h,kbg];rfl
theorem n_slB {x:Operand} {lo hi mx:Option Operand} {e:TypeId} {de:TD} {g off len k L H M:Nat} {cells:List AV} (p:o.op = .slice t x lo hi mx) (m:TOk P T) (hd:kac T t=some d) (hk:d.kind = .slice e) (h:kac T e=some de) (hx:st.eval x = .bsl id g off len (some k)) (i:objC st id=some (g,cells))
    (hl:kcs st 0 lo=some L) (q:kcs st len hi=some H) (hm:kcs st k mx=some M) (h1:L<=H) (r:H<=M) (s:M<=k) (u:mx.isSome=true->hi.isSome=true):NStep P o st (.bsl id g (offE off L M de.size) (H - L) (some (M - L))):=by
  intro ψ S a w ht y;obtain ⟨z,_⟩:=kfk y i;have hv:=Sim.eval_tmps ht x;rw [hx] at hv;obtain ⟨hK,b,c,A,j,B,n,f⟩:=kgv hv z;have f:c=k:=f;subst f;have e1:=kh2 P w _ true _ _ (kbo ht hl) (kbo ht q) (kbo ht hm) h1 r s u;refine kad w (.slice (some ⟨b,offE off L M de.size,none⟩) (H - L) (M - L)) ?_ ⟨kae _, .bsl hK (by omega) rfl fun _=>⟨b,M - L,A,rfl,by omega,by omega,rfl⟩⟩;have l:=(m.get h).size (P:=P) (w:=w);rw [<- kqu];simp [execOp,p,Instr.sliceAt,Instr.slice,run_underlying ((m.get hd).slice hk),j,e1,l];split <;> rfl
theorem n_slU {x:Operand} {lo hi:Option Operand} {e:TypeId} {de:TD} {g len H:Nat} {cells:List AV} (p:o.op = .slice t x lo hi none) (n:TOk P T) (hd:kac T t=some d) (hk:d.kind = .slice e) (j:kac T e=some de) (hx:st.eval x = .bsl id g 0 len none) (k:objC st id=some (g,cells))
    (hl:kcs st 0 lo=some 0) (q:kcs st len hi=some H) (z:H<=len):NStep P o st (.bsl id g 0 H none):=by
  intro ψ S a w ht r;obtain ⟨s,_⟩:=kfk r k;have hv:=Sim.eval_tmps ht x;rw [hx] at hv;obtain ⟨hK,b,c,u,l,y,f,i⟩:=kgv hv s;have e1:=kh2 P w none true c c (kbo ht hl) (kbo ht q) (.inl ⟨rfl,rfl⟩) (qaq _) (by omega) (qv _) (fun h=>by cases h);refine kad w (.slice (some ⟨b,0,none⟩) H c) ?_ ⟨kae _, .bsl hK (by omega) rfl fun _=>⟨b,c,u,rfl,by omega,f,i⟩⟩;have m:=(n.get j).size (P:=P) (w:=w);simp only [Option.map_none] at e1;simp [execOp,p,Instr.sliceAt,Instr.slice,run_underlying ((n.get hd).slice hk),l,e1,m,kbg]
theorem n_slM {x:Operand} {lo hi:Option Operand} {y:Operand} {e:TypeId} {de:TD} {g len L H M:Nat} {cells:List AV} (p:o.op = .slice t x lo hi (some y)) (l:TOk P T) (hd:kac T t=some d) (hk:d.kind = .slice e) (f:kac T e=some de) (hx:st.eval x = .bsl id g 0 len none) (i:objC st id=some (g,cells))
    (hl:kcs st 0 lo=some L) (q:kcs st len hi=some H) (hm:kcs st 0 (some y)=some M) (h1:L<=H) (r:H<=M) (D:M<=len) (s:hi.isSome=true):NStep P o st (.bsl id g (offE 0 L M de.size) (H - L) (some (M - L))):=by
  intro ψ S a w ht u;obtain ⟨z,_⟩:=kfk u i;have hv:=Sim.eval_tmps ht x;rw [hx] at hv;obtain ⟨hK,b,c,A,j,B,m,n⟩:=kgv hv z;have C:=(kbo ht hm).resolve_left (fun h=>by cases h.1);have e1:=kh2 P w (some y) true c M (kbo ht hl) (kbo ht q) (.inr C) h1 r (by omega) (fun _=>s);refine kad w (.slice (some ⟨b,offE 0 L M de.size,none⟩) (H - L) (M - L)) ?_ ⟨kae _, .bsl hK (by omega) rfl fun _=>⟨b,M - L,A,rfl,by omega,by omega,rfl⟩⟩;have k:=(l.get f).size (P:=P) (w:=w);rw [<- kqu];simp only [qa1] at e1;simp [execOp,p,Instr.sliceAt,Instr.slice,run_underlying ((l.get hd).slice hk),j,e1,k];split <;> rfl
theorem k84 {x:Operand} {lo hi mx:Option Operand} {n e:Nat} {de:TD} {g off L H M:Nat} {cells:List AV} (m:o.op = .slice t x lo hi mx) (l:TOk P T) (hd:kac T t=some d) (hk:d.kind = .arr n e) (h:kac T e=some de) (hx:st.eval x = .ref id g off) (i:objC st id=some (g,cells))
    (hl:kcs st 0 lo=some L) (p:kcs st n hi=some H) (hm:kcs st n mx=some M) (h1:L<=H) (q:H<=M) (r:M<=n) (s:mx.isSome=true->hi.isSome=true) (hn:n<=9223372036854775807):NStep P o st (.bsl id g (offE off L M de.size) (H - L) (some (M - L))):=by
  intro ψ S a w ht y;obtain ⟨z,b0,_,_,f,_⟩:=kfk y i;have hv:=Sim.eval_tmps ht x;rw [hx] at hv;have b:g<=ψ.len id/\id∈st.ids/\a.eval x = .pointer (some ⟨b0,off,none⟩):=by
    generalize a.eval x=u at hv;cases hv with
    | ref hK hn h1 hv=>
      obtain ⟨b',c,rfl⟩:=hv z.symm;rw [f] at c;simp only [qc] at c;rw [c];exact ⟨hn,hK,rfl⟩
  obtain ⟨j,hK,b⟩:=b;have e1:=kh2 P w _ false _ _ (kbo ht hl) (kbo ht p) (kbo ht hm) h1 q r s;refine kad w (.slice (some ⟨b0,offE off L M de.size,none⟩) (H - L) (M - L)) ?_ ⟨kae _, .bsl hK j rfl fun _=>⟨b0,M - L,f,rfl,by omega,by omega,rfl⟩⟩;have k:=(l.get h).size (P:=P) (w:=w);rw [<- kqu];simp [execOp,m,Instr.sliceAt,run_underlying ((l.get hd).arr hk),Instr.sureAddr,b,e1,k]
theorem ku0 {v:Value} {x:AV} {s n:Nat} {xs:List FV} (h:RV ψ K S w v x) (hx:lstX x=some (s,n,xs)):∃ A cap,v = .slice A n cap/\RF S w (.slice A n cap) (.lst s n xs):=by
  unfold lstX at hx;split at hx
  · simp only [qc,qp] at hx
    obtain ⟨rfl,rfl,rfl⟩:=hx;have h:=h.inv;obtain ⟨A,cap,css,rfl,_⟩:=h.lst_inv;exact ⟨A,cap,rfl,h⟩
  · simp only [qc,qp] at hx
    obtain ⟨rfl,rfl,rfl⟩:=hx;cases h with
    | lim h=>exact ⟨_,_,rfl,h⟩
  · cases hx
theorem n_slF {x:Operand} {lo hi:Option Operand} {e:TypeId} {de:TD} {n L H:Nat} {xs:List FV} (p:o.op = .slice t x lo hi none) (l:TOk P T) (hd:kac T t=some d) (hk:d.kind = .slice e) (b:kac T e=some de) (hx:lstX (st.eval x)=some (de.size,n,xs))
    (hl:kcs st 0 lo=some L) (q:kcs st n hi=some H) (h1:L<=H) (r:H<=n):NStep P o st (.fz (.lst de.size (H - L) ((xs.take H).drop L))):=by
  intro ψ S a w ht u;obtain ⟨A,cap,c,m⟩:=ku0 (Sim.eval_tmps ht x) hx;obtain ⟨_,_,css,f,hn,s,hm,_⟩:=m.lst_inv;injection f with q1 q2 q3;subst q1 q3;have e1:=kh2 P w none true cap cap (kbo ht hl) (kbo ht q) (.inl ⟨rfl,rfl⟩) h1 (by omega) (qv _) (fun h=>by cases h);obtain ⟨A',g,i⟩:=m.take (v := .nilFunc) (k:=0) L H h1 r;refine kad w (.slice A' (H - L) (cap - L)) ?_ ⟨kae _,(RV.fz i).here⟩;have j:=(l.get b).size (P:=P) (w:=w);simp only [Option.map_none] at e1;simp [execOp,p,Instr.sliceAt,Instr.slice,run_underlying ((l.get hd).slice hk),c,e1,j,g]
theorem RF.takeE {A:Option Addr} {cap n size:Nat} {xs:List FV} (h:RF S w (.slice A n cap) (.lst size n xs)) (lo hi:Nat) (h1:lo<=hi) (e:hi<=n):RF S w (.slice (if hi=lo then A else A.map (·.add (lo*size))) (hi - lo) (hi - lo)) (.lst size (hi - lo) ((xs.take hi).drop lo)):=by
  obtain ⟨A0,cap0,css,hv,hn,hc,hm,hs,ha,hl,hr⟩:=h.lst_inv;injection hv with e1 _ e3;subst e1 e3;have a:(xs.take hi).length=hi:=by rw [q9];omega
  have get:∀ (i:Nat) (x:FV),((xs.take hi).drop lo)[i]?=some x->xs[lo+i]?=some x:=fun i x hx=>by
    rw [qag,qw] at hx;split at hx
    · exact hx
    · cases hx
  refine .lst (fun i=>css (lo+i)) (by rw [qau,a]) (by omega) (by omega) hs (fun i x hx=>?_) (fun i x hx=>hl _ x (get i x hx)) fun i x j v y hx hv hy=>hr _ x j v y (get i x hx) hv hy;obtain ⟨b,o,hA,hS,c⟩:=ha _ x (get i x hx);have d:=(qd.1 hx).1;rw [qau,a] at d;refine ⟨b,o+lo*size,?_,hS,by rw [Nat.add_assoc,<- qaw];exact c⟩;rw [qj (by omega),hA];simp only [qa1,kbg]
theorem kaay {x y:Operand} {lo hi:Option Operand} {e:TypeId} {de:TD} {n L H:Nat} {xs:List FV} (l:o.op = .slice t x lo hi (some y)) (j:TOk P T) (hd:kac T t=some d) (hk:d.kind = .slice e) (b:kac T e=some de) (hx:lstX (st.eval x)=some (de.size,n,xs))
    (hl:kcs st 0 lo=some L) (m:kcs st n hi=some H) (hm:kcs st 0 (some y)=some H) (h1:L<=H) (p:H<=n) (q:hi.isSome=true):NStep P o st (.lim de.size (H - L) ((xs.take H).drop L)):=by
  intro ψ S a w ht z;obtain ⟨A,cap,c,k⟩:=ku0 (Sim.eval_tmps ht x) hx;obtain ⟨_,_,css,f,hn,r,s,_⟩:=k.lst_inv;injection f with q1 q2 q3;subst q1 q3;have u:=(kbo ht hm).resolve_left (fun h=>by cases h.1);have e1:=kh2 P w (some y) true cap H (kbo ht hl) (kbo ht m) (.inr u) h1 (qv _) (by omega) (fun _=>q);have g:=k.takeE L H h1 p;refine kad w (.slice (if H=L then A else A.map (·.add (L*de.size))) (H - L) (H - L)) ?_ ⟨kae _,(RV.lim g).here⟩;have i:=(j.get b).size (P:=P) (w:=w);simp only [qa1] at e1;simp [execOp,l,Instr.sliceAt,Instr.slice,run_underlying ((j.get hd).slice hk),c,e1,i]
theorem n_sl0 {x:Operand} {lo hi mx:Option Operand} {e:TypeId} {de:TD} (g:o.op = .slice t x lo hi mx) (f:TOk P T) (hd:kac T t=some d) (hk:d.kind = .slice e) (b:kac T e=some de) (hx:st.eval x = .fz (.atom nilV))
    (hl:kcs st 0 lo=some 0) (h:kcs st 0 hi=some 0) (hm:kcs st 0 mx=some 0) (i:mx.isSome=true->hi.isSome=true):NStep P o st (.fz (.atom nilV)):=by
  intro ψ S a w ht j;have hv:=Sim.eval_tmps ht x;rw [hx] at hv;have hv:=hv.atom;have e1:=kh2 P w _ true _ _ (kbo ht hl) (kbo ht h) (kbo ht hm) (qv _) (qv _) (qv _) i;refine kad w nilV ?_ ⟨kae _, .fz (.atom rfl)⟩;have c:=(f.get b).size (P:=P) (w:=w);simp [execOp,g,Instr.sliceAt,Instr.slice,run_underlying ((f.get hd).slice hk),hv,nilV,e1,c]
theorem kaa9 {x:Operand} {e:TypeId} {g off len:Nat} {cap:Option Nat} {cells:List AV} (i:o.op = .call { callee := .builtin .len,args:=#[x],argTypes:=#[t] }) (hd:TdOk P t d) (hk:d.kind = .slice e) (hx:st.eval x = .bsl id g off len cap) (f:objC st id=some (g,cells)):NStep P o st (.fz (.atom (.int .i64 len))):=by intro ψ S a w ht j;obtain ⟨k,_⟩:=kfk j f;have hv:=Sim.eval_tmps ht x;rw [hx] at hv;obtain ⟨hK,b,c,l,h,_⟩:=kgv hv k;refine kad w (.int .i64 len) ?_ ⟨kae _, .fz (.atom rfl)⟩;simp [execOp,i,resolve,invoke,builtin,Builtin.len_,run_underlying (hd.slice hk),h,goInt]
theorem kabp {x:Operand} {e:TypeId} {sz m k:Nat} {ys:List AV} (f:o.op = .call { callee := .builtin .cap,args:=#[x],argTypes:=#[t] }) (hd:TdOk P t d) (hk:d.kind = .slice e) (hx:rdSl sz st (st.eval x)=some (m,some k,ys)):NStep P o st (.fz (.atom (.int .i64 k))):=by intro ψ S a w ht g;obtain ⟨A,cap,c,_,_,b,_⟩:=kmv (Sim.eval_tmps ht x) g hx;obtain rfl:=b k rfl;refine kad w (.int .i64 cap) ?_ ⟨kae _, .fz (.atom rfl)⟩;simp [execOp,f,resolve,invoke,builtin,Builtin.cap_,run_underlying (hd.slice hk),c,goInt]
theorem ksl {op:BinOp} {x y:Operand} {u v:Option Addr} {n m c d:Nat}:(eqGuard op t x y (.slice u n c) (.slice v m d)).run P w = .ok () w:=by unfold eqGuard;cases op <;> simp
theorem k26 (u v:Option Addr) (n m c e:Nat) (r:Bool) (h:∀ d:Nat,(Op.equalIn (d+1) t (.slice u n c) (.slice v m e)).run P w = .ok r w):(binOp .eql t (.slice u n c) (.slice v m e)).run P w = .ok (.bool r) w/\(binOp .neq t (.slice u n c) (.slice v m e)).run P w = .ok (.bool !r) w:=by constructor <;> (simp only [binOp];simp [Op.equal,Op.maxDepth,h 9999])
theorem k3y {x y:Operand} {yt te:TypeId} (neg r:Bool) (l:o.op = .binOp (if neg then .neq else .eql) t x y yt) (ht:P.underlying t=some (.slice te)) (hx:(r=true/\st.eval x = .fz (.atom nilV))\/(r=false/\((∃ id g off len cap cells,st.eval x = .bsl id g off len cap/\objC st id=some (g,cells))\/∃ s n z zs,lstX (st.eval x)=some (s,n,z::zs)))) (hy:st.eval y = .fz (.atom nilV)):
    NStep P o st (.fz (.atom (.bool (bif neg then !r else r)))):=by
  intro ψ S a w h p;have h1:=Sim.eval_tmps h x;have i:=Sim.eval_tmps h y;rw [hy] at i;have i:=i.atom;have key:∃ A n c,a.eval x = .slice A n c/\A.isNone=r:=by
    rcases hx with ⟨rfl,hx⟩ | ⟨rfl,⟨id,g,off,len,cap,cells,hx,j⟩ | ⟨s,n,z,zs,hx⟩⟩
    · rw [hx] at h1;exact ⟨none,0,0,h1.atom,rfl⟩
    · rw [hx] at h1
      obtain ⟨q,_⟩:=kfk p j;obtain ⟨hK,b,c,D,f,_⟩:=kgv h1 q;exact ⟨_,_,_,f,rfl⟩
    · obtain ⟨A,cap,f,B⟩:=ku0 h1 hx
      obtain ⟨_,_,css,k,hn,C,hm,hs,ha,_⟩:=B.lst_inv;injection k with q1 q2 q3;subst q1 q3;obtain ⟨b,o,rfl,_⟩:=ha 0 z rfl;exact ⟨_,_,_,f,rfl⟩
  obtain ⟨A,n,c,f,hA⟩:=key;refine kad w (.bool (bif neg then !r else r)) ?_ ⟨kae _, .fz (.atom rfl)⟩;obtain ⟨q1,q2⟩:=k26 (t:=t) (w:=w) (P:=P) A none n 0 c 0 r fun d=>by cases A <;> simp at hA <;> subst hA <;> simp [Op.equalIn,run_underlying ht]
  cases neg
  · simp [execOp,l,f,i,nilV,ksl] at q1 ⊢
    simp [q1]
  · simp [execOp,l,f,i,nilV,ksl] at q2 ⊢
    simp [q2]
theorem k83 {x y:Operand} {t1 t2 e:TypeId} {d1 de:TD} {g off len n:Nat} {cap c2:Option Nat} {cells ys:List AV} (m:o.op = .call { callee := .builtin .copy,args:=#[x,y],argTypes:=#[t1,t2] }) (B:TOk P T) (hd:kac T t1=some d1) (hk:d1.kind = .slice e) (p:kac T e=some de)
    (hx:st.eval x = .bsl id g off len cap) (i:objC st id=some (g,cells)) (hy:rdSl de.size st (st.eval y)=some (n,c2,ys)) (q:off+(ys.take (min n len*de.size)).length<=cells.length):
    StepA P o st (.fz (.atom (.int .i64 ((min n len:Nat):Int)))) (putC st id (kbw cells off (ys.take (min n len*de.size)))) st.ids:=by
  intro F S0 N0 ψ S a w f;have d:=f.core;have C:=fun id o m=>(d.obj id o m).2.1;obtain ⟨G,_⟩:=kfk C i;have hv:=f.eval x;rw [hx] at hv;obtain ⟨hK,b,c,H,r,_⟩:=kgv hv G;obtain ⟨A,cap',s,_,_,_,cs,D,I,E⟩:=kmv (f.eval y) C hy;have t:CR ψ (·∈st.ids) S w (cs.take (min n len*de.size)) (ys.take (min n len*de.size)):=by simpa using D.sub 0 (min n len*de.size)
  obtain ⟨b',w1,q1,q2,q3,q4,q5⟩:=kvh (P:=P) d i q t;rw [H] at q1;simp only [qc] at q1;subst q1;have J:(min n len)*de.size<=n*de.size:=qan _ (Nat.min_le_left n len);have u:(Builtin.firstCells de.size (min n len) (.slice A n cap')).run P w = .ok (cs.take (min n len*de.size)).toArray w:=by
    cases A with
    | none=>
      obtain ⟨rfl,rfl⟩:=E;simpa using run_firstCells_none (P:=P) w de.size (min 0 len) 0 cap'
    | some ad=>
      refine run_firstCells_some w de.size (min n len) ad n cap' _ (by rw [q9,D.1,I];omega) fun j v l=>?_;rw [qw] at l;split at l
      · exact E j v l
      · cases l
  refine kad w1 (.int .i64 ((min n len:Nat):Int)) ?_ ⟨ψ,S,q3, .fz (.atom rfl),q4,Ext.refl,fun _ h=>h,fun _ h=>h,q5⟩;have z:=(B.get p).size (P:=P) (w:=w);have k:Nat.min n len=min n len:=rfl;simp [execOp,m,resolve,invoke,builtin,Builtin.copy_,run_underlying ((B.get hd).slice hk),r,s,Builtin.lenOf,z,k,u,q2,goInt]
theorem kwp:∀ {l:List AV} {r:List Int},koo l=some r->l=r.map fun n => .fz (.atom (.int .u8 n))
  | [],r,h=>by simp only [koo,qc] at h;subst h;rfl
  | x::l,r,h=>by
    unfold koo at h;split at h
    · rename_i h0;cases h0
    · rename_i n l' h0
      injection h0 with h1 a;subst h1 a;split at h
      · rename_i r' hr
        injection h with h;subst h;rw [kwp hr];rfl
      · cases h
    · cases h
theorem kaau {sr e:TypeId} {x:Operand} {n:Nat} {c:Option Nat} {ys:List AV} {xs:List Int} {ds de:TD} (g:TOk P T) (s:o.op = .convert sr t x) (hs:kac T sr=some ds) (h:ds.kind = .slice e) (u:kac T e=some de) (i:de.kind = .int .u8) (hd:kac T t=some d) (hk:d.kind = .str)
    (hx:rdSl 1 st (st.eval x)=some (n,c,ys)) (hi:koo ys=some xs):NStep P o st (.fz (.atom (.string (toBA xs)))):=by
  intro ψ S a w ht y;obtain ⟨A,cap,k,_,_,_,cs,l,z,q⟩:=kmv (Sim.eval_tmps ht x) y hx;obtain rfl:=kwp hi;obtain ⟨_,e',h1,m⟩:=g.get u;rw [i] at m;cases e' <;> simp only [ker] at m;subst m;have p:cs=xs.map (Value.int .u8):=by
    apply List.ext_getElem?;intro j;by_cases r:j<cs.length
    · have b:j<xs.length:=by have:=l.1;simp at this;omega
      have:=l.2.2 j cs[j] _ (qa r) (by rw [ql,qa b];rfl);rw [qa r,this.atom];simp [b]
    · have:=l.1
      simp at this;rw [qa5 (by omega),qa5 (by simp;omega)]
  refine kad w (.string (toBA xs)) ?_ ⟨kae _, .fz (.atom rfl)⟩;have hn:xs.length=n:=by simpa using z
  have f:(Conv.bytesToString (.slice A n cap)).run P w = .ok (.string (toBA xs)) w:=by
    cases A with
    | none=>
      obtain ⟨rfl,h0⟩:=q;have:xs=[]:=qav hn;subst this;rfl
    | some ad=>
      refine run_bytesToString w ad n cap xs ?_;have:=run_loadCells_list (P:=P) w ad cs q;rw [p] at this
      rwa [qs,hn] at this
  simp only [execOp,s,k,Sem.run_bind];rw [run_convert_bytes_string w sr t e A n cap ((g.get hs).slice h) h1 ((g.get hd).str hk),f];rfl
end
open Go.ChangeMaps (setBlock)
def kxe:Value->Value->Option Bool
  | .int a m, .int b n=>if a=b then some (m == n) else none
  | .string s, .string u=>some (s.toList == u.toList)
  | _,_=>none
def ko9 (k:Value):List (Value×AV)->Nat->Option (Option (Nat×AV))
  | [],_=>some none
  | (k',x)::l,i=>match kxe k k' with
    | some true=>some (some (i,x))
    | some false=>ko9 k l (i+1)
    | none=>none
def keyK:TK->Value->Bool
  | .int k, .int n _=>decide (k=n)
  | .str, .string _=>true
  | _,_=>false
def vput (k:Value) (kv:List (Value×AV)) (z:AV):Option (List (Value×AV)):=match ko9 k kv 0 with
  | some (some (j,_))=>some (kv.set j (k,z))
  | some none=>some (kv++[(k,z)])
  | none=>none
def kn5 (seen:List Nat):Nat->List Nat
  | 0=>[]
  | n+1=>bif seen.contains n then kn5 seen n else n::kn5 seen n
def ZOk (P:Program) (Z:List (TypeId×Value)):Prop:=∀ p∈Z,∃ i,P.info? p.1=some i/\i.zero=some p.2
def ktk:List (TypeId×Value)->TypeId->Option Value
  | [],_=>none
  | (k,v)::l,t=>bif Nat.beq k t then some v else ktk l t
section
variable {P:Program} {F S0:Nat->Prop} {N0:Nat} {w w':World} {S S':Nat->Prop} {ψ ψ':Env} {K:Nat->Prop} {T:List (TypeId×TD)} {o:Oper} {a:Act} {st:St} {t tx:TypeId} {d:TD} {id:Nat} {kv:List (Value×AV)} {Z:List (TypeId×Value)}
theorem ZOk.get (h:ZOk P Z) {v:Value} (ht:ktk Z t=some v) (w:World):(zeroValue t).run P w = .ok v w:=by
  induction Z with
  | nil=>cases ht
  | cons p l ih=>
    obtain ⟨k,u⟩:=p;simp only [ktk] at ht;by_cases hk:k=t
    · subst hk
      simp only [Nat.beq_refl,qg,qc] at ht;subst ht;obtain ⟨i,h1,a⟩:=h _ (qt ..);simp [zeroValue,typeInfo,h1,a]
    · rw [Nat.beq_eq_false hk] at ht
      exact ih (fun p hp=>h p (qf _ hp)) ht
theorem TdOk.mpX {k e:Nat} (h:TdOk P t d) (hk:d.kind = .map k e):P.underlying t=some (.map k e):=by obtain ⟨_,e',h1,a⟩:=h;rw [hk] at a;cases e' <;> simp [ker] at a;rw [h1,a.1,a.2]
theorem k0g {k:Value} (h:TdOk P t d) (hk:keyK d.kind k=true):∃ td,P.underlying t=some td/\MapKept.IsKey td k/\((∃ ik n m,td = .int ik/\k = .int n m)\/(td = .string/\∃ s,k = .string s))/\k.oneCell'=true:=by
  obtain ⟨_,e',h1,b⟩:=h;unfold keyK at hk;split at hk
  · rename_i ik n m a
    rw [a] at b;cases e' <;> simp [ker] at b;exact ⟨_,h1,by simp only [qbd] at hk;rw [b];exact hk.symm, .inl ⟨_,_,_,rfl,rfl⟩,rfl⟩
  · rename_i s a
    rw [a] at b;cases e' <;> simp [ker] at b;exact ⟨_,h1,trivial, .inr ⟨rfl,s,rfl⟩,rfl⟩
  · cases hk
theorem kzc {k k':Value} {td:TypeDesc} {b:Bool} (hd:(∃ ik n m,td = .int ik/\k = .int n m)\/(td = .string/\∃ s,k = .string s)) (h:kxe k k'=some b):Instr.sameNow td k k'=some b/\(b=true->k'=k):=by
  rcases hd with ⟨ik,n,m,rfl,rfl⟩ | ⟨rfl,s,rfl⟩
  · cases k' <;> simp only [kxe] at h <;> try cases h
    rename_i n' m';split at h
    · rename_i hn
      subst hn;injection h with h;refine ⟨by simp [Instr.sameNow,h],fun a=>?_⟩;rw [a] at h;simp at h;rw [h]
    · cases h
  · cases k' <;> simp only [kxe] at h <;> try cases h
    rename_i s';rw [kmh];exact ⟨rfl,fun a=>by rw [MapKept.bytes_beq] at a;rw [a]⟩
theorem knv {k:Value} {td:TypeDesc} (hd:(∃ ik n m,td = .int ik/\k = .int n m)\/(td = .string/\∃ s,k = .string s)):∀ (es:List MapEntry) (kv:List (Value×AV)) (i:Nat) (r:Option (Nat×AV)),es.length=kv.length->(∀ (j:Nat) (e:MapEntry) (p:Value×AV),es[j]?=some e->kv[j]?=some p->e.key=p.1)->ko9 k kv i=some r ->
    (r=none/\Instr.findNow td k es i=some none)\/∃ j x e,r=some (i+j,x)/\kv[j]?=some (k,x)/\es[j]?=some e/\Instr.findNow td k es i=some (some (i+j,e.val))
  | [],[],i,r,_,_,h=>by simp only [ko9,qc] at h;exact .inl ⟨h.symm,rfl⟩
  | [],p::kv,i,r,h,_,_=>by cases h
  | e::es,[],i,r,h,_,_=>by cases h
  | e::es,(k',x)::kv,i,r,hl,hr,h=>by
    have hk:e.key=k':=hr 0 e (k',x) rfl rfl;simp only [ko9] at h;split at h
    · rename_i a
      injection h with h;obtain ⟨q1,q2⟩:=kzc hd a;obtain rfl:=q2 rfl;exact .inr ⟨0,x,e,h.symm,rfl,rfl,by simp only [Instr.findNow,hk,q1];rfl⟩
    · rename_i a
      obtain ⟨q1,_⟩:=kzc hd a;rcases knv hd es kv (i+1) r (by simpa using hl) (fun j e p c hp=>hr (j+1) e p (by simpa using c) (by simpa using hp)) h with ⟨h1,b⟩ | ⟨j,y,e',h1,b,d,f⟩
      · exact .inl ⟨h1,by simp only [Instr.findNow,hk,q1];exact b⟩
      · exact .inr ⟨j+1,y,e',by rw [h1];congr 2;omega,by simpa using b,by simpa using d,by simp only [Instr.findNow,hk,q1];rw [f];congr 3;omega⟩
    · cases h
theorem kr2 {v:Value} (hs:XobR ψ K S w id (.amap kv)) (hv:RV ψ K S w v (.mp id)):v=ψ.val id:=by
  cases hv with
  | mp hK h1 hv=>exact hv hs.1.symm
theorem k2j (g:o.op = .makeMap t none) (d:st.ids.contains id=false):StepA P o st (.mp id) ((id, .xo (.amap []))::st.heap) (id::st.ids):=by
  have d:id∉st.ids:=by simpa using d
  intro F S0 N0 ψ S a w f;have c:=f.core;refine kad (w.alloc (.map #[] 0)) (.map (some w.heap.size)) ?_ ⟨ψ.set id 0 (.map (some w.heap.size)),S,?_,?_,kgj _ c.fr,ka3 d _ _,fun _ h=>qf _ h,fun _ h=>h,Same.of_grow (ka7 _ _)⟩
  · simp [execOp,g,Instr.makeMap]
  · exact c.add (ka7 _ _) d (fun b j=>by simp [kap] at j;omega) ⟨kbf _ _,w.heap.size,_,kaj _ _,heap_alloc_new w _,rfl,fun i e p k hp=>by simp at k⟩
  · exact .mp (qt ..) rfl fun _=>by rw [kaj]
theorem k27 {x y:Operand} {ok:Bool} {kt et:TypeId} {kd:TD} {k:Value} {r:Option (Nat×AV)} {c:AV} (F:o.op = .lookup t x y ok) (G:TOk P T) (J:ZOk P Z) (hd:kac T t=some d) (hk:d.kind = .map kt et) (h:kac T kt=some kd) (hx:st.eval x = .mp id) (C:kaa st.heap id=some (.xo (.amap kv)))
    (hy:st.eval y = .fz (.atom k)) (D:keyK kd.kind k=true) (n:ko9 k kv 0=some r) (hc:(match r with | some (_,z)=>some z | none=>(match ktk Z et with | some zv=>bif zv.oneCell' then some (AV.fz (.atom zv)) else none | none=>none))=some c):
    NStep P o st (bif ok then .tup [c, .fz (.atom (.bool r.isSome))] else c):=by
  intro ψ S a w ht K;have hd:=G.get hd;have h:=G.get h;have hv:=Sim.eval_tmps ht x;rw [hx] at hv;have q:XobR ψ (·∈st.ids) S w id (.amap kv):=K id _ C;have s:=kr2 q hv;obtain ⟨h0,b,es,g,H,E,hr⟩:=q;have f:=Sim.eval_tmps ht y;rw [hy] at f;have f:=f.atom;obtain ⟨td,g1,g2,g3,_⟩:=k0g h D;have A:=MapKept.run_checkKey (w:=w) g1 g2 es.isEmpty 9999;have fin:∀ u:Value,RV ψ (·∈st.ids) S w u c->(execOp a.eval o).run P w = .ok (.value (if ok then .tuple #[u, .bool r.isSome] else u)) w->kce P o a w fun v w'=>Grow w w'/\RV ψ (·∈st.ids) (fun b=>S b\/w.heap.size<=b) w' v (bif ok then .tup [c, .fz (.atom (.bool r.isSome))] else c):=fun u I B=>by
    refine kad _ _ B ⟨kae _,?_⟩;cases ok with
    | false=>exact I.here
    | true=>
      refine (RV.tup rfl fun i v z hv l=>?_).here
      match i with
      | 0=>simp at hv l;subst hv l;exact I
      | 1=>simp at hv l;subst hv l;exact .fz (.atom rfl)
      | i+2=>simp at l
  rcases knv g3 es.toList kv 0 r (by simpa using E) (fun j e p L hp=>(hr j e p (by simpa using L) hp).1) n with ⟨rfl,f1⟩ | ⟨j,z,e,rfl,f2,f3,f4⟩
  · have n:=MapKept.run_findKey (w:=w) g1 f1
    simp only at hc;split at hc
    · rename_i zv l
      cases m:zv.oneCell' with
      | false=>rw [m] at hc;cases hc
      | true=>
        rw [m] at hc;simp only [qg,qc] at hc;subst hc;refine fin zv (.fz (.atom m)) ?_;cases ok <;> simp [execOp,F,f,s,g,Instr.lookup,run_underlying (hd.mpX hk),MapKept.run_getObj_map H,A,n,J.get l w]
    · cases hc
  · have n:=MapKept.run_findKey (w:=w) g1 f4
    simp only [qc] at hc;subst hc;refine fin e.val (hr j e _ (by simpa using f3) f2).2.2 ?_;cases ok <;> simp [execOp,F,f,s,g,Instr.lookup,run_underlying (hd.mpX hk),MapKept.run_getObj_map H,A,n]
theorem kwf (h0:ψ.len id=0):ψ.set id 0 (ψ.val id)=ψ:=by
  have:=ks3 (ψ:=ψ) (id:=id)
  rwa [h0] at this
theorem ky8 {x y v:Operand} {kt et:TypeId} {kd:TD} {k:Value} {kv':List (Value×AV)} (U:o.op = .mapUpdate t x y v) (V:TOk P T) (hd:kac T t=some d) (hk:d.kind = .map kt et) (D:kac T kt=some kd) (hx:st.eval x = .mp id) (E:kaa st.heap id=some (.xo (.amap kv)))
    (hy:st.eval y = .fz (.atom k)) (O:keyK kd.kind k=true) (hp:vput k kv (st.eval v)=some kv'):StepA P o st .any ((id, .xo (.amap kv'))::st.heap) st.ids:=by
  intro F S0 N0 ψ S a w q;have hd:=V.get hd;have D:=V.get D;have g:=q.core;obtain ⟨Y,r,Q⟩:=g.obj id _ E;have r:XobR ψ (·∈st.ids) S w id (.amap kv):=r;have G:=q.eval x;rw [hx] at G;have H:=kr2 r G;obtain ⟨h0,b,es,f,u,l,hr⟩:=r;have m:=q.eval y;rw [hy] at m;have m:=m.atom;have I:=q.eval v;obtain ⟨td,g1,g2,g3,g4⟩:=k0g D O;have J:=MapKept.run_checkKey (w:=w) g1 g2 false 9999;have A:=kwf h0;have main:∀ es':Array MapEntry,es'.size=kv'.length ->
      (∀ (i:Nat) (e:MapEntry) (p:Value×AV),es'[i]?=some e->kv'[i]?=some p->e.key=p.1/\e.born=i/\RV ψ (·∈st.ids) S w e.val p.2) ->
      (execOp a.eval o).run P w = .ok .skip { w with heap:=w.heap.setIfInBounds b (.map es' kv'.length) } ->
      kce P o a w fun v w'=>∃ ψ' S',Core F S0 N0 ((id, .xo (.amap kv'))::st.heap) st.ids ψ' S' w'/\RV ψ' (·∈st.ids) S' w' v .any/\Fr F w w'/\Ext (·∈st.ids) ψ ψ'/\(∀ id,id∈st.ids->id∈st.ids)/\(∀ b,S b->S' b)/\Same S w w':=by
    intro es' K R L;obtain ⟨q1,q2⟩:=MapKept.heap_set (o' := .map es' kv'.length) u;have X:({ w with heap:=w.heap.setIfInBounds b (.map es' kv'.length) }:World).heap.size=w.heap.size:=(by simp);have B:∀ k,k<w.heap.size->¬ Blk (ψ.val id) k->({ w with heap:=w.heap.setIfInBounds b (.map es' kv'.length) }:World).heap[k]?=w.heap[k]?:=fun k _ hk=>q2 k fun e=>hk (.of (by rw [f,e];rfl));have hk:Same S w { w with heap:=w.heap.setIfInBounds b (.map es' kv'.length) }:=fun k hk hl=>B k hl fun e=>(Q k e).1 hk;obtain ⟨c1,c2,c3⟩:=g.upd (n:=0) (v:=ψ.val id) (w':={ w with heap:=w.heap.setIfInBounds b (.map es' kv'.length) }) (ob' := .xo (.amap kv')) E (by omega) B (.inr ⟨h0,rfl⟩) (fun b u => .inl u) (by rw [A];refine ⟨h0,b,es',f,q1,K,fun i e p c hp=>?_⟩;obtain ⟨r1,r2,r3⟩:=R i e p c hp;exact ⟨r1,r2,r3.keep Ext.refl (fun _ h=>h) (fun _ h=>h) hk⟩);rw [A] at c1;exact kin _ L ⟨ψ,S,c1, .any,⟨rfl,rfl,rfl,by omega,c3,no0⟩,Ext.refl,fun _ h=>h,fun _ h=>h,c2⟩
  unfold vput at hp;split at hp
  · rename_i j z0 C
    injection hp with hp;subst hp;rcases knv g3 es.toList kv 0 _ (by simpa using l) (fun j e p c hp=>(hr j e p (by simpa using c) hp).1) C with ⟨h,_⟩ | ⟨j',z,e,f1,f2,f3,f4⟩
    · cases h
    · simp only [Nat.zero_add,qc,qp] at f1
      obtain ⟨rfl,rfl⟩:=f1;have C:=MapKept.run_findKey (w:=w) g1 f4;simp only [Nat.zero_add] at C;have Z:j<kv.length:=(qd.1 f2).1;have s:es[j]?=some e:=(by simpa using f3);have M:e.key=k:=(hr j e _ s f2).1;refine main (es.modify j fun e=>{ e with key:=k,val:=a.eval v }) (by simpa using l) (fun i e' p c hp=>?_) ?_
      · rw [qbs] at c
        by_cases hi:j=i
        · subst hi
          rw [qr rfl,s] at c;simp only [qa1,qc] at c;subst c;rw [List.getElem?_set_self Z] at hp;injection hp with hp;subst hp;exact ⟨rfl,(hr j e _ s f2).2.1,I⟩
        · rw [qj hi] at c
          rw [List.getElem?_set_ne hi] at hp;exact hr i e' p c hp
      · have N:(Instr.keyThatStays (((es[j]?).map (·.key)).getD k) k).run P w = .ok k w:=by rw [s];simp only [qa1,qbh,M];exact MapKept.run_keyThatStays (d:=td) g2
        simp [execOp,U,m,H,f,Instr.mapUpdate,run_underlying (hd.mpX hk),MapKept.run_getObj_map u,J,C,MapKept.run_setObj_map _ u];simp [N,MapKept.run_setObj_map _ u]
  · rename_i C
    injection hp with hp;subst hp;rcases knv g3 es.toList kv 0 _ (by simpa using l) (fun j e p c hp=>(hr j e p (by simpa using c) hp).1) C with ⟨_,f1⟩ | ⟨j',z,e,f1,_⟩
    · have C:=MapKept.run_findKey (w:=w) g1 f1
      refine main (es.push { key:=k,val:=a.eval v,born:=kv.length }) (by simpa using l) (fun i e p c hp=>?_) ?_
      · rw [Array.getElem?_push] at c
        by_cases hi:i=es.size
        · rw [qr hi] at c
          injection c with c;subst c;rw [qad (by omega),hi,l,Nat.sub_self] at hp;simp only [List.getElem?_cons_zero,qc] at hp;subst hp;exact ⟨rfl,by show kv.length=i;omega,I⟩
        · rw [qj hi] at c
          have aa:i<es.size:=(qai.1 c).1;rw [qab (by omega)] at hp;exact hr i e p c hp
      · simp [execOp,U,m,H,f,Instr.mapUpdate,run_underlying (hd.mpX hk),MapKept.run_getObj_map u,J,C,MapKept.run_setObj_map _ u]
    · cases f1
  · cases hp
theorem kaa1 {x:Operand} {kt et:TypeId} (i:o.op = .call { callee := .builtin .len,args:=#[x],argTypes:=#[t] }) (hd:TdOk P t d) (hk:d.kind = .map kt et) (hx:st.eval x = .mp id) (f:kaa st.heap id=some (.xo (.amap kv))):NStep P o st (.fz (.atom (.int .i64 kv.length))):=by intro ψ S a w ht j;have hv:=Sim.eval_tmps ht x;rw [hx] at hv;have c:XobR ψ (·∈st.ids) S w id (.amap kv):=j id _ f;have g:=kr2 c hv;obtain ⟨h0,b,es,e,k,h,hr⟩:=c;refine kad w (.int .i64 kv.length) ?_ ⟨kae _, .fz (.atom rfl)⟩;simp [execOp,i,resolve,invoke,builtin,Builtin.len_,run_underlying (hd.mpX hk),g,e,MapKept.run_getObj_map k,h,goInt]
theorem k5q {x:Operand} {m:Nat} {kt et:TypeId} (r:o.op = .range t x) (hd:TdOk P t d) (hk:d.kind = .map kt et) (hx:st.eval x = .mp m) (l:kaa st.heap m=some (.xo (.amap kv))) (f:st.ids.contains id=false):
    StepA P o st (.ref id 0 0) ((id, .xo (.mit m kv.length [] kv.length))::st.heap) (id::st.ids):=by
  have f:id∉st.ids:=by simpa using f
  intro F S0 N0 ψ S a w j;have c:=j.core;obtain ⟨k,g,_⟩:=c.obj m _ l;have g:XobR ψ (·∈st.ids) S w m (.amap kv):=g;have hv:=j.eval x;rw [hx] at hv;have n:=kr2 g hv;obtain ⟨h0,b,es,i,p,s,hr⟩:=g;have q:m≠id:=fun e=>f (e ▸ k);refine kad (w.alloc (.mapIter (some b) kv.length #[] kv.length)) (.pointer (some ⟨w.heap.size,0,none⟩)) ?_ ⟨ψ.set id 0 (.pointer (some ⟨w.heap.size,0,none⟩)),S,?_,?_,kgj _ c.fr,ka3 f _ _,fun _ h=>qf _ h,fun _ h=>h,Same.of_grow (ka7 _ _)⟩
  · simp [execOp,r,Instr.range,run_underlying (hd.mpX hk),n,i,MapKept.run_getObj_map p]
  · refine c.add (ka7 _ _) f (fun b p=>by simp [kap] at p;omega) ⟨kbf _ _,qf _ k,w.heap.size,b,kaj _ _,heap_alloc_new w _,fun _=>?_⟩
    rw [(kb5 ψ q _ _).2];exact i
  · exact .ref (qt ..) (qaq _) rfl fun _=>⟨w.heap.size,by rw [kaj];rfl,rfl⟩
theorem kly (seen:List Nat):∀ {n i:Nat},i∈kn5 seen n↔i<n/\i∉seen
  | 0,i=>by simp [kn5]
  | n+1,i=>by
    simp only [kn5];cases h:seen.contains n with
    | true=>
      have h:n∈seen:=(by simpa using h);simp only [qg,kly _];constructor
      · rintro ⟨h1,a⟩;exact ⟨by omega,a⟩
      · rintro ⟨h1,a⟩
        refine ⟨?_,a⟩;rcases qa6 i n with b | b
        · exact b
        · have:i=n:=by omega
          exact absurd (this ▸ h) a
    | false=>
      have h:n∉seen:=(by simpa using h);simp only [qo,qaa,kly _];constructor
      · rintro (rfl | ⟨h1,a⟩)
        · exact ⟨by omega,h⟩
        · exact ⟨by omega,a⟩
      · rintro ⟨h1,a⟩
        rcases qa6 i n with b | b
        · exact .inr ⟨b,a⟩
        · exact .inl (by omega)
theorem kuy {m since stepped:Nat} {seen:List Nat} {v:Value} (c:XobR ψ K S w m (.amap kv)) (d:XobR ψ K S w id (.mit m since seen stepped)) (hv:RV ψ K S w v (.ref id 0 0)):
    ∃ r bm es,ψ.val id = .pointer (some ⟨r,0,none⟩)/\v = .pointer (some ⟨r,0,none⟩)/\w.heap[r]?=some (.mapIter (some bm) since seen.toArray stepped)/\w.heap[bm]?=some (.map es kv.length)/\es.size=kv.length /\
      ∀ (i:Nat) (e:MapEntry) (p:Value×AV),es[i]?=some e->kv[i]?=some p->e.key=p.1/\e.born=i/\RV ψ K S w e.val p.2:=by
  obtain ⟨h0,b,es,h1,g,h,j⟩:=c;obtain ⟨k0,km,r,bm,k1,k2,k3⟩:=d;have:=k3 h0.symm;rw [h1] at this;simp only [Value.map.injEq,qc] at this;subst this;refine ⟨r,b,es,k1,?_,k2,g,h,j⟩;cases hv with
  | ref hK hn k f=>
    obtain ⟨b',a,rfl⟩:=f k0.symm;rw [k1] at a;simp only [kap,qc] at a;rw [a]
theorem k9l {x:Operand} {m stepped j:Nat} {seen:List Nat} {p:Value×AV} (ho:o.op = .next x false) (hx:st.eval x = .ref id 0 0) (B:kaa st.heap id=some (.xo (.mit m kv.length seen stepped))) (J:kaa st.heap m=some (.xo (.amap kv))) (K:kv.length<=stepped)
    (hl:kn5 seen kv.length=[j]) (hp:kv[j]?=some p) (L:p.1.oneCell'=true):
    StepA P o st (.tup [.fz (.atom (.bool true)), .fz (.atom p.1),p.2]) ((id, .xo (.mit m kv.length (seen++[j]) kv.length))::st.heap) st.ids:=by
  intro F S0 N0 ψ S a w C;have d:=C.core;obtain ⟨ac,g,M⟩:=d.obj id _ B;have g:XobR ψ (·∈st.ids) S w id (.mit m kv.length seen stepped):=g;obtain ⟨N,y,_⟩:=d.obj m _ J;have y:XobR ψ (·∈st.ids) S w m (.amap kv):=y;have hv:=C.eval x;rw [hx] at hv;obtain ⟨r,bm,es,l,O,hr,Q,ad,R⟩:=kuy y g hv;have born:∀ e,e∈es.toList->∃ i,i<kv.length/\es[i]?=some e/\e.born=i:=fun e hm=>by obtain ⟨i,hi,rfl⟩:=qah.1 hm;have D:i<es.size:=(by simpa using hi);have E:i<kv.length:=(by omega);exact ⟨i,E,by simp [D],(R i _ _ (by simp [D]) (qa E)).2.1⟩
  have hj:=(kly (i:=j) (n:=kv.length) seen).1 (by rw [hl];exact qat.2 rfl);rcases run_next_at (P:=P) w o.type r bm kv.length stepped seen.toArray es kv.length hr Q (fun e hm=>by obtain ⟨i,h1,_,h3⟩:=born e hm;omega) K with ⟨h0,_⟩ | ⟨e,f,w1,T,s⟩
  · exfalso
    have U:j<es.size:=(by omega);have V:es[j]∈(leftOf es seen.toArray).toList:=(by unfold leftOf;simp only [Array.toList_filter,List.mem_filter];refine ⟨by simp,?_⟩;have:=(R j es[j] kv[j] (by simp [U]) (qa hj.1)).2.1;rw [this];simpa using hj.2);have:=List.length_pos_of_mem V;simp at this;omega
  · unfold leftOf at f
    simp only [Array.toList_filter,List.mem_filter] at f;obtain ⟨i,X,Y,G⟩:=born e f.1;have Z:i=j:=(by have aa:i∉seen:=(by have:=f.2;rw [G] at this;simpa using this);have:=(kly (i:=i) (n:=kv.length) seen).2 ⟨X,aa⟩;rw [hl] at this;exact qat.1 this);subst Z;obtain ⟨q1,q2,q3⟩:=R i e p Y hp;obtain ⟨w',H⟩:∃ w',w'=setBlock w1 r (.mapIter (some bm) kv.length (seen.toArray.push e.born) kv.length):=⟨_,rfl⟩;rw [<- H] at s;have c:w'.heap=w.heap.setIfInBounds r (.mapIter (some bm) kv.length (seen.toArray.push e.born) kv.length)/\w'.os=w.os/\w'.tape=w.tape/\w'.output=w.output:=(by rw [H];rcases T with rfl | rfl <;> exact ⟨rfl,rfl,rfl,rfl⟩);have I:r<w.heap.size:=(qai.1 hr).1;have q:w'.heap[r]?=some (.mapIter (some bm) kv.length (seen++[i]).toArray kv.length):=(by rw [c.1,Array.getElem?_setIfInBounds_self_of_lt I,G];simp);have ab:w'.heap.size=w.heap.size:=(by rw [c.1];simp);have t:∀ k,k<w.heap.size->¬ Blk (ψ.val id) k->w'.heap[k]?=w.heap[k]?:=fun k _ hk=>(by rw [c.1,Array.getElem?_setIfInBounds_ne];intro e;subst e;exact hk (.of (by rw [l];rfl)));have hk:Same S w w':=fun k hk hl=>t k hl fun e=>(M k e).1 hk;have h0:=g.1;have u:=kwf h0;obtain ⟨c1,c2,c3⟩:=d.upd (n:=0) (v:=ψ.val id) (w':=w') (ob' := .xo (.mit m kv.length (seen++[i]) kv.length)) B (by omega) t (.inr ⟨h0,rfl⟩) (fun b Q => .inl Q) (by rw [u];obtain ⟨_,_,r',bm',z1,z2,z3⟩:=g;refine ⟨h0,N,r,bm,l,q,fun h=>?_⟩;have e1:=z3 h;rw [l] at z1;simp only [Value.pointer.injEq,qc,Addr.mk.injEq,and_true] at z1;subst z1;rw [hr] at z2;injection z2 with z2;injection z2 with z2;injection z2 with z2;rw [z2];exact e1);rw [u] at c1;refine kad w' (.tuple #[.bool true,e.key,e.val]) ?_ ⟨ψ,S,c1,?_,⟨c.2.1,c.2.2.1,c.2.2.2,by omega,c3,no0⟩,Ext.refl,fun _ h=>h,fun _ h=>h,c2⟩
    · simp [execOp,ho,O,s]
    · refine .tup rfl fun i v z hv A=>?_
      match i with
      | 0=>simp at hv A;subst hv A;exact .fz (.atom rfl)
      | 1=>simp at hv A;subst hv A;rw [q1];exact .fz (.atom L)
      | 2=>simp at hv A;subst hv A;exact q3.keep Ext.refl (fun _ h=>h) (fun _ h=>h) hk
      | i+3=>simp at A
theorem k48 {x:Operand} {m stepped:Nat} {seen:List Nat} (B:o.op = .next x false) (hx:st.eval x = .ref id 0 0) (g:kaa st.heap id=some (.xo (.mit m kv.length seen stepped))) (h:kaa st.heap m=some (.xo (.amap kv))) (j:kv.length<=stepped)
    (hl:kn5 seen kv.length=[]):NStep P o st (.fz (.tup [.atom (.bool false)])):=by
  intro ψ S a w ht y;have k:XobR ψ (·∈st.ids) S w id (.mit m kv.length seen stepped):=y id _ g;have l:XobR ψ (·∈st.ids) S w m (.amap kv):=y m _ h;have hv:=Sim.eval_tmps ht x;rw [hx] at hv;obtain ⟨r,bm,es,A,p,hr,C,D,E⟩:=kuy l k hv;have born:∀ e,e∈es.toList->∃ i,i<kv.length/\es[i]?=some e/\e.born=i:=fun e hm=>by obtain ⟨i,hi,rfl⟩:=qah.1 hm;have c:i<es.size:=(by simpa using hi);have d:i<kv.length:=(by omega);exact ⟨i,d,by simp [c],(E i _ _ (by simp [c]) (qa d)).2.1⟩
  rcases run_next_at (P:=P) w o.type r bm kv.length stepped seen.toArray es kv.length hr C (fun e hm=>by obtain ⟨i,h1,_,G⟩:=born e hm;omega) j with ⟨_,f⟩ | ⟨e,b,_⟩
  · refine kad w (.tuple #[.bool false]) ?_ ⟨kae _, .fz (.tup rfl fun i v z hv q=>?_)⟩
    · simp [execOp,B,p,f]
    · match i with
      | 0=>simp at hv q;subst hv q;exact .atom rfl
      | i+1=>simp at q
  · exfalso
    unfold leftOf at b;simp only [Array.toList_filter,List.mem_filter] at b;obtain ⟨i,s,F,t⟩:=born e b.1;have u:i∉seen:=(by have:=b.2;rw [t] at this;simpa using this);have:=(kly (i:=i) (n:=kv.length) seen).2 ⟨s,u⟩;rw [hl] at this;cases this
theorem k64 {x:Operand} {m since j:Nat} {seen:List Nat} {p:Value×AV} (y:o.op = .entry x) (hx:st.eval x = .ref id 0 0) (e:kaa st.heap id=some (.xo (.mit m since (seen++[j]) kv.length))) (f:kaa st.heap m=some (.xo (.amap kv)))
    (hp:kv[j]?=some p) (g:p.1.oneCell'=true):NStep P o st (.tup [.fz (.atom p.1),p.2]):=by
  intro ψ S a w ht s;have h:XobR ψ (·∈st.ids) S w id (.mit m since (seen++[j]) kv.length):=s id _ e;have k:XobR ψ (·∈st.ids) S w m (.amap kv):=s m _ f;have hv:=Sim.eval_tmps ht x;rw [hx] at hv;obtain ⟨r,bm,es,t,l,hr,A,B,u⟩:=kuy k h hv;have C:j<kv.length:=(qd.1 hp).1;have n:j<es.size:=by omega
  obtain ⟨q1,q2,q3⟩:=u j es[j] p (by simp [n]) hp;have q:(es.toList.map (·.born)).Nodup:=by
    have:es.toList.map (·.born)=List.range kv.length:=by
      apply List.ext_getElem?;intro i;by_cases hi:i<kv.length
      · have b:i<es.size:=by omega
        have:=(u i es[i] kv[i] (by simp [b]) (qa hi)).2.1;simp [b,hi,this]
      · rw [qa5 (by simp;omega),qa5 (by simp;omega)]
    rw [this];exact List.nodup_range
  have c:=run_entry_at (P:=P) w r bm since seen.toArray es kv.length es[j] (by rw [q2];simpa using hr) A (by simp) q;refine kad w (.tuple #[es[j].key,es[j].val]) ?_ ⟨kae _,(RV.tup rfl fun i v z hv d=>?_).here⟩
  · simp [execOp,y,l,c]
  · match i with
    | 0=>simp at hv d;subst hv d;rw [q1];exact .fz (.atom g)
    | 1=>simp at hv d;subst hv d;exact q3
    | i+2=>simp at d
end
inductive Dl where
  | no
  | new (ob:AObj)
  | upd (id:Nat) (ob:AObj)
def kii (st:St) (id:Nat):Dl->List (Nat×AObj)
  | .no=>st.heap
  | .new ob=>(id,ob)::st.heap
  | .upd i ob=>(i,ob)::st.heap
def dIds (st:St) (id:Nat):Dl->List Nat
  | .new _=>id::st.ids
  | _=>st.ids
def kmj (E:Operand->AV) (ps:Array (Nat×Operand)):List (Nat×AV):=ps.toList.map fun p=>(p.1,E p.2)
def k4s (T:List (TypeId×TD)) (E:Operand->AV) (t:TypeId) (parts:Array (Nat×Operand)):Option AV:=match kac T t with
  | some d=>match d.kind,knx d with
    | .st fs,some zs=>match kmw T fs with
      | some ps=>(kn8 (fun i:Nat=>ps[i]?) zs (kmj E parts)).map aggA
      | none=>none
    | .arr _ e,some zs=>match kac T e with
      | some de=>(kn8 (fun i:Nat=>some (i*de.size,de.size)) zs (kmj E parts)).map aggA
      | none=>none
    | _,_=>none
  | none=>none
def litH (T:List (TypeId×TD)) (E:Operand->AV) (t:TypeId) (n:Nat) (parts:Array (Nat×Operand)):Option AV:=match kac T t with
  | some d=>match d.kind with
    | .slice e=>match kac T e with
      | some de=>match kkg de.size 0 (kmj E parts) with
        | some xs=>bif Nat.beq xs.length n && (Nat.ble 1 de.size && Nat.ble (n*de.size) 16777216) then some (.lim de.size n xs) else none
        | none=>none
      | none=>none
    | _=>none
  | none=>none
def fldE (T:List (TypeId×TD)) (E:Operand->AV) (H:Nat->Option AObj) (s:TypeId) (x:Operand) (f:Nat):Option AV:=match kac T s with
  | some d=>match d.kind with
    | .st fs=>match fs[f]? with
      | some (ft,off)=>match kac T ft with
        | some df=>bif Nat.beq df.size 0 then none else kqf H off (E x)
        | none=>none
      | none=>none
    | _=>none
  | none=>none
def idxE (T:List (TypeId×TD)) (E:Operand->AV) (H:Nat->Option AObj) (t:TypeId) (x y:Operand):Option AV:=match kac T t,E y with
  | some d, .fz (.atom (.int _ i))=>bif decide (0<=i) then (match d.kind with
    | .slice e=>match kac T e with
      | some de=>match E x with
        | .bsl id g off len _=>match objH H id with
          | some (g',_)=>bif Nat.beq g g' && decide (i<len) then some (.ref id g (off+i.toNat*de.size)) else none
          | none=>none
        | z=>match kjf z with
          | some xs=>match xs[i.toNat]? with
            | some z=>bif xs.all (fun z=>Nat.beq z.cells.length de.size) then some (.fz (.fp z.cells)) else none
            | none=>none
          | none=>none
      | none=>none
    | .arr n e=>match kac T e with
      | some de=>bif decide (i<n) then kqf H (i.toNat*de.size) (E x) else none
      | none=>none
    | _=>none) else none
  | _,_=>none
def bytE (T:List (TypeId×TD)) (E:Operand->AV) (H:Nat->Option AObj) (t:TypeId) (x y:Operand):Option AV:=match kac T t,E x,E y with
  | some d, .fz (.atom (.string s)), .fz (.atom (.int _ i))=>match d.kind with
    | .str=>bif decide (0<=i) then (match s.data.toList[i.toNat]? with
      | some c=>some (.fz (.atom (.int .u8 c.toNat)))
      | none=>none) else none
    | _=>none
  | _,_,_=>none
def cutB (s:BA) (l h:Nat):BA:=⟨⟨(s.data.toList.take h).drop l⟩⟩
def knf (s:BA):Nat:=s.data.toList.length
def slcE (T:List (TypeId×TD)) (E:Operand->AV) (H:Nat->Option AObj) (t:TypeId) (x:Operand) (lo hi mx:Option Operand):Option AV:=match kac T t with
  | some d=>match d.kind with
    | .str=>match E x,mx with
      | .fz (.atom (.string s)),none=>match kd0 E 0 lo,kd0 E (knf s) hi with
        | some L,some H=>bif Nat.ble L H && Nat.ble H (knf s) then some (.fz (.atom (.string (cutB s L H)))) else none
        | _,_=>none
      | _,_=>none
    | .slice e=>match kac T e with
      | some de=>match E x with
        | .bsl id g off len (some k)=>match objH H id,kd0 E 0 lo,kd0 E len hi,kd0 E k mx with
          | some (g',_),some L,some H,some M=>bif Nat.beq g g' && (Nat.ble L H && (Nat.ble H M && (Nat.ble M k && (!mx.isSome || hi.isSome)))) then some (.bsl id g (offE off L M de.size) (H - L) (some (M - L))) else none
          | _,_,_,_=>none
        | .bsl id g 0 len none=>match objH H id,kd0 E 0 lo,kd0 E len hi with
          | some (g',_),some L,some H=>match mx with
            | none=>bif Nat.beq g g' && (Nat.beq L 0 && Nat.ble H len) then some (.bsl id g 0 H none) else none
            | some y=>match kd0 E 0 (some y) with
              | some M=>bif Nat.beq g g' && (Nat.ble L H && (Nat.ble H M && (Nat.ble M len && hi.isSome))) then some (.bsl id g (offE 0 L M de.size) (H - L) (some (M - L))) else none
              | none=>none
          | _,_,_=>none
        | .fz (.atom (.slice none 0 0))=>match kd0 E 0 lo,kd0 E 0 hi,kd0 E 0 mx with
          | some 0,some 0,some 0=>bif !mx.isSome || hi.isSome then some (.fz (.atom nilV)) else none
          | _,_,_=>none
        | z=>match lstX z with
          | some (s,n,xs)=>match kd0 E 0 lo,kd0 E n hi with
            | some L,some H=>bif Nat.beq s de.size && (Nat.ble L H && Nat.ble H n) then (match mx with
              | none=>some (.fz (.lst de.size (H - L) ((xs.take H).drop L)))
              | some y=>match kd0 E 0 (some y) with
                | some M=>bif Nat.beq M H && hi.isSome then some (.lim de.size (H - L) ((xs.take H).drop L)) else none
                | none=>none) else none
            | _,_=>none
          | none=>none
      | none=>none
    | .arr n e=>match kac T e,E x with
      | some de, .ref id g off=>match objH H id,kd0 E 0 lo,kd0 E n hi,kd0 E n mx with
        | some (g',_),some L,some H,some M=>bif Nat.beq g g' && (Nat.ble L H && (Nat.ble H M && (Nat.ble M n && ((!mx.isSome || hi.isSome) && Nat.ble n 9223372036854775807)))) then some (.bsl id g (offE off L M de.size) (H - L) (some (M - L))) else none
        | _,_,_,_=>none
      | _,_=>none
    | _=>none
  | none=>none
def lenE (T:List (TypeId×TD)) (E:Operand->AV) (H:Nat->Option AObj) (x:Operand) (t:TypeId):Option AV:=match kac T t with
  | some d=>match d.kind,E x with
    | .slice _, .bsl id g _ len _=>match objH H id with
      | some (g',_)=>bif Nat.beq g g' then some (.fz (.atom (.int .i64 len))) else none
      | none=>none
    | .slice _,z=>match lenOf z with
      | some n=>some (.fz (.atom (.int .i64 n)))
      | none=>none
    | .str, .fz (.atom (.string s))=>some (.fz (.atom (.int .i64 (knf s))))
    | .map _ _, .mp id=>match H id with
      | some (.xo (.amap kv))=>some (.fz (.atom (.int .i64 kv.length)))
      | _=>none
    | _,_=>none
  | none=>none
def capE (T:List (TypeId×TD)) (E:Operand->AV) (H:Nat->Option AObj) (x:Operand) (t:TypeId):Option AV:=match kac T t with
  | some d=>match d.kind with
    | .slice e=>match kac T e with
      | some de=>match rdH H de.size (E x) with
        | some (_,some k,_)=>some (.fz (.atom (.int .i64 k)))
        | _=>none
      | none=>none
    | _=>none
  | none=>none
def cnvE (T:List (TypeId×TD)) (E:Operand->AV) (H:Nat->Option AObj) (s t:TypeId) (x:Operand):Option AV:=match kac T s,kac T t with
  | some ds,some d=>match d.kind,ds.kind,E x with
    | .int k,_, .fz (.atom (.int _ n))=>some (.fz (.atom (.int k (k.wrap n))))
    | .str, .str, .fz (.atom (.string u))=>some (.fz (.atom (.string u)))
    | .str, .slice e,z=>match kac T e with
      | some de=>match de.kind with
        | .int .u8=>match rdH H 1 z with
          | some (_,_,ys)=>match koo ys with
            | some xs=>some (.fz (.atom (.string (toBA xs))))
            | none=>none
          | none=>none
        | _=>none
      | none=>none
    | _,_,_=>none
  | _,_=>none
def lkE (T:List (TypeId×TD)) (Z:List (TypeId×Value)) (E:Operand->AV) (H:Nat->Option AObj) (t:TypeId) (x y:Operand) (ok:Bool):Option AV:=match kac T t,E x,E y with
  | some d, .mp id, .fz (.atom k)=>match d.kind with
    | .map kt et=>match kac T kt,H id with
      | some kd,some (.xo (.amap kv))=>bif keyK kd.kind k then (match ko9 k kv 0 with
        | some r=>match (match r with | some (_,z)=>some z | none=>(match ktk Z et with | some zv=>bif zv.oneCell' then some (AV.fz (.atom zv)) else none | none=>none)) with
          | some c=>some (bif ok then .tup [c, .fz (.atom (.bool r.isSome))] else c)
          | none=>none
        | none=>none) else none
      | _,_=>none
    | _=>none
  | _,_,_=>none
def nilX (H:Nat->Option AObj):AV->Option Bool
  | .fz (.atom (.slice none 0 0))=>some true
  | .bsl id g _ _ _=>match objH H id with
    | some (g',_)=>bif Nat.beq g g' then some false else none
    | none=>none
  | z=>match lstX z with
    | some (_,_,_::_)=>some false
    | _=>none
def binE (T:List (TypeId×TD)) (E:Operand->AV) (H:Nat->Option AObj) (op:BinOp) (t:TypeId) (x y:Operand):Option AV:=match op,y with
  | .neq, .const .nilIface=>match kac T t,E x with
    | some d, .fz (.atom .nilIface)=>match d.kind with
      | .ifc=>some (.fz (.atom (.bool false)))
      | _=>none
    | _,_=>none
  | _,_=>match E x,E y with
    | .fz (.atom (.slice none 0 0)), .fz (.atom (.slice none 0 0))=>nilE true
    | .fz (.atom u), .fz (.atom v)=>match binV (kk4 T t) op u v with
      | some r=>some (.fz (.atom r))
      | none=>none
    | z, .fz (.atom (.slice none 0 0))=>match nilX H z with
      | some r=>nilE r
      | none=>none
    | _,_=>none
where nilE (r:Bool):Option AV:=match kac T t with
  | some d=>match d.kind,op with
    | .slice _, .eql=>some (.fz (.atom (.bool r)))
    | .slice _, .neq=>some (.fz (.atom (.bool !r)))
    | _,_=>none
  | none=>none
def mmE (E:Operand->AV) (H:Nat->Option AObj) (mx:Bool) (x y:Operand):Option AV:=match E x,E y with
  | .fz (.atom (.int k m)), .fz (.atom (.int k' n))=>bif decide (k=k') then some (.fz (.atom (.int k (bif mx then imax m n else imin m n)))) else none
  | _,_=>none
def entE (E:Operand->AV) (H:Nat->Option AObj) (x:Operand):Option AV:=match E x with
  | .ref id 0 0=>match H id with
    | some (.xo (.mit m since seen stepped))=>match H m,seen.getLast? with
      | some (.xo (.amap kv)),some j=>match kv[j]? with
        | some p=>bif Nat.beq stepped kv.length && p.1.oneCell' then some (.tup [.fz (.atom p.1),p.2]) else none
        | none=>none
      | _,_=>none
    | _=>none
  | _=>none
def nxtE (E:Operand->AV) (H:Nat->Option AObj) (x:Operand):Option (AV×Dl):=match E x with
  | .ref id 0 0=>match H id with
    | some (.xo (.mit m since seen stepped))=>match H m with
      | some (.xo (.amap kv))=>bif Nat.beq since kv.length && Nat.ble kv.length stepped then (match kn5 seen kv.length with
        | []=>some (.fz (.tup [.atom (.bool false)]), .no)
        | [j]=>match kv[j]? with
          | some p=>bif p.1.oneCell' then some (.tup [.fz (.atom (.bool true)), .fz (.atom p.1),p.2], .upd id (.xo (.mit m kv.length (seen++[j]) kv.length))) else none
          | none=>none
        | _=>none) else none
      | _=>none
    | _=>none
  | _=>none
def nE (T:List (TypeId×TD)) (Z:List (TypeId×Value)) (E:Operand->AV) (H:Nat->Option AObj) (o:Oper):Option AV:=match o.op with
  | .binOp op t x y _=>binE T E H op t x y
  | .load t x=>match kac T t,kui H (E x) with
    | some d,some xs=>kjl d xs
    | _,_=>none
  | .fieldAddr s x f=>fldE T E H s x f
  | .nilCheck x=>kqf H 0 (E x)
  | .indexAddr t x y=>idxE T E H t x y
  | .index t x y=>bytE T E H t x y
  | .slice t x lo hi mx=>slcE T E H t x lo hi mx
  | .convert s t x=>cnvE T E H s t x
  | .lookup t x y ok=>lkE T Z E H t x y ok
  | .entry x=>entE E H x
  | .call c=>match c.callee,c.args.toList,c.argTypes.toList with
    | .builtin .len,[x],[t]=>lenE T E H x t
    | .builtin .cap,[x],[t]=>capE T E H x t
    | .builtin .min,[x,y],_=>mmE E H false x y
    | .builtin .max,[x,y],_=>mmE E H true x y
    | _,_,_=>none
  | .move x=>some (E x)
  | .assign x=>some (E x)
  | .pick c x y=>match E c with
    | .fz (.atom (.bool b))=>some (bif b then E x else E y)
    | _=>none
  | .unOp op _ x=>match E x with
    | .fz (.atom u)=>match unV op u with
      | some r=>some (.fz (.atom r))
      | none=>none
    | _=>none
  | .extract x i=>match E x with | .fz (.tup xs)=>(xs[i]?).map .fz | .tup xs=>xs[i]? | _=>none
  | .build t parts=>k4s T E t parts
  | .buildSlice t n parts=>litH T E t n parts
  | .makeFunc (.func f) first cap=>bif first.isEmpty then some (.fn f (cap.toList.map E)) else (bif cap.isEmpty then some (.mth f (first.toList.map E)) else none)
  | _=>none
def reC:AObj->List AV->AObj
  | .box e _,c => .box e c
  | .xo (.blk g e sz _),c => .xo (.blk g e sz c)
  | ob,_=>ob
def setE (H:Nat->Option AObj) (id:Nat) (c:AV) (cells:List AV):Option (AV×Dl):=match H id with
  | some ob=>some (c, .upd id (reC ob cells))
  | none=>none
def stoE (T:List (TypeId×TD)) (E:Operand->AV) (H:Nat->Option AObj) (t:TypeId) (x y:Operand):Option (AV×Dl):=match kac T t,E x with
  | some d, .ref id n off=>match objH H id with
    | some (g,cells)=>bif Nat.beq n g && (Nat.beq (E y).cells.length d.size && ((E y).cells.all AV.single && Nat.ble (off+(E y).cells.length) cells.length)) then setE H id .any (kbw cells off (E y).cells) else none
    | none=>none
  | _,_=>none
def mksE (T:List (TypeId×TD)) (E:Operand->AV) (H:Nat->Option AObj) (t:TypeId) (id:Nat) (x y:Operand):Option (AV×Dl):=match kac T t with
  | some d=>match d.kind with
    | .slice e=>match kac T e with
      | some de=>match de.zero,E x,E y with
        | zs, .fz (.atom (.int _ n)), .fz (.atom (.int _ c))=>bif Nat.ble 1 de.size && (Nat.beq zs.length de.size && (zs.all Value.oneCell' && (decide (0<=n) && (decide (n<=c) && (decide ((de.bytes:Int)*c<=281474976710656) && decide (c<=9223372036854775807)))))) then
            some (.bsl id 0 0 n.toNat (some c.toNat), .new (.xo (.blk 0 e de.size (repC c.toNat zs)))) else none
        | _,_,_=>none
      | none=>none
    | _=>none
  | none=>none
def litE (T:List (TypeId×TD)) (E:Operand->AV) (H:Nat->Option AObj) (mu:Bool) (t:TypeId) (n id:Nat) (parts:Array (Nat×Operand)):Option (AV×Dl):=match (bif mu then none else litH T E t n parts) with
  | some c=>some (c, .no)
  | none=>match kac T t with
    | some d=>match d.kind with
      | .slice e=>match kac T e with
        | some de=>match koj de.size 0 (kmj E parts) with
          | some ys=>bif Nat.beq parts.toList.length n && (Nat.ble 1 de.size && Nat.ble (n*de.size) 16777216) then some (.bsl id 0 0 n (some n), .new (.xo (.blk 0 e de.size ys))) else none
          | none=>none
        | none=>none
      | _=>none
    | none=>none
def mpuE (T:List (TypeId×TD)) (E:Operand->AV) (H:Nat->Option AObj) (t:TypeId) (x y v:Operand):Option (AV×Dl):=match kac T t,E x,E y with
  | some d, .mp id, .fz (.atom k)=>match d.kind with
    | .map kt _=>match kac T kt,H id with
      | some kd,some (.xo (.amap kv))=>bif keyK kd.kind k then (match vput k kv (E v) with
        | some kv'=>some (.any, .upd id (.xo (.amap kv')))
        | none=>none) else none
      | _,_=>none
    | _=>none
  | _,_,_=>none
def rngE (T:List (TypeId×TD)) (E:Operand->AV) (H:Nat->Option AObj) (t:TypeId) (id:Nat) (x:Operand):Option (AV×Dl):=match kac T t,E x with
  | some d, .mp m=>match d.kind,H m with
    | .map _ _,some (.xo (.amap kv))=>some (.ref id 0 0, .new (.xo (.mit m kv.length [] kv.length)))
    | _,_=>none
  | _,_=>none
def appE (T:List (TypeId×TD)) (E:Operand->AV) (H:Nat->Option AObj) (t tx:TypeId) (id:Nat) (x y:Operand):Option (AV×Dl):=match kac T t with
  | some d=>match d.kind with
    | .slice e=>match kac T e with
      | some de=>match srcH T H de.size tx (E y) with
        | some (0,_)=>match rdH H de.size (E x) with
          | some _=>some (E x, .no)
          | none=>none
        | some (n,ys)=>bif Nat.ble 1 de.size && Nat.beq de.zero.length de.size then (match E x with
          | .bsl i g off m none=>match H i with
            | some (.xo (.blk g' e' sz cells))=>bif Nat.beq off 0 && (Nat.beq g g' && (Nat.beq e e' && (Nat.beq sz de.size && (Nat.beq cells.length (m*de.size) && Nat.ble ((m+n)*(de.bytes+1)) 140737488355328)))) then
                some (.bsl i (g+1) 0 (m+n) none, .upd i (.xo (.blk (g+1) e de.size (cells++ys)))) else none
            | _=>none
          | .bsl i g off m (some k)=>bif Nat.ble (m+n) k then (match objH H i with
            | some (g',cells)=>bif Nat.beq g g' && Nat.ble (off+m*de.size+ys.length) cells.length then setE H i (.bsl i g off (m+n) (some k)) (kbw cells (off+m*de.size) ys) else none
            | none=>none) else grow e de n ys
          | _=>grow e de n ys) else none
        | none=>none
      | none=>none
    | _=>none
  | none=>none
where grow (e:TypeId) (de:TD) (n:Nat) (ys:List AV):Option (AV×Dl):=match rdH H de.size (E x) with
  | some (m,some k,xs)=>bif Nat.blt k (m+n) && Nat.ble ((m+n)*(de.bytes+1)) 140737488355328 then some (.bsl id 0 0 (m+n) none, .new (.xo (.blk 0 e de.size (xs++ys)))) else none
  | _=>none
def cpyE (T:List (TypeId×TD)) (E:Operand->AV) (H:Nat->Option AObj) (t:TypeId) (x y:Operand):Option (AV×Dl):=match kac T t with
  | some d=>match d.kind with
    | .slice e=>match kac T e with
      | some de=>match E x,rdH H de.size (E y) with
        | .bsl i g off len _,some (n,_,ys)=>match objH H i with
          | some (g',cells)=>bif Nat.beq g g' && Nat.ble (off+(ys.take (min n len*de.size)).length) cells.length then setE H i (.fz (.atom (.int .i64 ((min n len:Nat):Int)))) (kbw cells off (ys.take (min n len*de.size))) else none
          | none=>none
        | _,_=>none
      | none=>none
    | _=>none
  | none=>none
def sE (T:List (TypeId×TD)) (Z:List (TypeId×Value)) (E:Operand->AV) (H:Nat->Option AObj) (mu:Bool) (id:Nat) (o:Oper):Option (AV×Dl):=match o.op with
  | .box e x=>bif (E x).cells.all AV.single then some (.ref id 0 0, .new (.box e (E x).cells)) else none
  | .alloc e=>match kac T e with
    | some d=>match knx d with
      | some cells=>some (.ref id 0 0, .new (.box e cells))
      | none=>none
    | none=>none
  | .store t x y=>stoE T E H t x y
  | .makeSlice t x y=>mksE T E H t id x y
  | .buildSlice t n parts=>litE T E H mu t n id parts
  | .makeMap _ none=>some (.mp id, .new (.xo (.amap [])))
  | .mapUpdate t x y v=>mpuE T E H t x y v
  | .range t x=>rngE T E H t id x
  | .next x false=>nxtE E H x
  | .call c=>match c.callee,c.args.toList,c.argTypes.toList with
    | .builtin .append,[x,y],[t,tx]=>appE T E H t tx id x y
    | .builtin .copy,[x,y],[t,_]=>cpyE T E H t x y
    | _,_,_=>match nE T Z E H o with
      | some c=>some (c, .no)
      | none=>none
  | _=>match nE T Z E H o with
    | some c=>some (c, .no)
    | none=>none
def idsN:Nat->List Nat
  | 0=>[]
  | k+1=>k::idsN k
structure XS where
  n:Nat
  tmps:List (Nat×AV)
  heap:List (Nat×AObj)
  k:Nat
  lg:List Nat
def XS.st (s:XS) (D:List Deferred):St:=⟨s.n,s.tmps,s.heap,idsN s.k,D⟩
noncomputable def getQ (l:List (Nat×AV)) (t:Nat):AV:=List.rec (motive:=fun _=>AV) .any (fun p _ ih=>Bool.rec ih p.2 (Nat.beq p.1 t)) l
noncomputable def getO (l:List (Nat×AObj)) (t:Nat):Option AObj:=List.rec (motive:=fun _=>Option AObj) none (fun p _ ih=>Bool.rec ih (some p.2) (Nat.beq p.1 t)) l
noncomputable def kjk (l:List (Nat×AV)) (t:Nat) (v:AV):List (Nat×AV):=List.rec (motive:=fun _=>List (Nat×AV)) [(t,v)] (fun p l ih=>Bool.rec (p::ih) ((t,v)::l) (Nat.beq p.1 t)) l
noncomputable def krx (l:List (Nat×AObj)) (t:Nat) (v:AObj):List (Nat×AObj):=List.rec (motive:=fun _=>List (Nat×AObj)) [(t,v)] (fun p l ih=>Bool.rec (p::ih) ((t,v)::l) (Nat.beq p.1 t)) l
noncomputable def XS.E (s:XS) (x:Operand):AV:=match x with
  | .tmp t=>getQ s.tmps t
  | .const v=>kyp v
  | .global _ => .any
  | .func f => .fn f []
noncomputable def XS.H (s:XS):Nat->Option AObj:=getO s.heap
noncomputable def XS.put (s:XS) (d:Option Nat) (v:AV):XS:=match d with
  | some t=>{ s with tmps:=kjk s.tmps t v }
  | none=>s
noncomputable def XS.app (s:XS):Dl->XS
  | .no=>s
  | .new ob=>{ s with heap:=(s.k,ob)::s.heap,k:=s.k+1,lg:=s.k::s.lg }
  | .upd i ob=>{ s with heap:=krx s.heap i ob,lg:=i::s.lg }
def kxg:Value->Value->Bool
  | .int k m, .int k' n=>decide (k=k') && m == n
  | .string s, .string u=>s.toList == u.toList
  | .bool a, .bool b=>a == b
  | .slice none 0 0, .slice none 0 0=>true
  | .pointer none, .pointer none=>true
  | .map none, .map none=>true
  | .nilFunc, .nilFunc=>true
  | .nilIface, .nilIface=>true
  | _,_=>false
mutual
def eqFV:FV->FV->Bool
  | .atom v, .atom u=>kxg v u
  | .agg a, .agg b=>kf8 a b
  | .tup a, .tup b=>kf8 a b
  | .lst s n a, .lst s' n' b=>Nat.beq s s' && (Nat.beq n n' && kf8 a b)
  | .fp a, .fp b=>kf8 a b
  | .bx a, .bx b=>kf8 a b
  | _,_=>false
def kf8:List FV->List FV->Bool
  | [],[]=>true
  | a::l,b::m=>eqFV a b && kf8 l m
  | _,_=>false
end
def mkEl (sz:Nat) (xs:List FV):Option FV:=bif Nat.beq xs.length sz then (match xs with
  | [x]=>some x
  | xs=>some (.agg xs)) else none
def km3 (sz:Nat):Nat->List FV->Option (List FV)
  | 0,l=>match l with
    | []=>some []
    | _=>none
  | n+1,l=>match mkEl sz (l.take sz),km3 sz n (l.drop sz) with
    | some y,some r=>some (y::r)
    | _,_=>none
def atF:FV->Bool
  | .atom _=>true
  | .agg xs=>xs.all fun | .atom _=>true | _=>false
  | .tup xs=>xs.all fun | .atom _=>true | _=>false
  | _=>false
mutual
def frz (H:Nat->Option AObj) (fr:Bool):Nat->AV->Option FV
  | 0,_=>none
  | _+1, .fz x=>bif !fr || atF x then some x else none
  | _+1, .lim s n xs=>bif fr then none else some (.lst s n xs)
  | f+1, .agg cs=>match frzs H fr f cs with
    | some xs=>some (.agg xs)
    | none=>none
  | f+1, .tup cs=>match frzs H fr f cs with
    | some xs=>some (.tup xs)
    | none=>none
  | f+1, .bsl id g off len _=>match H id with
    | some (.xo (.blk g' _ sz cells))=>bif Nat.beq g g' then (match frzs H fr f ((cells.drop off).take (len*sz)) with
      | some xs=>match km3 sz len xs with
        | some ys=>some (.lst sz len ys)
        | none=>none
      | none=>none) else none
    | _=>none
  | _+1,_=>none
def frzs (H:Nat->Option AObj) (fr:Bool):Nat->List AV->Option (List FV)
  | 0,_=>none
  | _+1,[]=>some []
  | f+1,x::l=>match frz H fr f x,frzs H fr f l with
    | some y,some r=>some (y::r)
    | _,_=>none
end
def resE (T:List (TypeId×TD)) (E:Operand->AV) (H:Nat->Option AObj):ResultVar->Option AV
  | .tmp t=>some (E (.tmp t))
  | .cell x t=>match kac T t,kui H (E (.tmp x)) with
    | some d,some xs=>kjl d xs
    | _,_=>none
def krz (T:List (TypeId×TD)) (E:Operand->AV) (H:Nat->Option AObj):List ResultVar->Option (List AV)
  | []=>some []
  | r::rs=>match resE T E H r,krz T E H rs with
    | some y,some ys=>some (y::ys)
    | _,_=>none
def retE (T:List (TypeId×TD)) (E:Operand->AV) (H:Nat->Option AObj) (rs:List ResultVar):Option AV:=match krz T E H rs with
  | some [y]=>some y
  | some ys=>some (tupA ys)
  | none=>none
inductive FT where
  | lf
  | nd (k:Nat) (v:Func) (l r:FT)
noncomputable def FT.get (t:FT) (f:Nat):Option Func:=FT.rec (motive:=fun _=>Option Func) none (fun k v _ _ il ir=>Bool.rec (Bool.rec ir il (Nat.blt f k)) (some v) (Nat.beq k f)) t
structure Cx where
  T:List (TypeId×TD)
  Z:List (TypeId×Value)
  fn:FT
  mu:List Nat
  pu:List Nat
  fx:List (Nat×List FV×FV)
  ib:List Nat
  nf:List Nat
def ktp:List (Nat×List FV×FV)->Nat->List FV->Option FV
  | [],_,_=>none
  | (f,as_,r)::l,g,xs=>bif Nat.beq f g && kf8 as_ xs then some r else ktp l g xs
def kjs (E:Operand->AV) (f:Operand):Option (Nat×List AV×List AV):=match E f with
  | .fn f caps=>some (f,[],caps)
  | .mth f fst=>some (f,fst,[])
  | _=>none
abbrev EvT:=Bool->Code->XS->Option (Exit×XS)
def kn0 (c:UInt8):List UInt8->Nat->Int
  | [],_ => -1
  | x::l,i=>bif Nat.beq x.toNat c.toNat then (i:Int) else kn0 c l (i+1)
def kxc:Code->Option (Code×Nat×Oper×Oper×Nat×Code)
  | .seq x (.seq (.region rid os false) c)=>match os.toList with
    | [o1,o2]=>match o1.dst,o1.guard,o2.op,o2.dst,o2.guard with
      | some t,none, .defer cl,none,none=>match cl.callee,cl.args.toList with
        | .value (.tmp t'),[]=>bif Nat.beq t t' then some (x,rid,o1,o2,t,c) else none
        | _,_=>none
      | _,_,_,_,_=>none
    | _=>none
  | _=>none
def kxi:Exit->Bool
  | .ret=>true
  | .normal=>true
  | _=>false
def nilA:AV := .fz (.atom .nilIface)
noncomputable def k1w (C:Cx) (ih:EvT) (f:Nat) (fn:Func) (x:Code) (o1:Oper) (t:Nat) (c1:Code) (s0:XS):Option (AV×XS):=match ih (C.mu.contains f) x s0 with
  | some (.normal,s1)=>match nE C.T C.Z s1.E s1.H o1 with
    | some (.fn f2 caps)=>match C.fn.get f2 with
      | some fn2=>match kju fn2 with
        | some (ta,tb,c2)=>match ih (C.mu.contains f) c1 (s1.put (some t) (.fn f2 caps)) with
          | some (e,s2)=>match (bif kxi e && Nat.ble caps.length fn2.ntmps then ih (C.mu.contains f2) c2 ⟨fn2.ntmps,kjk (kjk (argT 0 caps) ta nilA) tb nilA,s2.heap,s2.k,s2.lg⟩ else none) with
            | some (e2,s3)=>match (bif kxi e2 then retE C.T s2.E s3.H fn.results.toList else none) with
              | some y=>some (y,⟨s2.n,s2.tmps,s3.heap,s3.k,s3.lg⟩)
              | none=>none
            | none=>none
          | none=>none
        | none=>none
      | none=>none
    | _=>none
  | _=>none
noncomputable def krw (C:Cx) (ih:EvT) (f:Nat) (args:List AV) (heap:List (Nat×AObj)) (k:Nat) (lg:List Nat):Option (AV×XS):=match C.fn.get f with
  | some fn=>match fn.body with
    | some c=>match kxc c with
      | some (x,_,o1,_,t,c1)=>bif Nat.ble args.length fn.ntmps && Nat.blt t fn.ntmps then k1w C ih f fn x o1 t c1 ⟨fn.ntmps,argT 0 args,heap,k,lg⟩ else none
      | none=>match (bif Nat.ble args.length fn.ntmps then ih (C.mu.contains f) c ⟨fn.ntmps,argT 0 args,heap,k,lg⟩ else none) with
      | some (e,s1)=>match e,retE C.T s1.E s1.H fn.results.toList with
        | .ret,some y=>some (y,s1)
        | .normal,some y=>some (y,s1)
        | _,_=>none
      | none=>none
    | none=>none
  | none=>none
noncomputable def kw9 (C:Cx) (ih:EvT) (f:Nat) (xs:List FV):Option FV:=match ktp C.fx f xs with
  | some r=>some r
  | none=>bif C.pu.contains f then (match krw C ih f (xs.map .fz) [] 0 [] with
    | some (y,s1)=>frz s1.H false 1000 y
    | none=>none) else none
noncomputable def kw3 (C:Cx) (ih:EvT) (H:Nat->Option AObj) (f:Nat) (args:List AV):Option FV:=match kka args with
  | some xs=>(match C.ib.contains f,xs with
    | true,[.atom (.string u), .atom (.int .u8 c)]=>some (FV.atom (.int .i64 (kn0 c.toNat.toUInt8 u.data.toList 0)))
    | _,_=>kw9 C ih f xs)
  | none=>match frzs (fun _=>none) false 1000 args with
   | some xs=>kw9 C ih f xs
   | none=>bif C.pu.contains f then (match frzs H false 1000 args with
    | some xs=>(match ktp C.fx f xs with
      | some r=>bif atF r then some r else none
      | none=>(match krw C ih f (xs.map .fz) [] 0 [] with
        | some (y,s1)=>frz s1.H true 1000 y
        | none=>none))
    | none=>none) else none
noncomputable def k8c (C:Cx) (ih:EvT) (s:XS) (f:Nat) (args:List AV):Option (AV×XS):=match kw3 C ih s.H f args with
  | some r=>some (.fz r,s)
  | none=>match krw C ih f args s.heap s.k s.lg with
    | some (y,s1)=>some (y,{ s with heap:=s1.heap,k:=s1.k,lg:=s1.lg })
    | none=>none
def dstE (n:Nat) (o:Oper):Bool:=match o.dst with
  | some t=>Nat.blt t n
  | none=>true
noncomputable def kra (ops:Array Oper) (E:Operand->AV) (o:Oper):Option Bool:=match o.guard with
  | none=>some true
  | some (j,want)=>match (ops[j]?).bind (·.dst) with
    | some t=>match E (.tmp t) with
      | .fz (.atom (.bool b))=>some (b == want)
      | .fz (.tup _)=>some false
      | _=>none
    | none=>none
def kxh (o:Oper):Option (Operand×List Operand):=match o.op with
  | .call c=>(match c.callee with
    | .value f=>some (f,c.args.toList)
    | _=>none)
  | _=>none
noncomputable def opE (C:Cx) (ih:EvT) (mu:Bool) (o:Oper) (s:XS):Option (AV×XS):=match kxh o with
  | some (f,as_)=>match kjs s.E f with
    | some (f,fst,caps)=>k8c C ih s f (fst++(as_.map s.E++caps))
    | none=>none
  | none=>match sE C.T C.Z s.E s.H mu s.k o with
    | some (c,dl)=>some (c,s.app dl)
    | none=>none
noncomputable def opsE (C:Cx) (ih:EvT) (mu:Bool) (ops:Array Oper) (l:List Oper):XS->Option XS:=List.rec (motive:=fun _=>XS->Option XS) (fun s=>some s) (fun o _ k s=>bif dstE s.n o then (match kra ops s.E o with
    | some true=>match opE C ih mu o s with
      | some (c,s1)=>k (s1.put o.dst c)
      | none=>none
    | some false=>k (s.put o.dst (.fz (.tup [])))
    | none=>none) else none) l
def isEs (nf:List Nat) (li:Bool) (o:Oper):Bool:=match o.op with
  | .alloc _=>true
  | .box _ _=>true
  | .store _ _ _=>true
  | .makeSlice _ _ _=>true
  | .makeMap _ _=>true
  | .mapUpdate _ _ _ _=>true
  | .range _ _=>true
  | .next _ _=>true
  | .buildSlice _ _ _=>li
  | .call c=>match c.callee with
    | .value (.func f)=>!nf.contains f
    | .value _=>true
    | .builtin .append=>true
    | .builtin .copy=>true
    | _=>false
  | _=>false
def esOf (nf:List Nat) (li:Bool):List Oper->Nat->List Nat
  | [],_=>[]
  | o::l,i=>bif isEs nf li o then i::esOf nf li l (i+1) else esOf nf li l (i+1)
def okN0 (k:Nat):AV->Bool
  | .fz _=>true
  | .lim _ _ _=>true
  | .any=>true
  | .ref id _ _=>Nat.blt id k
  | .mp id=>Nat.blt id k
  | .bsl id _ _ _ _=>Nat.blt id k
  | _=>false
def okN (k:Nat):AV->Bool
  | .agg cs=>cs.all (okN0 k)
  | .tup cs=>cs.all (okN0 k)
  | .fn _ cs=>cs.all (okN0 k)
  | .mth _ cs=>cs.all (okN0 k)
  | x=>okN0 k x
def idAV:AV->List Nat
  | .ref id _ _=>[id]
  | .mp id=>[id]
  | .bsl id _ _ _ _=>[id]
  | _=>[]
def krj (E:Operand->AV) (o:Oper):List Nat:=match o.op with
  | .move _=>[]
  | .assign _=>[]
  | .pick _ _ _=>[]
  | .build _ _=>[]
  | .buildSlice _ _ _=>[]
  | .makeFunc _ _ _=>[]
  | .extract _ _=>[]
  | _=>o.op.operands.toList.flatMap fun x=>idAV (E x)
def kme (rf:List Nat):List (Nat×AObj)->List (Nat×AObj)
  | []=>[]
  | (k,v)::l=>bif rf.contains k then (k,v)::kme rf l else kme rf l
noncomputable def dz1 (C:Cx) (ih:EvT) (mu:Bool) (os:Array Oper) (L:List Oper) (n:Nat) (es:List Nat) (s0:XS) (i:Nat) (o:Oper) (fs:List (Nat×Option Nat×AV)) (hs:XS):Option (AV×XS×List Nat):=
  match (⟨s0.n,hadd fs (kf9 o) (khx L i n++s0.tmps),hs.heap,hs.k,hs.lg⟩:XS) with
  | v=>match kra os v.E o with
    | some false=>some (.fz (.tup []),hs,[])
    | some true=>bif es.contains i then (match opE C ih mu o v with
        | some (c,v1)=>some (c,v1,[])
        | none=>none)
      else (match kxh o with
        | some (f,as_)=>(match kjs v.E f with
          | some (f,fst,caps)=>(match kw3 C ih (bif phB L es i then v.H else fun _=>none) f (fst++(as_.map v.E++caps)) with
            | some r=>some (.fz r,hs,[])
            | none=>none)
          | none=>none)
        | none=>bif phB L es i then (match nE C.T C.Z v.E v.H o with
            | some c=>some (c,hs,[])
            | none=>none)
          else (match nE C.T C.Z v.E (getO (kme (krj v.E o) s0.heap)) o with
            | some c=>bif okN s0.k c then some (c,hs,krj v.E o) else none
            | none=>none))
    | none=>none
noncomputable def dzE (C:Cx) (ih:EvT) (mu:Bool) (os:Array Oper) (L:List Oper) (n:Nat) (es:List Nat) (s0:XS):List Oper->Nat->List (Nat×Option Nat×AV)->XS->List (Nat×List Nat)->List (Nat×List Nat)->Option (List (Nat×Option Nat×AV)×XS×List (Nat×List Nat)×List (Nat×List Nat))
  | [],_,fs,hs,rf,sl=>some (fs,hs,rf,sl)
  | o::l,i,fs,hs,rf,sl=>match dz1 C ih mu os L n es s0 i o fs hs with
    | some (c,hs1,r1)=>dzE C ih mu os L n es s0 l (i+1) ((i,o.dst,c)::fs) hs1 ((i,r1)::rf) ((i,hs1.lg.take (hs1.lg.length - hs.lg.length))::sl)
    | none=>none
noncomputable def km1 (fs:List (Nat×Option Nat×AV)) (base:List (Nat×AV)):List (Nat×AV):=match fs with
  | []=>base
  | (_,some d,c)::l=>kjk (km1 l base) d c
  | (_,none,_)::l=>km1 l base
noncomputable def drzA (C:Cx) (ih:EvT) (mu:Bool) (ops:Array Oper) (s:XS) (es:List Nat):Option XS:=
  bif relB ops.toList ops.toList.length s.n && kne ops.toList ops.toList.length es then
    (match dzE C ih mu ops ops.toList ops.toList.length es s ops.toList 0 [] s [] [] with
      | some (fs,hs,rf,sl)=>bif rf.all (fun p=>sl.all fun q=>anc ops.toList q.1 p.1 || p.2.all (fun r=>!q.2.contains r)) then some ⟨s.n,km1 fs s.tmps,hs.heap,hs.k,hs.lg⟩ else none
      | none=>none)
  else none
noncomputable def drzE (C:Cx) (ih:EvT) (mu:Bool) (ops:Array Oper) (s:XS):Option XS:=match drzA C ih mu ops s (esOf C.nf mu ops.toList 0) with
  | some r=>some r
  | none=>match drzA C ih mu ops s (esOf C.nf true ops.toList 0) with
    | some r=>some r
    | none=>match drzA C ih mu ops s (esOf [] mu ops.toList 0) with
      | some r=>some r
      | none=>drzA C ih mu ops s (esOf [] true ops.toList 0)
noncomputable def evB (C:Cx) (ih:EvT):EvT:=fun mu c s=>match c with
  | .skip=>some (.normal,s)
  | .region _ ops false=>match opsE C ih mu ops ops.toList s with
    | some s1=>some (.normal,s1)
    | none=>none
  | .region _ ops true=>match drzE C ih mu ops s with
    | some s1=>some (.normal,s1)
    | none=>none
  | .seq x y=>match ih mu x s with
    | some (.normal,s1)=>ih mu y s1
    | r=>r
  | .cond c x y=>match s.E c with
    | .fz (.atom (.bool b))=>ih mu (bif b then x else y) s
    | _=>none
  | .block id x=>match ih mu x s with
    | some (.exit i,s1)=>bif Nat.beq i id then some (.normal,s1) else some (.exit i,s1)
    | r=>r
  | .loop x=>match ih mu x s with
    | some (.normal,s1)=>ih mu (.loop x) s1
    | r=>r
  | .exit i=>some (.exit i,s)
  | .ret=>some (.ret,s)
  | .scope x=>ih mu x s
  | _=>none
noncomputable def ev (C:Cx) (n:Nat):EvT:=Nat.rec (motive:=fun _=>EvT) (fun _ _ _=>none) (fun _ ih=>evB C ih) n
noncomputable def runE (C:Cx) (n f:Nat) (args:List FV):Option FV:=match krw C (ev C n) f (args.map .fz) [] 0 [] with
  | some (y,s1)=>frz s1.H false 1000 y
  | none=>none
section
variable {P:Program} {w w':World} {a:Act}
theorem k9a (fn: Func) {fn2: Func} (f: FuncId) (cvals: List Value) {t1 t2: Nat} {c2: Code} (R: Ending -> World -> Prop) (hd: a.defers = [dfn f cvals]) (u: P.funcs[f]? = some fn2) (x: kju fn2 = some (t1, t2, c2)) (hn: (fn2.name == "runtime.NumGoroutine") = false) (z: cvals.length <= fn2.ntmps) (h:Cwp P c2 (fun e2 a2 w2=>(e2 = .normal\/e2 = .ret)/\a2.defers=[]/\∃ v,(results fn a.tmps).run P w2 = .ok v w2/\R (.returned v) w2)
      (((⟨cvals.toArray++Array.replicate (fn2.ntmps - cvals.toArray.size) undef,[]⟩:Act).put (some t1) .nilIface).put (some t2) .nilIface) w'):
    Leaves P fn a.tmps R a.defers .returning w':=by
  obtain ⟨id,os,o1,c1,b,p1,p2,p3,p4,p5,n1,n2,nres,c⟩:=kpw x;rw [hd];have k:fn2.body≠none:=by rw [b];simp
  simp only [qa0,ne_eq] at hn;refine leaves_cons (f:=f) (args:=cvals.toArray) (fun A=>by cases A) (by simp [invoke,callFunc,u,k,hn]) ?_;refine callsD_of_wpS u b fun c₀ cs hm=>?_;have m:(cvals.toArray++Array.replicate (fn2.ntmps - cvals.toArray.size) undef).size=fn2.ntmps:=by simp;omega
  let a0:Act:={ tmps:=cvals.toArray++Array.replicate (fn2.ntmps - cvals.toArray.size) undef,defers:=[] }
  let a2:Act:=(a0.put (some t1) .nilIface).put (some t2) .nilIface
  have g:∀ (R2:Ending->FrameMode->World->Prop),(∀ v w'',Leaves P fn a.tmps R [] .returning w''->R2 (.returned v) .returning w'') ->
      c2.wp P (fun e a' w''=>bodyPostS P fn2 c₀ cs R2 e a' ({ c₀ with mode := .returning }::cs) w'') a2 w':=by
    intro R2 B;refine wp_wide.1 (kbq h ?_);rintro e2 a'' w'' ⟨o,p,v,hv,hr⟩;have i:a''.defers=[]/\∃ u'',({ c₀ with mode := .returning }::cs:List Frame)={ c₀ with mode:=u'' }::cs/\∃ v,(results fn2 a''.tmps).run P w'' = .ok v w''/\R2 (.returned v) u'' w'':=
      ⟨p, .returning,rfl, .tuple #[],by simp [results,nres],B _ _ ⟨v,hv,hr⟩⟩
    rcases o with rfl | rfl <;> exact i
  refine wpS_seq (wpS_region ?_);have q:∀ (a:Act) (w:World),(execOp a.eval o1).run P w = .ok .recover w:=fun a w=>by obtain ⟨cc,as_,ts⟩:=c1;simp only at p2 p3;subst p2 p3;simp [execOp,p1,resolve,invoke,builtin]
  have r:∀ y,Region.wanted o1 y=true:=fun y=>by simp [Region.wanted,p5]
  have key:∀ (cs':List Frame) (Q:Exit->Act->List Frame->World->Prop),(Q .normal a2 cs' w'->os[0]?=some o1/\∃ l,List.range os.size=0::l/\wpOpsS P os Q l (a0.put (some t1) .nilIface) cs' w'):=fun cs' Q hQ=>by
    rcases c with ⟨o2,rfl,q1,q2,q3⟩ | ⟨rfl,rfl⟩
    · refine ⟨rfl,[1],rfl,?_⟩
      have s:∀ y,Region.wanted o2 y=true:=fun y=>(by simp [Region.wanted,q3]);unfold wpOpsS;simp only [qbr,qbo,List.getElem?_cons_zero,s,if_true];have hv:(execOp (a0.put (some t1) .nilIface).eval o2).run P w' = .ok (.value .nilIface) w':=(by have:(a0.put (some t1) .nilIface).eval (.tmp t1) = .nilIface:=(by show (a0.put (some t1) .nilIface).tmps.getD t1 undef = .nilIface;rw [kks (some t1) fn2.ntmps t1 m (by intro t ht;injection ht with ht;omega),qr rfl]);simp [execOp,q1,this]);rw [hv];simp only [Oper.upon,q2];unfold wpOpsS;exact hQ
    · refine ⟨rfl,[],rfl,?_⟩
      unfold wpOpsS;have C:a2=a0.put (some t2) .nilIface:=(by show (a0.put (some t2) .nilIface).put (some t2) .nilIface=a0.put (some t2) .nilIface;simp [Act.put]);rw [<- C];exact hQ
  have j:recoverD (c₀::cs)=none:=by simp [recoverD,hm]
  have go:∀ (Q:Exit->Act->List Frame->World->Prop),Q .normal a2 (c₀::cs) w'->wpOpsS P os Q (List.range os.size) a0 (c₀::cs) w':=fun Q hQ=>by obtain ⟨k1,l,k2,k3⟩:=key (c₀::cs) Q hQ;rw [k2];unfold wpOpsS;simp only [k1,r,if_true];rw [q];simp only [j,p4];exact k3
  refine go _ ?_;show c2.wpS P _ a2 (c₀::cs) w';refine wpS_of_wp ?_;have hc:(c₀::cs)=({ c₀ with mode := .returning }::cs:List Frame):=by rw [<- hm]
  rw [hc];exact g _ fun v w'' hl=>hl
end
section
variable {P:Program} {F S0:Nat->Prop} {N0:Nat} {w w':World} {S S':Nat->Prop} {ψ ψ':Env} {K:Nat->Prop} {T:List (TypeId×TD)} {Z:List (TypeId×Value)} {o:Oper} {a:Act} {st:St} {t tx:TypeId} {d:TD} {id:Nat} {c:AV}
theorem kak {α:Type} {b:Bool} {x:Option α} {y:α} (h:(bif b then x else none)=some y):b=true/\x=some y:=by
  cases b with
  | false=>cases h
  | true=>exact ⟨rfl,h⟩
theorem k88 (g:TOk P T) {s:TypeId} {x:Operand} {f:Nat} (i:o.op = .fieldAddr s x f) (h:fldE T st.eval (kaa st.heap) s x f=some c):NStep P o st c:=by
  unfold fldE at h;split at h
  · rename_i d hd
    split at h
    · rename_i fs hk
      split at h
      · rename_i ft off j
        split at h
        · rename_i df b
          cases a:Nat.beq df.size 0 with
          | true=>rw [a] at h;cases h
          | false=>
            rw [a] at h;exact k53 i (g.get hd) hk j (g.get b) (fun e=>by rw [e] at a;cases a) h
        · cases h
      · cases h
    · cases h
  · cases h
theorem kaab (f:TOk P T) {x y:Operand} (j:o.op = .indexAddr t x y) (h:idxE T st.eval (kaa st.heap) t x y=some c):NStep P o st c:=by
  unfold idxE at h;split at h
  · rename_i d k i hd hy
    replace h:=kak h;obtain ⟨h0,h⟩:=h;have h0:0<=i:=(by simpa using h0);split at h
    · rename_i e hk
      split at h
      · rename_i de a
        split at h
        · rename_i id g off len cap hx
          split at h
          · rename_i g' cells l
            replace h:=kak h;obtain ⟨b,h⟩:=h;simp only [qk,qbd] at b;obtain rfl:=qe b.1;injection h with h;subst h;exact kaa3 j (f.get hd) hk (f.get a) hx l hy h0 b.2
          · cases h
        · split at h
          · rename_i xs hl
            split at h
            · rename_i z m
              replace h:=kak h;obtain ⟨b,h⟩:=h;injection h with h;subst h;exact k0y j (f.get hd) hk (f.get a) hl (fun z m=>qe (qq.1 b z m)) hy h0 m rfl
            · cases h
          · cases h
      · cases h
    · rename_i n e hk
      split at h
      · rename_i de a
        replace h:=kak h;obtain ⟨b,h⟩:=h;exact kabi j (f.get hd) hk (f.get a) hy h0 (by simpa using b) h
      · cases h
    · cases h
  · cases h
theorem k9z (e:TOk P T) {x y:Operand} (f:o.op = .index t x y) (h:bytE T st.eval (kaa st.heap) t x y=some c):NStep P o st c:=by
  unfold bytE at h;split at h
  · rename_i d s k i hd hx hy
    split at h
    · rename_i hk
      replace h:=kak h;obtain ⟨h0,h⟩:=h;split at h
      · rename_i b g
        injection h with h;subst h;have a:s.data[i.toNat]?=some b:=(by simpa using g);exact k4t f (e.get hd) hk hx hy (by simpa using h0) (c:=b) (by obtain ⟨hl,a⟩:=qai.1 a;rw [<- a];exact getElem?_pos s i.toNat hl)
      · cases h
    · cases h
  · cases h
theorem k8s {s:BA} {l h:Nat} (h1:l<=h) (a:h<=s.size):cutB s l h=s.extract l h:=by apply ByteArray.ext;rw [ByteArray.data_extract];apply qbj;simp [cutB,Array.toList_extract,List.extract_eq_take_drop,List.drop_take]
theorem kws (s:BA):knf s=s.size:=by unfold knf;rw [qac];rfl
theorem kaaq {x:Operand} {lo hi:Option Operand} {s:BA} {L H:Nat} (e:o.op = .slice t x lo hi none) (hd:TdOk P t d) (hk:d.kind = .str) (hx:st.eval x = .fz (.atom (.string s))) (hl:kcs st 0 lo=some L) (c:kcs st (knf s) hi=some H) (h1:L<=H) (b:H<=knf s):
    NStep P o st (.fz (.atom (.string (cutB s L H)))):=by
  intro ψ S a w ht f;have hv:=Sim.eval_tmps ht x;rw [hx] at hv;rw [kws] at c b;have e1:=kh2 P w none false s.size s.size (kbo ht hl) (kbo ht c) (.inl ⟨rfl,rfl⟩) h1 b (qv _) (fun h=>by cases h);refine kad w (.string (s.extract L H)) ?_ ⟨kae _,by rw [k8s h1 b];exact .fz (.atom rfl)⟩;simp only [Option.map_none] at e1;simp [execOp,e,Instr.sliceAt,Instr.slice,run_underlying (hd.str hk),hv.atom,e1]
theorem k97 (m:TOk P T) {x:Operand} {lo hi mx:Option Operand} (p:o.op = .slice t x lo hi mx) (h:slcE T st.eval (kaa st.heap) t x lo hi mx=some c):NStep P o st c:=by
  unfold slcE at h;split at h
  · rename_i d hd
    split at h
    · rename_i hk
      split at h
      · rename_i s hx
        split at h
        · rename_i L H f i
          replace h:=kak h;obtain ⟨a,h⟩:=h;simp only [qk] at a;injection h with h;subst h;exact kaaq p (m.get hd) hk hx f i (qh a.1) (qh a.2)
        · cases h
      · cases h
    · rename_i e hk
      split at h
      · rename_i de b
        split at h
        · rename_i id g off len k hx
          split at h
          · rename_i g' cells L H M j f i l
            replace h:=kak h;obtain ⟨a,h⟩:=h;simp only [qk,qbt,qbn] at a;obtain ⟨b1,b2,b3,b4,b5⟩:=a;obtain rfl:=qe b1;injection h with h;subst h;exact n_slB p m hd hk b hx j f i l (qh b2) (qh b3) (qh b4) (fun hm=>b5.elim (fun h=>by rw [hm] at h;cases h) fun h=>h)
          · cases h
        · rename_i id g len hx
          split at h
          · rename_i g' cells L H j f i
            split at h
            · replace h:=kak h
              obtain ⟨a,h⟩:=h;simp only [qk] at a;obtain ⟨b1,b2,b3⟩:=a;obtain rfl:=qe b1;obtain rfl:=qe b2;injection h with h;subst h;exact n_slU p m hd hk b hx j f i (qh b3)
            · rename_i y
              split at h
              · rename_i M l
                replace h:=kak h;obtain ⟨a,h⟩:=h;simp only [qk] at a;obtain ⟨b1,b2,b3,b4,b5⟩:=a;obtain rfl:=qe b1;injection h with h;subst h;exact n_slM p m hd hk b hx j f i l (qh b2) (qh b3) (qh b4) b5
              · cases h
          · cases h
        · rename_i hx
          split at h
          · rename_i f i l
            replace h:=kak h;obtain ⟨a,h⟩:=h;simp only [qbt,qbn] at a;injection h with h;subst h;exact n_sl0 p m hd hk b hx f i l (fun hm=>a.elim (fun h=>by rw [hm] at h;cases h) fun h=>h)
          · cases h
        · split at h
          · rename_i s n xs hl
            split at h
            · rename_i L H f i
              replace h:=kak h;obtain ⟨a,h⟩:=h;simp only [qk] at a;obtain ⟨b1,b2,b3⟩:=a;obtain rfl:=qe b1;split at h
              · injection h with h
                subst h;exact n_slF p m hd hk b hl f i (qh b2) (qh b3)
              · rename_i y
                split at h
                · rename_i M l
                  replace h:=kak h;obtain ⟨a,h⟩:=h;simp only [qk] at a;obtain rfl:=qe a.1;injection h with h;subst h;exact kaay p m hd hk b hl f i l (qh b2) (qh b3) a.2
                · cases h
            · cases h
          · cases h
      · cases h
    · rename_i n e hk
      split at h
      · rename_i de id g off b hx
        split at h
        · rename_i g' cells L H M j f i l
          replace h:=kak h;obtain ⟨a,h⟩:=h;simp only [qk,qbt,qbn] at a;obtain ⟨b1,b2,b3,b4,b5,b6⟩:=a;obtain rfl:=qe b1;injection h with h;subst h;exact k84 p m hd hk b hx j f i l (qh b2) (qh b3) (qh b4) (fun hm=>b5.elim (fun h=>by rw [hm] at h;cases h) fun h=>h) (qh b6)
        · cases h
      · cases h
    · cases h
  · cases h
theorem k87 (b:TOk P T) {x:Operand} (f:o.op = .call { callee := .builtin .len,args:=#[x],argTypes:=#[t] }) (h:lenE T st.eval (kaa st.heap) x t=some c):NStep P o st c:=by
  unfold lenE at h;split at h
  · rename_i d hd
    split at h
    · rename_i e id g off len cap hk hx
      split at h
      · rename_i g' cells a
        replace h:=kak h;obtain ⟨i,h⟩:=h;obtain rfl:=qe i;injection h with h;subst h;exact kaa9 f (b.get hd) hk hx a
      · cases h
    · rename_i hk _
      split at h
      · rename_i n hn
        injection h with h;subst h;exact kuc f (b.get hd) hk hn
      · cases h
    · rename_i s hk hx
      injection h with h;subst h;rw [kws];exact kv8 f (b.get hd) hk hx
    · rename_i kt et id hk hx
      split at h
      · rename_i kv a
        injection h with h;subst h;exact kaa1 f (b.get hd) hk hx a
      · cases h
    · cases h
  · cases h
theorem k92 (a:TOk P T) {x:Operand} (b:o.op = .call { callee := .builtin .cap,args:=#[x],argTypes:=#[t] }) (h:capE T st.eval (kaa st.heap) x t=some c):NStep P o st c:=by
  unfold capE at h;split at h
  · rename_i d hd
    split at h
    · rename_i e hk
      split at h
      · rename_i de f
        split at h
        · rename_i m k ys hr
          injection h with h;subst h;exact kabp b (a.get hd) hk hr
        · cases h
      · cases h
    · cases h
  · cases h
theorem k8e (b:TOk P T) {s:TypeId} {x:Operand} (f:o.op = .convert s t x) (h:cnvE T st.eval (kaa st.heap) s t x=some c):NStep P o st c:=by
  unfold cnvE at h;split at h
  · rename_i ds d hs hd
    split at h
    · rename_i k _ k' n hk hx
      injection h with h;subst h;exact k34 b f hs hd hk hx
    · rename_i u hk a hx
      injection h with h;subst h;exact k02 b f hs a hd hk hx
    · rename_i e hk a
      split at h
      · rename_i de g
        split at h
        · rename_i i
          split at h
          · rename_i n c' ys hr
            split at h
            · rename_i xs hi
              injection h with h;subst h;exact kaau b f hs a g i hd hk hr hi
            · cases h
          · cases h
        · cases h
      · cases h
    · cases h
  · cases h
theorem kabu (e:TOk P T) (f:ZOk P Z) {x y:Operand} {ok:Bool} (g:o.op = .lookup t x y ok) (h:lkE T Z st.eval (kaa st.heap) t x y ok=some c):NStep P o st c:=by
  unfold lkE at h;split at h
  · rename_i d id k hd hx hy
    split at h
    · rename_i kt et hk
      split at h
      · rename_i kd kv a b
        replace h:=kak h;obtain ⟨i,h⟩:=h;split at h
        · rename_i r hr
          split at h
          · rename_i c' hc
            injection h with h;subst h;exact k27 g e f hd hk a hx b hy i hr (by cases r <;> exact hc)
          · cases h
        · cases h
      · cases h
    · cases h
  · cases h
theorem k30 (mx:Bool) {x y:Operand} {ts:Array TypeId} (b:o.op = .call { callee := .builtin (bif mx then .max else .min),args:=#[x,y],argTypes:=ts }) (h:mmE st.eval (kaa st.heap) mx x y=some c):NStep P o st c:=by
  unfold mmE at h;split at h
  · rename_i k m k' n hx hy
    replace h:=kak h;obtain ⟨a,h⟩:=h;have a:k=k':=(by simpa using a);subst a;injection h with h;subst h;cases mx with
    | false=>exact k7t b hx hy
    | true=>exact k70 b hx hy
  · cases h
theorem k6p {x:Operand} {yt:TypeId} (a:o.op = .binOp .neq t x (.const .nilIface) yt) (hd:TdOk P t d) (hk:d.kind = .ifc) (hx:st.eval x = .fz (.atom .nilIface)):NStep P o st (.fz (.atom (.bool false))):=
  km0 true true a hd hk hx (.inr ⟨rfl,rfl⟩)
theorem k2g (c:TOk P T) (a:kk4 T t=true):P.underlying t=some .bool:=by
  unfold kk4 at a;split at a
  · rename_i d hd
    split at a
    · rename_i hk
      obtain ⟨_,e,h1,b⟩:=c.get hd;rw [hk] at b;cases e <;> simp [ker] at b;exact h1
    · cases a
  · cases a
theorem k08 (a:TOk P T) {op:BinOp} {x y:Operand} {yt:TypeId} {r:Bool} (b:o.op = .binOp op t x y yt) (hx:(r=true/\st.eval x = .fz (.atom nilV))\/(r=false/\((∃ id g off len cap cells,st.eval x = .bsl id g off len cap/\objC st id=some (g,cells))\/∃ s n z zs,lstX (st.eval x)=some (s,n,z::zs)))) (hy:st.eval y = .fz (.atom nilV))
    (h:binE.nilE T op t r=some c):NStep P o st c:=by
  unfold binE.nilE at h;split at h
  · rename_i d hd
    split at h
    · rename_i e hk
      injection h with h;subst h;exact k3y false r b ((a.get hd).slice hk) hx hy
    · rename_i e hk
      injection h with h;subst h;exact k3y true r b ((a.get hd).slice hk) hx hy
    · cases h
  · cases h
theorem kaah {z:AV} {r:Bool} (h:nilX (kaa st.heap) z=some r):(r=true/\z = .fz (.atom nilV))\/(r=false/\((∃ id g off len cap cells,z = .bsl id g off len cap/\objC st id=some (g,cells))\/∃ s n x xs,lstX z=some (s,n,x::xs))):=by
  unfold nilX at h;split at h
  · injection h with h;exact .inl ⟨h.symm,rfl⟩
  · rename_i id g off len cap
    split at h
    · rename_i g' cells a
      replace h:=kak h;obtain ⟨b,h⟩:=h;obtain rfl:=qe b;injection h with h;exact .inr ⟨h.symm, .inl ⟨id,g,off,len,cap,cells,rfl,a⟩⟩
    · cases h
  · split at h
    · rename_i s n x xs hl
      injection h with h;exact .inr ⟨h.symm, .inr ⟨s,n,x,xs,hl⟩⟩
    · cases h
theorem k96 (a:TOk P T) {op:BinOp} {x y:Operand} {yt:TypeId} (b:o.op = .binOp op t x y yt) (h:binE T st.eval (kaa st.heap) op t x y=some c):NStep P o st c:=by
  unfold binE at h;split at h
  · split at h
    · rename_i d hd hx
      split at h
      · rename_i hk
        injection h with h;subst h;exact k6p b (a.get hd) hk hx
      · cases h
    · cases h
  · split at h
    · rename_i hx hy
      exact k08 a b (.inl ⟨rfl,hx⟩) hy h
    · rename_i u v _ hx hy
      split at h
      · rename_i r hr
        injection h with h;subst h;exact k24 (kk4 T t) (fun e=>k2g a e) b hx hy hr
      · cases h
    · rename_i hy _ _
      split at h
      · rename_i r hr
        exact k08 a b (kaah hr) hy h
      · cases h
    · cases h
theorem k98 {x:Operand} (e:o.op = .entry x) (h:entE st.eval (kaa st.heap) x=some c):NStep P o st c:=by
  unfold entE at h;split at h
  · rename_i id hx
    split at h
    · rename_i m since seen stepped a
      split at h
      · rename_i kv j b f
        split at h
        · rename_i p hp
          replace h:=kak h;obtain ⟨d,h⟩:=h;simp only [qk] at d;injection h with h;subst h;obtain ⟨ys,rfl⟩:∃ ys,seen=ys++[j]:=(by obtain ⟨ys,rfl⟩:=List.getLast?_eq_some_iff.1 f;exact ⟨ys,rfl⟩);rw [qe d.1] at a;exact k64 e hx a b hp d.2
        · cases h
      · cases h
    · cases h
  · cases h
theorem k5b (a:TOk P T) {parts:Array (Nat×Operand)} (b:o.op = .build t parts) (h:k4s T st.eval t parts=some c):NStep P o st c:=k0j a b h
theorem k04 (g:TOk P T) {n:Nat} {parts:Array (Nat×Operand)} (i:o.op = .buildSlice t n parts) (h:litH T st.eval t n parts=some c):NStep P o st c:=by
  unfold litH at h;split at h
  · rename_i d hd
    split at h
    · rename_i e hk
      split at h
      · rename_i de b
        split at h
        · rename_i xs f
          replace h:=kak h;obtain ⟨a,h⟩:=h;injection h with h;subst h;simp only [qk] at a;exact k7o i (g.get hd) hk (g.get b) (qh a.2.1) (qe a.1) (qh a.2.2) f
        · cases h
      · cases h
    · cases h
  · cases h
theorem kxa (e:TOk P T) (p:ZOk P Z) (h:nE T Z st.eval (kaa st.heap) o=some c):NStep P o st c:=by
  unfold nE at h;split at h
  · rename_i a;exact k96 e a h
  · rename_i t x a
    split at h
    · rename_i d xs hd l
      exact k8h a (e.get hd) l h
    · cases h
  · rename_i a;exact k88 e a h
  · rename_i a;exact kaa2 a h
  · rename_i a;exact kaab e a h
  · rename_i a;exact k9z e a h
  · rename_i a;exact k97 e a h
  · rename_i a;exact k8e e a h
  · rename_i a;exact kabu e p a h
  · rename_i a;exact k98 a h
  · rename_i cl a
    obtain ⟨callee,args,tys⟩:=cl;simp only at h;split at h
    · rename_i x t g m
      rw [kjq g,kjq m] at a;exact k87 e a h
    · rename_i x t g m
      rw [kjq g,kjq m] at a;exact k92 e a h
    · rename_i x y g
      have:args=#[x,y]:=(by apply qbj;simpa using g);rw [this] at a;exact k30 false a h
    · rename_i x y g
      have:args=#[x,y]:=(by apply qbj;simpa using g);rw [this] at a;exact k30 true a h
    · cases h
  · rename_i x a;injection h with h;subst h;exact ktz (.inl a)
  · rename_i x a;injection h with h;subst h;exact ktz (.inr a)
  · rename_i cc x y a
    split at h
    · rename_i b k
      injection h with h;subst h;exact k4g a k
    · cases h
  · rename_i op t x a
    split at h
    · rename_i u q
      split at h
      · rename_i r hr
        injection h with h;subst h;exact n_un a q hr
      · cases h
    · cases h
  · rename_i x i a
    exact kv1 a h
  · rename_i t parts a
    exact k5b e a h
  · rename_i t n parts a
    exact k04 e a h
  · rename_i f first cap a
    cases k:first.isEmpty with
    | false=>
      rw [k] at h;cases j:cap.isEmpty with
      | false=>rw [j] at h;cases h
      | true=>
        rw [j] at h;have:cap=#[]:=(by simpa using j);subst this;simp only [qo,qg,qc] at h;subst h;exact k7k a
    | true=>
      rw [k] at h;have:first=#[]:=by simpa using k
      subst this;simp only [qg,qc] at h;subst h;exact k5f a
  · cases h
theorem k7r {dl:Dl} (h:(match nE T Z st.eval (kaa st.heap) o with | some c=>some (c,Dl.no) | none=>none)=some (c,dl)) (a:TOk P T) (b:ZOk P Z):StepA P o st c (kii st id dl) (dIds st id dl):=by
  split at h
  · rename_i c' hc
    simp only [qc,qp] at h;obtain ⟨rfl,rfl⟩:=h;exact (kxa a b hc).step
  · cases h
theorem kvd (id:Nat) {i g:Nat} {cells cells':List AV} {x:AV} {dl:Dl} (a:objC st i=some (g,cells)) (h:setE (kaa st.heap) i x cells'=some (c,dl)):x=c/\kii st id dl=putC st i cells'/\dIds st id dl=st.ids:=by
  unfold setE at h;split at h
  · rename_i ob d
    simp only [qc,qp] at h;obtain ⟨rfl,rfl⟩:=h;unfold objC objH at a;rw [d] at a;unfold putC;rw [d];split at a
    · rename_i e cs b;injection b with b;subst b;exact ⟨rfl,rfl,rfl⟩
    · rename_i g e sz cs b;injection b with b;subst b;exact ⟨rfl,rfl,rfl⟩
    · cases a
  · cases h
theorem k8o (e:TOk P T) {x y:Operand} {dl:Dl} (f:o.op = .store t x y) (h:stoE T st.eval (kaa st.heap) t x y=some (c,dl)):StepA P o st c (kii st id dl) (dIds st id dl):=by
  unfold stoE at h;split at h
  · rename_i d i n off hd hx
    split at h
    · rename_i g cells a
      replace h:=kak h;obtain ⟨b,h⟩:=h;simp only [qk] at b;obtain ⟨b1,b2,b3,b4⟩:=b;obtain rfl:=qe b1;obtain ⟨rfl,e2,e3⟩:=kvd id a h;rw [e2,e3];exact k55 f (e.get hd) hx a rfl (qe b2) b3 (qh b4)
    · cases h
  · cases h
theorem k9g (g:TOk P T) {x y:Operand} {dl:Dl} (a:st.ids.contains id=false) (i:o.op = .makeSlice t x y) (h:mksE T st.eval (kaa st.heap) t id x y=some (c,dl)):StepA P o st c (kii st id dl) (dIds st id dl):=by
  unfold mksE at h;split at h
  · rename_i d hd
    split at h
    · rename_i e hk
      split at h
      · rename_i de b
        split at h
        · rename_i zs k n k' m hx hy
          replace h:=kak h;obtain ⟨f,h⟩:=h;simp only [qk,qbd] at f;obtain ⟨b1,b1',b2,b3,b4,b5,b6⟩:=f;simp only [qc,qp] at h;obtain ⟨rfl,rfl⟩:=h;exact e_mkE i g hd hk b (qh b1) (qe b1') rfl (fun v hv=>qq.1 b2 v hv) hx hy b3 b4 b5 b6 a
        · cases h
      · cases h
    · cases h
  · cases h
theorem k9e (a:TOk P T) {mu:Bool} {n:Nat} {parts:Array (Nat×Operand)} {dl:Dl} (b:st.ids.contains id=false) (i:o.op = .buildSlice t n parts) (h:litE T st.eval (kaa st.heap) mu t n id parts=some (c,dl)):StepA P o st c (kii st id dl) (dIds st id dl):=by
  unfold litE at h;split at h
  · rename_i c' hc
    simp only [qc,qp] at h;obtain ⟨rfl,rfl⟩:=h;cases mu with
    | true=>cases hc
    | false=>exact (k04 a i hc).step
  · split at h
    · rename_i d hd
      split at h
      · rename_i e hk
        split at h
        · rename_i de f
          split at h
          · rename_i ys g
            replace h:=kak h;obtain ⟨j,h⟩:=h;simp only [qk] at j;obtain ⟨b1,b2,b3⟩:=j;simp only [qc,qp] at h;obtain ⟨rfl,rfl⟩:=h;exact kabk i (a.get hd) hk (a.get f) (qh b2) (qe b1) (qh b3) g b
          · cases h
        · cases h
      · cases h
    · cases h
theorem k93 (e:TOk P T) {x y v:Operand} {dl:Dl} (f:o.op = .mapUpdate t x y v) (h:mpuE T st.eval (kaa st.heap) t x y v=some (c,dl)):StepA P o st c (kii st id dl) (dIds st id dl):=by
  unfold mpuE at h;split at h
  · rename_i d i k hd hx hy
    split at h
    · rename_i kt et hk
      split at h
      · rename_i kd kv a b
        replace h:=kak h;obtain ⟨g,h⟩:=h;split at h
        · rename_i kv' hp
          simp only [qc,qp] at h;obtain ⟨rfl,rfl⟩:=h;exact ky8 f e hd hk a hx b hy g hp
        · cases h
      · cases h
    · cases h
  · cases h
theorem k8x (e:TOk P T) {x:Operand} {dl:Dl} (a:st.ids.contains id=false) (f:o.op = .range t x) (h:rngE T st.eval (kaa st.heap) t id x=some (c,dl)):StepA P o st c (kii st id dl) (dIds st id dl):=by
  unfold rngE at h;split at h
  · rename_i d m hd hx
    split at h
    · rename_i kt et kv hk b
      simp only [qc,qp] at h;obtain ⟨rfl,rfl⟩:=h;exact k5q f (e.get hd) hk hx b a
    · cases h
  · cases h
theorem k9m {x:Operand} {dl:Dl} (e:o.op = .next x false) (h:nxtE st.eval (kaa st.heap) x=some (c,dl)):StepA P o st c (kii st id dl) (dIds st id dl):=by
  unfold nxtE at h;split at h
  · rename_i i hx
    split at h
    · rename_i m since seen stepped a
      split at h
      · rename_i kv b
        replace h:=kak h;obtain ⟨d,h⟩:=h;simp only [qk] at d;obtain ⟨b1,b2⟩:=d;rw [qe b1] at a;split at h
        · rename_i hl
          simp only [qc,qp] at h;obtain ⟨rfl,rfl⟩:=h;exact (k48 e hx a b (qh b2) hl).step
        · rename_i j hl
          split at h
          · rename_i p hp
            replace h:=kak h;obtain ⟨d,h⟩:=h;simp only [qc,qp] at h;obtain ⟨rfl,rfl⟩:=h;exact k9l e hx a b (qh b2) hl hp d
          · cases h
        · cases h
      · cases h
    · cases h
  · cases h
theorem kzl (i:TOk P T) {x y:Operand} {e:TypeId} {de:TD} {n:Nat} {ys:List AV} {dl:Dl} (a:st.ids.contains id=false) (j:o.op = .call { callee := .builtin .append,args:=#[x,y],argTypes:=#[t,tx] }) (hd:kac T t=some d) (hk:d.kind = .slice e) (b:kac T e=some de)
    (l:0<de.size) (f:de.zero.length=de.size) (hy:srcE T de.size st tx (st.eval y)=some (n,ys)) (h:appE.grow st.eval (kaa st.heap) id x e de n ys=some (c,dl)):StepA P o st c (kii st id dl) (dIds st id dl):=by
  unfold appE.grow at h;split at h
  · rename_i m k xs hx
    replace h:=kak h;obtain ⟨g,h⟩:=h;simp only [qk] at g;simp only [qc,qp] at h;obtain ⟨rfl,rfl⟩:=h;exact k4k j i hd hk b l f hx hy (by simpa [Nat.blt_eq] using g.1) (qh g.2) a
  · cases h
theorem kaai (l:TOk P T) {x y:Operand} {dl:Dl} (p:st.ids.contains id=false) (q:o.op = .call { callee := .builtin .append,args:=#[x,y],argTypes:=#[t,tx] }) (h:appE T st.eval (kaa st.heap) t tx id x y=some (c,dl)):StepA P o st c (kii st id dl) (dIds st id dl):=by
  unfold appE at h;split at h
  · rename_i d hd
    split at h
    · rename_i e hk
      split at h
      · rename_i de b
        split at h
        · rename_i ys0 hy
          split at h
          · rename_i r hr
            obtain ⟨m,cc,xs⟩:=r;simp only [qc,qp] at h;obtain ⟨rfl,rfl⟩:=h;exact (kabn q l hd hk b hr hy).step
          · cases h
        · rename_i n ys _ hy
          replace h:=kak h;obtain ⟨s,h⟩:=h;simp only [qk] at s;have u:=qh s.1;have j:=qe s.2;split at h
          · rename_i i g off m hx
            split at h
            · rename_i g' e' sz cells f
              replace h:=kak h;obtain ⟨a,h⟩:=h;simp only [qk] at a;obtain ⟨b1,b2,b3,b4,b5,b6⟩:=a;obtain rfl:=qe b1;obtain rfl:=qe b2;obtain rfl:=qe b3;obtain rfl:=qe b4;simp only [qc,qp] at h;obtain ⟨rfl,rfl⟩:=h;exact k94 q l hd hk b j hx f (qe b5) hy (qh b6)
            · cases h
          · rename_i i g off m k hx
            cases hr:Nat.ble (m+n) k with
            | true=>
              rw [hr] at h;simp only [qg] at h;split at h
              · rename_i g' cells f
                replace h:=kak h;obtain ⟨a,h⟩:=h;simp only [qk] at a;obtain rfl:=qe a.1;obtain ⟨rfl,e2,e3⟩:=kvd id f h;rw [e2,e3];exact k3q q l hd hk b hx f hy (qh hr) (qh a.2)
              · cases h
            | false=>
              rw [hr] at h;exact kzl l p q hd hk b u j hy h
          · exact kzl l p q hd hk b u j hy h
        · cases h
      · cases h
    · cases h
  · cases h
theorem k8j (j:TOk P T) {x y:Operand} {dl:Dl} (k:o.op = .call { callee := .builtin .copy,args:=#[x,y],argTypes:=#[t,tx] }) (h:cpyE T st.eval (kaa st.heap) t x y=some (c,dl)):StepA P o st c (kii st id dl) (dIds st id dl):=by
  unfold cpyE at h;split at h
  · rename_i d hd
    split at h
    · rename_i e hk
      split at h
      · rename_i de b
        split at h
        · rename_i i g off len cap n c2 ys hx hy
          split at h
          · rename_i g' cells a
            replace h:=kak h;obtain ⟨f,h⟩:=h;simp only [qk] at f;obtain rfl:=qe f.1;obtain ⟨rfl,e2,e3⟩:=kvd id a h;rw [e2,e3];exact k83 k j hd hk b hx a hy (qh f.2)
          · cases h
        · cases h
      · cases h
    · cases h
  · cases h
theorem sE_ok (f:TOk P T) (j:ZOk P Z) {mu:Bool} {dl:Dl} (b:st.ids.contains id=false) (h:sE T Z st.eval (kaa st.heap) mu id o=some (c,dl)):StepA P o st c (kii st id dl) (dIds st id dl):=by
  unfold sE at h;split at h
  · rename_i e x a
    replace h:=kak h;obtain ⟨k,h⟩:=h;simp only [qc,qp] at h;obtain ⟨rfl,rfl⟩:=h;exact k7p a rfl k b
  · rename_i e a
    split at h
    · rename_i d hd
      split at h
      · rename_i cells l
        simp only [qc,qp] at h;obtain ⟨rfl,rfl⟩:=h;exact ku1 a (f.get hd) l b
      · cases h
    · cases h
  · rename_i a;exact k8o f a h
  · rename_i a;exact k9g f b a h
  · rename_i a;exact k9e f b a h
  · rename_i a
    simp only [qc,qp] at h;obtain ⟨rfl,rfl⟩:=h;exact k2j a b
  · rename_i a;exact k93 f a h
  · rename_i a;exact k8x f b a h
  · rename_i a;exact k9m a h
  · rename_i cl a
    obtain ⟨callee,args,tys⟩:=cl;simp only at h;split at h
    · rename_i x y t tx g i
      have e1:args=#[x,y]:=(by apply qbj;simpa using g);have e2:tys=#[t,tx]:=(by apply qbj;simpa using i);rw [e1,e2] at a;exact kaai f b a h
    · rename_i x y t tx g i
      have e1:args=#[x,y]:=(by apply qbj;simpa using g);have e2:tys=#[t,tx]:=(by apply qbj;simpa using i);rw [e1,e2] at a;exact k8j f a h
    · exact k7r h f j
  · exact k7r h f j
end
end Go.Proofs.YtjnjipmjkkhdpaaGreatDoor
