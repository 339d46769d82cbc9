import Derived.Test.YtpnnpkmjohkgiaaGreatDoorOpx
set_option linter.all false
namespace Go.Proofs.YtpnnpkmjohkgiaaGreatDoor
open Go Go.RowKit
abbrev Res:=Option (AV×List (Nat×AObj)×List Nat)
def fresh (l:List Nat):Nat:=l.foldl Nat.max 0+1
def nres (st:St) (c:Option AV):Res:=match c with
 | some c=>some (c,st.heap,st.ids)
 | none=>none
def kgc (T:List (TypeId×TD)) (t:TypeId):Bool:=match kad T t with
 | some d=>match d.kind with
  | .bool=>true
  | _=>false
 | none=>false
def lenX (T:List (TypeId×TD)) (st:St) (x:Operand) (t:TypeId):Option AV:=match kad T t with
 | some d=>match d.kind,st.eval x with
  | .slice _,x=>match lenOf x with
   | some n=>some (.fz (.atom (.int .i64 n)))
   | none=>none
  | .str, .fz (.atom (.string s))=>some (.fz (.atom (.int .i64 s.size)))
  | _,_=>none
 | none=>none
def fldX (T:List (TypeId×TD)) (st:St) (s:TypeId) (x:Operand) (f:Nat):Option AV:=match kad T s with
 | some d=>match d.kind with
  | .st fs=>match fs[f]? with
   | some (ft,off)=>match kad T ft with
    | some df=>bif Nat.beq df.size 0 then none else kgj st off (st.eval x)
    | none=>none
   | none=>none
  | _=>none
 | none=>none
def litX (T:List (TypeId×TD)) (st:St) (t:TypeId) (n:Nat) (parts:Array (Nat×Operand)):Option AV:=match kad T t with
 | some d=>match d.kind with
  | .slice e=>match kad T e with
   | some de=>match kf2 de.size 0 (kbv st parts) with
    | some xs=>bif Nat.beq xs.length n && (Nat.ble 1 de.size && Nat.ble (n*de.size) 16777216) then some (.lim de.size n xs) else none
    | none=>none
   | none=>none
  | _=>none
 | none=>none
def boxX (e:TypeId) (st:St) (cells:List AV):Res:=bif cells.all AV.single && !st.ids.contains (fresh st.ids) then some (.ref (fresh st.ids) 0 0,(fresh st.ids, .box e cells)::st.heap,fresh st.ids::st.ids) else none
def kjs (T:List (TypeId×TD)) (st:St) (t:TypeId) (x y:Operand):Res:=match kad T t,st.eval x with
 | some d, .ref id n off=>match kab st.heap id with
  | some (.box e cells)=>bif Nat.beq n 0 && (Nat.beq (st.eval y).cells.length d.size && ((st.eval y).cells.all AV.single && Nat.ble (off+(st.eval y).cells.length) cells.length)) then some (.any,(id, .box e (kbj cells off (st.eval y).cells))::st.heap,st.ids) else none
  | _=>none
 | _,_=>none
def klx (T:List (TypeId×TD)) (o:Oper) (st:St):Option AV:=match o.op with
 | .move x=>some (st.eval x)
 | .assign x=>some (st.eval x)
 | .pick c x y=>match st.eval c with
  | .fz (.atom (.bool b))=>some (bif b then st.eval x else st.eval y)
  | _=>none
 | .binOp op t x y _=>match st.eval x,st.eval y with
  | .fz (.atom u), .fz (.atom v)=>match binV (kgc T t) op u v with
   | some r=>some (.fz (.atom r))
   | none=>none
  | _,_=>none
 | .unOp op _ x=>match st.eval x with
  | .fz (.atom u)=>match unV op u with
   | some r=>some (.fz (.atom r))
   | none=>none
  | _=>none
 | .load t x=>match kad T t,kft st (st.eval x) with
  | some d,some xs=>kfj d xs
  | _,_=>none
 | .fieldAddr s x f=>fldX T st s x f
 | .extract x i=>match st.eval x with | .fz (.tup xs)=>(xs[i]?).map .fz | .tup xs=>xs[i]? | _=>none
 | .nilCheck x=>kgj st 0 (st.eval x)
 | .build t parts=>kph T st t parts
 | .indexAddr t x y=>arrX T st t x y
 | .buildSlice t n parts=>litX T st t n parts
 | .call c=>match c.callee,c.args.toList,c.argTypes.toList with
  | .builtin .len,[x],[t]=>lenX T st x t
  | _,_,_=>none
 | .makeFunc (.func f) first cap=>bif first.isEmpty then some (.fn f (cap.toList.map st.eval)) else (bif cap.isEmpty then some (.mth f (first.toList.map st.eval)) else none)
 | _=>none
def kj9 (T:List (TypeId×TD)) (o:Oper) (st:St):Res:=match o.op with
 | .box e x=>boxX e st (st.eval x).cells
 | .alloc e=>match kad T e with
  | some d=>match khp d with
   | some cells=>boxX e st cells
   | none=>none
  | none=>none
 | .store t x y=>kjs T st t x y
 | _=>nres st (klx T o st)
section
variable {P:Program} {w w':World} {S S':Nat->Prop} {ψ:Env} {T:List (TypeId×TD)} {o:Oper} {a:Act} {st:St}
theorem kup {c0:Option AV} {c:AV} {h:List (Nat×AObj)} {i:List Nat} (hr:nres st c0=some (c,h,i)) (hn:∀ x,c0=some x->NStep P o st x):StepA P o st c h i:=by
 cases c0 with
 | none=>cases hr
 | some x=>
  simp only [nres,qb,qj] at hr;obtain ⟨rfl,rfl,rfl⟩:=hr;exact (hn x rfl).step
theorem kfq {α:Type} {xs:Array α} {x:α} (h:xs.toList=[x]):xs=#[x]:=by apply qa8;simpa using h
theorem kov (h:TOk P T) {c:AV} (a:klx T o st=some c):NStep P o st c:=by
 unfold klx at a;split at a;rename_i x ho;injection a with a;subst a;exact klz (.inl ho);rename_i x ho;injection a with a;subst a;exact klz (.inr ho)
 ·rename_i c x y ho;split at a;rename_i b g;injection a with a;subst a;exact kt8 ho g
  ·cases a
 ·rename_i op t x y yt ho;split at a
  ·rename_i u v q hv;split at a
   ·rename_i r hr;injection a with a;subst a;refine kxx (kgc T t) (fun g=>?_) ho q hv hr;unfold kgc at g;split at g
    ·rename_i d j;split at g;rename_i hk;obtain ⟨_,e,h1,m⟩:=h.get j;rw [hk] at m;cases e <;> simp [kai] at m;exact h1
     ·cases g
    ·cases g
   ·cases a
  ·cases a
 ·rename_i op t x ho;split at a
  ·rename_i u q;split at a;rename_i r hr;injection a with a;subst a;exact n_un ho q hr
   ·cases a
  ·cases a
 ·rename_i t x ho;split at a;rename_i d xs j k;exact k1y ho (h.get j) k a
  ·cases a
 ·rename_i s x f ho;unfold fldX at a;split at a
  ·rename_i d j;split at a
   ·rename_i fs hk;split at a
    ·rename_i ft off hf;split at a
     ·rename_i df w;cases g:Nat.beq df.size 0 with
      | true=>rw [g] at a;cases a
      | false=>
       rw [g] at a;exact kyy ho (h.get j) hk hf (h.get w) (fun e=>by rw [e] at g;cases g) a
     ·cases a
    ·cases a
   ·cases a
  ·cases a
 rename_i x i ho;exact knh ho a;rename_i x ho;exact krr ho a;rename_i t parts ho;exact kqf h ho a;rename_i t x y ho;exact n_arr h ho a
 ·rename_i t n parts ho;unfold litX at a;split at a
  ·rename_i d j;split at a
   ·rename_i e hk;split at a
    ·rename_i de z;split at a
     ·rename_i xs k;cases g:(Nat.beq xs.length n && (Nat.ble 1 de.size && Nat.ble (n*de.size) 16777216)) with
      | false=>rw [g] at a;cases a
      | true=>
       rw [g] at a;simp only [qe,qb] at a;subst a;simp only [qn] at g;exact kxj ho (h.get j) hk (h.get z) (qk g.2.1) (qf g.1) (qk g.2.2) k
     ·cases a
    ·cases a
   ·cases a
  ·cases a
 ·rename_i c ho;split at a
  ·rename_i x t h1 m A;have p:o.op = .call { callee := .builtin .len,args:=#[x],argTypes:=#[t] }:=(by obtain ⟨cl,as_,ts⟩:=c;simp only at h1 m A;rw [ho,h1,kfq m,kfq A]);unfold lenX at a;split at a
   ·rename_i d j;split at a
    ·rename_i e hk;split at a;rename_i n hn;injection a with a;subst a;exact kmn p (h.get j) hk hn
     ·cases a
    rename_i s hk hv;injection a with a;subst a;exact knj p (h.get j) hk hv
    ·cases a
   ·cases a
  ·cases a
 ·rename_i f first cap ho
  cases g:first.isEmpty with
  | false=>
   rw [g] at a;cases l:cap.isEmpty with
   | false=>rw [l] at a;cases a
   | true=>
    rw [l] at a;have:cap=#[]:=(by simpa using l);subst this;simp only [qg,qe,qb] at a;subst a;exact kxf ho
  | true=>
   rw [g] at a;have:first=#[]:=by simpa using g
   subst this;simp only [qe,qb] at a;subst a;exact kuu ho
 ·cases a
theorem kpg (f:TOk P T) {c:AV} {h:List (Nat×AObj)} {i:List Nat} (a:kj9 T o st=some (c,h,i)):StepA P o st c h i:=by
 unfold kj9 at a;split at a
 ·rename_i e x ho;unfold boxX at a;cases b:((st.eval x).cells.all AV.single && !st.ids.contains (Go.Proofs.YtpnnpkmjohkgiaaGreatDoor.fresh st.ids)) with
  | false=>rw [b] at a;cases a
  | true=>
   rw [b] at a;simp only [qe,qb,qj] at a;obtain ⟨rfl,rfl,rfl⟩:=a;simp only [qn,Bool.not_eq_true'] at b;exact kxk ho rfl b.1 b.2
 ·rename_i e ho;split at a
  ·rename_i d g;split at a
   ·rename_i cells j;unfold boxX at a;cases b:(cells.all AV.single && !st.ids.contains (Go.Proofs.YtpnnpkmjohkgiaaGreatDoor.fresh st.ids)) with
    | false=>rw [b] at a;cases a
    | true=>
     rw [b] at a;simp only [qe,qb,qj] at a;obtain ⟨rfl,rfl,rfl⟩:=a;simp only [qn,Bool.not_eq_true'] at b;exact kmu ho (f.get g) j b.2
   ·cases a
  ·cases a
 ·rename_i t x y ho;unfold kjs at a;split at a
  ·rename_i d id n off g k;split at a
   ·rename_i e cells l;cases b:(Nat.beq n 0 && (Nat.beq (st.eval y).cells.length d.size && ((st.eval y).cells.all AV.single && Nat.ble (off+(st.eval y).cells.length) cells.length))) with
    | false=>rw [b] at a;cases a
    | true=>
     rw [b] at a;simp only [qe,qb,qj] at a;obtain ⟨rfl,rfl,rfl⟩:=a;simp only [qn] at b;obtain ⟨b1,b2,b3,b4⟩:=b;obtain rfl:=qf b1;exact kqg ho (f.get g) k l rfl (qf b2) b3 (qk b4)
   ·cases a
  ·cases a
 ·exact kup a fun z j=>kov f j
def kj3 (st:St) (o:Oper):Bool:=match o.dst with
 | some t=>Nat.blt t st.n
 | none=>true
theorem kh9 {st:St} {o:Oper} (h:kj3 st o=true):∀ t,o.dst=some t->t<st.n:=fun t ht=>by unfold kj3 at h;rw [ht] at h;exact of_decide_eq_true (by simpa [qbd] using h)
end
end Go.Proofs.YtpnnpkmjohkgiaaGreatDoor
