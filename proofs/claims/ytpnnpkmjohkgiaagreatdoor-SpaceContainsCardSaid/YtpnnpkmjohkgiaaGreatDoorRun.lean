import Derived.Test.YtpnnpkmjohkgiaaGreatDoorOpx
set_option linter.all false
namespace Go.Proofs.YtpnnpkmjohkgiaaGreatDoor
open Go Go.RowKit
abbrev Res:=Option (AV×List (Nat×AObj)×List Nat)
def fresh (l:List Nat):Nat:=l.foldl Nat.max 0+1
def nres (st:St) (c:Option AV):Res:=match c with
 | some c=>some (c,st.heap,st.ids)
 | none=>none
def kgt (T:List (TypeId×TD)) (t:TypeId):Bool:=match kac T t with
 | some d=>match d.kind with
  | .bool=>true
  | _=>false
 | none=>false
def lenX (T:List (TypeId×TD)) (st:St) (x:Operand) (t:TypeId):Option AV:=match kac T t with
 | some d=>match d.kind,st.eval x with
  | .slice _,x=>match lenOf x with
   | some n=>some (.fz (.atom (.int .i64 n)))
   | none=>none
  | .str, .fz (.atom (.string s))=>some (.fz (.atom (.int .i64 s.size)))
  | _,_=>none
 | none=>none
def fldX (T:List (TypeId×TD)) (st:St) (s:TypeId) (x:Operand) (f:Nat):Option AV:=match kac T s with
 | some d=>match d.kind with
  | .st fs=>match fs[f]? with
   | some (ft,off)=>match kac T ft with
    | some df=>bif Nat.beq df.size 0 then none else kg2 st off (st.eval x)
    | none=>none
   | none=>none
  | _=>none
 | none=>none
def litX (T:List (TypeId×TD)) (st:St) (t:TypeId) (n:Nat) (parts:Array (Nat×Operand)):Option AV:=match kac T t with
 | some d=>match d.kind with
  | .slice e=>match kac T e with
   | some de=>match kgl de.size 0 (kbx st parts) with
    | some xs=>bif Nat.beq xs.length n && (Nat.ble 1 de.size && Nat.ble (n*de.size) 16777216) then some (.lim de.size n xs) else none
    | none=>none
   | none=>none
  | _=>none
 | none=>none
def boxX (e:TypeId) (st:St) (cells:List AV):Res:=bif cells.all AV.single && !st.ids.contains (fresh st.ids) then some (.ref (fresh st.ids) 0 0,(fresh st.ids, .box e cells)::st.heap,fresh st.ids::st.ids) else none
def kkh (T:List (TypeId×TD)) (st:St) (t:TypeId) (x y:Operand):Res:=match kac T t,st.eval x with
 | some d, .ref id n off=>match kaa st.heap id with
  | some (.box e cells)=>bif Nat.beq n 0 && (Nat.beq (st.eval y).cells.length d.size && ((st.eval y).cells.all AV.single && Nat.ble (off+(st.eval y).cells.length) cells.length)) then some (.any,(id, .box e (kbi cells off (st.eval y).cells))::st.heap,st.ids) else none
  | _=>none
 | _,_=>none
def kmk (T:List (TypeId×TD)) (o:Oper) (st:St):Option AV:=match o.op with
 | .move x=>some (st.eval x)
 | .assign x=>some (st.eval x)
 | .pick c x y=>match st.eval c with
  | .fz (.atom (.bool b))=>some (bif b then st.eval x else st.eval y)
  | _=>none
 | .binOp op t x y _=>match st.eval x,st.eval y with
  | .fz (.atom u), .fz (.atom v)=>match binV (kgt T t) op u v with
   | some r=>some (.fz (.atom r))
   | none=>none
  | _,_=>none
 | .unOp op _ x=>match st.eval x with
  | .fz (.atom u)=>match unV op u with
   | some r=>some (.fz (.atom r))
   | none=>none
  | _=>none
 | .load t x=>match kac T t,kf8 st (st.eval x) with
  | some d,some xs=>kfy d xs
  | _,_=>none
 | .fieldAddr s x f=>fldX T st s x f
 | .extract x i=>match st.eval x with | .fz (.tup xs)=>(xs[i]?).map .fz | .tup xs=>xs[i]? | _=>none
 | .nilCheck x=>kg2 st 0 (st.eval x)
 | .build t parts=>kpv T st t parts
 | .indexAddr t x y=>arrX T st t x y
 | .buildSlice t n parts=>litX T st t n parts
 | .call c=>match c.callee,c.args.toList,c.argTypes.toList with
  | .builtin .len,[x],[t]=>lenX T st x t
  | _,_,_=>none
 | .makeFunc (.func f) first cap=>bif first.isEmpty then some (.fn f (cap.toList.map st.eval)) else (bif cap.isEmpty then some (.mth f (first.toList.map st.eval)) else none)
 | _=>none
def kkx (T:List (TypeId×TD)) (o:Oper) (st:St):Res:=match o.op with
 | .box e x=>boxX e st (st.eval x).cells
 | .alloc e=>match kac T e with
  | some d=>match kif d with
   | some cells=>boxX e st cells
   | none=>none
  | none=>none
 | .store t x y=>kkh T st t x y
 | _=>nres st (kmk T o st)
section
variable {P:Program} {w w':World} {S S':Nat->Prop} {ψ:Env} {T:List (TypeId×TD)} {o:Oper} {a:Act} {st:St}
theorem kvb {c0:Option AV} {c:AV} {h:List (Nat×AObj)} {i:List Nat} (hr:nres st c0=some (c,h,i)) (hn:∀ x,c0=some x->NStep P o st x):kam P o st c h i:=by
 cases c0 with
 | none=>cases hr
 | some x=>
  simp only [nres,qb,qi] at hr;obtain ⟨rfl,rfl,rfl⟩:=hr;exact (hn x rfl).step
theorem kf5 {α:Type} {xs:Array α} {x:α} (h:xs.toList=[x]):xs=#[x]:=by apply qa5;simpa using h
theorem kpb (h:TOk P T) {c:AV} (a:kmk T o st=some c):NStep P o st c:=by
 unfold kmk at a;split at a;rename_i x ho;injection a with a;subst a;exact kmm (.inl ho);rename_i x ho;injection a with a;subst a;exact kmm (.inr ho)
 ·rename_i c x y ho;split at a;rename_i b g;injection a with a;subst a;exact kur ho g
  ·cases a
 ·rename_i op t x y yt ho;split at a
  ·rename_i u v q hv;split at a
   ·rename_i r hr;injection a with a;subst a;refine kyf (kgt T t) (fun g=>?_) ho q hv hr;unfold kgt at g;split at g
    ·rename_i d j;split at g;rename_i hk;obtain ⟨_,e,h1,m⟩:=h.get j;rw [hk] at m;cases e <;> simp [kah] at m;exact h1
     ·cases g
    ·cases g
   ·cases a
  ·cases a
 ·rename_i op t x ho;split at a
  ·rename_i u q;split at a;rename_i r hr;injection a with a;subst a;exact n_un ho q hr
   ·cases a
  ·cases a
 ·rename_i t x ho;split at a;rename_i d xs j k;exact k2c ho (h.get j) k a
  ·cases a
 ·rename_i s x f ho;unfold fldX at a;split at a
  ·rename_i d j;split at a
   ·rename_i fs hk;split at a
    ·rename_i ft off hf;split at a
     ·rename_i df w;cases g:Nat.beq df.size 0 with
      | true=>rw [g] at a;cases a
      | false=>
       rw [g] at a;exact kze ho (h.get j) hk hf (h.get w) (fun e=>by rw [e] at g;cases g) a
     ·cases a
    ·cases a
   ·cases a
  ·cases a
 rename_i x i ho;exact kn1 ho a;rename_i x ho;exact kr8 ho a;rename_i t parts ho;exact kqv h ho a;rename_i t x y ho;exact n_arr h ho a
 ·rename_i t n parts ho;unfold litX at a;split at a
  ·rename_i d j;split at a
   ·rename_i e hk;split at a
    ·rename_i de z;split at a
     ·rename_i xs k;cases g:(Nat.beq xs.length n && (Nat.ble 1 de.size && Nat.ble (n*de.size) 16777216)) with
      | false=>rw [g] at a;cases a
      | true=>
       rw [g] at a;simp only [qe,qb] at a;subst a;simp only [qm] at g;exact kx2 ho (h.get j) hk (h.get z) (qj g.2.1) (qf g.1) (qj g.2.2) k
     ·cases a
    ·cases a
   ·cases a
  ·cases a
 ·rename_i c ho;split at a
  ·rename_i x t h1 m A;have p:o.op = .call { callee := .builtin .len,args:=#[x],argTypes:=#[t] }:=(by obtain ⟨cl,as_,ts⟩:=c;simp only at h1 m A;rw [ho,h1,kf5 m,kf5 A]);unfold lenX at a;split at a
   ·rename_i d j;split at a
    ·rename_i e hk;split at a;rename_i n hn;injection a with a;subst a;exact km4 p (h.get j) hk hn
     ·cases a
    rename_i s hk hv;injection a with a;subst a;exact kn3 p (h.get j) hk hv
    ·cases a
   ·cases a
  ·cases a
 ·rename_i f first cap ho
  cases g:first.isEmpty with
  | false=>
   rw [g] at a;cases l:cap.isEmpty with
   | false=>rw [l] at a;cases a
   | true=>
    rw [l] at a;have:cap=#[]:=(by simpa using l);subst this;simp only [qg,qe,qb] at a;subst a;exact kxy ho
  | true=>
   rw [g] at a;have:first=#[]:=by simpa using g
   subst this;simp only [qe,qb] at a;subst a;exact kvf ho
 ·cases a
theorem kpu (f:TOk P T) {c:AV} {h:List (Nat×AObj)} {i:List Nat} (a:kkx T o st=some (c,h,i)):kam P o st c h i:=by
 unfold kkx at a;split at a
 ·rename_i e x ho;unfold boxX at a;cases b:((st.eval x).cells.all AV.single && !st.ids.contains (Go.Proofs.YtpnnpkmjohkgiaaGreatDoor.fresh st.ids)) with
  | false=>rw [b] at a;cases a
  | true=>
   rw [b] at a;simp only [qe,qb,qi] at a;obtain ⟨rfl,rfl,rfl⟩:=a;simp only [qm,Bool.not_eq_true'] at b;exact kx3 ho rfl b.1 b.2
 ·rename_i e ho;split at a
  ·rename_i d g;split at a
   ·rename_i cells j;unfold boxX at a;cases b:(cells.all AV.single && !st.ids.contains (Go.Proofs.YtpnnpkmjohkgiaaGreatDoor.fresh st.ids)) with
    | false=>rw [b] at a;cases a
    | true=>
     rw [b] at a;simp only [qe,qb,qi] at a;obtain ⟨rfl,rfl,rfl⟩:=a;simp only [qm,Bool.not_eq_true'] at b;exact knd ho (f.get g) j b.2
   ·cases a
  ·cases a
 ·rename_i t x y ho;unfold kkh at a;split at a
  ·rename_i d id n off g k;split at a
   ·rename_i e cells l;cases b:(Nat.beq n 0 && (Nat.beq (st.eval y).cells.length d.size && ((st.eval y).cells.all AV.single && Nat.ble (off+(st.eval y).cells.length) cells.length))) with
    | false=>rw [b] at a;cases a
    | true=>
     rw [b] at a;simp only [qe,qb,qi] at a;obtain ⟨rfl,rfl,rfl⟩:=a;simp only [qm] at b;obtain ⟨b1,b2,b3,b4⟩:=b;obtain rfl:=qf b1;exact kqw ho (f.get g) k l rfl (qf b2) b3 (qj b4)
   ·cases a
  ·cases a
 ·exact kvb a fun z j=>kpb f j
def kks (st:St) (o:Oper):Bool:=match o.dst with
 | some t=>Nat.blt t st.n
 | none=>true
theorem kiz {st:St} {o:Oper} (h:kks st o=true):∀ t,o.dst=some t->t<st.n:=fun t ht=>by unfold kks at h;rw [ht] at h;exact of_decide_eq_true (by simpa [qa8] using h)
end
end Go.Proofs.YtpnnpkmjohkgiaaGreatDoor
