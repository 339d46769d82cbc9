import Derived.Test.YtpnnpkmjohkgiaaGreatDoorOpx
set_option linter.all false
namespace Go.Proofs.YtpnnpkmjohkgiaaGreatDoor
open Go Go.RowKit
abbrev Res:=Option (AV×List (Nat×AObj)×List Nat)
def fresh (l:List Nat):Nat:=l.foldl Nat.max 0+1
def nres (st:St) (c:Option AV):Res:=match c with
 | some c=>some (c,st.heap,st.ids)
 | none=>none
def kiw (T:List (TypeId×TD)) (t:TypeId):Bool:=match kab T t with
 | some d=>match d.kind with
  | .bool=>true
  | _=>false
 | none=>false
def lenX (T:List (TypeId×TD)) (st:St) (x:Operand) (t:TypeId):Option AV:=match kab T t with
 | some d=>match d.kind,st.eval x with
  | .slice _,x=>match lenOf x with
   | some n=>some (.fz (.atom (.int .i64 n)))
   | none=>none
  | .str, .fz (.atom (.string s))=>some (.fz (.atom (.int .i64 s.size)))
  | _,_=>none
 | none=>none
def fldX (T:List (TypeId×TD)) (st:St) (s:TypeId) (x:Operand) (f:Nat):Option AV:=match kab T s with
 | some d=>match d.kind with
  | .st fs=>match fs[f]? with
   | some (ft,off)=>match kab T ft with
    | some df=>bif Nat.beq df.size 0 then none else ki5 st off (st.eval x)
    | none=>none
   | none=>none
  | _=>none
 | none=>none
def litX (T:List (TypeId×TD)) (st:St) (t:TypeId) (n:Nat) (parts:Array (Nat×Operand)):Option AV:=match kab T t with
 | some d=>match d.kind with
  | .slice e=>match kab T e with
   | some de=>match kii de.size 0 (kcp st parts) with
    | some xs=>bif Nat.beq xs.length n && (Nat.ble 1 de.size && Nat.ble (n*de.size) 16777216) then some (.lim de.size n xs) else none
    | none=>none
   | none=>none
  | _=>none
 | none=>none
def boxX (e:TypeId) (st:St) (cells:List AV):Res:=bif cells.all AV.single && !st.ids.contains (fresh st.ids) then some (.ref (fresh st.ids) 0 0,(fresh st.ids, .box e cells)::st.heap,fresh st.ids::st.ids) else none
def knq (T:List (TypeId×TD)) (st:St) (t:TypeId) (x y:Operand):Res:=match kab T t,st.eval x with
 | some d, .ref id n off=>match kaa st.heap id with
  | some (.box e cells)=>bif Nat.beq n 0 && (Nat.beq (st.eval y).cells.length d.size && ((st.eval y).cells.all AV.single && Nat.ble (off+(st.eval y).cells.length) cells.length)) then some (.any,(id, .box e (kb5 cells off (st.eval y).cells))::st.heap,st.ids) else none
  | _=>none
 | _,_=>none
def kp3 (T:List (TypeId×TD)) (o:Oper) (st:St):Option AV:=match o.op with
 | .move x=>some (st.eval x)
 | .assign x=>some (st.eval x)
 | .pick c x y=>match st.eval c with
  | .fz (.atom (.bool b))=>some (bif b then st.eval x else st.eval y)
  | _=>none
 | .binOp op t x y _=>match st.eval x,st.eval y with
  | .fz (.atom u), .fz (.atom v)=>match binV (kiw T t) op u v with
   | some r=>some (.fz (.atom r))
   | none=>none
  | _,_=>none
 | .unOp op _ x=>match st.eval x with
  | .fz (.atom u)=>match unV op u with
   | some r=>some (.fz (.atom r))
   | none=>none
  | _=>none
 | .load t x=>match kab T t,kh4 st (st.eval x) with
  | some d,some xs=>kht d xs
  | _,_=>none
 | .fieldAddr s x f=>fldX T st s x f
 | .extract x i=>match st.eval x with | .fz (.tup xs)=>(xs[i]?).map .fz | .tup xs=>xs[i]? | _=>none
 | .nilCheck x=>ki5 st 0 (st.eval x)
 | .build t parts=>kt9 T st t parts
 | .indexAddr t x y=>arrX T st t x y
 | .buildSlice t n parts=>litX T st t n parts
 | .call c=>match c.callee,c.args.toList,c.argTypes.toList with
  | .builtin .len,[x],[t]=>lenX T st x t
  | _,_,_=>none
 | .makeFunc (.func f) first cap=>bif first.isEmpty then some (.fn f (cap.toList.map st.eval)) else (bif cap.isEmpty then some (.mth f (first.toList.map st.eval)) else none)
 | _=>none
def kn1 (T:List (TypeId×TD)) (o:Oper) (st:St):Res:=match o.op with
 | .box e x=>boxX e st (st.eval x).cells
 | .alloc e=>match kab T e with
  | some d=>match kk0 d with
   | some cells=>boxX e st cells
   | none=>none
  | none=>none
 | .store t x y=>knq T st t x y
 | _=>nres st (kp3 T o st)
section
variable {P:Program} {w w':World} {S S':Nat->Prop} {ψ:Env} {T:List (TypeId×TD)} {o:Oper} {a:Act} {st:St}
theorem kz7 {c0:Option AV} {c:AV} {h:List (Nat×AObj)} {i:List Nat} (hr:nres st c0=some (c,h,i)) (hn:∀ x,c0=some x->NStep P o st x):kaq P o st c h i:=by
 cases c0 with
 | none=>cases hr
 | some x=>
  simp only [nres,qc,qm] at hr;obtain ⟨rfl,rfl,rfl⟩:=hr;exact (hn x rfl).step
theorem khz {α:Type} {xs:Array α} {x:α} (h:xs.toList=[x]):xs=#[x]:=by apply qbd;simpa using h
theorem ko9 (j:TOk P T) {c:AV} (a:kp3 T o st=some c:=by kernel_rfl):NStep P o st c:=by
 unfold kp3 at a;split at a;rename_i x g;injection a with a;subst a;exact kp6 (.inl g);rename_i x g;injection a with a;subst a;exact kp6 (.inr g)
 ·rename_i c x y g;split at a;rename_i b h;injection a with a;subst a;exact kzk g h
  ·cases a
 ·rename_i op t x y yt g;split at a
  ·rename_i u v w hv;split at a
   ·rename_i r hr;injection a with a;subst a;refine k3z (kiw T t) (fun h=>?_) g w hv hr;unfold kiw at h;split at h
    ·rename_i d k;split at h;rename_i hk;obtain ⟨_,e,h1,p⟩:=j.get k;rw [hk] at p;cases e <;> simp [kai] at p;exact h1
     ·cases h
    ·cases h
   ·cases a
  ·cases a
 ·rename_i op t x g;split at a
  ·rename_i u w;split at a;rename_i r hr;injection a with a;subst a;exact n_un g w hr
   ·cases a
  ·cases a
 ·rename_i t x g;split at a;rename_i d xs k l;exact k7x g (j.get k) l a
  ·cases a
 ·rename_i s x f g;unfold fldX at a;split at a
  ·rename_i d k;split at a
   ·rename_i fs hk;split at a
    ·rename_i ft off C;split at a
     ·rename_i df z;cases h:Nat.beq df.size 0 with
      | true=>rw [h] at a;cases a
      | false=>
       rw [h] at a;exact k4w g (j.get k) hk C (j.get z) (fun e=>by rw [e] at h;cases h) a
     ·cases a
    ·cases a
   ·cases a
  ·cases a
 rename_i x i g;exact kr3 g a;rename_i x g;exact kwt g a;rename_i t parts g;exact kvd j g a;rename_i t x y g;exact n_arr j g a
 ·rename_i t n parts g;unfold litX at a;split at a
  ·rename_i d k;split at a
   ·rename_i e hk;split at a
    ·rename_i de A;split at a
     ·rename_i xs l;cases h:(Nat.beq xs.length n && (Nat.ble 1 de.size && Nat.ble (n*de.size) 16777216)) with
      | false=>rw [h] at a;cases a
      | true=>
       rw [h] at a;simp only [qd,qc] at a;subst a;simp only [qp] at h;exact k3j g (j.get k) hk (j.get A) (qn h.2.1) (qh h.1) (qn h.2.2) l
     ·cases a
    ·cases a
   ·cases a
  ·cases a
 ·rename_i c g;split at a
  ·rename_i x t h1 p B;have q:o.op = .call { callee := .builtin .len,args:=#[x],argTypes:=#[t] }:=(by obtain ⟨cl,as_,ts⟩:=c;simp only at h1 p B;rw [g,h1,khz p,khz B]);unfold lenX at a;split at a
   ·rename_i d k;split at a
    ·rename_i e hk;split at a;rename_i n hn;injection a with a;subst a;exact kqy q (j.get k) hk hn
     ·cases a
    rename_i s hk hv;injection a with a;subst a;exact kr4 q (j.get k) hk hv
    ·cases a
   ·cases a
  ·cases a
 ·rename_i f first cap g
  cases h:first.isEmpty with
  | false=>
   rw [h] at a;cases m:cap.isEmpty with
   | false=>rw [m] at a;cases a
   | true=>
    rw [m] at a;have:cap=#[]:=(by simpa using m);subst this;simp only [qe,qd,qc] at a;subst a;exact k3f g
  | true=>
   rw [h] at a;have:first=#[]:=by simpa using h
   subst this;simp only [qd,qc] at a;subst a;exact k0h g
 ·cases a
theorem kt7 (g:TOk P T) {c:AV} {h:List (Nat×AObj)} {i:List Nat} (a:kn1 T o st=some (c,h,i)):kaq P o st c h i:=by
 unfold kn1 at a;split at a
 ·rename_i e x f;unfold boxX at a;cases b:((st.eval x).cells.all AV.single && !st.ids.contains (Go.Proofs.YtpnnpkmjohkgiaaGreatDoor.fresh st.ids)) with
  | false=>rw [b] at a;cases a
  | true=>
   rw [b] at a;simp only [qd,qc,qm] at a;obtain ⟨rfl,rfl,rfl⟩:=a;simp only [qp,Bool.not_eq_true'] at b;exact k3k f rfl b.1 b.2
 ·rename_i e f;split at a
  ·rename_i d j;split at a
   ·rename_i cells k;unfold boxX at a;cases b:(cells.all AV.single && !st.ids.contains (Go.Proofs.YtpnnpkmjohkgiaaGreatDoor.fresh st.ids)) with
    | false=>rw [b] at a;cases a
    | true=>
     rw [b] at a;simp only [qd,qc,qm] at a;obtain ⟨rfl,rfl,rfl⟩:=a;simp only [qp,Bool.not_eq_true'] at b;exact kq6 f (g.get j) k b.2
   ·cases a
  ·cases a
 ·rename_i t x y f;unfold knq at a;split at a
  ·rename_i d id n off j l;split at a
   ·rename_i e cells m;cases b:(Nat.beq n 0 && (Nat.beq (st.eval y).cells.length d.size && ((st.eval y).cells.all AV.single && Nat.ble (off+(st.eval y).cells.length) cells.length))) with
    | false=>rw [b] at a;cases a
    | true=>
     rw [b] at a;simp only [qd,qc,qm] at a;obtain ⟨rfl,rfl,rfl⟩:=a;simp only [qp] at b;obtain ⟨b1,b2,b3,b4⟩:=b;obtain rfl:=qh b1;exact kve f (g.get j) l m rfl (qh b2) b3 (qn b4)
   ·cases a
  ·cases a
 ·exact kz7 a fun z k=>ko9 g k
def kny (st:St) (o:Oper):Bool:=match o.dst with
 | some t=>Nat.blt t st.n
 | none=>true
theorem klv {st:St} {o:Oper} (h:kny st o=true):∀ t,o.dst=some t->t<st.n:=fun t ht=>by unfold kny at h;rw [ht] at h;exact of_decide_eq_true (by simpa [qbf] using h)
end
end Go.Proofs.YtpnnpkmjohkgiaaGreatDoor
