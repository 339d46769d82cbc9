import Derived.Test.YtpcfkflhnkfjjaaGreatOpx
set_option linter.all false
namespace Go.Proofs.YtpcfkflhnkfjjaaGreat
open Go Go.RowKit
abbrev Res:=Option (AV×List (Nat×AObj)×List Nat)
def fresh (l:List Nat):Nat:=l.foldl Nat.max 0+1
def nres (st:St) (c:Option AV):Res:=match c with
 | some c=>some (c,st.heap,st.ids)
 | none=>none
def kwo (T:List (TypeId×TD)) (t:TypeId):Bool:=match kak T t with
 | some d=>match d.kind with
  | .bool=>true
  | _=>false
 | none=>false
def lenX (T:List (TypeId×TD)) (st:St) (x:Operand) (t:TypeId):Option AV:=match kak T t with
 | some d=>match d.kind,st.eval x with
  | .slice _,x=>match lenOf x with
   | some n=>some (.fz (.atom (.int .i64 n)))
   | none=>none
  | .str, .fz (.atom (.string s))=>some (.fz (.atom (.int .i64 s.size)))
  | _,_=>none
 | none=>none
def fldX (T:List (TypeId×TD)) (st:St) (s:TypeId) (x:Operand) (f:Nat):Option AV:=match kak T s with
 | some d=>match d.kind with
  | .st fs=>match fs[f]? with
   | some (ft,off)=>match kak T ft with
    | some df=>bif Nat.beq df.size 0 then none else kme st off (st.eval x)
    | none=>none
   | none=>none
  | _=>none
 | none=>none
def litX (T:List (TypeId×TD)) (st:St) (t:TypeId) (n:Nat) (parts:Array (Nat×Operand)):Option AV:=match kak T t with
 | some d=>match d.kind with
  | .slice e=>match kak T e with
   | some de=>match kms de.size 0 (kd2 st parts) with
    | some xs=>bif Nat.beq xs.length n && (Nat.ble 1 de.size && Nat.ble (n*de.size) 16777216) then some (.lim de.size n xs) else none
    | none=>none
   | none=>none
  | _=>none
 | none=>none
def boxX (e:TypeId) (st:St) (cells:List AV):Res:=bif cells.all AV.single && !st.ids.contains (fresh st.ids) then some (.ref (fresh st.ids) 0 0,(fresh st.ids, .box e cells)::st.heap,fresh st.ids::st.ids) else none
def ksg (T:List (TypeId×TD)) (st:St) (t:TypeId) (x y:Operand):Res:=match kak T t,st.eval x with
 | some d, .ref id n off=>match kae st.heap id with
  | some (.box e cells)=>bif Nat.beq n 0 && (Nat.beq (st.eval y).cells.length d.size && ((st.eval y).cells.all AV.single && Nat.ble (off+(st.eval y).cells.length) cells.length)) then some (.any,(id, .box e (kg4 cells off (st.eval y).cells))::st.heap,st.ids) else none
  | _=>none
 | _,_=>none
def ku3 (T:List (TypeId×TD)) (o:Oper) (st:St):Option AV:=match o.op with
 | .move x=>some (st.eval x)
 | .assign x=>some (st.eval x)
 | .pick c x y=>match st.eval c with
  | .fz (.atom (.bool b))=>some (bif b then st.eval x else st.eval y)
  | _=>none
 | .binOp op t x y _=>match st.eval x,st.eval y with
  | .fz (.atom u), .fz (.atom v)=>match binV (kwo T t) op u v with
   | some r=>some (.fz (.atom r))
   | none=>none
  | _,_=>none
 | .unOp op _ x=>match st.eval x with
  | .fz (.atom u)=>match unV op u with
   | some r=>some (.fz (.atom r))
   | none=>none
  | _=>none
 | .load t x=>match kak T t,kkr st (st.eval x) with
  | some d,some xs=>kqw d xs
  | _,_=>none
 | .fieldAddr s x f=>fldX T st s x f
 | .extract x i=>match st.eval x with | .fz (.tup xs)=>(xs[i]?).map .fz | .tup xs=>xs[i]? | _=>none
 | .nilCheck x=>kme st 0 (st.eval x)
 | .build t parts=>ky9 T st t parts
 | .indexAddr t x y=>arrX T st t x y
 | .buildSlice t n parts=>litX T st t n parts
 | .call c=>match c.callee,c.args.toList,c.argTypes.toList with
  | .builtin .len,[x],[t]=>lenX T st x t
  | _,_,_=>none
 | .makeFunc (.func f) first cap=>bif first.isEmpty then some (.fn f (cap.toList.map st.eval)) else (bif cap.isEmpty then some (.mth f (first.toList.map st.eval)) else none)
 | _=>none
def kss (T:List (TypeId×TD)) (o:Oper) (st:St):Res:=match o.op with
 | .box e x=>boxX e st (st.eval x).cells
 | .alloc e=>match kak T e with
  | some d=>match ksl d with
   | some cells=>boxX e st cells
   | none=>none
  | none=>none
 | .store t x y=>ksg T st t x y
 | _=>nres st (ku3 T o st)
section
variable {P:Program} {w w':World} {S S':Nat->Prop} {ψ:Env} {T:List (TypeId×TD)} {o:Oper} {a:Act} {st:St}
theorem k41 {c0:Option AV} {c:AV} {h:List (Nat×AObj)} {i:List Nat} (hr:nres st c0=some (c,h,i)) (hn:∀ x,c0=some x->NStep P o st x):StepA P o st c h i:=by
 cases c0 with
 | none=>cases hr
 | some x=>
  simp only [nres,ql,qad] at hr;obtain ⟨rfl,rfl,rfl⟩:=hr;exact (hn x rfl).step
theorem kw0 {α:Type} {xs:Array α} {x:α} (h:xs.toList=[x]):xs=#[x]:=by apply Array.ext'; simpa using h
theorem kjd (h:TOk P T) {c:AV} (a:ku3 T o st=some c:=by kernel_rfl):NStep P o st c:=by
 unfold ku3 at a;split at a;rename_i x ho;injection a with a;subst a;exact k31 (.inl ho);rename_i x ho;injection a with a;subst a;exact k31 (.inr ho)
 ·rename_i c x y ho;split at a;rename_i b g;injection a with a;subst a;exact kaa6 ho g
  ·cases a
 ·rename_i op t x y yt ho;split at a
  ·rename_i u v q hv;split at a
   ·rename_i r hr;injection a with a;subst a;refine k79 (kwo T t) (fun g=>?_) ho q hv hr;unfold kwo at g;split at g
    ·rename_i d j;split at g;rename_i hk;obtain ⟨_,e,h1,m⟩:=h.get j;rw [hk] at m;cases e <;> simp [kau] at m;exact h1
     ·cases g
    ·cases g
   ·cases a
  ·cases a
 ·rename_i op t x ho;split at a
  ·rename_i u q;split at a;rename_i r hr;injection a with a;subst a;exact n_un ho q hr
   ·cases a
  ·cases a
 ·rename_i t x ho;split at a;rename_i d xs j k;exact kaa8 ho (h.get j) k a
  ·cases a
 ·rename_i s x f ho;unfold fldX at a;split at a
  ·rename_i d j;split at a
   ·rename_i fs hk;split at a
    ·rename_i ft off hf;split at a
     ·rename_i df w;cases g:Nat.beq df.size 0 with
      | true=>rw [g] at a;cases a
      | false=>
       rw [g] at a;exact k86 ho (h.get j) hk hf (h.get w) (fun e=>by rw [e] at g;cases g) a
     ·cases a
    ·cases a
   ·cases a
  ·cases a
 rename_i x i ho;exact k3q ho a;rename_i x ho;exact k13 ho a;rename_i t parts ho;exact k8p h ho a;rename_i t x y ho;exact n_arr h ho a
 ·rename_i t n parts ho;unfold litX at a;split at a
  ·rename_i d j;split at a
   ·rename_i e hk;split at a
    ·rename_i de z;split at a
     ·rename_i xs k;cases g:(Nat.beq xs.length n && (Nat.ble 1 de.size && Nat.ble (n*de.size) 16777216)) with
      | false=>rw [g] at a;cases a
      | true=>
       rw [g] at a;simp only [qf,ql] at a;subst a;simp only [qy] at g;exact n_lit ho (h.get j) hk (h.get z) (qal g.2.1) (qv g.1) (qal g.2.2) k
     ·cases a
    ·cases a
   ·cases a
  ·cases a
 ·rename_i c ho;split at a
  ·rename_i x t h1 m A;have p:o.op = .call { callee := .builtin .len,args:=#[x],argTypes:=#[t] }:=(by obtain ⟨cl,as_,ts⟩:=c;simp only at h1 m A;rw [ho,h1,kw0 m,kw0 A]);unfold lenX at a;split at a
   ·rename_i d j;split at a
    ·rename_i e hk;split at a;rename_i n hn;injection a with a;subst a;exact k20 p (h.get j) hk hn
     ·cases a
    rename_i s hk hv;injection a with a;subst a;exact k32 p (h.get j) hk hv
    ·cases a
   ·cases a
  ·cases a
 ·rename_i f first cap ho;cases g:first.isEmpty with
  | false=>
   rw [g] at a;cases l:cap.isEmpty with
   | false=>rw [l] at a;cases a
   | true=>
    rw [l] at a;have:cap=#[]:=(by simpa using l);subst this;simp only [qc,qf,ql] at a;subst a;exact n_mth ho
  | true=>
   rw [g] at a;have:first=#[]:=(by simpa using g);subst this;simp only [qf,ql] at a;subst a;exact kabl ho
 ·cases a
theorem ky6 (f:TOk P T) {c:AV} {h:List (Nat×AObj)} {i:List Nat} (a:kss T o st=some (c,h,i)):StepA P o st c h i:=by
 unfold kss at a;split at a
 ·rename_i e x ho;unfold boxX at a;cases b:((st.eval x).cells.all AV.single && !st.ids.contains (Go.Proofs.YtpcfkflhnkfjjaaGreat.fresh st.ids)) with
  | false=>rw [b] at a;cases a
  | true=>
   rw [b] at a;simp only [qf,ql,qad] at a;obtain ⟨rfl,rfl,rfl⟩:=a;simp only [qy,Bool.not_eq_true'] at b;exact e_box ho rfl b.1 b.2
 ·rename_i e ho;split at a
  ·rename_i d g;split at a
   ·rename_i cells j;unfold boxX at a;cases b:(cells.all AV.single && !st.ids.contains (Go.Proofs.YtpcfkflhnkfjjaaGreat.fresh st.ids)) with
    | false=>rw [b] at a;cases a
    | true=>
     rw [b] at a;simp only [qf,ql,qad] at a;obtain ⟨rfl,rfl,rfl⟩:=a;simp only [qy,Bool.not_eq_true'] at b;exact k0w ho (f.get g) j b.2
   ·cases a
  ·cases a
 ·rename_i t x y ho;unfold ksg at a;split at a
  ·rename_i d id n off g k;split at a
   ·rename_i e cells l;cases b:(Nat.beq n 0 && (Nat.beq (st.eval y).cells.length d.size && ((st.eval y).cells.all AV.single && Nat.ble (off+(st.eval y).cells.length) cells.length))) with
    | false=>rw [b] at a;cases a
    | true=>
     rw [b] at a;simp only [qf,ql,qad] at a;obtain ⟨rfl,rfl,rfl⟩:=a;simp only [qy] at b;obtain ⟨b1,b2,b3,b4⟩:=b;obtain rfl:=qv b1;exact k0p ho (f.get g) k l rfl (qv b2) b3 (qal b4)
   ·cases a
  ·cases a
 ·exact k41 a fun z j=>kjd f j
def ksn (st:St) (o:Oper):Bool:=match o.dst with
 | some t=>Nat.blt t st.n
 | none=>true
theorem knp {st:St} {o:Oper} (h:ksn st o=true):∀ t,o.dst=some t->t<st.n:=fun t ht=>by unfold ksn at h;rw [ht] at h;exact of_decide_eq_true (by simpa [Nat.blt_eq] using h)
end
end Go.Proofs.YtpcfkflhnkfjjaaGreat
