import Derived.Test.YtaimpcnpifoidaaGreatDoorOpx
set_option linter.unusedVariables false
set_option linter.unusedSimpArgs false
namespace Go.Proofs.YtaimpcnpifoidaaGreatDoor
open Go Go.RowKit
abbrev Res:=Option (AV×List (Nat×AObj)×List Nat)
def fresh (l:List Nat):Nat:=l.foldl Nat.max 0+1
def nres (st:St) (c:Option AV):Res:=match c with
 | some c=>some (c,st.heap,st.ids)
 | none=>none
def k0g (T:List (TypeId×TD)) (t:TypeId):Bool:=match ka3 T t with
 | some d=>match d.kind with
  | .bool=>true
  | _=>false
 | none=>false
def lenX (T:List (TypeId×TD)) (st:St) (x:Operand) (t:TypeId):Option AV:=match ka3 T t with
 | some d=>match d.kind,st.eval x with
  | .slice _,x=>match lenOf x with
   | some n=>some (.fz (.atom (.int .i64 n)))
   | none=>none
  | .str, .fz (.atom (.string s))=>some (.fz (.atom (.int .i64 s.size)))
  | _,_=>none
 | none=>none
def fldX (T:List (TypeId×TD)) (st:St) (s:TypeId) (x:Operand) (f:Nat):Option AV:=match ka3 T s with
 | some d=>match d.kind with
  | .st fs=>match fs[f]? with
   | some (ft,off)=>match ka3 T ft with
    | some df=>bif Nat.beq df.size 0 then none else kng st off (st.eval x)
    | none=>none
   | none=>none
  | _=>none
 | none=>none
def litX (T:List (TypeId×TD)) (st:St) (t:TypeId) (n:Nat) (parts:Array (Nat×Operand)):Option AV:=match ka3 T t with
 | some d=>match d.kind with
  | .slice e=>match ka3 T e with
   | some de=>match kpi de.size 0 (ke9 st parts) with
    | some xs=>bif Nat.beq xs.length n && (Nat.ble 1 de.size && Nat.ble (n*de.size) 16777216) then some (.lim de.size n xs) else none
    | none=>none
   | none=>none
  | _=>none
 | none=>none
def boxX (e:TypeId) (st:St) (cells:List AV):Res:=bif cells.all AV.single && !st.ids.contains (fresh st.ids) then some (.ref (fresh st.ids) 0 0,(fresh st.ids, .box e cells)::st.heap,fresh st.ids::st.ids) else none
def kvx (T:List (TypeId×TD)) (st:St) (t:TypeId) (x y:Operand):Res:=match ka3 T t,st.eval x with
 | some d, .ref id n off=>match kab st.heap id with
  | some (.box e cells)=>bif Nat.beq n 0 && (Nat.beq (st.eval y).cells.length d.size && ((st.eval y).cells.all AV.single && Nat.ble (off+(st.eval y).cells.length) cells.length)) then some (.any,(id, .box e (kig cells off (st.eval y).cells))::st.heap,st.ids) else none
  | _=>none
 | _,_=>none
def ky5 (T:List (TypeId×TD)) (o:Oper) (st:St):Option AV:=match o.op with
 | .move x=>some (st.eval x)
 | .assign x=>some (st.eval x)
 | .pick c x y=>match st.eval c with
  | .fz (.atom (.bool b))=>some (bif b then st.eval x else st.eval y)
  | _=>none
 | .binOp op t x y _=>match st.eval x,st.eval y with
  | .fz (.atom u), .fz (.atom v)=>match binV (k0g T t) op u v with
   | some r=>some (.fz (.atom r))
   | none=>none
  | _,_=>none
 | .unOp op _ x=>match st.eval x with
  | .fz (.atom u)=>match unV op u with
   | some r=>some (.fz (.atom r))
   | none=>none
  | _=>none
 | .load t x=>match ka3 T t,kl8 st (st.eval x) with
  | some d,some xs=>kr5 d xs
  | _,_=>none
 | .fieldAddr s x f=>fldX T st s x f
 | .extract x i=>match st.eval x with | .fz (.tup xs)=>(xs[i]?).map .fz | .tup xs=>xs[i]? | _=>none
 | .nilCheck x=>kng st 0 (st.eval x)
 | .build t parts=>k5e T st t parts
 | .indexAddr t x y=>arrX T st t x y
 | .buildSlice t n parts=>litX T st t n parts
 | .call c=>match c.callee,c.args.toList,c.argTypes.toList with
  | .builtin .len,[x],[t]=>lenX T st x t
  | _,_,_=>none
 | .makeFunc (.func f) first cap=>bif first.isEmpty then some (.fn f (cap.toList.map st.eval)) else (bif cap.isEmpty then some (.mth f (first.toList.map st.eval)) else none)
 | _=>none
def kw7 (T:List (TypeId×TD)) (o:Oper) (st:St):Res:=match o.op with
 | .box e x=>boxX e st (st.eval x).cells
 | .alloc e=>match ka3 T e with
  | some d=>match zeroA d with
   | some cells=>boxX e st cells
   | none=>none
  | none=>none
 | .store t x y=>kvx T st t x y
 | _=>nres st (ky5 T o st)
section
variable {P:Program} {w w':World} {S S':Nat→Prop} {ψ:Env} {T:List (TypeId×TD)} {o:Oper} {a:Act} {st:St}
theorem kabk {c0:Option AV} {c:AV} {h:List (Nat×AObj)} {i:List Nat} (hr:nres st c0=some (c,h,i)) (hn:∀ x,c0=some x→NStep P o st x):kdf P o st c h i:=by
 cases c0 with
 | none=>cases hr
 | some x=>
  simp only [nres,qh,qad] at hr
  obtain ⟨rfl,rfl,rfl⟩:=hr
  exact (hn x rfl).step
theorem k1i {α:Type} {xs:Array α} {x:α} (h:xs.toList=[x]):xs=#[x]:=by
 apply Array.ext'; simpa using h
theorem kyb (hT:TOk P T) {c:AV} (hx:ky5 T o st=some c:=by kernel_rfl):NStep P o st c:=by
 unfold ky5 at hx
 split at hx
 ·rename_i x ho;injection hx with hx;subst hx;exact kacn (.inl ho)
 ·rename_i x ho;injection hx with hx;subst hx;exact kacn (.inr ho)
 ·rename_i c x y ho
  split at hx
  ·rename_i b hb
   injection hx with hx;subst hx;exact kak0 ho hb
  ·cases hx
 ·rename_i op t x y yt ho
  split at hx
  ·rename_i u v hu hv
   split at hx
   ·rename_i r hr
    injection hx with hx
    subst hx
    refine n_bin (k0g T t) (fun hb=>?_) ho hu hv hr
    unfold k0g at hb
    split at hb
    ·rename_i d hd
     split at hb
     ·rename_i hk
      obtain ⟨_,e,h1,h2⟩:=hT.get hd
      rw [hk] at h2
      cases e <;> simp [kap] at h2
      exact h1
     ·cases hb
    ·cases hb
   ·cases hx
  ·cases hx
 ·rename_i op t x ho
  split at hx
  ·rename_i u hu
   split at hx
   ·rename_i r hr
    injection hx with hx;subst hx;exact n_un ho hu hr
   ·cases hx
  ·cases hx
 ·rename_i t x ho
  split at hx
  ·rename_i d xs hd hxs
   exact kaav ho (hT.get hd) hxs hx
  ·cases hx
 ·rename_i s x f ho
  unfold fldX at hx
  split at hx
  ·rename_i d hd
   split at hx
   ·rename_i fs hk
    split at hx
    ·rename_i ft off hf
     split at hx
     ·rename_i df hdf
      cases hb:Nat.beq df.size 0 with
      | true=>rw [hb] at hx;cases hx
      | false=>
       rw [hb] at hx
       exact kaiw ho (hT.get hd) hk hf (hT.get hdf) (fun e=>by rw [e] at hb;cases hb) hx
     ·cases hx
    ·cases hx
   ·cases hx
  ·cases hx
 ·rename_i x i ho
  exact kacx ho hx
 ·rename_i x ho
  exact k70 ho hx
 ·rename_i t parts ho
  exact kaiz hT ho hx
 ·rename_i t x y ho
  exact kagj hT ho hx
 ·rename_i t n parts ho
  unfold litX at hx
  split at hx
  ·rename_i d hd
   split at hx
   ·rename_i e hk
    split at hx
    ·rename_i de hde
     split at hx
     ·rename_i xs hxs
      cases hb:(Nat.beq xs.length n && (Nat.ble 1 de.size && Nat.ble (n*de.size) 16777216)) with
      | false=>rw [hb] at hx;cases hx
      | true=>
       rw [hb] at hx
       simp only [qd,qh] at hx
       subst hx
       simp only [qu] at hb
       exact n_lit ho (hT.get hd) hk (hT.get hde) (qac hb.2.1) (qr hb.1) (qac hb.2.2) hxs
     ·cases hx
    ·cases hx
   ·cases hx
  ·cases hx
 ·rename_i c ho
  split at hx
  ·rename_i x t h1 h2 h3
   have ho':o.op = .call { callee := .builtin .len,args:=#[x],argTypes:=#[t] }:=by
    obtain ⟨cl,as_,ts⟩:=c
    simp only at h1 h2 h3
    rw [ho,h1,k1i h2,k1i h3]
   unfold lenX at hx
   split at hx
   ·rename_i d hd
    split at hx
    ·rename_i e hk
     split at hx
     ·rename_i n hn
      injection hx with hx;subst hx
      exact k9z ho' (hT.get hd) hk hn
     ·cases hx
    ·rename_i s hk hv
     injection hx with hx;subst hx
     exact kabo ho' (hT.get hd) hk hv
    ·cases hx
   ·cases hx
  ·cases hx
 ·rename_i f first cap ho
  cases hb:first.isEmpty with
  | false=>
   rw [hb] at hx
   cases hb2:cap.isEmpty with
   | false=>rw [hb2] at hx;cases hx
   | true=>
    rw [hb2] at hx
    have:cap=#[]:=by simpa using hb2
    subst this
    simp only [qb,qd,qh] at hx
    subst hx;exact n_mth ho
  | true=>
   rw [hb] at hx
   have:first=#[]:=by simpa using hb
   subst this
   simp only [qd,qh] at hx
   subst hx;exact kak3 ho
 ·cases hx
theorem k3j (hT:TOk P T) {c:AV} {h:List (Nat×AObj)} {i:List Nat} (hx:kw7 T o st=some (c,h,i)):kdf P o st c h i:=by
 unfold kw7 at hx
 split at hx
 ·rename_i e x ho
  unfold boxX at hx
  cases hb:((st.eval x).cells.all AV.single && !st.ids.contains (Go.Proofs.YtaimpcnpifoidaaGreatDoor.fresh st.ids)) with
  | false=>rw [hb] at hx;cases hx
  | true=>
   rw [hb] at hx
   simp only [qd,qh,qad] at hx
   obtain ⟨rfl,rfl,rfl⟩:=hx
   simp only [qu,Bool.not_eq_true'] at hb
   exact e_box ho rfl hb.1 hb.2
 ·rename_i e ho
  split at hx
  ·rename_i d hd
   split at hx
   ·rename_i cells hz
    unfold boxX at hx
    cases hb:(cells.all AV.single && !st.ids.contains (Go.Proofs.YtaimpcnpifoidaaGreatDoor.fresh st.ids)) with
    | false=>rw [hb] at hx;cases hx
    | true=>
     rw [hb] at hx
     simp only [qd,qh,qad] at hx
     obtain ⟨rfl,rfl,rfl⟩:=hx
     simp only [qu,Bool.not_eq_true'] at hb
     exact k7f ho (hT.get hd) hz hb.2
   ·cases hx
  ·cases hx
 ·rename_i t x y ho
  unfold kvx at hx
  split at hx
  ·rename_i d id n off hd hxx
   split at hx
   ·rename_i e cells hob
    cases hb:(Nat.beq n 0 && (Nat.beq (st.eval y).cells.length d.size && ((st.eval y).cells.all AV.single && Nat.ble (off+(st.eval y).cells.length) cells.length))) with
    | false=>rw [hb] at hx;cases hx
    | true=>
     rw [hb] at hx
     simp only [qd,qh,qad] at hx
     obtain ⟨rfl,rfl,rfl⟩:=hx
     simp only [qu] at hb
     obtain ⟨b1,b2,b3,b4⟩:=hb
     obtain rfl:=qr b1
     exact k6k ho (hT.get hd) hxx hob rfl (qr b2) b3 (qac b4)
   ·cases hx
  ·cases hx
 ·exact kabk hx fun z hz=>kyb hT hz
def kuq (st:St) (o:Oper):Bool:=match o.dst with
 | some t=>Nat.blt t st.n
 | none=>true
theorem krb {st:St} {o:Oper} (h:kuq st o=true):∀ t,o.dst=some t→t<st.n:=fun t ht=>by
 unfold kuq at h
 rw [ht] at h
 exact q9 (by simpa [Nat.blt_eq] using h)
end
end Go.Proofs.YtaimpcnpifoidaaGreatDoor
