import Derived.Test.YtpnnpkmjohkgiaaGreatDoorXe
set_option linter.all false
namespace Go.Proofs.YtpnnpkmjohkgiaaGreatDoor
open Go Go.RowKit
def idsN:Nat->List Nat
  | 0=>[]
  | k+1=>k::idsN k
structure XS where
  n:Nat
  tmps:List (Nat×AV)
  heap:List (Nat×AObj)
  k:Nat
  lg:List Nat
def XS.st (s:XS) (D:List Deferred):St:=⟨s.n,s.tmps,s.heap,idsN s.k,D⟩
noncomputable def getQ (l:List (Nat×AV)) (t:Nat):AV:=List.rec (motive:=fun _=>AV) .any (fun p _ ih=>Bool.rec ih p.2 (Nat.beq p.1 t)) l
noncomputable def getO (l:List (Nat×AObj)) (t:Nat):Option AObj:=List.rec (motive:=fun _=>Option AObj) none (fun p _ ih=>Bool.rec ih (some p.2) (Nat.beq p.1 t)) l
noncomputable def kfi (l:List (Nat×AV)) (t:Nat) (v:AV):List (Nat×AV):=List.rec (motive:=fun _=>List (Nat×AV)) [(t,v)] (fun p l ih=>Bool.rec (p::ih) ((t,v)::l) (Nat.beq p.1 t)) l
noncomputable def kkn (l:List (Nat×AObj)) (t:Nat) (v:AObj):List (Nat×AObj):=List.rec (motive:=fun _=>List (Nat×AObj)) [(t,v)] (fun p l ih=>Bool.rec (p::ih) ((t,v)::l) (Nat.beq p.1 t)) l
noncomputable def XS.E (s:XS) (x:Operand):AV:=match x with
  | .tmp t=>getQ s.tmps t
  | .const v=>ko3 v
  | .global _ => .any
  | .func f => .fn f []
noncomputable def XS.H (s:XS):Nat->Option AObj:=getO s.heap
noncomputable def XS.put (s:XS) (d:Option Nat) (v:AV):XS:=match d with
  | some t=>{ s with tmps:=kfi s.tmps t v }
  | none=>s
noncomputable def XS.app (s:XS):Dl->XS
  | .no=>s
  | .new ob=>{ s with heap:=(s.k,ob)::s.heap,k:=s.k+1,lg:=s.k::s.lg }
  | .upd i ob=>{ s with heap:=kkn s.heap i ob,lg:=i::s.lg }
def kod:Value->Value->Bool
  | .int k m, .int k' n=>decide (k=k') && m == n
  | .string s, .string u=>s.toList == u.toList
  | .bool a, .bool b=>a == b
  | .slice none 0 0, .slice none 0 0=>true
  | .pointer none, .pointer none=>true
  | .map none, .map none=>true
  | .nilFunc, .nilFunc=>true
  | .nilIface, .nilIface=>true
  | _,_=>false
mutual
def eqFV:FV->FV->Bool
  | .atom v, .atom u=>kod v u
  | .agg a, .agg b=>kfe a b
  | .tup a, .tup b=>kfe a b
  | .lst s n a, .lst s' n' b=>Nat.beq s s' && (Nat.beq n n' && kfe a b)
  | .fp a, .fp b=>kfe a b
  | .bx a, .bx b=>kfe a b
  | _,_=>false
def kfe:List FV->List FV->Bool
  | [],[]=>true
  | a::l,b::m=>eqFV a b && kfe l m
  | _,_=>false
end
def mkEl (sz:Nat) (xs:List FV):Option FV:=bif Nat.beq xs.length sz then (match xs with
  | [x]=>some x
  | xs=>some (.agg xs)) else none
def khc (sz:Nat):Nat->List FV->Option (List FV)
  | 0,l=>match l with
    | []=>some []
    | _=>none
  | n+1,l=>match mkEl sz (l.take sz),khc sz n (l.drop sz) with
    | some y,some r=>some (y::r)
    | _,_=>none
def atF:FV->Bool
  | .atom _=>true
  | .agg xs=>xs.all fun | .atom _=>true | _=>false
  | .tup xs=>xs.all fun | .atom _=>true | _=>false
  | _=>false
mutual
def frz (H:Nat->Option AObj) (fr:Bool):Nat->AV->Option FV
  | 0,_=>none
  | _+1, .fz x=>bif !fr || atF x then some x else none
  | _+1, .lim s n xs=>bif fr then none else some (.lst s n xs)
  | f+1, .agg cs=>match frzs H fr f cs with
    | some xs=>some (.agg xs)
    | none=>none
  | f+1, .tup cs=>match frzs H fr f cs with
    | some xs=>some (.tup xs)
    | none=>none
  | f+1, .bsl id g off len _=>match H id with
    | some (.xo (.blk g' _ sz cells))=>bif Nat.beq g g' then (match frzs H fr f ((cells.drop off).take (len*sz)) with
      | some xs=>match khc sz len xs with
        | some ys=>some (.lst sz len ys)
        | none=>none
      | none=>none) else none
    | _=>none
  | _+1,_=>none
def frzs (H:Nat->Option AObj) (fr:Bool):Nat->List AV->Option (List FV)
  | 0,_=>none
  | _+1,[]=>some []
  | f+1,x::l=>match frz H fr f x,frzs H fr f l with
    | some y,some r=>some (y::r)
    | _,_=>none
end
def resE (T:List (TypeId×TD)) (E:Operand->AV) (H:Nat->Option AObj):ResultVar->Option AV
  | .tmp t=>some (E (.tmp t))
  | .cell x t=>match kad T t,kmc H (E (.tmp x)) with
    | some d,some xs=>kfj d xs
    | _,_=>none
def kkp (T:List (TypeId×TD)) (E:Operand->AV) (H:Nat->Option AObj):List ResultVar->Option (List AV)
  | []=>some []
  | r::rs=>match resE T E H r,kkp T E H rs with
    | some y,some ys=>some (y::ys)
    | _,_=>none
def retE (T:List (TypeId×TD)) (E:Operand->AV) (H:Nat->Option AObj) (rs:List ResultVar):Option AV:=match kkp T E H rs with
  | some [y]=>some y
  | some ys=>some (tupA ys)
  | none=>none
inductive FT where
  | lf
  | nd (k:Nat) (v:Func) (l r:FT)
noncomputable def FT.get (t:FT) (f:Nat):Option Func:=FT.rec (motive:=fun _=>Option Func) none (fun k v _ _ il ir=>Bool.rec (Bool.rec ir il (Nat.blt f k)) (some v) (Nat.beq k f)) t
structure Cx where
  T:List (TypeId×TD)
  Z:List (TypeId×Value)
  fn:FT
  mu:List Nat
  pu:List Nat
  fx:List (Nat×List FV×FV)
  ib:List Nat
  nf:List Nat
def kls:List (Nat×List FV×FV)->Nat->List FV->Option FV
  | [],_,_=>none
  | (f,as_,r)::l,g,xs=>bif Nat.beq f g && kfe as_ xs then some r else kls l g xs
def kfr (E:Operand->AV) (f:Operand):Option (Nat×List AV×List AV):=match E f with
  | .fn f caps=>some (f,[],caps)
  | .mth f fst=>some (f,fst,[])
  | _=>none
abbrev EvT:=Bool->Code->XS->Option (Exit×XS)
def khq (c:UInt8):List UInt8->Nat->Int
  | [],_ => -1
  | x::l,i=>bif Nat.beq x.toNat c.toNat then (i:Int) else khq c l (i+1)
def koa:Code->Option (Code×Nat×Oper×Oper×Nat×Code)
  | .seq x (.seq (.region rid os false) c)=>match os.toList with
    | [o1,o2]=>match o1.dst,o1.guard,o2.op,o2.dst,o2.guard with
      | some t,none, .defer cl,none,none=>match cl.callee,cl.args.toList with
        | .value (.tmp t'),[]=>bif Nat.beq t t' then some (x,rid,o1,o2,t,c) else none
        | _,_=>none
      | _,_,_,_,_=>none
    | _=>none
  | _=>none
def kof:Exit->Bool
  | .ret=>true
  | .normal=>true
  | _=>false
def nilA:AV := .fz (.atom .nilIface)
noncomputable def kri (C:Cx) (ih:EvT) (f:Nat) (fn:Func) (x:Code) (o1:Oper) (t:Nat) (c1:Code) (s0:XS):Option (AV×XS):=match ih (C.mu.contains f) x s0 with
  | some (.normal,s1)=>match nE C.T C.Z s1.E s1.H o1 with
    | some (.fn f2 caps)=>match C.fn.get f2 with
      | some fn2=>match kkg fn2 with
        | some (ta,tb,c2)=>match ih (C.mu.contains f) c1 (s1.put (some t) (.fn f2 caps)) with
          | some (e,s2)=>match (bif kof e && Nat.ble caps.length fn2.ntmps then ih (C.mu.contains f2) c2 ⟨fn2.ntmps,kfi (kfi (argT 0 caps) ta nilA) tb nilA,s2.heap,s2.k,s2.lg⟩ else none) with
            | some (e2,s3)=>match (bif kof e2 then retE C.T s2.E s3.H fn.results.toList else none) with
              | some y=>some (y,⟨s2.n,s2.tmps,s3.heap,s3.k,s3.lg⟩)
              | none=>none
            | none=>none
          | none=>none
        | none=>none
      | none=>none
    | _=>none
  | _=>none
noncomputable def kkm (C:Cx) (ih:EvT) (f:Nat) (args:List AV) (heap:List (Nat×AObj)) (k:Nat) (lg:List Nat):Option (AV×XS):=match C.fn.get f with
  | some fn=>match fn.body with
    | some c=>match koa c with
      | some (x,_,o1,_,t,c1)=>bif Nat.ble args.length fn.ntmps && Nat.blt t fn.ntmps then kri C ih f fn x o1 t c1 ⟨fn.ntmps,argT 0 args,heap,k,lg⟩ else none
      | none=>match (bif Nat.ble args.length fn.ntmps then ih (C.mu.contains f) c ⟨fn.ntmps,argT 0 args,heap,k,lg⟩ else none) with
      | some (e,s1)=>match e,retE C.T s1.E s1.H fn.results.toList with
        | .ret,some y=>some (y,s1)
        | .normal,some y=>some (y,s1)
        | _,_=>none
      | none=>none
    | none=>none
  | none=>none
noncomputable def kn8 (C:Cx) (ih:EvT) (f:Nat) (xs:List FV):Option FV:=match kls C.fx f xs with
  | some r=>some r
  | none=>bif C.pu.contains f then (match kkm C ih f (xs.map .fz) [] 0 [] with
    | some (y,s1)=>frz s1.H false 1000 y
    | none=>none) else none
noncomputable def kn3 (C:Cx) (ih:EvT) (H:Nat->Option AObj) (f:Nat) (args:List AV):Option FV:=match kfz args with
  | some xs=>(match C.ib.contains f,xs with
    | true,[.atom (.string u), .atom (.int .u8 c)]=>some (FV.atom (.int .i64 (khq c.toNat.toUInt8 u.data.toList 0)))
    | _,_=>kn8 C ih f xs)
  | none=>match frzs (fun _=>none) false 1000 args with
   | some xs=>kn8 C ih f xs
   | none=>bif C.pu.contains f then (match frzs H false 1000 args with
    | some xs=>(match kls C.fx f xs with
      | some r=>bif atF r then some r else none
      | none=>(match kkm C ih f (xs.map .fz) [] 0 [] with
        | some (y,s1)=>frz s1.H true 1000 y
        | none=>none))
    | none=>none) else none
noncomputable def kxv (C:Cx) (ih:EvT) (s:XS) (f:Nat) (args:List AV):Option (AV×XS):=match kn3 C ih s.H f args with
  | some r=>some (.fz r,s)
  | none=>match kkm C ih f args s.heap s.k s.lg with
    | some (y,s1)=>some (y,{ s with heap:=s1.heap,k:=s1.k,lg:=s1.lg })
    | none=>none
def dstE (n:Nat) (o:Oper):Bool:=match o.dst with
  | some t=>Nat.blt t n
  | none=>true
noncomputable def kjw (ops:Array Oper) (E:Operand->AV) (o:Oper):Option Bool:=match o.guard with
  | none=>some true
  | some (j,want)=>match (ops[j]?).bind (·.dst) with
    | some t=>match E (.tmp t) with
      | .fz (.atom (.bool b))=>some (b == want)
      | .fz (.tup _)=>some false
      | _=>none
    | none=>none
def koe (o:Oper):Option (Operand×List Operand):=match o.op with
  | .call c=>(match c.callee with
    | .value f=>some (f,c.args.toList)
    | _=>none)
  | _=>none
noncomputable def opE (C:Cx) (ih:EvT) (mu:Bool) (o:Oper) (s:XS):Option (AV×XS):=match koe o with
  | some (f,as_)=>match kfr s.E f with
    | some (f,fst,caps)=>kxv C ih s f (fst++(as_.map s.E++caps))
    | none=>none
  | none=>match sE C.T C.Z s.E s.H mu s.k o with
    | some (c,dl)=>some (c,s.app dl)
    | none=>none
noncomputable def opsE (C:Cx) (ih:EvT) (mu:Bool) (ops:Array Oper) (l:List Oper):XS->Option XS:=List.rec (motive:=fun _=>XS->Option XS) (fun s=>some s) (fun o _ k s=>bif dstE s.n o then (match kjw ops s.E o with
    | some true=>match opE C ih mu o s with
      | some (c,s1)=>k (s1.put o.dst c)
      | none=>none
    | some false=>k (s.put o.dst (.fz (.tup [])))
    | none=>none) else none) l
def isEs (nf:List Nat) (li:Bool) (o:Oper):Bool:=match o.op with
  | .alloc _=>true
  | .box _ _=>true
  | .store _ _ _=>true
  | .makeSlice _ _ _=>true
  | .makeMap _ _=>true
  | .mapUpdate _ _ _ _=>true
  | .range _ _=>true
  | .next _ _=>true
  | .buildSlice _ _ _=>li
  | .call c=>match c.callee with
    | .value (.func f)=>!nf.contains f
    | .value _=>true
    | .builtin .append=>true
    | .builtin .copy=>true
    | _=>false
  | _=>false
def esOf (nf:List Nat) (li:Bool):List Oper->Nat->List Nat
  | [],_=>[]
  | o::l,i=>bif isEs nf li o then i::esOf nf li l (i+1) else esOf nf li l (i+1)
def okN0 (k:Nat):AV->Bool
  | .fz _=>true
  | .lim _ _ _=>true
  | .any=>true
  | .ref id _ _=>Nat.blt id k
  | .mp id=>Nat.blt id k
  | .bsl id _ _ _ _=>Nat.blt id k
  | _=>false
def okN (k:Nat):AV->Bool
  | .agg cs=>cs.all (okN0 k)
  | .tup cs=>cs.all (okN0 k)
  | .fn _ cs=>cs.all (okN0 k)
  | .mth _ cs=>cs.all (okN0 k)
  | x=>okN0 k x
def idAV:AV->List Nat
  | .ref id _ _=>[id]
  | .mp id=>[id]
  | .bsl id _ _ _ _=>[id]
  | _=>[]
def kkb (E:Operand->AV) (o:Oper):List Nat:=match o.op with
  | .move _=>[]
  | .assign _=>[]
  | .pick _ _ _=>[]
  | .build _ _=>[]
  | .buildSlice _ _ _=>[]
  | .makeFunc _ _ _=>[]
  | .extract _ _=>[]
  | _=>o.op.operands.toList.flatMap fun x=>idAV (E x)
def kgs (rf:List Nat):List (Nat×AObj)->List (Nat×AObj)
  | []=>[]
  | (k,v)::l=>bif rf.contains k then (k,v)::kgs rf l else kgs rf l
noncomputable def dz1 (C:Cx) (ih:EvT) (mu:Bool) (os:Array Oper) (L:List Oper) (n:Nat) (es:List Nat) (s0:XS) (i:Nat) (o:Oper) (fs:List (Nat×Option Nat×AV)) (hs:XS):Option (AV×XS×List Nat):=
  match (⟨s0.n,hadd fs (kcz o) (kdu L i n++s0.tmps),hs.heap,hs.k,hs.lg⟩:XS) with
  | v=>match kjw os v.E o with
    | some false=>some (.fz (.tup []),hs,[])
    | some true=>bif es.contains i then (match opE C ih mu o v with
        | some (c,v1)=>some (c,v1,[])
        | none=>none)
      else (match koe o with
        | some (f,as_)=>(match kfr v.E f with
          | some (f,fst,caps)=>(match kn3 C ih (bif phB L es i then v.H else fun _=>none) f (fst++(as_.map v.E++caps)) with
            | some r=>some (.fz r,hs,[])
            | none=>none)
          | none=>none)
        | none=>bif phB L es i then (match nE C.T C.Z v.E v.H o with
            | some c=>some (c,hs,[])
            | none=>none)
          else (match nE C.T C.Z v.E (getO (kgs (kkb v.E o) s0.heap)) o with
            | some c=>bif okN s0.k c then some (c,hs,kkb v.E o) else none
            | none=>none))
    | none=>none
noncomputable def dzE (C:Cx) (ih:EvT) (mu:Bool) (os:Array Oper) (L:List Oper) (n:Nat) (es:List Nat) (s0:XS):List Oper->Nat->List (Nat×Option Nat×AV)->XS->List (Nat×List Nat)->List (Nat×List Nat)->Option (List (Nat×Option Nat×AV)×XS×List (Nat×List Nat)×List (Nat×List Nat))
  | [],_,fs,hs,rf,sl=>some (fs,hs,rf,sl)
  | o::l,i,fs,hs,rf,sl=>match dz1 C ih mu os L n es s0 i o fs hs with
    | some (c,hs1,r1)=>dzE C ih mu os L n es s0 l (i+1) ((i,o.dst,c)::fs) hs1 ((i,r1)::rf) ((i,hs1.lg.take (hs1.lg.length - hs.lg.length))::sl)
    | none=>none
noncomputable def khb (fs:List (Nat×Option Nat×AV)) (base:List (Nat×AV)):List (Nat×AV):=match fs with
  | []=>base
  | (_,some d,c)::l=>kfi (khb l base) d c
  | (_,none,_)::l=>khb l base
noncomputable def drzA (C:Cx) (ih:EvT) (mu:Bool) (ops:Array Oper) (s:XS) (es:List Nat):Option XS:=
  bif relB ops.toList ops.toList.length s.n && kl6 ops.toList ops.toList.length es then
    (match dzE C ih mu ops ops.toList ops.toList.length es s ops.toList 0 [] s [] [] with
      | some (fs,hs,rf,sl)=>bif rf.all (fun p=>sl.all fun q=>anc ops.toList q.1 p.1 || p.2.all (fun r=>!q.2.contains r)) then some ⟨s.n,khb fs s.tmps,hs.heap,hs.k,hs.lg⟩ else none
      | none=>none)
  else none
noncomputable def drzE (C:Cx) (ih:EvT) (mu:Bool) (ops:Array Oper) (s:XS):Option XS:=match drzA C ih mu ops s (esOf C.nf mu ops.toList 0) with
  | some r=>some r
  | none=>match drzA C ih mu ops s (esOf C.nf true ops.toList 0) with
    | some r=>some r
    | none=>match drzA C ih mu ops s (esOf [] mu ops.toList 0) with
      | some r=>some r
      | none=>drzA C ih mu ops s (esOf [] true ops.toList 0)
noncomputable def evB (C:Cx) (ih:EvT):EvT:=fun mu c s=>match c with
  | .skip=>some (.normal,s)
  | .region _ ops false=>match opsE C ih mu ops ops.toList s with
    | some s1=>some (.normal,s1)
    | none=>none
  | .region _ ops true=>match drzE C ih mu ops s with
    | some s1=>some (.normal,s1)
    | none=>none
  | .seq x y=>match ih mu x s with
    | some (.normal,s1)=>ih mu y s1
    | r=>r
  | .cond c x y=>match s.E c with
    | .fz (.atom (.bool b))=>ih mu (bif b then x else y) s
    | _=>none
  | .block id x=>match ih mu x s with
    | some (.exit i,s1)=>bif Nat.beq i id then some (.normal,s1) else some (.exit i,s1)
    | r=>r
  | .loop x=>match ih mu x s with
    | some (.normal,s1)=>ih mu (.loop x) s1
    | r=>r
  | .exit i=>some (.exit i,s)
  | .ret=>some (.ret,s)
  | .scope x=>ih mu x s
  | _=>none
noncomputable def ev (C:Cx) (n:Nat):EvT:=Nat.rec (motive:=fun _=>EvT) (fun _ _ _=>none) (fun _ ih=>evB C ih) n
noncomputable def runE (C:Cx) (n f:Nat) (args:List FV):Option FV:=match kkm C (ev C n) f (args.map .fz) [] 0 [] with
  | some (y,s1)=>frz s1.H false 1000 y
  | none=>none
section
variable {P:Program} {w w':World} {a:Act}
theorem ky9 {fn fn2 : Func} {f : FuncId} {cvals : List Value} {t1 t2 : Nat} {c2 : Code} {R : Ending -> World -> Prop} (u : a.defers = [dfn f cvals]) (hf : P.funcs[f]? = some fn2) (x : kkg fn2 = some (t1, t2, c2)) (hn : (fn2.name == "runtime.NumGoroutine") = false) (z : cvals.length <= fn2.ntmps)
    (h:c2.wp P (fun e2 a2 w2=>(e2 = .normal\/e2 = .ret)/\a2.defers=[]/\∃ v,(results fn a.tmps).run P w2 = .ok v w2/\R (.returned v) w2)
      (((⟨cvals.toArray++Array.replicate (fn2.ntmps - cvals.toArray.size) undef,[]⟩:Act).put (some t1) .nilIface).put (some t2) .nilIface) w'):
    Leaves P fn a.tmps R a.defers .returning w':=by
  obtain ⟨id,os,o1,c1,b,p1,p2,p3,p4,p5,n1,n2,nres,c⟩:=kmh x;rw [u];have k:fn2.body≠none:=by rw [b];simp
  simp only [beq_eq_false_iff_ne,ne_eq] at hn;refine leaves_cons (f:=f) (args:=cvals.toArray) (fun A=>by cases A) (by simp [invoke,callFunc,hf,k,hn]) ?_;refine callsD_of_wpS hf b fun c₀ cs hm=>?_;have m:(cvals.toArray++Array.replicate (fn2.ntmps - cvals.toArray.size) undef).size=fn2.ntmps:=by simp;omega
  let a0:Act:={ tmps:=cvals.toArray++Array.replicate (fn2.ntmps - cvals.toArray.size) undef,defers:=[] }
  let a2:Act:=(a0.put (some t1) .nilIface).put (some t2) .nilIface
  have g:∀ (R2:Ending->FrameMode->World->Prop),(∀ v w'',Leaves P fn a.tmps R [] .returning w''->R2 (.returned v) .returning w'') ->
      c2.wp P (fun e a' w''=>bodyPostS P fn2 c₀ cs R2 e a' ({ c₀ with mode := .returning }::cs) w'') a2 w':=by
    intro R2 B;refine wp_mono h ?_;rintro e2 a'' w'' ⟨o,p,v,hv,hr⟩;have i:a''.defers=[]/\∃ u'',({ c₀ with mode := .returning }::cs:List Frame)={ c₀ with mode:=u'' }::cs/\∃ v,(results fn2 a''.tmps).run P w'' = .ok v w''/\R2 (.returned v) u'' w'':=
      ⟨p, .returning,rfl, .tuple #[],by simp [results,nres],B _ _ ⟨v,hv,hr⟩⟩
    rcases o with rfl | rfl <;> exact i
  refine wpS_seq (wpS_region ?_);have q:∀ (a:Act) (w:World),(execOp a.eval o1).run P w = .ok .recover w:=fun a w=>by obtain ⟨cc,as_,ts⟩:=c1;simp only at p2 p3;subst p2 p3;simp [execOp,p1,resolve,invoke,builtin]
  have r:∀ y,Region.wanted o1 y=true:=fun y=>by simp [Region.wanted,p5]
  have key:∀ (cs':List Frame) (Q:Exit->Act->List Frame->World->Prop),(Q .normal a2 cs' w'->os[0]?=some o1/\∃ l,List.range os.size=0::l/\wpOpsS P os Q l (a0.put (some t1) .nilIface) cs' w'):=fun cs' Q hQ=>by
    rcases c with ⟨o2,rfl,q1,q2,q3⟩ | ⟨rfl,rfl⟩
    · refine ⟨rfl,[1],rfl,?_⟩
      have s:∀ y,Region.wanted o2 y=true:=fun y=>(by simp [Region.wanted,q3]);unfold wpOpsS;simp only [List.getElem?_toArray,List.getElem?_cons_succ,List.getElem?_cons_zero,s,if_true];have hv:(execOp (a0.put (some t1) .nilIface).eval o2).run P w' = .ok (.value .nilIface) w':=(by have:(a0.put (some t1) .nilIface).eval (.tmp t1) = .nilIface:=(by show (a0.put (some t1) .nilIface).tmps.getD t1 undef = .nilIface;rw [kha (n:=fn2.ntmps) (d:=some t1) (t:=t1) m (by intro t ht;injection ht with ht;omega),qq rfl]);simp [execOp,q1,this]);rw [hv];simp only [Oper.upon,q2];unfold wpOpsS;exact hQ
    · refine ⟨rfl,[],rfl,?_⟩
      unfold wpOpsS;have C:a2=a0.put (some t2) .nilIface:=(by show (a0.put (some t2) .nilIface).put (some t2) .nilIface=a0.put (some t2) .nilIface;simp [Act.put]);rw [<- C];exact hQ
  have j:recoverD (c₀::cs)=none:=by simp [recoverD,hm]
  have go:∀ (Q:Exit->Act->List Frame->World->Prop),Q .normal a2 (c₀::cs) w'->wpOpsS P os Q (List.range os.size) a0 (c₀::cs) w':=fun Q hQ=>by obtain ⟨k1,l,k2,k3⟩:=key (c₀::cs) Q hQ;rw [k2];unfold wpOpsS;simp only [k1,r,if_true];rw [q];simp only [j,p4];exact k3
  refine go _ ?_;show c2.wpS P _ a2 (c₀::cs) w';refine wpS_of_wp ?_;have hc:(c₀::cs)=({ c₀ with mode := .returning }::cs:List Frame):=by rw [<- hm]
  rw [hc];exact g _ fun v w'' hl=>hl
end
end Go.Proofs.YtpnnpkmjohkgiaaGreatDoor
