import Derived.Test.YtnlhjbnpjefjgabGreatDoorMz
set_option linter.all false
namespace Go.Proofs.YtnlhjbnpjefjgabGreatDoor
open Go Go.RowKit
inductive Dl where
  | no
  | new (ob:AObj)
  | upd (id:Nat) (ob:AObj)
def kiq (st:St) (id:Nat):Dl->List (Nat×AObj)
  | .no=>st.heap
  | .new ob=>(id,ob)::st.heap
  | .upd i ob=>(i,ob)::st.heap
def dIds (st:St) (id:Nat):Dl->List Nat
  | .new _=>id::st.ids
  | _=>st.ids
def kno (E:Operand->AV) (ps:Array (Nat×Operand)):List (Nat×AV):=ps.toList.map fun p=>(p.1,E p.2)
def k6l (T:List (TypeId×TD)) (E:Operand->AV) (t:TypeId) (parts:Array (Nat×Operand)):Option AV:=match kac T t with
  | some d=>match d.kind,kpf d with
    | .st fs,some zs=>match kn0 T fs with
      | some ps=>(kp1 (fun i:Nat=>ps[i]?) zs (kno E parts)).map aggA
      | none=>none
    | .arr _ e,some zs=>match kac T e with
      | some de=>(kp1 (fun i:Nat=>some (i*de.size,de.size)) zs (kno E parts)).map aggA
      | none=>none
    | _,_=>none
  | none=>none
def litH (T:List (TypeId×TD)) (E:Operand->AV) (t:TypeId) (n:Nat) (parts:Array (Nat×Operand)):Option AV:=match kac T t with
  | some d=>match d.kind with
    | .slice e=>match kac T e with
      | some de=>match klh de.size 0 (kno E parts) with
        | some xs=>bif Nat.beq xs.length n && (Nat.ble 1 de.size && Nat.ble (n*de.size) 16777216) then some (.lim de.size n xs) else none
        | none=>none
      | none=>none
    | _=>none
  | none=>none
def fldE (T:List (TypeId×TD)) (E:Operand->AV) (H:Nat->Option AObj) (s:TypeId) (x:Operand) (f:Nat):Option AV:=match kac T s with
  | some d=>match d.kind with
    | .st fs=>match fs[f]? with
      | some (ft,off)=>match kac T ft with
        | some df=>bif Nat.beq df.size 0 then none else ksq H off (E x)
        | none=>none
      | none=>none
    | _=>none
  | none=>none
def idxE (T:List (TypeId×TD)) (E:Operand->AV) (H:Nat->Option AObj) (t:TypeId) (x y:Operand):Option AV:=match kac T t,E y with
  | some d, .fz (.atom (.int _ i))=>bif decide (0<=i) then (match d.kind with
    | .slice e=>match kac T e with
      | some de=>match E x with
        | .bsl id g off len _=>match objH H id with
          | some (g',_)=>bif Nat.beq g g' && decide (i<len) then some (.ref id g (off+i.toNat*de.size)) else none
          | none=>none
        | z=>match kld z with
          | some xs=>match xs[i.toNat]? with
            | some z=>bif xs.all (fun z=>Nat.beq z.cells.length de.size) then some (.fz (.fp z.cells)) else none
            | none=>none
          | none=>none
      | none=>none
    | .arr n e=>match kac T e with
      | some de=>bif decide (i<n) then ksq H (i.toNat*de.size) (E x) else none
      | none=>none
    | _=>none) else none
  | _,_=>none
def bytE (T:List (TypeId×TD)) (E:Operand->AV) (H:Nat->Option AObj) (t:TypeId) (x y:Operand):Option AV:=match kac T t,E x,E y with
  | some d, .fz (.atom (.string s)), .fz (.atom (.int _ i))=>match d.kind with
    | .str=>bif decide (0<=i) then (match s.data.toList[i.toNat]? with
      | some c=>some (.fz (.atom (.int .u8 c.toNat)))
      | none=>none) else none
    | _=>none
  | _,_,_=>none
def cutB (s:BA) (l h:Nat):BA:=⟨⟨(s.data.toList.take h).drop l⟩⟩
def kok (s:BA):Nat:=s.data.toList.length
def slcE (T:List (TypeId×TD)) (E:Operand->AV) (H:Nat->Option AObj) (t:TypeId) (x:Operand) (lo hi mx:Option Operand):Option AV:=match kac T t with
  | some d=>match d.kind with
    | .str=>match E x,mx with
      | .fz (.atom (.string s)),none=>match kc9 E 0 lo,kc9 E (kok s) hi with
        | some L,some H=>bif Nat.ble L H && Nat.ble H (kok s) then some (.fz (.atom (.string (cutB s L H)))) else none
        | _,_=>none
      | _,_=>none
    | .slice e=>match kac T e with
      | some de=>match E x with
        | .bsl id g off len (some k)=>match objH H id,kc9 E 0 lo,kc9 E len hi,kc9 E k mx with
          | some (g',_),some L,some H,some M=>bif Nat.beq g g' && (Nat.ble L H && (Nat.ble H M && (Nat.ble M k && (!mx.isSome || hi.isSome)))) then some (.bsl id g (offE off L M de.size) (H - L) (some (M - L))) else none
          | _,_,_,_=>none
        | .bsl id g 0 len none=>match objH H id,kc9 E 0 lo,kc9 E len hi with
          | some (g',_),some L,some H=>match mx with
            | none=>bif Nat.beq g g' && (Nat.beq L 0 && Nat.ble H len) then some (.bsl id g 0 H none) else none
            | some y=>match kc9 E 0 (some y) with
              | some M=>bif Nat.beq g g' && (Nat.ble L H && (Nat.ble H M && (Nat.ble M len && hi.isSome))) then some (.bsl id g (offE 0 L M de.size) (H - L) (some (M - L))) else none
              | none=>none
          | _,_,_=>none
        | .fz (.atom (.slice none 0 0))=>match kc9 E 0 lo,kc9 E 0 hi,kc9 E 0 mx with
          | some 0,some 0,some 0=>bif !mx.isSome || hi.isSome then some (.fz (.atom nilV)) else none
          | _,_,_=>none
        | z=>match lstX z with
          | some (s,n,xs)=>match kc9 E 0 lo,kc9 E n hi with
            | some L,some H=>bif Nat.beq s de.size && (Nat.ble L H && Nat.ble H n) then (match mx with
              | none=>some (.fz (.lst de.size (H - L) ((xs.take H).drop L)))
              | some y=>match kc9 E 0 (some y) with
                | some M=>bif Nat.beq M H && hi.isSome then some (.lim de.size (H - L) ((xs.take H).drop L)) else none
                | none=>none) else none
            | _,_=>none
          | none=>none
      | none=>none
    | .arr n e=>match kac T e,E x with
      | some de, .ref id g off=>match objH H id,kc9 E 0 lo,kc9 E n hi,kc9 E n mx with
        | some (g',_),some L,some H,some M=>bif Nat.beq g g' && (Nat.ble L H && (Nat.ble H M && (Nat.ble M n && ((!mx.isSome || hi.isSome) && Nat.ble n 9223372036854775807)))) then some (.bsl id g (offE off L M de.size) (H - L) (some (M - L))) else none
        | _,_,_,_=>none
      | _,_=>none
    | _=>none
  | none=>none
def lenE (T:List (TypeId×TD)) (E:Operand->AV) (H:Nat->Option AObj) (x:Operand) (t:TypeId):Option AV:=match kac T t with
  | some d=>match d.kind,E x with
    | .slice _, .bsl id g _ len _=>match objH H id with
      | some (g',_)=>bif Nat.beq g g' then some (.fz (.atom (.int .i64 len))) else none
      | none=>none
    | .slice _,z=>match lenOf z with
      | some n=>some (.fz (.atom (.int .i64 n)))
      | none=>none
    | .str, .fz (.atom (.string s))=>some (.fz (.atom (.int .i64 (kok s))))
    | .map _ _, .mp id=>match H id with
      | some (.xo (.amap kv))=>some (.fz (.atom (.int .i64 kv.length)))
      | _=>none
    | _,_=>none
  | none=>none
def capE (T:List (TypeId×TD)) (E:Operand->AV) (H:Nat->Option AObj) (x:Operand) (t:TypeId):Option AV:=match kac T t with
  | some d=>match d.kind with
    | .slice e=>match kac T e with
      | some de=>match rdH H de.size (E x) with
        | some (_,some k,_)=>some (.fz (.atom (.int .i64 k)))
        | _=>none
      | none=>none
    | _=>none
  | none=>none
def cnvE (T:List (TypeId×TD)) (E:Operand->AV) (H:Nat->Option AObj) (s t:TypeId) (x:Operand):Option AV:=match kac T s,kac T t with
  | some ds,some d=>match d.kind,ds.kind,E x with
    | .int k,_, .fz (.atom (.int _ n))=>some (.fz (.atom (.int k (k.wrap n))))
    | .str, .str, .fz (.atom (.string u))=>some (.fz (.atom (.string u)))
    | .str, .slice e,z=>match kac T e with
      | some de=>match de.kind with
        | .int .u8=>match rdH H 1 z with
          | some (_,_,ys)=>match kqq ys with
            | some xs=>some (.fz (.atom (.string (toBA xs))))
            | none=>none
          | none=>none
        | _=>none
      | none=>none
    | _,_,_=>none
  | _,_=>none
def lkE (T:List (TypeId×TD)) (Z:List (TypeId×Value)) (E:Operand->AV) (H:Nat->Option AObj) (t:TypeId) (x y:Operand) (ok:Bool):Option AV:=match kac T t,E x,E y with
  | some d, .mp id, .fz (.atom k)=>match d.kind with
    | .map kt et=>match kac T kt,H id with
      | some kd,some (.xo (.amap kv))=>bif keyK kd.kind k then (match kq9 k kv 0 with
        | some r=>match (match r with | some (_,z)=>some z | none=>(match kvy Z et with | some zv=>bif zv.oneCell' then some (AV.fz (.atom zv)) else none | none=>none)) with
          | some c=>some (bif ok then .tup [c, .fz (.atom (.bool r.isSome))] else c)
          | none=>none
        | none=>none) else none
      | _,_=>none
    | _=>none
  | _,_,_=>none
def nilX (H:Nat->Option AObj):AV->Option Bool
  | .fz (.atom (.slice none 0 0))=>some true
  | .bsl id g _ _ _=>match objH H id with
    | some (g',_)=>bif Nat.beq g g' then some false else none
    | none=>none
  | z=>match lstX z with
    | some (_,_,_::_)=>some false
    | _=>none
def binE (T:List (TypeId×TD)) (E:Operand->AV) (H:Nat->Option AObj) (op:BinOp) (t:TypeId) (x y:Operand):Option AV:=match op,y with
  | .neq, .const .nilIface=>match kac T t,E x with
    | some d, .fz (.atom .nilIface)=>match d.kind with
      | .ifc=>some (.fz (.atom (.bool false)))
      | _=>none
    | _,_=>none
  | _,_=>match E x,E y with
    | .fz (.atom (.slice none 0 0)), .fz (.atom (.slice none 0 0))=>nilE true
    | .fz (.atom u), .fz (.atom v)=>match binV (kl2 T t) op u v with
      | some r=>some (.fz (.atom r))
      | none=>none
    | z, .fz (.atom (.slice none 0 0))=>match nilX H z with
      | some r=>nilE r
      | none=>none
    | _,_=>none
where nilE (r:Bool):Option AV:=match kac T t with
  | some d=>match d.kind,op with
    | .slice _, .eql=>some (.fz (.atom (.bool r)))
    | .slice _, .neq=>some (.fz (.atom (.bool !r)))
    | _,_=>none
  | none=>none
def mmE (E:Operand->AV) (H:Nat->Option AObj) (mx:Bool) (x y:Operand):Option AV:=match E x,E y with
  | .fz (.atom (.int k m)), .fz (.atom (.int k' n))=>bif decide (k=k') then some (.fz (.atom (.int k (bif mx then imax m n else imin m n)))) else none
  | _,_=>none
def entE (E:Operand->AV) (H:Nat->Option AObj) (x:Operand):Option AV:=match E x with
  | .ref id 0 0=>match H id with
    | some (.xo (.mit m since seen stepped))=>match H m,seen.getLast? with
      | some (.xo (.amap kv)),some j=>match kv[j]? with
        | some p=>bif Nat.beq stepped kv.length && p.1.oneCell' then some (.tup [.fz (.atom p.1),p.2]) else none
        | none=>none
      | _,_=>none
    | _=>none
  | _=>none
def nxtE (E:Operand->AV) (H:Nat->Option AObj) (x:Operand):Option (AV×Dl):=match E x with
  | .ref id 0 0=>match H id with
    | some (.xo (.mit m since seen stepped))=>match H m with
      | some (.xo (.amap kv))=>bif Nat.beq since kv.length && Nat.ble kv.length stepped then (match khr seen kv.length with
        | []=>some (.fz (.tup [.atom (.bool false)]), .no)
        | [j]=>match kv[j]? with
          | some p=>bif p.1.oneCell' then some (.tup [.fz (.atom (.bool true)), .fz (.atom p.1),p.2], .upd id (.xo (.mit m kv.length (seen++[j]) kv.length))) else none
          | none=>none
        | _=>none) else none
      | _=>none
    | _=>none
  | _=>none
def nE (T:List (TypeId×TD)) (Z:List (TypeId×Value)) (E:Operand->AV) (H:Nat->Option AObj) (o:Oper):Option AV:=match o.op with
  | .binOp op t x y _=>binE T E H op t x y
  | .load t x=>match kac T t,kwx H (E x) with
    | some d,some xs=>kj6 d xs
    | _,_=>none
  | .fieldAddr s x f=>fldE T E H s x f
  | .nilCheck x=>ksq H 0 (E x)
  | .indexAddr t x y=>idxE T E H t x y
  | .index t x y=>bytE T E H t x y
  | .slice t x lo hi mx=>slcE T E H t x lo hi mx
  | .convert s t x=>cnvE T E H s t x
  | .lookup t x y ok=>lkE T Z E H t x y ok
  | .entry x=>entE E H x
  | .call c=>match c.callee,c.args.toList,c.argTypes.toList with
    | .builtin .len,[x],[t]=>lenE T E H x t
    | .builtin .cap,[x],[t]=>capE T E H x t
    | .builtin .min,[x,y],_=>mmE E H false x y
    | .builtin .max,[x,y],_=>mmE E H true x y
    | _,_,_=>none
  | .move x=>some (E x)
  | .assign x=>some (E x)
  | .pick c x y=>match E c with
    | .fz (.atom (.bool b))=>some (bif b then E x else E y)
    | _=>none
  | .unOp op _ x=>match E x with
    | .fz (.atom u)=>match unV op u with
      | some r=>some (.fz (.atom r))
      | none=>none
    | _=>none
  | .extract x i=>match E x with | .fz (.tup xs)=>(xs[i]?).map .fz | .tup xs=>xs[i]? | _=>none
  | .build t parts=>k6l T E t parts
  | .buildSlice t n parts=>litH T E t n parts
  | .makeFunc (.func f) first cap=>bif first.isEmpty then some (.fn f (cap.toList.map E)) else (bif cap.isEmpty then some (.mth f (first.toList.map E)) else none)
  | _=>none
def reC:AObj->List AV->AObj
  | .box e _,c => .box e c
  | .xo (.blk g e sz _),c => .xo (.blk g e sz c)
  | ob,_=>ob
def setE (H:Nat->Option AObj) (id:Nat) (c:AV) (cells:List AV):Option (AV×Dl):=match H id with
  | some ob=>some (c, .upd id (reC ob cells))
  | none=>none
def stoE (T:List (TypeId×TD)) (E:Operand->AV) (H:Nat->Option AObj) (t:TypeId) (x y:Operand):Option (AV×Dl):=match kac T t,E x with
  | some d, .ref id n off=>match objH H id with
    | some (g,cells)=>bif Nat.beq n g && (Nat.beq (E y).cells.length d.size && ((E y).cells.all AV.single && Nat.ble (off+(E y).cells.length) cells.length)) then setE H id .any (kbm cells off (E y).cells) else none
    | none=>none
  | _,_=>none
def mksE (T:List (TypeId×TD)) (E:Operand->AV) (H:Nat->Option AObj) (t:TypeId) (id:Nat) (x y:Operand):Option (AV×Dl):=match kac T t with
  | some d=>match d.kind with
    | .slice e=>match kac T e with
      | some de=>match de.zero,E x,E y with
        | [zv], .fz (.atom (.int _ n)), .fz (.atom (.int _ c))=>bif Nat.beq de.size 1 && (zv.oneCell' && (decide (0<=n) && (decide (n<=c) && (decide ((de.bytes:Int)*c<=281474976710656) && decide (c<=9223372036854775807))))) then
            some (.bsl id 0 0 n.toNat (some c.toNat), .new (.xo (.blk 0 e 1 (List.replicate c.toNat (.fz (.atom zv)))))) else none
        | _,_,_=>none
      | none=>none
    | _=>none
  | none=>none
def litE (T:List (TypeId×TD)) (E:Operand->AV) (H:Nat->Option AObj) (mu:Bool) (t:TypeId) (n id:Nat) (parts:Array (Nat×Operand)):Option (AV×Dl):=match (bif mu then none else litH T E t n parts) with
  | some c=>some (c, .no)
  | none=>match kac T t with
    | some d=>match d.kind with
      | .slice e=>match kac T e with
        | some de=>match kqk de.size 0 (kno E parts) with
          | some ys=>bif Nat.beq parts.toList.length n && (Nat.ble 1 de.size && Nat.ble (n*de.size) 16777216) then some (.bsl id 0 0 n (some n), .new (.xo (.blk 0 e de.size ys))) else none
          | none=>none
        | none=>none
      | _=>none
    | none=>none
def mpuE (T:List (TypeId×TD)) (E:Operand->AV) (H:Nat->Option AObj) (t:TypeId) (x y v:Operand):Option (AV×Dl):=match kac T t,E x,E y with
  | some d, .mp id, .fz (.atom k)=>match d.kind with
    | .map kt _=>match kac T kt,H id with
      | some kd,some (.xo (.amap kv))=>bif keyK kd.kind k then (match vput k kv (E v) with
        | some kv'=>some (.any, .upd id (.xo (.amap kv')))
        | none=>none) else none
      | _,_=>none
    | _=>none
  | _,_,_=>none
def rngE (T:List (TypeId×TD)) (E:Operand->AV) (H:Nat->Option AObj) (t:TypeId) (id:Nat) (x:Operand):Option (AV×Dl):=match kac T t,E x with
  | some d, .mp m=>match d.kind,H m with
    | .map _ _,some (.xo (.amap kv))=>some (.ref id 0 0, .new (.xo (.mit m kv.length [] kv.length)))
    | _,_=>none
  | _,_=>none
def appE (T:List (TypeId×TD)) (E:Operand->AV) (H:Nat->Option AObj) (t tx:TypeId) (id:Nat) (x y:Operand):Option (AV×Dl):=match kac T t with
  | some d=>match d.kind with
    | .slice e=>match kac T e with
      | some de=>match srcH T H de.size tx (E y) with
        | some (0,_)=>match rdH H de.size (E x) with
          | some _=>some (E x, .no)
          | none=>none
        | some (n,ys)=>bif Nat.ble 1 de.size && Nat.beq de.zero.length de.size then (match E x with
          | .bsl i g off m none=>match H i with
            | some (.xo (.blk g' e' sz cells))=>bif Nat.beq off 0 && (Nat.beq g g' && (Nat.beq e e' && (Nat.beq sz de.size && (Nat.beq cells.length (m*de.size) && Nat.ble ((m+n)*(de.bytes+1)) 140737488355328)))) then
                some (.bsl i (g+1) 0 (m+n) none, .upd i (.xo (.blk (g+1) e de.size (cells++ys)))) else none
            | _=>none
          | .bsl i g off m (some k)=>bif Nat.ble (m+n) k then (match objH H i with
            | some (g',cells)=>bif Nat.beq g g' && Nat.ble (off+m*de.size+ys.length) cells.length then setE H i (.bsl i g off (m+n) (some k)) (kbm cells (off+m*de.size) ys) else none
            | none=>none) else grow e de n ys
          | _=>grow e de n ys) else none
        | none=>none
      | none=>none
    | _=>none
  | none=>none
where grow (e:TypeId) (de:TD) (n:Nat) (ys:List AV):Option (AV×Dl):=match rdH H de.size (E x) with
  | some (m,some k,xs)=>bif Nat.blt k (m+n) && Nat.ble ((m+n)*(de.bytes+1)) 140737488355328 then some (.bsl id 0 0 (m+n) none, .new (.xo (.blk 0 e de.size (xs++ys)))) else none
  | _=>none
def cpyE (T:List (TypeId×TD)) (E:Operand->AV) (H:Nat->Option AObj) (t:TypeId) (x y:Operand):Option (AV×Dl):=match kac T t with
  | some d=>match d.kind with
    | .slice e=>match kac T e with
      | some de=>match E x,rdH H de.size (E y) with
        | .bsl i g off len _,some (n,_,ys)=>match objH H i with
          | some (g',cells)=>bif Nat.beq g g' && Nat.ble (off+(ys.take (min n len*de.size)).length) cells.length then setE H i (.fz (.atom (.int .i64 ((min n len:Nat):Int)))) (kbm cells off (ys.take (min n len*de.size))) else none
          | none=>none
        | _,_=>none
      | none=>none
    | _=>none
  | none=>none
def sE (T:List (TypeId×TD)) (Z:List (TypeId×Value)) (E:Operand->AV) (H:Nat->Option AObj) (mu:Bool) (id:Nat) (o:Oper):Option (AV×Dl):=match o.op with
  | .box e x=>bif (E x).cells.all AV.single then some (.ref id 0 0, .new (.box e (E x).cells)) else none
  | .alloc e=>match kac T e with
    | some d=>match kpf d with
      | some cells=>some (.ref id 0 0, .new (.box e cells))
      | none=>none
    | none=>none
  | .store t x y=>stoE T E H t x y
  | .makeSlice t x y=>mksE T E H t id x y
  | .buildSlice t n parts=>litE T E H mu t n id parts
  | .makeMap _ none=>some (.mp id, .new (.xo (.amap [])))
  | .mapUpdate t x y v=>mpuE T E H t x y v
  | .range t x=>rngE T E H t id x
  | .next x false=>nxtE E H x
  | .call c=>match c.callee,c.args.toList,c.argTypes.toList with
    | .builtin .append,[x,y],[t,tx]=>appE T E H t tx id x y
    | .builtin .copy,[x,y],[t,_]=>cpyE T E H t x y
    | _,_,_=>match nE T Z E H o with
      | some c=>some (c, .no)
      | none=>none
  | _=>match nE T Z E H o with
    | some c=>some (c, .no)
    | none=>none
def idsN:Nat->List Nat
  | 0=>[]
  | k+1=>k::idsN k
structure XS where
  n:Nat
  tmps:List (Nat×AV)
  heap:List (Nat×AObj)
  k:Nat
  lg:List Nat
def XS.st (s:XS) (D:List Deferred):St:=⟨s.n,s.tmps,s.heap,idsN s.k,D⟩
noncomputable def getQ (l:List (Nat×AV)) (t:Nat):AV:=List.rec (motive:=fun _=>AV) .any (fun p _ ih=>Bool.rec ih p.2 (Nat.beq p.1 t)) l
noncomputable def getO (l:List (Nat×AObj)) (t:Nat):Option AObj:=List.rec (motive:=fun _=>Option AObj) none (fun p _ ih=>Bool.rec ih (some p.2) (Nat.beq p.1 t)) l
noncomputable def kj5 (l:List (Nat×AV)) (t:Nat) (v:AV):List (Nat×AV):=List.rec (motive:=fun _=>List (Nat×AV)) [(t,v)] (fun p l ih=>Bool.rec (p::ih) ((t,v)::l) (Nat.beq p.1 t)) l
noncomputable def kt9 (l:List (Nat×AObj)) (t:Nat) (v:AObj):List (Nat×AObj):=List.rec (motive:=fun _=>List (Nat×AObj)) [(t,v)] (fun p l ih=>Bool.rec (p::ih) ((t,v)::l) (Nat.beq p.1 t)) l
noncomputable def XS.E (s:XS) (x:Operand):AV:=match x with
  | .tmp t=>getQ s.tmps t
  | .const v=>k0i v
  | .global _ => .any
  | .func f => .fn f []
noncomputable def XS.H (s:XS):Nat->Option AObj:=getO s.heap
noncomputable def XS.put (s:XS) (d:Option Nat) (v:AV):XS:=match d with
  | some t=>{ s with tmps:=kj5 s.tmps t v }
  | none=>s
noncomputable def XS.app (s:XS):Dl->XS
  | .no=>s
  | .new ob=>{ s with heap:=(s.k,ob)::s.heap,k:=s.k+1,lg:=s.k::s.lg }
  | .upd i ob=>{ s with heap:=kt9 s.heap i ob,lg:=i::s.lg }
def kzj:Value->Value->Bool
  | .int k m, .int k' n=>decide (k=k') && m == n
  | .string s, .string u=>s.toList == u.toList
  | .bool a, .bool b=>a == b
  | .slice none 0 0, .slice none 0 0=>true
  | .pointer none, .pointer none=>true
  | .map none, .map none=>true
  | .nilFunc, .nilFunc=>true
  | .nilIface, .nilIface=>true
  | _,_=>false
mutual
def eqFV:FV->FV->Bool
  | .atom v, .atom u=>kzj v u
  | .agg a, .agg b=>kj0 a b
  | .tup a, .tup b=>kj0 a b
  | .lst s n a, .lst s' n' b=>Nat.beq s s' && (Nat.beq n n' && kj0 a b)
  | .fp a, .fp b=>kj0 a b
  | .bx a, .bx b=>kj0 a b
  | _,_=>false
def kj0:List FV->List FV->Bool
  | [],[]=>true
  | a::l,b::m=>eqFV a b && kj0 l m
  | _,_=>false
end
def mkEl (sz:Nat) (xs:List FV):Option FV:=bif Nat.beq xs.length sz then (match xs with
  | [x]=>some x
  | xs=>some (.agg xs)) else none
def kn6 (sz:Nat):Nat->List FV->Option (List FV)
  | 0,l=>match l with
    | []=>some []
    | _=>none
  | n+1,l=>match mkEl sz (l.take sz),kn6 sz n (l.drop sz) with
    | some y,some r=>some (y::r)
    | _,_=>none
def atF:FV->Bool
  | .atom _=>true
  | .agg xs=>xs.all fun | .atom _=>true | _=>false
  | .tup xs=>xs.all fun | .atom _=>true | _=>false
  | _=>false
mutual
def frz (H:Nat->Option AObj) (fr:Bool):Nat->AV->Option FV
  | 0,_=>none
  | _+1, .fz x=>bif !fr || atF x then some x else none
  | _+1, .lim s n xs=>bif fr then none else some (.lst s n xs)
  | f+1, .agg cs=>match frzs H fr f cs with
    | some xs=>some (.agg xs)
    | none=>none
  | f+1, .tup cs=>match frzs H fr f cs with
    | some xs=>some (.tup xs)
    | none=>none
  | f+1, .bsl id g off len _=>match H id with
    | some (.xo (.blk g' _ sz cells))=>bif Nat.beq g g' then (match frzs H fr f ((cells.drop off).take (len*sz)) with
      | some xs=>match kn6 sz len xs with
        | some ys=>some (.lst sz len ys)
        | none=>none
      | none=>none) else none
    | _=>none
  | _+1,_=>none
def frzs (H:Nat->Option AObj) (fr:Bool):Nat->List AV->Option (List FV)
  | 0,_=>none
  | _+1,[]=>some []
  | f+1,x::l=>match frz H fr f x,frzs H fr f l with
    | some y,some r=>some (y::r)
    | _,_=>none
end
def resE (T:List (TypeId×TD)) (E:Operand->AV) (H:Nat->Option AObj):ResultVar->Option AV
  | .tmp t=>some (E (.tmp t))
  | .cell x t=>match kac T t,kwx H (E (.tmp x)) with
    | some d,some xs=>kj6 d xs
    | _,_=>none
def kue (T:List (TypeId×TD)) (E:Operand->AV) (H:Nat->Option AObj):List ResultVar->Option (List AV)
  | []=>some []
  | r::rs=>match resE T E H r,kue T E H rs with
    | some y,some ys=>some (y::ys)
    | _,_=>none
def retE (T:List (TypeId×TD)) (E:Operand->AV) (H:Nat->Option AObj) (rs:List ResultVar):Option AV:=match kue T E H rs with
  | some [y]=>some y
  | some ys=>some (tupA ys)
  | none=>none
inductive FT where
  | lf
  | nd (k:Nat) (v:Func) (l r:FT)
noncomputable def FT.get (t:FT) (f:Nat):Option Func:=FT.rec (motive:=fun _=>Option Func) none (fun k v _ _ il ir=>Bool.rec (Bool.rec ir il (Nat.blt f k)) (some v) (Nat.beq k f)) t
structure Cx where
  T:List (TypeId×TD)
  Z:List (TypeId×Value)
  fn:FT
  mu:List Nat
  pu:List Nat
  fx:List (Nat×List FV×FV)
  ib:List Nat
  nf:List Nat
def kv1:List (Nat×List FV×FV)->Nat->List FV->Option FV
  | [],_,_=>none
  | (f,as_,r)::l,g,xs=>bif Nat.beq f g && kj0 as_ xs then some r else kv1 l g xs
def kkm (E:Operand->AV) (f:Operand):Option (Nat×List AV×List AV):=match E f with
  | .fn f caps=>some (f,[],caps)
  | .mth f fst=>some (f,fst,[])
  | _=>none
abbrev EvT:=Bool->Code->XS->Option (Exit×XS)
def kpj (c:UInt8):List UInt8->Nat->Int
  | [],_ => -1
  | x::l,i=>bif Nat.beq x.toNat c.toNat then (i:Int) else kpj c l (i+1)
def kzg:Code->Option (Code×Nat×Oper×Oper×Nat×Code)
  | .seq x (.seq (.region rid os false) c)=>match os.toList with
    | [o1,o2]=>match o1.dst,o1.guard,o2.op,o2.dst,o2.guard with
      | some t,none, .defer cl,none,none=>match cl.callee,cl.args.toList with
        | .value (.tmp t'),[]=>bif Nat.beq t t' then some (x,rid,o1,o2,t,c) else none
        | _,_=>none
      | _,_,_,_,_=>none
    | _=>none
  | _=>none
def kzl:Exit->Bool
  | .ret=>true
  | .normal=>true
  | _=>false
def nilA:AV := .fz (.atom .nilIface)
noncomputable def k34 (C:Cx) (ih:EvT) (f:Nat) (fn:Func) (x:Code) (o1:Oper) (t:Nat) (c1:Code) (s0:XS):Option (AV×XS):=match ih (C.mu.contains f) x s0 with
  | some (.normal,s1)=>match nE C.T C.Z s1.E s1.H o1 with
    | some (.fn f2 caps)=>match C.fn.get f2 with
      | some fn2=>match kkn fn2 with
        | some (ta,tb,c2)=>match ih (C.mu.contains f) c1 (s1.put (some t) (.fn f2 caps)) with
          | some (e,s2)=>match (bif kzl e && Nat.ble caps.length fn2.ntmps then ih (C.mu.contains f2) c2 ⟨fn2.ntmps,kj5 (kj5 (argT 0 caps) ta nilA) tb nilA,s2.heap,s2.k,s2.lg⟩ else none) with
            | some (e2,s3)=>match (bif kzl e2 then retE C.T s2.E s3.H fn.results.toList else none) with
              | some y=>some (y,⟨s2.n,s2.tmps,s3.heap,s3.k,s3.lg⟩)
              | none=>none
            | none=>none
          | none=>none
        | none=>none
      | none=>none
    | _=>none
  | _=>none
noncomputable def kt8 (C:Cx) (ih:EvT) (f:Nat) (args:List AV) (heap:List (Nat×AObj)) (k:Nat) (lg:List Nat):Option (AV×XS):=match C.fn.get f with
  | some fn=>match fn.body with
    | some c=>match kzg c with
      | some (x,_,o1,_,t,c1)=>bif Nat.ble args.length fn.ntmps && Nat.blt t fn.ntmps then k34 C ih f fn x o1 t c1 ⟨fn.ntmps,argT 0 args,heap,k,lg⟩ else none
      | none=>match (bif Nat.ble args.length fn.ntmps then ih (C.mu.contains f) c ⟨fn.ntmps,argT 0 args,heap,k,lg⟩ else none) with
      | some (e,s1)=>match e,retE C.T s1.E s1.H fn.results.toList with
        | .ret,some y=>some (y,s1)
        | .normal,some y=>some (y,s1)
        | _,_=>none
      | none=>none
    | none=>none
  | none=>none
noncomputable def kze (C:Cx) (ih:EvT) (f:Nat) (xs:List FV):Option FV:=match kv1 C.fx f xs with
  | some r=>some r
  | none=>bif C.pu.contains f then (match kt8 C ih f (xs.map .fz) [] 0 [] with
    | some (y,s1)=>frz s1.H false 1000 y
    | none=>none) else none
noncomputable def ky8 (C:Cx) (ih:EvT) (H:Nat->Option AObj) (f:Nat) (args:List AV):Option FV:=match klb args with
  | some xs=>(match C.ib.contains f,xs with
    | true,[.atom (.string u), .atom (.int .u8 c)]=>some (FV.atom (.int .i64 (kpj c.toNat.toUInt8 u.data.toList 0)))
    | _,_=>kze C ih f xs)
  | none=>match frzs (fun _=>none) false 1000 args with
   | some xs=>kze C ih f xs
   | none=>bif C.pu.contains f then (match frzs H false 1000 args with
    | some xs=>(match kv1 C.fx f xs with
      | some r=>bif atF r then some r else none
      | none=>(match kt8 C ih f (xs.map .fz) [] 0 [] with
        | some (y,s1)=>frz s1.H true 1000 y
        | none=>none))
    | none=>none) else none
noncomputable def k9m (C:Cx) (ih:EvT) (s:XS) (f:Nat) (args:List AV):Option (AV×XS):=match ky8 C ih s.H f args with
  | some r=>some (.fz r,s)
  | none=>match kt8 C ih f args s.heap s.k s.lg with
    | some (y,s1)=>some (y,{ s with heap:=s1.heap,k:=s1.k,lg:=s1.lg })
    | none=>none
def dstE (n:Nat) (o:Oper):Bool:=match o.dst with
  | some t=>Nat.blt t n
  | none=>true
noncomputable def ktk (ops:Array Oper) (E:Operand->AV) (o:Oper):Option Bool:=match o.guard with
  | none=>some true
  | some (j,want)=>match (ops[j]?).bind (·.dst) with
    | some t=>match E (.tmp t) with
      | .fz (.atom (.bool b))=>some (b == want)
      | .fz (.tup _)=>some false
      | _=>none
    | none=>none
def kzk (o:Oper):Option (Operand×List Operand):=match o.op with
  | .call c=>(match c.callee with
    | .value f=>some (f,c.args.toList)
    | _=>none)
  | _=>none
noncomputable def opE (C:Cx) (ih:EvT) (mu:Bool) (o:Oper) (s:XS):Option (AV×XS):=match kzk o with
  | some (f,as_)=>match kkm s.E f with
    | some (f,fst,caps)=>k9m C ih s f (fst++(as_.map s.E++caps))
    | none=>none
  | none=>match sE C.T C.Z s.E s.H mu s.k o with
    | some (c,dl)=>some (c,s.app dl)
    | none=>none
noncomputable def opsE (C:Cx) (ih:EvT) (mu:Bool) (ops:Array Oper) (l:List Oper):XS->Option XS:=List.rec (motive:=fun _=>XS->Option XS) (fun s=>some s) (fun o _ k s=>bif dstE s.n o then (match ktk ops s.E o with
    | some true=>match opE C ih mu o s with
      | some (c,s1)=>k (s1.put o.dst c)
      | none=>none
    | some false=>k (s.put o.dst (.fz (.tup [])))
    | none=>none) else none) l
def isEs (nf:List Nat) (li:Bool) (o:Oper):Bool:=match o.op with
  | .alloc _=>true
  | .box _ _=>true
  | .store _ _ _=>true
  | .makeSlice _ _ _=>true
  | .makeMap _ _=>true
  | .mapUpdate _ _ _ _=>true
  | .range _ _=>true
  | .next _ _=>true
  | .buildSlice _ _ _=>li
  | .call c=>match c.callee with
    | .value (.func f)=>!nf.contains f
    | .value _=>true
    | .builtin .append=>true
    | .builtin .copy=>true
    | _=>false
  | _=>false
def esOf (nf:List Nat) (li:Bool):List Oper->Nat->List Nat
  | [],_=>[]
  | o::l,i=>bif isEs nf li o then i::esOf nf li l (i+1) else esOf nf li l (i+1)
def okN0 (k:Nat):AV->Bool
  | .fz _=>true
  | .lim _ _ _=>true
  | .any=>true
  | .ref id _ _=>Nat.blt id k
  | .mp id=>Nat.blt id k
  | .bsl id _ _ _ _=>Nat.blt id k
  | _=>false
def okN (k:Nat):AV->Bool
  | .agg cs=>cs.all (okN0 k)
  | .tup cs=>cs.all (okN0 k)
  | .fn _ cs=>cs.all (okN0 k)
  | .mth _ cs=>cs.all (okN0 k)
  | x=>okN0 k x
def idAV:AV->List Nat
  | .ref id _ _=>[id]
  | .mp id=>[id]
  | .bsl id _ _ _ _=>[id]
  | _=>[]
def ktw (E:Operand->AV) (o:Oper):List Nat:=match o.op with
  | .move _=>[]
  | .assign _=>[]
  | .pick _ _ _=>[]
  | .build _ _=>[]
  | .buildSlice _ _ _=>[]
  | .makeFunc _ _ _=>[]
  | .extract _ _=>[]
  | _=>o.op.operands.toList.flatMap fun x=>idAV (E x)
def kng (rf:List Nat):List (Nat×AObj)->List (Nat×AObj)
  | []=>[]
  | (k,v)::l=>bif rf.contains k then (k,v)::kng rf l else kng rf l
noncomputable def dz1 (C:Cx) (ih:EvT) (mu:Bool) (os:Array Oper) (L:List Oper) (n:Nat) (es:List Nat) (s0:XS) (i:Nat) (o:Oper) (fs:List (Nat×Option Nat×AV)) (hs:XS):Option (AV×XS×List Nat):=
  match (⟨s0.n,hadd fs (keu o) (kgc L i n++s0.tmps),hs.heap,hs.k,hs.lg⟩:XS) with
  | v=>match ktk os v.E o with
    | some false=>some (.fz (.tup []),hs,[])
    | some true=>bif es.contains i then (match opE C ih mu o v with
        | some (c,v1)=>some (c,v1,[])
        | none=>none)
      else (match kzk o with
        | some (f,as_)=>(match kkm v.E f with
          | some (f,fst,caps)=>(match ky8 C ih (bif phB L es i then v.H else fun _=>none) f (fst++(as_.map v.E++caps)) with
            | some r=>some (.fz r,hs,[])
            | none=>none)
          | none=>none)
        | none=>bif phB L es i then (match nE C.T C.Z v.E v.H o with
            | some c=>some (c,hs,[])
            | none=>none)
          else (match nE C.T C.Z v.E (getO (kng (ktw v.E o) s0.heap)) o with
            | some c=>bif okN s0.k c then some (c,hs,ktw v.E o) else none
            | none=>none))
    | none=>none
noncomputable def dzE (C:Cx) (ih:EvT) (mu:Bool) (os:Array Oper) (L:List Oper) (n:Nat) (es:List Nat) (s0:XS):List Oper->Nat->List (Nat×Option Nat×AV)->XS->List (Nat×List Nat)->List (Nat×List Nat)->Option (List (Nat×Option Nat×AV)×XS×List (Nat×List Nat)×List (Nat×List Nat))
  | [],_,fs,hs,rf,sl=>some (fs,hs,rf,sl)
  | o::l,i,fs,hs,rf,sl=>match dz1 C ih mu os L n es s0 i o fs hs with
    | some (c,hs1,r1)=>dzE C ih mu os L n es s0 l (i+1) ((i,o.dst,c)::fs) hs1 ((i,r1)::rf) ((i,hs1.lg.take (hs1.lg.length - hs.lg.length))::sl)
    | none=>none
noncomputable def kn5 (fs:List (Nat×Option Nat×AV)) (base:List (Nat×AV)):List (Nat×AV):=match fs with
  | []=>base
  | (_,some d,c)::l=>kj5 (kn5 l base) d c
  | (_,none,_)::l=>kn5 l base
noncomputable def drzA (C:Cx) (ih:EvT) (mu:Bool) (ops:Array Oper) (s:XS) (es:List Nat):Option XS:=
  bif relB ops.toList ops.toList.length s.n && kwl ops.toList ops.toList.length es then
    (match dzE C ih mu ops ops.toList ops.toList.length es s ops.toList 0 [] s [] [] with
      | some (fs,hs,rf,sl)=>bif rf.all (fun p=>sl.all fun q=>anc ops.toList q.1 p.1 || p.2.all (fun r=>!q.2.contains r)) then some ⟨s.n,kn5 fs s.tmps,hs.heap,hs.k,hs.lg⟩ else none
      | none=>none)
  else none
noncomputable def drzE (C:Cx) (ih:EvT) (mu:Bool) (ops:Array Oper) (s:XS):Option XS:=match drzA C ih mu ops s (esOf C.nf mu ops.toList 0) with
  | some r=>some r
  | none=>match drzA C ih mu ops s (esOf C.nf true ops.toList 0) with
    | some r=>some r
    | none=>match drzA C ih mu ops s (esOf [] mu ops.toList 0) with
      | some r=>some r
      | none=>drzA C ih mu ops s (esOf [] true ops.toList 0)
noncomputable def evB (C:Cx) (ih:EvT):EvT:=fun mu c s=>match c with
  | .skip=>some (.normal,s)
  | .region _ ops false=>match opsE C ih mu ops ops.toList s with
    | some s1=>some (.normal,s1)
    | none=>none
  | .region _ ops true=>match drzE C ih mu ops s with
    | some s1=>some (.normal,s1)
    | none=>none
  | .seq x y=>match ih mu x s with
    | some (.normal,s1)=>ih mu y s1
    | r=>r
  | .cond c x y=>match s.E c with
    | .fz (.atom (.bool b))=>ih mu (bif b then x else y) s
    | _=>none
  | .block id x=>match ih mu x s with
    | some (.exit i,s1)=>bif Nat.beq i id then some (.normal,s1) else some (.exit i,s1)
    | r=>r
  | .loop x=>match ih mu x s with
    | some (.normal,s1)=>ih mu (.loop x) s1
    | r=>r
  | .exit i=>some (.exit i,s)
  | .ret=>some (.ret,s)
  | .scope x=>ih mu x s
  | _=>none
noncomputable def ev (C:Cx) (n:Nat):EvT:=Nat.rec (motive:=fun _=>EvT) (fun _ _ _=>none) (fun _ ih=>evB C ih) n
noncomputable def runE (C:Cx) (n f:Nat) (args:List FV):Option FV:=match kt8 C (ev C n) f (args.map .fz) [] 0 [] with
  | some (y,s1)=>frz s1.H false 1000 y
  | none=>none
variable {P:Program} {w w':World} {a:Act}
theorem kaap (fn: Func) {fn2: Func} (f: FuncId) (cvals: List Value) {t1 t2: Nat} {c2: Code} (R: Ending -> World -> Prop) (u: a.defers = [dfn f cvals]) (hf: P.funcs[f]? = some fn2) (x: kkn fn2 = some (t1, t2, c2)) (hn: (fn2.name == "runtime.NumGoroutine") = false) (z: cvals.length <= fn2.ntmps) (h:c2.wp P (fun e2 a2 w2=>(e2 = .normal\/e2 = .ret)/\a2.defers=[]/\∃ v,(results fn a.tmps).run P w2 = .ok v w2/\R (.returned v) w2)
      (((⟨cvals.toArray++Array.replicate (fn2.ntmps - cvals.toArray.size) undef,[]⟩:Act).put (some t1) .nilIface).put (some t2) .nilIface) w'):
    Leaves P fn a.tmps R a.defers .returning w':=by
  obtain ⟨id,os,o1,c1,b,p1,p2,p3,p4,p5,n1,n2,nres,c⟩:=krq x;rw [u];have k:fn2.body≠none:=by rw [b];simp
  simp only [beq_eq_false_iff_ne,ne_eq] at hn;refine leaves_cons (f:=f) (args:=cvals.toArray) (fun A=>by cases A) (by simp [invoke,callFunc,hf,k,hn]) ?_;refine callsD_of_wpS hf b fun c₀ cs hm=>?_;have m:(cvals.toArray++Array.replicate (fn2.ntmps - cvals.toArray.size) undef).size=fn2.ntmps:=by simp;omega
  let a0:Act:={ tmps:=cvals.toArray++Array.replicate (fn2.ntmps - cvals.toArray.size) undef,defers:=[] }
  let a2:Act:=(a0.put (some t1) .nilIface).put (some t2) .nilIface
  have g:∀ (R2:Ending->FrameMode->World->Prop),(∀ v w'',Leaves P fn a.tmps R [] .returning w''->R2 (.returned v) .returning w'') ->
      c2.wp P (fun e a' w''=>bodyPostS P fn2 c₀ cs R2 e a' ({ c₀ with mode := .returning }::cs) w'') a2 w':=by
    intro R2 B;refine wp_mono h ?_;rintro e2 a'' w'' ⟨o,p,v,hv,hr⟩;have i:a''.defers=[]/\∃ u'',({ c₀ with mode := .returning }::cs:List Frame)={ c₀ with mode:=u'' }::cs/\∃ v,(results fn2 a''.tmps).run P w'' = .ok v w''/\R2 (.returned v) u'' w'':=
      ⟨p, .returning,rfl, .tuple #[],by simp [results,nres],B _ _ ⟨v,hv,hr⟩⟩
    rcases o with rfl | rfl <;> exact i
  refine wpS_seq (wpS_region ?_);have q:∀ (a:Act) (w:World),(execOp a.eval o1).run P w = .ok .recover w:=fun a w=>by obtain ⟨cc,as_,ts⟩:=c1;simp only at p2 p3;subst p2 p3;simp [execOp,p1,resolve,invoke,builtin]
  have r:∀ y,Region.wanted o1 y=true:=fun y=>by simp [Region.wanted,p5]
  have key:∀ (cs':List Frame) (Q:Exit->Act->List Frame->World->Prop),(Q .normal a2 cs' w'->os[0]?=some o1/\∃ l,List.range os.size=0::l/\wpOpsS P os Q l (a0.put (some t1) .nilIface) cs' w'):=fun cs' Q hQ=>by
    rcases c with ⟨o2,rfl,q1,q2,q3⟩ | ⟨rfl,rfl⟩
    · refine ⟨rfl,[1],rfl,?_⟩
      have s:∀ y,Region.wanted o2 y=true:=fun y=>(by simp [Region.wanted,q3]);unfold wpOpsS;simp only [qbu,qac,List.getElem?_cons_zero,s,if_true];have hv:(execOp (a0.put (some t1) .nilIface).eval o2).run P w' = .ok (.value .nilIface) w':=(by have:(a0.put (some t1) .nilIface).eval (.tmp t1) = .nilIface:=(by show (a0.put (some t1) .nilIface).tmps.getD t1 undef = .nilIface;rw [kkc (some t1) fn2.ntmps t1 m (by intro t ht;injection ht with ht;omega),qt rfl]);simp [execOp,q1,this]);rw [hv];simp only [Oper.upon,q2];unfold wpOpsS;exact hQ
    · refine ⟨rfl,[],rfl,?_⟩
      unfold wpOpsS;have C:a2=a0.put (some t2) .nilIface:=(by show (a0.put (some t2) .nilIface).put (some t2) .nilIface=a0.put (some t2) .nilIface;simp [Act.put]);rw [<- C];exact hQ
  have j:recoverD (c₀::cs)=none:=by simp [recoverD,hm]
  have go:∀ (Q:Exit->Act->List Frame->World->Prop),Q .normal a2 (c₀::cs) w'->wpOpsS P os Q (List.range os.size) a0 (c₀::cs) w':=fun Q hQ=>by obtain ⟨k1,l,k2,k3⟩:=key (c₀::cs) Q hQ;rw [k2];unfold wpOpsS;simp only [k1,r,if_true];rw [q];simp only [j,p4];exact k3
  refine go _ ?_;show c2.wpS P _ a2 (c₀::cs) w';refine wpS_of_wp ?_;have hc:(c₀::cs)=({ c₀ with mode := .returning }::cs:List Frame):=by rw [<- hm]
  rw [hc];exact g _ fun v w'' hl=>hl
variable {F S0:Nat->Prop} {N0:Nat} {S S':Nat->Prop} {ψ ψ':Env} {K:Nat->Prop} {T:List (TypeId×TD)} {Z:List (TypeId×Value)} {o:Oper} {st:St} {t tx:TypeId} {d:TD} {id:Nat} {c:AV}
theorem kam {α:Type} {b:Bool} {x:Option α} {y:α} (h:(bif b then x else none)=some y):b=true/\x=some y:=by
  cases b with
  | false=>cases h
  | true=>exact ⟨rfl,h⟩
theorem kaal (g:TOk P T) {s:TypeId} {x:Operand} {f:Nat} (ho:o.op = .fieldAddr s x f) (h:fldE T st.eval (kaa st.heap) s x f=some c):NStep P o st c:=by
  unfold fldE at h;split at h
  · rename_i d i
    split at h
    · rename_i fs hk
      split at h
      · rename_i ft off hf
        split at h
        · rename_i df b
          cases a:Nat.beq df.size 0 with
          | true=>rw [a] at h;cases h
          | false=>
            rw [a] at h;exact k7w ho (g.get i) hk hf (g.get b) (fun e=>by rw [e] at a;cases a) h
        · cases h
      · cases h
    · cases h
  · cases h
theorem kabr (f:TOk P T) {x y:Operand} (ho:o.op = .indexAddr t x y) (h:idxE T st.eval (kaa st.heap) t x y=some c):NStep P o st c:=by
  unfold idxE at h;split at h
  · rename_i d k i j hy
    replace h:=kam h;obtain ⟨h0,h⟩:=h;have h0:0<=i:=(by simpa using h0);split at h
    · rename_i e hk
      split at h
      · rename_i de a
        split at h
        · rename_i id g off len cap p
          split at h
          · rename_i g' cells l
            replace h:=kam h;obtain ⟨b,h⟩:=h;simp only [qo,qa3] at b;obtain rfl:=qf b.1;injection h with h;subst h;exact kacm ho (f.get j) hk (f.get a) p l hy h0 b.2
          · cases h
        · split at h
          · rename_i xs hl
            split at h
            · rename_i z m
              replace h:=kam h;obtain ⟨b,h⟩:=h;injection h with h;subst h;exact k28 ho (f.get j) hk (f.get a) hl (fun z m=>qf (qk.1 b z m)) hy h0 m rfl
            · cases h
          · cases h
      · cases h
    · rename_i n e hk
      split at h
      · rename_i de a
        replace h:=kam h;obtain ⟨b,h⟩:=h;exact kac0 ho (f.get j) hk (f.get a) hy h0 (by simpa using b) h
      · cases h
    · cases h
  · cases h
theorem kabg (e:TOk P T) {x y:Operand} (ho:o.op = .index t x y) (h:bytE T st.eval (kaa st.heap) t x y=some c):NStep P o st c:=by
  unfold bytE at h;split at h
  · rename_i d s k i f g hy
    split at h
    · rename_i hk
      replace h:=kam h;obtain ⟨h0,h⟩:=h;split at h
      · rename_i b j
        injection h with h;subst h;have a:s.data[i.toNat]?=some b:=(by simpa using j);exact k6m ho (e.get f) hk g hy (by simpa using h0) (c:=b) (by obtain ⟨hl,a⟩:=qar.1 a;rw [<- a];exact getElem?_pos s i.toNat hl)
      · cases h
    · cases h
  · cases h
theorem k93 {s:BA} {l h:Nat} (h1:l<=h) (a:h<=s.size):cutB s l h=s.extract l h:=by apply ByteArray.ext;rw [ByteArray.data_extract];apply qbh;simp [cutB,Array.toList_extract,List.extract_eq_take_drop,List.drop_take]
theorem kyz (s:BA):kok s=s.size:=by unfold kok;rw [qav];rfl
theorem kab5 {x:Operand} {lo hi:Option Operand} {s:BA} {L H:Nat} (ho:o.op = .slice t x lo hi none) (e:TdOk P t d) (hk:d.kind = .str) (f:st.eval x = .fz (.atom (.string s))) (hl:kcn st 0 lo=some L) (c:kcn st (kok s) hi=some H) (h1:L<=H) (b:H<=kok s):
    NStep P o st (.fz (.atom (.string (cutB s L H)))):=by
  intro ψ S a w ht g;have hv:=Sim.eval_tmps ht x;rw [f] at hv;rw [kyz] at c b;have e1:=kh2 P w none false s.size s.size (ka9 ht hl) (ka9 ht c) (.inl ⟨rfl,rfl⟩) h1 b (qu _) (fun h=>by cases h);refine kad w (.string (s.extract L H)) ?_ ⟨kaf _,by rw [k93 h1 b];exact .fz (.atom rfl)⟩;simp only [Option.map_none] at e1;simp [execOp,ho,Instr.sliceAt,Instr.slice,run_underlying (e.str hk),hv.atom,e1]
theorem kabn (p:TOk P T) {x:Operand} {lo hi mx:Option Operand} (ho:o.op = .slice t x lo hi mx) (h:slcE T st.eval (kaa st.heap) t x lo hi mx=some c):NStep P o st c:=by
  unfold slcE at h;split at h
  · rename_i d q
    split at h
    · rename_i hk
      split at h
      · rename_i s l
        split at h
        · rename_i L H f i
          replace h:=kam h;obtain ⟨a,h⟩:=h;simp only [qo] at a;injection h with h;subst h;exact kab5 ho (p.get q) hk l f i (qi a.1) (qi a.2)
        · cases h
      · cases h
    · rename_i e hk
      split at h
      · rename_i de b
        split at h
        · rename_i id g off len k l
          split at h
          · rename_i g' cells L H M j f i m
            replace h:=kam h;obtain ⟨a,h⟩:=h;simp only [qo,qbm,qbq] at a;obtain ⟨b1,b2,b3,b4,b5⟩:=a;obtain rfl:=qf b1;injection h with h;subst h;exact n_slB ho p q hk b l j f i m (qi b2) (qi b3) (qi b4) (fun hm=>b5.elim (fun h=>by rw [hm] at h;cases h) fun h=>h)
          · cases h
        · rename_i id g len l
          split at h
          · rename_i g' cells L H j f i
            split at h
            · replace h:=kam h
              obtain ⟨a,h⟩:=h;simp only [qo] at a;obtain ⟨b1,b2,b3⟩:=a;obtain rfl:=qf b1;obtain rfl:=qf b2;injection h with h;subst h;exact n_slU ho p q hk b l j f i (qi b3)
            · rename_i y
              split at h
              · rename_i M m
                replace h:=kam h;obtain ⟨a,h⟩:=h;simp only [qo] at a;obtain ⟨b1,b2,b3,b4,b5⟩:=a;obtain rfl:=qf b1;injection h with h;subst h;exact n_slM ho p q hk b l j f i m (qi b2) (qi b3) (qi b4) b5
              · cases h
          · cases h
        · rename_i l
          split at h
          · rename_i f i m
            replace h:=kam h;obtain ⟨a,h⟩:=h;simp only [qbm,qbq] at a;injection h with h;subst h;exact n_sl0 ho p q hk b l f i m (fun hm=>a.elim (fun h=>by rw [hm] at h;cases h) fun h=>h)
          · cases h
        · split at h
          · rename_i s n xs hl
            split at h
            · rename_i L H f i
              replace h:=kam h;obtain ⟨a,h⟩:=h;simp only [qo] at a;obtain ⟨b1,b2,b3⟩:=a;obtain rfl:=qf b1;split at h
              · injection h with h
                subst h;exact n_slF ho p q hk b hl f i (qi b2) (qi b3)
              · rename_i y
                split at h
                · rename_i M m
                  replace h:=kam h;obtain ⟨a,h⟩:=h;simp only [qo] at a;obtain rfl:=qf a.1;injection h with h;subst h;exact kacf ho p q hk b hl f i m (qi b2) (qi b3) a.2
                · cases h
            · cases h
          · cases h
      · cases h
    · rename_i n e hk
      split at h
      · rename_i de id g off b l
        split at h
        · rename_i g' cells L H M j f i m
          replace h:=kam h;obtain ⟨a,h⟩:=h;simp only [qo,qbm,qbq] at a;obtain ⟨b1,b2,b3,b4,b5,b6⟩:=a;obtain rfl:=qf b1;injection h with h;subst h;exact kaag ho p q hk b l j f i m (qi b2) (qi b3) (qi b4) (fun hm=>b5.elim (fun h=>by rw [hm] at h;cases h) fun h=>h) (qi b6)
        · cases h
      · cases h
    · cases h
  · cases h
theorem kaak (f:TOk P T) {x:Operand} (ho:o.op = .call { callee := .builtin .len,args:=#[x],argTypes:=#[t] }) (h:lenE T st.eval (kaa st.heap) x t=some c):NStep P o st c:=by
  unfold lenE at h;split at h
  · rename_i d i
    split at h
    · rename_i e id g off len cap hk b
      split at h
      · rename_i g' cells a
        replace h:=kam h;obtain ⟨j,h⟩:=h;obtain rfl:=qf j;injection h with h;subst h;exact kacr ho (f.get i) hk b a
      · cases h
    · rename_i hk _
      split at h
      · rename_i n hn
        injection h with h;subst h;exact kwr ho (f.get i) hk hn
      · cases h
    · rename_i s hk b
      injection h with h;subst h;rw [kyz];exact kyj ho (f.get i) hk b
    · rename_i kt et id hk b
      split at h
      · rename_i kv a
        injection h with h;subst h;exact kacj ho (f.get i) hk b a
      · cases h
    · cases h
  · cases h
theorem kabi (a:TOk P T) {x:Operand} (ho:o.op = .call { callee := .builtin .cap,args:=#[x],argTypes:=#[t] }) (h:capE T st.eval (kaa st.heap) x t=some c):NStep P o st c:=by
  unfold capE at h;split at h
  · rename_i d b
    split at h
    · rename_i e hk
      split at h
      · rename_i de f
        split at h
        · rename_i m k ys hr
          injection h with h;subst h;exact kac7 ho (a.get b) hk hr
        · cases h
      · cases h
    · cases h
  · cases h
theorem k9q (b:TOk P T) {s:TypeId} {x:Operand} (ho:o.op = .convert s t x) (h:cnvE T st.eval (kaa st.heap) s t x=some c):NStep P o st c:=by
  unfold cnvE at h;split at h
  · rename_i ds d hs f
    split at h
    · rename_i k _ k' n hk g
      injection h with h;subst h;exact k57 b ho hs f hk g
    · rename_i u hk a g
      injection h with h;subst h;exact k3c b ho hs a f hk g
    · rename_i e hk a
      split at h
      · rename_i de i
        split at h
        · rename_i j
          split at h
          · rename_i n c' ys hr
            split at h
            · rename_i xs hi
              injection h with h;subst h;exact kaca b ho hs a i j f hk hr hi
            · cases h
          · cases h
        · cases h
      · cases h
    · cases h
  · cases h
theorem kadc (e:TOk P T) (f:ZOk P Z) {x y:Operand} {ok:Bool} (ho:o.op = .lookup t x y ok) (h:lkE T Z st.eval (kaa st.heap) t x y ok=some c):NStep P o st c:=by
  unfold lkE at h;split at h
  · rename_i d id k g i hy
    split at h
    · rename_i kt et hk
      split at h
      · rename_i kd kv a b
        replace h:=kam h;obtain ⟨j,h⟩:=h;split at h
        · rename_i r hr
          split at h
          · rename_i c' hc
            injection h with h;subst h;exact k5c ho e f g hk a i b hy j hr (by cases r <;> exact hc)
          · cases h
        · cases h
      · cases h
    · cases h
  · cases h
theorem k54 (mx:Bool) {x y:Operand} {ts:Array TypeId} (ho:o.op = .call { callee := .builtin (bif mx then .max else .min),args:=#[x,y],argTypes:=ts }) (h:mmE st.eval (kaa st.heap) mx x y=some c):NStep P o st c:=by
  unfold mmE at h;split at h
  · rename_i k m k' n b hy
    replace h:=kam h;obtain ⟨a,h⟩:=h;have a:k=k':=(by simpa using a);subst a;injection h with h;subst h;cases mx with
    | false=>exact k9d ho b hy
    | true=>exact k9h ho b hy
  · cases h
theorem k8i {x:Operand} {yt:TypeId} (ho:o.op = .binOp .neq t x (.const .nilIface) yt) (a:TdOk P t d) (hk:d.kind = .ifc) (b:st.eval x = .fz (.atom .nilIface)):NStep P o st (.fz (.atom (.bool false))):=
  kn4 true true ho a hk b (.inr ⟨rfl,rfl⟩)
theorem k4k (c:TOk P T) (a:kl2 T t=true):P.underlying t=some .bool:=by
  unfold kl2 at a;split at a
  · rename_i d f
    split at a
    · rename_i hk
      obtain ⟨_,e,h1,b⟩:=c.get f;rw [hk] at b;cases e <;> simp [kdd] at b;exact h1
    · cases a
  · cases a
theorem k3l (a:TOk P T) {op:BinOp} {x y:Operand} {yt:TypeId} {r:Bool} (ho:o.op = .binOp op t x y yt) (b:(r=true/\st.eval x = .fz (.atom nilV))\/(r=false/\((∃ id g off len cap cells,st.eval x = .bsl id g off len cap/\objC st id=some (g,cells))\/∃ s n z zs,lstX (st.eval x)=some (s,n,z::zs)))) (hy:st.eval y = .fz (.atom nilV))
    (h:binE.nilE T op t r=some c):NStep P o st c:=by
  unfold binE.nilE at h;split at h
  · rename_i d f
    split at h
    · rename_i e hk
      injection h with h;subst h;exact k52 false r ho ((a.get f).slice hk) b hy
    · rename_i e hk
      injection h with h;subst h;exact k52 true r ho ((a.get f).slice hk) b hy
    · cases h
  · cases h
theorem kabx {z:AV} {r:Bool} (h:nilX (kaa st.heap) z=some r):(r=true/\z = .fz (.atom nilV))\/(r=false/\((∃ id g off len cap cells,z = .bsl id g off len cap/\objC st id=some (g,cells))\/∃ s n x xs,lstX z=some (s,n,x::xs))):=by
  unfold nilX at h;split at h
  · injection h with h;exact .inl ⟨h.symm,rfl⟩
  · rename_i id g off len cap
    split at h
    · rename_i g' cells a
      replace h:=kam h;obtain ⟨b,h⟩:=h;obtain rfl:=qf b;injection h with h;exact .inr ⟨h.symm, .inl ⟨id,g,off,len,cap,cells,rfl,a⟩⟩
    · cases h
  · split at h
    · rename_i s n x xs hl
      injection h with h;exact .inr ⟨h.symm, .inr ⟨s,n,x,xs,hl⟩⟩
    · cases h
theorem kabl (b:TOk P T) {op:BinOp} {x y:Operand} {yt:TypeId} (ho:o.op = .binOp op t x y yt) (h:binE T st.eval (kaa st.heap) op t x y=some c):NStep P o st c:=by
  unfold binE at h;split at h
  · split at h
    · rename_i d e a
      split at h
      · rename_i hk
        injection h with h;subst h;exact k8i ho (b.get e) hk a
      · cases h
    · cases h
  · split at h
    · rename_i a hy
      exact k3l b ho (.inl ⟨rfl,a⟩) hy h
    · rename_i u v _ a hy
      split at h
      · rename_i r hr
        injection h with h;subst h;exact k49 (kl2 T t) (fun f=>k4k b f) ho a hy hr
      · cases h
    · rename_i hy _ _
      split at h
      · rename_i r hr
        exact k3l b ho (kabx hr) hy h
      · cases h
    · cases h
theorem kabo {x:Operand} (ho:o.op = .entry x) (h:entE st.eval (kaa st.heap) x=some c):NStep P o st c:=by
  unfold entE at h;split at h
  · rename_i id e
    split at h
    · rename_i m since seen stepped a
      split at h
      · rename_i kv j b f
        split at h
        · rename_i p hp
          replace h:=kam h;obtain ⟨d,h⟩:=h;simp only [qo] at d;injection h with h;subst h;obtain ⟨ys,rfl⟩:∃ ys,seen=ys++[j]:=(by obtain ⟨ys,rfl⟩:=List.getLast?_eq_some_iff.1 f;exact ⟨ys,rfl⟩);rw [qf d.1] at a;exact k8r ho e a b hp d.2
        · cases h
      · cases h
    · cases h
  · cases h
theorem k6y (a:TOk P T) {parts:Array (Nat×Operand)} (ho:o.op = .build t parts) (h:k6l T st.eval t parts=some c):NStep P o st c:=k2w a ho h
theorem k3h (g:TOk P T) {n:Nat} {parts:Array (Nat×Operand)} (ho:o.op = .buildSlice t n parts) (h:litH T st.eval t n parts=some c):NStep P o st c:=by
  unfold litH at h;split at h
  · rename_i d i
    split at h
    · rename_i e hk
      split at h
      · rename_i de b
        split at h
        · rename_i xs f
          replace h:=kam h;obtain ⟨a,h⟩:=h;injection h with h;subst h;simp only [qo] at a;exact k88 ho (g.get i) hk (g.get b) (qi a.2.1) (qf a.1) (qi a.2.2) f
        · cases h
      · cases h
    · cases h
  · cases h
theorem kzf (a:TOk P T) (m:ZOk P Z) (h:nE T Z st.eval (kaa st.heap) o=some c):NStep P o st c:=by
  unfold nE at h;split at h
  · rename_i ho;exact kabl a ho h
  · rename_i t x ho
    split at h
    · rename_i d xs p k
      exact k9s ho (a.get p) k h
    · cases h
  · rename_i ho;exact kaal a ho h
  · rename_i ho;exact kacl ho h
  · rename_i ho;exact kabr a ho h
  · rename_i ho;exact kabg a ho h
  · rename_i ho;exact kabn a ho h
  · rename_i ho;exact k9q a ho h
  · rename_i ho;exact kadc a m ho h
  · rename_i ho;exact kabo ho h
  · rename_i cl ho
    obtain ⟨callee,args,tys⟩:=cl;simp only at h;split at h
    · rename_i x t e l
      rw [kkl e,kkl l] at ho;exact kaak a ho h
    · rename_i x t e l
      rw [kkl e,kkl l] at ho;exact kabi a ho h
    · rename_i x y e
      have:args=#[x,y]:=(by apply qbh;simpa using e);rw [this] at ho;exact k54 false ho h
    · rename_i x y e
      have:args=#[x,y]:=(by apply qbh;simpa using e);rw [this] at ho;exact k54 true ho h
    · cases h
  · rename_i x ho;injection h with h;subst h;exact kwf (.inl ho)
  · rename_i x ho;injection h with h;subst h;exact kwf (.inr ho)
  · rename_i cc x y ho
    split at h
    · rename_i b j
      injection h with h;subst h;exact k6e ho j
    · cases h
  · rename_i op t x ho
    split at h
    · rename_i u hu
      split at h
      · rename_i r hr
        injection h with h;subst h;exact n_un ho hu hr
      · cases h
    · cases h
  · rename_i x i ho
    exact kyg ho h
  · rename_i t parts ho
    exact k6y a ho h
  · rename_i t n parts ho
    exact k3h a ho h
  · rename_i f first cap ho
    cases j:first.isEmpty with
    | false=>
      rw [j] at h;cases g:cap.isEmpty with
      | false=>rw [g] at h;cases h
      | true=>
        rw [g] at h;have:cap=#[]:=(by simpa using g);subst this;simp only [qw,qr,qb] at h;subst h;exact k84 ho
    | true=>
      rw [j] at h;have:first=#[]:=by simpa using j
      subst this;simp only [qr,qb] at h;subst h;exact k61 ho
  · cases h
theorem k9a {dl:Dl} (h:(match nE T Z st.eval (kaa st.heap) o with | some c=>some (c,Dl.no) | none=>none)=some (c,dl)) (a:TOk P T) (b:ZOk P Z):StepA P o st c (kiq st id dl) (dIds st id dl):=by
  split at h
  · rename_i c' hc
    simp only [qb,qp] at h;obtain ⟨rfl,rfl⟩:=h;exact (kzf a b hc).step
  · cases h
theorem kxq (id:Nat) {i g:Nat} {cells cells':List AV} {x:AV} {dl:Dl} (a:objC st i=some (g,cells)) (h:setE (kaa st.heap) i x cells'=some (c,dl)):x=c/\kiq st id dl=putC st i cells'/\dIds st id dl=st.ids:=by
  unfold setE at h;split at h
  · rename_i ob ho
    simp only [qb,qp] at h;obtain ⟨rfl,rfl⟩:=h;unfold objC objH at a;rw [ho] at a;unfold putC;rw [ho];split at a
    · rename_i e cs b;injection b with b;subst b;exact ⟨rfl,rfl,rfl⟩
    · rename_i g e sz cs b;injection b with b;subst b;exact ⟨rfl,rfl,rfl⟩
    · cases a
  · cases h
theorem k9z (e:TOk P T) {x y:Operand} {dl:Dl} (ho:o.op = .store t x y) (h:stoE T st.eval (kaa st.heap) t x y=some (c,dl)):StepA P o st c (kiq st id dl) (dIds st id dl):=by
  unfold stoE at h;split at h
  · rename_i d i n off f j
    split at h
    · rename_i g cells a
      replace h:=kam h;obtain ⟨b,h⟩:=h;simp only [qo] at b;obtain ⟨b1,b2,b3,b4⟩:=b;obtain rfl:=qf b1;obtain ⟨rfl,e2,e3⟩:=kxq id a h;rw [e2,e3];exact k7y ho (e.get f) j a rfl (qf b2) b3 (qi b4)
    · cases h
  · cases h
theorem kaaz (g:TOk P T) {x y:Operand} {dl:Dl} (a:st.ids.contains id=false) (ho:o.op = .makeSlice t x y) (h:mksE T st.eval (kaa st.heap) t id x y=some (c,dl)):StepA P o st c (kiq st id dl) (dIds st id dl):=by
  unfold mksE at h;split at h
  · rename_i d i
    split at h
    · rename_i e hk
      split at h
      · rename_i de b
        split at h
        · rename_i zv k n k' m j l hy
          replace h:=kam h;obtain ⟨f,h⟩:=h;simp only [qo,qa3] at f;obtain ⟨b1,b2,b3,b4,b5,b6⟩:=f;simp only [qb,qp] at h;obtain ⟨rfl,rfl⟩:=h;exact e_mkE ho g i hk b (qf b1) j b2 l hy b3 b4 b5 b6 a
        · cases h
      · cases h
    · cases h
  · cases h
theorem kaax (a:TOk P T) {mu:Bool} {n:Nat} {parts:Array (Nat×Operand)} {dl:Dl} (b:st.ids.contains id=false) (ho:o.op = .buildSlice t n parts) (h:litE T st.eval (kaa st.heap) mu t n id parts=some (c,dl)):StepA P o st c (kiq st id dl) (dIds st id dl):=by
  unfold litE at h;split at h
  · rename_i c' hc
    simp only [qb,qp] at h;obtain ⟨rfl,rfl⟩:=h;cases mu with
    | true=>cases hc
    | false=>exact (k3h a ho hc).step
  · split at h
    · rename_i d j
      split at h
      · rename_i e hk
        split at h
        · rename_i de f
          split at h
          · rename_i ys g
            replace h:=kam h;obtain ⟨i,h⟩:=h;simp only [qo] at i;obtain ⟨b1,b2,b3⟩:=i;simp only [qb,qp] at h;obtain ⟨rfl,rfl⟩:=h;exact kac2 ho (a.get j) hk (a.get f) (qi b2) (qf b1) (qi b3) g b
          · cases h
        · cases h
      · cases h
    · cases h
theorem kabj (e:TOk P T) {x y v:Operand} {dl:Dl} (ho:o.op = .mapUpdate t x y v) (h:mpuE T st.eval (kaa st.heap) t x y v=some (c,dl)):StepA P o st c (kiq st id dl) (dIds st id dl):=by
  unfold mpuE at h;split at h
  · rename_i d i k f g hy
    split at h
    · rename_i kt et hk
      split at h
      · rename_i kd kv a b
        replace h:=kam h;obtain ⟨j,h⟩:=h;split at h
        · rename_i kv' hp
          simp only [qb,qp] at h;obtain ⟨rfl,rfl⟩:=h;exact k1f ho e f hk a g b hy j hp
        · cases h
      · cases h
    · cases h
  · cases h
theorem k97 (e:TOk P T) {x:Operand} {dl:Dl} (a:st.ids.contains id=false) (ho:o.op = .range t x) (h:rngE T st.eval (kaa st.heap) t id x=some (c,dl)):StepA P o st c (kiq st id dl) (dIds st id dl):=by
  unfold rngE at h;split at h
  · rename_i d m f g
    split at h
    · rename_i kt et kv hk b
      simp only [qb,qp] at h;obtain ⟨rfl,rfl⟩:=h;exact k7a ho (e.get f) hk g b a
    · cases h
  · cases h
theorem kaa7 {x:Operand} {dl:Dl} (ho:o.op = .next x false) (h:nxtE st.eval (kaa st.heap) x=some (c,dl)):StepA P o st c (kiq st id dl) (dIds st id dl):=by
  unfold nxtE at h;split at h
  · rename_i i e
    split at h
    · rename_i m since seen stepped a
      split at h
      · rename_i kv b
        replace h:=kam h;obtain ⟨d,h⟩:=h;simp only [qo] at d;obtain ⟨b1,b2⟩:=d;rw [qf b1] at a;split at h
        · rename_i hl
          simp only [qb,qp] at h;obtain ⟨rfl,rfl⟩:=h;exact (k6v ho e a b (qi b2) hl).step
        · rename_i j hl
          split at h
          · rename_i p hp
            replace h:=kam h;obtain ⟨d,h⟩:=h;simp only [qb,qp] at h;obtain ⟨rfl,rfl⟩:=h;exact kaa5 ho e a b (qi b2) hl hp d
          · cases h
        · cases h
      · cases h
    · cases h
  · cases h
theorem k1r (i:TOk P T) {x y:Operand} {e:TypeId} {de:TD} {n:Nat} {ys:List AV} {dl:Dl} (a:st.ids.contains id=false) (ho:o.op = .call { callee := .builtin .append,args:=#[x,y],argTypes:=#[t,tx] }) (j:kac T t=some d) (hk:d.kind = .slice e) (b:kac T e=some de)
    (l:0<de.size) (f:de.zero.length=de.size) (hy:srcE T de.size st tx (st.eval y)=some (n,ys)) (h:appE.grow st.eval (kaa st.heap) id x e de n ys=some (c,dl)):StepA P o st c (kiq st id dl) (dIds st id dl):=by
  unfold appE.grow at h;split at h
  · rename_i m k xs p
    replace h:=kam h;obtain ⟨g,h⟩:=h;simp only [qo] at g;simp only [qb,qp] at h;obtain ⟨rfl,rfl⟩:=h;exact k6g ho i j hk b l f p hy (by simpa [Nat.blt_eq] using g.1) (qi g.2) a
  · cases h
theorem kaby (l:TOk P T) {x y:Operand} {dl:Dl} (p:st.ids.contains id=false) (ho:o.op = .call { callee := .builtin .append,args:=#[x,y],argTypes:=#[t,tx] }) (h:appE T st.eval (kaa st.heap) t tx id x y=some (c,dl)):StepA P o st c (kiq st id dl) (dIds st id dl):=by
  unfold appE at h;split at h
  · rename_i d q
    split at h
    · rename_i e hk
      split at h
      · rename_i de b
        split at h
        · rename_i ys0 hy
          split at h
          · rename_i r hr
            obtain ⟨m,cc,xs⟩:=r;simp only [qb,qp] at h;obtain ⟨rfl,rfl⟩:=h;exact (kac5 ho l q hk b hr hy).step
          · cases h
        · rename_i n ys _ hy
          replace h:=kam h;obtain ⟨s,h⟩:=h;simp only [qo] at s;have v:=qi s.1;have j:=qf s.2;split at h
          · rename_i i g off m u
            split at h
            · rename_i g' e' sz cells f
              replace h:=kam h;obtain ⟨a,h⟩:=h;simp only [qo] at a;obtain ⟨b1,b2,b3,b4,b5,b6⟩:=a;obtain rfl:=qf b1;obtain rfl:=qf b2;obtain rfl:=qf b3;obtain rfl:=qf b4;simp only [qb,qp] at h;obtain ⟨rfl,rfl⟩:=h;exact kabk ho l q hk b j u f (qf b5) hy (qi b6)
            · cases h
          · rename_i i g off m k u
            cases hr:Nat.ble (m+n) k with
            | true=>
              rw [hr] at h;simp only [qr] at h;split at h
              · rename_i g' cells f
                replace h:=kam h;obtain ⟨a,h⟩:=h;simp only [qo] at a;obtain rfl:=qf a.1;obtain ⟨rfl,e2,e3⟩:=kxq id f h;rw [e2,e3];exact k5u ho l q hk b u f hy (qi hr) (qi a.2)
              · cases h
            | false=>
              rw [hr] at h;exact k1r l p ho q hk b v j hy h
          · exact k1r l p ho q hk b v j hy h
        · cases h
      · cases h
    · cases h
  · cases h
theorem k9t (j:TOk P T) {x y:Operand} {dl:Dl} (ho:o.op = .call { callee := .builtin .copy,args:=#[x,y],argTypes:=#[t,tx] }) (h:cpyE T st.eval (kaa st.heap) t x y=some (c,dl)):StepA P o st c (kiq st id dl) (dIds st id dl):=by
  unfold cpyE at h;split at h
  · rename_i d k
    split at h
    · rename_i e hk
      split at h
      · rename_i de b
        split at h
        · rename_i i g off len cap n c2 ys l hy
          split at h
          · rename_i g' cells a
            replace h:=kam h;obtain ⟨f,h⟩:=h;simp only [qo] at f;obtain rfl:=qf f.1;obtain ⟨rfl,e2,e3⟩:=kxq id a h;rw [e2,e3];exact kaaf ho j k hk b l a hy (qi f.2)
          · cases h
        · cases h
      · cases h
    · cases h
  · cases h
theorem sE_ok (b:TOk P T) (i:ZOk P Z) {mu:Bool} {dl:Dl} (a:st.ids.contains id=false) (h:sE T Z st.eval (kaa st.heap) mu id o=some (c,dl)):StepA P o st c (kiq st id dl) (dIds st id dl):=by
  unfold sE at h;split at h
  · rename_i e x ho
    replace h:=kam h;obtain ⟨j,h⟩:=h;simp only [qb,qp] at h;obtain ⟨rfl,rfl⟩:=h;exact k89 ho rfl j a
  · rename_i e ho
    split at h
    · rename_i d k
      split at h
      · rename_i cells l
        simp only [qb,qp] at h;obtain ⟨rfl,rfl⟩:=h;exact kxl ho (b.get k) l a
      · cases h
    · cases h
  · rename_i ho;exact k9z b ho h
  · rename_i ho;exact kaaz b a ho h
  · rename_i ho;exact kaax b a ho h
  · rename_i ho
    simp only [qb,qp] at h;obtain ⟨rfl,rfl⟩:=h;exact k4n ho a
  · rename_i ho;exact kabj b ho h
  · rename_i ho;exact k97 b a ho h
  · rename_i ho;exact kaa7 ho h
  · rename_i cl ho
    obtain ⟨callee,args,tys⟩:=cl;simp only at h;split at h
    · rename_i x y t tx f g
      have e1:args=#[x,y]:=(by apply qbh;simpa using f);have e2:tys=#[t,tx]:=(by apply qbh;simpa using g);rw [e1,e2] at ho;exact kaby b a ho h
    · rename_i x y t tx f g
      have e1:args=#[x,y]:=(by apply qbh;simpa using f);have e2:tys=#[t,tx]:=(by apply qbh;simpa using g);rw [e1,e2] at ho;exact k9t b ho h
    · exact k9a h b i
  · exact k9a h b i
end Go.Proofs.YtnlhjbnpjefjgabGreatDoor
