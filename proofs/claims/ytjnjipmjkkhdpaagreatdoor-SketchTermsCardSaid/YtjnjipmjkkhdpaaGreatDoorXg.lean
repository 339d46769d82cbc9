import Derived.Test.YtjnjipmjkkhdpaaGreatDoorXd
set_option linter.all false
namespace Go.Proofs.YtjnjipmjkkhdpaaGreatDoor
open Go Go.RowKit
inductive Dl where
  | no
  | new (ob:AObj)
  | upd (id:Nat) (ob:AObj)
def kii (st:St) (id:Nat):Dl->List (Nat×AObj)
  | .no=>st.heap
  | .new ob=>(id,ob)::st.heap
  | .upd i ob=>(i,ob)::st.heap
def dIds (st:St) (id:Nat):Dl->List Nat
  | .new _=>id::st.ids
  | _=>st.ids
def kmk (E:Operand->AV) (ps:Array (Nat×Operand)):List (Nat×AV):=ps.toList.map fun p=>(p.1,E p.2)
def k4s (T:List (TypeId×TD)) (E:Operand->AV) (t:TypeId) (parts:Array (Nat×Operand)):Option AV:=match kac T t with
  | some d=>match d.kind,kny d with
    | .st fs,some zs=>match kmx T fs with
      | some ps=>(kn9 (fun i:Nat=>ps[i]?) zs (kmk E parts)).map aggA
      | none=>none
    | .arr _ e,some zs=>match kac T e with
      | some de=>(kn9 (fun i:Nat=>some (i*de.size,de.size)) zs (kmk E parts)).map aggA
      | none=>none
    | _,_=>none
  | none=>none
def litH (T:List (TypeId×TD)) (E:Operand->AV) (t:TypeId) (n:Nat) (parts:Array (Nat×Operand)):Option AV:=match kac T t with
  | some d=>match d.kind with
    | .slice e=>match kac T e with
      | some de=>match kkh de.size 0 (kmk E parts) with
        | some xs=>bif Nat.beq xs.length n && (Nat.ble 1 de.size && Nat.ble (n*de.size) 16777216) then some (.lim de.size n xs) else none
        | none=>none
      | none=>none
    | _=>none
  | none=>none
def fldE (T:List (TypeId×TD)) (E:Operand->AV) (H:Nat->Option AObj) (s:TypeId) (x:Operand) (f:Nat):Option AV:=match kac T s with
  | some d=>match d.kind with
    | .st fs=>match fs[f]? with
      | some (ft,off)=>match kac T ft with
        | some df=>bif Nat.beq df.size 0 then none else kqf H off (E x)
        | none=>none
      | none=>none
    | _=>none
  | none=>none
def idxE (T:List (TypeId×TD)) (E:Operand->AV) (H:Nat->Option AObj) (t:TypeId) (x y:Operand):Option AV:=match kac T t,E y with
  | some d, .fz (.atom (.int _ i))=>bif decide (0<=i) then (match d.kind with
    | .slice e=>match kac T e with
      | some de=>match E x with
        | .bsl id g off len _=>match objH H id with
          | some (g',_)=>bif Nat.beq g g' && decide (i<len) then some (.ref id g (off+i.toNat*de.size)) else none
          | none=>none
        | z=>match kjf z with
          | some xs=>match xs[i.toNat]? with
            | some z=>bif xs.all (fun z=>Nat.beq z.cells.length de.size) then some (.fz (.fp z.cells)) else none
            | none=>none
          | none=>none
      | none=>none
    | .arr n e=>match kac T e with
      | some de=>bif decide (i<n) then kqf H (i.toNat*de.size) (E x) else none
      | none=>none
    | _=>none) else none
  | _,_=>none
def bytE (T:List (TypeId×TD)) (E:Operand->AV) (H:Nat->Option AObj) (t:TypeId) (x y:Operand):Option AV:=match kac T t,E x,E y with
  | some d, .fz (.atom (.string s)), .fz (.atom (.int _ i))=>match d.kind with
    | .str=>bif decide (0<=i) then (match s.data.toList[i.toNat]? with
      | some c=>some (.fz (.atom (.int .u8 c.toNat)))
      | none=>none) else none
    | _=>none
  | _,_,_=>none
def cutB (s:BA) (l h:Nat):BA:=⟨⟨(s.data.toList.take h).drop l⟩⟩
def kng (s:BA):Nat:=s.data.toList.length
def slcE (T:List (TypeId×TD)) (E:Operand->AV) (H:Nat->Option AObj) (t:TypeId) (x:Operand) (lo hi mx:Option Operand):Option AV:=match kac T t with
  | some d=>match d.kind with
    | .str=>match E x,mx with
      | .fz (.atom (.string s)),none=>match kd0 E 0 lo,kd0 E (kng s) hi with
        | some L,some H=>bif Nat.ble L H && Nat.ble H (kng s) then some (.fz (.atom (.string (cutB s L H)))) else none
        | _,_=>none
      | _,_=>none
    | .slice e=>match kac T e with
      | some de=>match E x with
        | .bsl id g off len (some k)=>match objH H id,kd0 E 0 lo,kd0 E len hi,kd0 E k mx with
          | some (g',_),some L,some H,some M=>bif Nat.beq g g' && (Nat.ble L H && (Nat.ble H M && (Nat.ble M k && (!mx.isSome || hi.isSome)))) then some (.bsl id g (offE off L M de.size) (H - L) (some (M - L))) else none
          | _,_,_,_=>none
        | .bsl id g 0 len none=>match objH H id,kd0 E 0 lo,kd0 E len hi with
          | some (g',_),some L,some H=>match mx with
            | none=>bif Nat.beq g g' && (Nat.beq L 0 && Nat.ble H len) then some (.bsl id g 0 H none) else none
            | some y=>match kd0 E 0 (some y) with
              | some M=>bif Nat.beq g g' && (Nat.ble L H && (Nat.ble H M && (Nat.ble M len && hi.isSome))) then some (.bsl id g (offE 0 L M de.size) (H - L) (some (M - L))) else none
              | none=>none
          | _,_,_=>none
        | .fz (.atom (.slice none 0 0))=>match kd0 E 0 lo,kd0 E 0 hi,kd0 E 0 mx with
          | some 0,some 0,some 0=>bif !mx.isSome || hi.isSome then some (.fz (.atom nilV)) else none
          | _,_,_=>none
        | z=>match lstX z with
          | some (s,n,xs)=>match kd0 E 0 lo,kd0 E n hi with
            | some L,some H=>bif Nat.beq s de.size && (Nat.ble L H && Nat.ble H n) then (match mx with
              | none=>some (.fz (.lst de.size (H - L) ((xs.take H).drop L)))
              | some y=>match kd0 E 0 (some y) with
                | some M=>bif Nat.beq M H && hi.isSome then some (.lim de.size (H - L) ((xs.take H).drop L)) else none
                | none=>none) else none
            | _,_=>none
          | none=>none
      | none=>none
    | .arr n e=>match kac T e,E x with
      | some de, .ref id g off=>match objH H id,kd0 E 0 lo,kd0 E n hi,kd0 E n mx with
        | some (g',_),some L,some H,some M=>bif Nat.beq g g' && (Nat.ble L H && (Nat.ble H M && (Nat.ble M n && ((!mx.isSome || hi.isSome) && Nat.ble n 9223372036854775807)))) then some (.bsl id g (offE off L M de.size) (H - L) (some (M - L))) else none
        | _,_,_,_=>none
      | _,_=>none
    | _=>none
  | none=>none
def lenE (T:List (TypeId×TD)) (E:Operand->AV) (H:Nat->Option AObj) (x:Operand) (t:TypeId):Option AV:=match kac T t with
  | some d=>match d.kind,E x with
    | .slice _, .bsl id g _ len _=>match objH H id with
      | some (g',_)=>bif Nat.beq g g' then some (.fz (.atom (.int .i64 len))) else none
      | none=>none
    | .slice _,z=>match lenOf z with
      | some n=>some (.fz (.atom (.int .i64 n)))
      | none=>none
    | .str, .fz (.atom (.string s))=>some (.fz (.atom (.int .i64 (kng s))))
    | .map _ _, .mp id=>match H id with
      | some (.xo (.amap kv))=>some (.fz (.atom (.int .i64 kv.length)))
      | _=>none
    | _,_=>none
  | none=>none
def capE (T:List (TypeId×TD)) (E:Operand->AV) (H:Nat->Option AObj) (x:Operand) (t:TypeId):Option AV:=match kac T t with
  | some d=>match d.kind with
    | .slice e=>match kac T e with
      | some de=>match rdH H de.size (E x) with
        | some (_,some k,_)=>some (.fz (.atom (.int .i64 k)))
        | _=>none
      | none=>none
    | _=>none
  | none=>none
def cnvE (T:List (TypeId×TD)) (E:Operand->AV) (H:Nat->Option AObj) (s t:TypeId) (x:Operand):Option AV:=match kac T s,kac T t with
  | some ds,some d=>match d.kind,ds.kind,E x with
    | .int k,_, .fz (.atom (.int _ n))=>some (.fz (.atom (.int k (k.wrap n))))
    | .str, .str, .fz (.atom (.string u))=>some (.fz (.atom (.string u)))
    | .str, .slice e,z=>match kac T e with
      | some de=>match de.kind with
        | .int .u8=>match rdH H 1 z with
          | some (_,_,ys)=>match koo ys with
            | some xs=>some (.fz (.atom (.string (toBA xs))))
            | none=>none
          | none=>none
        | _=>none
      | none=>none
    | _,_,_=>none
  | _,_=>none
def lkE (T:List (TypeId×TD)) (Z:List (TypeId×Value)) (E:Operand->AV) (H:Nat->Option AObj) (t:TypeId) (x y:Operand) (ok:Bool):Option AV:=match kac T t,E x,E y with
  | some d, .mp id, .fz (.atom k)=>match d.kind with
    | .map kt et=>match kac T kt,H id with
      | some kd,some (.xo (.amap kv))=>bif keyK kd.kind k then (match ko9 k kv 0 with
        | some r=>match (match r with | some (_,z)=>some z | none=>(match ktk Z et with | some zv=>bif zv.oneCell' then some (AV.fz (.atom zv)) else none | none=>none)) with
          | some c=>some (bif ok then .tup [c, .fz (.atom (.bool r.isSome))] else c)
          | none=>none
        | none=>none) else none
      | _,_=>none
    | _=>none
  | _,_,_=>none
def nilX (H:Nat->Option AObj):AV->Option Bool
  | .fz (.atom (.slice none 0 0))=>some true
  | .bsl id g _ _ _=>match objH H id with
    | some (g',_)=>bif Nat.beq g g' then some false else none
    | none=>none
  | z=>match lstX z with
    | some (_,_,_::_)=>some false
    | _=>none
def binE (T:List (TypeId×TD)) (E:Operand->AV) (H:Nat->Option AObj) (op:BinOp) (t:TypeId) (x y:Operand):Option AV:=match op,y with
  | .neq, .const .nilIface=>match kac T t,E x with
    | some d, .fz (.atom .nilIface)=>match d.kind with
      | .ifc=>some (.fz (.atom (.bool false)))
      | _=>none
    | _,_=>none
  | _,_=>match E x,E y with
    | .fz (.atom (.slice none 0 0)), .fz (.atom (.slice none 0 0))=>nilE true
    | .fz (.atom u), .fz (.atom v)=>match binV (kk5 T t) op u v with
      | some r=>some (.fz (.atom r))
      | none=>none
    | z, .fz (.atom (.slice none 0 0))=>match nilX H z with
      | some r=>nilE r
      | none=>none
    | _,_=>none
where nilE (r:Bool):Option AV:=match kac T t with
  | some d=>match d.kind,op with
    | .slice _, .eql=>some (.fz (.atom (.bool r)))
    | .slice _, .neq=>some (.fz (.atom (.bool !r)))
    | _,_=>none
  | none=>none
def mmE (E:Operand->AV) (H:Nat->Option AObj) (mx:Bool) (x y:Operand):Option AV:=match E x,E y with
  | .fz (.atom (.int k m)), .fz (.atom (.int k' n))=>bif decide (k=k') then some (.fz (.atom (.int k (bif mx then imax m n else imin m n)))) else none
  | _,_=>none
def entE (E:Operand->AV) (H:Nat->Option AObj) (x:Operand):Option AV:=match E x with
  | .ref id 0 0=>match H id with
    | some (.xo (.mit m since seen stepped))=>match H m,seen.getLast? with
      | some (.xo (.amap kv)),some j=>match kv[j]? with
        | some p=>bif Nat.beq stepped kv.length && p.1.oneCell' then some (.tup [.fz (.atom p.1),p.2]) else none
        | none=>none
      | _,_=>none
    | _=>none
  | _=>none
def nxtE (E:Operand->AV) (H:Nat->Option AObj) (x:Operand):Option (AV×Dl):=match E x with
  | .ref id 0 0=>match H id with
    | some (.xo (.mit m since seen stepped))=>match H m with
      | some (.xo (.amap kv))=>bif Nat.beq since kv.length && Nat.ble kv.length stepped then (match kn6 seen kv.length with
        | []=>some (.fz (.tup [.atom (.bool false)]), .no)
        | [j]=>match kv[j]? with
          | some p=>bif p.1.oneCell' then some (.tup [.fz (.atom (.bool true)), .fz (.atom p.1),p.2], .upd id (.xo (.mit m kv.length (seen++[j]) kv.length))) else none
          | none=>none
        | _=>none) else none
      | _=>none
    | _=>none
  | _=>none
def nE (T:List (TypeId×TD)) (Z:List (TypeId×Value)) (E:Operand->AV) (H:Nat->Option AObj) (o:Oper):Option AV:=match o.op with
  | .binOp op t x y _=>binE T E H op t x y
  | .load t x=>match kac T t,kui H (E x) with
    | some d,some xs=>kjl d xs
    | _,_=>none
  | .fieldAddr s x f=>fldE T E H s x f
  | .nilCheck x=>kqf H 0 (E x)
  | .indexAddr t x y=>idxE T E H t x y
  | .index t x y=>bytE T E H t x y
  | .slice t x lo hi mx=>slcE T E H t x lo hi mx
  | .convert s t x=>cnvE T E H s t x
  | .lookup t x y ok=>lkE T Z E H t x y ok
  | .entry x=>entE E H x
  | .call c=>match c.callee,c.args.toList,c.argTypes.toList with
    | .builtin .len,[x],[t]=>lenE T E H x t
    | .builtin .cap,[x],[t]=>capE T E H x t
    | .builtin .min,[x,y],_=>mmE E H false x y
    | .builtin .max,[x,y],_=>mmE E H true x y
    | _,_,_=>none
  | .move x=>some (E x)
  | .assign x=>some (E x)
  | .pick c x y=>match E c with
    | .fz (.atom (.bool b))=>some (bif b then E x else E y)
    | _=>none
  | .unOp op _ x=>match E x with
    | .fz (.atom u)=>match unV op u with
      | some r=>some (.fz (.atom r))
      | none=>none
    | _=>none
  | .extract x i=>match E x with | .fz (.tup xs)=>(xs[i]?).map .fz | .tup xs=>xs[i]? | _=>none
  | .build t parts=>k4s T E t parts
  | .buildSlice t n parts=>litH T E t n parts
  | .makeFunc (.func f) first cap=>bif first.isEmpty then some (.fn f (cap.toList.map E)) else (bif cap.isEmpty then some (.mth f (first.toList.map E)) else none)
  | _=>none
def reC:AObj->List AV->AObj
  | .box e _,c => .box e c
  | .xo (.blk g e sz _),c => .xo (.blk g e sz c)
  | ob,_=>ob
def setE (H:Nat->Option AObj) (id:Nat) (c:AV) (cells:List AV):Option (AV×Dl):=match H id with
  | some ob=>some (c, .upd id (reC ob cells))
  | none=>none
def stoE (T:List (TypeId×TD)) (E:Operand->AV) (H:Nat->Option AObj) (t:TypeId) (x y:Operand):Option (AV×Dl):=match kac T t,E x with
  | some d, .ref id n off=>match objH H id with
    | some (g,cells)=>bif Nat.beq n g && (Nat.beq (E y).cells.length d.size && ((E y).cells.all AV.single && Nat.ble (off+(E y).cells.length) cells.length)) then setE H id .any (kbw cells off (E y).cells) else none
    | none=>none
  | _,_=>none
def mksE (T:List (TypeId×TD)) (E:Operand->AV) (H:Nat->Option AObj) (t:TypeId) (id:Nat) (x y:Operand):Option (AV×Dl):=match kac T t with
  | some d=>match d.kind with
    | .slice e=>match kac T e with
      | some de=>match de.zero,E x,E y with
        | zs, .fz (.atom (.int _ n)), .fz (.atom (.int _ c))=>bif Nat.ble 1 de.size && (Nat.beq zs.length de.size && (zs.all Value.oneCell' && (decide (0<=n) && (decide (n<=c) && (decide ((de.bytes:Int)*c<=281474976710656) && decide (c<=9223372036854775807)))))) then
            some (.bsl id 0 0 n.toNat (some c.toNat), .new (.xo (.blk 0 e de.size (repC c.toNat zs)))) else none
        | _,_,_=>none
      | none=>none
    | _=>none
  | none=>none
def litE (T:List (TypeId×TD)) (E:Operand->AV) (H:Nat->Option AObj) (mu:Bool) (t:TypeId) (n id:Nat) (parts:Array (Nat×Operand)):Option (AV×Dl):=match (bif mu then none else litH T E t n parts) with
  | some c=>some (c, .no)
  | none=>match kac T t with
    | some d=>match d.kind with
      | .slice e=>match kac T e with
        | some de=>match koj de.size 0 (kmk E parts) with
          | some ys=>bif Nat.beq parts.toList.length n && (Nat.ble 1 de.size && Nat.ble (n*de.size) 16777216) then some (.bsl id 0 0 n (some n), .new (.xo (.blk 0 e de.size ys))) else none
          | none=>none
        | none=>none
      | _=>none
    | none=>none
def mpuE (T:List (TypeId×TD)) (E:Operand->AV) (H:Nat->Option AObj) (t:TypeId) (x y v:Operand):Option (AV×Dl):=match kac T t,E x,E y with
  | some d, .mp id, .fz (.atom k)=>match d.kind with
    | .map kt _=>match kac T kt,H id with
      | some kd,some (.xo (.amap kv))=>bif keyK kd.kind k then (match vput k kv (E v) with
        | some kv'=>some (.any, .upd id (.xo (.amap kv')))
        | none=>none) else none
      | _,_=>none
    | _=>none
  | _,_,_=>none
def rngE (T:List (TypeId×TD)) (E:Operand->AV) (H:Nat->Option AObj) (t:TypeId) (id:Nat) (x:Operand):Option (AV×Dl):=match kac T t,E x with
  | some d, .mp m=>match d.kind,H m with
    | .map _ _,some (.xo (.amap kv))=>some (.ref id 0 0, .new (.xo (.mit m kv.length [] kv.length)))
    | _,_=>none
  | _,_=>none
def appE (T:List (TypeId×TD)) (E:Operand->AV) (H:Nat->Option AObj) (t tx:TypeId) (id:Nat) (x y:Operand):Option (AV×Dl):=match kac T t with
  | some d=>match d.kind with
    | .slice e=>match kac T e with
      | some de=>match srcH T H de.size tx (E y) with
        | some (0,_)=>match rdH H de.size (E x) with
          | some _=>some (E x, .no)
          | none=>none
        | some (n,ys)=>bif Nat.ble 1 de.size && Nat.beq de.zero.length de.size then (match E x with
          | .bsl i g off m none=>match H i with
            | some (.xo (.blk g' e' sz cells))=>bif Nat.beq off 0 && (Nat.beq g g' && (Nat.beq e e' && (Nat.beq sz de.size && (Nat.beq cells.length (m*de.size) && Nat.ble ((m+n)*(de.bytes+1)) 140737488355328)))) then
                some (.bsl i (g+1) 0 (m+n) none, .upd i (.xo (.blk (g+1) e de.size (cells++ys)))) else none
            | _=>none
          | .bsl i g off m (some k)=>bif Nat.ble (m+n) k then (match objH H i with
            | some (g',cells)=>bif Nat.beq g g' && Nat.ble (off+m*de.size+ys.length) cells.length then setE H i (.bsl i g off (m+n) (some k)) (kbw cells (off+m*de.size) ys) else none
            | none=>none) else grow e de n ys
          | _=>grow e de n ys) else none
        | none=>none
      | none=>none
    | _=>none
  | none=>none
where grow (e:TypeId) (de:TD) (n:Nat) (ys:List AV):Option (AV×Dl):=match rdH H de.size (E x) with
  | some (m,some k,xs)=>bif Nat.blt k (m+n) && Nat.ble ((m+n)*(de.bytes+1)) 140737488355328 then some (.bsl id 0 0 (m+n) none, .new (.xo (.blk 0 e de.size (xs++ys)))) else none
  | _=>none
def cpyE (T:List (TypeId×TD)) (E:Operand->AV) (H:Nat->Option AObj) (t:TypeId) (x y:Operand):Option (AV×Dl):=match kac T t with
  | some d=>match d.kind with
    | .slice e=>match kac T e with
      | some de=>match E x,rdH H de.size (E y) with
        | .bsl i g off len _,some (n,_,ys)=>match objH H i with
          | some (g',cells)=>bif Nat.beq g g' && Nat.ble (off+(ys.take (min n len*de.size)).length) cells.length then setE H i (.fz (.atom (.int .i64 ((min n len:Nat):Int)))) (kbw cells off (ys.take (min n len*de.size))) else none
          | none=>none
        | _,_=>none
      | none=>none
    | _=>none
  | none=>none
def sE (T:List (TypeId×TD)) (Z:List (TypeId×Value)) (E:Operand->AV) (H:Nat->Option AObj) (mu:Bool) (id:Nat) (o:Oper):Option (AV×Dl):=match o.op with
  | .box e x=>bif (E x).cells.all AV.single then some (.ref id 0 0, .new (.box e (E x).cells)) else none
  | .alloc e=>match kac T e with
    | some d=>match kny d with
      | some cells=>some (.ref id 0 0, .new (.box e cells))
      | none=>none
    | none=>none
  | .store t x y=>stoE T E H t x y
  | .makeSlice t x y=>mksE T E H t id x y
  | .buildSlice t n parts=>litE T E H mu t n id parts
  | .makeMap _ none=>some (.mp id, .new (.xo (.amap [])))
  | .mapUpdate t x y v=>mpuE T E H t x y v
  | .range t x=>rngE T E H t id x
  | .next x false=>nxtE E H x
  | .call c=>match c.callee,c.args.toList,c.argTypes.toList with
    | .builtin .append,[x,y],[t,tx]=>appE T E H t tx id x y
    | .builtin .copy,[x,y],[t,_]=>cpyE T E H t x y
    | _,_,_=>match nE T Z E H o with
      | some c=>some (c, .no)
      | none=>none
  | _=>match nE T Z E H o with
    | some c=>some (c, .no)
    | none=>none
def idsN:Nat->List Nat
  | 0=>[]
  | k+1=>k::idsN k
structure XS where
  n:Nat
  tmps:List (Nat×AV)
  heap:List (Nat×AObj)
  k:Nat
  lg:List Nat
def XS.st (s:XS) (D:List Deferred):St:=⟨s.n,s.tmps,s.heap,idsN s.k,D⟩
noncomputable def getQ (l:List (Nat×AV)) (t:Nat):AV:=List.rec (motive:=fun _=>AV) .any (fun p _ ih=>Bool.rec ih p.2 (Nat.beq p.1 t)) l
noncomputable def getO (l:List (Nat×AObj)) (t:Nat):Option AObj:=List.rec (motive:=fun _=>Option AObj) none (fun p _ ih=>Bool.rec ih (some p.2) (Nat.beq p.1 t)) l
noncomputable def kjk (l:List (Nat×AV)) (t:Nat) (v:AV):List (Nat×AV):=List.rec (motive:=fun _=>List (Nat×AV)) [(t,v)] (fun p l ih=>Bool.rec (p::ih) ((t,v)::l) (Nat.beq p.1 t)) l
noncomputable def krx (l:List (Nat×AObj)) (t:Nat) (v:AObj):List (Nat×AObj):=List.rec (motive:=fun _=>List (Nat×AObj)) [(t,v)] (fun p l ih=>Bool.rec (p::ih) ((t,v)::l) (Nat.beq p.1 t)) l
noncomputable def XS.E (s:XS) (x:Operand):AV:=match x with
  | .tmp t=>getQ s.tmps t
  | .const v=>kyp v
  | .global _ => .any
  | .func f => .fn f []
noncomputable def XS.H (s:XS):Nat->Option AObj:=getO s.heap
noncomputable def XS.put (s:XS) (d:Option Nat) (v:AV):XS:=match d with
  | some t=>{ s with tmps:=kjk s.tmps t v }
  | none=>s
noncomputable def XS.app (s:XS):Dl->XS
  | .no=>s
  | .new ob=>{ s with heap:=(s.k,ob)::s.heap,k:=s.k+1,lg:=s.k::s.lg }
  | .upd i ob=>{ s with heap:=krx s.heap i ob,lg:=i::s.lg }
def kxg:Value->Value->Bool
  | .int k m, .int k' n=>decide (k=k') && m == n
  | .string s, .string u=>s.toList == u.toList
  | .bool a, .bool b=>a == b
  | .slice none 0 0, .slice none 0 0=>true
  | .pointer none, .pointer none=>true
  | .map none, .map none=>true
  | .nilFunc, .nilFunc=>true
  | .nilIface, .nilIface=>true
  | _,_=>false
mutual
def eqFV:FV->FV->Bool
  | .atom v, .atom u=>kxg v u
  | .agg a, .agg b=>kf8 a b
  | .tup a, .tup b=>kf8 a b
  | .lst s n a, .lst s' n' b=>Nat.beq s s' && (Nat.beq n n' && kf8 a b)
  | .fp a, .fp b=>kf8 a b
  | .bx a, .bx b=>kf8 a b
  | _,_=>false
def kf8:List FV->List FV->Bool
  | [],[]=>true
  | a::l,b::m=>eqFV a b && kf8 l m
  | _,_=>false
end
def mkEl (sz:Nat) (xs:List FV):Option FV:=bif Nat.beq xs.length sz then (match xs with
  | [x]=>some x
  | xs=>some (.agg xs)) else none
def km4 (sz:Nat):Nat->List FV->Option (List FV)
  | 0,l=>match l with
    | []=>some []
    | _=>none
  | n+1,l=>match mkEl sz (l.take sz),km4 sz n (l.drop sz) with
    | some y,some r=>some (y::r)
    | _,_=>none
def atF:FV->Bool
  | .atom _=>true
  | .agg xs=>xs.all fun | .atom _=>true | _=>false
  | .tup xs=>xs.all fun | .atom _=>true | _=>false
  | _=>false
mutual
def frz (H:Nat->Option AObj) (fr:Bool):Nat->AV->Option FV
  | 0,_=>none
  | _+1, .fz x=>bif !fr || atF x then some x else none
  | _+1, .lim s n xs=>bif fr then none else some (.lst s n xs)
  | f+1, .agg cs=>match frzs H fr f cs with
    | some xs=>some (.agg xs)
    | none=>none
  | f+1, .tup cs=>match frzs H fr f cs with
    | some xs=>some (.tup xs)
    | none=>none
  | f+1, .bsl id g off len _=>match H id with
    | some (.xo (.blk g' _ sz cells))=>bif Nat.beq g g' then (match frzs H fr f ((cells.drop off).take (len*sz)) with
      | some xs=>match km4 sz len xs with
        | some ys=>some (.lst sz len ys)
        | none=>none
      | none=>none) else none
    | _=>none
  | _+1,_=>none
def frzs (H:Nat->Option AObj) (fr:Bool):Nat->List AV->Option (List FV)
  | 0,_=>none
  | _+1,[]=>some []
  | f+1,x::l=>match frz H fr f x,frzs H fr f l with
    | some y,some r=>some (y::r)
    | _,_=>none
end
def resE (T:List (TypeId×TD)) (E:Operand->AV) (H:Nat->Option AObj):ResultVar->Option AV
  | .tmp t=>some (E (.tmp t))
  | .cell x t=>match kac T t,kui H (E (.tmp x)) with
    | some d,some xs=>kjl d xs
    | _,_=>none
def krz (T:List (TypeId×TD)) (E:Operand->AV) (H:Nat->Option AObj):List ResultVar->Option (List AV)
  | []=>some []
  | r::rs=>match resE T E H r,krz T E H rs with
    | some y,some ys=>some (y::ys)
    | _,_=>none
def retE (T:List (TypeId×TD)) (E:Operand->AV) (H:Nat->Option AObj) (rs:List ResultVar):Option AV:=match krz T E H rs with
  | some [y]=>some y
  | some ys=>some (tupA ys)
  | none=>none
inductive FT where
  | lf
  | nd (k:Nat) (v:Func) (l r:FT)
noncomputable def FT.get (t:FT) (f:Nat):Option Func:=FT.rec (motive:=fun _=>Option Func) none (fun k v _ _ il ir=>Bool.rec (Bool.rec ir il (Nat.blt f k)) (some v) (Nat.beq k f)) t
structure Cx where
  T:List (TypeId×TD)
  Z:List (TypeId×Value)
  fn:FT
  mu:List Nat
  pu:List Nat
  fx:List (Nat×List FV×FV)
  ib:List Nat
  nf:List Nat
def ktp:List (Nat×List FV×FV)->Nat->List FV->Option FV
  | [],_,_=>none
  | (f,as_,r)::l,g,xs=>bif Nat.beq f g && kf8 as_ xs then some r else ktp l g xs
def kjt (E:Operand->AV) (f:Operand):Option (Nat×List AV×List AV):=match E f with
  | .fn f caps=>some (f,[],caps)
  | .mth f fst=>some (f,fst,[])
  | _=>none
abbrev EvT:=Bool->Code->XS->Option (Exit×XS)
def kn1 (c:UInt8):List UInt8->Nat->Int
  | [],_ => -1
  | x::l,i=>bif Nat.beq x.toNat c.toNat then (i:Int) else kn1 c l (i+1)
def kxc:Code->Option (Code×Nat×Oper×Oper×Nat×Code)
  | .seq x (.seq (.region rid os false) c)=>match os.toList with
    | [o1,o2]=>match o1.dst,o1.guard,o2.op,o2.dst,o2.guard with
      | some t,none, .defer cl,none,none=>match cl.callee,cl.args.toList with
        | .value (.tmp t'),[]=>bif Nat.beq t t' then some (x,rid,o1,o2,t,c) else none
        | _,_=>none
      | _,_,_,_,_=>none
    | _=>none
  | _=>none
def kxi:Exit->Bool
  | .ret=>true
  | .normal=>true
  | _=>false
def nilA:AV := .fz (.atom .nilIface)
noncomputable def k1w (C:Cx) (ih:EvT) (f:Nat) (fn:Func) (x:Code) (o1:Oper) (t:Nat) (c1:Code) (s0:XS):Option (AV×XS):=match ih (C.mu.contains f) x s0 with
  | some (.normal,s1)=>match nE C.T C.Z s1.E s1.H o1 with
    | some (.fn f2 caps)=>match C.fn.get f2 with
      | some fn2=>match kjv fn2 with
        | some (ta,tb,c2)=>match ih (C.mu.contains f) c1 (s1.put (some t) (.fn f2 caps)) with
          | some (e,s2)=>match (bif kxi e && Nat.ble caps.length fn2.ntmps then ih (C.mu.contains f2) c2 ⟨fn2.ntmps,kjk (kjk (argT 0 caps) ta nilA) tb nilA,s2.heap,s2.k,s2.lg⟩ else none) with
            | some (e2,s3)=>match (bif kxi e2 then retE C.T s2.E s3.H fn.results.toList else none) with
              | some y=>some (y,⟨s2.n,s2.tmps,s3.heap,s3.k,s3.lg⟩)
              | none=>none
            | none=>none
          | none=>none
        | none=>none
      | none=>none
    | _=>none
  | _=>none
noncomputable def krw (C:Cx) (ih:EvT) (f:Nat) (args:List AV) (heap:List (Nat×AObj)) (k:Nat) (lg:List Nat):Option (AV×XS):=match C.fn.get f with
  | some fn=>match fn.body with
    | some c=>match kxc c with
      | some (x,_,o1,_,t,c1)=>bif Nat.ble args.length fn.ntmps && Nat.blt t fn.ntmps then k1w C ih f fn x o1 t c1 ⟨fn.ntmps,argT 0 args,heap,k,lg⟩ else none
      | none=>match (bif Nat.ble args.length fn.ntmps then ih (C.mu.contains f) c ⟨fn.ntmps,argT 0 args,heap,k,lg⟩ else none) with
      | some (e,s1)=>match e,retE C.T s1.E s1.H fn.results.toList with
        | .ret,some y=>some (y,s1)
        | .normal,some y=>some (y,s1)
        | _,_=>none
      | none=>none
    | none=>none
  | none=>none
noncomputable def kw9 (C:Cx) (ih:EvT) (f:Nat) (xs:List FV):Option FV:=match ktp C.fx f xs with
  | some r=>some r
  | none=>bif C.pu.contains f then (match krw C ih f (xs.map .fz) [] 0 [] with
    | some (y,s1)=>frz s1.H false 1000 y
    | none=>none) else none
noncomputable def kw3 (C:Cx) (ih:EvT) (H:Nat->Option AObj) (f:Nat) (args:List AV):Option FV:=match kkb args with
  | some xs=>(match C.ib.contains f,xs with
    | true,[.atom (.string u), .atom (.int .u8 c)]=>some (FV.atom (.int .i64 (kn1 c.toNat.toUInt8 u.data.toList 0)))
    | _,_=>kw9 C ih f xs)
  | none=>match frzs (fun _=>none) false 1000 args with
   | some xs=>kw9 C ih f xs
   | none=>bif C.pu.contains f then (match frzs H false 1000 args with
    | some xs=>(match ktp C.fx f xs with
      | some r=>bif atF r then some r else none
      | none=>(match krw C ih f (xs.map .fz) [] 0 [] with
        | some (y,s1)=>frz s1.H true 1000 y
        | none=>none))
    | none=>none) else none
noncomputable def k8c (C:Cx) (ih:EvT) (s:XS) (f:Nat) (args:List AV):Option (AV×XS):=match kw3 C ih s.H f args with
  | some r=>some (.fz r,s)
  | none=>match krw C ih f args s.heap s.k s.lg with
    | some (y,s1)=>some (y,{ s with heap:=s1.heap,k:=s1.k,lg:=s1.lg })
    | none=>none
def dstE (n:Nat) (o:Oper):Bool:=match o.dst with
  | some t=>Nat.blt t n
  | none=>true
noncomputable def kra (ops:Array Oper) (E:Operand->AV) (o:Oper):Option Bool:=match o.guard with
  | none=>some true
  | some (j,want)=>match (ops[j]?).bind (·.dst) with
    | some t=>match E (.tmp t) with
      | .fz (.atom (.bool b))=>some (b == want)
      | .fz (.tup _)=>some false
      | _=>none
    | none=>none
def kxh (o:Oper):Option (Operand×List Operand):=match o.op with
  | .call c=>(match c.callee with
    | .value f=>some (f,c.args.toList)
    | _=>none)
  | _=>none
noncomputable def opE (C:Cx) (ih:EvT) (mu:Bool) (o:Oper) (s:XS):Option (AV×XS):=match kxh o with
  | some (f,as_)=>match kjt s.E f with
    | some (f,fst,caps)=>k8c C ih s f (fst++(as_.map s.E++caps))
    | none=>none
  | none=>match sE C.T C.Z s.E s.H mu s.k o with
    | some (c,dl)=>some (c,s.app dl)
    | none=>none
noncomputable def opsE (C:Cx) (ih:EvT) (mu:Bool) (ops:Array Oper) (l:List Oper):XS->Option XS:=List.rec (motive:=fun _=>XS->Option XS) (fun s=>some s) (fun o _ k s=>bif dstE s.n o then (match kra ops s.E o with
    | some true=>match opE C ih mu o s with
      | some (c,s1)=>k (s1.put o.dst c)
      | none=>none
    | some false=>k (s.put o.dst (.fz (.tup [])))
    | none=>none) else none) l
def isEs (nf:List Nat) (li:Bool) (o:Oper):Bool:=match o.op with
  | .alloc _=>true
  | .box _ _=>true
  | .store _ _ _=>true
  | .makeSlice _ _ _=>true
  | .makeMap _ _=>true
  | .mapUpdate _ _ _ _=>true
  | .range _ _=>true
  | .next _ _=>true
  | .buildSlice _ _ _=>li
  | .call c=>match c.callee with
    | .value (.func f)=>!nf.contains f
    | .value _=>true
    | .builtin .append=>true
    | .builtin .copy=>true
    | _=>false
  | _=>false
def esOf (nf:List Nat) (li:Bool):List Oper->Nat->List Nat
  | [],_=>[]
  | o::l,i=>bif isEs nf li o then i::esOf nf li l (i+1) else esOf nf li l (i+1)
def okN0 (k:Nat):AV->Bool
  | .fz _=>true
  | .lim _ _ _=>true
  | .any=>true
  | .ref id _ _=>Nat.blt id k
  | .mp id=>Nat.blt id k
  | .bsl id _ _ _ _=>Nat.blt id k
  | _=>false
def okN (k:Nat):AV->Bool
  | .agg cs=>cs.all (okN0 k)
  | .tup cs=>cs.all (okN0 k)
  | .fn _ cs=>cs.all (okN0 k)
  | .mth _ cs=>cs.all (okN0 k)
  | x=>okN0 k x
def idAV:AV->List Nat
  | .ref id _ _=>[id]
  | .mp id=>[id]
  | .bsl id _ _ _ _=>[id]
  | _=>[]
def krj (E:Operand->AV) (o:Oper):List Nat:=match o.op with
  | .move _=>[]
  | .assign _=>[]
  | .pick _ _ _=>[]
  | .build _ _=>[]
  | .buildSlice _ _ _=>[]
  | .makeFunc _ _ _=>[]
  | .extract _ _=>[]
  | _=>o.op.operands.toList.flatMap fun x=>idAV (E x)
def kmf (rf:List Nat):List (Nat×AObj)->List (Nat×AObj)
  | []=>[]
  | (k,v)::l=>bif rf.contains k then (k,v)::kmf rf l else kmf rf l
noncomputable def dz1 (C:Cx) (ih:EvT) (mu:Bool) (os:Array Oper) (L:List Oper) (n:Nat) (es:List Nat) (s0:XS) (i:Nat) (o:Oper) (fs:List (Nat×Option Nat×AV)) (hs:XS):Option (AV×XS×List Nat):=
  match (⟨s0.n,hadd fs (kf9 o) (khx L i n++s0.tmps),hs.heap,hs.k,hs.lg⟩:XS) with
  | v=>match kra os v.E o with
    | some false=>some (.fz (.tup []),hs,[])
    | some true=>bif es.contains i then (match opE C ih mu o v with
        | some (c,v1)=>some (c,v1,[])
        | none=>none)
      else (match kxh o with
        | some (f,as_)=>(match kjt v.E f with
          | some (f,fst,caps)=>(match kw3 C ih (bif phB L es i then v.H else fun _=>none) f (fst++(as_.map v.E++caps)) with
            | some r=>some (.fz r,hs,[])
            | none=>none)
          | none=>none)
        | none=>bif phB L es i then (match nE C.T C.Z v.E v.H o with
            | some c=>some (c,hs,[])
            | none=>none)
          else (match nE C.T C.Z v.E (getO (kmf (krj v.E o) s0.heap)) o with
            | some c=>bif okN s0.k c then some (c,hs,krj v.E o) else none
            | none=>none))
    | none=>none
noncomputable def dzE (C:Cx) (ih:EvT) (mu:Bool) (os:Array Oper) (L:List Oper) (n:Nat) (es:List Nat) (s0:XS):List Oper->Nat->List (Nat×Option Nat×AV)->XS->List (Nat×List Nat)->List (Nat×List Nat)->Option (List (Nat×Option Nat×AV)×XS×List (Nat×List Nat)×List (Nat×List Nat))
  | [],_,fs,hs,rf,sl=>some (fs,hs,rf,sl)
  | o::l,i,fs,hs,rf,sl=>match dz1 C ih mu os L n es s0 i o fs hs with
    | some (c,hs1,r1)=>dzE C ih mu os L n es s0 l (i+1) ((i,o.dst,c)::fs) hs1 ((i,r1)::rf) ((i,hs1.lg.take (hs1.lg.length - hs.lg.length))::sl)
    | none=>none
noncomputable def km2 (fs:List (Nat×Option Nat×AV)) (base:List (Nat×AV)):List (Nat×AV):=match fs with
  | []=>base
  | (_,some d,c)::l=>kjk (km2 l base) d c
  | (_,none,_)::l=>km2 l base
noncomputable def drzA (C:Cx) (ih:EvT) (mu:Bool) (ops:Array Oper) (s:XS) (es:List Nat):Option XS:=
  bif relB ops.toList ops.toList.length s.n && knf ops.toList ops.toList.length es then
    (match dzE C ih mu ops ops.toList ops.toList.length es s ops.toList 0 [] s [] [] with
      | some (fs,hs,rf,sl)=>bif rf.all (fun p=>sl.all fun q=>anc ops.toList q.1 p.1 || p.2.all (fun r=>!q.2.contains r)) then some ⟨s.n,km2 fs s.tmps,hs.heap,hs.k,hs.lg⟩ else none
      | none=>none)
  else none
noncomputable def drzE (C:Cx) (ih:EvT) (mu:Bool) (ops:Array Oper) (s:XS):Option XS:=match drzA C ih mu ops s (esOf C.nf mu ops.toList 0) with
  | some r=>some r
  | none=>match drzA C ih mu ops s (esOf C.nf true ops.toList 0) with
    | some r=>some r
    | none=>match drzA C ih mu ops s (esOf [] mu ops.toList 0) with
      | some r=>some r
      | none=>drzA C ih mu ops s (esOf [] true ops.toList 0)
noncomputable def evB (C:Cx) (ih:EvT):EvT:=fun mu c s=>match c with
  | .skip=>some (.normal,s)
  | .region _ ops false=>match opsE C ih mu ops ops.toList s with
    | some s1=>some (.normal,s1)
    | none=>none
  | .region _ ops true=>match drzE C ih mu ops s with
    | some s1=>some (.normal,s1)
    | none=>none
  | .seq x y=>match ih mu x s with
    | some (.normal,s1)=>ih mu y s1
    | r=>r
  | .cond c x y=>match s.E c with
    | .fz (.atom (.bool b))=>ih mu (bif b then x else y) s
    | _=>none
  | .block id x=>match ih mu x s with
    | some (.exit i,s1)=>bif Nat.beq i id then some (.normal,s1) else some (.exit i,s1)
    | r=>r
  | .loop x=>match ih mu x s with
    | some (.normal,s1)=>ih mu (.loop x) s1
    | r=>r
  | .exit i=>some (.exit i,s)
  | .ret=>some (.ret,s)
  | .scope x=>ih mu x s
  | _=>none
noncomputable def ev (C:Cx) (n:Nat):EvT:=Nat.rec (motive:=fun _=>EvT) (fun _ _ _=>none) (fun _ ih=>evB C ih) n
noncomputable def runE (C:Cx) (n f:Nat) (args:List FV):Option FV:=match krw C (ev C n) f (args.map .fz) [] 0 [] with
  | some (y,s1)=>frz s1.H false 1000 y
  | none=>none
variable {P:Program} {w w':World} {a:Act}
theorem k9a (fn: Func) {fn2: Func} (f: FuncId) (cvals: List Value) {t1 t2: Nat} {c2: Code} (R: Ending -> World -> Prop) (hd: a.defers = [dfn f cvals]) (u: P.funcs[f]? = some fn2) (x: kjv fn2 = some (t1, t2, c2)) (hn: (fn2.name == "runtime.NumGoroutine") = false) (z: cvals.length <= fn2.ntmps) (h:Cwp P c2 (fun e2 a2 w2=>(e2 = .normal\/e2 = .ret)/\a2.defers=[]/\∃ v,(results fn a.tmps).run P w2 = .ok v w2/\R (.returned v) w2)
      (((⟨cvals.toArray++Array.replicate (fn2.ntmps - cvals.toArray.size) undef,[]⟩:Act).put (some t1) .nilIface).put (some t2) .nilIface) w'):
    Leaves P fn a.tmps R a.defers .returning w':=by
  obtain ⟨id,os,o1,c1,b,p1,p2,p3,p4,p5,n1,n2,nres,c⟩:=kpw x;rw [hd];have k:fn2.body≠none:=by rw [b];simp
  simp only [qa0,ne_eq] at hn;refine leaves_cons (f:=f) (args:=cvals.toArray) (fun A=>by cases A) (by simp [invoke,callFunc,u,k,hn]) ?_;refine callsD_of_wpS u b fun c₀ cs hm=>?_;have m:(cvals.toArray++Array.replicate (fn2.ntmps - cvals.toArray.size) undef).size=fn2.ntmps:=by simp;omega
  let a0:Act:={ tmps:=cvals.toArray++Array.replicate (fn2.ntmps - cvals.toArray.size) undef,defers:=[] }
  let a2:Act:=(a0.put (some t1) .nilIface).put (some t2) .nilIface
  have g:∀ (R2:Ending->FrameMode->World->Prop),(∀ v w'',Leaves P fn a.tmps R [] .returning w''->R2 (.returned v) .returning w'') ->
      c2.wp P (fun e a' w''=>bodyPostS P fn2 c₀ cs R2 e a' ({ c₀ with mode := .returning }::cs) w'') a2 w':=by
    intro R2 B;refine wp_wide.1 (kbq h ?_);rintro e2 a'' w'' ⟨o,p,v,hv,hr⟩;have i:a''.defers=[]/\∃ u'',({ c₀ with mode := .returning }::cs:List Frame)={ c₀ with mode:=u'' }::cs/\∃ v,(results fn2 a''.tmps).run P w'' = .ok v w''/\R2 (.returned v) u'' w'':=
      ⟨p, .returning,rfl, .tuple #[],by simp [results,nres],B _ _ ⟨v,hv,hr⟩⟩
    rcases o with rfl | rfl <;> exact i
  refine wpS_seq (wpS_region ?_);have q:∀ (a:Act) (w:World),(execOp a.eval o1).run P w = .ok .recover w:=fun a w=>by obtain ⟨cc,as_,ts⟩:=c1;simp only at p2 p3;subst p2 p3;simp [execOp,p1,resolve,invoke,builtin]
  have r:∀ y,Region.wanted o1 y=true:=fun y=>by simp [Region.wanted,p5]
  have key:∀ (cs':List Frame) (Q:Exit->Act->List Frame->World->Prop),(Q .normal a2 cs' w'->os[0]?=some o1/\∃ l,List.range os.size=0::l/\wpOpsS P os Q l (a0.put (some t1) .nilIface) cs' w'):=fun cs' Q hQ=>by
    rcases c with ⟨o2,rfl,q1,q2,q3⟩ | ⟨rfl,rfl⟩
    · refine ⟨rfl,[1],rfl,?_⟩
      have s:∀ y,Region.wanted o2 y=true:=fun y=>(by simp [Region.wanted,q3]);unfold wpOpsS;simp only [qbr,qbo,List.getElem?_cons_zero,s,if_true];have hv:(execOp (a0.put (some t1) .nilIface).eval o2).run P w' = .ok (.value .nilIface) w':=(by have:(a0.put (some t1) .nilIface).eval (.tmp t1) = .nilIface:=(by show (a0.put (some t1) .nilIface).tmps.getD t1 undef = .nilIface;rw [kkt (some t1) fn2.ntmps t1 m (by intro t ht;injection ht with ht;omega),qs rfl]);simp [execOp,q1,this]);rw [hv];simp only [Oper.upon,q2];unfold wpOpsS;exact hQ
    · refine ⟨rfl,[],rfl,?_⟩
      unfold wpOpsS;have C:a2=a0.put (some t2) .nilIface:=(by show (a0.put (some t2) .nilIface).put (some t2) .nilIface=a0.put (some t2) .nilIface;simp [Act.put]);rw [<- C];exact hQ
  have j:recoverD (c₀::cs)=none:=by simp [recoverD,hm]
  have go:∀ (Q:Exit->Act->List Frame->World->Prop),Q .normal a2 (c₀::cs) w'->wpOpsS P os Q (List.range os.size) a0 (c₀::cs) w':=fun Q hQ=>by obtain ⟨k1,l,k2,k3⟩:=key (c₀::cs) Q hQ;rw [k2];unfold wpOpsS;simp only [k1,r,if_true];rw [q];simp only [j,p4];exact k3
  refine go _ ?_;show c2.wpS P _ a2 (c₀::cs) w';refine wpS_of_wp ?_;have hc:(c₀::cs)=({ c₀ with mode := .returning }::cs:List Frame):=by rw [<- hm]
  rw [hc];exact g _ fun v w'' hl=>hl
variable {F S0:Nat->Prop} {N0:Nat} {S S':Nat->Prop} {ψ ψ':Env} {K:Nat->Prop} {T:List (TypeId×TD)} {Z:List (TypeId×Value)} {o:Oper} {st:St} {t tx:TypeId} {d:TD} {id:Nat} {c:AV}
theorem kak {α:Type} {b:Bool} {x:Option α} {y:α} (h:(bif b then x else none)=some y):b=true/\x=some y:=by
  cases b with
  | false=>cases h
  | true=>exact ⟨rfl,h⟩
theorem k88 (g:TOk P T) {s:TypeId} {x:Operand} {f:Nat} (i:o.op = .fieldAddr s x f) (h:fldE T st.eval (kaa st.heap) s x f=some c):NStep P o st c:=by
  unfold fldE at h;split at h
  · rename_i d hd
    split at h
    · rename_i fs hk
      split at h
      · rename_i ft off j
        split at h
        · rename_i df b
          cases a:Nat.beq df.size 0 with
          | true=>rw [a] at h;cases h
          | false=>
            rw [a] at h;exact k53 i (g.get hd) hk j (g.get b) (fun e=>by rw [e] at a;cases a) h
        · cases h
      · cases h
    · cases h
  · cases h
theorem kaab (f:TOk P T) {x y:Operand} (j:o.op = .indexAddr t x y) (h:idxE T st.eval (kaa st.heap) t x y=some c):NStep P o st c:=by
  unfold idxE at h;split at h
  · rename_i d k i hd hy
    replace h:=kak h;obtain ⟨h0,h⟩:=h;have h0:0<=i:=(by simpa using h0);split at h
    · rename_i e hk
      split at h
      · rename_i de a
        split at h
        · rename_i id g off len cap hx
          split at h
          · rename_i g' cells l
            replace h:=kak h;obtain ⟨b,h⟩:=h;simp only [qk,qbd] at b;obtain rfl:=qe b.1;injection h with h;subst h;exact kaa3 j (f.get hd) hk (f.get a) hx l hy h0 b.2
          · cases h
        · split at h
          · rename_i xs hl
            split at h
            · rename_i z m
              replace h:=kak h;obtain ⟨b,h⟩:=h;injection h with h;subst h;exact k0y j (f.get hd) hk (f.get a) hl (fun z m=>qe (qr.1 b z m)) hy h0 m rfl
            · cases h
          · cases h
      · cases h
    · rename_i n e hk
      split at h
      · rename_i de a
        replace h:=kak h;obtain ⟨b,h⟩:=h;exact kabi j (f.get hd) hk (f.get a) hy h0 (by simpa using b) h
      · cases h
    · cases h
  · cases h
theorem k9z (e:TOk P T) {x y:Operand} (f:o.op = .index t x y) (h:bytE T st.eval (kaa st.heap) t x y=some c):NStep P o st c:=by
  unfold bytE at h;split at h
  · rename_i d s k i hd hx hy
    split at h
    · rename_i hk
      replace h:=kak h;obtain ⟨h0,h⟩:=h;split at h
      · rename_i b g
        injection h with h;subst h;have a:s.data[i.toNat]?=some b:=(by simpa using g);exact k4t f (e.get hd) hk hx hy (by simpa using h0) (c:=b) (by obtain ⟨hl,a⟩:=qai.1 a;rw [<- a];exact getElem?_pos s i.toNat hl)
      · cases h
    · cases h
  · cases h
theorem k8s {s:BA} {l h:Nat} (h1:l<=h) (a:h<=s.size):cutB s l h=s.extract l h:=by apply ByteArray.ext;rw [ByteArray.data_extract];apply qbj;simp [cutB,Array.toList_extract,List.extract_eq_take_drop,List.drop_take]
theorem kws (s:BA):kng s=s.size:=by unfold kng;rw [qac];rfl
theorem kaaq {x:Operand} {lo hi:Option Operand} {s:BA} {L H:Nat} (e:o.op = .slice t x lo hi none) (hd:TdOk P t d) (hk:d.kind = .str) (hx:st.eval x = .fz (.atom (.string s))) (hl:kcs st 0 lo=some L) (c:kcs st (kng s) hi=some H) (h1:L<=H) (b:H<=kng s):
    NStep P o st (.fz (.atom (.string (cutB s L H)))):=by
  intro ψ S a w ht f;have hv:=Sim.eval_tmps ht x;rw [hx] at hv;rw [kws] at c b;have e1:=kh2 P w none false s.size s.size (kbo ht hl) (kbo ht c) (.inl ⟨rfl,rfl⟩) h1 b (qv _) (fun h=>by cases h);refine kad w (.string (s.extract L H)) ?_ ⟨kae _,by rw [k8s h1 b];exact .fz (.atom rfl)⟩;simp only [Option.map_none] at e1;simp [execOp,e,Instr.sliceAt,Instr.slice,run_underlying (hd.str hk),hv.atom,e1]
theorem k97 (m:TOk P T) {x:Operand} {lo hi mx:Option Operand} (p:o.op = .slice t x lo hi mx) (h:slcE T st.eval (kaa st.heap) t x lo hi mx=some c):NStep P o st c:=by
  unfold slcE at h;split at h
  · rename_i d hd
    split at h
    · rename_i hk
      split at h
      · rename_i s hx
        split at h
        · rename_i L H f i
          replace h:=kak h;obtain ⟨a,h⟩:=h;simp only [qk] at a;injection h with h;subst h;exact kaaq p (m.get hd) hk hx f i (qh a.1) (qh a.2)
        · cases h
      · cases h
    · rename_i e hk
      split at h
      · rename_i de b
        split at h
        · rename_i id g off len k hx
          split at h
          · rename_i g' cells L H M j f i l
            replace h:=kak h;obtain ⟨a,h⟩:=h;simp only [qk,qbt,qbn] at a;obtain ⟨b1,b2,b3,b4,b5⟩:=a;obtain rfl:=qe b1;injection h with h;subst h;exact n_slB p m hd hk b hx j f i l (qh b2) (qh b3) (qh b4) (fun hm=>b5.elim (fun h=>by rw [hm] at h;cases h) fun h=>h)
          · cases h
        · rename_i id g len hx
          split at h
          · rename_i g' cells L H j f i
            split at h
            · replace h:=kak h
              obtain ⟨a,h⟩:=h;simp only [qk] at a;obtain ⟨b1,b2,b3⟩:=a;obtain rfl:=qe b1;obtain rfl:=qe b2;injection h with h;subst h;exact n_slU p m hd hk b hx j f i (qh b3)
            · rename_i y
              split at h
              · rename_i M l
                replace h:=kak h;obtain ⟨a,h⟩:=h;simp only [qk] at a;obtain ⟨b1,b2,b3,b4,b5⟩:=a;obtain rfl:=qe b1;injection h with h;subst h;exact n_slM p m hd hk b hx j f i l (qh b2) (qh b3) (qh b4) b5
              · cases h
          · cases h
        · rename_i hx
          split at h
          · rename_i f i l
            replace h:=kak h;obtain ⟨a,h⟩:=h;simp only [qbt,qbn] at a;injection h with h;subst h;exact n_sl0 p m hd hk b hx f i l (fun hm=>a.elim (fun h=>by rw [hm] at h;cases h) fun h=>h)
          · cases h
        · split at h
          · rename_i s n xs hl
            split at h
            · rename_i L H f i
              replace h:=kak h;obtain ⟨a,h⟩:=h;simp only [qk] at a;obtain ⟨b1,b2,b3⟩:=a;obtain rfl:=qe b1;split at h
              · injection h with h
                subst h;exact n_slF p m hd hk b hl f i (qh b2) (qh b3)
              · rename_i y
                split at h
                · rename_i M l
                  replace h:=kak h;obtain ⟨a,h⟩:=h;simp only [qk] at a;obtain rfl:=qe a.1;injection h with h;subst h;exact kaay p m hd hk b hl f i l (qh b2) (qh b3) a.2
                · cases h
            · cases h
          · cases h
      · cases h
    · rename_i n e hk
      split at h
      · rename_i de id g off b hx
        split at h
        · rename_i g' cells L H M j f i l
          replace h:=kak h;obtain ⟨a,h⟩:=h;simp only [qk,qbt,qbn] at a;obtain ⟨b1,b2,b3,b4,b5,b6⟩:=a;obtain rfl:=qe b1;injection h with h;subst h;exact k84 p m hd hk b hx j f i l (qh b2) (qh b3) (qh b4) (fun hm=>b5.elim (fun h=>by rw [hm] at h;cases h) fun h=>h) (qh b6)
        · cases h
      · cases h
    · cases h
  · cases h
theorem k87 (b:TOk P T) {x:Operand} (f:o.op = .call { callee := .builtin .len,args:=#[x],argTypes:=#[t] }) (h:lenE T st.eval (kaa st.heap) x t=some c):NStep P o st c:=by
  unfold lenE at h;split at h
  · rename_i d hd
    split at h
    · rename_i e id g off len cap hk hx
      split at h
      · rename_i g' cells a
        replace h:=kak h;obtain ⟨i,h⟩:=h;obtain rfl:=qe i;injection h with h;subst h;exact kaa9 f (b.get hd) hk hx a
      · cases h
    · rename_i hk _
      split at h
      · rename_i n hn
        injection h with h;subst h;exact kuc f (b.get hd) hk hn
      · cases h
    · rename_i s hk hx
      injection h with h;subst h;rw [kws];exact kv8 f (b.get hd) hk hx
    · rename_i kt et id hk hx
      split at h
      · rename_i kv a
        injection h with h;subst h;exact kaa1 f (b.get hd) hk hx a
      · cases h
    · cases h
  · cases h
theorem k92 (a:TOk P T) {x:Operand} (b:o.op = .call { callee := .builtin .cap,args:=#[x],argTypes:=#[t] }) (h:capE T st.eval (kaa st.heap) x t=some c):NStep P o st c:=by
  unfold capE at h;split at h
  · rename_i d hd
    split at h
    · rename_i e hk
      split at h
      · rename_i de f
        split at h
        · rename_i m k ys hr
          injection h with h;subst h;exact kabp b (a.get hd) hk hr
        · cases h
      · cases h
    · cases h
  · cases h
theorem k8e (b:TOk P T) {s:TypeId} {x:Operand} (f:o.op = .convert s t x) (h:cnvE T st.eval (kaa st.heap) s t x=some c):NStep P o st c:=by
  unfold cnvE at h;split at h
  · rename_i ds d hs hd
    split at h
    · rename_i k _ k' n hk hx
      injection h with h;subst h;exact k34 b f hs hd hk hx
    · rename_i u hk a hx
      injection h with h;subst h;exact k02 b f hs a hd hk hx
    · rename_i e hk a
      split at h
      · rename_i de g
        split at h
        · rename_i i
          split at h
          · rename_i n c' ys hr
            split at h
            · rename_i xs hi
              injection h with h;subst h;exact kaau b f hs a g i hd hk hr hi
            · cases h
          · cases h
        · cases h
      · cases h
    · cases h
  · cases h
theorem kabu (e:TOk P T) (f:ZOk P Z) {x y:Operand} {ok:Bool} (g:o.op = .lookup t x y ok) (h:lkE T Z st.eval (kaa st.heap) t x y ok=some c):NStep P o st c:=by
  unfold lkE at h;split at h
  · rename_i d id k hd hx hy
    split at h
    · rename_i kt et hk
      split at h
      · rename_i kd kv a b
        replace h:=kak h;obtain ⟨i,h⟩:=h;split at h
        · rename_i r hr
          split at h
          · rename_i c' hc
            injection h with h;subst h;exact k27 g e f hd hk a hx b hy i hr (by cases r <;> exact hc)
          · cases h
        · cases h
      · cases h
    · cases h
  · cases h
theorem k30 (mx:Bool) {x y:Operand} {ts:Array TypeId} (b:o.op = .call { callee := .builtin (bif mx then .max else .min),args:=#[x,y],argTypes:=ts }) (h:mmE st.eval (kaa st.heap) mx x y=some c):NStep P o st c:=by
  unfold mmE at h;split at h
  · rename_i k m k' n hx hy
    replace h:=kak h;obtain ⟨a,h⟩:=h;have a:k=k':=(by simpa using a);subst a;injection h with h;subst h;cases mx with
    | false=>exact k7t b hx hy
    | true=>exact k70 b hx hy
  · cases h
theorem k6p {x:Operand} {yt:TypeId} (a:o.op = .binOp .neq t x (.const .nilIface) yt) (hd:TdOk P t d) (hk:d.kind = .ifc) (hx:st.eval x = .fz (.atom .nilIface)):NStep P o st (.fz (.atom (.bool false))):=
  km1 true true a hd hk hx (.inr ⟨rfl,rfl⟩)
theorem k2g (c:TOk P T) (a:kk5 T t=true):P.underlying t=some .bool:=by
  unfold kk5 at a;split at a
  · rename_i d hd
    split at a
    · rename_i hk
      obtain ⟨_,e,h1,b⟩:=c.get hd;rw [hk] at b;cases e <;> simp [ker] at b;exact h1
    · cases a
  · cases a
theorem k08 (a:TOk P T) {op:BinOp} {x y:Operand} {yt:TypeId} {r:Bool} (b:o.op = .binOp op t x y yt) (hx:(r=true/\st.eval x = .fz (.atom nilV))\/(r=false/\((∃ id g off len cap cells,st.eval x = .bsl id g off len cap/\objC st id=some (g,cells))\/∃ s n z zs,lstX (st.eval x)=some (s,n,z::zs)))) (hy:st.eval y = .fz (.atom nilV))
    (h:binE.nilE T op t r=some c):NStep P o st c:=by
  unfold binE.nilE at h;split at h
  · rename_i d hd
    split at h
    · rename_i e hk
      injection h with h;subst h;exact k3y false r b ((a.get hd).slice hk) hx hy
    · rename_i e hk
      injection h with h;subst h;exact k3y true r b ((a.get hd).slice hk) hx hy
    · cases h
  · cases h
theorem kaah {z:AV} {r:Bool} (h:nilX (kaa st.heap) z=some r):(r=true/\z = .fz (.atom nilV))\/(r=false/\((∃ id g off len cap cells,z = .bsl id g off len cap/\objC st id=some (g,cells))\/∃ s n x xs,lstX z=some (s,n,x::xs))):=by
  unfold nilX at h;split at h
  · injection h with h;exact .inl ⟨h.symm,rfl⟩
  · rename_i id g off len cap
    split at h
    · rename_i g' cells a
      replace h:=kak h;obtain ⟨b,h⟩:=h;obtain rfl:=qe b;injection h with h;exact .inr ⟨h.symm, .inl ⟨id,g,off,len,cap,cells,rfl,a⟩⟩
    · cases h
  · split at h
    · rename_i s n x xs hl
      injection h with h;exact .inr ⟨h.symm, .inr ⟨s,n,x,xs,hl⟩⟩
    · cases h
theorem k96 (a:TOk P T) {op:BinOp} {x y:Operand} {yt:TypeId} (b:o.op = .binOp op t x y yt) (h:binE T st.eval (kaa st.heap) op t x y=some c):NStep P o st c:=by
  unfold binE at h;split at h
  · split at h
    · rename_i d hd hx
      split at h
      · rename_i hk
        injection h with h;subst h;exact k6p b (a.get hd) hk hx
      · cases h
    · cases h
  · split at h
    · rename_i hx hy
      exact k08 a b (.inl ⟨rfl,hx⟩) hy h
    · rename_i u v _ hx hy
      split at h
      · rename_i r hr
        injection h with h;subst h;exact k24 (kk5 T t) (fun e=>k2g a e) b hx hy hr
      · cases h
    · rename_i hy _ _
      split at h
      · rename_i r hr
        exact k08 a b (kaah hr) hy h
      · cases h
    · cases h
theorem k98 {x:Operand} (e:o.op = .entry x) (h:entE st.eval (kaa st.heap) x=some c):NStep P o st c:=by
  unfold entE at h;split at h
  · rename_i id hx
    split at h
    · rename_i m since seen stepped a
      split at h
      · rename_i kv j b f
        split at h
        · rename_i p hp
          replace h:=kak h;obtain ⟨d,h⟩:=h;simp only [qk] at d;injection h with h;subst h;obtain ⟨ys,rfl⟩:∃ ys,seen=ys++[j]:=(by obtain ⟨ys,rfl⟩:=List.getLast?_eq_some_iff.1 f;exact ⟨ys,rfl⟩);rw [qe d.1] at a;exact k64 e hx a b hp d.2
        · cases h
      · cases h
    · cases h
  · cases h
theorem k5b (a:TOk P T) {parts:Array (Nat×Operand)} (b:o.op = .build t parts) (h:k4s T st.eval t parts=some c):NStep P o st c:=k0j a b h
theorem k04 (g:TOk P T) {n:Nat} {parts:Array (Nat×Operand)} (i:o.op = .buildSlice t n parts) (h:litH T st.eval t n parts=some c):NStep P o st c:=by
  unfold litH at h;split at h
  · rename_i d hd
    split at h
    · rename_i e hk
      split at h
      · rename_i de b
        split at h
        · rename_i xs f
          replace h:=kak h;obtain ⟨a,h⟩:=h;injection h with h;subst h;simp only [qk] at a;exact k7o i (g.get hd) hk (g.get b) (qh a.2.1) (qe a.1) (qh a.2.2) f
        · cases h
      · cases h
    · cases h
  · cases h
theorem kxa (e:TOk P T) (p:ZOk P Z) (h:nE T Z st.eval (kaa st.heap) o=some c):NStep P o st c:=by
  unfold nE at h;split at h
  · rename_i a;exact k96 e a h
  · rename_i t x a
    split at h
    · rename_i d xs hd l
      exact k8h a (e.get hd) l h
    · cases h
  · rename_i a;exact k88 e a h
  · rename_i a;exact kaa2 a h
  · rename_i a;exact kaab e a h
  · rename_i a;exact k9z e a h
  · rename_i a;exact k97 e a h
  · rename_i a;exact k8e e a h
  · rename_i a;exact kabu e p a h
  · rename_i a;exact k98 a h
  · rename_i cl a
    obtain ⟨callee,args,tys⟩:=cl;simp only at h;split at h
    · rename_i x t g m
      rw [kjr g,kjr m] at a;exact k87 e a h
    · rename_i x t g m
      rw [kjr g,kjr m] at a;exact k92 e a h
    · rename_i x y g
      have:args=#[x,y]:=(by apply qbj;simpa using g);rw [this] at a;exact k30 false a h
    · rename_i x y g
      have:args=#[x,y]:=(by apply qbj;simpa using g);rw [this] at a;exact k30 true a h
    · cases h
  · rename_i x a;injection h with h;subst h;exact ktz (.inl a)
  · rename_i x a;injection h with h;subst h;exact ktz (.inr a)
  · rename_i cc x y a
    split at h
    · rename_i b k
      injection h with h;subst h;exact k4g a k
    · cases h
  · rename_i op t x a
    split at h
    · rename_i u q
      split at h
      · rename_i r hr
        injection h with h;subst h;exact n_un a q hr
      · cases h
    · cases h
  · rename_i x i a
    exact kv1 a h
  · rename_i t parts a
    exact k5b e a h
  · rename_i t n parts a
    exact k04 e a h
  · rename_i f first cap a
    cases k:first.isEmpty with
    | false=>
      rw [k] at h;cases j:cap.isEmpty with
      | false=>rw [j] at h;cases h
      | true=>
        rw [j] at h;have:cap=#[]:=(by simpa using j);subst this;simp only [qp,qg,qc] at h;subst h;exact k7k a
    | true=>
      rw [k] at h;have:first=#[]:=by simpa using k
      subst this;simp only [qg,qc] at h;subst h;exact k5f a
  · cases h
theorem k7r {dl:Dl} (h:(match nE T Z st.eval (kaa st.heap) o with | some c=>some (c,Dl.no) | none=>none)=some (c,dl)) (a:TOk P T) (b:ZOk P Z):StepA P o st c (kii st id dl) (dIds st id dl):=by
  split at h
  · rename_i c' hc
    simp only [qc,qq] at h;obtain ⟨rfl,rfl⟩:=h;exact (kxa a b hc).step
  · cases h
theorem kvd (id:Nat) {i g:Nat} {cells cells':List AV} {x:AV} {dl:Dl} (a:objC st i=some (g,cells)) (h:setE (kaa st.heap) i x cells'=some (c,dl)):x=c/\kii st id dl=putC st i cells'/\dIds st id dl=st.ids:=by
  unfold setE at h;split at h
  · rename_i ob d
    simp only [qc,qq] at h;obtain ⟨rfl,rfl⟩:=h;unfold objC objH at a;rw [d] at a;unfold putC;rw [d];split at a
    · rename_i e cs b;injection b with b;subst b;exact ⟨rfl,rfl,rfl⟩
    · rename_i g e sz cs b;injection b with b;subst b;exact ⟨rfl,rfl,rfl⟩
    · cases a
  · cases h
theorem k8o (e:TOk P T) {x y:Operand} {dl:Dl} (f:o.op = .store t x y) (h:stoE T st.eval (kaa st.heap) t x y=some (c,dl)):StepA P o st c (kii st id dl) (dIds st id dl):=by
  unfold stoE at h;split at h
  · rename_i d i n off hd hx
    split at h
    · rename_i g cells a
      replace h:=kak h;obtain ⟨b,h⟩:=h;simp only [qk] at b;obtain ⟨b1,b2,b3,b4⟩:=b;obtain rfl:=qe b1;obtain ⟨rfl,e2,e3⟩:=kvd id a h;rw [e2,e3];exact k55 f (e.get hd) hx a rfl (qe b2) b3 (qh b4)
    · cases h
  · cases h
theorem k9g (g:TOk P T) {x y:Operand} {dl:Dl} (a:st.ids.contains id=false) (i:o.op = .makeSlice t x y) (h:mksE T st.eval (kaa st.heap) t id x y=some (c,dl)):StepA P o st c (kii st id dl) (dIds st id dl):=by
  unfold mksE at h;split at h
  · rename_i d hd
    split at h
    · rename_i e hk
      split at h
      · rename_i de b
        split at h
        · rename_i zs k n k' m hx hy
          replace h:=kak h;obtain ⟨f,h⟩:=h;simp only [qk,qbd] at f;obtain ⟨b1,b1',b2,b3,b4,b5,b6⟩:=f;simp only [qc,qq] at h;obtain ⟨rfl,rfl⟩:=h;exact e_mkE i g hd hk b (qh b1) (qe b1') rfl (fun v hv=>qr.1 b2 v hv) hx hy b3 b4 b5 b6 a
        · cases h
      · cases h
    · cases h
  · cases h
theorem k9e (a:TOk P T) {mu:Bool} {n:Nat} {parts:Array (Nat×Operand)} {dl:Dl} (b:st.ids.contains id=false) (i:o.op = .buildSlice t n parts) (h:litE T st.eval (kaa st.heap) mu t n id parts=some (c,dl)):StepA P o st c (kii st id dl) (dIds st id dl):=by
  unfold litE at h;split at h
  · rename_i c' hc
    simp only [qc,qq] at h;obtain ⟨rfl,rfl⟩:=h;cases mu with
    | true=>cases hc
    | false=>exact (k04 a i hc).step
  · split at h
    · rename_i d hd
      split at h
      · rename_i e hk
        split at h
        · rename_i de f
          split at h
          · rename_i ys g
            replace h:=kak h;obtain ⟨j,h⟩:=h;simp only [qk] at j;obtain ⟨b1,b2,b3⟩:=j;simp only [qc,qq] at h;obtain ⟨rfl,rfl⟩:=h;exact kabk i (a.get hd) hk (a.get f) (qh b2) (qe b1) (qh b3) g b
          · cases h
        · cases h
      · cases h
    · cases h
theorem k93 (e:TOk P T) {x y v:Operand} {dl:Dl} (f:o.op = .mapUpdate t x y v) (h:mpuE T st.eval (kaa st.heap) t x y v=some (c,dl)):StepA P o st c (kii st id dl) (dIds st id dl):=by
  unfold mpuE at h;split at h
  · rename_i d i k hd hx hy
    split at h
    · rename_i kt et hk
      split at h
      · rename_i kd kv a b
        replace h:=kak h;obtain ⟨g,h⟩:=h;split at h
        · rename_i kv' hp
          simp only [qc,qq] at h;obtain ⟨rfl,rfl⟩:=h;exact ky8 f e hd hk a hx b hy g hp
        · cases h
      · cases h
    · cases h
  · cases h
theorem k8x (e:TOk P T) {x:Operand} {dl:Dl} (a:st.ids.contains id=false) (f:o.op = .range t x) (h:rngE T st.eval (kaa st.heap) t id x=some (c,dl)):StepA P o st c (kii st id dl) (dIds st id dl):=by
  unfold rngE at h;split at h
  · rename_i d m hd hx
    split at h
    · rename_i kt et kv hk b
      simp only [qc,qq] at h;obtain ⟨rfl,rfl⟩:=h;exact k5q f (e.get hd) hk hx b a
    · cases h
  · cases h
theorem k9m {x:Operand} {dl:Dl} (e:o.op = .next x false) (h:nxtE st.eval (kaa st.heap) x=some (c,dl)):StepA P o st c (kii st id dl) (dIds st id dl):=by
  unfold nxtE at h;split at h
  · rename_i i hx
    split at h
    · rename_i m since seen stepped a
      split at h
      · rename_i kv b
        replace h:=kak h;obtain ⟨d,h⟩:=h;simp only [qk] at d;obtain ⟨b1,b2⟩:=d;rw [qe b1] at a;split at h
        · rename_i hl
          simp only [qc,qq] at h;obtain ⟨rfl,rfl⟩:=h;exact (k48 e hx a b (qh b2) hl).step
        · rename_i j hl
          split at h
          · rename_i p hp
            replace h:=kak h;obtain ⟨d,h⟩:=h;simp only [qc,qq] at h;obtain ⟨rfl,rfl⟩:=h;exact k9l e hx a b (qh b2) hl hp d
          · cases h
        · cases h
      · cases h
    · cases h
  · cases h
theorem kzl (i:TOk P T) {x y:Operand} {e:TypeId} {de:TD} {n:Nat} {ys:List AV} {dl:Dl} (a:st.ids.contains id=false) (j:o.op = .call { callee := .builtin .append,args:=#[x,y],argTypes:=#[t,tx] }) (hd:kac T t=some d) (hk:d.kind = .slice e) (b:kac T e=some de)
    (l:0<de.size) (f:de.zero.length=de.size) (hy:srcE T de.size st tx (st.eval y)=some (n,ys)) (h:appE.grow st.eval (kaa st.heap) id x e de n ys=some (c,dl)):StepA P o st c (kii st id dl) (dIds st id dl):=by
  unfold appE.grow at h;split at h
  · rename_i m k xs hx
    replace h:=kak h;obtain ⟨g,h⟩:=h;simp only [qk] at g;simp only [qc,qq] at h;obtain ⟨rfl,rfl⟩:=h;exact k4k j i hd hk b l f hx hy (by simpa [Nat.blt_eq] using g.1) (qh g.2) a
  · cases h
theorem kaai (l:TOk P T) {x y:Operand} {dl:Dl} (p:st.ids.contains id=false) (q:o.op = .call { callee := .builtin .append,args:=#[x,y],argTypes:=#[t,tx] }) (h:appE T st.eval (kaa st.heap) t tx id x y=some (c,dl)):StepA P o st c (kii st id dl) (dIds st id dl):=by
  unfold appE at h;split at h
  · rename_i d hd
    split at h
    · rename_i e hk
      split at h
      · rename_i de b
        split at h
        · rename_i ys0 hy
          split at h
          · rename_i r hr
            obtain ⟨m,cc,xs⟩:=r;simp only [qc,qq] at h;obtain ⟨rfl,rfl⟩:=h;exact (kabn q l hd hk b hr hy).step
          · cases h
        · rename_i n ys _ hy
          replace h:=kak h;obtain ⟨s,h⟩:=h;simp only [qk] at s;have u:=qh s.1;have j:=qe s.2;split at h
          · rename_i i g off m hx
            split at h
            · rename_i g' e' sz cells f
              replace h:=kak h;obtain ⟨a,h⟩:=h;simp only [qk] at a;obtain ⟨b1,b2,b3,b4,b5,b6⟩:=a;obtain rfl:=qe b1;obtain rfl:=qe b2;obtain rfl:=qe b3;obtain rfl:=qe b4;simp only [qc,qq] at h;obtain ⟨rfl,rfl⟩:=h;exact k94 q l hd hk b j hx f (qe b5) hy (qh b6)
            · cases h
          · rename_i i g off m k hx
            cases hr:Nat.ble (m+n) k with
            | true=>
              rw [hr] at h;simp only [qg] at h;split at h
              · rename_i g' cells f
                replace h:=kak h;obtain ⟨a,h⟩:=h;simp only [qk] at a;obtain rfl:=qe a.1;obtain ⟨rfl,e2,e3⟩:=kvd id f h;rw [e2,e3];exact k3q q l hd hk b hx f hy (qh hr) (qh a.2)
              · cases h
            | false=>
              rw [hr] at h;exact kzl l p q hd hk b u j hy h
          · exact kzl l p q hd hk b u j hy h
        · cases h
      · cases h
    · cases h
  · cases h
theorem k8j (j:TOk P T) {x y:Operand} {dl:Dl} (k:o.op = .call { callee := .builtin .copy,args:=#[x,y],argTypes:=#[t,tx] }) (h:cpyE T st.eval (kaa st.heap) t x y=some (c,dl)):StepA P o st c (kii st id dl) (dIds st id dl):=by
  unfold cpyE at h;split at h
  · rename_i d hd
    split at h
    · rename_i e hk
      split at h
      · rename_i de b
        split at h
        · rename_i i g off len cap n c2 ys hx hy
          split at h
          · rename_i g' cells a
            replace h:=kak h;obtain ⟨f,h⟩:=h;simp only [qk] at f;obtain rfl:=qe f.1;obtain ⟨rfl,e2,e3⟩:=kvd id a h;rw [e2,e3];exact k83 k j hd hk b hx a hy (qh f.2)
          · cases h
        · cases h
      · cases h
    · cases h
  · cases h
theorem sE_ok (f:TOk P T) (j:ZOk P Z) {mu:Bool} {dl:Dl} (b:st.ids.contains id=false) (h:sE T Z st.eval (kaa st.heap) mu id o=some (c,dl)):StepA P o st c (kii st id dl) (dIds st id dl):=by
  unfold sE at h;split at h
  · rename_i e x a
    replace h:=kak h;obtain ⟨k,h⟩:=h;simp only [qc,qq] at h;obtain ⟨rfl,rfl⟩:=h;exact k7p a rfl k b
  · rename_i e a
    split at h
    · rename_i d hd
      split at h
      · rename_i cells l
        simp only [qc,qq] at h;obtain ⟨rfl,rfl⟩:=h;exact ku1 a (f.get hd) l b
      · cases h
    · cases h
  · rename_i a;exact k8o f a h
  · rename_i a;exact k9g f b a h
  · rename_i a;exact k9e f b a h
  · rename_i a
    simp only [qc,qq] at h;obtain ⟨rfl,rfl⟩:=h;exact k2j a b
  · rename_i a;exact k93 f a h
  · rename_i a;exact k8x f b a h
  · rename_i a;exact k9m a h
  · rename_i cl a
    obtain ⟨callee,args,tys⟩:=cl;simp only at h;split at h
    · rename_i x y t tx g i
      have e1:args=#[x,y]:=(by apply qbj;simpa using g);have e2:tys=#[t,tx]:=(by apply qbj;simpa using i);rw [e1,e2] at a;exact kaai f b a h
    · rename_i x y t tx g i
      have e1:args=#[x,y]:=(by apply qbj;simpa using g);have e2:tys=#[t,tx]:=(by apply qbj;simpa using i);rw [e1,e2] at a;exact k8j f a h
    · exact k7r h f j
  · exact k7r h f j
end Go.Proofs.YtjnjipmjkkhdpaaGreatDoor
