import Derived.Test.YtgebfaidgikieaaGreatDoorXd
import Derived.Scope
set_option linter.all false
namespace Go.Proofs.YtgebfaidgikieaaGreatDoor
open Go Go.RowKit
inductive Dl where
  | no
  | new (ob:AObj)
  | upd (id:Nat) (ob:AObj)
def klz (st:St) (id:Nat):Dl->List (Nat×AObj)
  | .no=>st.heap
  | .new ob=>(id,ob)::st.heap
  | .upd i ob=>(i,ob)::st.heap
def dIds (st:St) (id:Nat):Dl->List Nat
  | .new _=>id::st.ids
  | _=>st.ids
def kq7 (E:Operand->AV) (ps:Array (Nat×Operand)):List (Nat×AV):=ps.toList.map fun p=>(p.1,E p.2)
def kac0 (T:List (TypeId×TD)) (E:Operand->AV) (t:TypeId) (parts:Array (Nat×Operand)):Option AV:=match kae T t with
  | some d=>match d.kind,ks0 d with
    | .st fs,some zs=>match kro T fs with
      | some ps=>(ktf (fun i:Nat=>ps[i]?) zs (kq7 E parts)).map aggA
      | none=>none
    | .arr _ e,some zs=>match kae T e with
      | some de=>(ktf (fun i:Nat=>some (i*de.size,de.size)) zs (kq7 E parts)).map aggA
      | none=>none
    | _,_=>none
  | none=>none
def litH (T:List (TypeId×TD)) (E:Operand->AV) (t:TypeId) (n:Nat) (parts:Array (Nat×Operand)):Option AV:=match kae T t with
  | some d=>match d.kind with
    | .slice e=>match kae T e with
      | some de=>match koo de.size 0 (kq7 E parts) with
        | some xs=>bif Nat.beq xs.length n && (Nat.ble 1 de.size && Nat.ble (n*de.size) 16777216) then some (.lim de.size n xs) else none
        | none=>none
      | none=>none
    | _=>none
  | none=>none
def fldE (T:List (TypeId×TD)) (E:Operand->AV) (H:Nat->Option AObj) (s:TypeId) (x:Operand) (f:Nat):Option AV:=match kae T s with
  | some d=>match d.kind with
    | .st fs=>match fs[f]? with
      | some (ft,off)=>match kae T ft with
        | some df=>bif Nat.beq df.size 0 then none else kwp H off (E x)
        | none=>none
      | none=>none
    | _=>none
  | none=>none
def idxE (T:List (TypeId×TD)) (E:Operand->AV) (H:Nat->Option AObj) (t:TypeId) (x y:Operand):Option AV:=match kae T t,E y with
  | some d, .fz (.atom (.int _ i))=>bif decide (0<=i) then (match d.kind with
    | .slice e=>match kae T e with
      | some de=>match E x with
        | .bsl id g off len _=>match objH H id with
          | some (g',_)=>bif Nat.beq g g' && decide (i<len) then some (.ref id g (off+i.toNat*de.size)) else none
          | none=>none
        | z=>match kok z with
          | some xs=>match xs[i.toNat]? with
            | some z=>bif xs.all (fun z=>Nat.beq z.cells.length de.size) then some (.fz (.fp z.cells)) else none
            | none=>none
          | none=>none
      | none=>none
    | .arr n e=>match kae T e with
      | some de=>bif decide (i<n) then kwp H (i.toNat*de.size) (E x) else none
      | none=>none
    | _=>none) else none
  | _,_=>none
def bytE (T:List (TypeId×TD)) (E:Operand->AV) (H:Nat->Option AObj) (t:TypeId) (x y:Operand):Option AV:=match kae T t,E x,E y with
  | some d, .fz (.atom (.string s)), .fz (.atom (.int _ i))=>match d.kind with
    | .str=>bif decide (0<=i) then (match s.data.toList[i.toNat]? with
      | some c=>some (.fz (.atom (.int .u8 c.toNat)))
      | none=>none) else none
    | _=>none
  | _,_,_=>none
def cutB (s:BA) (l h:Nat):BA:=⟨⟨(s.data.toList.take h).drop l⟩⟩
def ksc (s:BA):Nat:=s.data.toList.length
def slcE (T:List (TypeId×TD)) (E:Operand->AV) (H:Nat->Option AObj) (t:TypeId) (x:Operand) (lo hi mx:Option Operand):Option AV:=match kae T t with
  | some d=>match d.kind with
    | .str=>match E x,mx with
      | .fz (.atom (.string s)),none=>match kga E 0 lo,kga E (ksc s) hi with
        | some L,some H=>bif Nat.ble L H && Nat.ble H (ksc s) then some (.fz (.atom (.string (cutB s L H)))) else none
        | _,_=>none
      | _,_=>none
    | .slice e=>match kae T e with
      | some de=>match E x with
        | .bsl id g off len (some k)=>match objH H id,kga E 0 lo,kga E len hi,kga E k mx with
          | some (g',_),some L,some H,some M=>bif Nat.beq g g' && (Nat.ble L H && (Nat.ble H M && (Nat.ble M k && (!mx.isSome || hi.isSome)))) then some (.bsl id g (offE off L M de.size) (H - L) (some (M - L))) else none
          | _,_,_,_=>none
        | .bsl id g 0 len none=>match objH H id,kga E 0 lo,kga E len hi with
          | some (g',_),some L,some H=>match mx with
            | none=>bif Nat.beq g g' && (Nat.beq L 0 && Nat.ble H len) then some (.bsl id g 0 H none) else none
            | some y=>match kga E 0 (some y) with
              | some M=>bif Nat.beq g g' && (Nat.ble L H && (Nat.ble H M && (Nat.ble M len && hi.isSome))) then some (.bsl id g (offE 0 L M de.size) (H - L) (some (M - L))) else none
              | none=>none
          | _,_,_=>none
        | .fz (.atom (.slice none 0 0))=>match kga E 0 lo,kga E 0 hi,kga E 0 mx with
          | some 0,some 0,some 0=>bif !mx.isSome || hi.isSome then some (.fz (.atom nilV)) else none
          | _,_,_=>none
        | z=>match lstX z with
          | some (s,n,xs)=>match kga E 0 lo,kga E n hi with
            | some L,some H=>bif Nat.beq s de.size && (Nat.ble L H && Nat.ble H n) then (match mx with
              | none=>some (.fz (.lst de.size (H - L) ((xs.take H).drop L)))
              | some y=>match kga E 0 (some y) with
                | some M=>bif Nat.beq M H && hi.isSome then some (.lim de.size (H - L) ((xs.take H).drop L)) else none
                | none=>none) else none
            | _,_=>none
          | none=>none
      | none=>none
    | .arr n e=>match kae T e,E x with
      | some de, .ref id g off=>match objH H id,kga E 0 lo,kga E n hi,kga E n mx with
        | some (g',_),some L,some H,some M=>bif Nat.beq g g' && (Nat.ble L H && (Nat.ble H M && (Nat.ble M n && ((!mx.isSome || hi.isSome) && Nat.ble n 9223372036854775807)))) then some (.bsl id g (offE off L M de.size) (H - L) (some (M - L))) else none
        | _,_,_,_=>none
      | _,_=>none
    | _=>none
  | none=>none
def lenE (T:List (TypeId×TD)) (E:Operand->AV) (H:Nat->Option AObj) (x:Operand) (t:TypeId):Option AV:=match kae T t with
  | some d=>match d.kind,E x with
    | .slice _, .bsl id g _ len _=>match objH H id with
      | some (g',_)=>bif Nat.beq g g' then some (.fz (.atom (.int .i64 len))) else none
      | none=>none
    | .slice _,z=>match lenOf z with
      | some n=>some (.fz (.atom (.int .i64 n)))
      | none=>none
    | .str, .fz (.atom (.string s))=>some (.fz (.atom (.int .i64 (ksc s))))
    | .map _ _, .mp id=>match H id with
      | some (.xo (.amap kv))=>some (.fz (.atom (.int .i64 kv.length)))
      | _=>none
    | _,_=>none
  | none=>none
def capE (T:List (TypeId×TD)) (E:Operand->AV) (H:Nat->Option AObj) (x:Operand) (t:TypeId):Option AV:=match kae T t with
  | some d=>match d.kind with
    | .slice e=>match kae T e with
      | some de=>match rdH H de.size (E x) with
        | some (_,some k,_)=>some (.fz (.atom (.int .i64 k)))
        | _=>none
      | none=>none
    | _=>none
  | none=>none
def cnvE (T:List (TypeId×TD)) (E:Operand->AV) (H:Nat->Option AObj) (s t:TypeId) (x:Operand):Option AV:=match kae T s,kae T t with
  | some ds,some d=>match d.kind,ds.kind,E x with
    | .int k,_, .fz (.atom (.int _ n))=>some (.fz (.atom (.int k (k.wrap n))))
    | .str, .str, .fz (.atom (.string u))=>some (.fz (.atom (.string u)))
    | .str, .slice e,z=>match kae T e with
      | some de=>match de.kind with
        | .int .u8=>match rdH H 1 z with
          | some (_,_,ys)=>match kuc ys with
            | some xs=>some (.fz (.atom (.string (toBA xs))))
            | none=>none
          | none=>none
        | _=>none
      | none=>none
    | _,_,_=>none
  | _,_=>none
def lkE (T:List (TypeId×TD)) (Z:List (TypeId×Value)) (E:Operand->AV) (H:Nat->Option AObj) (t:TypeId) (x y:Operand) (ok:Bool):Option AV:=match kae T t,E x,E y with
  | some d, .mp id, .fz (.atom k)=>match d.kind with
    | .map kt et=>match kae T kt,H id with
      | some kd,some (.xo (.amap kv))=>bif keyK kd.kind k then (match ku5 k kv 0 with
        | some r=>match (match r with | some (_,z)=>some z | none=>(match k0v Z et with | some zv=>bif zv.oneCell' then some (AV.fz (.atom zv)) else none | none=>none)) with
          | some c=>some (bif ok then .tup [c, .fz (.atom (.bool r.isSome))] else c)
          | none=>none
        | none=>none) else none
      | _,_=>none
    | _=>none
  | _,_,_=>none
def nilX (H:Nat->Option AObj):AV->Option Bool
  | .fz (.atom (.slice none 0 0))=>some true
  | .bsl id g _ _ _=>match objH H id with
    | some (g',_)=>bif Nat.beq g g' then some false else none
    | none=>none
  | z=>match lstX z with
    | some (_,_,_::_)=>some false
    | _=>none
def binE (T:List (TypeId×TD)) (E:Operand->AV) (H:Nat->Option AObj) (op:BinOp) (t:TypeId) (x y:Operand):Option AV:=match op,y with
  | .neq, .const .nilIface=>match kae T t,E x with
    | some d, .fz (.atom .nilIface)=>match d.kind with
      | .ifc=>some (.fz (.atom (.bool false)))
      | _=>none
    | _,_=>none
  | _,_=>match E x,E y with
    | .fz (.atom (.slice none 0 0)), .fz (.atom (.slice none 0 0))=>nilE true
    | .fz (.atom u), .fz (.atom v)=>match binV (kpn T t) op u v with
      | some r=>some (.fz (.atom r))
      | none=>none
    | z, .fz (.atom (.slice none 0 0))=>match nilX H z with
      | some r=>nilE r
      | none=>none
    | _,_=>none
where nilE (r:Bool):Option AV:=match kae T t with
  | some d=>match d.kind,op with
    | .slice _, .eql=>some (.fz (.atom (.bool r)))
    | .slice _, .neq=>some (.fz (.atom (.bool !r)))
    | _,_=>none
  | none=>none
def mmE (E:Operand->AV) (H:Nat->Option AObj) (mx:Bool) (x y:Operand):Option AV:=match E x,E y with
  | .fz (.atom (.int k m)), .fz (.atom (.int k' n))=>bif decide (k=k') then some (.fz (.atom (.int k (bif mx then imax m n else imin m n)))) else none
  | _,_=>none
def entE (E:Operand->AV) (H:Nat->Option AObj) (x:Operand):Option AV:=match E x with
  | .ref id 0 0=>match H id with
    | some (.xo (.mit m since seen stepped))=>match H m,seen.getLast? with
      | some (.xo (.amap kv)),some j=>match kv[j]? with
        | some p=>bif Nat.beq stepped kv.length && p.1.oneCell' then some (.tup [.fz (.atom p.1),p.2]) else none
        | none=>none
      | _,_=>none
    | _=>none
  | _=>none
def nxtE (E:Operand->AV) (H:Nat->Option AObj) (x:Operand):Option (AV×Dl):=match E x with
  | .ref id 0 0=>match H id with
    | some (.xo (.mit m since seen stepped))=>match H m with
      | some (.xo (.amap kv))=>bif Nat.beq since kv.length && Nat.ble kv.length stepped then (match ks9 seen kv.length with
        | []=>some (.fz (.tup [.atom (.bool false)]), .no)
        | [j]=>match kv[j]? with
          | some p=>bif p.1.oneCell' then some (.tup [.fz (.atom (.bool true)), .fz (.atom p.1),p.2], .upd id (.xo (.mit m kv.length (seen++[j]) kv.length))) else none
          | none=>none
        | _=>none) else none
      | _=>none
    | _=>none
  | _=>none
def nE (T:List (TypeId×TD)) (Z:List (TypeId×Value)) (E:Operand->AV) (H:Nat->Option AObj) (o:Oper):Option AV:=match o.op with
  | .binOp op t x y _=>binE T E H op t x y
  | .load t x=>match kae T t,k1v H (E x) with
    | some d,some xs=>knd d xs
    | _,_=>none
  | .fieldAddr s x f=>fldE T E H s x f
  | .nilCheck x=>kwp H 0 (E x)
  | .indexAddr t x y=>idxE T E H t x y
  | .index t x y=>bytE T E H t x y
  | .slice t x lo hi mx=>slcE T E H t x lo hi mx
  | .convert s t x=>cnvE T E H s t x
  | .lookup t x y ok=>lkE T Z E H t x y ok
  | .entry x=>entE E H x
  | .call c=>match c.callee,c.args.toList,c.argTypes.toList with
    | .builtin .len,[x],[t]=>lenE T E H x t
    | .builtin .cap,[x],[t]=>capE T E H x t
    | .builtin .min,[x,y],_=>mmE E H false x y
    | .builtin .max,[x,y],_=>mmE E H true x y
    | _,_,_=>none
  | .move x=>some (E x)
  | .assign x=>some (E x)
  | .pick c x y=>match E c with
    | .fz (.atom (.bool b))=>some (bif b then E x else E y)
    | _=>none
  | .unOp op _ x=>match E x with
    | .fz (.atom u)=>match unV op u with
      | some r=>some (.fz (.atom r))
      | none=>none
    | _=>none
  | .extract x i=>match E x with | .fz (.tup xs)=>(xs[i]?).map .fz | .tup xs=>xs[i]? | _=>none
  | .build t parts=>kac0 T E t parts
  | .buildSlice t n parts=>litH T E t n parts
  | .makeFunc (.func f) first cap=>bif first.isEmpty then some (.fn f (cap.toList.map E)) else (bif cap.isEmpty then some (.mth f (first.toList.map E)) else none)
  | _=>none
def reC:AObj->List AV->AObj
  | .box e _,c => .box e c
  | .xo (.blk g e sz _),c => .xo (.blk g e sz c)
  | ob,_=>ob
def setE (H:Nat->Option AObj) (id:Nat) (c:AV) (cells:List AV):Option (AV×Dl):=match H id with
  | some ob=>some (c, .upd id (reC ob cells))
  | none=>none
def stoE (T:List (TypeId×TD)) (E:Operand->AV) (H:Nat->Option AObj) (t:TypeId) (x y:Operand):Option (AV×Dl):=match kae T t,E x with
  | some d, .ref id n off=>match objH H id with
    | some (g,cells)=>bif Nat.beq n g && (Nat.beq (E y).cells.length d.size && ((E y).cells.all AV.single && Nat.ble (off+(E y).cells.length) cells.length)) then setE H id .any (kc8 cells off (E y).cells) else none
    | none=>none
  | _,_=>none
def mksE (T:List (TypeId×TD)) (E:Operand->AV) (H:Nat->Option AObj) (t:TypeId) (id:Nat) (x y:Operand):Option (AV×Dl):=match kae T t with
  | some d=>match d.kind with
    | .slice e=>match kae T e with
      | some de=>match de.zero,E x,E y with
        | zs, .fz (.atom (.int _ n)), .fz (.atom (.int _ c))=>bif Nat.ble 1 de.size && (Nat.beq zs.length de.size && (zs.all Value.oneCell' && (decide (0<=n) && (decide (n<=c) && (decide ((de.bytes:Int)*c<=281474976710656) && decide (c<=9223372036854775807)))))) then
            some (.bsl id 0 0 n.toNat (some c.toNat), .new (.xo (.blk 0 e de.size (repC c.toNat zs)))) else none
        | _,_,_=>none
      | none=>none
    | _=>none
  | none=>none
def litE (T:List (TypeId×TD)) (E:Operand->AV) (H:Nat->Option AObj) (mu:Bool) (t:TypeId) (n id:Nat) (parts:Array (Nat×Operand)):Option (AV×Dl):=match (bif mu then none else litH T E t n parts) with
  | some c=>some (c, .no)
  | none=>match kae T t with
    | some d=>match d.kind with
      | .slice e=>match kae T e with
        | some de=>match ktz de.size 0 (kq7 E parts) with
          | some ys=>bif Nat.beq parts.toList.length n && (Nat.ble 1 de.size && Nat.ble (n*de.size) 16777216) then some (.bsl id 0 0 n (some n), .new (.xo (.blk 0 e de.size ys))) else none
          | none=>none
        | none=>none
      | _=>none
    | none=>none
def mpuE (T:List (TypeId×TD)) (E:Operand->AV) (H:Nat->Option AObj) (t:TypeId) (x y v:Operand):Option (AV×Dl):=match kae T t,E x,E y with
  | some d, .mp id, .fz (.atom k)=>match d.kind with
    | .map kt _=>match kae T kt,H id with
      | some kd,some (.xo (.amap kv))=>bif keyK kd.kind k then (match vput k kv (E v) with
        | some kv'=>some (.any, .upd id (.xo (.amap kv')))
        | none=>none) else none
      | _,_=>none
    | _=>none
  | _,_,_=>none
def rngE (T:List (TypeId×TD)) (E:Operand->AV) (H:Nat->Option AObj) (t:TypeId) (id:Nat) (x:Operand):Option (AV×Dl):=match kae T t,E x with
  | some d, .mp m=>match d.kind,H m with
    | .map _ _,some (.xo (.amap kv))=>some (.ref id 0 0, .new (.xo (.mit m kv.length [] kv.length)))
    | _,_=>none
  | _,_=>none
def appE (T:List (TypeId×TD)) (E:Operand->AV) (H:Nat->Option AObj) (t tx:TypeId) (id:Nat) (x y:Operand):Option (AV×Dl):=match kae T t with
  | some d=>match d.kind with
    | .slice e=>match kae T e with
      | some de=>match srcH T H de.size tx (E y) with
        | some (0,_)=>match rdH H de.size (E x) with
          | some _=>some (E x, .no)
          | none=>none
        | some (n,ys)=>bif Nat.ble 1 de.size && Nat.beq de.zero.length de.size then (match E x with
          | .bsl i g off m none=>match H i with
            | some (.xo (.blk g' e' sz cells))=>bif Nat.beq off 0 && (Nat.beq g g' && (Nat.beq e e' && (Nat.beq sz de.size && (Nat.beq cells.length (m*de.size) && Nat.ble ((m+n)*(de.bytes+1)) 140737488355328)))) then
                some (.bsl i (g+1) 0 (m+n) none, .upd i (.xo (.blk (g+1) e de.size (cells++ys)))) else none
            | _=>none
          | .bsl i g off m (some k)=>bif Nat.ble (m+n) k then (match objH H i with
            | some (g',cells)=>bif Nat.beq g g' && Nat.ble (off+m*de.size+ys.length) cells.length then setE H i (.bsl i g off (m+n) (some k)) (kc8 cells (off+m*de.size) ys) else none
            | none=>none) else grow e de n ys
          | _=>grow e de n ys) else none
        | none=>none
      | none=>none
    | _=>none
  | none=>none
where grow (e:TypeId) (de:TD) (n:Nat) (ys:List AV):Option (AV×Dl):=match rdH H de.size (E x) with
  | some (m,some k,xs)=>bif Nat.blt k (m+n) && Nat.ble ((m+n)*(de.bytes+1)) 140737488355328 then some (.bsl id 0 0 (m+n) none, .new (.xo (.blk 0 e de.size (xs++ys)))) else none
  | _=>none
def cpyE (T:List (TypeId×TD)) (E:Operand->AV) (H:Nat->Option AObj) (t:TypeId) (x y:Operand):Option (AV×Dl):=match kae T t with
  | some d=>match d.kind with
    | .slice e=>match kae T e with
      | some de=>match E x,rdH H de.size (E y) with
        | .bsl i g off len _,some (n,_,ys)=>match objH H i with
          | some (g',cells)=>bif Nat.beq g g' && Nat.ble (off+(ys.take (min n len*de.size)).length) cells.length then setE H i (.fz (.atom (.int .i64 ((min n len:Nat):Int)))) (kc8 cells off (ys.take (min n len*de.size))) else none
          | none=>none
        | _,_=>none
      | none=>none
    | _=>none
  | none=>none
def sE (T:List (TypeId×TD)) (Z:List (TypeId×Value)) (E:Operand->AV) (H:Nat->Option AObj) (mu:Bool) (id:Nat) (o:Oper):Option (AV×Dl):=match o.op with
  | .box e x=>bif (E x).cells.all AV.single then some (.ref id 0 0, .new (.box e (E x).cells)) else none
  | .alloc e=>match kae T e with
    | some d=>match ks0 d with
      | some cells=>some (.ref id 0 0, .new (.box e cells))
      | none=>none
    | none=>none
  | .store t x y=>stoE T E H t x y
  | .makeSlice t x y=>mksE T E H t id x y
  | .buildSlice t n parts=>litE T E H mu t n id parts
  | .makeMap _ none=>some (.mp id, .new (.xo (.amap [])))
  | .mapUpdate t x y v=>mpuE T E H t x y v
  | .range t x=>rngE T E H t id x
  | .next x false=>nxtE E H x
  | .call c=>match c.callee,c.args.toList,c.argTypes.toList with
    | .builtin .append,[x,y],[t,tx]=>appE T E H t tx id x y
    | .builtin .copy,[x,y],[t,_]=>cpyE T E H t x y
    | _,_,_=>match nE T Z E H o with
      | some c=>some (c, .no)
      | none=>none
  | _=>match nE T Z E H o with
    | some c=>some (c, .no)
    | none=>none
def idsN:Nat->List Nat
  | 0=>[]
  | k+1=>k::idsN k
structure XS where
  n:Nat
  tmps:List (Nat×AV)
  heap:List (Nat×AObj)
  k:Nat
  lg:List Nat
def XS.st (s:XS) (D:List Deferred):St:=⟨s.n,s.tmps,s.heap,idsN s.k,D⟩
noncomputable def getQ (l:List (Nat×AV)) (t:Nat):AV:=List.rec (motive:=fun _=>AV) .any (fun p _ ih=>Bool.rec ih p.2 (Nat.beq p.1 t)) l
noncomputable def getO (l:List (Nat×AObj)) (t:Nat):Option AObj:=List.rec (motive:=fun _=>Option AObj) none (fun p _ ih=>Bool.rec ih (some p.2) (Nat.beq p.1 t)) l
noncomputable def knb (l:List (Nat×AV)) (t:Nat) (v:AV):List (Nat×AV):=List.rec (motive:=fun _=>List (Nat×AV)) [(t,v)] (fun p l ih=>Bool.rec (p::ih) ((t,v)::l) (Nat.beq p.1 t)) l
noncomputable def kyo (l:List (Nat×AObj)) (t:Nat) (v:AObj):List (Nat×AObj):=List.rec (motive:=fun _=>List (Nat×AObj)) [(t,v)] (fun p l ih=>Bool.rec (p::ih) ((t,v)::l) (Nat.beq p.1 t)) l
noncomputable def XS.E (s:XS) (x:Operand):AV:=match x with
  | .tmp t=>getQ s.tmps t
  | .const v=>k6g v
  | .global _ => .any
  | .func f => .fn f []
noncomputable def XS.H (s:XS):Nat->Option AObj:=getO s.heap
noncomputable def XS.put (s:XS) (d:Option Nat) (v:AV):XS:=match d with
  | some t=>{ s with tmps:=knb s.tmps t v }
  | none=>s
noncomputable def XS.app (s:XS):Dl->XS
  | .no=>s
  | .new ob=>{ s with heap:=(s.k,ob)::s.heap,k:=s.k+1,lg:=s.k::s.lg }
  | .upd i ob=>{ s with heap:=kyo s.heap i ob,lg:=i::s.lg }
def k43:Value->Value->Bool
  | .int k m, .int k' n=>decide (k=k') && m == n
  | .string s, .string u=>s.toList == u.toList
  | .bool a, .bool b=>a == b
  | .slice none 0 0, .slice none 0 0=>true
  | .pointer none, .pointer none=>true
  | .map none, .map none=>true
  | .nilFunc, .nilFunc=>true
  | .nilIface, .nilIface=>true
  | _,_=>false
mutual
def eqFV:FV->FV->Bool
  | .atom v, .atom u=>k43 v u
  | .agg a, .agg b=>km7 a b
  | .tup a, .tup b=>km7 a b
  | .lst s n a, .lst s' n' b=>Nat.beq s s' && (Nat.beq n n' && km7 a b)
  | .fp a, .fp b=>km7 a b
  | .bx a, .bx b=>km7 a b
  | _,_=>false
def km7:List FV->List FV->Bool
  | [],[]=>true
  | a::l,b::m=>eqFV a b && km7 l m
  | _,_=>false
end
def mkEl (sz:Nat) (xs:List FV):Option FV:=bif Nat.beq xs.length sz then (match xs with
  | [x]=>some x
  | xs=>some (.agg xs)) else none
def krz (sz:Nat):Nat->List FV->Option (List FV)
  | 0,l=>match l with
    | []=>some []
    | _=>none
  | n+1,l=>match mkEl sz (l.take sz),krz sz n (l.drop sz) with
    | some y,some r=>some (y::r)
    | _,_=>none
def atF:FV->Bool
  | .atom _=>true
  | .agg xs=>xs.all fun | .atom _=>true | _=>false
  | .tup xs=>xs.all fun | .atom _=>true | _=>false
  | _=>false
mutual
def frz (H:Nat->Option AObj) (fr:Bool):Nat->AV->Option FV
  | 0,_=>none
  | _+1, .fz x=>bif !fr || atF x then some x else none
  | _+1, .lim s n xs=>bif fr then none else some (.lst s n xs)
  | f+1, .agg cs=>match frzs H fr f cs with
    | some xs=>some (.agg xs)
    | none=>none
  | f+1, .tup cs=>match frzs H fr f cs with
    | some xs=>some (.tup xs)
    | none=>none
  | f+1, .bsl id g off len _=>match H id with
    | some (.xo (.blk g' _ sz cells))=>bif Nat.beq g g' then (match frzs H fr f ((cells.drop off).take (len*sz)) with
      | some xs=>match krz sz len xs with
        | some ys=>some (.lst sz len ys)
        | none=>none
      | none=>none) else none
    | _=>none
  | _+1,_=>none
def frzs (H:Nat->Option AObj) (fr:Bool):Nat->List AV->Option (List FV)
  | 0,_=>none
  | _+1,[]=>some []
  | f+1,x::l=>match frz H fr f x,frzs H fr f l with
    | some y,some r=>some (y::r)
    | _,_=>none
end
def resE (T:List (TypeId×TD)) (E:Operand->AV) (H:Nat->Option AObj):ResultVar->Option AV
  | .tmp t=>some (E (.tmp t))
  | .cell x t=>match kae T t,k1v H (E (.tmp x)) with
    | some d,some xs=>knd d xs
    | _,_=>none
def kyr (T:List (TypeId×TD)) (E:Operand->AV) (H:Nat->Option AObj):List ResultVar->Option (List AV)
  | []=>some []
  | r::rs=>match resE T E H r,kyr T E H rs with
    | some y,some ys=>some (y::ys)
    | _,_=>none
def retE (T:List (TypeId×TD)) (E:Operand->AV) (H:Nat->Option AObj) (rs:List ResultVar):Option AV:=match kyr T E H rs with
  | some [y]=>some y
  | some ys=>some (tupA ys)
  | none=>none
inductive FT where
  | lf
  | nd (k:Nat) (v:Func) (l r:FT)
noncomputable def FT.get (t:FT) (f:Nat):Option Func:=FT.rec (motive:=fun _=>Option Func) none (fun k v _ _ il ir=>Bool.rec (Bool.rec ir il (Nat.blt f k)) (some v) (Nat.beq k f)) t
structure Cx where
  T:List (TypeId×TD)
  Z:List (TypeId×Value)
  fn:FT
  mu:List Nat
  pu:List Nat
  fx:List (Nat×List FV×FV)
  ib:List Nat
  nf:List Nat
def k04:List (Nat×List FV×FV)->Nat->List FV->Option FV
  | [],_,_=>none
  | (f,as_,r)::l,g,xs=>bif Nat.beq f g && km7 as_ xs then some r else k04 l g xs
def kno (E:Operand->AV) (f:Operand):Option (Nat×List AV×List AV):=match E f with
  | .fn f caps=>some (f,[],caps)
  | .mth f fst=>some (f,fst,[])
  | _=>none
abbrev EvT:=Bool->Code->XS->Option (Exit×XS)
def ks2 (c:UInt8):List UInt8->Nat->Int
  | [],_ => -1
  | x::l,i=>bif Nat.beq x.toNat c.toNat then (i:Int) else ks2 c l (i+1)
def k4z:Code->Option (Code×Nat×Oper×Oper×Nat×Code)
  | .seq x (.seq (.region rid os false) c)=>match os.toList with
    | [o1,o2]=>match o1.dst,o1.guard,o2.op,o2.dst,o2.guard with
      | some t,none, .defer cl,none,none=>match cl.callee,cl.args.toList with
        | .value (.tmp t'),[]=>bif Nat.beq t t' then some (x,rid,o1,o2,t,c) else none
        | _,_=>none
      | _,_,_,_,_=>none
    | _=>none
  | _=>none
def k45:Exit->Bool
  | .ret=>true
  | .normal=>true
  | _=>false
def nilA:AV := .fz (.atom .nilIface)
noncomputable def k95 (C:Cx) (ih:EvT) (f:Nat) (fn:Func) (x:Code) (o1:Oper) (t:Nat) (c1:Code) (s0:XS):Option (AV×XS):=match ih (C.mu.contains f) x s0 with
  | some (.normal,s1)=>match nE C.T C.Z s1.E s1.H o1 with
    | some (.fn f2 caps)=>match C.fn.get f2 with
      | some fn2=>match knq fn2 with
        | some (ta,tb,c2)=>match ih (C.mu.contains f) c1 (s1.put (some t) (.fn f2 caps)) with
          | some (e,s2)=>match (bif k45 e && Nat.ble caps.length fn2.ntmps then ih (C.mu.contains f2) c2 ⟨fn2.ntmps,knb (knb (argT 0 caps) ta nilA) tb nilA,s2.heap,s2.k,s2.lg⟩ else none) with
            | some (e2,s3)=>match (bif k45 e2 then retE C.T s2.E s3.H fn.results.toList else none) with
              | some y=>some (y,⟨s2.n,s2.tmps,s3.heap,s3.k,s3.lg⟩)
              | none=>none
            | none=>none
          | none=>none
        | none=>none
      | none=>none
    | _=>none
  | _=>none
noncomputable def kyn (C:Cx) (ih:EvT) (f:Nat) (args:List AV) (heap:List (Nat×AObj)) (k:Nat) (lg:List Nat):Option (AV×XS):=match C.fn.get f with
  | some fn=>match fn.body with
    | some c=>match k4z c with
      | some (x,_,o1,_,t,c1)=>bif Nat.ble args.length fn.ntmps && Nat.blt t fn.ntmps then k95 C ih f fn x o1 t c1 ⟨fn.ntmps,argT 0 args,heap,k,lg⟩ else none
      | none=>match (bif Nat.ble args.length fn.ntmps then ih (C.mu.contains f) c ⟨fn.ntmps,argT 0 args,heap,k,lg⟩ else none) with
      | some (e,s1)=>match e,retE C.T s1.E s1.H fn.results.toList with
        | .ret,some y=>some (y,s1)
        | .normal,some y=>some (y,s1)
        | _,_=>none
      | none=>none
    | none=>none
  | none=>none
noncomputable def k4w (C:Cx) (ih:EvT) (f:Nat) (xs:List FV):Option FV:=match k04 C.fx f xs with
  | some r=>some r
  | none=>bif C.pu.contains f then (match kyn C ih f (xs.map .fz) [] 0 [] with
    | some (y,s1)=>frz s1.H false 1000 y
    | none=>none) else none
noncomputable def k4r (C:Cx) (ih:EvT) (H:Nat->Option AObj) (f:Nat) (args:List AV):Option FV:=match koi args with
  | some xs=>(match C.ib.contains f,xs with
    | true,[.atom (.string u), .atom (.int .u8 c)]=>some (FV.atom (.int .i64 (ks2 c.toNat.toUInt8 u.data.toList 0)))
    | _,_=>k4w C ih f xs)
  | none=>match frzs (fun _=>none) false 1000 args with
   | some xs=>k4w C ih f xs
   | none=>bif C.pu.contains f then (match frzs H false 1000 args with
    | some xs=>(match k04 C.fx f xs with
      | some r=>bif atF r then some r else none
      | none=>(match kyn C ih f (xs.map .fz) [] 0 [] with
        | some (y,s1)=>frz s1.H true 1000 y
        | none=>none))
    | none=>none) else none
noncomputable def kagv (C:Cx) (ih:EvT) (s:XS) (f:Nat) (args:List AV):Option (AV×XS):=match k4r C ih s.H f args with
  | some r=>some (.fz r,s)
  | none=>match kyn C ih f args s.heap s.k s.lg with
    | some (y,s1)=>some (y,{ s with heap:=s1.heap,k:=s1.k,lg:=s1.lg })
    | none=>none
def dstE (n:Nat) (o:Oper):Bool:=match o.dst with
  | some t=>Nat.blt t n
  | none=>true
noncomputable def kxr (ops:Array Oper) (E:Operand->AV) (o:Oper):Option Bool:=match o.guard with
  | none=>some true
  | some (j,want)=>match (ops[j]?).bind (·.dst) with
    | some t=>match E (.tmp t) with
      | .fz (.atom (.bool b))=>some (b == want)
      | .fz (.tup _)=>some false
      | _=>none
    | none=>none
def k44 (o:Oper):Option (Operand×List Operand):=match o.op with
  | .call c=>(match c.callee with
    | .value f=>some (f,c.args.toList)
    | _=>none)
  | _=>none
noncomputable def opE (C:Cx) (ih:EvT) (mu:Bool) (o:Oper) (s:XS):Option (AV×XS):=match k44 o with
  | some (f,as_)=>match kno s.E f with
    | some (f,fst,caps)=>kagv C ih s f (fst++(as_.map s.E++caps))
    | none=>none
  | none=>match sE C.T C.Z s.E s.H mu s.k o with
    | some (c,dl)=>some (c,s.app dl)
    | none=>none
noncomputable def opsE (C:Cx) (ih:EvT) (mu:Bool) (ops:Array Oper) (l:List Oper):XS->Option XS:=List.rec (motive:=fun _=>XS->Option XS) (fun s=>some s) (fun o _ k s=>bif dstE s.n o then (match kxr ops s.E o with
    | some true=>match opE C ih mu o s with
      | some (c,s1)=>k (s1.put o.dst c)
      | none=>none
    | some false=>k (s.put o.dst (.fz (.tup [])))
    | none=>none) else none) l
def isEs (nf:List Nat) (li:Bool) (o:Oper):Bool:=match o.op with
  | .alloc _=>true
  | .box _ _=>true
  | .store _ _ _=>true
  | .makeSlice _ _ _=>true
  | .makeMap _ _=>true
  | .mapUpdate _ _ _ _=>true
  | .range _ _=>true
  | .next _ _=>true
  | .buildSlice _ _ _=>li
  | .call c=>match c.callee with
    | .value (.func f)=>!nf.contains f
    | .value _=>true
    | .builtin .append=>true
    | .builtin .copy=>true
    | _=>false
  | _=>false
def esOf (nf:List Nat) (li:Bool):List Oper->Nat->List Nat
  | [],_=>[]
  | o::l,i=>bif isEs nf li o then i::esOf nf li l (i+1) else esOf nf li l (i+1)
def okN0 (k:Nat):AV->Bool
  | .fz _=>true
  | .lim _ _ _=>true
  | .any=>true
  | .ref id _ _=>Nat.blt id k
  | .mp id=>Nat.blt id k
  | .bsl id _ _ _ _=>Nat.blt id k
  | _=>false
def okN (k:Nat):AV->Bool
  | .agg cs=>cs.all (okN0 k)
  | .tup cs=>cs.all (okN0 k)
  | .fn _ cs=>cs.all (okN0 k)
  | .mth _ cs=>cs.all (okN0 k)
  | x=>okN0 k x
def idAV:AV->List Nat
  | .ref id _ _=>[id]
  | .mp id=>[id]
  | .bsl id _ _ _ _=>[id]
  | _=>[]
def kx8 (E:Operand->AV) (o:Oper):List Nat:=match o.op with
  | .move _=>[]
  | .assign _=>[]
  | .pick _ _ _=>[]
  | .build _ _=>[]
  | .buildSlice _ _ _=>[]
  | .makeFunc _ _ _=>[]
  | .extract _ _=>[]
  | _=>o.op.operands.toList.flatMap fun x=>idAV (E x)
def kq1 (rf:List Nat):List (Nat×AObj)->List (Nat×AObj)
  | []=>[]
  | (k,v)::l=>bif rf.contains k then (k,v)::kq1 rf l else kq1 rf l
noncomputable def dz1 (C:Cx) (ih:EvT) (mu:Bool) (os:Array Oper) (L:List Oper) (n:Nat) (es:List Nat) (s0:XS) (i:Nat) (o:Oper) (fs:List (Nat×Option Nat×AV)) (hs:XS):Option (AV×XS×List Nat):=
  match (⟨s0.n,hadd fs (ki6 o) (klb L i n++s0.tmps),hs.heap,hs.k,hs.lg⟩:XS) with
  | v=>match kxr os v.E o with
    | some false=>some (.fz (.tup []),hs,[])
    | some true=>bif es.contains i then (match opE C ih mu o v with
        | some (c,v1)=>some (c,v1,[])
        | none=>none)
      else (match k44 o with
        | some (f,as_)=>(match kno v.E f with
          | some (f,fst,caps)=>(match k4r C ih (bif phB L es i then v.H else fun _=>none) f (fst++(as_.map v.E++caps)) with
            | some r=>some (.fz r,hs,[])
            | none=>none)
          | none=>none)
        | none=>bif phB L es i then (match nE C.T C.Z v.E v.H o with
            | some c=>some (c,hs,[])
            | none=>none)
          else (match nE C.T C.Z v.E (getO (kq1 (kx8 v.E o) s0.heap)) o with
            | some c=>bif okN s0.k c then some (c,hs,kx8 v.E o) else none
            | none=>none))
    | none=>none
noncomputable def dzE (C:Cx) (ih:EvT) (mu:Bool) (os:Array Oper) (L:List Oper) (n:Nat) (es:List Nat) (s0:XS):List Oper->Nat->List (Nat×Option Nat×AV)->XS->List (Nat×List Nat)->List (Nat×List Nat)->Option (List (Nat×Option Nat×AV)×XS×List (Nat×List Nat)×List (Nat×List Nat))
  | [],_,fs,hs,rf,sl=>some (fs,hs,rf,sl)
  | o::l,i,fs,hs,rf,sl=>match dz1 C ih mu os L n es s0 i o fs hs with
    | some (c,hs1,r1)=>dzE C ih mu os L n es s0 l (i+1) ((i,o.dst,c)::fs) hs1 ((i,r1)::rf) ((i,hs1.lg.take (hs1.lg.length - hs.lg.length))::sl)
    | none=>none
noncomputable def krw (fs:List (Nat×Option Nat×AV)) (base:List (Nat×AV)):List (Nat×AV):=match fs with
  | []=>base
  | (_,some d,c)::l=>knb (krw l base) d c
  | (_,none,_)::l=>krw l base
noncomputable def drzA (C:Cx) (ih:EvT) (mu:Bool) (ops:Array Oper) (s:XS) (es:List Nat):Option XS:=
  bif relB ops.toList ops.toList.length s.n && ksb ops.toList ops.toList.length es then
    (match dzE C ih mu ops ops.toList ops.toList.length es s ops.toList 0 [] s [] [] with
      | some (fs,hs,rf,sl)=>bif rf.all (fun p=>sl.all fun q=>anc ops.toList q.1 p.1 || p.2.all (fun r=>!q.2.contains r)) then some ⟨s.n,krw fs s.tmps,hs.heap,hs.k,hs.lg⟩ else none
      | none=>none)
  else none
noncomputable def drzE (C:Cx) (ih:EvT) (mu:Bool) (ops:Array Oper) (s:XS):Option XS:=match drzA C ih mu ops s (esOf C.nf mu ops.toList 0) with
  | some r=>some r
  | none=>match drzA C ih mu ops s (esOf C.nf true ops.toList 0) with
    | some r=>some r
    | none=>match drzA C ih mu ops s (esOf [] mu ops.toList 0) with
      | some r=>some r
      | none=>drzA C ih mu ops s (esOf [] true ops.toList 0)
noncomputable def evB (C:Cx) (ih:EvT):EvT:=fun mu c s=>match c with
  | .skip=>some (.normal,s)
  | .region _ ops false=>match opsE C ih mu ops ops.toList s with
    | some s1=>some (.normal,s1)
    | none=>none
  | .region _ ops true=>match drzE C ih mu ops s with
    | some s1=>some (.normal,s1)
    | none=>none
  | .seq x y=>match ih mu x s with
    | some (.normal,s1)=>ih mu y s1
    | r=>r
  | .cond c x y=>match s.E c with
    | .fz (.atom (.bool b))=>ih mu (bif b then x else y) s
    | _=>none
  | .block id x=>match ih mu x s with
    | some (.exit i,s1)=>bif Nat.beq i id then some (.normal,s1) else some (.exit i,s1)
    | r=>r
  | .loop x=>match ih mu x s with
    | some (.normal,s1)=>ih mu (.loop x) s1
    | r=>r
  | .exit i=>some (.exit i,s)
  | .ret=>some (.ret,s)
  | .scope x=>ih mu x s
  | _=>none
noncomputable def ev (C:Cx) (n:Nat):EvT:=Nat.rec (motive:=fun _=>EvT) (fun _ _ _=>none) (fun _ ih=>evB C ih) n
noncomputable def runE (C:Cx) (n f:Nat) (args:List FV):Option FV:=match kyn C (ev C n) f (args.map .fz) [] 0 [] with
  | some (y,s1)=>frz s1.H false 1000 y
  | none=>none
variable {P:Program} {w w':World} {a:Act}
theorem kahz (fn: Func) {fn2: Func} (f: FuncId) (cvals: List Value) {t1 t2: Nat} {c2: Code} (R: Ending -> World -> Prop) (hd: a.defers = [dfn f cvals]) (u: P.funcs[f]? = some fn2) (x: knq fn2 = some (t1, t2, c2)) (hn: (fn2.name == "runtime.NumGoroutine") = false) (z: cvals.length <= fn2.ntmps) (h:Cwp P c2 (fun e2 a2 w2=>(e2 = .normal\/e2 = .ret)/\a2.defers=[]/\∃ v,(results fn a.tmps).run P w2 = .ok v w2/\R (.returned v) w2)
      (((⟨cvals.toArray++Array.replicate (fn2.ntmps - cvals.toArray.size) undef,[]⟩:Act).put (some t1) .nilIface).put (some t2) .nilIface) w'):
    Leaves P fn a.tmps R a.defers .returning w':=by
  obtain ⟨id,os,o1,c1,b,p1,p2,p3,p4,p5,n1,n2,nres,c⟩:=kvs x;rw [hd];have k:fn2.body≠none:=by rw [b];simp
  simp only [qam,ne_eq] at hn;refine leaves_cons (f:=f) (args:=cvals.toArray) (fun A=>by cases A) (by simp [invoke,callFunc,u,k,hn]) ?_;refine callsD_of_wpS u b fun c₀ cs hm=>?_;have m:(cvals.toArray++Array.replicate (fn2.ntmps - cvals.toArray.size) undef).size=fn2.ntmps:=by simp;omega
  let a0:Act:={ tmps:=cvals.toArray++Array.replicate (fn2.ntmps - cvals.toArray.size) undef,defers:=[] }
  let a2:Act:=(a0.put (some t1) .nilIface).put (some t2) .nilIface
  have g:∀ (R2:Ending->FrameMode->World->Prop),(∀ v w'',Leaves P fn a.tmps R [] .returning w''->R2 (.returned v) .returning w'') ->
      c2.wp P (fun e a' w''=>bodyPostS P fn2 c₀ cs R2 e a' ({ c₀ with mode := .returning }::cs) w'') a2 w':=by
    intro R2 B;refine wp_wide.1 (kcr h ?_);rintro e2 a'' w'' ⟨o,p,v,hv,hr⟩;have i:a''.defers=[]/\∃ u'',({ c₀ with mode := .returning }::cs:List Frame)={ c₀ with mode:=u'' }::cs/\∃ v,(results fn2 a''.tmps).run P w'' = .ok v w''/\R2 (.returned v) u'' w'':=
      ⟨p, .returning,rfl, .tuple #[],by simp [results,nres],B _ _ ⟨v,hv,hr⟩⟩
    rcases o with rfl | rfl <;> exact i
  refine wpS_seq (wpS_region ?_);have q:∀ (a:Act) (w:World),(execOp a.eval o1).run P w = .ok .recover w:=fun a w=>by obtain ⟨cc,as_,ts⟩:=c1;simp only at p2 p3;subst p2 p3;simp [execOp,p1,resolve,invoke,builtin]
  have r:∀ y,Region.wanted o1 y=true:=fun y=>by simp [Region.wanted,p5]
  have key:∀ (cs':List Frame) (Q:Exit->Act->List Frame->World->Prop),(Q .normal a2 cs' w'->os[0]?=some o1/\∃ l,List.range os.size=0::l/\wpOpsS P os Q l (a0.put (some t1) .nilIface) cs' w'):=fun cs' Q hQ=>by
    rcases c with ⟨o2,rfl,q1,q2,q3⟩ | ⟨rfl,rfl⟩
    · refine ⟨rfl,[1],rfl,?_⟩
      have s:∀ y,Region.wanted o2 y=true:=fun y=>(by simp [Region.wanted,q3]);unfold wpOpsS;simp only [List.getElem?_toArray,qbn,List.getElem?_cons_zero,s,if_true];have hv:(execOp (a0.put (some t1) .nilIface).eval o2).run P w' = .ok (.value .nilIface) w':=(by have:(a0.put (some t1) .nilIface).eval (.tmp t1) = .nilIface:=(by show (a0.put (some t1) .nilIface).tmps.getD t1 undef = .nilIface;rw [ko9 (some t1) fn2.ntmps t1 m (by intro t ht;injection ht with ht;omega),qs rfl]);simp [execOp,q1,this]);rw [hv];simp only [Oper.upon,q2];unfold wpOpsS;exact hQ
    · refine ⟨rfl,[],rfl,?_⟩
      unfold wpOpsS;have C:a2=a0.put (some t2) .nilIface:=(by show (a0.put (some t2) .nilIface).put (some t2) .nilIface=a0.put (some t2) .nilIface;simp [Act.put]);rw [<- C];exact hQ
  have j:recoverD (c₀::cs)=none:=by simp [recoverD,hm]
  have go:∀ (Q:Exit->Act->List Frame->World->Prop),Q .normal a2 (c₀::cs) w'->wpOpsS P os Q (List.range os.size) a0 (c₀::cs) w':=fun Q hQ=>by obtain ⟨k1,l,k2,k3⟩:=key (c₀::cs) Q hQ;rw [k2];unfold wpOpsS;simp only [k1,r,if_true];rw [q];simp only [j,p4];exact k3
  refine go _ ?_;show c2.wpS P _ a2 (c₀::cs) w';refine wpS_of_wp ?_;have hc:(c₀::cs)=({ c₀ with mode := .returning }::cs:List Frame):=by rw [<- hm]
  rw [hc];exact g _ fun v w'' hl=>hl
variable {F S0:Nat->Prop} {N0:Nat} {S S':Nat->Prop} {ψ ψ':Env} {K:Nat->Prop} {T:List (TypeId×TD)} {Z:List (TypeId×Value)} {o:Oper} {st:St} {t tx:TypeId} {d:TD} {id:Nat} {c:AV}
theorem kas {α:Type} {b:Bool} {x:Option α} {y:α} (h:(bif b then x else none)=some y):b=true/\x=some y:=by
  cases b with
  | false=>cases h
  | true=>exact ⟨rfl,h⟩
theorem kahw (g:TOk P T) {s:TypeId} {x:Operand} {f:Nat} (i:o.op = .fieldAddr s x f) (h:fldE T st.eval (kaa st.heap) s x f=some c):NStep P o st c:=by
  unfold fldE at h;split at h
  · rename_i d hd
    split at h
    · rename_i fs hk
      split at h
      · rename_i ft off j
        split at h
        · rename_i df b
          cases a:Nat.beq df.size 0 with
          | true=>rw [a] at h;cases h
          | false=>
            rw [a] at h;exact kaen i (g.get hd) hk j (g.get b) (fun e=>by rw [e] at a;cases a) h
        · cases h
      · cases h
    · cases h
  · cases h
theorem kai0 (f:TOk P T) {x y:Operand} (j:o.op = .indexAddr t x y) (h:idxE T st.eval (kaa st.heap) t x y=some c):NStep P o st c:=by
  unfold idxE at h;split at h
  · rename_i d k i hd hy
    replace h:=kas h;obtain ⟨h0,h⟩:=h;have h0:0<=i:=(by simpa using h0);split at h
    · rename_i e hk
      split at h
      · rename_i de a
        split at h
        · rename_i id g off len cap hx
          split at h
          · rename_i g' cells l
            replace h:=kas h;obtain ⟨b,h⟩:=h;simp only [qo,decide_eq_true_eq] at b;obtain rfl:=qi b.1;injection h with h;subst h;exact kajv j (f.get hd) hk (f.get a) hx l hy h0 b.2
          · cases h
        · split at h
          · rename_i xs hl
            split at h
            · rename_i z m
              replace h:=kas h;obtain ⟨b,h⟩:=h;injection h with h;subst h;exact k85 j (f.get hd) hk (f.get a) hl (fun z m=>qi (qp.1 b z m)) hy h0 m rfl
            · cases h
          · cases h
      · cases h
    · rename_i n e hk
      split at h
      · rename_i de a
        replace h:=kas h;obtain ⟨b,h⟩:=h;exact kakg j (f.get hd) hk (f.get a) hy h0 (by simpa using b) h
      · cases h
    · cases h
  · cases h
theorem kaio (e:TOk P T) {x y:Operand} (f:o.op = .index t x y) (h:bytE T st.eval (kaa st.heap) t x y=some c):NStep P o st c:=by
  unfold bytE at h;split at h
  · rename_i d s k i hd hx hy
    split at h
    · rename_i hk
      replace h:=kas h;obtain ⟨h0,h⟩:=h;split at h
      · rename_i b g
        injection h with h;subst h;have a:s.data[i.toNat]?=some b:=(by simpa using g);exact kac2 f (e.get hd) hk hx hy (by simpa using h0) (c:=b) (by obtain ⟨hl,a⟩:=qai.1 a;rw [<- a];exact getElem?_pos s i.toNat hl)
      · cases h
    · cases h
  · cases h
theorem kahc {s:BA} {l h:Nat} (h1:l<=h) (a:h<=s.size):cutB s l h=s.extract l h:=by apply ByteArray.ext;rw [ByteArray.data_extract];apply qbj;simp [cutB,Array.toList_extract,List.extract_eq_take_drop,List.drop_take]
theorem k4h (s:BA):ksc s=s.size:=by unfold ksc;rw [qak];rfl
theorem kajf {x:Operand} {lo hi:Option Operand} {s:BA} {L H:Nat} (e:o.op = .slice t x lo hi none) (hd:TdOk P t d) (hk:d.kind = .str) (hx:st.eval x = .fz (.atom (.string s))) (hl:ke2 st 0 lo=some L) (c:ke2 st (ksc s) hi=some H) (h1:L<=H) (b:H<=ksc s):
    NStep P o st (.fz (.atom (.string (cutB s L H)))):=by
  intro ψ S a w ht f;have hv:=Sim.eval_tmps ht x;rw [hx] at hv;rw [k4h] at c b;have e1:=klh P w none false s.size s.size (kcl ht hl) (kcl ht c) (.inl ⟨rfl,rfl⟩) h1 b (qw _) (fun h=>by cases h);refine kad w (.string (s.extract L H)) ?_ ⟨kaf _,by rw [kahc h1 b];exact .fz (.atom rfl)⟩;simp only [Option.map_none] at e1;simp [execOp,e,Instr.sliceAt,Instr.slice,run_underlying (hd.str hk),hv.atom,e1]
theorem kaix (m:TOk P T) {x:Operand} {lo hi mx:Option Operand} (p:o.op = .slice t x lo hi mx) (h:slcE T st.eval (kaa st.heap) t x lo hi mx=some c):NStep P o st c:=by
  unfold slcE at h;split at h
  · rename_i d hd
    split at h
    · rename_i hk
      split at h
      · rename_i s hx
        split at h
        · rename_i L H f i
          replace h:=kas h;obtain ⟨a,h⟩:=h;simp only [qo] at a;injection h with h;subst h;exact kajf p (m.get hd) hk hx f i (qn a.1) (qn a.2)
        · cases h
      · cases h
    · rename_i e hk
      split at h
      · rename_i de b
        split at h
        · rename_i id g off len k hx
          split at h
          · rename_i g' cells L H M j f i l
            replace h:=kas h;obtain ⟨a,h⟩:=h;simp only [qo,Bool.or_eq_true,qbm] at a;obtain ⟨b1,b2,b3,b4,b5⟩:=a;obtain rfl:=qi b1;injection h with h;subst h;exact n_slB p m hd hk b hx j f i l (qn b2) (qn b3) (qn b4) (fun hm=>b5.elim (fun h=>by rw [hm] at h;cases h) fun h=>h)
          · cases h
        · rename_i id g len hx
          split at h
          · rename_i g' cells L H j f i
            split at h
            · replace h:=kas h
              obtain ⟨a,h⟩:=h;simp only [qo] at a;obtain ⟨b1,b2,b3⟩:=a;obtain rfl:=qi b1;obtain rfl:=qi b2;injection h with h;subst h;exact n_slU p m hd hk b hx j f i (qn b3)
            · rename_i y
              split at h
              · rename_i M l
                replace h:=kas h;obtain ⟨a,h⟩:=h;simp only [qo] at a;obtain ⟨b1,b2,b3,b4,b5⟩:=a;obtain rfl:=qi b1;injection h with h;subst h;exact n_slM p m hd hk b hx j f i l (qn b2) (qn b3) (qn b4) b5
              · cases h
          · cases h
        · rename_i hx
          split at h
          · rename_i f i l
            replace h:=kas h;obtain ⟨a,h⟩:=h;simp only [Bool.or_eq_true,qbm] at a;injection h with h;subst h;exact n_sl0 p m hd hk b hx f i l (fun hm=>a.elim (fun h=>by rw [hm] at h;cases h) fun h=>h)
          · cases h
        · split at h
          · rename_i s n xs hl
            split at h
            · rename_i L H f i
              replace h:=kas h;obtain ⟨a,h⟩:=h;simp only [qo] at a;obtain ⟨b1,b2,b3⟩:=a;obtain rfl:=qi b1;split at h
              · injection h with h
                subst h;exact n_slF p m hd hk b hl f i (qn b2) (qn b3)
              · rename_i y
                split at h
                · rename_i M l
                  replace h:=kas h;obtain ⟨a,h⟩:=h;simp only [qo] at a;obtain rfl:=qi a.1;injection h with h;subst h;exact kajo p m hd hk b hl f i l (qn b2) (qn b3) a.2
                · cases h
            · cases h
          · cases h
      · cases h
    · rename_i n e hk
      split at h
      · rename_i de id g off b hx
        split at h
        · rename_i g' cells L H M j f i l
          replace h:=kas h;obtain ⟨a,h⟩:=h;simp only [qo,Bool.or_eq_true,qbm] at a;obtain ⟨b1,b2,b3,b4,b5,b6⟩:=a;obtain rfl:=qi b1;injection h with h;subst h;exact kahs p m hd hk b hx j f i l (qn b2) (qn b3) (qn b4) (fun hm=>b5.elim (fun h=>by rw [hm] at h;cases h) fun h=>h) (qn b6)
        · cases h
      · cases h
    · cases h
  · cases h
theorem kahv (b:TOk P T) {x:Operand} (f:o.op = .call { callee := .builtin .len,args:=#[x],argTypes:=#[t] }) (h:lenE T st.eval (kaa st.heap) x t=some c):NStep P o st c:=by
  unfold lenE at h;split at h
  · rename_i d hd
    split at h
    · rename_i e id g off len cap hk hx
      split at h
      · rename_i g' cells a
        replace h:=kas h;obtain ⟨i,h⟩:=h;obtain rfl:=qi i;injection h with h;subst h;exact kaj6 f (b.get hd) hk hx a
      · cases h
    · rename_i hk _
      split at h
      · rename_i n hn
        injection h with h;subst h;exact k2c f (b.get hd) hk hn
      · cases h
    · rename_i s hk hx
      injection h with h;subst h;rw [k4h];exact k3v f (b.get hd) hk hx
    · rename_i kt et id hk hx
      split at h
      · rename_i kv a
        injection h with h;subst h;exact kajr f (b.get hd) hk hx a
      · cases h
    · cases h
  · cases h
theorem kair (a:TOk P T) {x:Operand} (b:o.op = .call { callee := .builtin .cap,args:=#[x],argTypes:=#[t] }) (h:capE T st.eval (kaa st.heap) x t=some c):NStep P o st c:=by
  unfold capE at h;split at h
  · rename_i d hd
    split at h
    · rename_i e hk
      split at h
      · rename_i de f
        split at h
        · rename_i m k ys hr
          injection h with h;subst h;exact kakn b (a.get hd) hk hr
        · cases h
      · cases h
    · cases h
  · cases h
theorem kagx (b:TOk P T) {s:TypeId} {x:Operand} (f:o.op = .convert s t x) (h:cnvE T st.eval (kaa st.heap) s t x=some c):NStep P o st c:=by
  unfold cnvE at h;split at h
  · rename_i ds d hs hd
    split at h
    · rename_i k _ k' n hk hx
      injection h with h;subst h;exact kaca b f hs hd hk hx
    · rename_i u hk a hx
      injection h with h;subst h;exact k9a b f hs a hd hk hx
    · rename_i e hk a
      split at h
      · rename_i de g
        split at h
        · rename_i i
          split at h
          · rename_i n c' ys hr
            split at h
            · rename_i xs hi
              injection h with h;subst h;exact kajj b f hs a g i hd hk hr hi
            · cases h
          · cases h
        · cases h
      · cases h
    · cases h
  · cases h
theorem kaks (e:TOk P T) (f:ZOk P Z) {x y:Operand} {ok:Bool} (g:o.op = .lookup t x y ok) (h:lkE T Z st.eval (kaa st.heap) t x y ok=some c):NStep P o st c:=by
  unfold lkE at h;split at h
  · rename_i d id k hd hx hy
    split at h
    · rename_i kt et hk
      split at h
      · rename_i kd kv a b
        replace h:=kas h;obtain ⟨i,h⟩:=h;split at h
        · rename_i r hr
          split at h
          · rename_i c' hc
            injection h with h;subst h;exact kabf g e f hd hk a hx b hy i hr (by cases r <;> exact hc)
          · cases h
        · cases h
      · cases h
    · cases h
  · cases h
theorem kab6 (mx:Bool) {x y:Operand} {ts:Array TypeId} (b:o.op = .call { callee := .builtin (bif mx then .max else .min),args:=#[x,y],argTypes:=ts }) (h:mmE st.eval (kaa st.heap) mx x y=some c):NStep P o st c:=by
  unfold mmE at h;split at h
  · rename_i k m k' n hx hy
    replace h:=kas h;obtain ⟨a,h⟩:=h;have a:k=k':=(by simpa using a);subst a;injection h with h;subst h;cases mx with
    | false=>exact kagf b hx hy
    | true=>exact kagl b hx hy
  · cases h
theorem kae8 {x:Operand} {yt:TypeId} (a:o.op = .binOp .neq t x (.const .nilIface) yt) (hd:TdOk P t d) (hk:d.kind = .ifc) (hx:st.eval x = .fz (.atom .nilIface)):NStep P o st (.fz (.atom (.bool false))):=
  krv true true a hd hk hx (.inr ⟨rfl,rfl⟩)
theorem kaak (c:TOk P T) (a:kpn T t=true):P.underlying t=some .bool:=by
  unfold kpn at a;split at a
  · rename_i d hd
    split at a
    · rename_i hk
      obtain ⟨_,e,h1,b⟩:=c.get hd;rw [hk] at b;cases e <;> simp [kfv] at b;exact h1
    · cases a
  · cases a
theorem k9h (a:TOk P T) {op:BinOp} {x y:Operand} {yt:TypeId} {r:Bool} (b:o.op = .binOp op t x y yt) (hx:(r=true/\st.eval x = .fz (.atom nilV))\/(r=false/\((∃ id g off len cap cells,st.eval x = .bsl id g off len cap/\objC st id=some (g,cells))\/∃ s n z zs,lstX (st.eval x)=some (s,n,z::zs)))) (hy:st.eval y = .fz (.atom nilV))
    (h:binE.nilE T op t r=some c):NStep P o st c:=by
  unfold binE.nilE at h;split at h
  · rename_i d hd
    split at h
    · rename_i e hk
      injection h with h;subst h;exact kab4 false r b ((a.get hd).slice hk) hx hy
    · rename_i e hk
      injection h with h;subst h;exact kab4 true r b ((a.get hd).slice hk) hx hy
    · cases h
  · cases h
theorem kai7 {z:AV} {r:Bool} (h:nilX (kaa st.heap) z=some r):(r=true/\z = .fz (.atom nilV))\/(r=false/\((∃ id g off len cap cells,z = .bsl id g off len cap/\objC st id=some (g,cells))\/∃ s n x xs,lstX z=some (s,n,x::xs))):=by
  unfold nilX at h;split at h
  · injection h with h;exact .inl ⟨h.symm,rfl⟩
  · rename_i id g off len cap
    split at h
    · rename_i g' cells a
      replace h:=kas h;obtain ⟨b,h⟩:=h;obtain rfl:=qi b;injection h with h;exact .inr ⟨h.symm, .inl ⟨id,g,off,len,cap,cells,rfl,a⟩⟩
    · cases h
  · split at h
    · rename_i s n x xs hl
      injection h with h;exact .inr ⟨h.symm, .inr ⟨s,n,x,xs,hl⟩⟩
    · cases h
theorem kaiw (a:TOk P T) {op:BinOp} {x y:Operand} {yt:TypeId} (b:o.op = .binOp op t x y yt) (h:binE T st.eval (kaa st.heap) op t x y=some c):NStep P o st c:=by
  unfold binE at h;split at h
  · split at h
    · rename_i d hd hx
      split at h
      · rename_i hk
        injection h with h;subst h;exact kae8 b (a.get hd) hk hx
      · cases h
    · cases h
  · split at h
    · rename_i hx hy
      exact k9h a b (.inl ⟨rfl,hx⟩) hy h
    · rename_i u v _ hx hy
      split at h
      · rename_i r hr
        injection h with h;subst h;exact kabc (kpn T t) (fun e=>kaak a e) b hx hy hr
      · cases h
    · rename_i hy _ _
      split at h
      · rename_i r hr
        exact k9h a b (kai7 hr) hy h
      · cases h
    · cases h
theorem kaiy {x:Operand} (e:o.op = .entry x) (h:entE st.eval (kaa st.heap) x=some c):NStep P o st c:=by
  unfold entE at h;split at h
  · rename_i id hx
    split at h
    · rename_i m since seen stepped a
      split at h
      · rename_i kv j b f
        split at h
        · rename_i p hp
          replace h:=kas h;obtain ⟨d,h⟩:=h;simp only [qo] at d;injection h with h;subst h;obtain ⟨ys,rfl⟩:∃ ys,seen=ys++[j]:=(by obtain ⟨ys,rfl⟩:=List.getLast?_eq_some_iff.1 f;exact ⟨ys,rfl⟩);rw [qi d.1] at a;exact kafq e hx a b hp d.2
        · cases h
      · cases h
    · cases h
  · cases h
theorem kadn (a:TOk P T) {parts:Array (Nat×Operand)} (b:o.op = .build t parts) (h:kac0 T st.eval t parts=some c):NStep P o st c:=k8n a b h
theorem k9b (g:TOk P T) {n:Nat} {parts:Array (Nat×Operand)} (i:o.op = .buildSlice t n parts) (h:litH T st.eval t n parts=some c):NStep P o st c:=by
  unfold litH at h;split at h
  · rename_i d hd
    split at h
    · rename_i e hk
      split at h
      · rename_i de b
        split at h
        · rename_i xs f
          replace h:=kas h;obtain ⟨a,h⟩:=h;injection h with h;subst h;simp only [qo] at a;exact kagc i (g.get hd) hk (g.get b) (qn a.2.1) (qi a.1) (qn a.2.2) f
        · cases h
      · cases h
    · cases h
  · cases h
theorem k4x (e:TOk P T) (p:ZOk P Z) (h:nE T Z st.eval (kaa st.heap) o=some c):NStep P o st c:=by
  unfold nE at h;split at h
  · rename_i a;exact kaiw e a h
  · rename_i t x a
    split at h
    · rename_i d xs hd l
      exact kag0 a (e.get hd) l h
    · cases h
  · rename_i a;exact kahw e a h
  · rename_i a;exact kajt a h
  · rename_i a;exact kai0 e a h
  · rename_i a;exact kaio e a h
  · rename_i a;exact kaix e a h
  · rename_i a;exact kagx e a h
  · rename_i a;exact kaks e p a h
  · rename_i a;exact kaiy a h
  · rename_i cl a
    obtain ⟨callee,args,tys⟩:=cl;simp only at h;split at h
    · rename_i x t g m
      rw [knl g,knl m] at a;exact kahv e a h
    · rename_i x t g m
      rw [knl g,knl m] at a;exact kair e a h
    · rename_i x y g
      have:args=#[x,y]:=(by apply qbj;simpa using g);rw [this] at a;exact kab6 false a h
    · rename_i x y g
      have:args=#[x,y]:=(by apply qbj;simpa using g);rw [this] at a;exact kab6 true a h
    · cases h
  · rename_i x a;injection h with h;subst h;exact k1f (.inl a)
  · rename_i x a;injection h with h;subst h;exact k1f (.inr a)
  · rename_i cc x y a
    split at h
    · rename_i b k
      injection h with h;subst h;exact kack a k
    · cases h
  · rename_i op t x a
    split at h
    · rename_i u q
      split at h
      · rename_i r hr
        injection h with h;subst h;exact n_un a q hr
      · cases h
    · cases h
  · rename_i x i a
    exact k3o a h
  · rename_i t parts a
    exact kadn e a h
  · rename_i t n parts a
    exact k9b e a h
  · rename_i f first cap a
    cases k:first.isEmpty with
    | false=>
      rw [k] at h;cases j:cap.isEmpty with
      | false=>rw [j] at h;cases h
      | true=>
        rw [j] at h;have:cap=#[]:=(by simpa using j);subst this;simp only [qd,qe,qc] at h;subst h;exact kaf8 a
    | true=>
      rw [k] at h;have:first=#[]:=by simpa using k
      subst this;simp only [qe,qc] at h;subst h;exact kadr a
  · cases h
theorem kage {dl:Dl} (h:(match nE T Z st.eval (kaa st.heap) o with | some c=>some (c,Dl.no) | none=>none)=some (c,dl)) (a:TOk P T) (b:ZOk P Z):StepA P o st c (klz st id dl) (dIds st id dl):=by
  split at h
  · rename_i c' hc
    simp only [qc,qq] at h;obtain ⟨rfl,rfl⟩:=h;exact (k4x a b hc).step
  · cases h
theorem k2v (id:Nat) {i g:Nat} {cells cells':List AV} {x:AV} {dl:Dl} (a:objC st i=some (g,cells)) (h:setE (kaa st.heap) i x cells'=some (c,dl)):x=c/\klz st id dl=putC st i cells'/\dIds st id dl=st.ids:=by
  unfold setE at h;split at h
  · rename_i ob d
    simp only [qc,qq] at h;obtain ⟨rfl,rfl⟩:=h;unfold objC objH at a;rw [d] at a;unfold putC;rw [d];split at a
    · rename_i e cs b;injection b with b;subst b;exact ⟨rfl,rfl,rfl⟩
    · rename_i g e sz cs b;injection b with b;subst b;exact ⟨rfl,rfl,rfl⟩
    · cases a
  · cases h
theorem kag7 (e:TOk P T) {x y:Operand} {dl:Dl} (f:o.op = .store t x y) (h:stoE T st.eval (kaa st.heap) t x y=some (c,dl)):StepA P o st c (klz st id dl) (dIds st id dl):=by
  unfold stoE at h;split at h
  · rename_i d i n off hd hx
    split at h
    · rename_i g cells a
      replace h:=kas h;obtain ⟨b,h⟩:=h;simp only [qo] at b;obtain ⟨b1,b2,b3,b4⟩:=b;obtain rfl:=qi b1;obtain ⟨rfl,e2,e3⟩:=k2v id a h;rw [e2,e3];exact kaep f (e.get hd) hx a rfl (qi b2) b3 (qn b4)
    · cases h
  · cases h
theorem kah5 (g:TOk P T) {x y:Operand} {dl:Dl} (a:st.ids.contains id=false) (i:o.op = .makeSlice t x y) (h:mksE T st.eval (kaa st.heap) t id x y=some (c,dl)):StepA P o st c (klz st id dl) (dIds st id dl):=by
  unfold mksE at h;split at h
  · rename_i d hd
    split at h
    · rename_i e hk
      split at h
      · rename_i de b
        split at h
        · rename_i zs k n k' m hx hy
          replace h:=kas h;obtain ⟨f,h⟩:=h;simp only [qo,decide_eq_true_eq] at f;obtain ⟨b1,b1',b2,b3,b4,b5,b6⟩:=f;simp only [qc,qq] at h;obtain ⟨rfl,rfl⟩:=h;exact e_mkE i g hd hk b (qn b1) (qi b1') rfl (fun v hv=>qp.1 b2 v hv) hx hy b3 b4 b5 b6 a
        · cases h
      · cases h
    · cases h
  · cases h
theorem kah4 (a:TOk P T) {mu:Bool} {n:Nat} {parts:Array (Nat×Operand)} {dl:Dl} (b:st.ids.contains id=false) (i:o.op = .buildSlice t n parts) (h:litE T st.eval (kaa st.heap) mu t n id parts=some (c,dl)):StepA P o st c (klz st id dl) (dIds st id dl):=by
  unfold litE at h;split at h
  · rename_i c' hc
    simp only [qc,qq] at h;obtain ⟨rfl,rfl⟩:=h;cases mu with
    | true=>cases hc
    | false=>exact (k9b a i hc).step
  · split at h
    · rename_i d hd
      split at h
      · rename_i e hk
        split at h
        · rename_i de f
          split at h
          · rename_i ys g
            replace h:=kas h;obtain ⟨j,h⟩:=h;simp only [qo] at j;obtain ⟨b1,b2,b3⟩:=j;simp only [qc,qq] at h;obtain ⟨rfl,rfl⟩:=h;exact kakj i (a.get hd) hk (a.get f) (qn b2) (qi b1) (qn b3) g b
          · cases h
        · cases h
      · cases h
    · cases h
theorem kait (e:TOk P T) {x y v:Operand} {dl:Dl} (f:o.op = .mapUpdate t x y v) (h:mpuE T st.eval (kaa st.heap) t x y v=some (c,dl)):StepA P o st c (klz st id dl) (dIds st id dl):=by
  unfold mpuE at h;split at h
  · rename_i d i k hd hx hy
    split at h
    · rename_i kt et hk
      split at h
      · rename_i kd kv a b
        replace h:=kas h;obtain ⟨g,h⟩:=h;split at h
        · rename_i kv' hp
          simp only [qc,qq] at h;obtain ⟨rfl,rfl⟩:=h;exact k64 f e hd hk a hx b hy g hp
        · cases h
      · cases h
    · cases h
  · cases h
theorem kahi (e:TOk P T) {x:Operand} {dl:Dl} (a:st.ids.contains id=false) (f:o.op = .range t x) (h:rngE T st.eval (kaa st.heap) t id x=some (c,dl)):StepA P o st c (klz st id dl) (dIds st id dl):=by
  unfold rngE at h;split at h
  · rename_i d m hd hx
    split at h
    · rename_i kt et kv hk b
      simp only [qc,qq] at h;obtain ⟨rfl,rfl⟩:=h;exact kad6 f (e.get hd) hk hx b a
    · cases h
  · cases h
theorem kaib {x:Operand} {dl:Dl} (e:o.op = .next x false) (h:nxtE st.eval (kaa st.heap) x=some (c,dl)):StepA P o st c (klz st id dl) (dIds st id dl):=by
  unfold nxtE at h;split at h
  · rename_i i hx
    split at h
    · rename_i m since seen stepped a
      split at h
      · rename_i kv b
        replace h:=kas h;obtain ⟨d,h⟩:=h;simp only [qo] at d;obtain ⟨b1,b2⟩:=d;rw [qi b1] at a;split at h
        · rename_i hl
          simp only [qc,qq] at h;obtain ⟨rfl,rfl⟩:=h;exact (kadh e hx a b (qn b2) hl).step
        · rename_i j hl
          split at h
          · rename_i p hp
            replace h:=kas h;obtain ⟨d,h⟩:=h;simp only [qc,qq] at h;obtain ⟨rfl,rfl⟩:=h;exact kaia e hx a b (qn b2) hl hp d
          · cases h
        · cases h
      · cases h
    · cases h
  · cases h
theorem k7j (i:TOk P T) {x y:Operand} {e:TypeId} {de:TD} {n:Nat} {ys:List AV} {dl:Dl} (a:st.ids.contains id=false) (j:o.op = .call { callee := .builtin .append,args:=#[x,y],argTypes:=#[t,tx] }) (hd:kae T t=some d) (hk:d.kind = .slice e) (b:kae T e=some de)
    (l:0<de.size) (f:de.zero.length=de.size) (hy:srcE T de.size st tx (st.eval y)=some (n,ys)) (h:appE.grow st.eval (kaa st.heap) id x e de n ys=some (c,dl)):StepA P o st c (klz st id dl) (dIds st id dl):=by
  unfold appE.grow at h;split at h
  · rename_i m k xs hx
    replace h:=kas h;obtain ⟨g,h⟩:=h;simp only [qo] at g;simp only [qc,qq] at h;obtain ⟨rfl,rfl⟩:=h;exact kaco j i hd hk b l f hx hy (by simpa [Nat.blt_eq] using g.1) (qn g.2) a
  · cases h
theorem kai8 (l:TOk P T) {x y:Operand} {dl:Dl} (p:st.ids.contains id=false) (q:o.op = .call { callee := .builtin .append,args:=#[x,y],argTypes:=#[t,tx] }) (h:appE T st.eval (kaa st.heap) t tx id x y=some (c,dl)):StepA P o st c (klz st id dl) (dIds st id dl):=by
  unfold appE at h;split at h
  · rename_i d hd
    split at h
    · rename_i e hk
      split at h
      · rename_i de b
        split at h
        · rename_i ys0 hy
          split at h
          · rename_i r hr
            obtain ⟨m,cc,xs⟩:=r;simp only [qc,qq] at h;obtain ⟨rfl,rfl⟩:=h;exact (kakm q l hd hk b hr hy).step
          · cases h
        · rename_i n ys _ hy
          replace h:=kas h;obtain ⟨s,h⟩:=h;simp only [qo] at s;have u:=qn s.1;have j:=qi s.2;split at h
          · rename_i i g off m hx
            split at h
            · rename_i g' e' sz cells f
              replace h:=kas h;obtain ⟨a,h⟩:=h;simp only [qo] at a;obtain ⟨b1,b2,b3,b4,b5,b6⟩:=a;obtain rfl:=qi b1;obtain rfl:=qi b2;obtain rfl:=qi b3;obtain rfl:=qi b4;simp only [qc,qq] at h;obtain ⟨rfl,rfl⟩:=h;exact kaiu q l hd hk b j hx f (qi b5) hy (qn b6)
            · cases h
          · rename_i i g off m k hx
            cases hr:Nat.ble (m+n) k with
            | true=>
              rw [hr] at h;simp only [qe] at h;split at h
              · rename_i g' cells f
                replace h:=kas h;obtain ⟨a,h⟩:=h;simp only [qo] at a;obtain rfl:=qi a.1;obtain ⟨rfl,e2,e3⟩:=k2v id f h;rw [e2,e3];exact kabw q l hd hk b hx f hy (qn hr) (qn a.2)
              · cases h
            | false=>
              rw [hr] at h;exact k7j l p q hd hk b u j hy h
          · exact k7j l p q hd hk b u j hy h
        · cases h
      · cases h
    · cases h
  · cases h
theorem kag1 (j:TOk P T) {x y:Operand} {dl:Dl} (k:o.op = .call { callee := .builtin .copy,args:=#[x,y],argTypes:=#[t,tx] }) (h:cpyE T st.eval (kaa st.heap) t x y=some (c,dl)):StepA P o st c (klz st id dl) (dIds st id dl):=by
  unfold cpyE at h;split at h
  · rename_i d hd
    split at h
    · rename_i e hk
      split at h
      · rename_i de b
        split at h
        · rename_i i g off len cap n c2 ys hx hy
          split at h
          · rename_i g' cells a
            replace h:=kas h;obtain ⟨f,h⟩:=h;simp only [qo] at f;obtain rfl:=qi f.1;obtain ⟨rfl,e2,e3⟩:=k2v id a h;rw [e2,e3];exact kahr k j hd hk b hx a hy (qn f.2)
          · cases h
        · cases h
      · cases h
    · cases h
  · cases h
theorem sE_ok (f:TOk P T) (j:ZOk P Z) {mu:Bool} {dl:Dl} (b:st.ids.contains id=false) (h:sE T Z st.eval (kaa st.heap) mu id o=some (c,dl)):StepA P o st c (klz st id dl) (dIds st id dl):=by
  unfold sE at h;split at h
  · rename_i e x a
    replace h:=kas h;obtain ⟨k,h⟩:=h;simp only [qc,qq] at h;obtain ⟨rfl,rfl⟩:=h;exact kagd a rfl k b
  · rename_i e a
    split at h
    · rename_i d hd
      split at h
      · rename_i cells l
        simp only [qc,qq] at h;obtain ⟨rfl,rfl⟩:=h;exact k2l a (f.get hd) l b
      · cases h
    · cases h
  · rename_i a;exact kag7 f a h
  · rename_i a;exact kah5 f b a h
  · rename_i a;exact kah4 f b a h
  · rename_i a
    simp only [qc,qq] at h;obtain ⟨rfl,rfl⟩:=h;exact kaaq a b
  · rename_i a;exact kait f a h
  · rename_i a;exact kahi f b a h
  · rename_i a;exact kaib a h
  · rename_i cl a
    obtain ⟨callee,args,tys⟩:=cl;simp only at h;split at h
    · rename_i x y t tx g i
      have e1:args=#[x,y]:=(by apply qbj;simpa using g);have e2:tys=#[t,tx]:=(by apply qbj;simpa using i);rw [e1,e2] at a;exact kai8 f b a h
    · rename_i x y t tx g i
      have e1:args=#[x,y]:=(by apply qbj;simpa using g);have e2:tys=#[t,tx]:=(by apply qbj;simpa using i);rw [e1,e2] at a;exact kag1 f a h
    · exact kage h f j
  · exact kage h f j
def Hist (st st':St) (ψ ψ':Env) (S S':Nat->Prop) (w w':World):Prop:=Ext (·∈st.ids) ψ ψ'/\(∀ i,i∈st.ids->i∈st'.ids)/\(∀ b,S b->S' b)/\Same S w w'
def PX (F S0:Nat->Prop) (N0:Nat) (ψ:Env) (S:Nat->Prop) (w:World) (st:St) (e0:Exit) (st':St) (e:Exit) (a':Act) (w':World):Prop:=
  e=e0/\∃ ψ' S',Sim F S0 N0 st' ψ' S' a' w'/\Fr F w w'/\Hist st st' ψ ψ' S S' w w'
def XW (P:Program) (c:Code) (st:St) (e:Exit) (st':St):Prop:=
  ∀ F S0 N0 ψ S a w,Sim F S0 N0 st ψ S a w->Cwp P c (PX F S0 N0 ψ S w st e st') a w
def XR (P:Program) (c:Code) (st:St) (e:Exit) (st':St):Prop:=
  ∃ n,∀ F S0 N0 ψ S a w,Sim F S0 N0 st ψ S a w->kku P c (PX F S0 N0 ψ S w st e st') n a w
def XWL (P:Program) (ops:Array Oper) (l:List Oper) (st st':St):Prop:=
  ∀ F S0 N0 ψ S a w,Sim F S0 N0 st ψ S a w->kbt P ops (PX F S0 N0 ψ S w st .normal st') l a w
def okX:Exit->Bool
  | .normal=>true
  | .ret=>true
  | .exit _=>true
  | _=>false
def XC (P:Program) (c:Code) (st:St) (e:Exit) (st':St):Prop:=match c with
  | .loop x=>XR P x st e st'
  | c=>XW P c st e st'
def LG (s s1:XS):Prop:=s.k<=s1.k/\∃ new,s1.lg=new++s.lg/\∀ id,id∉new->∀ ob,kaa s.heap id=some ob->kaa s1.heap id=some ob
variable {w0:World} {a':Act} {st' st1 st2:St} {s s1 s2:XS} {e:Exit}
theorem kahy {l:List (Nat×AV)} {t:Nat}:getQ l t=look .any l t:=by
  induction l with
  | nil=>rfl
  | cons p l ih=>
    obtain ⟨k,v⟩:=p;rw [kbd,<- ih];have hs:getQ ((k,v)::l) t=Bool.rec (motive:=fun _=>AV) (getQ l t) v (Nat.beq k t):=rfl;rw [hs];by_cases h:k=t
    · subst h;simp
    · rw [ql h,Nat.beq_eq_false h]
theorem k8h {l:List (Nat×AObj)} {t:Nat}:getO l t=kaa l t:=by
  induction l with
  | nil=>rfl
  | cons p l ih=>
    obtain ⟨k,v⟩:=p;rw [kac,<- ih];have hs:getO ((k,v)::l) t=Bool.rec (motive:=fun _=>Option AObj) (getO l t) (some v) (Nat.beq k t):=rfl;rw [hs];by_cases h:k=t
    · subst h;simp
    · rw [ql h,Nat.beq_eq_false h]
theorem kq3 {l:List (Nat×AV)} {t j:Nat} {v:AV}:look .any (knb l t v) j=if t=j then v else look .any l j:=by
  induction l with
  | nil=>exact kbd
  | cons p l ih=>
    obtain ⟨k,u⟩:=p;have hs:knb ((k,u)::l) t v=Bool.rec ((k,u)::knb l t v) ((t,v)::l) (Nat.beq k t):=rfl;rw [hs,kbd];by_cases h:k=t
    · subst h
      simp only [Nat.beq_refl];rw [kbd];by_cases a:k=j
      · rw [qs a,qs a]
      · rw [ql a,ql a,ql a]
    · rw [Nat.beq_eq_false h]
      simp only;rw [kbd,ih];by_cases a:k=j
      · rw [qs a,qs a,ql (fun e=>h (a.trans e.symm))]
      · rw [ql a,ql a]
theorem kzb {l:List (Nat×AObj)} {t j:Nat} {v:AObj}:kaa (kyo l t v) j=if t=j then some v else kaa l j:=by
  induction l with
  | nil=>exact kac
  | cons p l ih=>
    obtain ⟨k,u⟩:=p;have hs:kyo ((k,u)::l) t v=Bool.rec ((k,u)::kyo l t v) ((t,v)::l) (Nat.beq k t):=rfl;rw [hs,kac];by_cases h:k=t
    · subst h
      simp only [Nat.beq_refl];rw [kac];by_cases a:k=j
      · rw [qs a,qs a]
      · rw [ql a,ql a,ql a]
    · rw [Nat.beq_eq_false h]
      simp only;rw [kac,ih];by_cases a:k=j
      · rw [qs a,qs a,ql (fun e=>h (a.trans e.symm))]
      · rw [ql a,ql a]
theorem E_eq (D:List Deferred):s.E=(s.st D).eval:=by
  funext x;cases x with
  | tmp t=>exact kahy
  | _=>rfl
theorem H_eq (D:List Deferred):s.H=kaa (s.st D).heap:=by funext i;exact k8h
theorem mem_idsN {i k:Nat}:i∈idsN k↔i<k:=by
  induction k with
  | zero=>simp [idsN]
  | succ k ih=>
    simp only [idsN,qab,ih];omega
theorem kaao {k:Nat}:(idsN k).contains k=false:=by
  cases h:(idsN k).contains k with
  | false=>rfl
  | true=>
    have:k∈idsN k:=(by simpa using h);have:=mem_idsN.1 this;omega
theorem Core.congr {h1 d:List (Nat×AObj)} {ids:List Nat} (h:Core F S0 N0 h1 ids ψ S w) (e:∀ id,kaa d id=kaa h1 id):Core F S0 N0 d ids ψ S w:=
  ⟨fun id o a=>h.obj id o ((e id) ▸ a),fun i i' o o' b a c=>h.inj i i' o o' b ((e i) ▸ a) ((e i') ▸ c),h.lt,h.s0,h.n0,h.fr⟩
theorem Sim.congr (h:Sim F S0 N0 st ψ S a w) (hn:st'.n=st.n) (b:∀ t,st'.get t=st.get t) (c:∀ id,kaa st'.heap id=kaa st.heap id) (hi:st'.ids=st.ids) (hd:st'.dfr=st.dfr):Sim F S0 N0 st' ψ S a w:=
  ⟨h.defers.trans hd.symm,by rw [hn];exact h.size,fun t=>by rw [b,hi];exact h.tmps t,by rw [hi];exact h.core.congr c⟩
theorem Hist.refl:Hist st st ψ ψ S S w w:=⟨Ext.refl,fun _ h=>h,fun _ h=>h,fun _ _ _=>rfl⟩
theorem Hist.trans {ψ2:Env} {S2:Nat->Prop} {w2:World} (h:Hist st st1 ψ ψ' S S' w w') (k:Hist st1 st2 ψ' ψ2 S' S2 w' w2):Hist st st2 ψ ψ2 S S2 w w2:=
  ⟨h.1.trans' k.1 h.2.1,fun i hi=>k.2.1 i (h.2.1 i hi),fun b a=>k.2.2.1 b (h.2.2.1 b a),h.2.2.2.trans' k.2.2.2 h.2.2.1⟩
theorem PX.pre {w2:World} {e':Exit} (a:Fr F w w') (b:Hist st st1 ψ ψ' S S' w w') (k:PX F S0 N0 ψ' S' w' st1 e st2 e' a' w2):PX F S0 N0 ψ S w st e st2 e' a' w2:=by obtain ⟨rfl,ψ2,S2,h1,c,d⟩:=k;exact ⟨rfl,ψ2,S2,h1,a.trans c,b.trans d⟩
theorem kahj:XW P .skip st .normal st:=fun F S0 N0 ψ S a w hs=>k8w ⟨rfl,ψ,S,hs,Fr.refl,Hist.refl⟩
theorem kah9 {i:Nat}:XW P (.exit i) st (.exit i) st:=fun F S0 N0 ψ S a w hs=>k9j ⟨rfl,ψ,S,hs,Fr.refl,Hist.refl⟩
theorem kajk:XW P .ret st .ret st:=fun F S0 N0 ψ S a w hs=>kacr ⟨rfl,ψ,S,hs,Fr.refl,Hist.refl⟩
theorem kaj7 {x y:Code} (h:XW P x st .normal st1) (k:XW P y st1 e st2):XW P (.seq x y) st e st2:=fun F S0 N0 ψ S a w hs=>
  kxo (kcr (h F S0 N0 ψ S a w hs) fun e' a' w' ⟨b,ψ',S',h1,c,d⟩=>by subst b;exact kcr (k F S0 N0 ψ' S' a' w' h1) fun e2 a2 w2 q=>q.pre c d)
theorem kahg {x y:Code} (h:XW P x st e st1) (hn:e ≠ .normal):XW P (.seq x y) st e st1:=fun F S0 N0 ψ S a w hs=>
  kxo (kcr (h F S0 N0 ψ S a w hs) fun e' a' w' q=>by have:=q.1;subst this;cases e' <;> first | exact absurd rfl hn | exact q)
theorem kai3 {cc:Operand} {x y:Code} {b:Bool} (hc:st.eval cc = .fz (.atom (.bool b))) (h:XW P (bif b then x else y) st e st1):XW P (.cond cc x y) st e st1:=fun F S0 N0 ψ S a w hs=>by have c:=hs.eval cc;rw [hc] at c;refine k81 b c.atom ?_;cases b <;> exact h F S0 N0 ψ S a w hs
theorem kaez {i:Nat} {x:Code} (h:XW P x st (.exit i) st1):XW P (.block i x) st .normal st1:=fun F S0 N0 ψ S a w hs=>
  kz2 (kcr (h F S0 N0 ψ S a w hs) fun e' a' w' q=>by have:=q.1;subst this;simp only [Exit.inBlock,if_true];exact ⟨rfl,q.2⟩)
theorem k4b {i:Nat} {x:Code} (h:XW P x st e st1) (hn:e ≠ .exit i):XW P (.block i x) st e st1:=fun F S0 N0 ψ S a w hs=>
  kz2 (kcr (h F S0 N0 ψ S a w hs) fun e' a' w' q=>by
    have:=q.1;subst this;cases e' <;> simp only [Exit.inBlock] <;> try exact q
    rename_i j;rw [ql (fun h=>hn (by rw [h]))];exact q)
theorem xr_go {x:Code} (h:XW P x st .normal st1) (k:XR P x st1 e st2):XR P x st e st2:=by
  obtain ⟨n,k⟩:=k;refine ⟨n+1,fun F S0 N0 ψ S a w hs=>?_⟩;rw [kmt];refine kcr (h F S0 N0 ψ S a w hs) fun e' a' w' ⟨b,ψ',S',h1,c,d⟩=>?_;subst b;have mono:∀ (n:Nat) (a:Act) (w2:World),kku P x (PX F S0 N0 ψ' S' w' st1 e st2) n a w2->kku P x (PX F S0 N0 ψ S w st e st2) n a w2:=by
    intro n
    induction n with
    | zero=>intro a w2 h;exact h.elim
    | succ n ih=>
      intro a w2 h;rw [kmt] at h ⊢;refine kcr h fun e3 a3 w3 q=>?_;cases e3 with
      | normal=>exact ih _ _ q
      | _=>exact PX.pre c d q
  exact mono n a' w' (k F S0 N0 ψ' S' a' w' h1)
theorem kakp {x:Code} (h:XW P x st e st1) (hn:e ≠ .normal):XR P x st e st1:=by refine ⟨1,fun F S0 N0 ψ S a w hs=>?_⟩;rw [kmt];refine kcr (h F S0 N0 ψ S a w hs) fun e' a' w' q=>?_;have:=q.1;subst this;cases e' <;> first | exact absurd rfl hn | exact q
theorem kaij {x:Code} (h:XR P x st e st1):XW P (.loop x) st e st1:=by obtain ⟨n,h⟩:=h;exact fun F S0 N0 ψ S a w hs=>kpe n (h F S0 N0 ψ S a w hs)
theorem kafy {x:Code} (h:XW P x st e st1) (b:okX e=true):XW P (.scope x) st e st1:=fun F S0 N0 ψ S a w hs=>
  wp_wide.2 (wp_scope_straight (wp_wide.1 (kcr (h F S0 N0 ψ S a w hs) fun e' a' w' q=>by have:=q.1;subst this;cases e' <;> first | exact q | cases b)))
theorem XC.xw {x:Code} (h:XC P x st e st1):XW P x st e st1:=by
  unfold XC at h;split at h
  · exact kaij h
  · exact h
theorem kadb {i:Nat} {ops:Array Oper} (h:XWL P ops ops.toList st st1):XW P (.region i ops false) st .normal st1:=fun F S0 N0 ψ S a w hs=>kpo (h F S0 N0 ψ S a w hs)
theorem kajn {ops:Array Oper}:XWL P ops [] st st:=fun F S0 N0 ψ S a w hs=>⟨rfl,ψ,S,hs,Fr.refl,Hist.refl⟩
theorem kah1 {ops:Array Oper} {l:List Oper} {b:List (Nat×AObj)} {ids':List Nat} (h:StepA P o st c b ids') (s:kb7 ops st o=some true) (hd:∀ t,o.dst=some t->t<st.n)
    (hn:st2.n=st.n) (d:∀ t,st2.get t=(({ st with heap:=b,ids:=ids' }:St).put o.dst c).get t) (u:st2.heap=b) (hi:st2.ids=ids') (f:st2.dfr=st.dfr) (k:XWL P ops l st2 st1):XWL P ops (o::l) st st1:=fun F S0 N0 ψ S a w hs=>by
  unfold kbt;rw [kfx hs s];refine (kmy ?_ (h F S0 N0 ψ S a w hs));rintro v w' ⟨ψ',S',h1,x,y,j,m,p,r⟩;have hp:=hs.put (st':={ st with heap:=b,ids:=ids' }) rfl rfl rfl h1 x j m p r hd;have e1:(({ st with heap:=b,ids:=ids' }:St).put o.dst c).n=st.n/\(({ st with heap:=b,ids:=ids' }:St).put o.dst c).heap=b/\(({ st with heap:=b,ids:=ids' }:St).put o.dst c).ids=ids'/\(({ st with heap:=b,ids:=ids' }:St).put o.dst c).dfr=st.dfr:=by cases o.dst <;> exact ⟨rfl,rfl,rfl,rfl⟩
  have g:Sim F S0 N0 st2 ψ' S' (a.put o.dst v) w':=hp.congr (hn.trans e1.1.symm) d (fun i=>by rw [u,e1.2.1]) (by rw [hi,e1.2.2.1]) (by rw [f,e1.2.2.2]);exact ke4 (fun e a' w'' q=>q.pre y ⟨j,by rw [hi];exact m,p,r⟩) _ _ _ (k F S0 N0 ψ' S' _ w' g)
theorem kaip {ops:Array Oper} {l:List Oper} (f:kb7 ops st o=some false) (hd:∀ t,o.dst=some t->t<st.n) (hn:st2.n=st.n) (b:∀ t,st2.get t=(st.put o.dst (.fz (.tup []))).get t) (g:st2.heap=st.heap) (hi:st2.ids=st.ids) (c:st2.dfr=st.dfr) (k:XWL P ops l st2 st1):XWL P ops (o::l) st st1:=fun F S0 N0 ψ S a w hs=>by
  unfold kbt;rw [kfx hs f];have hp:=hs.put (st':=st) rfl rfl rfl hs.core (.fz RF.undef) Ext.refl (fun _ h=>h) (fun _ h=>h) (fun _ _ _=>rfl) hd;have e1:(st.put o.dst (.fz (.tup []))).n=st.n/\(st.put o.dst (.fz (.tup []))).heap=st.heap/\(st.put o.dst (.fz (.tup []))).ids=st.ids/\(st.put o.dst (.fz (.tup []))).dfr=st.dfr:=by cases o.dst <;> exact ⟨rfl,rfl,rfl,rfl⟩
  have d:Sim F S0 N0 st2 ψ S (a.put o.dst undef) w:=hp.congr (hn.trans e1.1.symm) b (fun i=>by rw [g,e1.2.1]) (by rw [hi,e1.2.2.1]) (by rw [c,e1.2.2.2]);exact ke4 (fun e a' w'' q=>q.pre Fr.refl ⟨Ext.refl,fun i h=>by rw [hi];exact h,fun _ h=>h,fun _ _ _=>rfl⟩) _ _ _ (k F S0 N0 ψ S _ w d)
theorem LG.refl:LG s s:=⟨qw _,[],rfl,fun _ _ _ h=>h⟩
theorem LG.trans (h:LG s s1) (k:LG s1 s2):LG s s2:=by obtain ⟨m1,n1,e1,h1⟩:=h;obtain ⟨m2,n2,e2,b⟩:=k;refine ⟨qa1 m1 m2,n2++n1,by rw [e2,e1,qaq],fun id a ob c=>?_⟩;simp only [qa7,not_or] at a;exact b id a.1 ob (h1 id a.2 ob c)
theorem k2s {D:List Deferred} {s:XS} {dd:Option Nat} {v:AV} (h:List (Nat×AObj)) (ids:List Nat) (t:Nat) (hs:s1.tmps=s.tmps):((s1.put dd v).st D).get t=(({ s.st D with heap:=h,ids:=ids }:St).put dd v).get t:=by
  cases dd with
  | none=>show look .any s1.tmps t=look .any s.tmps t;rw [hs]
  | some d=>
    show look .any (knb s1.tmps d v) t=look .any ((d,v)::s.tmps) t;rw [kq3,kbd,hs]
theorem ku4 (s:XS) (dd:Option Nat) (v:AV):(s.put dd v).n=s.n/\(s.put dd v).heap=s.heap/\(s.put dd v).k=s.k/\(s.put dd v).lg=s.lg:=by cases dd <;> exact ⟨rfl,rfl,rfl,rfl⟩
theorem LG.put {dd:Option Nat} {v:AV} (h:LG (s1.put dd v) s2):LG s1 s2:=by obtain ⟨_,e1,e3,e2⟩:=ku4 s1 dd v;obtain ⟨h0,new,h1,a⟩:=h;rw [e2] at h1;rw [e1] at a;rw [e3] at h0;exact ⟨h0,new,h1,a⟩
def kab8 (P:Program) (o:Oper) (s:XS) (c:AV) (s1:XS):Prop:=(∀ D,StepA P o (s.st D) c s1.heap (idsN s1.k))/\s1.n=s.n/\s1.tmps=s.tmps/\LG s s1
theorem kakq {dl:Dl} (h:∀ D,StepA P o (s.st D) c (klz (s.st D) s.k dl) (dIds (s.st D) s.k dl)):kab8 P o s c (s.app dl):=by
  cases dl with
  | no=>exact ⟨h,rfl,rfl,LG.refl⟩
  | new ob=>
    refine ⟨h,rfl,rfl,Nat.le_succ _,[s.k],rfl,fun id b ob' d=>?_⟩;show kaa ((s.k,ob)::s.heap) id=_;rw [kac,ql (fun e=>b (by rw [e];exact qbh.2 rfl))];exact d
  | upd i ob=>
    refine ⟨fun D F S0 N0 ψ S a w hs=>kn3 (fun v w' ⟨ψ',S',h1,f⟩=>⟨ψ',S',h1.congr fun id=>?_,f⟩) (h D F S0 N0 ψ S a w hs),rfl,rfl,qw _,[i],rfl,fun id b ob' d=>?_⟩
    · show kaa (kyo s.heap i ob) id=_
      rw [kzb,ql (fun e=>b (by rw [e];exact qbh.2 rfl))];exact d
    · show kaa (kyo s.heap i ob) id=kaa ((i,ob)::s.heap) id
      rw [kzb,kac]
def FT.ok (P:Program):FT->Prop
  | .lf=>True
  | .nd k v l r => (P.funcs[k]? = some v /\ (v.name == "runtime.NumGoroutine") = false) /\ FT.ok P l /\ FT.ok P r
def FT.fl:FT->List (Nat×Func)
  | .lf=>[]
  | .nd k v l r=>(k,v)::(FT.fl l++FT.fl r)
theorem FT.ok_of {P : Program} : ∀ {t : FT}, (FT.fl t).map (fun p => (P.funcs[p.1]?, p.2.name == "runtime.NumGoroutine")) = (FT.fl t).map (fun p => (some p.2, false)) -> FT.ok P t
  | .lf,_=>trivial
  | .nd k v l r,h=>by simp only [FT.fl,qa8,List.map_append,List.cons.injEq,qq] at h;obtain ⟨h1,b⟩:=h;have a:=List.append_inj b (by simp);exact ⟨h1,FT.ok_of a.1,FT.ok_of a.2⟩
def IbOk (P : Program) (f : Nat) : Prop := ∃ fn, P.funcs[f]? = some fn /\ (fn.name == "runtime.NumGoroutine") = false /\ fn.body.isNone = true /\ Extern.findNext fn = none /\ Extern.find fn = some Extern.BytealgIndexByte.indexByte
structure CxOk (P:Program) (C:Cx):Prop where
  T:TOk P C.T
  Z:ZOk P C.Z
  fn:C.fn.ok P
  fx:∀ p∈C.fx,PCall P p.1 p.2.1 p.2.2
  ib:∀ f∈C.ib,IbOk P f
  mixed:P.follows .mixedOrders=true
def EvOk (P:Program) (ih:EvT):Prop:=∀ mu c s e s1,ih mu c s=some (e,s1)->(∀ D,XC P c (s.st D) e (s1.st D))/\okX e=true/\LG s s1/\s1.n=s.n
variable {C:Cx} {ih:EvT}
theorem FT.get_ok {v : Func} {f : Nat} : ∀ {tr : FT}, tr.ok P -> tr.get f = some v -> P.funcs[f]? = some v /\ (v.name == "runtime.NumGoroutine") = false
  | .lf,_,h=>by cases h
  | .nd k u l r,b,h=>by
    obtain ⟨h0,hl,hr⟩:=b;have hs:(FT.nd k u l r).get f=Bool.rec (motive:=fun _=>Option Func) (Bool.rec (motive:=fun _=>Option Func) (r.get f) (l.get f) (Nat.blt f k)) (some u) (Nat.beq k f):=rfl;rw [hs] at h;cases hk:Nat.beq k f with
    | true=>
      rw [hk] at h;injection h with h;rw [<- qi hk,<- h];exact h0
    | false=>
      rw [hk] at h;simp only at h;cases a:Nat.blt f k with
      | true=>rw [a] at h;exact FT.get_ok hl h
      | false=>rw [a] at h;exact FT.get_ok hr h
theorem k6a (c:TOk P T) (hs:Sim F S0 N0 st ψ S a w):∀ {rs:List ResultVar} {ys:List AV},kyr T st.eval (kaa st.heap) rs=some ys ->
    ∃ vs:List Value,(rs.mapM (kiu a.tmps)).run P w = .ok vs w/\vs.length=ys.length/\∀ (i:Nat) (v:Value) (y:AV),vs[i]?=some v->ys[i]?=some y->RV ψ (·∈st.ids) S w v y
  | [],ys,h=>by simp only [kyr,qc] at h;subst h;exact ⟨[],by simp,rfl,fun i v y h=>by simp at h⟩
  | r::rs,ys,h=>by
    simp only [kyr] at h;split at h
    · rename_i y ys' h1 e
      injection h with h;subst h;obtain ⟨vs,k1,k2,k3⟩:=k6a c hs e;have key:∃ v,(kiu a.tmps r).run P w = .ok v w/\RV ψ (·∈st.ids) S w v y:=by
        unfold resE at h1;split at h1
        · rename_i t
          injection h1 with h1;subst h1;exact ⟨_,rfl,hs.tmps t⟩
        · rename_i x t
          split at h1
          · rename_i d xs hd hx
            obtain ⟨b,off,e1,hcl⟩:=k3i (hs.tmps x) (fun id o f=>(hs.core.obj id o f).2.1) hx;obtain ⟨u,e2,e3⟩:=k18 (P:=P) (c.get hd) hcl h1;refine ⟨u,?_,e3⟩;simp only [kiu,e1,asAddr,Sem.run_bind,Sem.run_pure,Result.andThen_ok,e2]
          · cases h1
      obtain ⟨v,e1,e2⟩:=key;refine ⟨v::vs,?_,by simp [k2],fun i v' y' hv hy=>?_⟩
      · rw [List.mapM_cons]
        simp only [Sem.run_bind,e1,Result.andThen_ok,k1,Sem.run_pure]
      · cases i with
        | zero=>simp at hv hy;subst hv hy;exact e2
        | succ i=>exact k3 i v' y' (by simpa using hv) (by simpa using hy)
    · cases h
theorem k9g (d:TOk P T) (hs:Sim F S0 N0 st ψ S a w) {fn:Func} {y:AV} (h:retE T st.eval (kaa st.heap) fn.results.toList=some y):∃ v,(results fn a.tmps).run P w = .ok v w/\RV ψ (·∈st.ids) S w v y:=by
  unfold retE at h;have key:∀ ys,kyr T st.eval (kaa st.heap) fn.results.toList=some ys->∃ vs:List Value,(results fn a.tmps).run P w = .ok (if h:vs.length=1 then vs[0] else .tuple vs.toArray) w/\vs.length=ys.length/\∀ (i:Nat) (v:Value) (y:AV),vs[i]?=some v->ys[i]?=some y->RV ψ (·∈st.ids) S w v y:=fun ys hy=>by obtain ⟨vs,k1,k2,k3⟩:=k6a d hs hy;refine ⟨vs,?_,k2,k3⟩;unfold results;rw [Array.mapM_eq_mapM_toList];have b:∀ (g:ResultVar->Sem Value),(∀ x,g x=kiu a.tmps x)->(fn.results.toList.mapM g).run P w = .ok vs w:=fun g b=>(by rw [show g=kiu a.tmps from funext b];exact k1);simp only [Sem.run_bind,Sem.run_map];rw [b _ fun x=>by cases x <;> rfl];simp only [Result.andThen_ok,Sem.run_pure];simp
  split at h
  · rename_i z e
    injection h with h;subst h;obtain ⟨vs,k1,k2,k3⟩:=key _ e;have hl:vs.length=1:=(by simpa using k2);rw [dif_pos hl] at k1;exact ⟨_,k1,k3 0 _ _ (qb (by omega)) rfl⟩
  · rename_i ys c hy
    injection h with h;subst h;obtain ⟨vs,k1,k2,k3⟩:=key _ hy;have hl:¬ vs.length=1:=fun hl=>(by rw [k2] at hl;obtain ⟨z,rfl⟩:=List.length_eq_one_iff.1 hl;exact c z rfl);rw [dif_neg hl] at k1;exact ⟨_,k1,RV.tupA (by simpa using k2) fun i v x hv hx=>k3 i v x (by simpa using hv) hx⟩
  · cases h
theorem krk {f : FuncId} {fst caps : Array Value} {x : Operand} {args : Array Operand} {ts : Array TypeId} (e : o.op = .call { callee := .value x, args := args, argTypes := ts }) (hx : a.eval x = .func (.func f) fst caps) (g : ∃ fn, P.funcs[f]? = some fn /\ fn.body.isNone = false /\ (fn.name == "runtime.NumGoroutine") = false) :
    (execOp a.eval o).run P w = .ok (.enter f ((fst++args.map a.eval)++caps)) w:=by
  obtain ⟨fn,h1,c,d⟩:=g;have b:fn.body≠none:=by intro h;rw [h] at c;cases c
  simp only [qam,ne_eq] at d;simp [execOp,e,resolve,hx,Deferred.ofValue,invoke,callFunc,h1,b,d]
def RVL (ψ:Env) (K S:Nat->Prop) (w:World) (vs:List Value) (xs:List AV):Prop:=vs.length=xs.length/\∀ (i:Nat) (v:Value) (x:AV),vs[i]?=some v->xs[i]?=some x->RV ψ K S w v x
theorem RVL.append {vs us:List Value} {xs ys:List AV} (h:RVL ψ K S w vs xs) (k:RVL ψ K S w us ys):RVL ψ K S w (vs++us) (xs++ys):=by
  refine ⟨by simp [h.1,k.1],fun i v x hv hx=>?_⟩;by_cases hi:i<vs.length
  · rw [qah hi] at hv
    rw [qah (by rw [<- h.1];exact hi)] at hx;exact h.2 i v x hv hx
  · rw [qao (by omega)] at hv
    rw [qao (by rw [<- h.1];omega),<- h.1] at hx;exact k.2 _ v x hv hx
theorem RVL.evals {ids:List Nat} (ht:∀ t,RV ψ (·∈ids) S w (a.tmps.getD t undef) (st.get t)) (l:List Operand):RVL ψ (·∈ids) S w (l.map a.eval) (l.map st.eval):=by refine ⟨by simp,fun i v x hv hx=>?_⟩;rw [qr,qm] at hv hx;obtain ⟨y,hy,rfl⟩:=hv;obtain ⟨z,b,rfl⟩:=hx;rw [hy] at b;injection b with b;subst b;exact Sim.eval_tmps ht y
theorem kp5 {f:Nat} {fst caps:List AV} {x:Operand} (args:Array Operand) {ids:List Nat} (ht:∀ t,RV ψ (·∈ids) S w (a.tmps.getD t undef) (st.get t)) (h:kno st.eval x=some (f,fst,caps)):
    ∃ vf vc:Array Value,a.eval x = .func (.func f) vf vc/\RVL ψ (·∈ids) S w ((vf++args.map a.eval)++vc).toList (fst++(args.toList.map st.eval++caps)):=by
  have hv:=Sim.eval_tmps ht x;have fin:∀ (vf vc:Array Value),RVL ψ (·∈ids) S w vf.toList fst->RVL ψ (·∈ids) S w vc.toList caps->RVL ψ (·∈ids) S w ((vf++args.map a.eval)++vc).toList (fst++(args.toList.map st.eval++caps)):=fun vf vc h1 b=>by have:=h1.append ((RVL.evals ht args.toList).append b);simpa [qaq] using this
  unfold kno at h;split at h
  · rename_i g cs hx
    simp only [qc,qq] at h;obtain ⟨rfl,rfl,rfl⟩:=h;rw [hx] at hv;generalize a.eval x=u at hv;cases hv with
    | @fn _ vc _ h1 b=>exact ⟨#[],vc,rfl,fin _ _ ⟨rfl,fun i v x h=>by simp at h⟩ ⟨by simpa using h1,fun i v x hv hx=>b i v x (by simpa using hv) hx⟩⟩
  · rename_i g cs hx
    simp only [qc,qq] at h;obtain ⟨rfl,rfl,rfl⟩:=h;rw [hx] at hv;generalize a.eval x=u at hv;cases hv with
    | @mth _ vf _ h1 b=>exact ⟨vf,#[],rfl,fin _ _ ⟨by simpa using h1,fun i v x hv hx=>b i v x (by simpa using hv) hx⟩ ⟨rfl,fun i v x h=>by simp at h⟩⟩
  · cases h
theorem kab3 {f:Nat} {fst caps:List AV} {x:Operand} {args:Array Operand} {ts:Array TypeId} {y:AV} {b:List (Nat×AObj)} {ids':List Nat} (l:o.op = .call { callee := .value x,args:=args,argTypes:=ts }) (hc:kno st.eval x=some (f,fst,caps))
    (h:HCall P f (fst++(args.toList.map st.eval++caps)) st.heap st.ids (.ret y) b ids'):StepA P o st y b ids':=by
  intro F S0 N0 ψ S a w hs;obtain ⟨vf,vc,hx,h1,m⟩:=kp5 args hs.tmps hc;unfold kek;rw [krk l hx h.1];refine (h.2 F S0 N0 ψ S w _ (by simpa using h1) (fun i v x hv hx=>m i v x (by rw [qas];exact hv) hx) hs.core).mono ?_;rintro e w' ⟨ψ',S',⟨v,rfl,hv⟩,c,k,g,j,hS,d⟩;exact ⟨v,rfl,ψ',S',c,hv,k,g,j,hS,d⟩
theorem kai5 {f:Nat} {fst caps:List AV} {x:Operand} {args:Array Operand} {ts:Array TypeId} {ys:List FV} {r:FV} (c:o.op = .call { callee := .value x,args:=args,argTypes:=ts }) (hc:kno st.eval x=some (f,fst,caps)) (d:koi (fst++(args.toList.map st.eval++caps))=some ys)
    (h:PCall P f ys r):NStep P o st (.fz r):=by
  intro ψ S a w ht j;obtain ⟨vf,vc,hx,h1,b⟩:=kp5 args ht hc;rw [kn6 d] at h1 b;unfold kek;rw [krk c hx h.1];refine (h.2 S w _ (by simpa using h1) fun i v x hv hx=>(b i v (.fz x) (by rw [qas];exact hv) (by rw [qr,hx];rfl)).inv).mono ?_;rintro e w' ⟨v,rfl,hv,g⟩;exact ⟨v,rfl,g, .fz hv⟩
theorem k6w {c:UInt8}:∀ {l:List UInt8} {i:Nat},ks2 c l i=if Lib.indexByte l c = -1 then -1 else Lib.indexByte l c+i
  | [],i=>by simp [ks2,Lib.indexByte]
  | x::l,i=>by
    have a:∀ l:List UInt8,-1<=Lib.indexByte l c:=fun l=>by
      induction l with
      | nil=>simp [Lib.indexByte]
      | cons y l ih=>
        simp only [Lib.indexByte];split
        · omega
        · split
          · omega
          · omega
    by_cases h:x=c
    · subst h;simp [ks2,Lib.indexByte]
    · have h1:(x == c)=false:=by simpa using h
      have b:Nat.beq x.toNat c.toNat=false:=Nat.beq_eq_false fun e=>h (UInt8.toNat_inj.1 e);have d:Lib.indexByte (x::l) c=if Lib.indexByte l c = -1 then -1 else Lib.indexByte l c+1:=by
        simp only [Lib.indexByte,h1,Bool.false_eq_true,if_false];by_cases hm:Lib.indexByte l c = -1
        · simp [hm]
        · have:(Lib.indexByte l c == -1)=false:=by simpa using hm
          simp [hm]
      rw [d];simp only [ks2,b,qd];rw [k6w];have:=a l;by_cases hm:Lib.indexByte l c = -1
      · simp [hm]
      · rw [ql hm,ql hm,ql (by omega)]
        omega
theorem ib_n {f:Nat} {fst caps:List AV} {x:Operand} {args:Array Operand} {ts:Array TypeId} {u:BA} {cc:Int} (g:o.op = .call { callee := .value x,args:=args,argTypes:=ts }) (hc:kno st.eval x=some (f,fst,caps)) (j:koi (fst++(args.toList.map st.eval++caps))=some [.atom (.string u), .atom (.int .u8 cc)])
    (h:IbOk P f):NStep P o st (.fz (.atom (.int .i64 (ks2 cc.toNat.toUInt8 u.data.toList 0)))):=by
  obtain ⟨fn,k,b,l,hn,m⟩:=h;intro ψ S a w ht r;obtain ⟨vf,vc,hx,h1,c⟩:=kp5 args ht hc;rw [kn6 j] at h1 c;obtain ⟨q,e⟩:∃ q,q=(vf++args.map a.eval)++vc:=⟨_,rfl⟩;rw [<- e] at h1 c;have d:q=#[.string u, .int .u8 cc]:=by
    have hl:q.size=2:=(by simpa using h1);apply Array.ext (by simpa using hl);intro i n p;have hi:i<2:=by omega
    match i,hi with
    | 0,_=>exact (c 0 q[0] _ (by simp [hl]) rfl).atom
    | 1,_=>exact (c 1 q[1] _ (by simp [hl]) rfl).atom
  have hi:ks2 cc.toNat.toUInt8 u.data.toList 0=Lib.indexByte u.data.toList cc.toNat.toUInt8:=by
    rw [k6w];split
    · rename_i h;exact h.symm
    · simp
  rw [hi];refine kad w (.int .i64 (Lib.indexByte u.data.toList cc.toNat.toUInt8)) ?_ ⟨kaf _, .fz (.atom rfl)⟩;have hr:(callFunc f q).run P w = .ok (.value (.int .i64 (Lib.indexByte u.data.toList cc.toNat.toUInt8))) w:=by rw [run_callFunc_extern k b l hn m,d,Lib.run_indexByteString];rfl
  rw [e] at hr;simp [execOp,g,resolve,hx,Deferred.ofValue,invoke] at hr ⊢;simpa [Array.append_assoc] using hr
theorem kafc {b x c1:Code} {rid t:Nat} {o1 o2:Oper} (h:k4z b=some (x,rid,o1,o2,t,c1)):b = .seq x (.seq (.region rid #[o1,o2] false) c1)/\o1.dst=some t/\o1.guard=none/\o2.dst=none/\o2.guard=none/\∃ ts,o2.op = .defer { callee := .value (.tmp t),args:=#[],argTypes:=ts }:=by
  unfold k4z at h;split at h
  · rename_i x' rid' os c
    split at h
    · rename_i p1 p2 a
      split at h
      · rename_i t' cl h1 f g i j
        split at h
        · rename_i t2 d e
          replace h:=kas h;obtain ⟨k,h⟩:=h;simp only [qc,qq] at h;obtain ⟨rfl,rfl,rfl,rfl,rfl,rfl⟩:=h;obtain rfl:=qi k;obtain ⟨cal,as_,ts⟩:=cl;simp only at d e;have e1:os=#[p1,p2]:=(by apply qbj;simpa using a);have e2:as_=#[]:=(by apply qbj;simpa using e);subst e1 e2 d;exact ⟨rfl,h1,f,i,j,ts,g⟩
        · cases h
      · cases h
    · cases h
  · cases h
theorem k7v (h:k45 e=true):e = .normal\/e = .ret:=by cases e <;> simp [k45] at h <;> simp
theorem kabj {args:List AV} {n:Nat} {heap:List (Nat×AObj)} {k:Nat} {lg:List Nat} {vs:Array Value} (b:args.length<=n) (hs:vs.size=args.length) (hr:∀ (i:Nat) (v:Value) (x:AV),vs[i]?=some v->args[i]?=some x->RV ψ (·∈idsN k) S w v x) (hc:Core F S0 N0 heap (idsN k) ψ S w):
    Sim F S0 N0 (XS.st ⟨n,argT 0 args,heap,k,lg⟩ []) ψ S { tmps:=vs++Array.replicate (n - vs.size) undef,defers:=[] } w:=by
  refine ⟨rfl,by show (vs++Array.replicate (n - vs.size) undef).size=n;simp;omega,fun t=>?_,hc⟩;show RV _ _ _ w _ (look .any (argT 0 args) t);rcases kld args 0 t with h | ⟨x,_,h1,c⟩
  · rw [h];exact .any
  · rw [c]
    have h1:args[t]?=some x:=(by simpa using h1);have a:t<vs.size:=(by rw [hs];exact (qj.1 h1).1);have:(vs++Array.replicate (n - vs.size) undef).getD t undef=vs[t]:=(by rw [qal,qa0 a];simp [a]);show RV _ _ _ w ((vs++Array.replicate (n - vs.size) undef).getD t undef) x;rw [this];exact hr t _ x (by simp [a]) h1
theorem kaey (O : CxOk P C) (p : EvOk P ih) {f : Nat} {fn : Func} {b x c1 : Code} {rid t : Nat} {o1 o2 : Oper} {args : List AV} {heap : List (Nat × AObj)} {k : Nat} {lg : List Nat} {y : AV} (hf : P.funcs[f]? = some fn) (q : (fn.name == "runtime.NumGoroutine") = false) (hb : fn.body = some b) (hd : k4z b = some (x, rid, o1, o2, t, c1))
    (Q:args.length<=fn.ntmps) (ht:t<fn.ntmps) (h:k95 C ih f fn x o1 t c1 ⟨fn.ntmps,argT 0 args,heap,k,lg⟩=some (y,s1)):HCall P f args heap (idsN k) (.ret y) s1.heap (idsN s1.k)/\LG ⟨fn.ntmps,argT 0 args,heap,k,lg⟩ s1:=by
  obtain ⟨rfl,d1,d2,d3,d4,ts,d5⟩:=kafc hd;unfold k95 at h;split at h
  · rename_i s2 hx
    split at h
    · rename_i f2 caps G
      split at h
      · rename_i fn2 H
        obtain ⟨U,m⟩:=FT.get_ok O.fn H;split at h
        · rename_i ta tb c2 I
          split at h
          · rename_i e s3 V
            split at h
            · rename_i e2 s4 hc2
              replace hc2:=kas hc2;obtain ⟨r,hc2⟩:=hc2;simp only [qo] at r;have J:=qn r.2;have he:=k7v r.1;split at h
              · rename_i y' hy
                replace hy:=kas hy;obtain ⟨u,hy⟩:=hy;have u:=k7v u;simp only [qc,qq] at h;obtain ⟨rfl,rfl⟩:=h;obtain ⟨x1,_,x3,x4⟩:=p _ _ _ _ _ hx;obtain ⟨y1,_,y3,y4⟩:=p _ _ _ _ _ V;obtain ⟨z1,_,z3,z4⟩:=p _ _ _ _ _ hc2;obtain ⟨pr1,pr2,pr3,pr4⟩:=ku4 s2 (some t) (AV.fn f2 caps);refine ⟨⟨⟨fn,hf,by rw [hb];rfl,q⟩,fun F S0 N0 ψ S w vs hs hr hc=>calls_of_wp_defers hf hb (wp_wide.1 ?_)⟩,?_⟩
                · refine kxo (kcr ((x1 []).xw F S0 N0 ψ S _ w (kabj Q hs hr hc)) ?_)
                  rintro e' a1 w1 ⟨rfl,ψ1,S1,q1,q2,q3⟩;refine kxo (kpo ?_);have K:NStep P o1 (s2.st []) (.fn f2 caps):=k4x O.T O.Z (by rw [E_eq [],H_eq []] at G;exact G);show kbt P #[o1,o2] _ [o1,o2] a1 w1;unfold kbt;rw [kfx (ops:=#[o1,o2]) (o:=o1) (g:=true) q1 (by unfold kb7;rw [d2])];refine (kmy ?_ (K.step F S0 N0 ψ1 S1 a1 w1 q1));rintro v w2 ⟨ψ2,S2,g1,g2,g3,g4,g5,g6,g7⟩;have hp:=q1.put (st':=s2.st []) (d:=o1.dst) rfl rfl rfl g1 g2 g4 g5 g6 g7 (fun t' j=>by rw [d1] at j;injection j with j;show t'<s2.n;rw [x4];show t'<fn.ntmps;omega);rw [d1] at hp ⊢;cases g2 with
                  | @fn _ cs _ L X=>
                    have Y:(a1.put (some t) (.func (.func f2) #[] cs)).eval (.tmp t) = .func (.func f2) #[] cs:=(by show (a1.put (some t) _).tmps.getD t undef=_;rw [ko9 (some t) fn.ntmps t (by rw [q1.size];exact x4) (by intro t' j;injection j with j;omega),qs rfl]);have M:(execOp (a1.put (some t) (.func (.func f2) #[] cs)).eval o2).run P w2 = .ok (.defer (dfn f2 cs.toList)) w2:=(by simp [execOp,d5,resolve,Y,Deferred.ofValue,dfn]);unfold kbt;rw [kfx (ops:=#[o1,o2]) (o:=o2) (g:=true) hp (by unfold kb7;rw [d4])];refine k6d M ?_;simp only [Oper.uponIn,d3];have A:Sim F S0 N0 ((s2.put (some t) (.fn f2 caps)).st [dfn f2 cs.toList]) ψ2 S2 { (a1.put (some t) (.func (.func f2) #[] cs)) with defers:=dfn f2 cs.toList::(a1.put (some t) (.func (.func f2) #[] cs)).defers } w2:=by
                      refine ⟨?_,hp.size,fun t'=>?_,hp.core⟩
                      · show dfn f2 cs.toList::a1.defers=_
                        rw [q1.defers];rfl
                      · rw [k2s (s:=s2) (D:=[dfn f2 cs.toList]) s2.heap (idsN s2.k) t' rfl]
                        exact hp.tmps t'
                    refine kcr ((y1 [dfn f2 cs.toList]).xw F S0 N0 ψ2 S2 _ w2 A) ?_;rintro e' a4 w4 ⟨rfl,ψ4,S4,r1,r2,r3⟩;have r3':Hist (s2.st []) (s3.st []) ψ2 ψ4 S2 S4 w2 w4:=r3;obtain ⟨_,_,_,_,_,_,_,_,_,_,n1,n2,_⟩:=kvs I;have l:Sim F S0 N0 (XS.st ⟨fn2.ntmps,argT 0 caps,s3.heap,s3.k,s3.lg⟩ []) ψ4 S4 { tmps:=cs.toList.toArray++Array.replicate (fn2.ntmps - cs.toList.toArray.size) undef,defers:=[] } w4:=
                      kabj J (by simpa using L) (fun i v z hv hz=>(X i v z (by simpa using hv) hz).keep r3'.1 r3'.2.1 r3'.2.2.1 r3'.2.2.2) r1.core
                    have N:=l.put (st':=XS.st ⟨fn2.ntmps,argT 0 caps,s3.heap,s3.k,s3.lg⟩ []) (d:=some ta) (v := .nilIface) (c:=nilA) rfl rfl rfl l.core (.fz (.atom rfl)) Ext.refl (fun _ h=>h) (fun _ h=>h) (fun _ _ _=>rfl) (fun t' j=>by injection j with j;show t'<fn2.ntmps;omega);have aa:=N.put (st':=(XS.st ⟨fn2.ntmps,argT 0 caps,s3.heap,s3.k,s3.lg⟩ []).put (some ta) nilA) (d:=some tb) (v := .nilIface) (c:=nilA) rfl rfl rfl N.core (.fz (.atom rfl)) Ext.refl (fun _ h=>h) (fun _ h=>h) (fun _ _ _=>rfl) (fun t' j=>by injection j with j;show t'<fn2.ntmps;omega);have B:=aa.congr (st':=XS.st ⟨fn2.ntmps,knb (knb (argT 0 caps) ta nilA) tb nilA,s3.heap,s3.k,s3.lg⟩ []) rfl (fun t'=>by show look .any (knb (knb (argT 0 caps) ta nilA) tb nilA) t'=look .any ((tb,nilA)::(ta,nilA)::argT 0 caps) t';rw [kq3,kq3,kbd,kbd]) (fun _=>rfl) rfl rfl;have fin:=kahz (w':=w4) (a:=a4) (P:=P) fn f2 cs.toList (fun e w'=>∃ ψ' S',HEnd.is e ψ' (·∈idsN s4.k) S' w' (.ret y')/\Core F S0 N0 s4.heap (idsN s4.k) ψ' S' w'/\Fr F w w'/\Ext (·∈idsN k) ψ ψ'/\(∀ i,i∈idsN k->i∈idsN s4.k)/\(∀ b,S b->S' b)/\Same S w w') r1.defers U I m (by simp [L];omega) (by refine kcr ((z1 []).xw F S0 N0 ψ4 S4 _ w4 B) ?_;rintro e5 a5 w5 ⟨rfl,ψ5,S5,u1,u2,u3⟩;have u3':Hist (s3.st []) (s4.st []) ψ4 ψ5 S4 S5 w4 w5:=u3;have hR:Sim F S0 N0 (XS.st ⟨s3.n,s3.tmps,s4.heap,s4.k,s4.lg⟩ []) ψ5 S5 ⟨a4.tmps,[]⟩ w5:=⟨rfl,r1.size,fun t'=>(r1.tmps t').keep u3'.1 u3'.2.1 u3'.2.2.1 u3'.2.2.2,u1.core⟩;have ab:s3.E=(XS.st ⟨s3.n,s3.tmps,s4.heap,s4.k,s4.lg⟩ []).eval:=(by rw [E_eq []];funext z;cases z <;> rfl);rw [ab,H_eq []] at hy;obtain ⟨v,v1,v2⟩:=k9g O.T hR hy;obtain ⟨t1,t2,t3,t4⟩:=((q3.trans (st2:=s2.st []) ⟨g4,g5,g6,g7⟩).trans r3').trans u3';exact ⟨u,u1.defers,v,v1,ψ5,S5,⟨v,rfl,v2⟩,u1.core,((q2.trans g3).trans r2).trans u2,t1,t2,t3,t4⟩);rcases he with rfl | rfl <;> exact fin
                · exact x3.trans ((LG.put y3).trans (by obtain ⟨m0,new,m1,m2⟩:=z3;exact ⟨m0,new,m1,m2⟩))
              · cases h
            · cases h
          · cases h
        · cases h
      · cases h
    · cases h
  · cases h
theorem kvh (m:CxOk P C) (g:EvOk P ih) {f:Nat} {args:List AV} {heap:List (Nat×AObj)} {k:Nat} {lg:List Nat} {y:AV} (h:kyn C ih f args heap k lg=some (y,s1)):
    HCall P f args heap (idsN k) (.ret y) s1.heap (idsN s1.k)/\k<=s1.k/\∃ new,s1.lg=new++lg/\∀ id,id∉new->∀ ob,kaa heap id=some ob->kaa s1.heap id=some ob:=by
  unfold kyn at h;split at h
  · rename_i fn n
    obtain ⟨o,c⟩:=FT.get_ok m.fn n;split at h
    · rename_i cc p
      split at h
      · rename_i x rid o1 o2 t c1 hd
        replace h:=kas h;obtain ⟨a,h⟩:=h;simp only [qo] at a;exact kaey m g o c p hd (qn a.1) (by simpa [Nat.blt_eq] using a.2) h
      have main:∀ e s2,(bif Nat.ble args.length fn.ntmps then ih (C.mu.contains f) cc ⟨fn.ntmps,argT 0 args,heap,k,lg⟩ else none)=some (e,s2)->(e = .normal\/e = .ret)->retE C.T s2.E s2.H fn.results.toList=some y->HCall P f args heap (idsN k) (.ret y) s2.heap (idsN s2.k)/\k<=s2.k/\∃ new,s2.lg=new++lg/\∀ id,id∉new->∀ ob,kaa heap id=some ob->kaa s2.heap id=some ob:=by
        intro e s2 hi s hy;replace hi:=kas hi;obtain ⟨a,hi⟩:=hi;have a:=qn a;obtain ⟨q,_,r,_⟩:=g _ _ _ _ _ hi;refine ⟨⟨⟨fn,o,by rw [p];rfl,c⟩,fun F S0 N0 ψ S w vs hs hr hc=>calls_of_wp o p ?_⟩,r⟩;have j:Sim F S0 N0 (XS.st ⟨fn.ntmps,argT 0 args,heap,k,lg⟩ []) ψ S { tmps:=vs++Array.replicate (fn.ntmps - vs.size) undef,defers:=[] } w:=by
          refine ⟨rfl,by show (vs++Array.replicate (fn.ntmps - vs.size) undef).size=fn.ntmps;simp;omega,fun t=>?_,hc⟩;show RV _ _ _ w _ (look .any (argT 0 args) t);rcases kld args 0 t with h | ⟨x,_,h1,l⟩
          · rw [h];exact .any
          · rw [l]
            have h1:args[t]?=some x:=(by simpa using h1);have d:t<vs.size:=(by rw [hs];exact (qj.1 h1).1);have:(vs++Array.replicate (fn.ntmps - vs.size) undef).getD t undef=vs[t]:=(by rw [qal,qa0 d];simp [d]);show RV _ _ _ w ((vs++Array.replicate (fn.ntmps - vs.size) undef).getD t undef) x;rw [this];exact hr t _ x (by simp [d]) h1
        refine wp_wide.1 (kcr ((q []).xw F S0 N0 ψ S _ w j) ?_);rintro e' a' w' ⟨rfl,ψ',S',l,u,z,A,B,G⟩;rw [E_eq [],H_eq []] at hy;obtain ⟨v,e1,e2⟩:=k9g m.T l hy;have fin:a'.defers=[]/\∃ v,(results fn a'.tmps).run P w' = .ok v w'/\∃ ψ'' S'',HEnd.is (.returned v) ψ'' (·∈idsN s2.k) S'' w' (.ret y)/\Core F S0 N0 s2.heap (idsN s2.k) ψ'' S'' w'/\Fr F w w'/\Ext (·∈idsN k) ψ ψ''/\(∀ i,i∈idsN k->i∈idsN s2.k)/\(∀ b,S b->S'' b)/\Same S w w':=
          ⟨l.defers,v,e1,ψ',S',⟨v,rfl,e2⟩,l.core,u,z,A,B,G⟩
        rcases s with rfl | rfl <;> exact fin
      split at h
      · rename_i e s2 hi
        split at h
        · rename_i y' hy
          simp only [qc,qq] at h;obtain ⟨rfl,rfl⟩:=h;exact main _ _ hi (.inr rfl) hy
        · rename_i y' hy
          simp only [qc,qq] at h;obtain ⟨rfl,rfl⟩:=h;exact main _ _ hi (.inl rfl) hy
        · cases h
      · cases h
    · cases h
  · cases h
end Go.Proofs.YtgebfaidgikieaaGreatDoor
